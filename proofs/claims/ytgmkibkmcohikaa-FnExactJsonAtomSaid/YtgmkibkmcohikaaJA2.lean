/- Walks. -/
import Derived.Test.YtgmkibkmcohikaaJA1
set_option linter.all false
namespace Go.R
open Go Go.Proofs
set_option linter.unusedVariables false
set_option linter.unusedSimpArgs false
set_option maxHeartbeats 8000000
/- impl.isNumber -/
def c136 : ACode :=
 (.seq (.reg (.q ⟨(some 2), none, .mov (.c (.bool false))⟩
 .done))
 (.seq (.reg (.q ⟨(some 3), none, .mov (.t 0)⟩
 (.q ⟨(some 4), none, .call 86 [(.t 3), (.c (.int .i64 (-1000000000))), (.c (.int .i64 1000000000))]⟩
 (.q ⟨(some 2), none, .mov (.t 4)⟩
 .done))))
 .ret))
theorem fc136 : fcomp Try.prog Try.f136 = some (c136.erase, [.mov (.t 2)], 5) := by kernel_rfl
def impl_isNumber (n_1 : Int) : Option Bool :=
    (impl_within n_1 (-1000000000) 1000000000).bind fun r_2 =>
    some r_2
theorem w_impl_isNumber (n_1 : Int) (r : Bool) (hf : impl_isNumber n_1 = some r) : CallOK Try.prog 136 .flat [(.int .i64 n_1)] (.bool r) := by
  refine CallOK.of_awp mixed Try.func136 fc136 nle ?_
  rw [argT_eq]
  unfold impl_isNumber at hf
  unfold c136
  refine (show awp Try.prog false 0 _ (ofL [(0, (.int .i64 n_1))]) [] _ from ?_)
  refine awp_seq ?_
  refine w_reg ?_
  refine s_do (o_mov (.bool false) rfl) ?_
  refine w_done ?_
  refine k_seq ?_
  refine awp_seq ?_
  refine w_reg ?_
  obtain ⟨r_2, er3, hf⟩ := ob hf
  refine s_do (o_mov (.int .i64 n_1) rfl) ?_
  refine s_do (o_call (w_impl_within _ _ _ _ er3) rfl (.refl _) rfl) ?_
  refine s_do (o_mov (.bool r_2) rfl) ?_
  refine w_done ?_
  refine k_seq ?_
  refine w_ret ?_
  obtain rfl := os hf
  exact r_flat ⟨trivial, trivial⟩ rfl (.refl _)

/- impl.isPlain -/
def c174 : ACode :=
 (.seq (.reg (.q ⟨(some 2), none, .mov (.c (.bool false))⟩
 .done))
 (.seq (.seq (.reg (.q ⟨(some 4), none, .mov (.t 0)⟩
 (.q ⟨(some 5), none, .lenS (.t 4)⟩
 (.q ⟨(some 6), none, .mov (.c (.int .i64 0))⟩
 .done))))
 (.block 0 (.loop (.seq (.reg (.q ⟨(some 7), none, .bin .lss (.t 6) (.t 5)⟩
 .done))
 (.seq (.cond (.t 7) .skip
 (.exit 0))
 (.seq (.block 1 (.seq (.reg (.q ⟨(some 8), none, .mov (.t 6)⟩
 (.q ⟨(some 3), none, .mov (.t 8)⟩
 .done)))
 (.seq (.reg (.q ⟨(some 9), none, .mov (.t 0)⟩
 (.q ⟨(some 10), none, .mov (.t 3)⟩
 (.q ⟨(some 11), none, .idxs (.t 9) (.t 10)⟩
 (.q ⟨(some 12), none, .bin .lss (.t 11) (.c (.int .u8 32))⟩
 (.q ⟨(some 13), none, .mov (.t 12)⟩
 (.q ⟨(some 14), (some (13, false)), .mov (.t 0)⟩
 (.q ⟨(some 15), (some (13, false)), .mov (.t 3)⟩
 (.q ⟨(some 16), (some (13, false)), .idxs (.t 14) (.t 15)⟩
 (.q ⟨(some 17), (some (13, false)), .bin .gtr (.t 16) (.c (.int .u8 126))⟩
 (.q ⟨(some 18), none, .pick (.t 13) (.c (.bool true)) (.t 17)⟩
 .done)))))))))))
 (.cut (.cond (.t 18) (.seq (.reg (.q ⟨(some 2), none, .mov (.c (.bool false))⟩
 .done))
 .ret)
 .skip)))))
 (.reg (.q ⟨(some 19), none, .bin .add (.t 6) (.c (.int .i64 1))⟩
 (.q ⟨(some 6), none, .mov (.t 19)⟩
 .done)))))))))
 (.cut (.seq (.reg (.q ⟨(some 20), none, .mov (.t 0)⟩
 (.q ⟨(some 21), none, .lenS (.t 20)⟩
 (.q ⟨(some 22), none, .bin .leq (.t 21) (.c (.int .i64 200))⟩
 (.q ⟨(some 2), none, .mov (.t 22)⟩
 .done)))))
 .ret))))
theorem fc174 : fcomp Try.prog Try.f174 = some (c174.erase, [.mov (.t 2)], 23) := by kernel_rfl
def impl_isPlain_L1  : List UInt8 → Option (Fl Bool Unit)
  | [] =>
    some (.go ())
  | x_54 :: xs =>
    ((if (decide ((x_54.toNat : Int) < 32)) then
    some true
    else
    some (decide ((x_54.toNat : Int) > 126)) : Option Bool)).bind fun s18_56 =>
    if s18_56 then
    some (.ret false)
    else
    impl_isPlain_L1 xs 

def impl_isPlain (t_1 : Str) : Option Bool :=
    (impl_isPlain_L1 t_1 ).bind fun q => (match q with
    | .ret r => some r
    | .go _ =>
    some (decide ((t_1.length : Int) ≤ 200)))
theorem w_impl_isPlain (t_1 : Str) (r : Bool) (hf : impl_isPlain t_1 = some r) : CallOK Try.prog 174 .flat [(.str t_1)] (.bool r) := by
  refine CallOK.of_awp mixed Try.func174 fc174 nle ?_
  rw [argT_eq]
  unfold impl_isPlain at hf
  unfold c174
  refine (show awp Try.prog false 0 _ (ofL [(0, (.str t_1))]) [] _ from ?_)
  refine awp_seq ?_
  refine w_reg ?_
  refine s_do (o_mov (.bool false) rfl) ?_
  refine w_done ?_
  refine k_seq ?_
  refine awp_seq ?_
  refine awp_seq ?_
  refine w_reg ?_
  refine s_do (o_mov (.str t_1) rfl) ?_
  refine s_dof (o_lenS rfl) fun hl2 => ?_
  refine s_do (o_mov (.int .i64 0) rfl) ?_
  refine w_done ?_
  refine k_seq ?_
  obtain ⟨p47, hb1, hf⟩ := ob hf
  refine awp_cutx (X := {q : Unit // p47 = .go q}) (fun q => ([(0, (.str t_1))], [])) ?_ ?_
  · refine awp_loop (X := {q : Nat // impl_isPlain_L1 (t_1.drop q)  = some p47}) (fun q => ([(0, (.str t_1)), (5, (.int .i64 (t_1.length : Int))), (6, (.int .i64 (q.1 : Int)))], [])) (fun q => t_1.length - q.1) ⟨0, hb1⟩ ⟨[], [], _, _, rfl, rfl, ⟨.refl _, ⟨.refl _, ⟨.refl _, trivial⟩⟩⟩, (.refl _)⟩ ?_
    rintro ⟨s6_32, hc1⟩
    have hc1 : impl_isPlain_L1 (t_1.drop s6_32)  = some p47 := hc1
    refine (show awp Try.prog false 0 _ (ofL [(0, (.str t_1)), (5, (.int .i64 (t_1.length : Int))), (6, (.int .i64 (s6_32 : Int)))]) [] _ from ?_)
    rcases dropc t_1 s6_32 with ⟨hie50, hd53⟩ | ⟨hlt48, x_54, hx49, hd53⟩
    · rw [hd53, impl_isPlain_L1.eq_1] at hc1
      have hq52 := dlf hie50
      refine awp_seq ?_
      refine w_reg ?_
      refine s_do (o_q (.bool (decide ((s6_32 : Int) < (t_1.length : Int)))) rfl rfl rfl) ?_
      refine w_done ?_
      refine k_seq ?_
      refine awp_seq ?_
      refine w_condf rfl hq52 ?_
      refine w_exit ?_
      refine k_seqx ?_
      refine k_loopx ?_
      refine k_blkx ?_
      obtain rfl := os hc1
      exact k_cutn ⟨_, rfl⟩ ⟨[], [], _, _, rfl, rfl, ⟨.refl _, trivial⟩, (.refl _)⟩
    · rw [hd53, impl_isPlain_L1.eq_2] at hc1
      have hq52 := dlt hlt48
      refine awp_seq ?_
      refine w_reg ?_
      refine s_do (o_q (.bool (decide ((s6_32 : Int) < (t_1.length : Int)))) rfl rfl rfl) ?_
      refine w_done ?_
      refine k_seq ?_
      refine awp_seq ?_
      refine w_condt rfl hq52 ?_
      refine w_skip ?_
      refine k_seq ?_
      refine awp_seq ?_
      refine w_blk ?_
      refine awp_seq ?_
      refine w_reg ?_
      refine s_do (o_mov (.int .i64 (s6_32 : Int)) rfl) ?_
      refine s_do (o_mov (.int .i64 (s6_32 : Int)) rfl) ?_
      refine w_done ?_
      refine k_seq ?_
      refine awp_seq ?_
      obtain ⟨s18_56, hb2, hc1⟩ := ob hc1
      refine awp_cut ([(0, (.str t_1)), (5, (.int .i64 (t_1.length : Int))), (6, (.int .i64 (s6_32 : Int))), (18, (.bool s18_56))], []) ?_ ?_
      · refine w_reg ?_
        rcases oi hb2 with ⟨c58, hb2⟩ | ⟨c58, hb2⟩
        · refine s_do (o_mov (.str t_1) rfl) ?_
          refine s_do (o_mov (.int .i64 (s6_32 : Int)) rfl) ?_
          refine s_do (o_idxsn rfl rfl hx49) ?_
          refine s_do (o_q (.bool (decide ((x_54.toNat : Int) < 32))) rfl rfl rfl) ?_
          refine s_do (o_mov (.bool (decide ((x_54.toNat : Int) < 32))) rfl) ?_
          refine s_lit (s := 13) (b := true) rfl c58 ?_
          refine s_off rfl rfl ?_
          refine s_off rfl rfl ?_
          refine s_off rfl rfl ?_
          refine s_off rfl rfl ?_
          refine s_do (o_q (.bool true) rfl trivial rfl) ?_
          refine w_done ?_
          obtain rfl := os hb2
          exact ⟨[], [], _, _, rfl, rfl, ⟨.refl _, ⟨.refl _, ⟨.refl _, ⟨.refl _, trivial⟩⟩⟩⟩, (.refl _)⟩
        · refine s_do (o_mov (.str t_1) rfl) ?_
          refine s_do (o_mov (.int .i64 (s6_32 : Int)) rfl) ?_
          refine s_do (o_idxsn rfl rfl hx49) ?_
          refine s_do (o_q (.bool (decide ((x_54.toNat : Int) < 32))) rfl rfl rfl) ?_
          refine s_do (o_mov (.bool (decide ((x_54.toNat : Int) < 32))) rfl) ?_
          refine s_lit (s := 13) (b := false) rfl (bf c58) ?_
          refine s_on rfl ?_
          refine s_do (o_mov (.str t_1) rfl) ?_
          refine s_on rfl ?_
          refine s_do (o_mov (.int .i64 (s6_32 : Int)) rfl) ?_
          refine s_on rfl ?_
          refine s_do (o_idxsn rfl rfl hx49) ?_
          refine s_on rfl ?_
          refine s_do (o_q (.bool (decide ((x_54.toNat : Int) > 126))) rfl rfl rfl) ?_
          refine s_do (o_q (.bool (decide ((x_54.toNat : Int) > 126))) rfl trivial rfl) ?_
          refine w_done ?_
          obtain rfl := os hb2
          exact ⟨[], [], _, _, rfl, rfl, ⟨.refl _, ⟨.refl _, ⟨.refl _, ⟨.refl _, trivial⟩⟩⟩⟩, (.refl _)⟩
      · rcases oi hc1 with ⟨c59, hc1⟩ | ⟨c59, hc1⟩
        · refine w_condt rfl c59 ?_
          refine awp_seq ?_
          refine w_reg ?_
          refine s_do (o_mov (.bool false) rfl) ?_
          refine w_done ?_
          refine k_seq ?_
          refine w_ret ?_
          obtain rfl := os hc1
          obtain rfl := os hf
          exact r_flat ⟨trivial, trivial⟩ rfl (.refl _)
        · refine w_condf rfl (bf c59) ?_
          refine w_skip ?_
          refine k_blk ?_
          refine k_seq ?_
          refine w_reg ?_
          refine s_do (o_q (.int .i64 (w64 ((s6_32 : Int) + 1))) rfl rfl rfl) ?_
          refine s_do (o_mov (.int .i64 (w64 ((s6_32 : Int) + 1))) rfl) ?_
          refine w_done ?_
          exact k_loopn ⟨(s6_32 + 1), hc1⟩ (mul hlt48) ⟨[], [], _, _, rfl, rfl, ⟨.refl _, ⟨.refl _, ⟨.of_eq (congrArg (AV.int _) (w64_incr hlt48 hl2)), trivial⟩⟩⟩, (.refl _)⟩
  · rintro ⟨_, rfl⟩
    refine awp_seq ?_
    refine w_reg ?_
    refine s_do (o_mov (.str t_1) rfl) ?_
    refine s_dof (o_lenS rfl) fun hl60 => ?_
    refine s_do (o_q (.bool (decide ((t_1.length : Int) ≤ 200))) rfl rfl rfl) ?_
    refine s_do (o_mov (.bool (decide ((t_1.length : Int) ≤ 200))) rfl) ?_
    refine w_done ?_
    refine k_seq ?_
    refine w_ret ?_
    obtain rfl := os hf
    exact r_flat ⟨trivial, trivial⟩ rfl (.refl _)

/- impl.areKeys -/
def c226 : ACode :=
 (.seq (.reg (.q ⟨(some 2), none, .mov (.c (.bool false))⟩
 .done))
 (.seq (.seq (.reg (.q ⟨(some 5), none, .mov (.t 0)⟩
 (.q ⟨(some 6), none, .len (.t 5)⟩
 (.q ⟨(some 7), none, .mov (.c (.int .i64 0))⟩
 .done))))
 (.block 0 (.loop (.seq (.reg (.q ⟨(some 8), none, .bin .lss (.t 7) (.t 6)⟩
 .done))
 (.seq (.cond (.t 8) .skip
 (.exit 0))
 (.seq (.block 1 (.seq (.reg (.q ⟨(some 9), none, .mov (.t 7)⟩
 (.q ⟨(some 10), none, .iaddr 1 (.t 5) (.t 7)⟩
 (.q ⟨(some 11), none, .load 1 false (.t 10)⟩
 (.q ⟨(some 3), none, .mov (.t 9)⟩
 (.q ⟨(some 4), none, .mov (.t 11)⟩
 .done))))))
 (.seq (.reg (.q ⟨(some 12), none, .mov (.t 4)⟩
 (.q ⟨(some 13), none, .call 174 [(.t 12)]⟩
 (.q ⟨(some 14), none, .not (.t 13)⟩
 (.q ⟨(some 15), none, .mov (.t 14)⟩
 (.q ⟨(some 16), (some (15, false)), .mov (.t 3)⟩
 (.q ⟨(some 17), (some (15, false)), .bin .gtr (.t 16) (.c (.int .i64 0))⟩
 (.q ⟨(some 18), (some (15, false)), .mov (.t 17)⟩
 (.q ⟨(some 19), (some (18, true)), .mov (.t 0)⟩
 (.q ⟨(some 20), (some (18, true)), .mov (.t 3)⟩
 (.q ⟨(some 21), (some (18, true)), .bin .sub (.t 20) (.c (.int .i64 1))⟩
 (.q ⟨(some 22), (some (18, true)), .iaddr 1 (.t 19) (.t 21)⟩
 (.q ⟨(some 23), (some (18, true)), .load 1 false (.t 22)⟩
 (.q ⟨(some 24), (some (18, true)), .mov (.t 4)⟩
 (.q ⟨(some 25), (some (18, true)), .bin .geq (.t 23) (.t 24)⟩
 (.q ⟨(some 26), (some (15, false)), .pick (.t 18) (.t 25) (.c (.bool false))⟩
 (.q ⟨(some 27), none, .pick (.t 15) (.c (.bool true)) (.t 26)⟩
 .done)))))))))))))))))
 (.cut (.cond (.t 27) (.seq (.reg (.q ⟨(some 2), none, .mov (.c (.bool false))⟩
 .done))
 .ret)
 .skip)))))
 (.reg (.q ⟨(some 28), none, .bin .add (.t 7) (.c (.int .i64 1))⟩
 (.q ⟨(some 7), none, .mov (.t 28)⟩
 .done)))))))))
 (.cut (.seq (.reg (.q ⟨(some 2), none, .mov (.c (.bool true))⟩
 .done))
 .ret))))
theorem fc226 : fcomp Try.prog Try.f226 = some (c226.erase, [.mov (.t 2)], 29) := by kernel_rfl
def impl_areKeys_L1 (keys_1 : (List Str)) : List Str → Nat → Option (Fl Bool Unit)
  | [], s7_40 =>
    some (.go ())
  | x_66 :: xs, s7_40 =>
    (((impl_isPlain x_66).bind fun r_75 =>
    if (!r_75) then
    some true
    else
    if (decide ((s7_40 : Int) > 0)) then
    (idx keys_1 (w64 ((s7_40 : Int) - 1))).bind fun x_79 =>
    some (!Op.bytesLess x_79 x_66)
    else
    some false : Option Bool)).bind fun s27_73 =>
    if s27_73 then
    some (.ret false)
    else
    impl_areKeys_L1 keys_1 xs (s7_40 + 1)

def impl_areKeys (keys_1 : (List Str)) : Option Bool :=
    (impl_areKeys_L1 keys_1 keys_1 0).bind fun q => (match q with
    | .ret r => some r
    | .go _ =>
    some true)
theorem w_impl_areKeys (keys_1 : (List Str)) (r : Bool) (hf : impl_areKeys keys_1 = some r) : CallOK Try.prog 226 .flat [(.lst 1 (keys_1.map AV.str))] (.bool r) := by
  refine CallOK.of_awp mixed Try.func226 fc226 nle ?_
  rw [argT_eq]
  unfold impl_areKeys at hf
  unfold c226
  refine (show awp Try.prog false 0 _ (ofL [(0, (.lst 1 (keys_1.map AV.str)))]) [] _ from ?_)
  refine awp_seq ?_
  refine w_reg ?_
  refine s_do (o_mov (.bool false) rfl) ?_
  refine w_done ?_
  refine k_seq ?_
  refine awp_seq ?_
  refine awp_seq ?_
  refine w_reg ?_
  refine s_do (o_mov (.lst 1 (keys_1.map AV.str)) rfl) ?_
  refine s_dof (o_len (enc := AV.str) rfl) fun hl2 => ?_
  refine s_do (o_mov (.int .i64 0) rfl) ?_
  refine w_done ?_
  refine k_seq ?_
  obtain ⟨p59, hb1, hf⟩ := ob hf
  refine awp_cutx (X := {q : Unit // p59 = .go q}) (fun q => ([], [])) ?_ ?_
  · refine awp_loop (X := {q : Nat // impl_areKeys_L1 keys_1 (keys_1.drop q) q = some p59}) (fun q => ([(0, (.lst 1 (keys_1.map AV.str))), (5, (.lst 1 (keys_1.map AV.str))), (6, (.int .i64 (keys_1.length : Int))), (7, (.int .i64 (q.1 : Int)))], [])) (fun q => keys_1.length - q.1) ⟨0, hb1⟩ ⟨[], [], _, _, rfl, rfl, ⟨.refl _, ⟨.refl _, ⟨.refl _, ⟨.refl _, trivial⟩⟩⟩⟩, (.refl _)⟩ ?_
    rintro ⟨s7_40, hc1⟩
    have hc1 : impl_areKeys_L1 keys_1 (keys_1.drop s7_40) s7_40 = some p59 := hc1
    refine (show awp Try.prog false 0 _ (ofL [(0, (.lst 1 (keys_1.map AV.str))), (5, (.lst 1 (keys_1.map AV.str))), (6, (.int .i64 (keys_1.length : Int))), (7, (.int .i64 (s7_40 : Int)))]) [] _ from ?_)
    rcases dropc keys_1 s7_40 with ⟨hie62, hd65⟩ | ⟨hlt60, x_66, hx61, hd65⟩
    · rw [hd65, impl_areKeys_L1.eq_1] at hc1
      have hq64 := dlf hie62
      refine awp_seq ?_
      refine w_reg ?_
      refine s_do (o_q (.bool (decide ((s7_40 : Int) < (keys_1.length : Int)))) rfl rfl rfl) ?_
      refine w_done ?_
      refine k_seq ?_
      refine awp_seq ?_
      refine w_condf rfl hq64 ?_
      refine w_exit ?_
      refine k_seqx ?_
      refine k_loopx ?_
      refine k_blkx ?_
      obtain rfl := os hc1
      exact k_cutn ⟨_, rfl⟩ ⟨[], [], _, _, rfl, rfl, trivial, (.refl _)⟩
    · rw [hd65, impl_areKeys_L1.eq_2] at hc1
      have hq64 := dlt hlt60
      refine awp_seq ?_
      refine w_reg ?_
      refine s_do (o_q (.bool (decide ((s7_40 : Int) < (keys_1.length : Int)))) rfl rfl rfl) ?_
      refine w_done ?_
      refine k_seq ?_
      refine awp_seq ?_
      refine w_condt rfl hq64 ?_
      refine w_skip ?_
      refine k_seq ?_
      refine awp_seq ?_
      refine w_blk ?_
      refine awp_seq ?_
      refine w_reg ?_
      refine s_do (o_mov (.int .i64 (s7_40 : Int)) rfl) ?_
      refine s_do (o_iaddrn (enc := AV.str) rfl rfl hx61) ?_
      refine s_do (o_q (.str x_66) rfl ⟨rfl, rfl⟩ rfl) ?_
      refine s_do (o_mov (.int .i64 (s7_40 : Int)) rfl) ?_
      refine s_do (o_mov (.str x_66) rfl) ?_
      refine w_done ?_
      refine k_seq ?_
      refine awp_seq ?_
      obtain ⟨s27_73, hb2, hc1⟩ := ob hc1
      refine awp_cut ([(0, (.lst 1 (keys_1.map AV.str))), (5, (.lst 1 (keys_1.map AV.str))), (6, (.int .i64 (keys_1.length : Int))), (7, (.int .i64 (s7_40 : Int))), (27, (.bool s27_73))], []) ?_ ?_
      · refine w_reg ?_
        refine s_do (o_mov (.str x_66) rfl) ?_
        obtain ⟨r_75, er76, hb2⟩ := ob hb2
        refine s_do (o_call (w_impl_isPlain _ _ er76) rfl (.refl _) rfl) ?_
        refine s_do (o_q (.bool (!r_75)) rfl trivial rfl) ?_
        refine s_do (o_mov (.bool (!r_75)) rfl) ?_
        rcases oi hb2 with ⟨c77, hb2⟩ | ⟨c77, hb2⟩
        · refine s_lit (s := 15) (b := true) rfl c77 ?_
          refine s_off rfl rfl ?_
          refine s_off rfl rfl ?_
          refine s_off rfl rfl ?_
          refine s_offs rfl ?_
          refine s_offs rfl ?_
          refine s_offs rfl ?_
          refine s_offs rfl ?_
          refine s_offs rfl ?_
          refine s_offs rfl ?_
          refine s_offs rfl ?_
          refine s_off rfl rfl ?_
          refine s_do (o_q (.bool true) rfl trivial rfl) ?_
          refine w_done ?_
          obtain rfl := os hb2
          exact ⟨[], [], _, _, rfl, rfl, ⟨.refl _, ⟨.refl _, ⟨.refl _, ⟨.refl _, ⟨.refl _, trivial⟩⟩⟩⟩⟩, (.refl _)⟩
        · refine s_lit (s := 15) (b := false) rfl (bf c77) ?_
          refine s_on rfl ?_
          refine s_do (o_mov (.int .i64 (s7_40 : Int)) rfl) ?_
          refine s_on rfl ?_
          refine s_do (o_q (.bool (decide ((s7_40 : Int) > 0))) rfl rfl rfl) ?_
          refine s_on rfl ?_
          refine s_do (o_mov (.bool (decide ((s7_40 : Int) > 0))) rfl) ?_
          rcases oi hb2 with ⟨c78, hb2⟩ | ⟨c78, hb2⟩
          · refine s_lit (s := 18) (b := true) rfl c78 ?_
            refine s_on rfl ?_
            refine s_do (o_mov (.lst 1 (keys_1.map AV.str)) rfl) ?_
            refine s_on rfl ?_
            refine s_do (o_mov (.int .i64 (s7_40 : Int)) rfl) ?_
            refine s_on rfl ?_
            refine s_do (o_q (.int .i64 (w64 ((s7_40 : Int) - 1))) rfl rfl rfl) ?_
            refine s_on rfl ?_
            obtain ⟨x_79, ex80, hb2⟩ := ob hb2
            refine s_do (o_iaddr (enc := AV.str) rfl rfl (idx0 ex80) (idx1 ex80)) ?_
            refine s_on rfl ?_
            refine s_do (o_q (.str x_79) rfl ⟨rfl, rfl⟩ rfl) ?_
            refine s_on rfl ?_
            refine s_do (o_mov (.str x_66) rfl) ?_
            refine s_on rfl ?_
            refine s_do (o_q (.bool (!Op.bytesLess x_79 x_66)) rfl trivial rfl) ?_
            refine s_on rfl ?_
            refine s_do (o_q (.bool (!Op.bytesLess x_79 x_66)) rfl trivial rfl) ?_
            refine s_do (o_q (.bool (!Op.bytesLess x_79 x_66)) rfl trivial rfl) ?_
            refine w_done ?_
            obtain rfl := os hb2
            exact ⟨[], [], _, _, rfl, rfl, ⟨.refl _, ⟨.refl _, ⟨.refl _, ⟨.refl _, ⟨.refl _, trivial⟩⟩⟩⟩⟩, (.refl _)⟩
          · refine s_lit (s := 18) (b := false) rfl (bf c78) ?_
            refine s_off rfl rfl ?_
            refine s_off rfl rfl ?_
            refine s_off rfl rfl ?_
            refine s_off rfl rfl ?_
            refine s_off rfl rfl ?_
            refine s_off rfl rfl ?_
            refine s_off rfl rfl ?_
            refine s_on rfl ?_
            refine s_do (o_q (.bool false) rfl trivial rfl) ?_
            refine s_do (o_q (.bool false) rfl trivial rfl) ?_
            refine w_done ?_
            obtain rfl := os hb2
            exact ⟨[], [], _, _, rfl, rfl, ⟨.refl _, ⟨.refl _, ⟨.refl _, ⟨.refl _, ⟨.refl _, trivial⟩⟩⟩⟩⟩, (.refl _)⟩
      · rcases oi hc1 with ⟨c81, hc1⟩ | ⟨c81, hc1⟩
        · refine w_condt rfl c81 ?_
          refine awp_seq ?_
          refine w_reg ?_
          refine s_do (o_mov (.bool false) rfl) ?_
          refine w_done ?_
          refine k_seq ?_
          refine w_ret ?_
          obtain rfl := os hc1
          obtain rfl := os hf
          exact r_flat ⟨trivial, trivial⟩ rfl (.refl _)
        · refine w_condf rfl (bf c81) ?_
          refine w_skip ?_
          refine k_blk ?_
          refine k_seq ?_
          refine w_reg ?_
          refine s_do (o_q (.int .i64 (w64 ((s7_40 : Int) + 1))) rfl rfl rfl) ?_
          refine s_do (o_mov (.int .i64 (w64 ((s7_40 : Int) + 1))) rfl) ?_
          refine w_done ?_
          exact k_loopn ⟨(s7_40 + 1), hc1⟩ (mul hlt60) ⟨[], [], _, _, rfl, rfl, ⟨.refl _, ⟨.refl _, ⟨.refl _, ⟨.of_eq (congrArg (AV.int _) (w64_incr hlt60 hl2)), trivial⟩⟩⟩⟩, (.refl _)⟩
  · rintro ⟨_, rfl⟩
    refine awp_seq ?_
    refine w_reg ?_
    refine s_do (o_mov (.bool true) rfl) ?_
    refine w_done ?_
    refine k_seq ?_
    refine w_ret ?_
    obtain rfl := os hf
    exact r_flat ⟨trivial, trivial⟩ rfl (.refl _)

/- (impl.Json).partOK -/
def c212 : ACode :=
 (.seq (.reg (.q ⟨(some 1), none, .box 5 (.t 0)⟩
 (.q ⟨(some 2), none, .mov (.c (.bool false))⟩
 .done)))
 (.seq (.seq (.reg (.q ⟨(some 3), none, .faddr 0 (.t 1)⟩
 (.q ⟨(some 4), none, .load 1 false (.t 3)⟩
 .done)))
 (.block 0 (.seq (.reg (.q ⟨(some 6), none, .bin .eql (.t 4) (.c (.int .i64 0))⟩
 (.q ⟨(some 5), none, .mov (.t 6)⟩
 .done)))
 (.cond (.t 5) (.seq (.reg (.q ⟨(some 7), none, .faddr 1 (.t 1)⟩
 (.q ⟨(some 8), none, .load 1 false (.t 7)⟩
 (.q ⟨(some 9), none, .bin .eql (.t 8) (.c (.int .i64 0))⟩
 (.q ⟨(some 10), none, .mov (.t 9)⟩
 (.q ⟨(some 11), (some (10, true)), .faddr 2 (.t 1)⟩
 (.q ⟨(some 12), (some (10, true)), .load 1 false (.t 11)⟩
 (.q ⟨(some 13), (some (10, true)), .bin .eql (.t 12) (.c (.str []))⟩
 (.q ⟨(some 14), none, .pick (.t 10) (.t 13) (.c (.bool false))⟩
 (.q ⟨(some 15), none, .mov (.t 14)⟩
 (.q ⟨(some 16), (some (15, true)), .faddr 3 (.t 1)⟩
 (.q ⟨(some 17), (some (15, true)), .load 1 false (.t 16)⟩
 (.q ⟨(some 18), (some (15, true)), .len (.t 17)⟩
 (.q ⟨(some 19), (some (15, true)), .bin .eql (.t 18) (.c (.int .i64 0))⟩
 (.q ⟨(some 20), none, .pick (.t 15) (.t 19) (.c (.bool false))⟩
 (.q ⟨(some 21), none, .mov (.t 20)⟩
 (.q ⟨(some 22), (some (21, true)), .faddr 4 (.t 1)⟩
 (.q ⟨(some 23), (some (21, true)), .load 1 false (.t 22)⟩
 (.q ⟨(some 24), (some (21, true)), .len (.t 23)⟩
 (.q ⟨(some 25), (some (21, true)), .bin .eql (.t 24) (.c (.int .i64 0))⟩
 (.q ⟨(some 26), none, .pick (.t 21) (.t 25) (.c (.bool false))⟩
 (.q ⟨(some 2), none, .mov (.t 26)⟩
 .done))))))))))))))))))))))
 .ret)
 (.seq (.reg (.q ⟨(some 28), none, .bin .eql (.t 4) (.c (.int .i64 1))⟩
 (.q ⟨(some 27), none, .mov (.t 28)⟩
 .done)))
 (.cond (.t 27) (.seq (.reg (.q ⟨(some 29), none, .faddr 1 (.t 1)⟩
 (.q ⟨(some 30), none, .load 1 false (.t 29)⟩
 (.q ⟨(some 31), none, .call 86 [(.t 30), (.c (.int .i64 0)), (.c (.int .i64 1))]⟩
 (.q ⟨(some 32), none, .mov (.t 31)⟩
 (.q ⟨(some 33), (some (32, true)), .faddr 2 (.t 1)⟩
 (.q ⟨(some 34), (some (32, true)), .load 1 false (.t 33)⟩
 (.q ⟨(some 35), (some (32, true)), .bin .eql (.t 34) (.c (.str []))⟩
 (.q ⟨(some 36), none, .pick (.t 32) (.t 35) (.c (.bool false))⟩
 (.q ⟨(some 37), none, .mov (.t 36)⟩
 (.q ⟨(some 38), (some (37, true)), .faddr 3 (.t 1)⟩
 (.q ⟨(some 39), (some (37, true)), .load 1 false (.t 38)⟩
 (.q ⟨(some 40), (some (37, true)), .len (.t 39)⟩
 (.q ⟨(some 41), (some (37, true)), .bin .eql (.t 40) (.c (.int .i64 0))⟩
 (.q ⟨(some 42), none, .pick (.t 37) (.t 41) (.c (.bool false))⟩
 (.q ⟨(some 43), none, .mov (.t 42)⟩
 (.q ⟨(some 44), (some (43, true)), .faddr 4 (.t 1)⟩
 (.q ⟨(some 45), (some (43, true)), .load 1 false (.t 44)⟩
 (.q ⟨(some 46), (some (43, true)), .len (.t 45)⟩
 (.q ⟨(some 47), (some (43, true)), .bin .eql (.t 46) (.c (.int .i64 0))⟩
 (.q ⟨(some 48), none, .pick (.t 43) (.t 47) (.c (.bool false))⟩
 (.q ⟨(some 2), none, .mov (.t 48)⟩
 .done))))))))))))))))))))))
 .ret)
 (.seq (.reg (.q ⟨(some 50), none, .bin .eql (.t 4) (.c (.int .i64 2))⟩
 (.q ⟨(some 49), none, .mov (.t 50)⟩
 .done)))
 (.cond (.t 49) (.seq (.reg (.q ⟨(some 51), none, .faddr 1 (.t 1)⟩
 (.q ⟨(some 52), none, .load 1 false (.t 51)⟩
 (.q ⟨(some 53), none, .call 136 [(.t 52)]⟩
 (.q ⟨(some 54), none, .mov (.t 53)⟩
 (.q ⟨(some 55), (some (54, true)), .faddr 2 (.t 1)⟩
 (.q ⟨(some 56), (some (54, true)), .load 1 false (.t 55)⟩
 (.q ⟨(some 57), (some (54, true)), .bin .eql (.t 56) (.c (.str []))⟩
 (.q ⟨(some 58), none, .pick (.t 54) (.t 57) (.c (.bool false))⟩
 (.q ⟨(some 59), none, .mov (.t 58)⟩
 (.q ⟨(some 60), (some (59, true)), .faddr 3 (.t 1)⟩
 (.q ⟨(some 61), (some (59, true)), .load 1 false (.t 60)⟩
 (.q ⟨(some 62), (some (59, true)), .len (.t 61)⟩
 (.q ⟨(some 63), (some (59, true)), .bin .eql (.t 62) (.c (.int .i64 0))⟩
 (.q ⟨(some 64), none, .pick (.t 59) (.t 63) (.c (.bool false))⟩
 (.q ⟨(some 65), none, .mov (.t 64)⟩
 (.q ⟨(some 66), (some (65, true)), .faddr 4 (.t 1)⟩
 (.q ⟨(some 67), (some (65, true)), .load 1 false (.t 66)⟩
 (.q ⟨(some 68), (some (65, true)), .len (.t 67)⟩
 (.q ⟨(some 69), (some (65, true)), .bin .eql (.t 68) (.c (.int .i64 0))⟩
 (.q ⟨(some 70), none, .pick (.t 65) (.t 69) (.c (.bool false))⟩
 (.q ⟨(some 2), none, .mov (.t 70)⟩
 .done))))))))))))))))))))))
 .ret)
 (.seq (.reg (.q ⟨(some 72), none, .bin .eql (.t 4) (.c (.int .i64 3))⟩
 (.q ⟨(some 71), none, .mov (.t 72)⟩
 .done)))
 (.cond (.t 71) (.seq (.reg (.q ⟨(some 73), none, .faddr 1 (.t 1)⟩
 (.q ⟨(some 74), none, .load 1 false (.t 73)⟩
 (.q ⟨(some 75), none, .bin .eql (.t 74) (.c (.int .i64 0))⟩
 (.q ⟨(some 76), none, .mov (.t 75)⟩
 (.q ⟨(some 77), (some (76, true)), .faddr 2 (.t 1)⟩
 (.q ⟨(some 78), (some (76, true)), .load 1 false (.t 77)⟩
 (.q ⟨(some 79), (some (76, true)), .call 174 [(.t 78)]⟩
 (.q ⟨(some 80), none, .pick (.t 76) (.t 79) (.c (.bool false))⟩
 (.q ⟨(some 81), none, .mov (.t 80)⟩
 (.q ⟨(some 82), (some (81, true)), .faddr 3 (.t 1)⟩
 (.q ⟨(some 83), (some (81, true)), .load 1 false (.t 82)⟩
 (.q ⟨(some 84), (some (81, true)), .len (.t 83)⟩
 (.q ⟨(some 85), (some (81, true)), .bin .eql (.t 84) (.c (.int .i64 0))⟩
 (.q ⟨(some 86), none, .pick (.t 81) (.t 85) (.c (.bool false))⟩
 (.q ⟨(some 87), none, .mov (.t 86)⟩
 (.q ⟨(some 88), (some (87, true)), .faddr 4 (.t 1)⟩
 (.q ⟨(some 89), (some (87, true)), .load 1 false (.t 88)⟩
 (.q ⟨(some 90), (some (87, true)), .len (.t 89)⟩
 (.q ⟨(some 91), (some (87, true)), .bin .eql (.t 90) (.c (.int .i64 0))⟩
 (.q ⟨(some 92), none, .pick (.t 87) (.t 91) (.c (.bool false))⟩
 (.q ⟨(some 2), none, .mov (.t 92)⟩
 .done))))))))))))))))))))))
 .ret)
 (.seq (.reg (.q ⟨(some 94), none, .bin .eql (.t 4) (.c (.int .i64 4))⟩
 (.q ⟨(some 93), none, .mov (.t 94)⟩
 .done)))
 (.cond (.t 93) (.seq (.reg (.q ⟨(some 95), none, .faddr 1 (.t 1)⟩
 (.q ⟨(some 96), none, .load 1 false (.t 95)⟩
 (.q ⟨(some 97), none, .bin .eql (.t 96) (.c (.int .i64 0))⟩
 (.q ⟨(some 98), none, .mov (.t 97)⟩
 (.q ⟨(some 99), (some (98, true)), .faddr 2 (.t 1)⟩
 (.q ⟨(some 100), (some (98, true)), .load 1 false (.t 99)⟩
 (.q ⟨(some 101), (some (98, true)), .bin .eql (.t 100) (.c (.str []))⟩
 (.q ⟨(some 102), none, .pick (.t 98) (.t 101) (.c (.bool false))⟩
 (.q ⟨(some 103), none, .mov (.t 102)⟩
 (.q ⟨(some 104), (some (103, true)), .faddr 3 (.t 1)⟩
 (.q ⟨(some 105), (some (103, true)), .load 1 false (.t 104)⟩
 (.q ⟨(some 106), (some (103, true)), .len (.t 105)⟩
 (.q ⟨(some 107), (some (103, true)), .bin .eql (.t 106) (.c (.int .i64 0))⟩
 (.q ⟨(some 108), none, .pick (.t 103) (.t 107) (.c (.bool false))⟩
 (.q ⟨(some 2), none, .mov (.t 108)⟩
 .done))))))))))))))))
 .ret)
 (.seq (.reg (.q ⟨(some 110), none, .bin .eql (.t 4) (.c (.int .i64 5))⟩
 (.q ⟨(some 109), none, .mov (.t 110)⟩
 .done)))
 (.cond (.t 109) (.seq (.reg (.q ⟨(some 111), none, .faddr 1 (.t 1)⟩
 (.q ⟨(some 112), none, .load 1 false (.t 111)⟩
 (.q ⟨(some 113), none, .bin .eql (.t 112) (.c (.int .i64 0))⟩
 (.q ⟨(some 114), none, .mov (.t 113)⟩
 (.q ⟨(some 115), (some (114, true)), .faddr 2 (.t 1)⟩
 (.q ⟨(some 116), (some (114, true)), .load 1 false (.t 115)⟩
 (.q ⟨(some 117), (some (114, true)), .bin .eql (.t 116) (.c (.str []))⟩
 (.q ⟨(some 118), none, .pick (.t 114) (.t 117) (.c (.bool false))⟩
 (.q ⟨(some 119), none, .mov (.t 118)⟩
 (.q ⟨(some 120), (some (119, true)), .faddr 3 (.t 1)⟩
 (.q ⟨(some 121), (some (119, true)), .load 1 false (.t 120)⟩
 (.q ⟨(some 122), (some (119, true)), .len (.t 121)⟩
 (.q ⟨(some 123), (some (119, true)), .faddr 4 (.t 1)⟩
 (.q ⟨(some 124), (some (119, true)), .load 1 false (.t 123)⟩
 (.q ⟨(some 125), (some (119, true)), .len (.t 124)⟩
 (.q ⟨(some 126), (some (119, true)), .bin .eql (.t 122) (.t 125)⟩
 (.q ⟨(some 127), none, .pick (.t 119) (.t 126) (.c (.bool false))⟩
 (.q ⟨(some 128), none, .mov (.t 127)⟩
 (.q ⟨(some 129), (some (128, true)), .faddr 3 (.t 1)⟩
 (.q ⟨(some 130), (some (128, true)), .load 1 false (.t 129)⟩
 (.q ⟨(some 131), (some (128, true)), .call 226 [(.t 130)]⟩
 (.q ⟨(some 132), none, .pick (.t 128) (.t 131) (.c (.bool false))⟩
 (.q ⟨(some 2), none, .mov (.t 132)⟩
 .done))))))))))))))))))))))))
 .ret)
 .skip))))))))))))))
 (.seq (.reg (.q ⟨(some 2), none, .mov (.c (.bool false))⟩
 .done))
 .ret)))
theorem fc212 : fcomp Try.prog Try.f212 = some (c212.erase, [.mov (.t 2)], 133) := by kernel_rfl
def impl_Json_partOK (j_1 : GJson) : Option Bool :=
    if (j_1.Kind == 0) then
    if (j_1.N == 0) then
    if (j_1.T == []) then
    if ((j_1.Keys.length : Int) == 0) then
    some ((j_1.Items.length : Int) == 0)
    else
    some false
    else
    some false
    else
    some false
    else
    if (j_1.Kind == 1) then
    (impl_within j_1.N 0 1).bind fun r_9 =>
    if r_9 then
    if (j_1.T == []) then
    if ((j_1.Keys.length : Int) == 0) then
    some ((j_1.Items.length : Int) == 0)
    else
    some false
    else
    some false
    else
    some false
    else
    if (j_1.Kind == 2) then
    (impl_isNumber j_1.N).bind fun r_17 =>
    if r_17 then
    if (j_1.T == []) then
    if ((j_1.Keys.length : Int) == 0) then
    some ((j_1.Items.length : Int) == 0)
    else
    some false
    else
    some false
    else
    some false
    else
    if (j_1.Kind == 3) then
    if (j_1.N == 0) then
    (impl_isPlain j_1.T).bind fun r_26 =>
    if r_26 then
    if ((j_1.Keys.length : Int) == 0) then
    some ((j_1.Items.length : Int) == 0)
    else
    some false
    else
    some false
    else
    some false
    else
    if (j_1.Kind == 4) then
    if (j_1.N == 0) then
    if (j_1.T == []) then
    some ((j_1.Keys.length : Int) == 0)
    else
    some false
    else
    some false
    else
    if (j_1.Kind == 5) then
    if (j_1.N == 0) then
    if (j_1.T == []) then
    if ((j_1.Keys.length : Int) == (j_1.Items.length : Int)) then
    (impl_areKeys j_1.Keys).bind fun r_42 =>
    some r_42
    else
    some false
    else
    some false
    else
    some false
    else
    some false
theorem w_impl_Json_partOK (j_1 : GJson) (r : Bool) (hf : impl_Json_partOK j_1 = some r) : CallOK Try.prog 212 .flat [(encGJson j_1)] (.bool r) := by
  refine CallOK.of_awp mixed Try.func212 fc212 nle ?_
  rw [argT_eq]
  rw [encGJson_eq j_1]
  unfold impl_Json_partOK at hf
  unfold c212
  refine (show awp Try.prog false 0 _ (ofL [(0, (.agg [(.int .i64 j_1.Kind), (.int .i64 j_1.N), (.str j_1.T), (.lst 1 (j_1.Keys.map AV.str)), (.lst 5 (j_1.Items.map encGJson))]))]) [] _ from ?_)
  refine awp_seq ?_
  refine w_reg ?_
  refine s_do (o_box (j := 0) (c := (.agg [(.int .i64 j_1.Kind), (.int .i64 j_1.N), (.str j_1.T), (.lst 1 (j_1.Keys.map AV.str)), (.lst 5 (j_1.Items.map encGJson))])) rfl trivial rfl rfl) ?_
  refine s_do (o_mov (.bool false) rfl) ?_
  refine w_done ?_
  refine k_seq ?_
  refine awp_seq ?_
  refine awp_seq ?_
  refine w_reg ?_
  refine s_do (o_q (.ptr 0 0 0) rfl trivial rfl) ?_
  refine s_do (o_q (.int .i64 j_1.Kind) rfl nle rfl) ?_
  refine w_done ?_
  refine k_seq ?_
  refine w_blk ?_
  refine awp_seq ?_
  refine w_reg ?_
  refine s_do (o_q (.bool (j_1.Kind == 0)) rfl rfl rfl) ?_
  refine s_do (o_mov (.bool (j_1.Kind == 0)) rfl) ?_
  refine w_done ?_
  refine k_seq ?_
  rcases oi hf with ⟨c2, hf⟩ | ⟨c2, hf⟩
  · refine w_condt rfl c2 ?_
    refine awp_seq ?_
    refine w_reg ?_
    refine s_do (o_q (.ptr 0 0 1) rfl trivial rfl) ?_
    refine s_do (o_q (.int .i64 j_1.N) rfl nle rfl) ?_
    refine s_do (o_q (.bool (j_1.N == 0)) rfl rfl rfl) ?_
    refine s_do (o_mov (.bool (j_1.N == 0)) rfl) ?_
    rcases oi hf with ⟨c3, hf⟩ | ⟨c3, hf⟩
    · refine s_lit (s := 10) (b := true) rfl c3 ?_
      refine s_on rfl ?_
      refine s_do (o_q (.ptr 0 0 2) rfl trivial rfl) ?_
      refine s_on rfl ?_
      refine s_do (o_q (.str j_1.T) rfl nle rfl) ?_
      refine s_on rfl ?_
      refine s_do (o_q (.bool (j_1.T == [])) rfl trivial rfl) ?_
      refine s_do (o_q (.bool (j_1.T == [])) rfl trivial rfl) ?_
      refine s_do (o_mov (.bool (j_1.T == [])) rfl) ?_
      rcases oi hf with ⟨c4, hf⟩ | ⟨c4, hf⟩
      · refine s_lit (s := 15) (b := true) rfl c4 ?_
        refine s_on rfl ?_
        refine s_do (o_q (.ptr 0 0 3) rfl trivial rfl) ?_
        refine s_on rfl ?_
        refine s_do (o_q (.lst 1 (j_1.Keys.map AV.str)) rfl nle rfl) ?_
        refine s_on rfl ?_
        refine s_dof (o_len (enc := AV.str) rfl) fun hl5 => ?_
        refine s_on rfl ?_
        refine s_do (o_q (.bool ((j_1.Keys.length : Int) == 0)) rfl rfl rfl) ?_
        refine s_do (o_q (.bool ((j_1.Keys.length : Int) == 0)) rfl trivial rfl) ?_
        refine s_do (o_mov (.bool ((j_1.Keys.length : Int) == 0)) rfl) ?_
        rcases oi hf with ⟨c6, hf⟩ | ⟨c6, hf⟩
        · refine s_lit (s := 21) (b := true) rfl c6 ?_
          refine s_on rfl ?_
          refine s_do (o_q (.ptr 0 0 4) rfl trivial rfl) ?_
          refine s_on rfl ?_
          refine s_do (o_q (.lst 5 (j_1.Items.map encGJson)) rfl nle rfl) ?_
          refine s_on rfl ?_
          refine s_dof (o_len (enc := encGJson) rfl) fun hl7 => ?_
          refine s_on rfl ?_
          refine s_do (o_q (.bool ((j_1.Items.length : Int) == 0)) rfl rfl rfl) ?_
          refine s_do (o_q (.bool ((j_1.Items.length : Int) == 0)) rfl trivial rfl) ?_
          refine s_do (o_mov (.bool ((j_1.Items.length : Int) == 0)) rfl) ?_
          refine w_done ?_
          refine k_seq ?_
          refine w_ret ?_
          obtain rfl := os hf
          exact r_flat ⟨trivial, trivial⟩ rfl (.refl _)
        · refine s_lit (s := 21) (b := false) rfl (bf c6) ?_
          refine s_off rfl rfl ?_
          refine s_off rfl rfl ?_
          refine s_off rfl rfl ?_
          refine s_off rfl rfl ?_
          refine s_do (o_q (.bool false) rfl trivial rfl) ?_
          refine s_do (o_mov (.bool false) rfl) ?_
          refine w_done ?_
          refine k_seq ?_
          refine w_ret ?_
          obtain rfl := os hf
          exact r_flat ⟨trivial, trivial⟩ rfl (.refl _)
      · refine s_lit (s := 15) (b := false) rfl (bf c4) ?_
        refine s_off rfl rfl ?_
        refine s_off rfl rfl ?_
        refine s_off rfl rfl ?_
        refine s_off rfl rfl ?_
        refine s_do (o_q (.bool false) rfl trivial rfl) ?_
        refine s_do (o_mov (.bool false) rfl) ?_
        refine s_off rfl rfl ?_
        refine s_off rfl rfl ?_
        refine s_off rfl rfl ?_
        refine s_off rfl rfl ?_
        refine s_do (o_q (.bool false) rfl trivial rfl) ?_
        refine s_do (o_mov (.bool false) rfl) ?_
        refine w_done ?_
        refine k_seq ?_
        refine w_ret ?_
        obtain rfl := os hf
        exact r_flat ⟨trivial, trivial⟩ rfl (.refl _)
    · refine s_lit (s := 10) (b := false) rfl (bf c3) ?_
      refine s_off rfl rfl ?_
      refine s_off rfl rfl ?_
      refine s_off rfl rfl ?_
      refine s_do (o_q (.bool false) rfl trivial rfl) ?_
      refine s_do (o_mov (.bool false) rfl) ?_
      refine s_off rfl rfl ?_
      refine s_off rfl rfl ?_
      refine s_off rfl rfl ?_
      refine s_off rfl rfl ?_
      refine s_do (o_q (.bool false) rfl trivial rfl) ?_
      refine s_do (o_mov (.bool false) rfl) ?_
      refine s_off rfl rfl ?_
      refine s_off rfl rfl ?_
      refine s_off rfl rfl ?_
      refine s_off rfl rfl ?_
      refine s_do (o_q (.bool false) rfl trivial rfl) ?_
      refine s_do (o_mov (.bool false) rfl) ?_
      refine w_done ?_
      refine k_seq ?_
      refine w_ret ?_
      obtain rfl := os hf
      exact r_flat ⟨trivial, trivial⟩ rfl (.refl _)
  · refine w_condf rfl (bf c2) ?_
    refine awp_seq ?_
    refine w_reg ?_
    refine s_do (o_q (.bool (j_1.Kind == 1)) rfl rfl rfl) ?_
    refine s_do (o_mov (.bool (j_1.Kind == 1)) rfl) ?_
    refine w_done ?_
    refine k_seq ?_
    rcases oi hf with ⟨c8, hf⟩ | ⟨c8, hf⟩
    · refine w_condt rfl c8 ?_
      refine awp_seq ?_
      refine w_reg ?_
      refine s_do (o_q (.ptr 0 0 1) rfl trivial rfl) ?_
      refine s_do (o_q (.int .i64 j_1.N) rfl nle rfl) ?_
      obtain ⟨r_9, er10, hf⟩ := ob hf
      refine s_do (o_call (w_impl_within _ _ _ _ er10) rfl (.refl _) rfl) ?_
      refine s_do (o_mov (.bool r_9) rfl) ?_
      rcases oi hf with ⟨c11, hf⟩ | ⟨c11, hf⟩
      · refine s_lit (s := 32) (b := true) rfl c11 ?_
        refine s_on rfl ?_
        refine s_do (o_q (.ptr 0 0 2) rfl trivial rfl) ?_
        refine s_on rfl ?_
        refine s_do (o_q (.str j_1.T) rfl nle rfl) ?_
        refine s_on rfl ?_
        refine s_do (o_q (.bool (j_1.T == [])) rfl trivial rfl) ?_
        refine s_do (o_q (.bool (j_1.T == [])) rfl trivial rfl) ?_
        refine s_do (o_mov (.bool (j_1.T == [])) rfl) ?_
        rcases oi hf with ⟨c12, hf⟩ | ⟨c12, hf⟩
        · refine s_lit (s := 37) (b := true) rfl c12 ?_
          refine s_on rfl ?_
          refine s_do (o_q (.ptr 0 0 3) rfl trivial rfl) ?_
          refine s_on rfl ?_
          refine s_do (o_q (.lst 1 (j_1.Keys.map AV.str)) rfl nle rfl) ?_
          refine s_on rfl ?_
          refine s_dof (o_len (enc := AV.str) rfl) fun hl13 => ?_
          refine s_on rfl ?_
          refine s_do (o_q (.bool ((j_1.Keys.length : Int) == 0)) rfl rfl rfl) ?_
          refine s_do (o_q (.bool ((j_1.Keys.length : Int) == 0)) rfl trivial rfl) ?_
          refine s_do (o_mov (.bool ((j_1.Keys.length : Int) == 0)) rfl) ?_
          rcases oi hf with ⟨c14, hf⟩ | ⟨c14, hf⟩
          · refine s_lit (s := 43) (b := true) rfl c14 ?_
            refine s_on rfl ?_
            refine s_do (o_q (.ptr 0 0 4) rfl trivial rfl) ?_
            refine s_on rfl ?_
            refine s_do (o_q (.lst 5 (j_1.Items.map encGJson)) rfl nle rfl) ?_
            refine s_on rfl ?_
            refine s_dof (o_len (enc := encGJson) rfl) fun hl15 => ?_
            refine s_on rfl ?_
            refine s_do (o_q (.bool ((j_1.Items.length : Int) == 0)) rfl rfl rfl) ?_
            refine s_do (o_q (.bool ((j_1.Items.length : Int) == 0)) rfl trivial rfl) ?_
            refine s_do (o_mov (.bool ((j_1.Items.length : Int) == 0)) rfl) ?_
            refine w_done ?_
            refine k_seq ?_
            refine w_ret ?_
            obtain rfl := os hf
            exact r_flat ⟨trivial, trivial⟩ rfl (.refl _)
          · refine s_lit (s := 43) (b := false) rfl (bf c14) ?_
            refine s_off rfl rfl ?_
            refine s_off rfl rfl ?_
            refine s_off rfl rfl ?_
            refine s_off rfl rfl ?_
            refine s_do (o_q (.bool false) rfl trivial rfl) ?_
            refine s_do (o_mov (.bool false) rfl) ?_
            refine w_done ?_
            refine k_seq ?_
            refine w_ret ?_
            obtain rfl := os hf
            exact r_flat ⟨trivial, trivial⟩ rfl (.refl _)
        · refine s_lit (s := 37) (b := false) rfl (bf c12) ?_
          refine s_off rfl rfl ?_
          refine s_off rfl rfl ?_
          refine s_off rfl rfl ?_
          refine s_off rfl rfl ?_
          refine s_do (o_q (.bool false) rfl trivial rfl) ?_
          refine s_do (o_mov (.bool false) rfl) ?_
          refine s_off rfl rfl ?_
          refine s_off rfl rfl ?_
          refine s_off rfl rfl ?_
          refine s_off rfl rfl ?_
          refine s_do (o_q (.bool false) rfl trivial rfl) ?_
          refine s_do (o_mov (.bool false) rfl) ?_
          refine w_done ?_
          refine k_seq ?_
          refine w_ret ?_
          obtain rfl := os hf
          exact r_flat ⟨trivial, trivial⟩ rfl (.refl _)
      · refine s_lit (s := 32) (b := false) rfl (bf c11) ?_
        refine s_off rfl rfl ?_
        refine s_off rfl rfl ?_
        refine s_off rfl rfl ?_
        refine s_do (o_q (.bool false) rfl trivial rfl) ?_
        refine s_do (o_mov (.bool false) rfl) ?_
        refine s_off rfl rfl ?_
        refine s_off rfl rfl ?_
        refine s_off rfl rfl ?_
        refine s_off rfl rfl ?_
        refine s_do (o_q (.bool false) rfl trivial rfl) ?_
        refine s_do (o_mov (.bool false) rfl) ?_
        refine s_off rfl rfl ?_
        refine s_off rfl rfl ?_
        refine s_off rfl rfl ?_
        refine s_off rfl rfl ?_
        refine s_do (o_q (.bool false) rfl trivial rfl) ?_
        refine s_do (o_mov (.bool false) rfl) ?_
        refine w_done ?_
        refine k_seq ?_
        refine w_ret ?_
        obtain rfl := os hf
        exact r_flat ⟨trivial, trivial⟩ rfl (.refl _)
    · refine w_condf rfl (bf c8) ?_
      refine awp_seq ?_
      refine w_reg ?_
      refine s_do (o_q (.bool (j_1.Kind == 2)) rfl rfl rfl) ?_
      refine s_do (o_mov (.bool (j_1.Kind == 2)) rfl) ?_
      refine w_done ?_
      refine k_seq ?_
      rcases oi hf with ⟨c16, hf⟩ | ⟨c16, hf⟩
      · refine w_condt rfl c16 ?_
        refine awp_seq ?_
        refine w_reg ?_
        refine s_do (o_q (.ptr 0 0 1) rfl trivial rfl) ?_
        refine s_do (o_q (.int .i64 j_1.N) rfl nle rfl) ?_
        obtain ⟨r_17, er18, hf⟩ := ob hf
        refine s_do (o_call (w_impl_isNumber _ _ er18) rfl (.refl _) rfl) ?_
        refine s_do (o_mov (.bool r_17) rfl) ?_
        rcases oi hf with ⟨c19, hf⟩ | ⟨c19, hf⟩
        · refine s_lit (s := 54) (b := true) rfl c19 ?_
          refine s_on rfl ?_
          refine s_do (o_q (.ptr 0 0 2) rfl trivial rfl) ?_
          refine s_on rfl ?_
          refine s_do (o_q (.str j_1.T) rfl nle rfl) ?_
          refine s_on rfl ?_
          refine s_do (o_q (.bool (j_1.T == [])) rfl trivial rfl) ?_
          refine s_do (o_q (.bool (j_1.T == [])) rfl trivial rfl) ?_
          refine s_do (o_mov (.bool (j_1.T == [])) rfl) ?_
          rcases oi hf with ⟨c20, hf⟩ | ⟨c20, hf⟩
          · refine s_lit (s := 59) (b := true) rfl c20 ?_
            refine s_on rfl ?_
            refine s_do (o_q (.ptr 0 0 3) rfl trivial rfl) ?_
            refine s_on rfl ?_
            refine s_do (o_q (.lst 1 (j_1.Keys.map AV.str)) rfl nle rfl) ?_
            refine s_on rfl ?_
            refine s_dof (o_len (enc := AV.str) rfl) fun hl21 => ?_
            refine s_on rfl ?_
            refine s_do (o_q (.bool ((j_1.Keys.length : Int) == 0)) rfl rfl rfl) ?_
            refine s_do (o_q (.bool ((j_1.Keys.length : Int) == 0)) rfl trivial rfl) ?_
            refine s_do (o_mov (.bool ((j_1.Keys.length : Int) == 0)) rfl) ?_
            rcases oi hf with ⟨c22, hf⟩ | ⟨c22, hf⟩
            · refine s_lit (s := 65) (b := true) rfl c22 ?_
              refine s_on rfl ?_
              refine s_do (o_q (.ptr 0 0 4) rfl trivial rfl) ?_
              refine s_on rfl ?_
              refine s_do (o_q (.lst 5 (j_1.Items.map encGJson)) rfl nle rfl) ?_
              refine s_on rfl ?_
              refine s_dof (o_len (enc := encGJson) rfl) fun hl23 => ?_
              refine s_on rfl ?_
              refine s_do (o_q (.bool ((j_1.Items.length : Int) == 0)) rfl rfl rfl) ?_
              refine s_do (o_q (.bool ((j_1.Items.length : Int) == 0)) rfl trivial rfl) ?_
              refine s_do (o_mov (.bool ((j_1.Items.length : Int) == 0)) rfl) ?_
              refine w_done ?_
              refine k_seq ?_
              refine w_ret ?_
              obtain rfl := os hf
              exact r_flat ⟨trivial, trivial⟩ rfl (.refl _)
            · refine s_lit (s := 65) (b := false) rfl (bf c22) ?_
              refine s_off rfl rfl ?_
              refine s_off rfl rfl ?_
              refine s_off rfl rfl ?_
              refine s_off rfl rfl ?_
              refine s_do (o_q (.bool false) rfl trivial rfl) ?_
              refine s_do (o_mov (.bool false) rfl) ?_
              refine w_done ?_
              refine k_seq ?_
              refine w_ret ?_
              obtain rfl := os hf
              exact r_flat ⟨trivial, trivial⟩ rfl (.refl _)
          · refine s_lit (s := 59) (b := false) rfl (bf c20) ?_
            refine s_off rfl rfl ?_
            refine s_off rfl rfl ?_
            refine s_off rfl rfl ?_
            refine s_off rfl rfl ?_
            refine s_do (o_q (.bool false) rfl trivial rfl) ?_
            refine s_do (o_mov (.bool false) rfl) ?_
            refine s_off rfl rfl ?_
            refine s_off rfl rfl ?_
            refine s_off rfl rfl ?_
            refine s_off rfl rfl ?_
            refine s_do (o_q (.bool false) rfl trivial rfl) ?_
            refine s_do (o_mov (.bool false) rfl) ?_
            refine w_done ?_
            refine k_seq ?_
            refine w_ret ?_
            obtain rfl := os hf
            exact r_flat ⟨trivial, trivial⟩ rfl (.refl _)
        · refine s_lit (s := 54) (b := false) rfl (bf c19) ?_
          refine s_off rfl rfl ?_
          refine s_off rfl rfl ?_
          refine s_off rfl rfl ?_
          refine s_do (o_q (.bool false) rfl trivial rfl) ?_
          refine s_do (o_mov (.bool false) rfl) ?_
          refine s_off rfl rfl ?_
          refine s_off rfl rfl ?_
          refine s_off rfl rfl ?_
          refine s_off rfl rfl ?_
          refine s_do (o_q (.bool false) rfl trivial rfl) ?_
          refine s_do (o_mov (.bool false) rfl) ?_
          refine s_off rfl rfl ?_
          refine s_off rfl rfl ?_
          refine s_off rfl rfl ?_
          refine s_off rfl rfl ?_
          refine s_do (o_q (.bool false) rfl trivial rfl) ?_
          refine s_do (o_mov (.bool false) rfl) ?_
          refine w_done ?_
          refine k_seq ?_
          refine w_ret ?_
          obtain rfl := os hf
          exact r_flat ⟨trivial, trivial⟩ rfl (.refl _)
      · refine w_condf rfl (bf c16) ?_
        refine awp_seq ?_
        refine w_reg ?_
        refine s_do (o_q (.bool (j_1.Kind == 3)) rfl rfl rfl) ?_
        refine s_do (o_mov (.bool (j_1.Kind == 3)) rfl) ?_
        refine w_done ?_
        refine k_seq ?_
        rcases oi hf with ⟨c24, hf⟩ | ⟨c24, hf⟩
        · refine w_condt rfl c24 ?_
          refine awp_seq ?_
          refine w_reg ?_
          refine s_do (o_q (.ptr 0 0 1) rfl trivial rfl) ?_
          refine s_do (o_q (.int .i64 j_1.N) rfl nle rfl) ?_
          refine s_do (o_q (.bool (j_1.N == 0)) rfl rfl rfl) ?_
          refine s_do (o_mov (.bool (j_1.N == 0)) rfl) ?_
          rcases oi hf with ⟨c25, hf⟩ | ⟨c25, hf⟩
          · refine s_lit (s := 76) (b := true) rfl c25 ?_
            refine s_on rfl ?_
            refine s_do (o_q (.ptr 0 0 2) rfl trivial rfl) ?_
            refine s_on rfl ?_
            refine s_do (o_q (.str j_1.T) rfl nle rfl) ?_
            refine s_on rfl ?_
            obtain ⟨r_26, er27, hf⟩ := ob hf
            refine s_do (o_call (w_impl_isPlain _ _ er27) rfl (.refl _) rfl) ?_
            refine s_do (o_q (.bool r_26) rfl trivial rfl) ?_
            refine s_do (o_mov (.bool r_26) rfl) ?_
            rcases oi hf with ⟨c28, hf⟩ | ⟨c28, hf⟩
            · refine s_lit (s := 81) (b := true) rfl c28 ?_
              refine s_on rfl ?_
              refine s_do (o_q (.ptr 0 0 3) rfl trivial rfl) ?_
              refine s_on rfl ?_
              refine s_do (o_q (.lst 1 (j_1.Keys.map AV.str)) rfl nle rfl) ?_
              refine s_on rfl ?_
              refine s_dof (o_len (enc := AV.str) rfl) fun hl29 => ?_
              refine s_on rfl ?_
              refine s_do (o_q (.bool ((j_1.Keys.length : Int) == 0)) rfl rfl rfl) ?_
              refine s_do (o_q (.bool ((j_1.Keys.length : Int) == 0)) rfl trivial rfl) ?_
              refine s_do (o_mov (.bool ((j_1.Keys.length : Int) == 0)) rfl) ?_
              rcases oi hf with ⟨c30, hf⟩ | ⟨c30, hf⟩
              · refine s_lit (s := 87) (b := true) rfl c30 ?_
                refine s_on rfl ?_
                refine s_do (o_q (.ptr 0 0 4) rfl trivial rfl) ?_
                refine s_on rfl ?_
                refine s_do (o_q (.lst 5 (j_1.Items.map encGJson)) rfl nle rfl) ?_
                refine s_on rfl ?_
                refine s_dof (o_len (enc := encGJson) rfl) fun hl31 => ?_
                refine s_on rfl ?_
                refine s_do (o_q (.bool ((j_1.Items.length : Int) == 0)) rfl rfl rfl) ?_
                refine s_do (o_q (.bool ((j_1.Items.length : Int) == 0)) rfl trivial rfl) ?_
                refine s_do (o_mov (.bool ((j_1.Items.length : Int) == 0)) rfl) ?_
                refine w_done ?_
                refine k_seq ?_
                refine w_ret ?_
                obtain rfl := os hf
                exact r_flat ⟨trivial, trivial⟩ rfl (.refl _)
              · refine s_lit (s := 87) (b := false) rfl (bf c30) ?_
                refine s_off rfl rfl ?_
                refine s_off rfl rfl ?_
                refine s_off rfl rfl ?_
                refine s_off rfl rfl ?_
                refine s_do (o_q (.bool false) rfl trivial rfl) ?_
                refine s_do (o_mov (.bool false) rfl) ?_
                refine w_done ?_
                refine k_seq ?_
                refine w_ret ?_
                obtain rfl := os hf
                exact r_flat ⟨trivial, trivial⟩ rfl (.refl _)
            · refine s_lit (s := 81) (b := false) rfl (bf c28) ?_
              refine s_off rfl rfl ?_
              refine s_off rfl rfl ?_
              refine s_off rfl rfl ?_
              refine s_off rfl rfl ?_
              refine s_do (o_q (.bool false) rfl trivial rfl) ?_
              refine s_do (o_mov (.bool false) rfl) ?_
              refine s_off rfl rfl ?_
              refine s_off rfl rfl ?_
              refine s_off rfl rfl ?_
              refine s_off rfl rfl ?_
              refine s_do (o_q (.bool false) rfl trivial rfl) ?_
              refine s_do (o_mov (.bool false) rfl) ?_
              refine w_done ?_
              refine k_seq ?_
              refine w_ret ?_
              obtain rfl := os hf
              exact r_flat ⟨trivial, trivial⟩ rfl (.refl _)
          · refine s_lit (s := 76) (b := false) rfl (bf c25) ?_
            refine s_off rfl rfl ?_
            refine s_off rfl rfl ?_
            refine s_off rfl rfl ?_
            refine s_do (o_q (.bool false) rfl trivial rfl) ?_
            refine s_do (o_mov (.bool false) rfl) ?_
            refine s_off rfl rfl ?_
            refine s_off rfl rfl ?_
            refine s_off rfl rfl ?_
            refine s_off rfl rfl ?_
            refine s_do (o_q (.bool false) rfl trivial rfl) ?_
            refine s_do (o_mov (.bool false) rfl) ?_
            refine s_off rfl rfl ?_
            refine s_off rfl rfl ?_
            refine s_off rfl rfl ?_
            refine s_off rfl rfl ?_
            refine s_do (o_q (.bool false) rfl trivial rfl) ?_
            refine s_do (o_mov (.bool false) rfl) ?_
            refine w_done ?_
            refine k_seq ?_
            refine w_ret ?_
            obtain rfl := os hf
            exact r_flat ⟨trivial, trivial⟩ rfl (.refl _)
        · refine w_condf rfl (bf c24) ?_
          refine awp_seq ?_
          refine w_reg ?_
          refine s_do (o_q (.bool (j_1.Kind == 4)) rfl rfl rfl) ?_
          refine s_do (o_mov (.bool (j_1.Kind == 4)) rfl) ?_
          refine w_done ?_
          refine k_seq ?_
          rcases oi hf with ⟨c32, hf⟩ | ⟨c32, hf⟩
          · refine w_condt rfl c32 ?_
            refine awp_seq ?_
            refine w_reg ?_
            refine s_do (o_q (.ptr 0 0 1) rfl trivial rfl) ?_
            refine s_do (o_q (.int .i64 j_1.N) rfl nle rfl) ?_
            refine s_do (o_q (.bool (j_1.N == 0)) rfl rfl rfl) ?_
            refine s_do (o_mov (.bool (j_1.N == 0)) rfl) ?_
            rcases oi hf with ⟨c33, hf⟩ | ⟨c33, hf⟩
            · refine s_lit (s := 98) (b := true) rfl c33 ?_
              refine s_on rfl ?_
              refine s_do (o_q (.ptr 0 0 2) rfl trivial rfl) ?_
              refine s_on rfl ?_
              refine s_do (o_q (.str j_1.T) rfl nle rfl) ?_
              refine s_on rfl ?_
              refine s_do (o_q (.bool (j_1.T == [])) rfl trivial rfl) ?_
              refine s_do (o_q (.bool (j_1.T == [])) rfl trivial rfl) ?_
              refine s_do (o_mov (.bool (j_1.T == [])) rfl) ?_
              rcases oi hf with ⟨c34, hf⟩ | ⟨c34, hf⟩
              · refine s_lit (s := 103) (b := true) rfl c34 ?_
                refine s_on rfl ?_
                refine s_do (o_q (.ptr 0 0 3) rfl trivial rfl) ?_
                refine s_on rfl ?_
                refine s_do (o_q (.lst 1 (j_1.Keys.map AV.str)) rfl nle rfl) ?_
                refine s_on rfl ?_
                refine s_dof (o_len (enc := AV.str) rfl) fun hl35 => ?_
                refine s_on rfl ?_
                refine s_do (o_q (.bool ((j_1.Keys.length : Int) == 0)) rfl rfl rfl) ?_
                refine s_do (o_q (.bool ((j_1.Keys.length : Int) == 0)) rfl trivial rfl) ?_
                refine s_do (o_mov (.bool ((j_1.Keys.length : Int) == 0)) rfl) ?_
                refine w_done ?_
                refine k_seq ?_
                refine w_ret ?_
                obtain rfl := os hf
                exact r_flat ⟨trivial, trivial⟩ rfl (.refl _)
              · refine s_lit (s := 103) (b := false) rfl (bf c34) ?_
                refine s_off rfl rfl ?_
                refine s_off rfl rfl ?_
                refine s_off rfl rfl ?_
                refine s_off rfl rfl ?_
                refine s_do (o_q (.bool false) rfl trivial rfl) ?_
                refine s_do (o_mov (.bool false) rfl) ?_
                refine w_done ?_
                refine k_seq ?_
                refine w_ret ?_
                obtain rfl := os hf
                exact r_flat ⟨trivial, trivial⟩ rfl (.refl _)
            · refine s_lit (s := 98) (b := false) rfl (bf c33) ?_
              refine s_off rfl rfl ?_
              refine s_off rfl rfl ?_
              refine s_off rfl rfl ?_
              refine s_do (o_q (.bool false) rfl trivial rfl) ?_
              refine s_do (o_mov (.bool false) rfl) ?_
              refine s_off rfl rfl ?_
              refine s_off rfl rfl ?_
              refine s_off rfl rfl ?_
              refine s_off rfl rfl ?_
              refine s_do (o_q (.bool false) rfl trivial rfl) ?_
              refine s_do (o_mov (.bool false) rfl) ?_
              refine w_done ?_
              refine k_seq ?_
              refine w_ret ?_
              obtain rfl := os hf
              exact r_flat ⟨trivial, trivial⟩ rfl (.refl _)
          · refine w_condf rfl (bf c32) ?_
            refine awp_seq ?_
            refine w_reg ?_
            refine s_do (o_q (.bool (j_1.Kind == 5)) rfl rfl rfl) ?_
            refine s_do (o_mov (.bool (j_1.Kind == 5)) rfl) ?_
            refine w_done ?_
            refine k_seq ?_
            rcases oi hf with ⟨c36, hf⟩ | ⟨c36, hf⟩
            · refine w_condt rfl c36 ?_
              refine awp_seq ?_
              refine w_reg ?_
              refine s_do (o_q (.ptr 0 0 1) rfl trivial rfl) ?_
              refine s_do (o_q (.int .i64 j_1.N) rfl nle rfl) ?_
              refine s_do (o_q (.bool (j_1.N == 0)) rfl rfl rfl) ?_
              refine s_do (o_mov (.bool (j_1.N == 0)) rfl) ?_
              rcases oi hf with ⟨c37, hf⟩ | ⟨c37, hf⟩
              · refine s_lit (s := 114) (b := true) rfl c37 ?_
                refine s_on rfl ?_
                refine s_do (o_q (.ptr 0 0 2) rfl trivial rfl) ?_
                refine s_on rfl ?_
                refine s_do (o_q (.str j_1.T) rfl nle rfl) ?_
                refine s_on rfl ?_
                refine s_do (o_q (.bool (j_1.T == [])) rfl trivial rfl) ?_
                refine s_do (o_q (.bool (j_1.T == [])) rfl trivial rfl) ?_
                refine s_do (o_mov (.bool (j_1.T == [])) rfl) ?_
                rcases oi hf with ⟨c38, hf⟩ | ⟨c38, hf⟩
                · refine s_lit (s := 119) (b := true) rfl c38 ?_
                  refine s_on rfl ?_
                  refine s_do (o_q (.ptr 0 0 3) rfl trivial rfl) ?_
                  refine s_on rfl ?_
                  refine s_do (o_q (.lst 1 (j_1.Keys.map AV.str)) rfl nle rfl) ?_
                  refine s_on rfl ?_
                  refine s_dof (o_len (enc := AV.str) rfl) fun hl39 => ?_
                  refine s_on rfl ?_
                  refine s_do (o_q (.ptr 0 0 4) rfl trivial rfl) ?_
                  refine s_on rfl ?_
                  refine s_do (o_q (.lst 5 (j_1.Items.map encGJson)) rfl nle rfl) ?_
                  refine s_on rfl ?_
                  refine s_dof (o_len (enc := encGJson) rfl) fun hl40 => ?_
                  refine s_on rfl ?_
                  refine s_do (o_q (.bool ((j_1.Keys.length : Int) == (j_1.Items.length : Int))) rfl rfl rfl) ?_
                  refine s_do (o_q (.bool ((j_1.Keys.length : Int) == (j_1.Items.length : Int))) rfl trivial rfl) ?_
                  refine s_do (o_mov (.bool ((j_1.Keys.length : Int) == (j_1.Items.length : Int))) rfl) ?_
                  rcases oi hf with ⟨c41, hf⟩ | ⟨c41, hf⟩
                  · refine s_lit (s := 128) (b := true) rfl c41 ?_
                    refine s_on rfl ?_
                    refine s_do (o_q (.ptr 0 0 3) rfl trivial rfl) ?_
                    refine s_on rfl ?_
                    refine s_do (o_q (.lst 1 (j_1.Keys.map AV.str)) rfl nle rfl) ?_
                    refine s_on rfl ?_
                    obtain ⟨r_42, er43, hf⟩ := ob hf
                    refine s_do (o_call (w_impl_areKeys _ _ er43) rfl (.refl _) rfl) ?_
                    refine s_do (o_q (.bool r_42) rfl trivial rfl) ?_
                    refine s_do (o_mov (.bool r_42) rfl) ?_
                    refine w_done ?_
                    refine k_seq ?_
                    refine w_ret ?_
                    obtain rfl := os hf
                    exact r_flat ⟨trivial, trivial⟩ rfl (.refl _)
                  · refine s_lit (s := 128) (b := false) rfl (bf c41) ?_
                    refine s_off rfl rfl ?_
                    refine s_off rfl rfl ?_
                    refine s_off rfl rfl ?_
                    refine s_do (o_q (.bool false) rfl trivial rfl) ?_
                    refine s_do (o_mov (.bool false) rfl) ?_
                    refine w_done ?_
                    refine k_seq ?_
                    refine w_ret ?_
                    obtain rfl := os hf
                    exact r_flat ⟨trivial, trivial⟩ rfl (.refl _)
                · refine s_lit (s := 119) (b := false) rfl (bf c38) ?_
                  refine s_off rfl rfl ?_
                  refine s_off rfl rfl ?_
                  refine s_off rfl rfl ?_
                  refine s_off rfl rfl ?_
                  refine s_off rfl rfl ?_
                  refine s_off rfl rfl ?_
                  refine s_off rfl rfl ?_
                  refine s_do (o_q (.bool false) rfl trivial rfl) ?_
                  refine s_do (o_mov (.bool false) rfl) ?_
                  refine s_off rfl rfl ?_
                  refine s_off rfl rfl ?_
                  refine s_off rfl rfl ?_
                  refine s_do (o_q (.bool false) rfl trivial rfl) ?_
                  refine s_do (o_mov (.bool false) rfl) ?_
                  refine w_done ?_
                  refine k_seq ?_
                  refine w_ret ?_
                  obtain rfl := os hf
                  exact r_flat ⟨trivial, trivial⟩ rfl (.refl _)
              · refine s_lit (s := 114) (b := false) rfl (bf c37) ?_
                refine s_off rfl rfl ?_
                refine s_off rfl rfl ?_
                refine s_off rfl rfl ?_
                refine s_do (o_q (.bool false) rfl trivial rfl) ?_
                refine s_do (o_mov (.bool false) rfl) ?_
                refine s_off rfl rfl ?_
                refine s_off rfl rfl ?_
                refine s_off rfl rfl ?_
                refine s_off rfl rfl ?_
                refine s_off rfl rfl ?_
                refine s_off rfl rfl ?_
                refine s_off rfl rfl ?_
                refine s_do (o_q (.bool false) rfl trivial rfl) ?_
                refine s_do (o_mov (.bool false) rfl) ?_
                refine s_off rfl rfl ?_
                refine s_off rfl rfl ?_
                refine s_off rfl rfl ?_
                refine s_do (o_q (.bool false) rfl trivial rfl) ?_
                refine s_do (o_mov (.bool false) rfl) ?_
                refine w_done ?_
                refine k_seq ?_
                refine w_ret ?_
                obtain rfl := os hf
                exact r_flat ⟨trivial, trivial⟩ rfl (.refl _)
            · refine w_condf rfl (bf c36) ?_
              refine w_skip ?_
              refine k_blk ?_
              refine k_seq ?_
              refine awp_seq ?_
              refine w_reg ?_
              refine s_do (o_mov (.bool false) rfl) ?_
              refine w_done ?_
              refine k_seq ?_
              refine w_ret ?_
              obtain rfl := os hf
              exact r_flat ⟨trivial, trivial⟩ rfl (.refl _)

/- (impl.Json).rightIn$1 -/
def c214_h0 : ACode :=
 (.seq (.reg (.q ⟨(some 3), none, .box 5 (.t 0)⟩
 (.q ⟨(some 4), none, .mov (.c (.bool false))⟩
 .done)))
 (.seq (.reg (.q ⟨(some 5), none, .load 5 true (.t 3)⟩
 (.q ⟨(some 6), none, .load 1 false (.t 1)⟩
 (.q ⟨(some 7), none, .bin .add (.t 6) (.c (.int .i64 1))⟩
 (.q ⟨(some 8), none, .load 1 false (.t 2)⟩
 (.q ⟨(some 9), none, .call 164 [(.t 5), (.t 7), (.t 8)]⟩
 (.q ⟨(some 10), none, .not (.t 9)⟩
 (.q ⟨(some 4), none, .mov (.t 10)⟩
 .done))))))))
 .ret))
theorem fc214_h0 : fcomp Try.prog Try.f214 = some (c214_h0.erase, [.mov (.t 4)], 11) := by kernel_rfl
def impl_Json_rightIn_1_h0 (rec : (GJson → Int → Int → Option (Bool × Int))) (item_1 : GJson) (c_2 : Int) (c_3 : Int) : Option (Bool × Int × Int) :=
    (rec item_1 (w64 (c_2 + 1)) c_3).bind fun r_4 =>
    some ((!r_4.1), c_2, r_4.2)
theorem w_impl_Json_rightIn_1_h0 (rec : (GJson → Int → Int → Option (Bool × Int))) (hrec : ∀ a0 a1 a2 r, rec a0 a1 a2 = some r → CallHeap Try.prog false 164 [(encGJson a0), (.int .i64 a1), (.ptr 0 0 0)] [.box 1 (.int .i64 a2)] (.bool r.1) [.box 1 (.int .i64 r.2)]) (item_1 : GJson) (c_2 : Int) (c_3 : Int) (r : (Bool × Int × Int)) (hf : impl_Json_rightIn_1_h0 rec item_1 c_2 c_3 = some r) : CallHeap Try.prog false 214 [(encGJson item_1), (.ptr 0 0 0), (.ptr 1 0 0)] [.box 1 (.int .i64 c_2), .box 1 (.ptr 2 0 0), .box 1 (.int .i64 c_3)] (.bool r.1) [.box 1 (.int .i64 r.2.1), .box 1 (.ptr 2 0 0), .box 1 (.int .i64 r.2.2)] := by
  refine CallHeap.of_awp mixed Try.func214 fc214_h0 nle ?_
  rw [argT_eq]
  rw [encGJson_eq item_1]
  unfold impl_Json_rightIn_1_h0 at hf
  unfold c214_h0
  refine (show awp Try.prog false 3 _ (ofL [(0, (.agg [(.int .i64 item_1.Kind), (.int .i64 item_1.N), (.str item_1.T), (.lst 1 (item_1.Keys.map AV.str)), (.lst 5 (item_1.Items.map encGJson))])), (1, (.ptr 0 0 0)), (2, (.ptr 1 0 0))]) [.box 1 (.int .i64 c_2), .box 1 (.ptr 2 0 0), .box 1 (.int .i64 c_3)] _ from ?_)
  refine awp_seq ?_
  refine w_reg ?_
  refine s_do (o_box (j := 3) (c := (.agg [(.int .i64 item_1.Kind), (.int .i64 item_1.N), (.str item_1.T), (.lst 1 (item_1.Keys.map AV.str)), (.lst 5 (item_1.Items.map encGJson))])) rfl trivial rfl rfl) ?_
  refine s_do (o_mov (.bool false) rfl) ?_
  refine w_done ?_
  refine k_seq ?_
  refine awp_seq ?_
  refine w_reg ?_
  obtain ⟨r_4, er5, hf⟩ := ob hf
  refine s_do (o_q (.agg [(.int .i64 item_1.Kind), (.int .i64 item_1.N), (.str item_1.T), (.lst 1 (item_1.Keys.map AV.str)), (.lst 5 (item_1.Items.map encGJson))]) rfl nle rfl) ?_
  refine s_do (o_q (.int .i64 c_2) rfl ⟨rfl, rfl⟩ rfl) ?_
  refine s_do (o_q (.int .i64 (w64 (c_2 + 1))) rfl rfl rfl) ?_
  refine s_do (o_q (.ptr 2 0 0) rfl ⟨rfl, rfl⟩ rfl) ?_
  refine s_do (o_callh (v := (.bool r_4.1)) (h2 := [.box 1 (.int .i64 c_2), .box 1 (.ptr 2 0 0), .box 1 (.int .i64 r_4.2), .box 5 (.agg [(.int .i64 item_1.Kind), (.int .i64 item_1.N), (.str item_1.T), (.lst 1 (item_1.Keys.map AV.str)), (.lst 5 (item_1.Items.map encGJson))])]) [] [2] (hrec _ _ _ _ er5) rfl (.cons (.of_eq (encGJson_eq item_1).symm) (.cons (.refl _) (.cons (.refl _) .nil))) (.refl _) rfl rfl) ?_
  refine s_do (o_q (.bool (!r_4.1)) rfl trivial rfl) ?_
  refine s_do (o_mov (.bool (!r_4.1)) rfl) ?_
  refine w_done ?_
  refine k_seq ?_
  refine w_ret ?_
  obtain rfl := os hf
  exact r_heap [] [0, 1, 2] rfl ⟨trivial, trivial⟩ rfl (.refl _) (.refl _)

/- slices.IndexFunc[[]impl.Json,impl.Json] -/
def c227_h0 : ACode :=
 (.seq (.reg (.q ⟨(some 4), none, .mov (.c (.int .i64 0))⟩
 .done))
 (.seq (.seq (.reg (.q ⟨(some 6), none, .mov (.t 0)⟩
 (.q ⟨(some 7), none, .len (.t 6)⟩
 (.q ⟨(some 8), none, .mov (.c (.int .i64 0))⟩
 .done))))
 (.block 0 (.loop (.seq (.reg (.q ⟨(some 9), none, .bin .lss (.t 8) (.t 7)⟩
 .done))
 (.seq (.cond (.t 9) .skip
 (.exit 0))
 (.seq (.block 1 (.seq (.reg (.q ⟨(some 10), none, .mov (.t 8)⟩
 (.q ⟨(some 5), none, .mov (.t 10)⟩
 .done)))
 (.seq (.reg (.q ⟨(some 11), none, .mov (.t 1)⟩
 (.q ⟨(some 12), none, .mov (.t 0)⟩
 (.q ⟨(some 13), none, .mov (.t 5)⟩
 (.q ⟨(some 14), none, .iaddr 5 (.t 12) (.t 13)⟩
 (.q ⟨(some 15), none, .load 5 true (.t 14)⟩
 (.q ⟨(some 16), none, .calv (.t 11) [(.t 15)]⟩
 .done)))))))
 (.cond (.t 16) (.seq (.reg (.q ⟨(some 17), none, .mov (.t 5)⟩
 (.q ⟨(some 4), none, .mov (.t 17)⟩
 .done)))
 .ret)
 .skip))))
 (.reg (.q ⟨(some 18), none, .bin .add (.t 8) (.c (.int .i64 1))⟩
 (.q ⟨(some 8), none, .mov (.t 18)⟩
 .done)))))))))
 (.cut (.seq (.reg (.q ⟨(some 4), none, .mov (.c (.int .i64 (-1)))⟩
 .done))
 .ret))))
theorem fc227_h0 : fcomp Try.prog Try.f227 = some (c227_h0.erase, [.mov (.t 4)], 19) := by kernel_rfl
def slices_IndexFunc_impl_Json_impl_Json_h0_L1 (rec : (GJson → Int → Int → Option (Bool × Int))) : List GJson → Nat → Int → Int → Option (Fl (Int × Int × Int) (Int × Int))
  | [], s8_20, x_21, x_22 =>
    some (.go (x_21, x_22))
  | x_38 :: xs, s8_20, x_21, x_22 =>
    (impl_Json_rightIn_1_h0 rec x_38 x_21 x_22).bind fun r_39 =>
    if r_39.1 then
    some (.ret ((s8_20 : Int), r_39.2.1, r_39.2.2))
    else
    slices_IndexFunc_impl_Json_impl_Json_h0_L1 rec xs (s8_20 + 1) r_39.2.1 r_39.2.2

def slices_IndexFunc_impl_Json_impl_Json_h0 (rec : (GJson → Int → Int → Option (Bool × Int))) (s_1 : (List GJson)) (c_2 : Int) (c_3 : Int) : Option (Int × Int × Int) :=
    (slices_IndexFunc_impl_Json_impl_Json_h0_L1 rec s_1 0 c_2 c_3).bind fun q => (match q with
    | .ret r => some r
    | .go (x_29, x_30) =>
    some ((-1), x_29, x_30))
theorem w_slices_IndexFunc_impl_Json_impl_Json_h0 (rec : (GJson → Int → Int → Option (Bool × Int))) (hrec : ∀ a0 a1 a2 r, rec a0 a1 a2 = some r → CallHeap Try.prog false 164 [(encGJson a0), (.int .i64 a1), (.ptr 0 0 0)] [.box 1 (.int .i64 a2)] (.bool r.1) [.box 1 (.int .i64 r.2)]) (s_1 : (List GJson)) (c_2 : Int) (c_3 : Int) (r : (Int × Int × Int)) (hf : slices_IndexFunc_impl_Json_impl_Json_h0 rec s_1 c_2 c_3 = some r) : CallHeap Try.prog false 227 [(.lst 5 (s_1.map encGJson)), (.fn 214 [(.ptr 0 0 0), (.ptr 1 0 0)])] [.box 1 (.int .i64 c_2), .box 1 (.ptr 2 0 0), .box 1 (.int .i64 c_3)] (.int .i64 r.1) [.box 1 (.int .i64 r.2.1), .box 1 (.ptr 2 0 0), .box 1 (.int .i64 r.2.2)] := by
  refine CallHeap.of_awp mixed Try.func227 fc227_h0 nle ?_
  rw [argT_eq]
  unfold slices_IndexFunc_impl_Json_impl_Json_h0 at hf
  unfold c227_h0
  refine (show awp Try.prog false 3 _ (ofL [(0, (.lst 5 (s_1.map encGJson))), (1, (.fn 214 [(.ptr 0 0 0), (.ptr 1 0 0)]))]) [.box 1 (.int .i64 c_2), .box 1 (.ptr 2 0 0), .box 1 (.int .i64 c_3)] _ from ?_)
  refine awp_seq ?_
  refine w_reg ?_
  refine s_do (o_mov (.int .i64 0) rfl) ?_
  refine w_done ?_
  refine k_seq ?_
  refine awp_seq ?_
  refine awp_seq ?_
  refine w_reg ?_
  refine s_do (o_mov (.lst 5 (s_1.map encGJson)) rfl) ?_
  refine s_dof (o_len (enc := encGJson) rfl) fun hl4 => ?_
  refine s_do (o_mov (.int .i64 0) rfl) ?_
  refine w_done ?_
  refine k_seq ?_
  obtain ⟨p31, hb1, hf⟩ := ob hf
  refine awp_cutx (X := {q : (Int × Int) // p31 = .go q}) (fun q => ([], [.box 1 (.int .i64 q.1.1), .box 1 (.ptr 2 0 0), .box 1 (.int .i64 q.1.2)])) ?_ ?_
  · refine awp_loop (X := {q : (Nat × Int × Int) // slices_IndexFunc_impl_Json_impl_Json_h0_L1 rec (s_1.drop q.1) q.1 q.2.1 q.2.2 = some p31}) (fun q => ([(0, (.lst 5 (s_1.map encGJson))), (1, (.fn 214 [(.ptr 0 0 0), (.ptr 1 0 0)])), (7, (.int .i64 (s_1.length : Int))), (8, (.int .i64 (q.1.1 : Int)))], [.box 1 (.int .i64 q.1.2.1), .box 1 (.ptr 2 0 0), .box 1 (.int .i64 q.1.2.2)])) (fun q => s_1.length - q.1.1) ⟨(0, c_2, c_3), hb1⟩ ⟨[], [0, 1, 2], _, _, rfl, rfl, ⟨.refl _, ⟨.refl _, ⟨.refl _, ⟨.refl _, trivial⟩⟩⟩⟩, (.refl _)⟩ ?_
    rintro ⟨⟨s8_20, x_21, x_22⟩, hc1⟩
    have hc1 : slices_IndexFunc_impl_Json_impl_Json_h0_L1 rec (s_1.drop s8_20) s8_20 x_21 x_22 = some p31 := hc1
    refine (show awp Try.prog false 3 _ (ofL [(0, (.lst 5 (s_1.map encGJson))), (1, (.fn 214 [(.ptr 0 0 0), (.ptr 1 0 0)])), (7, (.int .i64 (s_1.length : Int))), (8, (.int .i64 (s8_20 : Int)))]) [.box 1 (.int .i64 x_21), .box 1 (.ptr 2 0 0), .box 1 (.int .i64 x_22)] _ from ?_)
    rcases dropc s_1 s8_20 with ⟨hie34, hd37⟩ | ⟨hlt32, x_38, hx33, hd37⟩
    · rw [hd37, slices_IndexFunc_impl_Json_impl_Json_h0_L1.eq_1] at hc1
      have hq36 := dlf hie34
      refine awp_seq ?_
      refine w_reg ?_
      refine s_do (o_q (.bool (decide ((s8_20 : Int) < (s_1.length : Int)))) rfl rfl rfl) ?_
      refine w_done ?_
      refine k_seq ?_
      refine awp_seq ?_
      refine w_condf rfl hq36 ?_
      refine w_exit ?_
      refine k_seqx ?_
      refine k_loopx ?_
      refine k_blkx ?_
      obtain rfl := os hc1
      exact k_cutn ⟨_, rfl⟩ ⟨[], [0, 1, 2], _, _, rfl, rfl, trivial, (.refl _)⟩
    · rw [hd37, slices_IndexFunc_impl_Json_impl_Json_h0_L1.eq_2] at hc1
      have hq36 := dlt hlt32
      refine awp_seq ?_
      refine w_reg ?_
      refine s_do (o_q (.bool (decide ((s8_20 : Int) < (s_1.length : Int)))) rfl rfl rfl) ?_
      refine w_done ?_
      refine k_seq ?_
      refine awp_seq ?_
      refine w_condt rfl hq36 ?_
      refine w_skip ?_
      refine k_seq ?_
      refine awp_seq ?_
      refine w_blk ?_
      refine awp_seq ?_
      refine w_reg ?_
      refine s_do (o_mov (.int .i64 (s8_20 : Int)) rfl) ?_
      refine s_do (o_mov (.int .i64 (s8_20 : Int)) rfl) ?_
      refine w_done ?_
      refine k_seq ?_
      refine awp_seq ?_
      refine w_reg ?_
      obtain ⟨r_39, er40, hc1⟩ := ob hc1
      refine s_do (o_mov (.fn 214 [(.ptr 0 0 0), (.ptr 1 0 0)]) rfl) ?_
      refine s_do (o_mov (.lst 5 (s_1.map encGJson)) rfl) ?_
      refine s_do (o_mov (.int .i64 (s8_20 : Int)) rfl) ?_
      refine s_do (o_iaddrn (enc := encGJson) rfl rfl hx33) ?_
      refine s_do (o_loadeq (v := (.agg [(.int .i64 x_38.Kind), (.int .i64 x_38.N), (.str x_38.T), (.lst 1 (x_38.Keys.map AV.str)), (.lst 5 (x_38.Items.map encGJson))])) rfl (encGJson_eq _) nle rfl) ?_
      refine s_do (o_calvh (v := (.bool r_39.1)) (h2 := [.box 1 (.int .i64 r_39.2.1), .box 1 (.ptr 2 0 0), .box 1 (.int .i64 r_39.2.2)]) [] [0, 1, 2] rfl (by kernel_rfl) (w_impl_Json_rightIn_1_h0 rec hrec _ _ _ _ er40) rfl rfl (.cons (.of_eq (encGJson_eq x_38).symm) (.cons (.refl _) (.cons (.refl _) .nil))) (.refl _) rfl rfl) ?_
      refine w_done ?_
      refine k_seq ?_
      rcases oi hc1 with ⟨c41, hc1⟩ | ⟨c41, hc1⟩
      · refine w_condt rfl c41 ?_
        refine awp_seq ?_
        refine w_reg ?_
        refine s_do (o_mov (.int .i64 (s8_20 : Int)) rfl) ?_
        refine s_do (o_mov (.int .i64 (s8_20 : Int)) rfl) ?_
        refine w_done ?_
        refine k_seq ?_
        refine w_ret ?_
        obtain rfl := os hc1
        obtain rfl := os hf
        exact r_heap [] [0, 1, 2] rfl ⟨trivial, trivial⟩ rfl (.refl _) (.refl _)
      · refine w_condf rfl (bf c41) ?_
        refine w_skip ?_
        refine k_blk ?_
        refine k_seq ?_
        refine w_reg ?_
        refine s_do (o_q (.int .i64 (w64 ((s8_20 : Int) + 1))) rfl rfl rfl) ?_
        refine s_do (o_mov (.int .i64 (w64 ((s8_20 : Int) + 1))) rfl) ?_
        refine w_done ?_
        exact k_loopn ⟨((s8_20 + 1), r_39.2.1, r_39.2.2), hc1⟩ (mul hlt32) ⟨[], [0, 1, 2], _, _, rfl, rfl, ⟨.refl _, ⟨.refl _, ⟨.refl _, ⟨.of_eq (congrArg (AV.int _) (w64_incr hlt32 hl4)), trivial⟩⟩⟩⟩, (.refl _)⟩
  · rintro ⟨⟨x_29, x_30⟩, rfl⟩
    refine awp_seq ?_
    refine w_reg ?_
    refine s_do (o_mov (.int .i64 (-1)) rfl) ?_
    refine w_done ?_
    refine k_seq ?_
    refine w_ret ?_
    obtain rfl := os hf
    exact r_heap [] [0, 1, 2] rfl ⟨trivial, trivial⟩ rfl (.refl _) (.refl _)

/- slices.ContainsFunc[[]impl.Json,impl.Json] -/
def c213_h0 : ACode :=
 (.seq (.reg (.q ⟨(some 4), none, .mov (.c (.bool false))⟩
 .done))
 (.seq (.reg (.q ⟨(some 5), none, .mov (.t 0)⟩
 (.q ⟨(some 6), none, .mov (.t 1)⟩
 (.q ⟨(some 7), none, .call 227 [(.t 5), (.t 6)]⟩
 (.q ⟨(some 8), none, .bin .geq (.t 7) (.c (.int .i64 0))⟩
 (.q ⟨(some 4), none, .mov (.t 8)⟩
 .done))))))
 .ret))
theorem fc213_h0 : fcomp Try.prog Try.f213 = some (c213_h0.erase, [.mov (.t 4)], 9) := by kernel_rfl
def slices_ContainsFunc_impl_Json_impl_Json_h0 (rec : (GJson → Int → Int → Option (Bool × Int))) (s_1 : (List GJson)) (c_2 : Int) (c_3 : Int) : Option (Bool × Int × Int) :=
    (slices_IndexFunc_impl_Json_impl_Json_h0 rec s_1 c_2 c_3).bind fun r_4 =>
    some ((decide (r_4.1 ≥ 0)), r_4.2.1, r_4.2.2)
theorem w_slices_ContainsFunc_impl_Json_impl_Json_h0 (rec : (GJson → Int → Int → Option (Bool × Int))) (hrec : ∀ a0 a1 a2 r, rec a0 a1 a2 = some r → CallHeap Try.prog false 164 [(encGJson a0), (.int .i64 a1), (.ptr 0 0 0)] [.box 1 (.int .i64 a2)] (.bool r.1) [.box 1 (.int .i64 r.2)]) (s_1 : (List GJson)) (c_2 : Int) (c_3 : Int) (r : (Bool × Int × Int)) (hf : slices_ContainsFunc_impl_Json_impl_Json_h0 rec s_1 c_2 c_3 = some r) : CallHeap Try.prog false 213 [(.lst 5 (s_1.map encGJson)), (.fn 214 [(.ptr 0 0 0), (.ptr 1 0 0)])] [.box 1 (.int .i64 c_2), .box 1 (.ptr 2 0 0), .box 1 (.int .i64 c_3)] (.bool r.1) [.box 1 (.int .i64 r.2.1), .box 1 (.ptr 2 0 0), .box 1 (.int .i64 r.2.2)] := by
  refine CallHeap.of_awp mixed Try.func213 fc213_h0 nle ?_
  rw [argT_eq]
  unfold slices_ContainsFunc_impl_Json_impl_Json_h0 at hf
  unfold c213_h0
  refine (show awp Try.prog false 3 _ (ofL [(0, (.lst 5 (s_1.map encGJson))), (1, (.fn 214 [(.ptr 0 0 0), (.ptr 1 0 0)]))]) [.box 1 (.int .i64 c_2), .box 1 (.ptr 2 0 0), .box 1 (.int .i64 c_3)] _ from ?_)
  refine awp_seq ?_
  refine w_reg ?_
  refine s_do (o_mov (.bool false) rfl) ?_
  refine w_done ?_
  refine k_seq ?_
  refine awp_seq ?_
  refine w_reg ?_
  obtain ⟨r_4, er5, hf⟩ := ob hf
  refine s_do (o_mov (.lst 5 (s_1.map encGJson)) rfl) ?_
  refine s_do (o_mov (.fn 214 [(.ptr 0 0 0), (.ptr 1 0 0)]) rfl) ?_
  refine s_do (o_callh (v := (.int .i64 r_4.1)) (h2 := [.box 1 (.int .i64 r_4.2.1), .box 1 (.ptr 2 0 0), .box 1 (.int .i64 r_4.2.2)]) [] [0, 1, 2] (w_slices_IndexFunc_impl_Json_impl_Json_h0 rec hrec _ _ _ _ er5) rfl (.refl _) (.refl _) rfl rfl) ?_
  refine s_do (o_q (.bool (decide (r_4.1 ≥ 0))) rfl rfl rfl) ?_
  refine s_do (o_mov (.bool (decide (r_4.1 ≥ 0))) rfl) ?_
  refine w_done ?_
  refine k_seq ?_
  refine w_ret ?_
  obtain rfl := os hf
  exact r_heap [] [0, 1, 2] rfl ⟨trivial, trivial⟩ rfl (.refl _) (.refl _)

/- (impl.Json).rightIn -/
def c164_h0 : ACode :=
 (.seq (.reg (.q ⟨(some 3), none, .box 5 (.t 0)⟩
 (.q ⟨(some 4), none, .box 1 (.t 1)⟩
 (.q ⟨(some 5), none, .box 1 (.t 2)⟩
 (.q ⟨(some 6), none, .mov (.c (.bool false))⟩
 .done)))))
 (.seq (.seq (.reg (.q ⟨(some 7), none, .load 1 false (.t 5)⟩
 (.q ⟨(some 8), none, .nilck (.t 7)⟩
 (.q ⟨(some 9), none, .load 1 false (.t 8)⟩
 (.q ⟨(some 10), none, .bin .sub (.t 9) (.c (.int .i64 1))⟩
 (.q ⟨(some 11), none, .nilck (.t 7)⟩
 (.q ⟨none, none, .store 1 (.t 11) (.t 10)⟩
 .done)))))))
 (.seq (.reg (.q ⟨(some 12), none, .load 1 false (.t 5)⟩
 (.q ⟨(some 13), none, .nilck (.t 12)⟩
 (.q ⟨(some 14), none, .load 1 false (.t 13)⟩
 (.q ⟨(some 15), none, .bin .lss (.t 14) (.c (.int .i64 0))⟩
 (.q ⟨(some 16), none, .mov (.t 15)⟩
 (.q ⟨(some 17), (some (16, false)), .load 1 false (.t 4)⟩
 (.q ⟨(some 18), (some (16, false)), .bin .geq (.t 17) (.c (.int .i64 12))⟩
 (.q ⟨(some 19), none, .pick (.t 16) (.c (.bool true)) (.t 18)⟩
 (.q ⟨(some 20), none, .mov (.t 19)⟩
 (.q ⟨(some 21), (some (20, false)), .load 5 true (.t 3)⟩
 (.q ⟨(some 22), (some (20, false)), .call 212 [(.t 21)]⟩
 (.q ⟨(some 23), (some (20, false)), .not (.t 22)⟩
 (.q ⟨(some 24), none, .pick (.t 20) (.c (.bool true)) (.t 23)⟩
 .done))))))))))))))
 (.cut (.cond (.t 24) (.seq (.reg (.q ⟨(some 6), none, .mov (.c (.bool false))⟩
 .done))
 .ret)
 .skip))))
 (.seq (.reg (.q ⟨(some 25), none, .faddr 4 (.t 3)⟩
 (.q ⟨(some 26), none, .load 1 false (.t 25)⟩
 (.q ⟨(some 27), none, .mkfn 214 [(.t 4), (.t 5)]⟩
 (.q ⟨(some 28), none, .call 213 [(.t 26), (.t 27)]⟩
 (.q ⟨(some 29), none, .not (.t 28)⟩
 (.q ⟨(some 6), none, .mov (.t 29)⟩
 .done)))))))
 .ret)))
theorem fc164_h0 : fcomp Try.prog Try.f164 = some (c164_h0.erase, [.mov (.t 6)], 30) := by kernel_rfl
def impl_Json_rightIn_B (rec : (GJson → Int → Int → Option (Bool × Int))) (j_1 : GJson) (deep_2 : Int) (room_3 : Int) : Option (Bool × Int) :=
    ((if (decide (w64 (room_3 - 1) < 0)) then
    some true
    else
    if (decide (deep_2 ≥ 12)) then
    some true
    else
    (impl_Json_partOK j_1).bind fun r_12 =>
    some (!r_12) : Option Bool)).bind fun s24_8 =>
    if s24_8 then
    some (false, w64 (room_3 - 1))
    else
    (slices_ContainsFunc_impl_Json_impl_Json_h0 rec j_1.Items deep_2 (w64 (room_3 - 1))).bind fun r_15 =>
    some ((!r_15.1), r_15.2.2)
theorem w_impl_Json_rightIn_B (rec : (GJson → Int → Int → Option (Bool × Int))) (hrec : ∀ a0 a1 a2 r, rec a0 a1 a2 = some r → CallHeap Try.prog false 164 [(encGJson a0), (.int .i64 a1), (.ptr 0 0 0)] [.box 1 (.int .i64 a2)] (.bool r.1) [.box 1 (.int .i64 r.2)]) (j_1 : GJson) (deep_2 : Int) (room_3 : Int) (r : (Bool × Int)) (hf : impl_Json_rightIn_B rec j_1 deep_2 room_3 = some r) : CallHeap Try.prog false 164 [(encGJson j_1), (.int .i64 deep_2), (.ptr 0 0 0)] [.box 1 (.int .i64 room_3)] (.bool r.1) [.box 1 (.int .i64 r.2)] := by
  refine CallHeap.of_awp mixed Try.func164 fc164_h0 nle ?_
  rw [argT_eq]
  rw [encGJson_eq j_1]
  unfold impl_Json_rightIn_B at hf
  unfold c164_h0
  refine (show awp Try.prog false 1 _ (ofL [(0, (.agg [(.int .i64 j_1.Kind), (.int .i64 j_1.N), (.str j_1.T), (.lst 1 (j_1.Keys.map AV.str)), (.lst 5 (j_1.Items.map encGJson))])), (1, (.int .i64 deep_2)), (2, (.ptr 0 0 0))]) [.box 1 (.int .i64 room_3)] _ from ?_)
  refine awp_seq ?_
  refine w_reg ?_
  refine s_do (o_box (j := 1) (c := (.agg [(.int .i64 j_1.Kind), (.int .i64 j_1.N), (.str j_1.T), (.lst 1 (j_1.Keys.map AV.str)), (.lst 5 (j_1.Items.map encGJson))])) rfl trivial rfl rfl) ?_
  refine s_do (o_box (j := 2) (c := (.int .i64 deep_2)) rfl trivial rfl rfl) ?_
  refine s_do (o_box (j := 3) (c := (.ptr 0 0 0)) rfl trivial rfl rfl) ?_
  refine s_do (o_mov (.bool false) rfl) ?_
  refine w_done ?_
  refine k_seq ?_
  refine awp_seq ?_
  refine awp_seq ?_
  refine w_reg ?_
  refine s_do (o_q (.ptr 0 0 0) rfl ⟨rfl, rfl⟩ rfl) ?_
  refine s_do (o_q (.ptr 0 0 0) rfl trivial rfl) ?_
  refine s_do (o_q (.int .i64 room_3) rfl ⟨rfl, rfl⟩ rfl) ?_
  refine s_do (o_q (.int .i64 (w64 (room_3 - 1))) rfl rfl rfl) ?_
  refine s_do (o_q (.ptr 0 0 0) rfl trivial rfl) ?_
  refine s_do0 (o_storebox (v := (.int .i64 (w64 (room_3 - 1)))) (y' := (.int .i64 (w64 (room_3 - 1)))) rfl rfl rfl trivial ⟨rfl, rfl, rfl⟩ ⟨⟨rfl, trivial⟩, trivial⟩ rfl) ?_
  refine w_done ?_
  refine k_seq ?_
  refine awp_seq ?_
  obtain ⟨s24_8, hb1, hf⟩ := ob hf
  refine awp_cut ([(3, (.ptr 1 0 0)), (4, (.ptr 2 0 0)), (5, (.ptr 3 0 0)), (24, (.bool s24_8))], [.box 1 (.int .i64 (w64 (room_3 - 1))), .box 5 (.agg [(.int .i64 j_1.Kind), (.int .i64 j_1.N), (.str j_1.T), (.lst 1 (j_1.Keys.map AV.str)), (.lst 5 (j_1.Items.map encGJson))]), .box 1 (.int .i64 deep_2), .box 1 (.ptr 0 0 0)]) ?_ ?_
  · refine w_reg ?_
    refine s_do (o_q (.ptr 0 0 0) rfl ⟨rfl, rfl⟩ rfl) ?_
    refine s_do (o_q (.ptr 0 0 0) rfl trivial rfl) ?_
    refine s_do (o_q (.int .i64 (w64 (room_3 - 1))) rfl ⟨rfl, rfl⟩ rfl) ?_
    refine s_do (o_q (.bool (decide (w64 (room_3 - 1) < 0))) rfl rfl rfl) ?_
    refine s_do (o_mov (.bool (decide (w64 (room_3 - 1) < 0))) rfl) ?_
    rcases oi hb1 with ⟨c10, hb1⟩ | ⟨c10, hb1⟩
    · refine s_lit (s := 16) (b := true) rfl c10 ?_
      refine s_off rfl rfl ?_
      refine s_off rfl rfl ?_
      refine s_do (o_q (.bool true) rfl trivial rfl) ?_
      refine s_do (o_mov (.bool true) rfl) ?_
      refine s_off rfl rfl ?_
      refine s_off rfl rfl ?_
      refine s_off rfl rfl ?_
      refine s_do (o_q (.bool true) rfl trivial rfl) ?_
      refine w_done ?_
      obtain rfl := os hb1
      exact ⟨[], [0, 1, 2, 3], _, _, rfl, rfl, ⟨.refl _, ⟨.refl _, ⟨.refl _, ⟨.refl _, trivial⟩⟩⟩⟩, (.refl _)⟩
    · refine s_lit (s := 16) (b := false) rfl (bf c10) ?_
      refine s_on rfl ?_
      refine s_do (o_q (.int .i64 deep_2) rfl ⟨rfl, rfl⟩ rfl) ?_
      refine s_on rfl ?_
      refine s_do (o_q (.bool (decide (deep_2 ≥ 12))) rfl rfl rfl) ?_
      refine s_do (o_q (.bool (decide (deep_2 ≥ 12))) rfl trivial rfl) ?_
      refine s_do (o_mov (.bool (decide (deep_2 ≥ 12))) rfl) ?_
      rcases oi hb1 with ⟨c11, hb1⟩ | ⟨c11, hb1⟩
      · refine s_lit (s := 20) (b := true) rfl c11 ?_
        refine s_off rfl rfl ?_
        refine s_off rfl rfl ?_
        refine s_off rfl rfl ?_
        refine s_do (o_q (.bool true) rfl trivial rfl) ?_
        refine w_done ?_
        obtain rfl := os hb1
        exact ⟨[], [0, 1, 2, 3], _, _, rfl, rfl, ⟨.refl _, ⟨.refl _, ⟨.refl _, ⟨.refl _, trivial⟩⟩⟩⟩, (.refl _)⟩
      · refine s_lit (s := 20) (b := false) rfl (bf c11) ?_
        refine s_on rfl ?_
        refine s_do (o_q (.agg [(.int .i64 j_1.Kind), (.int .i64 j_1.N), (.str j_1.T), (.lst 1 (j_1.Keys.map AV.str)), (.lst 5 (j_1.Items.map encGJson))]) rfl nle rfl) ?_
        refine s_on rfl ?_
        obtain ⟨r_12, er13, hb1⟩ := ob hb1
        refine s_do (o_call (w_impl_Json_partOK _ _ er13) rfl (.cons (.of_eq (encGJson_eq j_1).symm) .nil) rfl) ?_
        refine s_on rfl ?_
        refine s_do (o_q (.bool (!r_12)) rfl trivial rfl) ?_
        refine s_do (o_q (.bool (!r_12)) rfl trivial rfl) ?_
        refine w_done ?_
        obtain rfl := os hb1
        exact ⟨[], [0, 1, 2, 3], _, _, rfl, rfl, ⟨.refl _, ⟨.refl _, ⟨.refl _, ⟨.refl _, trivial⟩⟩⟩⟩, (.refl _)⟩
  · rcases oi hf with ⟨c14, hf⟩ | ⟨c14, hf⟩
    · refine w_condt rfl c14 ?_
      refine awp_seq ?_
      refine w_reg ?_
      refine s_do (o_mov (.bool false) rfl) ?_
      refine w_done ?_
      refine k_seq ?_
      refine w_ret ?_
      obtain rfl := os hf
      exact r_heap [] [0] rfl ⟨trivial, trivial⟩ rfl (.refl _) (.refl _)
    · refine w_condf rfl (bf c14) ?_
      refine w_skip ?_
      refine k_seq ?_
      refine awp_seq ?_
      refine w_reg ?_
      obtain ⟨r_15, er16, hf⟩ := ob hf
      refine s_do (o_q (.ptr 1 0 4) rfl trivial rfl) ?_
      refine s_do (o_q (.lst 5 (j_1.Items.map encGJson)) rfl nle rfl) ?_
      refine s_do (o_q (.fn 214 [(.ptr 2 0 0), (.ptr 3 0 0)]) rfl trivial rfl) ?_
      refine s_do (o_callh (v := (.bool r_15.1)) (h2 := [.box 1 (.int .i64 r_15.2.2), .box 5 (.agg [(.int .i64 j_1.Kind), (.int .i64 j_1.N), (.str j_1.T), (.lst 1 (j_1.Keys.map AV.str)), (.lst 5 (j_1.Items.map encGJson))]), .box 1 (.int .i64 r_15.2.1), .box 1 (.ptr 0 0 0)]) [] [2, 3, 0] (w_slices_ContainsFunc_impl_Json_impl_Json_h0 rec hrec _ _ _ _ er16) rfl (.refl _) (.refl _) rfl rfl) ?_
      refine s_do (o_q (.bool (!r_15.1)) rfl trivial rfl) ?_
      refine s_do (o_mov (.bool (!r_15.1)) rfl) ?_
      refine w_done ?_
      refine k_seq ?_
      refine w_ret ?_
      obtain rfl := os hf
      exact r_heap [] [0] rfl ⟨trivial, trivial⟩ rfl (.refl _) (.refl _)
def impl_Json_rightIn : Nat → GJson → Int → Int → Option (Bool × Int)
  | 0, _, _, _ => none
  | k + 1, j_1, deep_2, room_3 => impl_Json_rightIn_B (impl_Json_rightIn k) j_1 deep_2 room_3
theorem w_impl_Json_rightIn : ∀ (k : Nat) (j_1 : GJson) (deep_2 : Int) (room_3 : Int) (r : (Bool × Int)), impl_Json_rightIn k j_1 deep_2 room_3 = some r → CallHeap Try.prog false 164 [(encGJson j_1), (.int .i64 deep_2), (.ptr 0 0 0)] [.box 1 (.int .i64 room_3)] (.bool r.1) [.box 1 (.int .i64 r.2)]
  | 0, j_1, deep_2, room_3, r, h => by rw [impl_Json_rightIn.eq_1] at h; cases h
  | k + 1, j_1, deep_2, room_3, r, h => by
    rw [impl_Json_rightIn.eq_2] at h
    exact w_impl_Json_rightIn_B _ (w_impl_Json_rightIn k) j_1 deep_2 room_3 r h

/- impl.JsonOK -/
def c101 : ACode :=
 (.seq (.reg (.q ⟨(some 1), none, .box 5 (.t 0)⟩
 (.q ⟨(some 2), none, .mov (.c (.bool false))⟩
 .done)))
 (.seq (.reg (.q ⟨(some 3), none, .box 1 (.c (.int .i64 0))⟩
 (.q ⟨none, none, .store 1 (.t 3) (.c (.int .i64 400))⟩
 .done)))
 (.seq (.reg (.q ⟨(some 4), none, .load 5 true (.t 1)⟩
 (.q ⟨(some 5), none, .call 164 [(.t 4), (.c (.int .i64 0)), (.t 3)]⟩
 (.q ⟨(some 2), none, .mov (.t 5)⟩
 .done))))
 .ret)))
theorem fc101 : fcomp Try.prog Try.f101 = some (c101.erase, [.mov (.t 2)], 6) := by kernel_rfl
def impl_JsonOK (j_1 : GJson) : Option Bool :=
    (impl_Json_rightIn FUEL j_1 0 400).bind fun r_2 =>
    some r_2.1
theorem w_impl_JsonOK (j_1 : GJson) (r : Bool) (hf : impl_JsonOK j_1 = some r) : CallOK Try.prog 101 .flat [(encGJson j_1)] (.bool r) := by
  refine CallOK.of_awp mixed Try.func101 fc101 nle ?_
  rw [argT_eq]
  rw [encGJson_eq j_1]
  unfold impl_JsonOK at hf
  unfold c101
  refine (show awp Try.prog false 0 _ (ofL [(0, (.agg [(.int .i64 j_1.Kind), (.int .i64 j_1.N), (.str j_1.T), (.lst 1 (j_1.Keys.map AV.str)), (.lst 5 (j_1.Items.map encGJson))]))]) [] _ from ?_)
  refine awp_seq ?_
  refine w_reg ?_
  refine s_do (o_box (j := 0) (c := (.agg [(.int .i64 j_1.Kind), (.int .i64 j_1.N), (.str j_1.T), (.lst 1 (j_1.Keys.map AV.str)), (.lst 5 (j_1.Items.map encGJson))])) rfl trivial rfl rfl) ?_
  refine s_do (o_mov (.bool false) rfl) ?_
  refine w_done ?_
  refine k_seq ?_
  refine awp_seq ?_
  refine w_reg ?_
  refine s_do (o_box (j := 1) (c := (.int .i64 0)) rfl trivial rfl rfl) ?_
  refine s_do0 (o_storebox (v := (.int .i64 400)) (y' := (.int .i64 400)) rfl rfl rfl trivial ⟨rfl, rfl, rfl⟩ ⟨⟨rfl, trivial⟩, trivial⟩ rfl) ?_
  refine w_done ?_
  refine k_seq ?_
  refine awp_seq ?_
  refine w_reg ?_
  obtain ⟨r_2, er3, hf⟩ := ob hf
  refine s_do (o_q (.agg [(.int .i64 j_1.Kind), (.int .i64 j_1.N), (.str j_1.T), (.lst 1 (j_1.Keys.map AV.str)), (.lst 5 (j_1.Items.map encGJson))]) rfl nle rfl) ?_
  refine s_do (o_callh (v := (.bool r_2.1)) (h2 := [.box 5 (.agg [(.int .i64 j_1.Kind), (.int .i64 j_1.N), (.str j_1.T), (.lst 1 (j_1.Keys.map AV.str)), (.lst 5 (j_1.Items.map encGJson))]), .box 1 (.int .i64 r_2.2)]) [] [1] (w_impl_Json_rightIn FUEL _ _ _ _ er3) rfl (.cons (.of_eq (encGJson_eq j_1).symm) (.cons (.refl _) (.cons (.refl _) .nil))) (.refl _) rfl rfl) ?_
  refine s_do (o_mov (.bool r_2.1) rfl) ?_
  refine w_done ?_
  refine k_seq ?_
  refine w_ret ?_
  obtain rfl := os hf
  exact r_flat ⟨trivial, trivial⟩ rfl (.refl _)

/- (impl.Json).pairOf -/
def c183 : ACode :=
 (.seq (.reg (.q ⟨(some 2), none, .box 5 (.t 0)⟩
 (.q ⟨(some 4), none, .box 5 (.c (.agg [(.int .i64 0), (.int .i64 0), (.str []), .nil, .nil]))⟩
 (.q ⟨(some 5), none, .mov (.c (.bool false))⟩
 .done))))
 (.seq (.seq (.reg (.q ⟨(some 6), none, .faddr 0 (.t 2)⟩
 (.q ⟨(some 7), none, .load 1 false (.t 6)⟩
 (.q ⟨(some 8), none, .bin .neq (.t 7) (.c (.int .i64 4))⟩
 (.q ⟨(some 9), none, .mov (.t 8)⟩
 (.q ⟨(some 10), (some (9, false)), .faddr 4 (.t 2)⟩
 (.q ⟨(some 11), (some (9, false)), .load 1 false (.t 10)⟩
 (.q ⟨(some 12), (some (9, false)), .len (.t 11)⟩
 (.q ⟨(some 13), (some (9, false)), .bin .neq (.t 12) (.c (.int .i64 2))⟩
 (.q ⟨(some 14), none, .pick (.t 9) (.c (.bool true)) (.t 13)⟩
 (.q ⟨(some 15), none, .mov (.t 14)⟩
 (.q ⟨(some 16), (some (15, false)), .faddr 4 (.t 2)⟩
 (.q ⟨(some 17), (some (15, false)), .load 1 false (.t 16)⟩
 (.q ⟨(some 18), (some (15, false)), .iaddr 5 (.t 17) (.c (.int .i64 0))⟩
 (.q ⟨(some 19), (some (15, false)), .faddr 0 (.t 18)⟩
 (.q ⟨(some 20), (some (15, false)), .load 1 false (.t 19)⟩
 (.q ⟨(some 21), (some (15, false)), .bin .neq (.t 20) (.c (.int .i64 3))⟩
 (.q ⟨(some 22), none, .pick (.t 15) (.c (.bool true)) (.t 21)⟩
 (.q ⟨(some 23), none, .mov (.t 22)⟩
 (.q ⟨(some 24), (some (23, false)), .faddr 4 (.t 2)⟩
 (.q ⟨(some 25), (some (23, false)), .load 1 false (.t 24)⟩
 (.q ⟨(some 26), (some (23, false)), .iaddr 5 (.t 25) (.c (.int .i64 0))⟩
 (.q ⟨(some 27), (some (23, false)), .faddr 2 (.t 26)⟩
 (.q ⟨(some 28), (some (23, false)), .load 1 false (.t 27)⟩
 (.q ⟨(some 29), (some (23, false)), .mov (.t 1)⟩
 (.q ⟨(some 30), (some (23, false)), .bin .neq (.t 28) (.t 29)⟩
 (.q ⟨(some 31), none, .pick (.t 23) (.c (.bool true)) (.t 30)⟩
 .done)))))))))))))))))))))))))))
 (.cut (.cond (.t 31) (.seq (.reg (.q ⟨(some 32), none, .build [(.int .i64 0), (.int .i64 0), (.str []), .nil, .nil] []⟩
 (.q ⟨none, none, .store 5 (.t 4) (.t 32)⟩
 (.q ⟨(some 5), none, .mov (.c (.bool false))⟩
 .done))))
 .ret)
 .skip)))
 (.seq (.reg (.q ⟨(some 33), none, .faddr 4 (.t 2)⟩
 (.q ⟨(some 34), none, .load 1 false (.t 33)⟩
 (.q ⟨(some 35), none, .iaddr 5 (.t 34) (.c (.int .i64 1))⟩
 (.q ⟨(some 36), none, .load 5 true (.t 35)⟩
 (.q ⟨none, none, .store 5 (.t 4) (.t 36)⟩
 (.q ⟨(some 5), none, .mov (.c (.bool true))⟩
 .done)))))))
 .ret)))
theorem fc183 : fcomp Try.prog Try.f183 = some (c183.erase, [.load 5 true (.t 4), .mov (.t 5)], 37) := by kernel_rfl
def impl_Json_pairOf (j_1 : GJson) (word_2 : Str) : Option (GJson × Bool) :=
    ((if (j_1.Kind != 4) then
    some true
    else
    if ((j_1.Items.length : Int) != 2) then
    some true
    else
    (idx j_1.Items 0).bind fun x_16 =>
    if (x_16.Kind != 3) then
    some true
    else
    (idx j_1.Items 0).bind fun x_19 =>
    some (!(x_19.T == word_2)) : Option Bool)).bind fun s31_11 =>
    if s31_11 then
    some ((⟨0, 0, [], [], []⟩ : GJson), false)
    else
    (idx j_1.Items 1).bind fun x_22 =>
    some (x_22, true)
theorem w_impl_Json_pairOf (j_1 : GJson) (word_2 : Str) (r : (GJson × Bool)) (hf : impl_Json_pairOf j_1 word_2 = some r) : CallOK Try.prog 183 .weak [(encGJson j_1), (.str word_2)] (.tup [(encGJson r.1), (.bool r.2)]) := by
  refine CallOK.of_awp mixed Try.func183 fc183 nle ?_
  rw [argT_eq]
  rw [encGJson_eq j_1]
  unfold impl_Json_pairOf at hf
  unfold c183
  refine (show awp Try.prog false 0 _ (ofL [(0, (.agg [(.int .i64 j_1.Kind), (.int .i64 j_1.N), (.str j_1.T), (.lst 1 (j_1.Keys.map AV.str)), (.lst 5 (j_1.Items.map encGJson))])), (1, (.str word_2))]) [] _ from ?_)
  refine awp_seq ?_
  refine w_reg ?_
  refine s_do (o_box (j := 0) (c := (.agg [(.int .i64 j_1.Kind), (.int .i64 j_1.N), (.str j_1.T), (.lst 1 (j_1.Keys.map AV.str)), (.lst 5 (j_1.Items.map encGJson))])) rfl trivial rfl rfl) ?_
  refine s_do (o_box (j := 1) (c := (.agg [(.int .i64 0), (.int .i64 0), (.str []), .nil, .nil])) rfl trivial rfl rfl) ?_
  refine s_do (o_mov (.bool false) rfl) ?_
  refine w_done ?_
  refine k_seq ?_
  refine awp_seq ?_
  refine awp_seq ?_
  obtain ⟨s31_11, hb1, hf⟩ := ob hf
  refine awp_cut ([(2, (.ptr 0 0 0)), (4, (.ptr 1 0 0)), (31, (.bool s31_11))], [.box 5 (.agg [(.int .i64 j_1.Kind), (.int .i64 j_1.N), (.str j_1.T), (.lst 1 (j_1.Keys.map AV.str)), (.lst 5 (j_1.Items.map encGJson))]), .box 5 (.agg [(.int .i64 0), (.int .i64 0), (.str []), .nil, .nil])]) ?_ ?_
  · refine w_reg ?_
    refine s_do (o_q (.ptr 0 0 0) rfl trivial rfl) ?_
    refine s_do (o_q (.int .i64 j_1.Kind) rfl nle rfl) ?_
    refine s_do (o_q (.bool (j_1.Kind != 4)) rfl rfl rfl) ?_
    refine s_do (o_mov (.bool (j_1.Kind != 4)) rfl) ?_
    rcases oi hb1 with ⟨c13, hb1⟩ | ⟨c13, hb1⟩
    · refine s_lit (s := 9) (b := true) rfl c13 ?_
      refine s_off rfl rfl ?_
      refine s_off rfl rfl ?_
      refine s_off rfl rfl ?_
      refine s_off rfl rfl ?_
      refine s_do (o_q (.bool true) rfl trivial rfl) ?_
      refine s_do (o_mov (.bool true) rfl) ?_
      refine s_off rfl rfl ?_
      refine s_off rfl rfl ?_
      refine s_off rfl rfl ?_
      refine s_off rfl rfl ?_
      refine s_off rfl rfl ?_
      refine s_off rfl rfl ?_
      refine s_do (o_q (.bool true) rfl trivial rfl) ?_
      refine s_do (o_mov (.bool true) rfl) ?_
      refine s_off rfl rfl ?_
      refine s_off rfl rfl ?_
      refine s_off rfl rfl ?_
      refine s_off rfl rfl ?_
      refine s_off rfl rfl ?_
      refine s_off rfl rfl ?_
      refine s_off rfl rfl ?_
      refine s_do (o_q (.bool true) rfl trivial rfl) ?_
      refine w_done ?_
      obtain rfl := os hb1
      exact ⟨[], [0, 1], _, _, rfl, rfl, ⟨.refl _, ⟨.refl _, ⟨.refl _, trivial⟩⟩⟩, (.refl _)⟩
    · refine s_lit (s := 9) (b := false) rfl (bf c13) ?_
      refine s_on rfl ?_
      refine s_do (o_q (.ptr 0 0 4) rfl trivial rfl) ?_
      refine s_on rfl ?_
      refine s_do (o_q (.lst 5 (j_1.Items.map encGJson)) rfl nle rfl) ?_
      refine s_on rfl ?_
      refine s_dof (o_len (enc := encGJson) rfl) fun hl14 => ?_
      refine s_on rfl ?_
      refine s_do (o_q (.bool ((j_1.Items.length : Int) != 2)) rfl rfl rfl) ?_
      refine s_do (o_q (.bool ((j_1.Items.length : Int) != 2)) rfl trivial rfl) ?_
      refine s_do (o_mov (.bool ((j_1.Items.length : Int) != 2)) rfl) ?_
      rcases oi hb1 with ⟨c15, hb1⟩ | ⟨c15, hb1⟩
      · refine s_lit (s := 15) (b := true) rfl c15 ?_
        refine s_off rfl rfl ?_
        refine s_off rfl rfl ?_
        refine s_off rfl rfl ?_
        refine s_off rfl rfl ?_
        refine s_off rfl rfl ?_
        refine s_off rfl rfl ?_
        refine s_do (o_q (.bool true) rfl trivial rfl) ?_
        refine s_do (o_mov (.bool true) rfl) ?_
        refine s_off rfl rfl ?_
        refine s_off rfl rfl ?_
        refine s_off rfl rfl ?_
        refine s_off rfl rfl ?_
        refine s_off rfl rfl ?_
        refine s_off rfl rfl ?_
        refine s_off rfl rfl ?_
        refine s_do (o_q (.bool true) rfl trivial rfl) ?_
        refine w_done ?_
        obtain rfl := os hb1
        exact ⟨[], [0, 1], _, _, rfl, rfl, ⟨.refl _, ⟨.refl _, ⟨.refl _, trivial⟩⟩⟩, (.refl _)⟩
      · refine s_lit (s := 15) (b := false) rfl (bf c15) ?_
        refine s_on rfl ?_
        refine s_do (o_q (.ptr 0 0 4) rfl trivial rfl) ?_
        refine s_on rfl ?_
        refine s_do (o_q (.lst 5 (j_1.Items.map encGJson)) rfl nle rfl) ?_
        refine s_on rfl ?_
        obtain ⟨x_16, ex17, hb1⟩ := ob hb1
        refine s_do (o_iaddr (enc := encGJson) rfl rfl (idx0 ex17) (idx1 ex17)) ?_
        refine s_on rfl ?_
        refine s_do (o_q (.iptr (encGJson x_16) 0) rfl trivial rfl) ?_
        refine s_on rfl ?_
        refine s_do (o_loadeq (v := (.int .i64 x_16.Kind)) rfl (encGJson_eq _) nle rfl) ?_
        refine s_on rfl ?_
        refine s_do (o_q (.bool (x_16.Kind != 3)) rfl rfl rfl) ?_
        refine s_do (o_q (.bool (x_16.Kind != 3)) rfl trivial rfl) ?_
        refine s_do (o_mov (.bool (x_16.Kind != 3)) rfl) ?_
        rcases oi hb1 with ⟨c18, hb1⟩ | ⟨c18, hb1⟩
        · refine s_lit (s := 23) (b := true) rfl c18 ?_
          refine s_off rfl rfl ?_
          refine s_off rfl rfl ?_
          refine s_off rfl rfl ?_
          refine s_off rfl rfl ?_
          refine s_off rfl rfl ?_
          refine s_off rfl rfl ?_
          refine s_off rfl rfl ?_
          refine s_do (o_q (.bool true) rfl trivial rfl) ?_
          refine w_done ?_
          obtain rfl := os hb1
          exact ⟨[], [0, 1], _, _, rfl, rfl, ⟨.refl _, ⟨.refl _, ⟨.refl _, trivial⟩⟩⟩, (.refl _)⟩
        · refine s_lit (s := 23) (b := false) rfl (bf c18) ?_
          refine s_on rfl ?_
          refine s_do (o_q (.ptr 0 0 4) rfl trivial rfl) ?_
          refine s_on rfl ?_
          refine s_do (o_q (.lst 5 (j_1.Items.map encGJson)) rfl nle rfl) ?_
          refine s_on rfl ?_
          obtain ⟨x_19, ex20, hb1⟩ := ob hb1
          refine s_do (o_iaddr (enc := encGJson) rfl rfl (idx0 ex20) (idx1 ex20)) ?_
          refine s_on rfl ?_
          refine s_do (o_q (.iptr (encGJson x_19) 2) rfl trivial rfl) ?_
          refine s_on rfl ?_
          refine s_do (o_loadeq (v := (.str x_19.T)) rfl (encGJson_eq _) nle rfl) ?_
          refine s_on rfl ?_
          refine s_do (o_mov (.str word_2) rfl) ?_
          refine s_on rfl ?_
          refine s_do (o_q (.bool (!(x_19.T == word_2))) rfl trivial rfl) ?_
          refine s_do (o_q (.bool (!(x_19.T == word_2))) rfl trivial rfl) ?_
          refine w_done ?_
          obtain rfl := os hb1
          exact ⟨[], [0, 1], _, _, rfl, rfl, ⟨.refl _, ⟨.refl _, ⟨.refl _, trivial⟩⟩⟩, (.refl _)⟩
  · rcases oi hf with ⟨c21, hf⟩ | ⟨c21, hf⟩
    · refine w_condt rfl c21 ?_
      refine awp_seq ?_
      refine w_reg ?_
      refine s_do (o_q (.agg [(.int .i64 0), (.int .i64 0), (.str []), .nil, .nil]) rfl trivial rfl) ?_
      refine s_do0 (o_storebox (v := (.agg [(.int .i64 0), (.int .i64 0), (.str []), .nil, .nil])) (y' := (.agg [(.int .i64 0), (.int .i64 0), (.str []), .nil, .nil])) rfl rfl rfl trivial ⟨rfl, nle⟩ ⟨⟨rfl, trivial⟩, ⟨⟨rfl, trivial⟩, ⟨⟨rfl, trivial⟩, ⟨⟨rfl, trivial⟩, ⟨⟨rfl, trivial⟩, trivial⟩⟩⟩⟩⟩ rfl) ?_
      refine s_do (o_mov (.bool false) rfl) ?_
      refine w_done ?_
      refine k_seq ?_
      refine w_ret ?_
      obtain rfl := os hf
      exact r_weak ⟨nle, ⟨trivial, trivial⟩⟩ rfl (.tup (.cons (leJ (x := (⟨0, 0, [], [], []⟩ : GJson)) (.agg (.cons (.refl _) (.cons (.refl _) (.cons (.refl _) (.cons (.nil _) (.cons (.nil _) .nil))))))) (.cons (.refl _) .nil)))
    · refine w_condf rfl (bf c21) ?_
      refine w_skip ?_
      refine k_seq ?_
      refine awp_seq ?_
      refine w_reg ?_
      obtain ⟨x_22, ex23, hf⟩ := ob hf
      refine s_do (o_q (.ptr 0 0 4) rfl trivial rfl) ?_
      refine s_do (o_q (.lst 5 (j_1.Items.map encGJson)) rfl nle rfl) ?_
      refine s_do (o_iaddr (enc := encGJson) rfl rfl (idx0 ex23) (idx1 ex23)) ?_
      refine s_do (o_loadeq (v := (.agg [(.int .i64 x_22.Kind), (.int .i64 x_22.N), (.str x_22.T), (.lst 1 (x_22.Keys.map AV.str)), (.lst 5 (x_22.Items.map encGJson))])) rfl (encGJson_eq _) nle rfl) ?_
      refine s_do0 (o_storebox (v := (.agg [(.int .i64 x_22.Kind), (.int .i64 x_22.N), (.str x_22.T), (.lst 1 (x_22.Keys.map AV.str)), (.lst 5 (x_22.Items.map encGJson))])) (y' := (.agg [(.int .i64 x_22.Kind), (.int .i64 x_22.N), (.str x_22.T), (.lst 1 (x_22.Keys.map AV.str)), (.lst 5 (x_22.Items.map encGJson))])) rfl rfl rfl trivial ⟨rfl, nle⟩ ⟨⟨rfl, trivial⟩, ⟨⟨rfl, trivial⟩, ⟨⟨rfl, trivial⟩, ⟨⟨rfl, trivial⟩, ⟨⟨rfl, trivial⟩, trivial⟩⟩⟩⟩⟩ rfl) ?_
      refine s_do (o_mov (.bool true) rfl) ?_
      refine w_done ?_
      refine k_seq ?_
      refine w_ret ?_
      obtain rfl := os hf
      exact r_weak ⟨nle, ⟨trivial, trivial⟩⟩ rfl (.tup (.cons (.of_eq (encGJson_eq x_22).symm) (.cons (.refl _) .nil)))

/- impl.isId -/
def c175 : ACode :=
 (.seq (.reg (.q ⟨(some 2), none, .mov (.c (.bool false))⟩
 .done))
 (.seq (.reg (.q ⟨(some 3), none, .mov (.t 0)⟩
 (.q ⟨(some 4), none, .call 86 [(.t 3), (.c (.int .i64 1)), (.c (.int .i64 1000000))]⟩
 (.q ⟨(some 2), none, .mov (.t 4)⟩
 .done))))
 .ret))
theorem fc175 : fcomp Try.prog Try.f175 = some (c175.erase, [.mov (.t 2)], 5) := by kernel_rfl
def impl_isId (n_1 : Int) : Option Bool :=
    (impl_within n_1 1 1000000).bind fun r_2 =>
    some r_2
theorem w_impl_isId (n_1 : Int) (r : Bool) (hf : impl_isId n_1 = some r) : CallOK Try.prog 175 .flat [(.int .i64 n_1)] (.bool r) := by
  refine CallOK.of_awp mixed Try.func175 fc175 nle ?_
  rw [argT_eq]
  unfold impl_isId at hf
  unfold c175
  refine (show awp Try.prog false 0 _ (ofL [(0, (.int .i64 n_1))]) [] _ from ?_)
  refine awp_seq ?_
  refine w_reg ?_
  refine s_do (o_mov (.bool false) rfl) ?_
  refine w_done ?_
  refine k_seq ?_
  refine awp_seq ?_
  refine w_reg ?_
  obtain ⟨r_2, er3, hf⟩ := ob hf
  refine s_do (o_mov (.int .i64 n_1) rfl) ?_
  refine s_do (o_call (w_impl_within _ _ _ _ er3) rfl (.refl _) rfl) ?_
  refine s_do (o_mov (.bool r_2) rfl) ?_
  refine w_done ?_
  refine k_seq ?_
  refine w_ret ?_
  obtain rfl := os hf
  exact r_flat ⟨trivial, trivial⟩ rfl (.refl _)

/- impl.AtomOK -/
def c109 : ACode :=
 (.seq (.reg (.q ⟨(some 1), none, .box 3 (.t 0)⟩
 (.q ⟨(some 2), none, .mov (.c (.bool false))⟩
 .done)))
 (.seq (.seq (.reg (.q ⟨(some 3), none, .faddr 0 (.t 1)⟩
 (.q ⟨(some 4), none, .load 1 false (.t 3)⟩
 .done)))
 (.block 0 (.seq (.reg (.q ⟨(some 6), none, .bin .eql (.t 4) (.c (.int .i64 1))⟩
 (.q ⟨(some 5), none, .mov (.t 6)⟩
 .done)))
 (.cond (.t 5) (.seq (.reg (.q ⟨(some 7), none, .faddr 1 (.t 1)⟩
 (.q ⟨(some 8), none, .load 1 false (.t 7)⟩
 (.q ⟨(some 9), none, .call 136 [(.t 8)]⟩
 (.q ⟨(some 10), none, .mov (.t 9)⟩
 (.q ⟨(some 11), (some (10, true)), .faddr 2 (.t 1)⟩
 (.q ⟨(some 12), (some (10, true)), .load 1 false (.t 11)⟩
 (.q ⟨(some 13), (some (10, true)), .bin .eql (.t 12) (.c (.str []))⟩
 (.q ⟨(some 14), none, .pick (.t 10) (.t 13) (.c (.bool false))⟩
 (.q ⟨(some 2), none, .mov (.t 14)⟩
 .done))))))))))
 .ret)
 (.seq (.reg (.q ⟨(some 16), none, .bin .eql (.t 4) (.c (.int .i64 2))⟩
 (.q ⟨(some 15), none, .mov (.t 16)⟩
 .done)))
 (.cond (.t 15) (.seq (.reg (.q ⟨(some 17), none, .faddr 1 (.t 1)⟩
 (.q ⟨(some 18), none, .load 1 false (.t 17)⟩
 (.q ⟨(some 19), none, .bin .eql (.t 18) (.c (.int .i64 0))⟩
 (.q ⟨(some 20), none, .mov (.t 19)⟩
 (.q ⟨(some 21), (some (20, true)), .faddr 2 (.t 1)⟩
 (.q ⟨(some 22), (some (20, true)), .load 1 false (.t 21)⟩
 (.q ⟨(some 23), (some (20, true)), .call 174 [(.t 22)]⟩
 (.q ⟨(some 24), none, .pick (.t 20) (.t 23) (.c (.bool false))⟩
 (.q ⟨(some 2), none, .mov (.t 24)⟩
 .done))))))))))
 .ret)
 (.seq (.reg (.q ⟨(some 26), none, .bin .eql (.t 4) (.c (.int .i64 3))⟩
 (.q ⟨(some 25), none, .mov (.t 26)⟩
 .done)))
 (.cond (.t 25) (.seq (.reg (.q ⟨(some 27), none, .faddr 1 (.t 1)⟩
 (.q ⟨(some 28), none, .load 1 false (.t 27)⟩
 (.q ⟨(some 29), none, .call 86 [(.t 28), (.c (.int .i64 0)), (.c (.int .i64 1))]⟩
 (.q ⟨(some 30), none, .mov (.t 29)⟩
 (.q ⟨(some 31), (some (30, true)), .faddr 2 (.t 1)⟩
 (.q ⟨(some 32), (some (30, true)), .load 1 false (.t 31)⟩
 (.q ⟨(some 33), (some (30, true)), .bin .eql (.t 32) (.c (.str []))⟩
 (.q ⟨(some 34), none, .pick (.t 30) (.t 33) (.c (.bool false))⟩
 (.q ⟨(some 2), none, .mov (.t 34)⟩
 .done))))))))))
 .ret)
 (.seq (.reg (.q ⟨(some 36), none, .bin .eql (.t 4) (.c (.int .i64 4))⟩
 (.q ⟨(some 35), none, .mov (.t 36)⟩
 .done)))
 (.cond (.t 35) (.seq (.reg (.q ⟨(some 37), none, .faddr 1 (.t 1)⟩
 (.q ⟨(some 38), none, .load 1 false (.t 37)⟩
 (.q ⟨(some 39), none, .call 175 [(.t 38)]⟩
 (.q ⟨(some 40), none, .mov (.t 39)⟩
 (.q ⟨(some 41), (some (40, true)), .faddr 2 (.t 1)⟩
 (.q ⟨(some 42), (some (40, true)), .load 1 false (.t 41)⟩
 (.q ⟨(some 43), (some (40, true)), .bin .eql (.t 42) (.c (.str []))⟩
 (.q ⟨(some 44), none, .pick (.t 40) (.t 43) (.c (.bool false))⟩
 (.q ⟨(some 2), none, .mov (.t 44)⟩
 .done))))))))))
 .ret)
 .skip))))))))))
 (.seq (.reg (.q ⟨(some 2), none, .mov (.c (.bool false))⟩
 .done))
 .ret)))
theorem fc109 : fcomp Try.prog Try.f109 = some (c109.erase, [.mov (.t 2)], 45) := by kernel_rfl
def impl_AtomOK (a_1 : GAtom) : Option Bool :=
    if (a_1.Kind == 1) then
    (impl_isNumber a_1.N).bind fun r_3 =>
    if r_3 then
    some (a_1.T == [])
    else
    some false
    else
    if (a_1.Kind == 2) then
    if (a_1.N == 0) then
    (impl_isPlain a_1.T).bind fun r_8 =>
    some r_8
    else
    some false
    else
    if (a_1.Kind == 3) then
    (impl_within a_1.N 0 1).bind fun r_11 =>
    if r_11 then
    some (a_1.T == [])
    else
    some false
    else
    if (a_1.Kind == 4) then
    (impl_isId a_1.N).bind fun r_15 =>
    if r_15 then
    some (a_1.T == [])
    else
    some false
    else
    some false
theorem w_impl_AtomOK (a_1 : GAtom) (r : Bool) (hf : impl_AtomOK a_1 = some r) : CallOK Try.prog 109 .flat [(encGAtom a_1)] (.bool r) := by
  refine CallOK.of_awp mixed Try.func109 fc109 nle ?_
  rw [argT_eq]
  unfold impl_AtomOK at hf
  unfold c109
  refine (show awp Try.prog false 0 _ (ofL [(0, (encGAtom a_1))]) [] _ from ?_)
  refine awp_seq ?_
  refine w_reg ?_
  refine s_do (o_box (j := 0) (c := (.agg [(.int .i64 a_1.Kind), (.int .i64 a_1.N), (.str a_1.T)])) rfl trivial rfl rfl) ?_
  refine s_do (o_mov (.bool false) rfl) ?_
  refine w_done ?_
  refine k_seq ?_
  refine awp_seq ?_
  refine awp_seq ?_
  refine w_reg ?_
  refine s_do (o_q (.ptr 0 0 0) rfl trivial rfl) ?_
  refine s_do (o_q (.int .i64 a_1.Kind) rfl nle rfl) ?_
  refine w_done ?_
  refine k_seq ?_
  refine w_blk ?_
  refine awp_seq ?_
  refine w_reg ?_
  refine s_do (o_q (.bool (a_1.Kind == 1)) rfl rfl rfl) ?_
  refine s_do (o_mov (.bool (a_1.Kind == 1)) rfl) ?_
  refine w_done ?_
  refine k_seq ?_
  rcases oi hf with ⟨c2, hf⟩ | ⟨c2, hf⟩
  · refine w_condt rfl c2 ?_
    refine awp_seq ?_
    refine w_reg ?_
    obtain ⟨r_3, er4, hf⟩ := ob hf
    rcases oi hf with ⟨c5, hf⟩ | ⟨c5, hf⟩
    · refine s_do (o_q (.ptr 0 0 1) rfl trivial rfl) ?_
      refine s_do (o_q (.int .i64 a_1.N) rfl nle rfl) ?_
      refine s_do (o_call (w_impl_isNumber _ _ er4) rfl (.refl _) rfl) ?_
      refine s_do (o_mov (.bool r_3) rfl) ?_
      refine s_lit (s := 10) (b := true) rfl c5 ?_
      refine s_on rfl ?_
      refine s_do (o_q (.ptr 0 0 2) rfl trivial rfl) ?_
      refine s_on rfl ?_
      refine s_do (o_q (.str a_1.T) rfl nle rfl) ?_
      refine s_on rfl ?_
      refine s_do (o_q (.bool (a_1.T == [])) rfl trivial rfl) ?_
      refine s_do (o_q (.bool (a_1.T == [])) rfl trivial rfl) ?_
      refine s_do (o_mov (.bool (a_1.T == [])) rfl) ?_
      refine w_done ?_
      refine k_seq ?_
      refine w_ret ?_
      obtain rfl := os hf
      exact r_flat ⟨trivial, trivial⟩ rfl (.refl _)
    · refine s_do (o_q (.ptr 0 0 1) rfl trivial rfl) ?_
      refine s_do (o_q (.int .i64 a_1.N) rfl nle rfl) ?_
      refine s_do (o_call (w_impl_isNumber _ _ er4) rfl (.refl _) rfl) ?_
      refine s_do (o_mov (.bool r_3) rfl) ?_
      refine s_lit (s := 10) (b := false) rfl (bf c5) ?_
      refine s_off rfl rfl ?_
      refine s_off rfl rfl ?_
      refine s_off rfl rfl ?_
      refine s_do (o_q (.bool false) rfl trivial rfl) ?_
      refine s_do (o_mov (.bool false) rfl) ?_
      refine w_done ?_
      refine k_seq ?_
      refine w_ret ?_
      obtain rfl := os hf
      exact r_flat ⟨trivial, trivial⟩ rfl (.refl _)
  · refine w_condf rfl (bf c2) ?_
    refine awp_seq ?_
    refine w_reg ?_
    refine s_do (o_q (.bool (a_1.Kind == 2)) rfl rfl rfl) ?_
    refine s_do (o_mov (.bool (a_1.Kind == 2)) rfl) ?_
    refine w_done ?_
    refine k_seq ?_
    rcases oi hf with ⟨c6, hf⟩ | ⟨c6, hf⟩
    · refine w_condt rfl c6 ?_
      refine awp_seq ?_
      refine w_reg ?_
      rcases oi hf with ⟨c7, hf⟩ | ⟨c7, hf⟩
      · obtain ⟨r_8, er9, hf⟩ := ob hf
        refine s_do (o_q (.ptr 0 0 1) rfl trivial rfl) ?_
        refine s_do (o_q (.int .i64 a_1.N) rfl nle rfl) ?_
        refine s_do (o_q (.bool (a_1.N == 0)) rfl rfl rfl) ?_
        refine s_do (o_mov (.bool (a_1.N == 0)) rfl) ?_
        refine s_lit (s := 20) (b := true) rfl c7 ?_
        refine s_on rfl ?_
        refine s_do (o_q (.ptr 0 0 2) rfl trivial rfl) ?_
        refine s_on rfl ?_
        refine s_do (o_q (.str a_1.T) rfl nle rfl) ?_
        refine s_on rfl ?_
        refine s_do (o_call (w_impl_isPlain _ _ er9) rfl (.refl _) rfl) ?_
        refine s_do (o_q (.bool r_8) rfl trivial rfl) ?_
        refine s_do (o_mov (.bool r_8) rfl) ?_
        refine w_done ?_
        refine k_seq ?_
        refine w_ret ?_
        obtain rfl := os hf
        exact r_flat ⟨trivial, trivial⟩ rfl (.refl _)
      · refine s_do (o_q (.ptr 0 0 1) rfl trivial rfl) ?_
        refine s_do (o_q (.int .i64 a_1.N) rfl nle rfl) ?_
        refine s_do (o_q (.bool (a_1.N == 0)) rfl rfl rfl) ?_
        refine s_do (o_mov (.bool (a_1.N == 0)) rfl) ?_
        refine s_lit (s := 20) (b := false) rfl (bf c7) ?_
        refine s_off rfl rfl ?_
        refine s_off rfl rfl ?_
        refine s_off rfl rfl ?_
        refine s_do (o_q (.bool false) rfl trivial rfl) ?_
        refine s_do (o_mov (.bool false) rfl) ?_
        refine w_done ?_
        refine k_seq ?_
        refine w_ret ?_
        obtain rfl := os hf
        exact r_flat ⟨trivial, trivial⟩ rfl (.refl _)
    · refine w_condf rfl (bf c6) ?_
      refine awp_seq ?_
      refine w_reg ?_
      refine s_do (o_q (.bool (a_1.Kind == 3)) rfl rfl rfl) ?_
      refine s_do (o_mov (.bool (a_1.Kind == 3)) rfl) ?_
      refine w_done ?_
      refine k_seq ?_
      rcases oi hf with ⟨c10, hf⟩ | ⟨c10, hf⟩
      · refine w_condt rfl c10 ?_
        refine awp_seq ?_
        refine w_reg ?_
        obtain ⟨r_11, er12, hf⟩ := ob hf
        rcases oi hf with ⟨c13, hf⟩ | ⟨c13, hf⟩
        · refine s_do (o_q (.ptr 0 0 1) rfl trivial rfl) ?_
          refine s_do (o_q (.int .i64 a_1.N) rfl nle rfl) ?_
          refine s_do (o_call (w_impl_within _ _ _ _ er12) rfl (.refl _) rfl) ?_
          refine s_do (o_mov (.bool r_11) rfl) ?_
          refine s_lit (s := 30) (b := true) rfl c13 ?_
          refine s_on rfl ?_
          refine s_do (o_q (.ptr 0 0 2) rfl trivial rfl) ?_
          refine s_on rfl ?_
          refine s_do (o_q (.str a_1.T) rfl nle rfl) ?_
          refine s_on rfl ?_
          refine s_do (o_q (.bool (a_1.T == [])) rfl trivial rfl) ?_
          refine s_do (o_q (.bool (a_1.T == [])) rfl trivial rfl) ?_
          refine s_do (o_mov (.bool (a_1.T == [])) rfl) ?_
          refine w_done ?_
          refine k_seq ?_
          refine w_ret ?_
          obtain rfl := os hf
          exact r_flat ⟨trivial, trivial⟩ rfl (.refl _)
        · refine s_do (o_q (.ptr 0 0 1) rfl trivial rfl) ?_
          refine s_do (o_q (.int .i64 a_1.N) rfl nle rfl) ?_
          refine s_do (o_call (w_impl_within _ _ _ _ er12) rfl (.refl _) rfl) ?_
          refine s_do (o_mov (.bool r_11) rfl) ?_
          refine s_lit (s := 30) (b := false) rfl (bf c13) ?_
          refine s_off rfl rfl ?_
          refine s_off rfl rfl ?_
          refine s_off rfl rfl ?_
          refine s_do (o_q (.bool false) rfl trivial rfl) ?_
          refine s_do (o_mov (.bool false) rfl) ?_
          refine w_done ?_
          refine k_seq ?_
          refine w_ret ?_
          obtain rfl := os hf
          exact r_flat ⟨trivial, trivial⟩ rfl (.refl _)
      · refine w_condf rfl (bf c10) ?_
        refine awp_seq ?_
        refine w_reg ?_
        refine s_do (o_q (.bool (a_1.Kind == 4)) rfl rfl rfl) ?_
        refine s_do (o_mov (.bool (a_1.Kind == 4)) rfl) ?_
        refine w_done ?_
        refine k_seq ?_
        rcases oi hf with ⟨c14, hf⟩ | ⟨c14, hf⟩
        · refine w_condt rfl c14 ?_
          refine awp_seq ?_
          refine w_reg ?_
          obtain ⟨r_15, er16, hf⟩ := ob hf
          rcases oi hf with ⟨c17, hf⟩ | ⟨c17, hf⟩
          · refine s_do (o_q (.ptr 0 0 1) rfl trivial rfl) ?_
            refine s_do (o_q (.int .i64 a_1.N) rfl nle rfl) ?_
            refine s_do (o_call (w_impl_isId _ _ er16) rfl (.refl _) rfl) ?_
            refine s_do (o_mov (.bool r_15) rfl) ?_
            refine s_lit (s := 40) (b := true) rfl c17 ?_
            refine s_on rfl ?_
            refine s_do (o_q (.ptr 0 0 2) rfl trivial rfl) ?_
            refine s_on rfl ?_
            refine s_do (o_q (.str a_1.T) rfl nle rfl) ?_
            refine s_on rfl ?_
            refine s_do (o_q (.bool (a_1.T == [])) rfl trivial rfl) ?_
            refine s_do (o_q (.bool (a_1.T == [])) rfl trivial rfl) ?_
            refine s_do (o_mov (.bool (a_1.T == [])) rfl) ?_
            refine w_done ?_
            refine k_seq ?_
            refine w_ret ?_
            obtain rfl := os hf
            exact r_flat ⟨trivial, trivial⟩ rfl (.refl _)
          · refine s_do (o_q (.ptr 0 0 1) rfl trivial rfl) ?_
            refine s_do (o_q (.int .i64 a_1.N) rfl nle rfl) ?_
            refine s_do (o_call (w_impl_isId _ _ er16) rfl (.refl _) rfl) ?_
            refine s_do (o_mov (.bool r_15) rfl) ?_
            refine s_lit (s := 40) (b := false) rfl (bf c17) ?_
            refine s_off rfl rfl ?_
            refine s_off rfl rfl ?_
            refine s_off rfl rfl ?_
            refine s_do (o_q (.bool false) rfl trivial rfl) ?_
            refine s_do (o_mov (.bool false) rfl) ?_
            refine w_done ?_
            refine k_seq ?_
            refine w_ret ?_
            obtain rfl := os hf
            exact r_flat ⟨trivial, trivial⟩ rfl (.refl _)
        · refine w_condf rfl (bf c14) ?_
          refine w_skip ?_
          refine k_blk ?_
          refine k_seq ?_
          refine awp_seq ?_
          refine w_reg ?_
          refine s_do (o_mov (.bool false) rfl) ?_
          refine w_done ?_
          refine k_seq ?_
          refine w_ret ?_
          obtain rfl := os hf
          exact r_flat ⟨trivial, trivial⟩ rfl (.refl _)

/- impl.jsonAtom -/
def c125 : ACode :=
 (.seq (.reg (.q ⟨(some 1), none, .box 5 (.t 0)⟩
 (.q ⟨(some 2), none, .box 3 (.c (.agg [(.int .i64 0), (.int .i64 0), (.str [])]))⟩
 (.q ⟨(some 3), none, .mov (.c (.bool false))⟩
 .done))))
 (.seq (.reg (.q ⟨(some 7), none, .build [(.int .i64 0), (.int .i64 0), (.str [])] []⟩
 (.q ⟨(some 4), none, .box 3 (.c (.agg [(.int .i64 0), (.int .i64 0), (.str [])]))⟩
 (.q ⟨none, none, .store 3 (.t 4) (.t 7)⟩
 .done))))
 (.seq (.seq (.reg (.q ⟨(some 8), none, .faddr 0 (.t 1)⟩
 (.q ⟨(some 9), none, .load 1 false (.t 8)⟩
 .done)))
 (.block 0 (.seq (.reg (.q ⟨(some 11), none, .bin .eql (.t 9) (.c (.int .i64 2))⟩
 (.q ⟨(some 10), none, .mov (.t 11)⟩
 .done)))
 (.cond (.t 10) (.reg (.q ⟨(some 12), none, .faddr 1 (.t 1)⟩
 (.q ⟨(some 13), none, .load 1 false (.t 12)⟩
 (.q ⟨(some 14), none, .build [(.int .i64 0), (.int .i64 0), (.str [])] [(0, 1, (.c (.int .i64 1))), (1, 1, (.t 13))]⟩
 (.q ⟨none, none, .store 3 (.t 4) (.t 14)⟩
 .done)))))
 (.seq (.reg (.q ⟨(some 16), none, .bin .eql (.t 9) (.c (.int .i64 3))⟩
 (.q ⟨(some 15), none, .mov (.t 16)⟩
 .done)))
 (.cond (.t 15) (.reg (.q ⟨(some 17), none, .faddr 2 (.t 1)⟩
 (.q ⟨(some 18), none, .load 1 false (.t 17)⟩
 (.q ⟨(some 19), none, .build [(.int .i64 0), (.int .i64 0), (.str [])] [(0, 1, (.c (.int .i64 2))), (2, 1, (.t 18))]⟩
 (.q ⟨none, none, .store 3 (.t 4) (.t 19)⟩
 .done)))))
 (.seq (.reg (.q ⟨(some 21), none, .bin .eql (.t 9) (.c (.int .i64 1))⟩
 (.q ⟨(some 20), none, .mov (.t 21)⟩
 .done)))
 (.cond (.t 20) (.reg (.q ⟨(some 22), none, .faddr 1 (.t 1)⟩
 (.q ⟨(some 23), none, .load 1 false (.t 22)⟩
 (.q ⟨(some 24), none, .build [(.int .i64 0), (.int .i64 0), (.str [])] [(0, 1, (.c (.int .i64 3))), (1, 1, (.t 23))]⟩
 (.q ⟨none, none, .store 3 (.t 4) (.t 24)⟩
 .done)))))
 (.seq (.reg (.q ⟨(some 26), none, .bin .eql (.t 9) (.c (.int .i64 4))⟩
 (.q ⟨(some 25), none, .mov (.t 26)⟩
 .done)))
 (.cond (.t 25) (.seq (.reg (.q ⟨(some 28), none, .load 5 true (.t 1)⟩
 (.q ⟨(some 29), none, .call 183 [(.t 28), (.c (.str [117, 117, 105, 100]))]⟩
 (.q ⟨(some 27), none, .mov (.t 29)⟩
 (.q ⟨(some 30), none, .extract 0 (.t 27)⟩
 (.q ⟨(some 31), none, .extract 1 (.t 27)⟩
 (.q ⟨(some 5), none, .box 5 (.c (.agg [(.int .i64 0), (.int .i64 0), (.str []), .nil, .nil]))⟩
 (.q ⟨none, none, .store 5 (.t 5) (.t 30)⟩
 (.q ⟨(some 6), none, .mov (.t 31)⟩
 .done)))))))))
 (.seq (.seq (.reg (.q ⟨(some 32), none, .mov (.t 6)⟩
 (.q ⟨(some 33), none, .not (.t 32)⟩
 (.q ⟨(some 34), none, .mov (.t 33)⟩
 (.q ⟨(some 35), (some (34, false)), .faddr 0 (.t 5)⟩
 (.q ⟨(some 36), (some (34, false)), .load 1 false (.t 35)⟩
 (.q ⟨(some 37), (some (34, false)), .bin .neq (.t 36) (.c (.int .i64 2))⟩
 (.q ⟨(some 38), none, .pick (.t 34) (.c (.bool true)) (.t 37)⟩
 .done))))))))
 (.cut (.cond (.t 38) (.seq (.reg (.q ⟨(some 39), none, .build [(.int .i64 0), (.int .i64 0), (.str [])] []⟩
 (.q ⟨none, none, .store 3 (.t 2) (.t 39)⟩
 (.q ⟨(some 3), none, .mov (.c (.bool false))⟩
 .done))))
 .ret)
 .skip)))
 (.reg (.q ⟨(some 40), none, .faddr 1 (.t 5)⟩
 (.q ⟨(some 41), none, .load 1 false (.t 40)⟩
 (.q ⟨(some 42), none, .build [(.int .i64 0), (.int .i64 0), (.str [])] [(0, 1, (.c (.int .i64 4))), (1, 1, (.t 41))]⟩
 (.q ⟨none, none, .store 3 (.t 4) (.t 42)⟩
 .done)))))))
 .skip))))))))))
 (.cut (.seq (.reg (.q ⟨(some 43), none, .load 3 true (.t 4)⟩
 (.q ⟨(some 44), none, .load 3 true (.t 4)⟩
 (.l ⟨(some 45), none, .call 109 [(.t 44)]⟩ [⟨(some 43), none, .load 3 true (.t 4)⟩]
 (.l ⟨none, none, .store 3 (.t 2) (.t 43)⟩ []
 (.q ⟨(some 3), none, .mov (.t 45)⟩
 .done) .non) .non))))
 .ret)))))
theorem fc125 : fcomp Try.prog Try.f125 = some (c125.erase, [.load 3 true (.t 2), .mov (.t 3)], 46) := by kernel_rfl
def impl_jsonAtom (j_1 : GJson) : Option (GAtom × Bool) :=
    ((if (j_1.Kind == 2) then
    some (.go (1, j_1.N, []))
    else
    if (j_1.Kind == 3) then
    some (.go (2, 0, j_1.T))
    else
    if (j_1.Kind == 1) then
    some (.go (3, j_1.N, []))
    else
    if (j_1.Kind == 4) then
    (impl_Json_pairOf j_1 [117, 117, 105, 100]).bind fun r_21 =>
    ((if (!r_21.2) then
    some true
    else
    some (r_21.1.Kind != 2) : Option Bool)).bind fun s38_24 =>
    if s38_24 then
    some (.ret ((⟨0, 0, []⟩ : GAtom), false))
    else
    some (.go (4, r_21.1.N, []))
    else
    some (.go (0, 0, [])) : Option (Fl (GAtom × Bool) (Int × Int × Str)))).bind fun q => (match q with
    | .ret r => some r
    | .go (x_13, x_14, x_15) =>
    (impl_AtomOK (⟨x_13, x_14, x_15⟩ : GAtom)).bind fun r_28 =>
    some ((⟨x_13, x_14, x_15⟩ : GAtom), r_28))
theorem w_impl_jsonAtom (j_1 : GJson) (r : (GAtom × Bool)) (hf : impl_jsonAtom j_1 = some r) : CallOK Try.prog 125 .flat [(encGJson j_1)] (.tup [(encGAtom r.1), (.bool r.2)]) := by
  refine CallOK.of_awp mixed Try.func125 fc125 nle ?_
  rw [argT_eq]
  rw [encGJson_eq j_1]
  unfold impl_jsonAtom at hf
  unfold c125
  refine (show awp Try.prog false 0 _ (ofL [(0, (.agg [(.int .i64 j_1.Kind), (.int .i64 j_1.N), (.str j_1.T), (.lst 1 (j_1.Keys.map AV.str)), (.lst 5 (j_1.Items.map encGJson))]))]) [] _ from ?_)
  refine awp_seq ?_
  refine w_reg ?_
  refine s_do (o_box (j := 0) (c := (.agg [(.int .i64 j_1.Kind), (.int .i64 j_1.N), (.str j_1.T), (.lst 1 (j_1.Keys.map AV.str)), (.lst 5 (j_1.Items.map encGJson))])) rfl trivial rfl rfl) ?_
  refine s_do (o_box (j := 1) (c := (.agg [(.int .i64 0), (.int .i64 0), (.str [])])) rfl trivial rfl rfl) ?_
  refine s_do (o_mov (.bool false) rfl) ?_
  refine w_done ?_
  refine k_seq ?_
  refine awp_seq ?_
  refine w_reg ?_
  refine s_do (o_q (.agg [(.int .i64 0), (.int .i64 0), (.str [])]) rfl trivial rfl) ?_
  refine s_do (o_box (j := 2) (c := (.agg [(.int .i64 0), (.int .i64 0), (.str [])])) rfl trivial rfl rfl) ?_
  refine s_do0 (o_storebox (v := (.agg [(.int .i64 0), (.int .i64 0), (.str [])])) (y' := (.agg [(.int .i64 0), (.int .i64 0), (.str [])])) rfl rfl rfl trivial ⟨rfl, nle⟩ ⟨⟨rfl, trivial⟩, ⟨⟨rfl, trivial⟩, ⟨⟨rfl, trivial⟩, trivial⟩⟩⟩ rfl) ?_
  refine w_done ?_
  refine k_seq ?_
  refine awp_seq ?_
  obtain ⟨p16, hb1, hf⟩ := ob hf
  refine awp_cutx (X := {q : (Int × Int × Str) // p16 = .go q}) (fun q => ([(2, (.ptr 0 0 0)), (4, (.ptr 1 0 0))], [.box 3 (.agg [(.int .i64 0), (.int .i64 0), (.str [])]), .box 3 (.agg [(.int .i64 q.1.1), (.int .i64 q.1.2.1), (.str q.1.2.2)])])) ?_ ?_
  · refine awp_seq ?_
    refine w_reg ?_
    refine s_do (o_q (.ptr 0 0 0) rfl trivial rfl) ?_
    refine s_do (o_q (.int .i64 j_1.Kind) rfl nle rfl) ?_
    refine w_done ?_
    refine k_seq ?_
    refine w_blk ?_
    refine awp_seq ?_
    refine w_reg ?_
    refine s_do (o_q (.bool (j_1.Kind == 2)) rfl rfl rfl) ?_
    refine s_do (o_mov (.bool (j_1.Kind == 2)) rfl) ?_
    refine w_done ?_
    refine k_seq ?_
    rcases oi hb1 with ⟨c17, hb1⟩ | ⟨c17, hb1⟩
    · refine w_condt rfl c17 ?_
      refine w_reg ?_
      refine s_do (o_q (.ptr 0 0 1) rfl trivial rfl) ?_
      refine s_do (o_q (.int .i64 j_1.N) rfl nle rfl) ?_
      refine s_do (o_q (.agg [(.int .i64 1), (.int .i64 j_1.N), (.str [])]) rfl ⟨⟨rfl, nle, trivial⟩, ⟨⟨rfl, nle, trivial⟩, trivial⟩⟩ rfl) ?_
      refine s_do0 (o_storebox (v := (.agg [(.int .i64 1), (.int .i64 j_1.N), (.str [])])) (y' := (.agg [(.int .i64 1), (.int .i64 j_1.N), (.str [])])) rfl rfl rfl trivial ⟨rfl, nle⟩ ⟨⟨rfl, trivial⟩, ⟨⟨rfl, trivial⟩, ⟨⟨rfl, trivial⟩, trivial⟩⟩⟩ rfl) ?_
      refine w_done ?_
      refine k_blk ?_
      obtain rfl := os hb1
      exact k_cutn ⟨_, rfl⟩ ⟨[], [1, 2], _, _, rfl, rfl, ⟨.refl _, ⟨.refl _, trivial⟩⟩, (.refl _)⟩
    · refine w_condf rfl (bf c17) ?_
      refine awp_seq ?_
      refine w_reg ?_
      refine s_do (o_q (.bool (j_1.Kind == 3)) rfl rfl rfl) ?_
      refine s_do (o_mov (.bool (j_1.Kind == 3)) rfl) ?_
      refine w_done ?_
      refine k_seq ?_
      rcases oi hb1 with ⟨c18, hb1⟩ | ⟨c18, hb1⟩
      · refine w_condt rfl c18 ?_
        refine w_reg ?_
        refine s_do (o_q (.ptr 0 0 2) rfl trivial rfl) ?_
        refine s_do (o_q (.str j_1.T) rfl nle rfl) ?_
        refine s_do (o_q (.agg [(.int .i64 2), (.int .i64 0), (.str j_1.T)]) rfl ⟨⟨rfl, nle, trivial⟩, ⟨⟨rfl, nle, trivial⟩, trivial⟩⟩ rfl) ?_
        refine s_do0 (o_storebox (v := (.agg [(.int .i64 2), (.int .i64 0), (.str j_1.T)])) (y' := (.agg [(.int .i64 2), (.int .i64 0), (.str j_1.T)])) rfl rfl rfl trivial ⟨rfl, nle⟩ ⟨⟨rfl, trivial⟩, ⟨⟨rfl, trivial⟩, ⟨⟨rfl, trivial⟩, trivial⟩⟩⟩ rfl) ?_
        refine w_done ?_
        refine k_blk ?_
        obtain rfl := os hb1
        exact k_cutn ⟨_, rfl⟩ ⟨[], [1, 2], _, _, rfl, rfl, ⟨.refl _, ⟨.refl _, trivial⟩⟩, (.refl _)⟩
      · refine w_condf rfl (bf c18) ?_
        refine awp_seq ?_
        refine w_reg ?_
        refine s_do (o_q (.bool (j_1.Kind == 1)) rfl rfl rfl) ?_
        refine s_do (o_mov (.bool (j_1.Kind == 1)) rfl) ?_
        refine w_done ?_
        refine k_seq ?_
        rcases oi hb1 with ⟨c19, hb1⟩ | ⟨c19, hb1⟩
        · refine w_condt rfl c19 ?_
          refine w_reg ?_
          refine s_do (o_q (.ptr 0 0 1) rfl trivial rfl) ?_
          refine s_do (o_q (.int .i64 j_1.N) rfl nle rfl) ?_
          refine s_do (o_q (.agg [(.int .i64 3), (.int .i64 j_1.N), (.str [])]) rfl ⟨⟨rfl, nle, trivial⟩, ⟨⟨rfl, nle, trivial⟩, trivial⟩⟩ rfl) ?_
          refine s_do0 (o_storebox (v := (.agg [(.int .i64 3), (.int .i64 j_1.N), (.str [])])) (y' := (.agg [(.int .i64 3), (.int .i64 j_1.N), (.str [])])) rfl rfl rfl trivial ⟨rfl, nle⟩ ⟨⟨rfl, trivial⟩, ⟨⟨rfl, trivial⟩, ⟨⟨rfl, trivial⟩, trivial⟩⟩⟩ rfl) ?_
          refine w_done ?_
          refine k_blk ?_
          obtain rfl := os hb1
          exact k_cutn ⟨_, rfl⟩ ⟨[], [1, 2], _, _, rfl, rfl, ⟨.refl _, ⟨.refl _, trivial⟩⟩, (.refl _)⟩
        · refine w_condf rfl (bf c19) ?_
          refine awp_seq ?_
          refine w_reg ?_
          refine s_do (o_q (.bool (j_1.Kind == 4)) rfl rfl rfl) ?_
          refine s_do (o_mov (.bool (j_1.Kind == 4)) rfl) ?_
          refine w_done ?_
          refine k_seq ?_
          rcases oi hb1 with ⟨c20, hb1⟩ | ⟨c20, hb1⟩
          · refine w_condt rfl c20 ?_
            refine awp_seq ?_
            refine w_reg ?_
            obtain ⟨r_21, er22, hb1⟩ := ob hb1
            refine s_do (o_q (.agg [(.int .i64 j_1.Kind), (.int .i64 j_1.N), (.str j_1.T), (.lst 1 (j_1.Keys.map AV.str)), (.lst 5 (j_1.Items.map encGJson))]) rfl nle rfl) ?_
            refine s_do (o_callw (v := (.tup [(.agg [(.int .i64 r_21.1.Kind), (.int .i64 r_21.1.N), (.str r_21.1.T), (.lst 1 (r_21.1.Keys.map AV.str)), (.lst 5 (r_21.1.Items.map encGJson))]), (.bool r_21.2)])) (w_impl_Json_pairOf _ _ _ er22) rfl (.cons (.of_eq (encGJson_eq j_1).symm) (.cons (.refl _) .nil)) (by simp only [encGJson_eq]) rfl) ?_
            refine s_do (o_mov (.tup [(.agg [(.int .i64 r_21.1.Kind), (.int .i64 r_21.1.N), (.str r_21.1.T), (.lst 1 (r_21.1.Keys.map AV.str)), (.lst 5 (r_21.1.Items.map encGJson))]), (.bool r_21.2)]) rfl) ?_
            refine s_do (o_q (.agg [(.int .i64 r_21.1.Kind), (.int .i64 r_21.1.N), (.str r_21.1.T), (.lst 1 (r_21.1.Keys.map AV.str)), (.lst 5 (r_21.1.Items.map encGJson))]) rfl nle rfl) ?_
            refine s_do (o_q (.bool r_21.2) rfl nle rfl) ?_
            refine s_do (o_box (j := 3) (c := (.agg [(.int .i64 0), (.int .i64 0), (.str []), .nil, .nil])) rfl trivial rfl rfl) ?_
            refine s_do0 (o_storebox (v := (.agg [(.int .i64 r_21.1.Kind), (.int .i64 r_21.1.N), (.str r_21.1.T), (.lst 1 (r_21.1.Keys.map AV.str)), (.lst 5 (r_21.1.Items.map encGJson))])) (y' := (.agg [(.int .i64 r_21.1.Kind), (.int .i64 r_21.1.N), (.str r_21.1.T), (.lst 1 (r_21.1.Keys.map AV.str)), (.lst 5 (r_21.1.Items.map encGJson))])) rfl rfl rfl trivial ⟨rfl, nle⟩ ⟨⟨rfl, trivial⟩, ⟨⟨rfl, trivial⟩, ⟨⟨rfl, trivial⟩, ⟨⟨rfl, trivial⟩, ⟨⟨rfl, trivial⟩, trivial⟩⟩⟩⟩⟩ rfl) ?_
            refine s_do (o_mov (.bool r_21.2) rfl) ?_
            refine w_done ?_
            refine k_seq ?_
            refine awp_seq ?_
            refine awp_seq ?_
            obtain ⟨s38_24, hb2, hb1⟩ := ob hb1
            refine awp_cut ([(2, (.ptr 0 0 0)), (4, (.ptr 1 0 0)), (5, (.ptr 2 0 0)), (38, (.bool s38_24))], [.box 3 (.agg [(.int .i64 0), (.int .i64 0), (.str [])]), .box 3 (.agg [(.int .i64 0), (.int .i64 0), (.str [])]), .box 5 (.agg [(.int .i64 r_21.1.Kind), (.int .i64 r_21.1.N), (.str r_21.1.T), (.lst 1 (r_21.1.Keys.map AV.str)), (.lst 5 (r_21.1.Items.map encGJson))])]) ?_ ?_
            · refine w_reg ?_
              rcases oi hb2 with ⟨c26, hb2⟩ | ⟨c26, hb2⟩
              · refine s_do (o_mov (.bool r_21.2) rfl) ?_
                refine s_do (o_q (.bool (!r_21.2)) rfl trivial rfl) ?_
                refine s_do (o_mov (.bool (!r_21.2)) rfl) ?_
                refine s_lit (s := 34) (b := true) rfl c26 ?_
                refine s_off rfl rfl ?_
                refine s_off rfl rfl ?_
                refine s_off rfl rfl ?_
                refine s_do (o_q (.bool true) rfl trivial rfl) ?_
                refine w_done ?_
                obtain rfl := os hb2
                exact ⟨[], [1, 2, 3], _, _, rfl, rfl, ⟨.refl _, ⟨.refl _, ⟨.refl _, ⟨.refl _, trivial⟩⟩⟩⟩, (.refl _)⟩
              · refine s_do (o_mov (.bool r_21.2) rfl) ?_
                refine s_do (o_q (.bool (!r_21.2)) rfl trivial rfl) ?_
                refine s_do (o_mov (.bool (!r_21.2)) rfl) ?_
                refine s_lit (s := 34) (b := false) rfl (bf c26) ?_
                refine s_on rfl ?_
                refine s_do (o_q (.ptr 3 0 0) rfl trivial rfl) ?_
                refine s_on rfl ?_
                refine s_do (o_q (.int .i64 r_21.1.Kind) rfl nle rfl) ?_
                refine s_on rfl ?_
                refine s_do (o_q (.bool (r_21.1.Kind != 2)) rfl rfl rfl) ?_
                refine s_do (o_q (.bool (r_21.1.Kind != 2)) rfl trivial rfl) ?_
                refine w_done ?_
                obtain rfl := os hb2
                exact ⟨[], [1, 2, 3], _, _, rfl, rfl, ⟨.refl _, ⟨.refl _, ⟨.refl _, ⟨.refl _, trivial⟩⟩⟩⟩, (.refl _)⟩
            · rcases oi hb1 with ⟨c27, hb1⟩ | ⟨c27, hb1⟩
              · refine w_condt rfl c27 ?_
                refine awp_seq ?_
                refine w_reg ?_
                refine s_do (o_q (.agg [(.int .i64 0), (.int .i64 0), (.str [])]) rfl trivial rfl) ?_
                refine s_do0 (o_storebox (v := (.agg [(.int .i64 0), (.int .i64 0), (.str [])])) (y' := (.agg [(.int .i64 0), (.int .i64 0), (.str [])])) rfl rfl rfl trivial ⟨rfl, nle⟩ ⟨⟨rfl, trivial⟩, ⟨⟨rfl, trivial⟩, ⟨⟨rfl, trivial⟩, trivial⟩⟩⟩ rfl) ?_
                refine s_do (o_mov (.bool false) rfl) ?_
                refine w_done ?_
                refine k_seq ?_
                refine w_ret ?_
                obtain rfl := os hb1
                obtain rfl := os hf
                exact r_flat ⟨nle, ⟨trivial, trivial⟩⟩ rfl (.refl _)
              · refine w_condf rfl (bf c27) ?_
                refine w_skip ?_
                refine k_seq ?_
                refine w_reg ?_
                refine s_do (o_q (.ptr 2 0 1) rfl trivial rfl) ?_
                refine s_do (o_q (.int .i64 r_21.1.N) rfl nle rfl) ?_
                refine s_do (o_q (.agg [(.int .i64 4), (.int .i64 r_21.1.N), (.str [])]) rfl ⟨⟨rfl, nle, trivial⟩, ⟨⟨rfl, nle, trivial⟩, trivial⟩⟩ rfl) ?_
                refine s_do0 (o_storebox (v := (.agg [(.int .i64 4), (.int .i64 r_21.1.N), (.str [])])) (y' := (.agg [(.int .i64 4), (.int .i64 r_21.1.N), (.str [])])) rfl rfl rfl trivial ⟨rfl, nle⟩ ⟨⟨rfl, trivial⟩, ⟨⟨rfl, trivial⟩, ⟨⟨rfl, trivial⟩, trivial⟩⟩⟩ rfl) ?_
                refine w_done ?_
                refine k_blk ?_
                obtain rfl := os hb1
                exact k_cutn ⟨_, rfl⟩ ⟨[], [0, 1], _, _, rfl, rfl, ⟨.refl _, ⟨.refl _, trivial⟩⟩, (.refl _)⟩
          · refine w_condf rfl (bf c20) ?_
            refine w_skip ?_
            refine k_blk ?_
            obtain rfl := os hb1
            exact k_cutn ⟨_, rfl⟩ ⟨[], [1, 2], _, _, rfl, rfl, ⟨.refl _, ⟨.refl _, trivial⟩⟩, (.refl _)⟩
  · rintro ⟨⟨x_13, x_14, x_15⟩, rfl⟩
    refine awp_seq ?_
    refine w_reg ?_
    obtain ⟨r_28, er29, hf⟩ := ob hf
    refine s_do (o_q (.agg [(.int .i64 x_13), (.int .i64 x_14), (.str x_15)]) rfl nle rfl) ?_
    refine s_do (o_q (.agg [(.int .i64 x_13), (.int .i64 x_14), (.str x_15)]) rfl nle rfl) ?_
    refine s_dol (o_call (w_impl_AtomOK _ _ er29) rfl (.refl _) rfl) a_same trivial ?_
    refine s_dol0 (o_storebox (v := (.agg [(.int .i64 x_13), (.int .i64 x_14), (.str x_15)])) (y' := (.agg [(.int .i64 x_13), (.int .i64 x_14), (.str x_15)])) rfl rfl rfl trivial ⟨rfl, nle⟩ ⟨⟨rfl, trivial⟩, ⟨⟨rfl, trivial⟩, ⟨⟨rfl, trivial⟩, trivial⟩⟩⟩ rfl) trivial trivial ?_
    refine s_do (o_mov (.bool r_28) rfl) ?_
    refine w_done ?_
    refine k_seq ?_
    refine w_ret ?_
    obtain rfl := os hf
    exact r_flat ⟨nle, ⟨trivial, trivial⟩⟩ rfl (.refl _)

/- impl.JsonAtom -/
def c50 : ACode :=
 (.seq (.reg (.q ⟨(some 1), none, .box 5 (.t 0)⟩
 (.q ⟨(some 2), none, .box 3 (.c (.agg [(.int .i64 0), (.int .i64 0), (.str [])]))⟩
 (.q ⟨(some 3), none, .mov (.c (.int .i64 0))⟩
 .done))))
 (.seq (.seq (.reg (.q ⟨(some 6), none, .load 5 true (.t 1)⟩
 (.q ⟨(some 7), none, .call 101 [(.t 6)]⟩
 (.q ⟨(some 8), none, .not (.t 7)⟩
 .done))))
 (.cond (.t 8) (.seq (.reg (.q ⟨(some 9), none, .build [(.int .i64 0), (.int .i64 0), (.str [])] []⟩
 (.q ⟨none, none, .store 3 (.t 2) (.t 9)⟩
 (.q ⟨(some 3), none, .mov (.c (.int .i64 1))⟩
 .done))))
 .ret)
 .skip))
 (.seq (.reg (.q ⟨(some 11), none, .load 5 true (.t 1)⟩
 (.q ⟨(some 12), none, .call 125 [(.t 11)]⟩
 (.q ⟨(some 10), none, .mov (.t 12)⟩
 (.q ⟨(some 13), none, .extract 0 (.t 10)⟩
 (.q ⟨(some 14), none, .extract 1 (.t 10)⟩
 (.q ⟨(some 4), none, .box 3 (.c (.agg [(.int .i64 0), (.int .i64 0), (.str [])]))⟩
 (.q ⟨none, none, .store 3 (.t 4) (.t 13)⟩
 (.q ⟨(some 5), none, .mov (.t 14)⟩
 .done)))))))))
 (.seq (.seq (.reg (.q ⟨(some 15), none, .mov (.t 5)⟩
 (.q ⟨(some 16), none, .not (.t 15)⟩
 .done)))
 (.cond (.t 16) (.seq (.reg (.q ⟨(some 17), none, .build [(.int .i64 0), (.int .i64 0), (.str [])] []⟩
 (.q ⟨none, none, .store 3 (.t 2) (.t 17)⟩
 (.q ⟨(some 3), none, .mov (.c (.int .i64 3))⟩
 .done))))
 .ret)
 .skip))
 (.seq (.reg (.q ⟨(some 18), none, .load 3 true (.t 4)⟩
 (.q ⟨none, none, .store 3 (.t 2) (.t 18)⟩
 (.q ⟨(some 3), none, .mov (.c (.int .i64 0))⟩
 .done))))
 .ret)))))
theorem fc50 : fcomp Try.prog Try.f50 = some (c50.erase, [.load 3 true (.t 2), .mov (.t 3)], 19) := by kernel_rfl
def impl_JsonAtom (j_1 : GJson) : Option (GAtom × Int) :=
    (impl_JsonOK j_1).bind fun r_2 =>
    if (!r_2) then
    some ((⟨0, 0, []⟩ : GAtom), 1)
    else
    (impl_jsonAtom j_1).bind fun r_5 =>
    if (!r_5.2) then
    some ((⟨0, 0, []⟩ : GAtom), 3)
    else
    some (r_5.1, 0)
theorem w_impl_JsonAtom (j_1 : GJson) (r : (GAtom × Int)) (hf : impl_JsonAtom j_1 = some r) : CallOK Try.prog 50 .flat [(encGJson j_1)] (.tup [(encGAtom r.1), (.int .i64 r.2)]) := by
  refine CallOK.of_awp mixed Try.func50 fc50 nle ?_
  rw [argT_eq]
  rw [encGJson_eq j_1]
  unfold impl_JsonAtom at hf
  unfold c50
  refine (show awp Try.prog false 0 _ (ofL [(0, (.agg [(.int .i64 j_1.Kind), (.int .i64 j_1.N), (.str j_1.T), (.lst 1 (j_1.Keys.map AV.str)), (.lst 5 (j_1.Items.map encGJson))]))]) [] _ from ?_)
  refine awp_seq ?_
  refine w_reg ?_
  refine s_do (o_box (j := 0) (c := (.agg [(.int .i64 j_1.Kind), (.int .i64 j_1.N), (.str j_1.T), (.lst 1 (j_1.Keys.map AV.str)), (.lst 5 (j_1.Items.map encGJson))])) rfl trivial rfl rfl) ?_
  refine s_do (o_box (j := 1) (c := (.agg [(.int .i64 0), (.int .i64 0), (.str [])])) rfl trivial rfl rfl) ?_
  refine s_do (o_mov (.int .i64 0) rfl) ?_
  refine w_done ?_
  refine k_seq ?_
  refine awp_seq ?_
  refine awp_seq ?_
  refine w_reg ?_
  obtain ⟨r_2, er3, hf⟩ := ob hf
  refine s_do (o_q (.agg [(.int .i64 j_1.Kind), (.int .i64 j_1.N), (.str j_1.T), (.lst 1 (j_1.Keys.map AV.str)), (.lst 5 (j_1.Items.map encGJson))]) rfl nle rfl) ?_
  refine s_do (o_call (w_impl_JsonOK _ _ er3) rfl (.cons (.of_eq (encGJson_eq j_1).symm) .nil) rfl) ?_
  refine s_do (o_q (.bool (!r_2)) rfl trivial rfl) ?_
  refine w_done ?_
  refine k_seq ?_
  rcases oi hf with ⟨c4, hf⟩ | ⟨c4, hf⟩
  · refine w_condt rfl c4 ?_
    refine awp_seq ?_
    refine w_reg ?_
    refine s_do (o_q (.agg [(.int .i64 0), (.int .i64 0), (.str [])]) rfl trivial rfl) ?_
    refine s_do0 (o_storebox (v := (.agg [(.int .i64 0), (.int .i64 0), (.str [])])) (y' := (.agg [(.int .i64 0), (.int .i64 0), (.str [])])) rfl rfl rfl trivial ⟨rfl, nle⟩ ⟨⟨rfl, trivial⟩, ⟨⟨rfl, trivial⟩, ⟨⟨rfl, trivial⟩, trivial⟩⟩⟩ rfl) ?_
    refine s_do (o_mov (.int .i64 1) rfl) ?_
    refine w_done ?_
    refine k_seq ?_
    refine w_ret ?_
    obtain rfl := os hf
    exact r_flat ⟨nle, ⟨trivial, trivial⟩⟩ rfl (.refl _)
  · refine w_condf rfl (bf c4) ?_
    refine w_skip ?_
    refine k_seq ?_
    refine awp_seq ?_
    refine w_reg ?_
    obtain ⟨r_5, er6, hf⟩ := ob hf
    refine s_do (o_q (.agg [(.int .i64 j_1.Kind), (.int .i64 j_1.N), (.str j_1.T), (.lst 1 (j_1.Keys.map AV.str)), (.lst 5 (j_1.Items.map encGJson))]) rfl nle rfl) ?_
    refine s_do (o_call (w_impl_jsonAtom _ _ er6) rfl (.cons (.of_eq (encGJson_eq j_1).symm) .nil) rfl) ?_
    refine s_do (o_mov (.tup [(encGAtom r_5.1), (.bool r_5.2)]) rfl) ?_
    refine s_do (o_q (encGAtom r_5.1) rfl nle rfl) ?_
    refine s_do (o_q (.bool r_5.2) rfl nle rfl) ?_
    refine s_do (o_box (j := 2) (c := (.agg [(.int .i64 0), (.int .i64 0), (.str [])])) rfl trivial rfl rfl) ?_
    refine s_do0 (o_storebox (v := (.agg [(.int .i64 r_5.1.Kind), (.int .i64 r_5.1.N), (.str r_5.1.T)])) (y' := (.agg [(.int .i64 r_5.1.Kind), (.int .i64 r_5.1.N), (.str r_5.1.T)])) rfl rfl rfl trivial ⟨rfl, nle⟩ ⟨⟨rfl, trivial⟩, ⟨⟨rfl, trivial⟩, ⟨⟨rfl, trivial⟩, trivial⟩⟩⟩ rfl) ?_
    refine s_do (o_mov (.bool r_5.2) rfl) ?_
    refine w_done ?_
    refine k_seq ?_
    refine awp_seq ?_
    refine awp_seq ?_
    refine w_reg ?_
    refine s_do (o_mov (.bool r_5.2) rfl) ?_
    refine s_do (o_q (.bool (!r_5.2)) rfl trivial rfl) ?_
    refine w_done ?_
    refine k_seq ?_
    rcases oi hf with ⟨c7, hf⟩ | ⟨c7, hf⟩
    · refine w_condt rfl c7 ?_
      refine awp_seq ?_
      refine w_reg ?_
      refine s_do (o_q (.agg [(.int .i64 0), (.int .i64 0), (.str [])]) rfl trivial rfl) ?_
      refine s_do0 (o_storebox (v := (.agg [(.int .i64 0), (.int .i64 0), (.str [])])) (y' := (.agg [(.int .i64 0), (.int .i64 0), (.str [])])) rfl rfl rfl trivial ⟨rfl, nle⟩ ⟨⟨rfl, trivial⟩, ⟨⟨rfl, trivial⟩, ⟨⟨rfl, trivial⟩, trivial⟩⟩⟩ rfl) ?_
      refine s_do (o_mov (.int .i64 3) rfl) ?_
      refine w_done ?_
      refine k_seq ?_
      refine w_ret ?_
      obtain rfl := os hf
      exact r_flat ⟨nle, ⟨trivial, trivial⟩⟩ rfl (.refl _)
    · refine w_condf rfl (bf c7) ?_
      refine w_skip ?_
      refine k_seq ?_
      refine awp_seq ?_
      refine w_reg ?_
      refine s_do (o_q (.agg [(.int .i64 r_5.1.Kind), (.int .i64 r_5.1.N), (.str r_5.1.T)]) rfl nle rfl) ?_
      refine s_do0 (o_storebox (v := (.agg [(.int .i64 r_5.1.Kind), (.int .i64 r_5.1.N), (.str r_5.1.T)])) (y' := (.agg [(.int .i64 r_5.1.Kind), (.int .i64 r_5.1.N), (.str r_5.1.T)])) rfl rfl rfl trivial ⟨rfl, nle⟩ ⟨⟨rfl, trivial⟩, ⟨⟨rfl, trivial⟩, ⟨⟨rfl, trivial⟩, trivial⟩⟩⟩ rfl) ?_
      refine s_do (o_mov (.int .i64 0) rfl) ?_
      refine w_done ?_
      refine k_seq ?_
      refine w_ret ?_
      obtain rfl := os hf
      exact r_flat ⟨nle, ⟨trivial, trivial⟩⟩ rfl (.refl _)

/- laws.eqAtom -/
def c51 : ACode :=
 (.seq (.reg (.q ⟨(some 2), none, .box 3 (.t 0)⟩
 (.q ⟨(some 3), none, .box 3 (.t 1)⟩
 (.q ⟨(some 4), none, .mov (.c (.bool false))⟩
 .done))))
 (.seq (.seq (.reg (.q ⟨(some 5), none, .faddr 0 (.t 2)⟩
 (.q ⟨(some 6), none, .load 1 false (.t 5)⟩
 (.q ⟨(some 7), none, .faddr 0 (.t 3)⟩
 (.q ⟨(some 8), none, .load 1 false (.t 7)⟩
 (.q ⟨(some 9), none, .bin .neq (.t 6) (.t 8)⟩
 .done))))))
 (.cond (.t 9) (.seq (.reg (.q ⟨(some 4), none, .mov (.c (.bool false))⟩
 .done))
 .ret)
 .skip))
 (.seq (.seq (.reg (.q ⟨(some 10), none, .faddr 1 (.t 2)⟩
 (.q ⟨(some 11), none, .load 1 false (.t 10)⟩
 (.q ⟨(some 12), none, .faddr 1 (.t 3)⟩
 (.q ⟨(some 13), none, .load 1 false (.t 12)⟩
 (.q ⟨(some 14), none, .bin .neq (.t 11) (.t 13)⟩
 .done))))))
 (.cond (.t 14) (.seq (.reg (.q ⟨(some 4), none, .mov (.c (.bool false))⟩
 .done))
 .ret)
 .skip))
 (.seq (.seq (.reg (.q ⟨(some 15), none, .faddr 2 (.t 2)⟩
 (.q ⟨(some 16), none, .load 1 false (.t 15)⟩
 (.q ⟨(some 17), none, .faddr 2 (.t 3)⟩
 (.q ⟨(some 18), none, .load 1 false (.t 17)⟩
 (.q ⟨(some 19), none, .bin .neq (.t 16) (.t 18)⟩
 .done))))))
 (.cond (.t 19) (.seq (.reg (.q ⟨(some 4), none, .mov (.c (.bool false))⟩
 .done))
 .ret)
 .skip))
 (.seq (.reg (.q ⟨(some 4), none, .mov (.c (.bool true))⟩
 .done))
 .ret)))))
theorem fc51 : fcomp Try.prog Try.f51 = some (c51.erase, [.mov (.t 4)], 20) := by kernel_rfl
def laws_eqAtom (a_1 : GAtom) (b_2 : GAtom) : Option Bool :=
    if (a_1.Kind != b_2.Kind) then
    some false
    else
    if (a_1.N != b_2.N) then
    some false
    else
    if (!(a_1.T == b_2.T)) then
    some false
    else
    some true
theorem w_laws_eqAtom (a_1 : GAtom) (b_2 : GAtom) (r : Bool) (hf : laws_eqAtom a_1 b_2 = some r) : CallOK Try.prog 51 .flat [(encGAtom a_1), (encGAtom b_2)] (.bool r) := by
  refine CallOK.of_awp mixed Try.func51 fc51 nle ?_
  rw [argT_eq]
  unfold laws_eqAtom at hf
  unfold c51
  refine (show awp Try.prog false 0 _ (ofL [(0, (encGAtom a_1)), (1, (encGAtom b_2))]) [] _ from ?_)
  refine awp_seq ?_
  refine w_reg ?_
  refine s_do (o_box (j := 0) (c := (.agg [(.int .i64 a_1.Kind), (.int .i64 a_1.N), (.str a_1.T)])) rfl trivial rfl rfl) ?_
  refine s_do (o_box (j := 1) (c := (.agg [(.int .i64 b_2.Kind), (.int .i64 b_2.N), (.str b_2.T)])) rfl trivial rfl rfl) ?_
  refine s_do (o_mov (.bool false) rfl) ?_
  refine w_done ?_
  refine k_seq ?_
  refine awp_seq ?_
  refine awp_seq ?_
  refine w_reg ?_
  refine s_do (o_q (.ptr 0 0 0) rfl trivial rfl) ?_
  refine s_do (o_q (.int .i64 a_1.Kind) rfl nle rfl) ?_
  refine s_do (o_q (.ptr 1 0 0) rfl trivial rfl) ?_
  refine s_do (o_q (.int .i64 b_2.Kind) rfl nle rfl) ?_
  refine s_do (o_q (.bool (a_1.Kind != b_2.Kind)) rfl rfl rfl) ?_
  refine w_done ?_
  refine k_seq ?_
  rcases oi hf with ⟨c3, hf⟩ | ⟨c3, hf⟩
  · refine w_condt rfl c3 ?_
    refine awp_seq ?_
    refine w_reg ?_
    refine s_do (o_mov (.bool false) rfl) ?_
    refine w_done ?_
    refine k_seq ?_
    refine w_ret ?_
    obtain rfl := os hf
    exact r_flat ⟨trivial, trivial⟩ rfl (.refl _)
  · refine w_condf rfl (bf c3) ?_
    refine w_skip ?_
    refine k_seq ?_
    refine awp_seq ?_
    refine awp_seq ?_
    refine w_reg ?_
    refine s_do (o_q (.ptr 0 0 1) rfl trivial rfl) ?_
    refine s_do (o_q (.int .i64 a_1.N) rfl nle rfl) ?_
    refine s_do (o_q (.ptr 1 0 1) rfl trivial rfl) ?_
    refine s_do (o_q (.int .i64 b_2.N) rfl nle rfl) ?_
    refine s_do (o_q (.bool (a_1.N != b_2.N)) rfl rfl rfl) ?_
    refine w_done ?_
    refine k_seq ?_
    rcases oi hf with ⟨c4, hf⟩ | ⟨c4, hf⟩
    · refine w_condt rfl c4 ?_
      refine awp_seq ?_
      refine w_reg ?_
      refine s_do (o_mov (.bool false) rfl) ?_
      refine w_done ?_
      refine k_seq ?_
      refine w_ret ?_
      obtain rfl := os hf
      exact r_flat ⟨trivial, trivial⟩ rfl (.refl _)
    · refine w_condf rfl (bf c4) ?_
      refine w_skip ?_
      refine k_seq ?_
      refine awp_seq ?_
      refine awp_seq ?_
      refine w_reg ?_
      refine s_do (o_q (.ptr 0 0 2) rfl trivial rfl) ?_
      refine s_do (o_q (.str a_1.T) rfl nle rfl) ?_
      refine s_do (o_q (.ptr 1 0 2) rfl trivial rfl) ?_
      refine s_do (o_q (.str b_2.T) rfl nle rfl) ?_
      refine s_do (o_q (.bool (!(a_1.T == b_2.T))) rfl trivial rfl) ?_
      refine w_done ?_
      refine k_seq ?_
      rcases oi hf with ⟨c5, hf⟩ | ⟨c5, hf⟩
      · refine w_condt rfl c5 ?_
        refine awp_seq ?_
        refine w_reg ?_
        refine s_do (o_mov (.bool false) rfl) ?_
        refine w_done ?_
        refine k_seq ?_
        refine w_ret ?_
        obtain rfl := os hf
        exact r_flat ⟨trivial, trivial⟩ rfl (.refl _)
      · refine w_condf rfl (bf c5) ?_
        refine w_skip ?_
        refine k_seq ?_
        refine awp_seq ?_
        refine w_reg ?_
        refine s_do (o_mov (.bool true) rfl) ?_
        refine w_done ?_
        refine k_seq ?_
        refine w_ret ?_
        obtain rfl := os hf
        exact r_flat ⟨trivial, trivial⟩ rfl (.refl _)

/- laws.eqStringS -/
def c43 : ACode :=
 (.seq (.reg (.q ⟨(some 4), none, .mov (.c (.bool false))⟩
 .done))
 (.seq (.seq (.reg (.q ⟨(some 6), none, .mov (.t 0)⟩
 (.q ⟨(some 7), none, .len (.t 6)⟩
 (.q ⟨(some 8), none, .mov (.t 1)⟩
 (.q ⟨(some 9), none, .len (.t 8)⟩
 (.q ⟨(some 10), none, .bin .neq (.t 7) (.t 9)⟩
 .done))))))
 (.cond (.t 10) (.seq (.reg (.q ⟨(some 4), none, .mov (.c (.bool false))⟩
 .done))
 .ret)
 .skip))
 (.seq (.seq (.reg (.q ⟨(some 5), none, .mov (.c (.int .i64 0))⟩
 .done))
 (.block 0 (.loop (.seq (.seq (.reg (.q ⟨(some 11), none, .mov (.t 5)⟩
 (.q ⟨(some 12), none, .mov (.t 0)⟩
 (.q ⟨(some 13), none, .len (.t 12)⟩
 (.q ⟨(some 14), none, .bin .lss (.t 11) (.t 13)⟩
 .done)))))
 (.cond (.t 14) .skip
 (.exit 0)))
 (.seq (.block 1 (.seq (.reg (.q ⟨(some 17), none, .mov (.t 0)⟩
 (.q ⟨(some 18), none, .mov (.t 5)⟩
 (.q ⟨(some 19), none, .iaddr 1 (.t 17) (.t 18)⟩
 (.q ⟨(some 20), none, .load 1 false (.t 19)⟩
 (.q ⟨(some 21), none, .mov (.t 1)⟩
 (.q ⟨(some 22), none, .mov (.t 5)⟩
 (.q ⟨(some 23), none, .iaddr 1 (.t 21) (.t 22)⟩
 (.q ⟨(some 24), none, .load 1 false (.t 23)⟩
 (.q ⟨(some 25), none, .bin .neq (.t 20) (.t 24)⟩
 .done))))))))))
 (.cond (.t 25) (.seq (.reg (.q ⟨(some 4), none, .mov (.c (.bool false))⟩
 .done))
 .ret)
 .skip)))
 (.reg (.q ⟨(some 15), none, .mov (.t 5)⟩
 (.q ⟨(some 16), none, .bin .add (.t 15) (.c (.int .i64 1))⟩
 (.q ⟨(some 5), none, .mov (.t 16)⟩
 .done)))))))))
 (.cut (.seq (.reg (.q ⟨(some 4), none, .mov (.c (.bool true))⟩
 .done))
 .ret)))))
theorem fc43 : fcomp Try.prog Try.f43 = some (c43.erase, [.mov (.t 4)], 26) := by kernel_rfl
def laws_eqStringS_L1 (b_2 : (List Str)) : List Str → Nat → Option (Fl Bool Unit)
  | [], i_21 =>
    some (.go ())
  | x_37 :: xs, i_21 =>
    (idx b_2 (i_21 : Int)).bind fun x_40 =>
    if (!(x_37 == x_40)) then
    some (.ret false)
    else
    laws_eqStringS_L1 b_2 xs (i_21 + 1)

def laws_eqStringS (a_1 : (List Str)) (b_2 : (List Str)) : Option Bool :=
    if ((a_1.length : Int) != (b_2.length : Int)) then
    some false
    else
    (laws_eqStringS_L1 b_2 a_1 0).bind fun q => (match q with
    | .ret r => some r
    | .go _ =>
    some true)
theorem w_laws_eqStringS (a_1 : (List Str)) (b_2 : (List Str)) (r : Bool) (hf : laws_eqStringS a_1 b_2 = some r) : CallOK Try.prog 43 .flat [(.lst 1 (a_1.map AV.str)), (.lst 1 (b_2.map AV.str))] (.bool r) := by
  refine CallOK.of_awp mixed Try.func43 fc43 nle ?_
  rw [argT_eq]
  unfold laws_eqStringS at hf
  unfold c43
  refine (show awp Try.prog false 0 _ (ofL [(0, (.lst 1 (a_1.map AV.str))), (1, (.lst 1 (b_2.map AV.str)))]) [] _ from ?_)
  refine awp_seq ?_
  refine w_reg ?_
  refine s_do (o_mov (.bool false) rfl) ?_
  refine w_done ?_
  refine k_seq ?_
  refine awp_seq ?_
  refine awp_seq ?_
  refine w_reg ?_
  refine s_do (o_mov (.lst 1 (a_1.map AV.str)) rfl) ?_
  refine s_dof (o_len (enc := AV.str) rfl) fun hl3 => ?_
  refine s_do (o_mov (.lst 1 (b_2.map AV.str)) rfl) ?_
  refine s_dof (o_len (enc := AV.str) rfl) fun hl4 => ?_
  refine s_do (o_q (.bool ((a_1.length : Int) != (b_2.length : Int))) rfl rfl rfl) ?_
  refine w_done ?_
  refine k_seq ?_
  rcases oi hf with ⟨c5, hf⟩ | ⟨c5, hf⟩
  · refine w_condt rfl c5 ?_
    refine awp_seq ?_
    refine w_reg ?_
    refine s_do (o_mov (.bool false) rfl) ?_
    refine w_done ?_
    refine k_seq ?_
    refine w_ret ?_
    obtain rfl := os hf
    exact r_flat ⟨trivial, trivial⟩ rfl (.refl _)
  · refine w_condf rfl (bf c5) ?_
    refine w_skip ?_
    refine k_seq ?_
    refine awp_seq ?_
    refine awp_seq ?_
    refine w_reg ?_
    refine s_do (o_mov (.int .i64 0) rfl) ?_
    refine w_done ?_
    refine k_seq ?_
    obtain ⟨p30, hb1, hf⟩ := ob hf
    refine awp_cutx (X := {q : Unit // p30 = .go q}) (fun q => ([], [])) ?_ ?_
    · refine awp_loop (X := {q : Nat // laws_eqStringS_L1 b_2 (a_1.drop q) q = some p30}) (fun q => ([(0, (.lst 1 (a_1.map AV.str))), (1, (.lst 1 (b_2.map AV.str))), (5, (.int .i64 (q.1 : Int)))], [])) (fun q => a_1.length - q.1) ⟨0, hb1⟩ ⟨[], [], _, _, rfl, rfl, ⟨.refl _, ⟨.refl _, ⟨.refl _, trivial⟩⟩⟩, (.refl _)⟩ ?_
      rintro ⟨i_21, hc1⟩
      have hc1 : laws_eqStringS_L1 b_2 (a_1.drop i_21) i_21 = some p30 := hc1
      refine (show awp Try.prog false 0 _ (ofL [(0, (.lst 1 (a_1.map AV.str))), (1, (.lst 1 (b_2.map AV.str))), (5, (.int .i64 (i_21 : Int)))]) [] _ from ?_)
      rcases dropc a_1 i_21 with ⟨hie33, hd36⟩ | ⟨hlt31, x_37, hx32, hd36⟩
      · rw [hd36, laws_eqStringS_L1.eq_1] at hc1
        have hq35 := dlf hie33
        refine awp_seq ?_
        refine awp_seq ?_
        refine w_reg ?_
        refine s_do (o_mov (.int .i64 (i_21 : Int)) rfl) ?_
        refine s_do (o_mov (.lst 1 (a_1.map AV.str)) rfl) ?_
        refine s_dof (o_len (enc := AV.str) rfl) fun hl38 => ?_
        refine s_do (o_q (.bool (decide ((i_21 : Int) < (a_1.length : Int)))) rfl rfl rfl) ?_
        refine w_done ?_
        refine k_seq ?_
        refine w_condf rfl hq35 ?_
        refine w_exit ?_
        refine k_seqx ?_
        refine k_loopx ?_
        refine k_blkx ?_
        obtain rfl := os hc1
        exact k_cutn ⟨_, rfl⟩ ⟨[], [], _, _, rfl, rfl, trivial, (.refl _)⟩
      · rw [hd36, laws_eqStringS_L1.eq_2] at hc1
        have hq35 := dlt hlt31
        refine awp_seq ?_
        refine awp_seq ?_
        refine w_reg ?_
        refine s_do (o_mov (.int .i64 (i_21 : Int)) rfl) ?_
        refine s_do (o_mov (.lst 1 (a_1.map AV.str)) rfl) ?_
        refine s_dof (o_len (enc := AV.str) rfl) fun hl39 => ?_
        refine s_do (o_q (.bool (decide ((i_21 : Int) < (a_1.length : Int)))) rfl rfl rfl) ?_
        refine w_done ?_
        refine k_seq ?_
        refine w_condt rfl hq35 ?_
        refine w_skip ?_
        refine k_seq ?_
        refine awp_seq ?_
        refine w_blk ?_
        refine awp_seq ?_
        refine w_reg ?_
        obtain ⟨x_40, ex41, hc1⟩ := ob hc1
        refine s_do (o_mov (.lst 1 (a_1.map AV.str)) rfl) ?_
        refine s_do (o_mov (.int .i64 (i_21 : Int)) rfl) ?_
        refine s_do (o_iaddrn (enc := AV.str) rfl rfl hx32) ?_
        refine s_do (o_q (.str x_37) rfl ⟨rfl, rfl⟩ rfl) ?_
        refine s_do (o_mov (.lst 1 (b_2.map AV.str)) rfl) ?_
        refine s_do (o_mov (.int .i64 (i_21 : Int)) rfl) ?_
        refine s_do (o_iaddr (enc := AV.str) rfl rfl (idx0 ex41) (idx1 ex41)) ?_
        refine s_do (o_q (.str x_40) rfl ⟨rfl, rfl⟩ rfl) ?_
        refine s_do (o_q (.bool (!(x_37 == x_40))) rfl trivial rfl) ?_
        refine w_done ?_
        refine k_seq ?_
        rcases oi hc1 with ⟨c42, hc1⟩ | ⟨c42, hc1⟩
        · refine w_condt rfl c42 ?_
          refine awp_seq ?_
          refine w_reg ?_
          refine s_do (o_mov (.bool false) rfl) ?_
          refine w_done ?_
          refine k_seq ?_
          refine w_ret ?_
          obtain rfl := os hc1
          obtain rfl := os hf
          exact r_flat ⟨trivial, trivial⟩ rfl (.refl _)
        · refine w_condf rfl (bf c42) ?_
          refine w_skip ?_
          refine k_blk ?_
          refine k_seq ?_
          refine w_reg ?_
          refine s_do (o_mov (.int .i64 (i_21 : Int)) rfl) ?_
          refine s_do (o_q (.int .i64 (w64 ((i_21 : Int) + 1))) rfl rfl rfl) ?_
          refine s_do (o_mov (.int .i64 (w64 ((i_21 : Int) + 1))) rfl) ?_
          refine w_done ?_
          exact k_loopn ⟨(i_21 + 1), hc1⟩ (mul hlt31) ⟨[], [], _, _, rfl, rfl, ⟨.refl _, ⟨.refl _, ⟨.of_eq (congrArg (AV.int _) (w64_incr hlt31 hl39)), trivial⟩⟩⟩, (.refl _)⟩
    · rintro ⟨_, rfl⟩
      refine awp_seq ?_
      refine w_reg ?_
      refine s_do (o_mov (.bool true) rfl) ?_
      refine w_done ?_
      refine k_seq ?_
      refine w_ret ?_
      obtain rfl := os hf
      exact r_flat ⟨trivial, trivial⟩ rfl (.refl _)

/- laws.eqJsonS -/
def c111 : ACode :=
 (.seq (.reg (.q ⟨(some 4), none, .mov (.c (.bool false))⟩
 .done))
 (.seq (.seq (.reg (.q ⟨(some 6), none, .mov (.t 0)⟩
 (.q ⟨(some 7), none, .len (.t 6)⟩
 (.q ⟨(some 8), none, .mov (.t 1)⟩
 (.q ⟨(some 9), none, .len (.t 8)⟩
 (.q ⟨(some 10), none, .bin .neq (.t 7) (.t 9)⟩
 .done))))))
 (.cond (.t 10) (.seq (.reg (.q ⟨(some 4), none, .mov (.c (.bool false))⟩
 .done))
 .ret)
 .skip))
 (.seq (.seq (.reg (.q ⟨(some 5), none, .mov (.c (.int .i64 0))⟩
 .done))
 (.block 0 (.loop (.seq (.seq (.reg (.q ⟨(some 11), none, .mov (.t 5)⟩
 (.q ⟨(some 12), none, .mov (.t 0)⟩
 (.q ⟨(some 13), none, .len (.t 12)⟩
 (.q ⟨(some 14), none, .bin .lss (.t 11) (.t 13)⟩
 .done)))))
 (.cond (.t 14) .skip
 (.exit 0)))
 (.seq (.block 1 (.seq (.reg (.q ⟨(some 17), none, .mov (.t 0)⟩
 (.q ⟨(some 18), none, .mov (.t 5)⟩
 (.q ⟨(some 19), none, .iaddr 5 (.t 17) (.t 18)⟩
 (.q ⟨(some 20), none, .load 5 true (.t 19)⟩
 (.q ⟨(some 21), none, .mov (.t 1)⟩
 (.q ⟨(some 22), none, .mov (.t 5)⟩
 (.q ⟨(some 23), none, .iaddr 5 (.t 21) (.t 22)⟩
 (.q ⟨(some 24), none, .load 5 true (.t 23)⟩
 (.l ⟨(some 25), none, .call 38 [(.t 20), (.t 24)]⟩ []
 (.q ⟨(some 26), none, .not (.t 25)⟩
 .done) .non))))))))))
 (.cond (.t 26) (.seq (.reg (.q ⟨(some 4), none, .mov (.c (.bool false))⟩
 .done))
 .ret)
 .skip)))
 (.reg (.q ⟨(some 15), none, .mov (.t 5)⟩
 (.q ⟨(some 16), none, .bin .add (.t 15) (.c (.int .i64 1))⟩
 (.q ⟨(some 5), none, .mov (.t 16)⟩
 .done)))))))))
 (.cut (.seq (.reg (.q ⟨(some 4), none, .mov (.c (.bool true))⟩
 .done))
 .ret)))))
theorem fc111 : fcomp Try.prog Try.f111 = some (c111.erase, [.mov (.t 4)], 27) := by kernel_rfl
def laws_eqJsonS_L1 (b_2 : (List GJson)) (rec : (GJson → GJson → Option Bool)) : List GJson → Nat → Option (Fl Bool Unit)
  | [], i_25 =>
    some (.go ())
  | x_43 :: xs, i_25 =>
    (idx b_2 (i_25 : Int)).bind fun x_46 =>
    (rec x_43 x_46).bind fun r_48 =>
    if (!r_48) then
    some (.ret false)
    else
    laws_eqJsonS_L1 b_2 rec xs (i_25 + 1)

def laws_eqJsonS (rec : (GJson → GJson → Option Bool)) (a_1 : (List GJson)) (b_2 : (List GJson)) : Option Bool :=
    if ((a_1.length : Int) != (b_2.length : Int)) then
    some false
    else
    (laws_eqJsonS_L1 b_2 rec a_1 0).bind fun q => (match q with
    | .ret r => some r
    | .go _ =>
    some true)
theorem w_laws_eqJsonS (rec : (GJson → GJson → Option Bool)) (hrec : ∀ a0 a1 r, rec a0 a1 = some r → CallOK Try.prog 38 .flat [(encGJson a0), (encGJson a1)] (.bool r)) (a_1 : (List GJson)) (b_2 : (List GJson)) (r : Bool) (hf : laws_eqJsonS rec a_1 b_2 = some r) : CallOK Try.prog 111 .flat [(.lst 5 (a_1.map encGJson)), (.lst 5 (b_2.map encGJson))] (.bool r) := by
  refine CallOK.of_awp mixed Try.func111 fc111 nle ?_
  rw [argT_eq]
  unfold laws_eqJsonS at hf
  unfold c111
  refine (show awp Try.prog false 0 _ (ofL [(0, (.lst 5 (a_1.map encGJson))), (1, (.lst 5 (b_2.map encGJson)))]) [] _ from ?_)
  refine awp_seq ?_
  refine w_reg ?_
  refine s_do (o_mov (.bool false) rfl) ?_
  refine w_done ?_
  refine k_seq ?_
  refine awp_seq ?_
  refine awp_seq ?_
  refine w_reg ?_
  refine s_do (o_mov (.lst 5 (a_1.map encGJson)) rfl) ?_
  refine s_dof (o_len (enc := encGJson) rfl) fun hl3 => ?_
  refine s_do (o_mov (.lst 5 (b_2.map encGJson)) rfl) ?_
  refine s_dof (o_len (enc := encGJson) rfl) fun hl4 => ?_
  refine s_do (o_q (.bool ((a_1.length : Int) != (b_2.length : Int))) rfl rfl rfl) ?_
  refine w_done ?_
  refine k_seq ?_
  rcases oi hf with ⟨c5, hf⟩ | ⟨c5, hf⟩
  · refine w_condt rfl c5 ?_
    refine awp_seq ?_
    refine w_reg ?_
    refine s_do (o_mov (.bool false) rfl) ?_
    refine w_done ?_
    refine k_seq ?_
    refine w_ret ?_
    obtain rfl := os hf
    exact r_flat ⟨trivial, trivial⟩ rfl (.refl _)
  · refine w_condf rfl (bf c5) ?_
    refine w_skip ?_
    refine k_seq ?_
    refine awp_seq ?_
    refine awp_seq ?_
    refine w_reg ?_
    refine s_do (o_mov (.int .i64 0) rfl) ?_
    refine w_done ?_
    refine k_seq ?_
    obtain ⟨p36, hb1, hf⟩ := ob hf
    refine awp_cutx (X := {q : Unit // p36 = .go q}) (fun q => ([], [])) ?_ ?_
    · refine awp_loop (X := {q : Nat // laws_eqJsonS_L1 b_2 rec (a_1.drop q) q = some p36}) (fun q => ([(0, (.lst 5 (a_1.map encGJson))), (1, (.lst 5 (b_2.map encGJson))), (5, (.int .i64 (q.1 : Int)))], [])) (fun q => a_1.length - q.1) ⟨0, hb1⟩ ⟨[], [], _, _, rfl, rfl, ⟨.refl _, ⟨.refl _, ⟨.refl _, trivial⟩⟩⟩, (.refl _)⟩ ?_
      rintro ⟨i_25, hc1⟩
      have hc1 : laws_eqJsonS_L1 b_2 rec (a_1.drop i_25) i_25 = some p36 := hc1
      refine (show awp Try.prog false 0 _ (ofL [(0, (.lst 5 (a_1.map encGJson))), (1, (.lst 5 (b_2.map encGJson))), (5, (.int .i64 (i_25 : Int)))]) [] _ from ?_)
      rcases dropc a_1 i_25 with ⟨hie39, hd42⟩ | ⟨hlt37, x_43, hx38, hd42⟩
      · rw [hd42, laws_eqJsonS_L1.eq_1] at hc1
        have hq41 := dlf hie39
        refine awp_seq ?_
        refine awp_seq ?_
        refine w_reg ?_
        refine s_do (o_mov (.int .i64 (i_25 : Int)) rfl) ?_
        refine s_do (o_mov (.lst 5 (a_1.map encGJson)) rfl) ?_
        refine s_dof (o_len (enc := encGJson) rfl) fun hl44 => ?_
        refine s_do (o_q (.bool (decide ((i_25 : Int) < (a_1.length : Int)))) rfl rfl rfl) ?_
        refine w_done ?_
        refine k_seq ?_
        refine w_condf rfl hq41 ?_
        refine w_exit ?_
        refine k_seqx ?_
        refine k_loopx ?_
        refine k_blkx ?_
        obtain rfl := os hc1
        exact k_cutn ⟨_, rfl⟩ ⟨[], [], _, _, rfl, rfl, trivial, (.refl _)⟩
      · rw [hd42, laws_eqJsonS_L1.eq_2] at hc1
        have hq41 := dlt hlt37
        refine awp_seq ?_
        refine awp_seq ?_
        refine w_reg ?_
        refine s_do (o_mov (.int .i64 (i_25 : Int)) rfl) ?_
        refine s_do (o_mov (.lst 5 (a_1.map encGJson)) rfl) ?_
        refine s_dof (o_len (enc := encGJson) rfl) fun hl45 => ?_
        refine s_do (o_q (.bool (decide ((i_25 : Int) < (a_1.length : Int)))) rfl rfl rfl) ?_
        refine w_done ?_
        refine k_seq ?_
        refine w_condt rfl hq41 ?_
        refine w_skip ?_
        refine k_seq ?_
        refine awp_seq ?_
        refine w_blk ?_
        refine awp_seq ?_
        refine w_reg ?_
        obtain ⟨x_46, ex47, hc1⟩ := ob hc1
        obtain ⟨r_48, er49, hc1⟩ := ob hc1
        refine s_do (o_mov (.lst 5 (a_1.map encGJson)) rfl) ?_
        refine s_do (o_mov (.int .i64 (i_25 : Int)) rfl) ?_
        refine s_do (o_iaddrn (enc := encGJson) rfl rfl hx38) ?_
        refine s_do (o_loadeq (v := (.agg [(.int .i64 x_43.Kind), (.int .i64 x_43.N), (.str x_43.T), (.lst 1 (x_43.Keys.map AV.str)), (.lst 5 (x_43.Items.map encGJson))])) rfl (encGJson_eq _) nle rfl) ?_
        refine s_do (o_mov (.lst 5 (b_2.map encGJson)) rfl) ?_
        refine s_do (o_mov (.int .i64 (i_25 : Int)) rfl) ?_
        refine s_do (o_iaddr (enc := encGJson) rfl rfl (idx0 ex47) (idx1 ex47)) ?_
        refine s_do (o_loadeq (v := (.agg [(.int .i64 x_46.Kind), (.int .i64 x_46.N), (.str x_46.T), (.lst 1 (x_46.Keys.map AV.str)), (.lst 5 (x_46.Items.map encGJson))])) rfl (encGJson_eq _) nle rfl) ?_
        refine s_dol (o_call (hrec _ _ _ er49) rfl (.cons (.of_eq (encGJson_eq x_43).symm) (.cons (.of_eq (encGJson_eq x_46).symm) .nil)) rfl) a_same trivial ?_
        refine s_do (o_q (.bool (!r_48)) rfl trivial rfl) ?_
        refine w_done ?_
        refine k_seq ?_
        rcases oi hc1 with ⟨c50, hc1⟩ | ⟨c50, hc1⟩
        · refine w_condt rfl c50 ?_
          refine awp_seq ?_
          refine w_reg ?_
          refine s_do (o_mov (.bool false) rfl) ?_
          refine w_done ?_
          refine k_seq ?_
          refine w_ret ?_
          obtain rfl := os hc1
          obtain rfl := os hf
          exact r_flat ⟨trivial, trivial⟩ rfl (.refl _)
        · refine w_condf rfl (bf c50) ?_
          refine w_skip ?_
          refine k_blk ?_
          refine k_seq ?_
          refine w_reg ?_
          refine s_do (o_mov (.int .i64 (i_25 : Int)) rfl) ?_
          refine s_do (o_q (.int .i64 (w64 ((i_25 : Int) + 1))) rfl rfl rfl) ?_
          refine s_do (o_mov (.int .i64 (w64 ((i_25 : Int) + 1))) rfl) ?_
          refine w_done ?_
          exact k_loopn ⟨(i_25 + 1), hc1⟩ (mul hlt37) ⟨[], [], _, _, rfl, rfl, ⟨.refl _, ⟨.refl _, ⟨.of_eq (congrArg (AV.int _) (w64_incr hlt37 hl45)), trivial⟩⟩⟩, (.refl _)⟩
    · rintro ⟨_, rfl⟩
      refine awp_seq ?_
      refine w_reg ?_
      refine s_do (o_mov (.bool true) rfl) ?_
      refine w_done ?_
      refine k_seq ?_
      refine w_ret ?_
      obtain rfl := os hf
      exact r_flat ⟨trivial, trivial⟩ rfl (.refl _)

/- laws.eqJson -/
def c38 : ACode :=
 (.seq (.reg (.q ⟨(some 2), none, .box 5 (.t 0)⟩
 (.q ⟨(some 3), none, .box 5 (.t 1)⟩
 (.q ⟨(some 4), none, .mov (.c (.bool false))⟩
 .done))))
 (.seq (.seq (.reg (.q ⟨(some 5), none, .faddr 0 (.t 2)⟩
 (.q ⟨(some 6), none, .load 1 false (.t 5)⟩
 (.q ⟨(some 7), none, .faddr 0 (.t 3)⟩
 (.q ⟨(some 8), none, .load 1 false (.t 7)⟩
 (.q ⟨(some 9), none, .bin .neq (.t 6) (.t 8)⟩
 .done))))))
 (.cond (.t 9) (.seq (.reg (.q ⟨(some 4), none, .mov (.c (.bool false))⟩
 .done))
 .ret)
 .skip))
 (.seq (.seq (.reg (.q ⟨(some 10), none, .faddr 1 (.t 2)⟩
 (.q ⟨(some 11), none, .load 1 false (.t 10)⟩
 (.q ⟨(some 12), none, .faddr 1 (.t 3)⟩
 (.q ⟨(some 13), none, .load 1 false (.t 12)⟩
 (.q ⟨(some 14), none, .bin .neq (.t 11) (.t 13)⟩
 .done))))))
 (.cond (.t 14) (.seq (.reg (.q ⟨(some 4), none, .mov (.c (.bool false))⟩
 .done))
 .ret)
 .skip))
 (.seq (.seq (.reg (.q ⟨(some 15), none, .faddr 2 (.t 2)⟩
 (.q ⟨(some 16), none, .load 1 false (.t 15)⟩
 (.q ⟨(some 17), none, .faddr 2 (.t 3)⟩
 (.q ⟨(some 18), none, .load 1 false (.t 17)⟩
 (.q ⟨(some 19), none, .bin .neq (.t 16) (.t 18)⟩
 .done))))))
 (.cond (.t 19) (.seq (.reg (.q ⟨(some 4), none, .mov (.c (.bool false))⟩
 .done))
 .ret)
 .skip))
 (.seq (.seq (.reg (.q ⟨(some 20), none, .faddr 3 (.t 2)⟩
 (.q ⟨(some 21), none, .load 1 false (.t 20)⟩
 (.q ⟨(some 22), none, .faddr 3 (.t 3)⟩
 (.q ⟨(some 23), none, .load 1 false (.t 22)⟩
 (.q ⟨(some 24), none, .call 43 [(.t 21), (.t 23)]⟩
 (.q ⟨(some 25), none, .not (.t 24)⟩
 .done)))))))
 (.cond (.t 25) (.seq (.reg (.q ⟨(some 4), none, .mov (.c (.bool false))⟩
 .done))
 .ret)
 .skip))
 (.seq (.seq (.reg (.q ⟨(some 26), none, .faddr 4 (.t 2)⟩
 (.q ⟨(some 27), none, .load 1 false (.t 26)⟩
 (.q ⟨(some 28), none, .faddr 4 (.t 3)⟩
 (.q ⟨(some 29), none, .load 1 false (.t 28)⟩
 (.q ⟨(some 30), none, .call 111 [(.t 27), (.t 29)]⟩
 (.q ⟨(some 31), none, .not (.t 30)⟩
 .done)))))))
 (.cond (.t 31) (.seq (.reg (.q ⟨(some 4), none, .mov (.c (.bool false))⟩
 .done))
 .ret)
 .skip))
 (.seq (.reg (.q ⟨(some 4), none, .mov (.c (.bool true))⟩
 .done))
 .ret)))))))
theorem fc38 : fcomp Try.prog Try.f38 = some (c38.erase, [.mov (.t 4)], 32) := by kernel_rfl
def laws_eqJson_B (rec : (GJson → GJson → Option Bool)) (a_1 : GJson) (b_2 : GJson) : Option Bool :=
    if (a_1.Kind != b_2.Kind) then
    some false
    else
    if (a_1.N != b_2.N) then
    some false
    else
    if (!(a_1.T == b_2.T)) then
    some false
    else
    (laws_eqStringS a_1.Keys b_2.Keys).bind fun r_6 =>
    if (!r_6) then
    some false
    else
    (laws_eqJsonS rec a_1.Items b_2.Items).bind fun r_9 =>
    if (!r_9) then
    some false
    else
    some true
theorem w_laws_eqJson_B (rec : (GJson → GJson → Option Bool)) (hrec : ∀ a0 a1 r, rec a0 a1 = some r → CallOK Try.prog 38 .flat [(encGJson a0), (encGJson a1)] (.bool r)) (a_1 : GJson) (b_2 : GJson) (r : Bool) (hf : laws_eqJson_B rec a_1 b_2 = some r) : CallOK Try.prog 38 .flat [(encGJson a_1), (encGJson b_2)] (.bool r) := by
  refine CallOK.of_awp mixed Try.func38 fc38 nle ?_
  rw [argT_eq]
  rw [encGJson_eq a_1, encGJson_eq b_2]
  unfold laws_eqJson_B at hf
  unfold c38
  refine (show awp Try.prog false 0 _ (ofL [(0, (.agg [(.int .i64 a_1.Kind), (.int .i64 a_1.N), (.str a_1.T), (.lst 1 (a_1.Keys.map AV.str)), (.lst 5 (a_1.Items.map encGJson))])), (1, (.agg [(.int .i64 b_2.Kind), (.int .i64 b_2.N), (.str b_2.T), (.lst 1 (b_2.Keys.map AV.str)), (.lst 5 (b_2.Items.map encGJson))]))]) [] _ from ?_)
  refine awp_seq ?_
  refine w_reg ?_
  refine s_do (o_box (j := 0) (c := (.agg [(.int .i64 a_1.Kind), (.int .i64 a_1.N), (.str a_1.T), (.lst 1 (a_1.Keys.map AV.str)), (.lst 5 (a_1.Items.map encGJson))])) rfl trivial rfl rfl) ?_
  refine s_do (o_box (j := 1) (c := (.agg [(.int .i64 b_2.Kind), (.int .i64 b_2.N), (.str b_2.T), (.lst 1 (b_2.Keys.map AV.str)), (.lst 5 (b_2.Items.map encGJson))])) rfl trivial rfl rfl) ?_
  refine s_do (o_mov (.bool false) rfl) ?_
  refine w_done ?_
  refine k_seq ?_
  refine awp_seq ?_
  refine awp_seq ?_
  refine w_reg ?_
  refine s_do (o_q (.ptr 0 0 0) rfl trivial rfl) ?_
  refine s_do (o_q (.int .i64 a_1.Kind) rfl nle rfl) ?_
  refine s_do (o_q (.ptr 1 0 0) rfl trivial rfl) ?_
  refine s_do (o_q (.int .i64 b_2.Kind) rfl nle rfl) ?_
  refine s_do (o_q (.bool (a_1.Kind != b_2.Kind)) rfl rfl rfl) ?_
  refine w_done ?_
  refine k_seq ?_
  rcases oi hf with ⟨c3, hf⟩ | ⟨c3, hf⟩
  · refine w_condt rfl c3 ?_
    refine awp_seq ?_
    refine w_reg ?_
    refine s_do (o_mov (.bool false) rfl) ?_
    refine w_done ?_
    refine k_seq ?_
    refine w_ret ?_
    obtain rfl := os hf
    exact r_flat ⟨trivial, trivial⟩ rfl (.refl _)
  · refine w_condf rfl (bf c3) ?_
    refine w_skip ?_
    refine k_seq ?_
    refine awp_seq ?_
    refine awp_seq ?_
    refine w_reg ?_
    refine s_do (o_q (.ptr 0 0 1) rfl trivial rfl) ?_
    refine s_do (o_q (.int .i64 a_1.N) rfl nle rfl) ?_
    refine s_do (o_q (.ptr 1 0 1) rfl trivial rfl) ?_
    refine s_do (o_q (.int .i64 b_2.N) rfl nle rfl) ?_
    refine s_do (o_q (.bool (a_1.N != b_2.N)) rfl rfl rfl) ?_
    refine w_done ?_
    refine k_seq ?_
    rcases oi hf with ⟨c4, hf⟩ | ⟨c4, hf⟩
    · refine w_condt rfl c4 ?_
      refine awp_seq ?_
      refine w_reg ?_
      refine s_do (o_mov (.bool false) rfl) ?_
      refine w_done ?_
      refine k_seq ?_
      refine w_ret ?_
      obtain rfl := os hf
      exact r_flat ⟨trivial, trivial⟩ rfl (.refl _)
    · refine w_condf rfl (bf c4) ?_
      refine w_skip ?_
      refine k_seq ?_
      refine awp_seq ?_
      refine awp_seq ?_
      refine w_reg ?_
      refine s_do (o_q (.ptr 0 0 2) rfl trivial rfl) ?_
      refine s_do (o_q (.str a_1.T) rfl nle rfl) ?_
      refine s_do (o_q (.ptr 1 0 2) rfl trivial rfl) ?_
      refine s_do (o_q (.str b_2.T) rfl nle rfl) ?_
      refine s_do (o_q (.bool (!(a_1.T == b_2.T))) rfl trivial rfl) ?_
      refine w_done ?_
      refine k_seq ?_
      rcases oi hf with ⟨c5, hf⟩ | ⟨c5, hf⟩
      · refine w_condt rfl c5 ?_
        refine awp_seq ?_
        refine w_reg ?_
        refine s_do (o_mov (.bool false) rfl) ?_
        refine w_done ?_
        refine k_seq ?_
        refine w_ret ?_
        obtain rfl := os hf
        exact r_flat ⟨trivial, trivial⟩ rfl (.refl _)
      · refine w_condf rfl (bf c5) ?_
        refine w_skip ?_
        refine k_seq ?_
        refine awp_seq ?_
        refine awp_seq ?_
        refine w_reg ?_
        obtain ⟨r_6, er7, hf⟩ := ob hf
        refine s_do (o_q (.ptr 0 0 3) rfl trivial rfl) ?_
        refine s_do (o_q (.lst 1 (a_1.Keys.map AV.str)) rfl nle rfl) ?_
        refine s_do (o_q (.ptr 1 0 3) rfl trivial rfl) ?_
        refine s_do (o_q (.lst 1 (b_2.Keys.map AV.str)) rfl nle rfl) ?_
        refine s_do (o_call (w_laws_eqStringS _ _ _ er7) rfl (.refl _) rfl) ?_
        refine s_do (o_q (.bool (!r_6)) rfl trivial rfl) ?_
        refine w_done ?_
        refine k_seq ?_
        rcases oi hf with ⟨c8, hf⟩ | ⟨c8, hf⟩
        · refine w_condt rfl c8 ?_
          refine awp_seq ?_
          refine w_reg ?_
          refine s_do (o_mov (.bool false) rfl) ?_
          refine w_done ?_
          refine k_seq ?_
          refine w_ret ?_
          obtain rfl := os hf
          exact r_flat ⟨trivial, trivial⟩ rfl (.refl _)
        · refine w_condf rfl (bf c8) ?_
          refine w_skip ?_
          refine k_seq ?_
          refine awp_seq ?_
          refine awp_seq ?_
          refine w_reg ?_
          obtain ⟨r_9, er10, hf⟩ := ob hf
          refine s_do (o_q (.ptr 0 0 4) rfl trivial rfl) ?_
          refine s_do (o_q (.lst 5 (a_1.Items.map encGJson)) rfl nle rfl) ?_
          refine s_do (o_q (.ptr 1 0 4) rfl trivial rfl) ?_
          refine s_do (o_q (.lst 5 (b_2.Items.map encGJson)) rfl nle rfl) ?_
          refine s_do (o_call (w_laws_eqJsonS rec hrec _ _ _ er10) rfl (.refl _) rfl) ?_
          refine s_do (o_q (.bool (!r_9)) rfl trivial rfl) ?_
          refine w_done ?_
          refine k_seq ?_
          rcases oi hf with ⟨c11, hf⟩ | ⟨c11, hf⟩
          · refine w_condt rfl c11 ?_
            refine awp_seq ?_
            refine w_reg ?_
            refine s_do (o_mov (.bool false) rfl) ?_
            refine w_done ?_
            refine k_seq ?_
            refine w_ret ?_
            obtain rfl := os hf
            exact r_flat ⟨trivial, trivial⟩ rfl (.refl _)
          · refine w_condf rfl (bf c11) ?_
            refine w_skip ?_
            refine k_seq ?_
            refine awp_seq ?_
            refine w_reg ?_
            refine s_do (o_mov (.bool true) rfl) ?_
            refine w_done ?_
            refine k_seq ?_
            refine w_ret ?_
            obtain rfl := os hf
            exact r_flat ⟨trivial, trivial⟩ rfl (.refl _)
def laws_eqJson : Nat → GJson → GJson → Option Bool
  | 0, _, _ => none
  | k + 1, a_1, b_2 => laws_eqJson_B (laws_eqJson k) a_1 b_2
theorem w_laws_eqJson : ∀ (k : Nat) (a_1 : GJson) (b_2 : GJson) (r : Bool), laws_eqJson k a_1 b_2 = some r → CallOK Try.prog 38 .flat [(encGJson a_1), (encGJson b_2)] (.bool r)
  | 0, a_1, b_2, r, h => by rw [laws_eqJson.eq_1] at h; cases h
  | k + 1, a_1, b_2, r, h => by
    rw [laws_eqJson.eq_2] at h
    exact w_laws_eqJson_B _ (w_laws_eqJson k) a_1 b_2 r h

/- laws.FnExactJsonAtom -/
def c9 : ACode :=
 (.seq (.reg (.q ⟨(some 1), none, .box 5 (.t 0)⟩
 (.q ⟨(some 2), none, .mov (.c (.bool false))⟩
 .done)))
 (.seq (.reg (.q ⟨(some 3), none, .mov (.c (.int .i64 1048576))⟩
 .done))
 (.seq (.reg (.q ⟨(some 9), none, .load 5 true (.t 1)⟩
 (.q ⟨(some 10), none, .mov (.t 3)⟩
 (.q ⟨(some 11), none, .call 47 [(.t 9), (.t 10)]⟩
 (.q ⟨(some 3), none, .mov (.t 11)⟩
 .done)))))
 (.seq (.seq (.reg (.q ⟨(some 12), none, .mov (.t 3)⟩
 (.q ⟨(some 13), none, .bin .lss (.t 12) (.c (.int .i64 0))⟩
 .done)))
 (.cond (.t 13) (.seq (.reg (.q ⟨(some 2), none, .mov (.c (.bool true))⟩
 .done))
 .ret)
 .skip))
 (.seq (.reg (.q ⟨(some 15), none, .load 5 true (.t 1)⟩
 (.q ⟨(some 16), none, .call 49 [(.t 15)]⟩
 (.q ⟨(some 17), none, .call 48 [(.t 16)]⟩
 (.q ⟨(some 14), none, .mov (.t 17)⟩
 (.q ⟨(some 18), none, .extract 0 (.t 14)⟩
 (.q ⟨(some 19), none, .extract 1 (.t 14)⟩
 (.q ⟨(some 4), none, .box 3 (.c (.agg [(.int .i64 0), (.int .i64 0), (.str [])]))⟩
 (.q ⟨none, none, .store 3 (.t 4) (.t 18)⟩
 (.q ⟨(some 5), none, .mov (.t 19)⟩
 .done))))))))))
 (.seq (.reg (.q ⟨(some 20), none, .load 5 true (.t 1)⟩
 (.q ⟨(some 21), none, .call 49 [(.t 20)]⟩
 (.q ⟨(some 6), none, .box 5 (.c (.agg [(.int .i64 0), (.int .i64 0), (.str []), .nil, .nil]))⟩
 (.q ⟨none, none, .store 5 (.t 6) (.t 21)⟩
 .done)))))
 (.seq (.reg (.q ⟨(some 23), none, .load 5 true (.t 6)⟩
 (.q ⟨(some 24), none, .call 50 [(.t 23)]⟩
 (.q ⟨(some 22), none, .mov (.t 24)⟩
 (.q ⟨(some 25), none, .extract 0 (.t 22)⟩
 (.q ⟨(some 26), none, .extract 1 (.t 22)⟩
 (.q ⟨(some 7), none, .box 3 (.c (.agg [(.int .i64 0), (.int .i64 0), (.str [])]))⟩
 (.q ⟨none, none, .store 3 (.t 7) (.t 25)⟩
 (.q ⟨(some 8), none, .mov (.t 26)⟩
 .done)))))))))
 (.seq (.seq (.reg (.q ⟨(some 27), none, .load 3 true (.t 7)⟩
 (.q ⟨(some 28), none, .load 3 true (.t 4)⟩
 (.q ⟨(some 29), none, .call 51 [(.t 27), (.t 28)]⟩
 (.q ⟨(some 30), none, .not (.t 29)⟩
 (.q ⟨(some 31), none, .mov (.t 30)⟩
 (.q ⟨(some 32), (some (31, false)), .mov (.t 8)⟩
 (.q ⟨(some 33), (some (31, false)), .mov (.t 5)⟩
 (.q ⟨(some 34), (some (31, false)), .bin .neq (.t 32) (.t 33)⟩
 (.q ⟨(some 35), none, .pick (.t 31) (.c (.bool true)) (.t 34)⟩
 .done))))))))))
 (.cut (.cond (.t 35) (.seq (.reg (.q ⟨(some 2), none, .mov (.c (.bool false))⟩
 .done))
 .ret)
 .skip)))
 (.seq (.seq (.reg (.q ⟨(some 36), none, .load 5 true (.t 6)⟩
 (.q ⟨(some 37), none, .load 5 true (.t 1)⟩
 (.l ⟨(some 38), none, .call 49 [(.t 37)]⟩ [⟨(some 36), none, .load 5 true (.t 6)⟩]
 (.l ⟨(some 39), none, .call 38 [(.t 36), (.t 38)]⟩ []
 (.q ⟨(some 40), none, .not (.t 39)⟩
 .done) .non) .non))))
 (.cond (.t 40) (.seq (.reg (.q ⟨(some 2), none, .mov (.c (.bool false))⟩
 .done))
 .ret)
 .skip))
 (.seq (.reg (.q ⟨(some 2), none, .mov (.c (.bool true))⟩
 .done))
 .ret))))))))))
theorem fc9 : fcomp Try.prog Try.f9 = some (c9.erase, [.mov (.t 2)], 41) := by kernel_rfl
def laws_FnExactJsonAtom (aJ_1 : GJson) : Option Bool :=
    (laws_szJson FUEL aJ_1 1048576).bind fun r_2 =>
    if (decide (r_2 < 0)) then
    some true
    else
    (laws_toJson FUEL aJ_1).bind fun r_5 =>
    (spec_JsonAtom r_5).bind fun r_7 =>
    (laws_toJson FUEL aJ_1).bind fun r_9 =>
    (impl_JsonAtom r_9).bind fun r_11 =>
    (((laws_eqAtom r_11.1 r_7.1).bind fun r_18 =>
    if (!r_18) then
    some true
    else
    some (r_11.2 != r_7.2) : Option Bool)).bind fun s35_16 =>
    if s35_16 then
    some false
    else
    (laws_toJson FUEL aJ_1).bind fun r_22 =>
    (laws_eqJson FUEL r_9 r_22).bind fun r_24 =>
    if (!r_24) then
    some false
    else
    some true
theorem w_laws_FnExactJsonAtom (aJ_1 : GJson) (r : Bool) (hf : laws_FnExactJsonAtom aJ_1 = some r) : CallOK Try.prog 9 .flat [(encGJson aJ_1)] (.bool r) := by
  refine CallOK.of_awp mixed Try.func9 fc9 nle ?_
  rw [argT_eq]
  rw [encGJson_eq aJ_1]
  unfold laws_FnExactJsonAtom at hf
  unfold c9
  refine (show awp Try.prog false 0 _ (ofL [(0, (.agg [(.int .i64 aJ_1.Kind), (.int .i64 aJ_1.N), (.str aJ_1.T), (.lst 1 (aJ_1.Keys.map AV.str)), (.lst 5 (aJ_1.Items.map encGJson))]))]) [] _ from ?_)
  refine awp_seq ?_
  refine w_reg ?_
  refine s_do (o_box (j := 0) (c := (.agg [(.int .i64 aJ_1.Kind), (.int .i64 aJ_1.N), (.str aJ_1.T), (.lst 1 (aJ_1.Keys.map AV.str)), (.lst 5 (aJ_1.Items.map encGJson))])) rfl trivial rfl rfl) ?_
  refine s_do (o_mov (.bool false) rfl) ?_
  refine w_done ?_
  refine k_seq ?_
  refine awp_seq ?_
  refine w_reg ?_
  refine s_do (o_mov (.int .i64 1048576) rfl) ?_
  refine w_done ?_
  refine k_seq ?_
  refine awp_seq ?_
  refine w_reg ?_
  obtain ⟨r_2, er3, hf⟩ := ob hf
  refine s_do (o_q (.agg [(.int .i64 aJ_1.Kind), (.int .i64 aJ_1.N), (.str aJ_1.T), (.lst 1 (aJ_1.Keys.map AV.str)), (.lst 5 (aJ_1.Items.map encGJson))]) rfl nle rfl) ?_
  refine s_do (o_mov (.int .i64 1048576) rfl) ?_
  refine s_do (o_call (w_laws_szJson FUEL _ _ _ er3) rfl (.cons (.of_eq (encGJson_eq aJ_1).symm) (.cons (.refl _) .nil)) rfl) ?_
  refine s_do (o_mov (.int .i64 r_2) rfl) ?_
  refine w_done ?_
  refine k_seq ?_
  refine awp_seq ?_
  refine awp_seq ?_
  refine w_reg ?_
  refine s_do (o_mov (.int .i64 r_2) rfl) ?_
  refine s_do (o_q (.bool (decide (r_2 < 0))) rfl rfl rfl) ?_
  refine w_done ?_
  refine k_seq ?_
  rcases oi hf with ⟨c4, hf⟩ | ⟨c4, hf⟩
  · refine w_condt rfl c4 ?_
    refine awp_seq ?_
    refine w_reg ?_
    refine s_do (o_mov (.bool true) rfl) ?_
    refine w_done ?_
    refine k_seq ?_
    refine w_ret ?_
    obtain rfl := os hf
    exact r_flat ⟨trivial, trivial⟩ rfl (.refl _)
  · refine w_condf rfl (bf c4) ?_
    refine w_skip ?_
    refine k_seq ?_
    refine awp_seq ?_
    refine w_reg ?_
    obtain ⟨r_5, er6, hf⟩ := ob hf
    obtain ⟨r_7, er8, hf⟩ := ob hf
    refine s_do (o_q (.agg [(.int .i64 aJ_1.Kind), (.int .i64 aJ_1.N), (.str aJ_1.T), (.lst 1 (aJ_1.Keys.map AV.str)), (.lst 5 (aJ_1.Items.map encGJson))]) rfl nle rfl) ?_
    refine s_do (o_callc (v := (.agg [(.int .i64 r_5.Kind), (.int .i64 r_5.N), (.str r_5.T), (.lst 1 (r_5.Keys.map AV.str)), (.lst 5 (r_5.Items.map encGJson))])) (w_laws_toJson FUEL _ _ er6) rfl (.cons (.of_eq (encGJson_eq aJ_1).symm) .nil) (by simp only [encGJson_eq])) ?_
    refine s_do (o_call (w_spec_JsonAtom _ _ er8) rfl (.cons (.of_eq (encGJson_eq r_5).symm) .nil) rfl) ?_
    refine s_do (o_mov (.tup [(encGAtom r_7.1), (.int .i64 r_7.2)]) rfl) ?_
    refine s_do (o_q (encGAtom r_7.1) rfl nle rfl) ?_
    refine s_do (o_q (.int .i64 r_7.2) rfl nle rfl) ?_
    refine s_do (o_box (j := 1) (c := (.agg [(.int .i64 0), (.int .i64 0), (.str [])])) rfl trivial rfl rfl) ?_
    refine s_do0 (o_storebox (v := (.agg [(.int .i64 r_7.1.Kind), (.int .i64 r_7.1.N), (.str r_7.1.T)])) (y' := (.agg [(.int .i64 r_7.1.Kind), (.int .i64 r_7.1.N), (.str r_7.1.T)])) rfl rfl rfl trivial ⟨rfl, nle⟩ ⟨⟨rfl, trivial⟩, ⟨⟨rfl, trivial⟩, ⟨⟨rfl, trivial⟩, trivial⟩⟩⟩ rfl) ?_
    refine s_do (o_mov (.int .i64 r_7.2) rfl) ?_
    refine w_done ?_
    refine k_seq ?_
    refine awp_seq ?_
    refine w_reg ?_
    obtain ⟨r_9, er10, hf⟩ := ob hf
    refine s_do (o_q (.agg [(.int .i64 aJ_1.Kind), (.int .i64 aJ_1.N), (.str aJ_1.T), (.lst 1 (aJ_1.Keys.map AV.str)), (.lst 5 (aJ_1.Items.map encGJson))]) rfl nle rfl) ?_
    refine s_do (o_callc (v := (.agg [(.int .i64 r_9.Kind), (.int .i64 r_9.N), (.str r_9.T), (.lst 1 (r_9.Keys.map AV.str)), (.lst 5 (r_9.Items.map encGJson))])) (w_laws_toJson FUEL _ _ er10) rfl (.cons (.of_eq (encGJson_eq aJ_1).symm) .nil) (by simp only [encGJson_eq])) ?_
    refine s_do (o_box (j := 2) (c := (.agg [(.int .i64 0), (.int .i64 0), (.str []), .nil, .nil])) rfl trivial rfl rfl) ?_
    refine s_do0 (o_storebox (v := (.agg [(.int .i64 r_9.Kind), (.int .i64 r_9.N), (.str r_9.T), (.lst 1 (r_9.Keys.map AV.str)), (.lst 5 (r_9.Items.map encGJson))])) (y' := (.agg [(.int .i64 r_9.Kind), (.int .i64 r_9.N), (.str r_9.T), (.lst 1 (r_9.Keys.map AV.str)), (.lst 5 (r_9.Items.map encGJson))])) rfl rfl rfl trivial ⟨rfl, nle⟩ ⟨⟨rfl, trivial⟩, ⟨⟨rfl, trivial⟩, ⟨⟨rfl, trivial⟩, ⟨⟨rfl, trivial⟩, ⟨⟨rfl, trivial⟩, trivial⟩⟩⟩⟩⟩ rfl) ?_
    refine w_done ?_
    refine k_seq ?_
    refine awp_seq ?_
    refine w_reg ?_
    obtain ⟨r_11, er12, hf⟩ := ob hf
    refine s_do (o_q (.agg [(.int .i64 r_9.Kind), (.int .i64 r_9.N), (.str r_9.T), (.lst 1 (r_9.Keys.map AV.str)), (.lst 5 (r_9.Items.map encGJson))]) rfl nle rfl) ?_
    refine s_do (o_call (w_impl_JsonAtom _ _ er12) rfl (.cons (.of_eq (encGJson_eq r_9).symm) .nil) rfl) ?_
    refine s_do (o_mov (.tup [(encGAtom r_11.1), (.int .i64 r_11.2)]) rfl) ?_
    refine s_do (o_q (encGAtom r_11.1) rfl nle rfl) ?_
    refine s_do (o_q (.int .i64 r_11.2) rfl nle rfl) ?_
    refine s_do (o_box (j := 3) (c := (.agg [(.int .i64 0), (.int .i64 0), (.str [])])) rfl trivial rfl rfl) ?_
    refine s_do0 (o_storebox (v := (.agg [(.int .i64 r_11.1.Kind), (.int .i64 r_11.1.N), (.str r_11.1.T)])) (y' := (.agg [(.int .i64 r_11.1.Kind), (.int .i64 r_11.1.N), (.str r_11.1.T)])) rfl rfl rfl trivial ⟨rfl, nle⟩ ⟨⟨rfl, trivial⟩, ⟨⟨rfl, trivial⟩, ⟨⟨rfl, trivial⟩, trivial⟩⟩⟩ rfl) ?_
    refine s_do (o_mov (.int .i64 r_11.2) rfl) ?_
    refine w_done ?_
    refine k_seq ?_
    refine awp_seq ?_
    refine awp_seq ?_
    obtain ⟨s35_16, hb1, hf⟩ := ob hf
    refine awp_cut ([(1, (.ptr 0 0 0)), (6, (.ptr 1 0 0)), (35, (.bool s35_16))], [.box 5 (.agg [(.int .i64 aJ_1.Kind), (.int .i64 aJ_1.N), (.str aJ_1.T), (.lst 1 (aJ_1.Keys.map AV.str)), (.lst 5 (aJ_1.Items.map encGJson))]), .box 5 (.agg [(.int .i64 r_9.Kind), (.int .i64 r_9.N), (.str r_9.T), (.lst 1 (r_9.Keys.map AV.str)), (.lst 5 (r_9.Items.map encGJson))])]) ?_ ?_
    · refine w_reg ?_
      obtain ⟨r_18, er19, hb1⟩ := ob hb1
      rcases oi hb1 with ⟨c20, hb1⟩ | ⟨c20, hb1⟩
      · refine s_do (o_q (.agg [(.int .i64 r_11.1.Kind), (.int .i64 r_11.1.N), (.str r_11.1.T)]) rfl nle rfl) ?_
        refine s_do (o_q (.agg [(.int .i64 r_7.1.Kind), (.int .i64 r_7.1.N), (.str r_7.1.T)]) rfl nle rfl) ?_
        refine s_do (o_call (w_laws_eqAtom _ _ _ er19) rfl (.refl _) rfl) ?_
        refine s_do (o_q (.bool (!r_18)) rfl trivial rfl) ?_
        refine s_do (o_mov (.bool (!r_18)) rfl) ?_
        refine s_lit (s := 31) (b := true) rfl c20 ?_
        refine s_off rfl rfl ?_
        refine s_off rfl rfl ?_
        refine s_off rfl rfl ?_
        refine s_do (o_q (.bool true) rfl trivial rfl) ?_
        refine w_done ?_
        obtain rfl := os hb1
        exact ⟨[], [0, 2], _, _, rfl, rfl, ⟨.refl _, ⟨.refl _, ⟨.refl _, trivial⟩⟩⟩, (.refl _)⟩
      · refine s_do (o_q (.agg [(.int .i64 r_11.1.Kind), (.int .i64 r_11.1.N), (.str r_11.1.T)]) rfl nle rfl) ?_
        refine s_do (o_q (.agg [(.int .i64 r_7.1.Kind), (.int .i64 r_7.1.N), (.str r_7.1.T)]) rfl nle rfl) ?_
        refine s_do (o_call (w_laws_eqAtom _ _ _ er19) rfl (.refl _) rfl) ?_
        refine s_do (o_q (.bool (!r_18)) rfl trivial rfl) ?_
        refine s_do (o_mov (.bool (!r_18)) rfl) ?_
        refine s_lit (s := 31) (b := false) rfl (bf c20) ?_
        refine s_on rfl ?_
        refine s_do (o_mov (.int .i64 r_11.2) rfl) ?_
        refine s_on rfl ?_
        refine s_do (o_mov (.int .i64 r_7.2) rfl) ?_
        refine s_on rfl ?_
        refine s_do (o_q (.bool (r_11.2 != r_7.2)) rfl rfl rfl) ?_
        refine s_do (o_q (.bool (r_11.2 != r_7.2)) rfl trivial rfl) ?_
        refine w_done ?_
        obtain rfl := os hb1
        exact ⟨[], [0, 2], _, _, rfl, rfl, ⟨.refl _, ⟨.refl _, ⟨.refl _, trivial⟩⟩⟩, (.refl _)⟩
    · rcases oi hf with ⟨c21, hf⟩ | ⟨c21, hf⟩
      · refine w_condt rfl c21 ?_
        refine awp_seq ?_
        refine w_reg ?_
        refine s_do (o_mov (.bool false) rfl) ?_
        refine w_done ?_
        refine k_seq ?_
        refine w_ret ?_
        obtain rfl := os hf
        exact r_flat ⟨trivial, trivial⟩ rfl (.refl _)
      · refine w_condf rfl (bf c21) ?_
        refine w_skip ?_
        refine k_seq ?_
        refine awp_seq ?_
        refine awp_seq ?_
        refine w_reg ?_
        obtain ⟨r_22, er23, hf⟩ := ob hf
        obtain ⟨r_24, er25, hf⟩ := ob hf
        refine s_do (o_q (.agg [(.int .i64 r_9.Kind), (.int .i64 r_9.N), (.str r_9.T), (.lst 1 (r_9.Keys.map AV.str)), (.lst 5 (r_9.Items.map encGJson))]) rfl nle rfl) ?_
        refine s_do (o_q (.agg [(.int .i64 aJ_1.Kind), (.int .i64 aJ_1.N), (.str aJ_1.T), (.lst 1 (aJ_1.Keys.map AV.str)), (.lst 5 (aJ_1.Items.map encGJson))]) rfl nle rfl) ?_
        refine s_dol (o_callc (v := (.agg [(.int .i64 r_22.Kind), (.int .i64 r_22.N), (.str r_22.T), (.lst 1 (r_22.Keys.map AV.str)), (.lst 5 (r_22.Items.map encGJson))])) (w_laws_toJson FUEL _ _ er23) rfl (.cons (.of_eq (encGJson_eq aJ_1).symm) .nil) (by simp only [encGJson_eq])) a_same trivial ?_
        refine s_dol (o_call (w_laws_eqJson FUEL _ _ _ er25) rfl (.cons (.of_eq (encGJson_eq r_9).symm) (.cons (.of_eq (encGJson_eq r_22).symm) .nil)) rfl) a_same trivial ?_
        refine s_do (o_q (.bool (!r_24)) rfl trivial rfl) ?_
        refine w_done ?_
        refine k_seq ?_
        rcases oi hf with ⟨c26, hf⟩ | ⟨c26, hf⟩
        · refine w_condt rfl c26 ?_
          refine awp_seq ?_
          refine w_reg ?_
          refine s_do (o_mov (.bool false) rfl) ?_
          refine w_done ?_
          refine k_seq ?_
          refine w_ret ?_
          obtain rfl := os hf
          exact r_flat ⟨trivial, trivial⟩ rfl (.refl _)
        · refine w_condf rfl (bf c26) ?_
          refine w_skip ?_
          refine k_seq ?_
          refine awp_seq ?_
          refine w_reg ?_
          refine s_do (o_mov (.bool true) rfl) ?_
          refine w_done ?_
          refine k_seq ?_
          refine w_ret ?_
          obtain rfl := os hf
          exact r_flat ⟨trivial, trivial⟩ rfl (.refl _)

end Go.R
