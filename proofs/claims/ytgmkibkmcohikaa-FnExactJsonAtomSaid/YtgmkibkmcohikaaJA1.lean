/- Walks. -/
import Derived.Test.YtgmkibkmcohikaaJAT
set_option linter.all false
namespace Go.R
open Go Go.Proofs
set_option linter.unusedVariables false
set_option linter.unusedSimpArgs false
set_option maxHeartbeats 8000000
/- laws.szStringS -/
def c119 : ACode :=
 (.seq (.reg (.q ⟨(some 4), none, .mov (.c (.int .i64 0))⟩
 .done))
 (.seq (.reg (.q ⟨(some 6), none, .mov (.t 1)⟩
 (.q ⟨(some 7), none, .mov (.t 0)⟩
 (.q ⟨(some 8), none, .len (.t 7)⟩
 (.q ⟨(some 9), none, .bin .sub (.t 6) (.t 8)⟩
 (.q ⟨(some 1), none, .mov (.t 9)⟩
 .done))))))
 (.seq (.seq (.reg (.q ⟨(some 10), none, .mov (.t 1)⟩
 (.q ⟨(some 11), none, .bin .lss (.t 10) (.c (.int .i64 0))⟩
 .done)))
 (.cond (.t 11) (.seq (.reg (.q ⟨(some 4), none, .mov (.c (.int .i64 (-1)))⟩
 .done))
 .ret)
 .skip))
 (.seq (.seq (.reg (.q ⟨(some 5), none, .mov (.c (.int .i64 0))⟩
 .done))
 (.block 0 (.loop (.seq (.seq (.reg (.q ⟨(some 12), none, .mov (.t 5)⟩
 (.q ⟨(some 13), none, .mov (.t 0)⟩
 (.q ⟨(some 14), none, .len (.t 13)⟩
 (.q ⟨(some 15), none, .bin .lss (.t 12) (.t 14)⟩
 .done)))))
 (.cond (.t 15) .skip
 (.exit 0)))
 (.seq (.block 1 (.seq (.reg (.q ⟨(some 18), none, .mov (.t 1)⟩
 (.q ⟨(some 19), none, .mov (.t 0)⟩
 (.q ⟨(some 20), none, .mov (.t 5)⟩
 (.q ⟨(some 21), none, .iaddr 1 (.t 19) (.t 20)⟩
 (.q ⟨(some 22), none, .load 1 false (.t 21)⟩
 (.q ⟨(some 23), none, .lenS (.t 22)⟩
 (.q ⟨(some 24), none, .bin .sub (.t 18) (.t 23)⟩
 (.q ⟨(some 1), none, .mov (.t 24)⟩
 .done)))))))))
 (.seq (.reg (.q ⟨(some 25), none, .mov (.t 1)⟩
 (.q ⟨(some 26), none, .bin .lss (.t 25) (.c (.int .i64 0))⟩
 .done)))
 (.cond (.t 26) (.seq (.reg (.q ⟨(some 4), none, .mov (.c (.int .i64 (-1)))⟩
 .done))
 .ret)
 .skip))))
 (.reg (.q ⟨(some 16), none, .mov (.t 5)⟩
 (.q ⟨(some 17), none, .bin .add (.t 16) (.c (.int .i64 1))⟩
 (.q ⟨(some 5), none, .mov (.t 17)⟩
 .done)))))))))
 (.cut (.seq (.reg (.q ⟨(some 27), none, .mov (.t 1)⟩
 (.q ⟨(some 4), none, .mov (.t 27)⟩
 .done)))
 .ret))))))
theorem fc119 : fcomp Try.prog Try.f119 = some (c119.erase, [.mov (.t 4)], 28) := by kernel_rfl
def laws_szStringS_L1  : List Str → Int → Option (Fl Int Int)
  | [], left_19 =>
    some (.go left_19)
  | x_36 :: xs, left_19 =>
    if (decide (w64 (left_19 - (x_36.length : Int)) < 0)) then
    some (.ret (-1))
    else
    laws_szStringS_L1 xs (w64 (left_19 - (x_36.length : Int))) 

def laws_szStringS (a_1 : (List Str)) (left_2 : Int) : Option Int :=
    if (decide (w64 (left_2 - (a_1.length : Int)) < 0)) then
    some (-1)
    else
    (laws_szStringS_L1 a_1 (w64 (left_2 - (a_1.length : Int)))).bind fun q => (match q with
    | .ret r => some r
    | .go left_28 =>
    some left_28)
theorem w_laws_szStringS (a_1 : (List Str)) (left_2 : Int) (r : Int) (hf : laws_szStringS a_1 left_2 = some r) : CallOK Try.prog 119 .flat [(.lst 1 (a_1.map AV.str)), (.int .i64 left_2)] (.int .i64 r) := by
  refine CallOK.of_awp mixed Try.func119 fc119 nle ?_
  rw [argT_eq]
  unfold laws_szStringS at hf
  unfold c119
  refine (show awp Try.prog false 0 _ (ofL [(0, (.lst 1 (a_1.map AV.str))), (1, (.int .i64 left_2))]) [] _ from ?_)
  refine awp_seq ?_
  refine w_reg ?_
  refine s_do (o_mov (.int .i64 0) rfl) ?_
  refine w_done ?_
  refine k_seq ?_
  refine awp_seq ?_
  refine w_reg ?_
  refine s_do (o_mov (.int .i64 left_2) rfl) ?_
  refine s_do (o_mov (.lst 1 (a_1.map AV.str)) rfl) ?_
  refine s_dof (o_len (enc := AV.str) rfl) fun hl3 => ?_
  refine s_do (o_q (.int .i64 (w64 (left_2 - (a_1.length : Int)))) rfl rfl rfl) ?_
  refine s_do (o_mov (.int .i64 (w64 (left_2 - (a_1.length : Int)))) rfl) ?_
  refine w_done ?_
  refine k_seq ?_
  refine awp_seq ?_
  refine awp_seq ?_
  refine w_reg ?_
  refine s_do (o_mov (.int .i64 (w64 (left_2 - (a_1.length : Int)))) rfl) ?_
  refine s_do (o_q (.bool (decide (w64 (left_2 - (a_1.length : Int)) < 0))) rfl rfl rfl) ?_
  refine w_done ?_
  refine k_seq ?_
  rcases oi hf with ⟨c4, hf⟩ | ⟨c4, hf⟩
  · refine w_condt rfl c4 ?_
    refine awp_seq ?_
    refine w_reg ?_
    refine s_do (o_mov (.int .i64 (-1)) rfl) ?_
    refine w_done ?_
    refine k_seq ?_
    refine w_ret ?_
    obtain rfl := os hf
    exact r_flat ⟨trivial, trivial⟩ rfl (.refl _)
  · refine w_condf rfl (bf c4) ?_
    refine w_skip ?_
    refine k_seq ?_
    refine awp_seq ?_
    refine awp_seq ?_
    refine w_reg ?_
    refine s_do (o_mov (.int .i64 0) rfl) ?_
    refine w_done ?_
    refine k_seq ?_
    obtain ⟨p29, hb1, hf⟩ := ob hf
    refine awp_cutx (X := {q : Int // p29 = .go q}) (fun q => ([(1, (.int .i64 q.1))], [])) ?_ ?_
    · refine awp_loop (X := {q : (Int × Nat) // laws_szStringS_L1 (a_1.drop q.2) q.1 = some p29}) (fun q => ([(0, (.lst 1 (a_1.map AV.str))), (1, (.int .i64 q.1.1)), (5, (.int .i64 (q.1.2 : Int)))], [])) (fun q => a_1.length - q.1.2) ⟨(w64 (left_2 - (a_1.length : Int)), 0), hb1⟩ ⟨[], [], _, _, rfl, rfl, ⟨.refl _, ⟨.refl _, ⟨.refl _, trivial⟩⟩⟩, (.refl _)⟩ ?_
      rintro ⟨⟨left_19, i_20⟩, hc1⟩
      have hc1 : laws_szStringS_L1 (a_1.drop i_20) left_19 = some p29 := hc1
      refine (show awp Try.prog false 0 _ (ofL [(0, (.lst 1 (a_1.map AV.str))), (1, (.int .i64 left_19)), (5, (.int .i64 (i_20 : Int)))]) [] _ from ?_)
      rcases dropc a_1 i_20 with ⟨hie32, hd35⟩ | ⟨hlt30, x_36, hx31, hd35⟩
      · rw [hd35, laws_szStringS_L1.eq_1] at hc1
        have hq34 := dlf hie32
        refine awp_seq ?_
        refine awp_seq ?_
        refine w_reg ?_
        refine s_do (o_mov (.int .i64 (i_20 : Int)) rfl) ?_
        refine s_do (o_mov (.lst 1 (a_1.map AV.str)) rfl) ?_
        refine s_dof (o_len (enc := AV.str) rfl) fun hl37 => ?_
        refine s_do (o_q (.bool (decide ((i_20 : Int) < (a_1.length : Int)))) rfl rfl rfl) ?_
        refine w_done ?_
        refine k_seq ?_
        refine w_condf rfl hq34 ?_
        refine w_exit ?_
        refine k_seqx ?_
        refine k_loopx ?_
        refine k_blkx ?_
        obtain rfl := os hc1
        exact k_cutn ⟨_, rfl⟩ ⟨[], [], _, _, rfl, rfl, ⟨.refl _, trivial⟩, (.refl _)⟩
      · rw [hd35, laws_szStringS_L1.eq_2] at hc1
        have hq34 := dlt hlt30
        refine awp_seq ?_
        refine awp_seq ?_
        refine w_reg ?_
        refine s_do (o_mov (.int .i64 (i_20 : Int)) rfl) ?_
        refine s_do (o_mov (.lst 1 (a_1.map AV.str)) rfl) ?_
        refine s_dof (o_len (enc := AV.str) rfl) fun hl38 => ?_
        refine s_do (o_q (.bool (decide ((i_20 : Int) < (a_1.length : Int)))) rfl rfl rfl) ?_
        refine w_done ?_
        refine k_seq ?_
        refine w_condt rfl hq34 ?_
        refine w_skip ?_
        refine k_seq ?_
        refine awp_seq ?_
        refine w_blk ?_
        refine awp_seq ?_
        refine w_reg ?_
        refine s_do (o_mov (.int .i64 left_19) rfl) ?_
        refine s_do (o_mov (.lst 1 (a_1.map AV.str)) rfl) ?_
        refine s_do (o_mov (.int .i64 (i_20 : Int)) rfl) ?_
        refine s_do (o_iaddrn (enc := AV.str) rfl rfl hx31) ?_
        refine s_do (o_q (.str x_36) rfl ⟨rfl, rfl⟩ rfl) ?_
        refine s_dof (o_lenS rfl) fun hl39 => ?_
        refine s_do (o_q (.int .i64 (w64 (left_19 - (x_36.length : Int)))) rfl rfl rfl) ?_
        refine s_do (o_mov (.int .i64 (w64 (left_19 - (x_36.length : Int)))) rfl) ?_
        refine w_done ?_
        refine k_seq ?_
        refine awp_seq ?_
        refine w_reg ?_
        refine s_do (o_mov (.int .i64 (w64 (left_19 - (x_36.length : Int)))) rfl) ?_
        refine s_do (o_q (.bool (decide (w64 (left_19 - (x_36.length : Int)) < 0))) rfl rfl rfl) ?_
        refine w_done ?_
        refine k_seq ?_
        rcases oi hc1 with ⟨c40, hc1⟩ | ⟨c40, hc1⟩
        · refine w_condt rfl c40 ?_
          refine awp_seq ?_
          refine w_reg ?_
          refine s_do (o_mov (.int .i64 (-1)) rfl) ?_
          refine w_done ?_
          refine k_seq ?_
          refine w_ret ?_
          obtain rfl := os hc1
          obtain rfl := os hf
          exact r_flat ⟨trivial, trivial⟩ rfl (.refl _)
        · refine w_condf rfl (bf c40) ?_
          refine w_skip ?_
          refine k_blk ?_
          refine k_seq ?_
          refine w_reg ?_
          refine s_do (o_mov (.int .i64 (i_20 : Int)) rfl) ?_
          refine s_do (o_q (.int .i64 (w64 ((i_20 : Int) + 1))) rfl rfl rfl) ?_
          refine s_do (o_mov (.int .i64 (w64 ((i_20 : Int) + 1))) rfl) ?_
          refine w_done ?_
          exact k_loopn ⟨(w64 (left_19 - (x_36.length : Int)), (i_20 + 1)), hc1⟩ (mul hlt30) ⟨[], [], _, _, rfl, rfl, ⟨.refl _, ⟨.refl _, ⟨.of_eq (congrArg (AV.int _) (w64_incr hlt30 hl38)), trivial⟩⟩⟩, (.refl _)⟩
    · rintro ⟨left_28, rfl⟩
      refine awp_seq ?_
      refine w_reg ?_
      refine s_do (o_mov (.int .i64 left_28) rfl) ?_
      refine s_do (o_mov (.int .i64 left_28) rfl) ?_
      refine w_done ?_
      refine k_seq ?_
      refine w_ret ?_
      obtain rfl := os hf
      exact r_flat ⟨trivial, trivial⟩ rfl (.refl _)

/- laws.szJsonS -/
def c120 : ACode :=
 (.seq (.reg (.q ⟨(some 4), none, .mov (.c (.int .i64 0))⟩
 .done))
 (.seq (.reg (.q ⟨(some 6), none, .mov (.t 1)⟩
 (.q ⟨(some 7), none, .mov (.t 0)⟩
 (.q ⟨(some 8), none, .len (.t 7)⟩
 (.q ⟨(some 9), none, .bin .sub (.t 6) (.t 8)⟩
 (.q ⟨(some 1), none, .mov (.t 9)⟩
 .done))))))
 (.seq (.seq (.reg (.q ⟨(some 10), none, .mov (.t 1)⟩
 (.q ⟨(some 11), none, .bin .lss (.t 10) (.c (.int .i64 0))⟩
 .done)))
 (.cond (.t 11) (.seq (.reg (.q ⟨(some 4), none, .mov (.c (.int .i64 (-1)))⟩
 .done))
 .ret)
 .skip))
 (.seq (.seq (.reg (.q ⟨(some 5), none, .mov (.c (.int .i64 0))⟩
 .done))
 (.block 0 (.loop (.seq (.seq (.reg (.q ⟨(some 12), none, .mov (.t 5)⟩
 (.q ⟨(some 13), none, .mov (.t 0)⟩
 (.q ⟨(some 14), none, .len (.t 13)⟩
 (.q ⟨(some 15), none, .bin .lss (.t 12) (.t 14)⟩
 .done)))))
 (.cond (.t 15) .skip
 (.exit 0)))
 (.seq (.block 1 (.seq (.reg (.q ⟨(some 18), none, .mov (.t 0)⟩
 (.q ⟨(some 19), none, .mov (.t 5)⟩
 (.q ⟨(some 20), none, .iaddr 5 (.t 18) (.t 19)⟩
 (.q ⟨(some 21), none, .load 5 true (.t 20)⟩
 (.q ⟨(some 22), none, .mov (.t 1)⟩
 (.q ⟨(some 23), none, .call 47 [(.t 21), (.t 22)]⟩
 (.q ⟨(some 1), none, .mov (.t 23)⟩
 .done))))))))
 (.seq (.reg (.q ⟨(some 24), none, .mov (.t 1)⟩
 (.q ⟨(some 25), none, .bin .lss (.t 24) (.c (.int .i64 0))⟩
 .done)))
 (.cond (.t 25) (.seq (.reg (.q ⟨(some 4), none, .mov (.c (.int .i64 (-1)))⟩
 .done))
 .ret)
 .skip))))
 (.reg (.q ⟨(some 16), none, .mov (.t 5)⟩
 (.q ⟨(some 17), none, .bin .add (.t 16) (.c (.int .i64 1))⟩
 (.q ⟨(some 5), none, .mov (.t 17)⟩
 .done)))))))))
 (.cut (.seq (.reg (.q ⟨(some 26), none, .mov (.t 1)⟩
 (.q ⟨(some 4), none, .mov (.t 26)⟩
 .done)))
 .ret))))))
theorem fc120 : fcomp Try.prog Try.f120 = some (c120.erase, [.mov (.t 4)], 27) := by kernel_rfl
def laws_szJsonS_L1 (rec : (GJson → Int → Option Int)) : List GJson → Int → Option (Fl Int Int)
  | [], left_21 =>
    some (.go left_21)
  | x_39 :: xs, left_21 =>
    (rec x_39 left_21).bind fun r_42 =>
    if (decide (r_42 < 0)) then
    some (.ret (-1))
    else
    laws_szJsonS_L1 rec xs r_42 

def laws_szJsonS (rec : (GJson → Int → Option Int)) (a_1 : (List GJson)) (left_2 : Int) : Option Int :=
    if (decide (w64 (left_2 - (a_1.length : Int)) < 0)) then
    some (-1)
    else
    (laws_szJsonS_L1 rec a_1 (w64 (left_2 - (a_1.length : Int)))).bind fun q => (match q with
    | .ret r => some r
    | .go left_31 =>
    some left_31)
theorem w_laws_szJsonS (rec : (GJson → Int → Option Int)) (hrec : ∀ a0 a1 r, rec a0 a1 = some r → CallOK Try.prog 47 .flat [(encGJson a0), (.int .i64 a1)] (.int .i64 r)) (a_1 : (List GJson)) (left_2 : Int) (r : Int) (hf : laws_szJsonS rec a_1 left_2 = some r) : CallOK Try.prog 120 .flat [(.lst 5 (a_1.map encGJson)), (.int .i64 left_2)] (.int .i64 r) := by
  refine CallOK.of_awp mixed Try.func120 fc120 nle ?_
  rw [argT_eq]
  unfold laws_szJsonS at hf
  unfold c120
  refine (show awp Try.prog false 0 _ (ofL [(0, (.lst 5 (a_1.map encGJson))), (1, (.int .i64 left_2))]) [] _ from ?_)
  refine awp_seq ?_
  refine w_reg ?_
  refine s_do (o_mov (.int .i64 0) rfl) ?_
  refine w_done ?_
  refine k_seq ?_
  refine awp_seq ?_
  refine w_reg ?_
  refine s_do (o_mov (.int .i64 left_2) rfl) ?_
  refine s_do (o_mov (.lst 5 (a_1.map encGJson)) rfl) ?_
  refine s_dof (o_len (enc := encGJson) rfl) fun hl3 => ?_
  refine s_do (o_q (.int .i64 (w64 (left_2 - (a_1.length : Int)))) rfl rfl rfl) ?_
  refine s_do (o_mov (.int .i64 (w64 (left_2 - (a_1.length : Int)))) rfl) ?_
  refine w_done ?_
  refine k_seq ?_
  refine awp_seq ?_
  refine awp_seq ?_
  refine w_reg ?_
  refine s_do (o_mov (.int .i64 (w64 (left_2 - (a_1.length : Int)))) rfl) ?_
  refine s_do (o_q (.bool (decide (w64 (left_2 - (a_1.length : Int)) < 0))) rfl rfl rfl) ?_
  refine w_done ?_
  refine k_seq ?_
  rcases oi hf with ⟨c4, hf⟩ | ⟨c4, hf⟩
  · refine w_condt rfl c4 ?_
    refine awp_seq ?_
    refine w_reg ?_
    refine s_do (o_mov (.int .i64 (-1)) rfl) ?_
    refine w_done ?_
    refine k_seq ?_
    refine w_ret ?_
    obtain rfl := os hf
    exact r_flat ⟨trivial, trivial⟩ rfl (.refl _)
  · refine w_condf rfl (bf c4) ?_
    refine w_skip ?_
    refine k_seq ?_
    refine awp_seq ?_
    refine awp_seq ?_
    refine w_reg ?_
    refine s_do (o_mov (.int .i64 0) rfl) ?_
    refine w_done ?_
    refine k_seq ?_
    obtain ⟨p32, hb1, hf⟩ := ob hf
    refine awp_cutx (X := {q : Int // p32 = .go q}) (fun q => ([(1, (.int .i64 q.1))], [])) ?_ ?_
    · refine awp_loop (X := {q : (Int × Nat) // laws_szJsonS_L1 rec (a_1.drop q.2) q.1 = some p32}) (fun q => ([(0, (.lst 5 (a_1.map encGJson))), (1, (.int .i64 q.1.1)), (5, (.int .i64 (q.1.2 : Int)))], [])) (fun q => a_1.length - q.1.2) ⟨(w64 (left_2 - (a_1.length : Int)), 0), hb1⟩ ⟨[], [], _, _, rfl, rfl, ⟨.refl _, ⟨.refl _, ⟨.refl _, trivial⟩⟩⟩, (.refl _)⟩ ?_
      rintro ⟨⟨left_21, i_22⟩, hc1⟩
      have hc1 : laws_szJsonS_L1 rec (a_1.drop i_22) left_21 = some p32 := hc1
      refine (show awp Try.prog false 0 _ (ofL [(0, (.lst 5 (a_1.map encGJson))), (1, (.int .i64 left_21)), (5, (.int .i64 (i_22 : Int)))]) [] _ from ?_)
      rcases dropc a_1 i_22 with ⟨hie35, hd38⟩ | ⟨hlt33, x_39, hx34, hd38⟩
      · rw [hd38, laws_szJsonS_L1.eq_1] at hc1
        have hq37 := dlf hie35
        refine awp_seq ?_
        refine awp_seq ?_
        refine w_reg ?_
        refine s_do (o_mov (.int .i64 (i_22 : Int)) rfl) ?_
        refine s_do (o_mov (.lst 5 (a_1.map encGJson)) rfl) ?_
        refine s_dof (o_len (enc := encGJson) rfl) fun hl40 => ?_
        refine s_do (o_q (.bool (decide ((i_22 : Int) < (a_1.length : Int)))) rfl rfl rfl) ?_
        refine w_done ?_
        refine k_seq ?_
        refine w_condf rfl hq37 ?_
        refine w_exit ?_
        refine k_seqx ?_
        refine k_loopx ?_
        refine k_blkx ?_
        obtain rfl := os hc1
        exact k_cutn ⟨_, rfl⟩ ⟨[], [], _, _, rfl, rfl, ⟨.refl _, trivial⟩, (.refl _)⟩
      · rw [hd38, laws_szJsonS_L1.eq_2] at hc1
        have hq37 := dlt hlt33
        refine awp_seq ?_
        refine awp_seq ?_
        refine w_reg ?_
        refine s_do (o_mov (.int .i64 (i_22 : Int)) rfl) ?_
        refine s_do (o_mov (.lst 5 (a_1.map encGJson)) rfl) ?_
        refine s_dof (o_len (enc := encGJson) rfl) fun hl41 => ?_
        refine s_do (o_q (.bool (decide ((i_22 : Int) < (a_1.length : Int)))) rfl rfl rfl) ?_
        refine w_done ?_
        refine k_seq ?_
        refine w_condt rfl hq37 ?_
        refine w_skip ?_
        refine k_seq ?_
        refine awp_seq ?_
        refine w_blk ?_
        refine awp_seq ?_
        refine w_reg ?_
        obtain ⟨r_42, er43, hc1⟩ := ob hc1
        refine s_do (o_mov (.lst 5 (a_1.map encGJson)) rfl) ?_
        refine s_do (o_mov (.int .i64 (i_22 : Int)) rfl) ?_
        refine s_do (o_iaddrn (enc := encGJson) rfl rfl hx34) ?_
        refine s_do (o_loadeq (v := (.agg [(.int .i64 x_39.Kind), (.int .i64 x_39.N), (.str x_39.T), (.lst 1 (x_39.Keys.map AV.str)), (.lst 5 (x_39.Items.map encGJson))])) rfl (encGJson_eq _) nle rfl) ?_
        refine s_do (o_mov (.int .i64 left_21) rfl) ?_
        refine s_do (o_call (hrec _ _ _ er43) rfl (.cons (.of_eq (encGJson_eq x_39).symm) (.cons (.refl _) .nil)) rfl) ?_
        refine s_do (o_mov (.int .i64 r_42) rfl) ?_
        refine w_done ?_
        refine k_seq ?_
        refine awp_seq ?_
        refine w_reg ?_
        refine s_do (o_mov (.int .i64 r_42) rfl) ?_
        refine s_do (o_q (.bool (decide (r_42 < 0))) rfl rfl rfl) ?_
        refine w_done ?_
        refine k_seq ?_
        rcases oi hc1 with ⟨c44, hc1⟩ | ⟨c44, hc1⟩
        · refine w_condt rfl c44 ?_
          refine awp_seq ?_
          refine w_reg ?_
          refine s_do (o_mov (.int .i64 (-1)) rfl) ?_
          refine w_done ?_
          refine k_seq ?_
          refine w_ret ?_
          obtain rfl := os hc1
          obtain rfl := os hf
          exact r_flat ⟨trivial, trivial⟩ rfl (.refl _)
        · refine w_condf rfl (bf c44) ?_
          refine w_skip ?_
          refine k_blk ?_
          refine k_seq ?_
          refine w_reg ?_
          refine s_do (o_mov (.int .i64 (i_22 : Int)) rfl) ?_
          refine s_do (o_q (.int .i64 (w64 ((i_22 : Int) + 1))) rfl rfl rfl) ?_
          refine s_do (o_mov (.int .i64 (w64 ((i_22 : Int) + 1))) rfl) ?_
          refine w_done ?_
          exact k_loopn ⟨(r_42, (i_22 + 1)), hc1⟩ (mul hlt33) ⟨[], [], _, _, rfl, rfl, ⟨.refl _, ⟨.refl _, ⟨.of_eq (congrArg (AV.int _) (w64_incr hlt33 hl41)), trivial⟩⟩⟩, (.refl _)⟩
    · rintro ⟨left_31, rfl⟩
      refine awp_seq ?_
      refine w_reg ?_
      refine s_do (o_mov (.int .i64 left_31) rfl) ?_
      refine s_do (o_mov (.int .i64 left_31) rfl) ?_
      refine w_done ?_
      refine k_seq ?_
      refine w_ret ?_
      obtain rfl := os hf
      exact r_flat ⟨trivial, trivial⟩ rfl (.refl _)

/- laws.szJson -/
def c47 : ACode :=
 (.seq (.reg (.q ⟨(some 2), none, .box 5 (.t 0)⟩
 (.q ⟨(some 4), none, .mov (.c (.int .i64 0))⟩
 .done)))
 (.seq (.reg (.q ⟨(some 5), none, .mov (.t 1)⟩
 (.q ⟨(some 6), none, .faddr 2 (.t 2)⟩
 (.q ⟨(some 7), none, .load 1 false (.t 6)⟩
 (.q ⟨(some 8), none, .lenS (.t 7)⟩
 (.q ⟨(some 9), none, .bin .sub (.t 5) (.t 8)⟩
 (.q ⟨(some 1), none, .mov (.t 9)⟩
 .done)))))))
 (.seq (.seq (.reg (.q ⟨(some 10), none, .mov (.t 1)⟩
 (.q ⟨(some 11), none, .bin .lss (.t 10) (.c (.int .i64 0))⟩
 .done)))
 (.cond (.t 11) (.seq (.reg (.q ⟨(some 4), none, .mov (.c (.int .i64 (-1)))⟩
 .done))
 .ret)
 .skip))
 (.seq (.reg (.q ⟨(some 12), none, .faddr 3 (.t 2)⟩
 (.q ⟨(some 13), none, .load 1 false (.t 12)⟩
 (.q ⟨(some 14), none, .mov (.t 1)⟩
 (.q ⟨(some 15), none, .call 119 [(.t 13), (.t 14)]⟩
 (.q ⟨(some 1), none, .mov (.t 15)⟩
 .done))))))
 (.seq (.seq (.reg (.q ⟨(some 16), none, .mov (.t 1)⟩
 (.q ⟨(some 17), none, .bin .lss (.t 16) (.c (.int .i64 0))⟩
 .done)))
 (.cond (.t 17) (.seq (.reg (.q ⟨(some 4), none, .mov (.c (.int .i64 (-1)))⟩
 .done))
 .ret)
 .skip))
 (.seq (.reg (.q ⟨(some 18), none, .faddr 4 (.t 2)⟩
 (.q ⟨(some 19), none, .load 1 false (.t 18)⟩
 (.q ⟨(some 20), none, .mov (.t 1)⟩
 (.q ⟨(some 21), none, .call 120 [(.t 19), (.t 20)]⟩
 (.q ⟨(some 1), none, .mov (.t 21)⟩
 .done))))))
 (.seq (.seq (.reg (.q ⟨(some 22), none, .mov (.t 1)⟩
 (.q ⟨(some 23), none, .bin .lss (.t 22) (.c (.int .i64 0))⟩
 .done)))
 (.cond (.t 23) (.seq (.reg (.q ⟨(some 4), none, .mov (.c (.int .i64 (-1)))⟩
 .done))
 .ret)
 .skip))
 (.seq (.reg (.q ⟨(some 24), none, .mov (.t 1)⟩
 (.q ⟨(some 4), none, .mov (.t 24)⟩
 .done)))
 .ret))))))))
theorem fc47 : fcomp Try.prog Try.f47 = some (c47.erase, [.mov (.t 4)], 25) := by kernel_rfl
def laws_szJson_B (rec : (GJson → Int → Option Int)) (a_1 : GJson) (left_2 : Int) : Option Int :=
    if (decide (w64 (left_2 - (a_1.T.length : Int)) < 0)) then
    some (-1)
    else
    (laws_szStringS a_1.Keys (w64 (left_2 - (a_1.T.length : Int)))).bind fun r_5 =>
    if (decide (r_5 < 0)) then
    some (-1)
    else
    (laws_szJsonS rec a_1.Items r_5).bind fun r_8 =>
    if (decide (r_8 < 0)) then
    some (-1)
    else
    some r_8
theorem w_laws_szJson_B (rec : (GJson → Int → Option Int)) (hrec : ∀ a0 a1 r, rec a0 a1 = some r → CallOK Try.prog 47 .flat [(encGJson a0), (.int .i64 a1)] (.int .i64 r)) (a_1 : GJson) (left_2 : Int) (r : Int) (hf : laws_szJson_B rec a_1 left_2 = some r) : CallOK Try.prog 47 .flat [(encGJson a_1), (.int .i64 left_2)] (.int .i64 r) := by
  refine CallOK.of_awp mixed Try.func47 fc47 nle ?_
  rw [argT_eq]
  rw [encGJson_eq a_1]
  unfold laws_szJson_B at hf
  unfold c47
  refine (show awp Try.prog false 0 _ (ofL [(0, (.agg [(.int .i64 a_1.Kind), (.int .i64 a_1.N), (.str a_1.T), (.lst 1 (a_1.Keys.map AV.str)), (.lst 5 (a_1.Items.map encGJson))])), (1, (.int .i64 left_2))]) [] _ from ?_)
  refine awp_seq ?_
  refine w_reg ?_
  refine s_do (o_box (j := 0) (c := (.agg [(.int .i64 a_1.Kind), (.int .i64 a_1.N), (.str a_1.T), (.lst 1 (a_1.Keys.map AV.str)), (.lst 5 (a_1.Items.map encGJson))])) rfl trivial rfl rfl) ?_
  refine s_do (o_mov (.int .i64 0) rfl) ?_
  refine w_done ?_
  refine k_seq ?_
  refine awp_seq ?_
  refine w_reg ?_
  refine s_do (o_mov (.int .i64 left_2) rfl) ?_
  refine s_do (o_q (.ptr 0 0 2) rfl trivial rfl) ?_
  refine s_do (o_q (.str a_1.T) rfl nle rfl) ?_
  refine s_dof (o_lenS rfl) fun hl3 => ?_
  refine s_do (o_q (.int .i64 (w64 (left_2 - (a_1.T.length : Int)))) rfl rfl rfl) ?_
  refine s_do (o_mov (.int .i64 (w64 (left_2 - (a_1.T.length : Int)))) rfl) ?_
  refine w_done ?_
  refine k_seq ?_
  refine awp_seq ?_
  refine awp_seq ?_
  refine w_reg ?_
  refine s_do (o_mov (.int .i64 (w64 (left_2 - (a_1.T.length : Int)))) rfl) ?_
  refine s_do (o_q (.bool (decide (w64 (left_2 - (a_1.T.length : Int)) < 0))) rfl rfl rfl) ?_
  refine w_done ?_
  refine k_seq ?_
  rcases oi hf with ⟨c4, hf⟩ | ⟨c4, hf⟩
  · refine w_condt rfl c4 ?_
    refine awp_seq ?_
    refine w_reg ?_
    refine s_do (o_mov (.int .i64 (-1)) rfl) ?_
    refine w_done ?_
    refine k_seq ?_
    refine w_ret ?_
    obtain rfl := os hf
    exact r_flat ⟨trivial, trivial⟩ rfl (.refl _)
  · refine w_condf rfl (bf c4) ?_
    refine w_skip ?_
    refine k_seq ?_
    refine awp_seq ?_
    refine w_reg ?_
    obtain ⟨r_5, er6, hf⟩ := ob hf
    refine s_do (o_q (.ptr 0 0 3) rfl trivial rfl) ?_
    refine s_do (o_q (.lst 1 (a_1.Keys.map AV.str)) rfl nle rfl) ?_
    refine s_do (o_mov (.int .i64 (w64 (left_2 - (a_1.T.length : Int)))) rfl) ?_
    refine s_do (o_call (w_laws_szStringS _ _ _ er6) rfl (.refl _) rfl) ?_
    refine s_do (o_mov (.int .i64 r_5) rfl) ?_
    refine w_done ?_
    refine k_seq ?_
    refine awp_seq ?_
    refine awp_seq ?_
    refine w_reg ?_
    refine s_do (o_mov (.int .i64 r_5) rfl) ?_
    refine s_do (o_q (.bool (decide (r_5 < 0))) rfl rfl rfl) ?_
    refine w_done ?_
    refine k_seq ?_
    rcases oi hf with ⟨c7, hf⟩ | ⟨c7, hf⟩
    · refine w_condt rfl c7 ?_
      refine awp_seq ?_
      refine w_reg ?_
      refine s_do (o_mov (.int .i64 (-1)) rfl) ?_
      refine w_done ?_
      refine k_seq ?_
      refine w_ret ?_
      obtain rfl := os hf
      exact r_flat ⟨trivial, trivial⟩ rfl (.refl _)
    · refine w_condf rfl (bf c7) ?_
      refine w_skip ?_
      refine k_seq ?_
      refine awp_seq ?_
      refine w_reg ?_
      obtain ⟨r_8, er9, hf⟩ := ob hf
      refine s_do (o_q (.ptr 0 0 4) rfl trivial rfl) ?_
      refine s_do (o_q (.lst 5 (a_1.Items.map encGJson)) rfl nle rfl) ?_
      refine s_do (o_mov (.int .i64 r_5) rfl) ?_
      refine s_do (o_call (w_laws_szJsonS rec hrec _ _ _ er9) rfl (.refl _) rfl) ?_
      refine s_do (o_mov (.int .i64 r_8) rfl) ?_
      refine w_done ?_
      refine k_seq ?_
      refine awp_seq ?_
      refine awp_seq ?_
      refine w_reg ?_
      refine s_do (o_mov (.int .i64 r_8) rfl) ?_
      refine s_do (o_q (.bool (decide (r_8 < 0))) rfl rfl rfl) ?_
      refine w_done ?_
      refine k_seq ?_
      rcases oi hf with ⟨c10, hf⟩ | ⟨c10, hf⟩
      · refine w_condt rfl c10 ?_
        refine awp_seq ?_
        refine w_reg ?_
        refine s_do (o_mov (.int .i64 (-1)) rfl) ?_
        refine w_done ?_
        refine k_seq ?_
        refine w_ret ?_
        obtain rfl := os hf
        exact r_flat ⟨trivial, trivial⟩ rfl (.refl _)
      · refine w_condf rfl (bf c10) ?_
        refine w_skip ?_
        refine k_seq ?_
        refine awp_seq ?_
        refine w_reg ?_
        refine s_do (o_mov (.int .i64 r_8) rfl) ?_
        refine s_do (o_mov (.int .i64 r_8) rfl) ?_
        refine w_done ?_
        refine k_seq ?_
        refine w_ret ?_
        obtain rfl := os hf
        exact r_flat ⟨trivial, trivial⟩ rfl (.refl _)
def laws_szJson : Nat → GJson → Int → Option Int
  | 0, _, _ => none
  | k + 1, a_1, left_2 => laws_szJson_B (laws_szJson k) a_1 left_2
theorem w_laws_szJson : ∀ (k : Nat) (a_1 : GJson) (left_2 : Int) (r : Int), laws_szJson k a_1 left_2 = some r → CallOK Try.prog 47 .flat [(encGJson a_1), (.int .i64 left_2)] (.int .i64 r)
  | 0, a_1, left_2, r, h => by rw [laws_szJson.eq_1] at h; cases h
  | k + 1, a_1, left_2, r, h => by
    rw [laws_szJson.eq_2] at h
    exact w_laws_szJson_B _ (w_laws_szJson k) a_1 left_2 r h

/- laws.toStringS -/
def c123 : ACode :=
 (.seq (.reg (.q ⟨(some 2), none, .mov (.c .nil)⟩
 .done))
 (.seq (.reg (.q ⟨(some 5), none, .mov (.t 0)⟩
 (.q ⟨(some 6), none, .len (.t 5)⟩
 (.q ⟨(some 7), none, .mkslice 1 16 (.str []) (.t 6) (.t 6)⟩
 (.q ⟨(some 3), none, .mov (.t 7)⟩
 .done)))))
 (.seq (.seq (.reg (.q ⟨(some 4), none, .mov (.c (.int .i64 0))⟩
 .done))
 (.block 0 (.loop (.seq (.seq (.reg (.q ⟨(some 8), none, .mov (.t 4)⟩
 (.q ⟨(some 9), none, .mov (.t 0)⟩
 (.q ⟨(some 10), none, .len (.t 9)⟩
 (.q ⟨(some 11), none, .bin .lss (.t 8) (.t 10)⟩
 .done)))))
 (.cond (.t 11) .skip
 (.exit 0)))
 (.seq (.block 1 (.reg (.q ⟨(some 14), none, .mov (.t 3)⟩
 (.q ⟨(some 15), none, .mov (.t 4)⟩
 (.q ⟨(some 16), none, .mov (.t 0)⟩
 (.q ⟨(some 17), none, .mov (.t 4)⟩
 (.q ⟨(some 18), none, .iaddr 1 (.t 16) (.t 17)⟩
 (.q ⟨(some 19), none, .load 1 false (.t 18)⟩
 (.q ⟨(some 20), none, .iaddr 1 (.t 14) (.t 15)⟩
 (.q ⟨none, none, .store 1 (.t 20) (.t 19)⟩
 .done))))))))))
 (.reg (.q ⟨(some 12), none, .mov (.t 4)⟩
 (.q ⟨(some 13), none, .bin .add (.t 12) (.c (.int .i64 1))⟩
 (.q ⟨(some 4), none, .mov (.t 13)⟩
 .done)))))))))
 (.cut (.seq (.reg (.q ⟨(some 21), none, .mov (.t 3)⟩
 (.q ⟨(some 2), none, .mov (.t 21)⟩
 .done)))
 .ret)))))
theorem fc123 : fcomp Try.prog Try.f123 = some (c123.erase, [.mov (.t 2)], 22) := by kernel_rfl
def laws_toStringS_L1  : List Str → Nat → (List Str) → Option (List Str)
  | [], i_20, out_21 =>
    some out_21
  | x_38 :: xs, i_20, out_21 =>
    if i_20 < out_21.length then
    (out_21[i_20]?).bind fun x_42 =>
    laws_toStringS_L1 xs (i_20 + 1) (out_21.set i_20 x_38)
    else none

def laws_toStringS (a_1 : (List Str)) : Option (List Str) :=
    if (a_1.length : Int) ≤ 2 ^ 30 then
    (laws_toStringS_L1 a_1 0 (List.replicate a_1.length [])).bind fun out_30 =>
    some out_30
    else none
theorem w_laws_toStringS (a_1 : (List Str)) (r : (List Str)) (hf : laws_toStringS a_1 = some r) : CallOK Try.prog 123 .fresh [(.lst 1 (a_1.map AV.str))] (.lst 1 (r.map AV.str)) := by
  refine CallOK.of_awp mixed Try.func123 fc123 nle ?_
  rw [argT_eq]
  unfold laws_toStringS at hf
  unfold c123
  refine (show awp Try.prog true 0 _ (ofL [(0, (.lst 1 (a_1.map AV.str)))]) [] _ from ?_)
  refine awp_seq ?_
  refine w_reg ?_
  refine s_do (o_mov .nil rfl) ?_
  refine w_done ?_
  refine k_seq ?_
  refine awp_seq ?_
  refine w_reg ?_
  obtain ⟨g3, hf⟩ := og hf
  refine s_do (o_mov (.lst 1 (a_1.map AV.str)) rfl) ?_
  refine s_dof (o_len (enc := AV.str) rfl) fun hl2 => ?_
  refine s_do (o_mkslice (j := 0) (enc := AV.str) (m := a_1.length) [] (.refl _) rfl rfl (Int.le_refl _) g3 rfl) ?_
  refine s_do (o_mov (.own 0 0 a_1.length) rfl) ?_
  refine w_done ?_
  refine k_seq ?_
  refine awp_seq ?_
  refine awp_seq ?_
  refine w_reg ?_
  refine s_do (o_mov (.int .i64 0) rfl) ?_
  refine w_done ?_
  refine k_seq ?_
  obtain ⟨out_30, hb1, hf⟩ := ob hf
  refine awp_cut ([(3, (.own 0 0 out_30.length))], [.row 1 (out_30.map AV.str)]) ?_ ?_
  · refine awp_loop (X := {q : (Nat × (List Str)) // laws_toStringS_L1 (a_1.drop q.1) q.1 q.2 = some out_30}) (fun q => ([(0, (.lst 1 (a_1.map AV.str))), (3, (.own 0 0 q.1.2.length)), (4, (.int .i64 (q.1.1 : Int)))], [.row 1 (q.1.2.map AV.str)])) (fun q => a_1.length - q.1.1) ⟨(0, List.replicate a_1.length []), hb1⟩ ⟨[], [0], _, _, rfl, rfl, ⟨.refl _, ⟨.of_eq (congrArg (AV.own _ 0) (by simp)), ⟨.refl _, trivial⟩⟩⟩, (.refl _)⟩ ?_
    rintro ⟨⟨i_20, out_21⟩, hc1⟩
    have hc1 : laws_toStringS_L1 (a_1.drop i_20) i_20 out_21 = some out_30 := hc1
    refine (show awp Try.prog true 0 _ (ofL [(0, (.lst 1 (a_1.map AV.str))), (3, (.own 0 0 out_21.length)), (4, (.int .i64 (i_20 : Int)))]) [.row 1 (out_21.map AV.str)] _ from ?_)
    rcases dropc a_1 i_20 with ⟨hie34, hd37⟩ | ⟨hlt32, x_38, hx33, hd37⟩
    · rw [hd37, laws_toStringS_L1.eq_1] at hc1
      have hq36 := dlf hie34
      refine awp_seq ?_
      refine awp_seq ?_
      refine w_reg ?_
      refine s_do (o_mov (.int .i64 (i_20 : Int)) rfl) ?_
      refine s_do (o_mov (.lst 1 (a_1.map AV.str)) rfl) ?_
      refine s_dof (o_len (enc := AV.str) rfl) fun hl39 => ?_
      refine s_do (o_q (.bool (decide ((i_20 : Int) < (a_1.length : Int)))) rfl rfl rfl) ?_
      refine w_done ?_
      refine k_seq ?_
      refine w_condf rfl hq36 ?_
      refine w_exit ?_
      refine k_seqx ?_
      refine k_loopx ?_
      refine k_blkx ?_
      obtain rfl := os hc1
      exact ⟨[], [0], _, _, rfl, rfl, ⟨.refl _, trivial⟩, (.refl _)⟩
    · rw [hd37, laws_toStringS_L1.eq_2] at hc1
      have hq36 := dlt hlt32
      refine awp_seq ?_
      refine awp_seq ?_
      refine w_reg ?_
      refine s_do (o_mov (.int .i64 (i_20 : Int)) rfl) ?_
      refine s_do (o_mov (.lst 1 (a_1.map AV.str)) rfl) ?_
      refine s_dof (o_len (enc := AV.str) rfl) fun hl40 => ?_
      refine s_do (o_q (.bool (decide ((i_20 : Int) < (a_1.length : Int)))) rfl rfl rfl) ?_
      refine w_done ?_
      refine k_seq ?_
      refine w_condt rfl hq36 ?_
      refine w_skip ?_
      refine k_seq ?_
      refine awp_seq ?_
      refine w_blk ?_
      refine w_reg ?_
      obtain ⟨g41, hc1⟩ := og hc1
      obtain ⟨x_42, ex43, hc1⟩ := ob hc1
      refine s_do (o_mov (.own 0 0 out_21.length) rfl) ?_
      refine s_do (o_mov (.int .i64 (i_20 : Int)) rfl) ?_
      refine s_do (o_mov (.lst 1 (a_1.map AV.str)) rfl) ?_
      refine s_do (o_mov (.int .i64 (i_20 : Int)) rfl) ?_
      refine s_do (o_iaddrn (enc := AV.str) rfl rfl hx33) ?_
      refine s_do (o_q (.str x_38) rfl ⟨rfl, rfl⟩ rfl) ?_
      refine s_do (o_iaddrownn rfl rfl g41 rfl rfl) ?_
      refine s_do0 (o_storerow (v' := (.str x_38)) (e' := x_38) rfl rfl ex43 rfl rfl rfl (by decide) (fun _ => by decide) ⟨rfl, rfl, rfl⟩ (.refl _) rfl) ?_
      refine w_done ?_
      refine k_blk ?_
      refine k_seq ?_
      refine w_reg ?_
      refine s_do (o_mov (.int .i64 (i_20 : Int)) rfl) ?_
      refine s_do (o_q (.int .i64 (w64 ((i_20 : Int) + 1))) rfl rfl rfl) ?_
      refine s_do (o_mov (.int .i64 (w64 ((i_20 : Int) + 1))) rfl) ?_
      refine w_done ?_
      exact k_loopn ⟨((i_20 + 1), out_21.set i_20 x_38), hc1⟩ (mul hlt32) ⟨[], [0], _, _, rfl, rfl, ⟨.refl _, ⟨.of_eq (congrArg (AV.own _ 0) (by simp)), ⟨.of_eq (congrArg (AV.int _) (w64_incr hlt32 hl40)), trivial⟩⟩⟩, (.refl _)⟩
  · refine awp_seq ?_
    refine w_reg ?_
    refine s_do (o_mov (.own 0 0 out_30.length) rfl) ?_
    refine s_do (o_mov (.own 0 0 out_30.length) rfl) ?_
    refine w_done ?_
    refine k_seq ?_
    refine w_ret ?_
    obtain rfl := os hf
    exact r_fresh ⟨trivial, trivial⟩ rfl (by decide) (.of_eq (congrArg (AV.lst _) (tk (enc := AV.str) out_30)))

/- laws.toJsonS -/
def c124 : ACode :=
 (.seq (.reg (.q ⟨(some 2), none, .mov (.c .nil)⟩
 .done))
 (.seq (.reg (.q ⟨(some 5), none, .mov (.t 0)⟩
 (.q ⟨(some 6), none, .len (.t 5)⟩
 (.q ⟨(some 7), none, .mkslice 5 80 (.agg [(.int .i64 0), (.int .i64 0), (.str []), .nil, .nil]) (.t 6) (.t 6)⟩
 (.q ⟨(some 3), none, .mov (.t 7)⟩
 .done)))))
 (.seq (.seq (.reg (.q ⟨(some 4), none, .mov (.c (.int .i64 0))⟩
 .done))
 (.block 0 (.loop (.seq (.seq (.reg (.q ⟨(some 8), none, .mov (.t 4)⟩
 (.q ⟨(some 9), none, .mov (.t 0)⟩
 (.q ⟨(some 10), none, .len (.t 9)⟩
 (.q ⟨(some 11), none, .bin .lss (.t 8) (.t 10)⟩
 .done)))))
 (.cond (.t 11) .skip
 (.exit 0)))
 (.seq (.block 1 (.reg (.q ⟨(some 14), none, .mov (.t 3)⟩
 (.q ⟨(some 15), none, .mov (.t 4)⟩
 (.q ⟨(some 16), none, .mov (.t 0)⟩
 (.q ⟨(some 17), none, .mov (.t 4)⟩
 (.q ⟨(some 18), none, .iaddr 5 (.t 16) (.t 17)⟩
 (.q ⟨(some 19), none, .load 5 true (.t 18)⟩
 (.q ⟨(some 20), none, .call 49 [(.t 19)]⟩
 (.q ⟨(some 21), none, .iaddr 5 (.t 14) (.t 15)⟩
 (.q ⟨none, none, .store 5 (.t 21) (.t 20)⟩
 .done)))))))))))
 (.reg (.q ⟨(some 12), none, .mov (.t 4)⟩
 (.q ⟨(some 13), none, .bin .add (.t 12) (.c (.int .i64 1))⟩
 (.q ⟨(some 4), none, .mov (.t 13)⟩
 .done)))))))))
 (.cut (.seq (.reg (.q ⟨(some 22), none, .mov (.t 3)⟩
 (.q ⟨(some 2), none, .mov (.t 22)⟩
 .done)))
 .ret)))))
theorem fc124 : fcomp Try.prog Try.f124 = some (c124.erase, [.mov (.t 2)], 23) := by kernel_rfl
def laws_toJsonS_L1 (rec : (GJson → Option GJson)) : List GJson → Nat → (List GJson) → Option (List GJson)
  | [], i_24, out_25 =>
    some out_25
  | x_44 :: xs, i_24, out_25 =>
    (rec x_44).bind fun r_47 =>
    if i_24 < out_25.length then
    (out_25[i_24]?).bind fun x_50 =>
    laws_toJsonS_L1 rec xs (i_24 + 1) (out_25.set i_24 r_47)
    else none

def laws_toJsonS (rec : (GJson → Option GJson)) (a_1 : (List GJson)) : Option (List GJson) :=
    if (a_1.length : Int) ≤ 2 ^ 30 then
    (laws_toJsonS_L1 rec a_1 0 (List.replicate a_1.length (⟨0, 0, [], [], []⟩ : GJson))).bind fun out_36 =>
    some out_36
    else none
theorem w_laws_toJsonS (rec : (GJson → Option GJson)) (hrec : ∀ a0 r, rec a0 = some r → CallOK Try.prog 49 .fresh [(encGJson a0)] (encGJson r)) (a_1 : (List GJson)) (r : (List GJson)) (hf : laws_toJsonS rec a_1 = some r) : CallOK Try.prog 124 .fresh [(.lst 5 (a_1.map encGJson))] (.lst 5 (r.map encGJson)) := by
  refine CallOK.of_awp mixed Try.func124 fc124 nle ?_
  rw [argT_eq]
  unfold laws_toJsonS at hf
  unfold c124
  refine (show awp Try.prog true 0 _ (ofL [(0, (.lst 5 (a_1.map encGJson)))]) [] _ from ?_)
  refine awp_seq ?_
  refine w_reg ?_
  refine s_do (o_mov .nil rfl) ?_
  refine w_done ?_
  refine k_seq ?_
  refine awp_seq ?_
  refine w_reg ?_
  obtain ⟨g3, hf⟩ := og hf
  refine s_do (o_mov (.lst 5 (a_1.map encGJson)) rfl) ?_
  refine s_dof (o_len (enc := encGJson) rfl) fun hl2 => ?_
  refine s_do (o_mkslice (j := 0) (enc := encGJson) (m := a_1.length) (⟨0, 0, [], [], []⟩ : GJson) (leJ (x := (⟨0, 0, [], [], []⟩ : GJson)) (.agg (.cons (.refl _) (.cons (.refl _) (.cons (.refl _) (.cons (.nil _) (.cons (.nil _) .nil))))))) rfl rfl (Int.le_refl _) g3 rfl) ?_
  refine s_do (o_mov (.own 0 0 a_1.length) rfl) ?_
  refine w_done ?_
  refine k_seq ?_
  refine awp_seq ?_
  refine awp_seq ?_
  refine w_reg ?_
  refine s_do (o_mov (.int .i64 0) rfl) ?_
  refine w_done ?_
  refine k_seq ?_
  obtain ⟨out_36, hb1, hf⟩ := ob hf
  refine awp_cut ([(3, (.own 0 0 out_36.length))], [.row 5 (out_36.map encGJson)]) ?_ ?_
  · refine awp_loop (X := {q : (Nat × (List GJson)) // laws_toJsonS_L1 rec (a_1.drop q.1) q.1 q.2 = some out_36}) (fun q => ([(0, (.lst 5 (a_1.map encGJson))), (3, (.own 0 0 q.1.2.length)), (4, (.int .i64 (q.1.1 : Int)))], [.row 5 (q.1.2.map encGJson)])) (fun q => a_1.length - q.1.1) ⟨(0, List.replicate a_1.length (⟨0, 0, [], [], []⟩ : GJson)), hb1⟩ ⟨[], [0], _, _, rfl, rfl, ⟨.refl _, ⟨.of_eq (congrArg (AV.own _ 0) (by simp)), ⟨.refl _, trivial⟩⟩⟩, (.refl _)⟩ ?_
    rintro ⟨⟨i_24, out_25⟩, hc1⟩
    have hc1 : laws_toJsonS_L1 rec (a_1.drop i_24) i_24 out_25 = some out_36 := hc1
    refine (show awp Try.prog true 0 _ (ofL [(0, (.lst 5 (a_1.map encGJson))), (3, (.own 0 0 out_25.length)), (4, (.int .i64 (i_24 : Int)))]) [.row 5 (out_25.map encGJson)] _ from ?_)
    rcases dropc a_1 i_24 with ⟨hie40, hd43⟩ | ⟨hlt38, x_44, hx39, hd43⟩
    · rw [hd43, laws_toJsonS_L1.eq_1] at hc1
      have hq42 := dlf hie40
      refine awp_seq ?_
      refine awp_seq ?_
      refine w_reg ?_
      refine s_do (o_mov (.int .i64 (i_24 : Int)) rfl) ?_
      refine s_do (o_mov (.lst 5 (a_1.map encGJson)) rfl) ?_
      refine s_dof (o_len (enc := encGJson) rfl) fun hl45 => ?_
      refine s_do (o_q (.bool (decide ((i_24 : Int) < (a_1.length : Int)))) rfl rfl rfl) ?_
      refine w_done ?_
      refine k_seq ?_
      refine w_condf rfl hq42 ?_
      refine w_exit ?_
      refine k_seqx ?_
      refine k_loopx ?_
      refine k_blkx ?_
      obtain rfl := os hc1
      exact ⟨[], [0], _, _, rfl, rfl, ⟨.refl _, trivial⟩, (.refl _)⟩
    · rw [hd43, laws_toJsonS_L1.eq_2] at hc1
      have hq42 := dlt hlt38
      refine awp_seq ?_
      refine awp_seq ?_
      refine w_reg ?_
      refine s_do (o_mov (.int .i64 (i_24 : Int)) rfl) ?_
      refine s_do (o_mov (.lst 5 (a_1.map encGJson)) rfl) ?_
      refine s_dof (o_len (enc := encGJson) rfl) fun hl46 => ?_
      refine s_do (o_q (.bool (decide ((i_24 : Int) < (a_1.length : Int)))) rfl rfl rfl) ?_
      refine w_done ?_
      refine k_seq ?_
      refine w_condt rfl hq42 ?_
      refine w_skip ?_
      refine k_seq ?_
      refine awp_seq ?_
      refine w_blk ?_
      refine w_reg ?_
      obtain ⟨r_47, er48, hc1⟩ := ob hc1
      obtain ⟨g49, hc1⟩ := og hc1
      obtain ⟨x_50, ex51, hc1⟩ := ob hc1
      refine s_do (o_mov (.own 0 0 out_25.length) rfl) ?_
      refine s_do (o_mov (.int .i64 (i_24 : Int)) rfl) ?_
      refine s_do (o_mov (.lst 5 (a_1.map encGJson)) rfl) ?_
      refine s_do (o_mov (.int .i64 (i_24 : Int)) rfl) ?_
      refine s_do (o_iaddrn (enc := encGJson) rfl rfl hx39) ?_
      refine s_do (o_loadeq (v := (.agg [(.int .i64 x_44.Kind), (.int .i64 x_44.N), (.str x_44.T), (.lst 1 (x_44.Keys.map AV.str)), (.lst 5 (x_44.Items.map encGJson))])) rfl (encGJson_eq _) nle rfl) ?_
      refine s_do (o_callf (v := (.agg [(.int .i64 r_47.Kind), (.int .i64 r_47.N), (.str r_47.T), (.own 1 0 r_47.Keys.length), (.own 2 0 r_47.Items.length)])) (h' := [.row 1 (r_47.Keys.map AV.str), .row 5 (r_47.Items.map encGJson)]) (hrec _ _ er48) rfl (.cons (.of_eq (encGJson_eq x_44).symm) .nil) (by simp only [openV, openVs, List.length_map, encGJson_eq, List.nil_append, List.append_nil, List.cons_append]; rfl)) ?_
      refine s_do (o_iaddrownn rfl rfl g49 rfl rfl) ?_
      refine s_do0 (o_storeroweq (v' := (.agg [(.int .i64 r_47.Kind), (.int .i64 r_47.N), (.str r_47.T), (.lst 1 (r_47.Keys.map AV.str)), (.lst 5 (r_47.Items.map encGJson))])) (e' := r_47) rfl rfl ex51 (encGJson_eq _) rfl rfl (by simp only [tk, tko, List.take_length]) (by decide) (fun _ => by decide) ⟨rfl, nle⟩ (.of_eq (encGJson_eq r_47).symm) rfl) ?_
      refine w_done ?_
      refine k_blk ?_
      refine k_seq ?_
      refine w_reg ?_
      refine s_do (o_mov (.int .i64 (i_24 : Int)) rfl) ?_
      refine s_do (o_q (.int .i64 (w64 ((i_24 : Int) + 1))) rfl rfl rfl) ?_
      refine s_do (o_mov (.int .i64 (w64 ((i_24 : Int) + 1))) rfl) ?_
      refine w_done ?_
      exact k_loopn ⟨((i_24 + 1), out_25.set i_24 r_47), hc1⟩ (mul hlt38) ⟨[], [0], _, _, rfl, rfl, ⟨.refl _, ⟨.of_eq (congrArg (AV.own _ 0) (by simp)), ⟨.of_eq (congrArg (AV.int _) (w64_incr hlt38 hl46)), trivial⟩⟩⟩, (.refl _)⟩
  · refine awp_seq ?_
    refine w_reg ?_
    refine s_do (o_mov (.own 0 0 out_36.length) rfl) ?_
    refine s_do (o_mov (.own 0 0 out_36.length) rfl) ?_
    refine w_done ?_
    refine k_seq ?_
    refine w_ret ?_
    obtain rfl := os hf
    exact r_fresh ⟨trivial, trivial⟩ rfl (by decide) (.of_eq (congrArg (AV.lst _) (tk (enc := encGJson) out_36)))

/- laws.toJson -/
def c49 : ACode :=
 (.seq (.reg (.q ⟨(some 1), none, .box 5 (.t 0)⟩
 (.q ⟨(some 2), none, .box 5 (.c (.agg [(.int .i64 0), (.int .i64 0), (.str []), .nil, .nil]))⟩
 .done)))
 (.seq (.reg (.q ⟨(some 3), none, .box 5 (.c (.agg [(.int .i64 0), (.int .i64 0), (.str []), .nil, .nil]))⟩
 .done))
 (.seq (.reg (.q ⟨(some 4), none, .faddr 0 (.t 1)⟩
 (.q ⟨(some 5), none, .load 1 false (.t 4)⟩
 (.q ⟨(some 6), none, .faddr 0 (.t 3)⟩
 (.q ⟨none, none, .store 1 (.t 6) (.t 5)⟩
 .done)))))
 (.seq (.reg (.q ⟨(some 7), none, .faddr 1 (.t 1)⟩
 (.q ⟨(some 8), none, .load 1 false (.t 7)⟩
 (.q ⟨(some 9), none, .faddr 1 (.t 3)⟩
 (.q ⟨none, none, .store 1 (.t 9) (.t 8)⟩
 .done)))))
 (.seq (.reg (.q ⟨(some 10), none, .faddr 2 (.t 1)⟩
 (.q ⟨(some 11), none, .load 1 false (.t 10)⟩
 (.q ⟨(some 12), none, .faddr 2 (.t 3)⟩
 (.q ⟨none, none, .store 1 (.t 12) (.t 11)⟩
 .done)))))
 (.seq (.reg (.q ⟨(some 13), none, .faddr 3 (.t 1)⟩
 (.q ⟨(some 14), none, .load 1 false (.t 13)⟩
 (.q ⟨(some 15), none, .call 123 [(.t 14)]⟩
 (.q ⟨(some 16), none, .faddr 3 (.t 3)⟩
 (.q ⟨none, none, .store 1 (.t 16) (.t 15)⟩
 .done))))))
 (.seq (.reg (.q ⟨(some 17), none, .faddr 4 (.t 1)⟩
 (.q ⟨(some 18), none, .load 1 false (.t 17)⟩
 (.q ⟨(some 19), none, .call 124 [(.t 18)]⟩
 (.q ⟨(some 20), none, .faddr 4 (.t 3)⟩
 (.q ⟨none, none, .store 1 (.t 20) (.t 19)⟩
 .done))))))
 (.seq (.reg (.q ⟨(some 21), none, .load 5 true (.t 3)⟩
 (.q ⟨none, none, .store 5 (.t 2) (.t 21)⟩
 .done)))
 .ret))))))))
theorem fc49 : fcomp Try.prog Try.f49 = some (c49.erase, [.load 5 true (.t 2)], 22) := by kernel_rfl
def laws_toJson_B (rec : (GJson → Option GJson)) (a_1 : GJson) : Option GJson :=
    (laws_toStringS a_1.Keys).bind fun r_2 =>
    (laws_toJsonS rec a_1.Items).bind fun r_4 =>
    some (⟨a_1.Kind, a_1.N, a_1.T, r_2, r_4⟩ : GJson)
theorem w_laws_toJson_B (rec : (GJson → Option GJson)) (hrec : ∀ a0 r, rec a0 = some r → CallOK Try.prog 49 .fresh [(encGJson a0)] (encGJson r)) (a_1 : GJson) (r : GJson) (hf : laws_toJson_B rec a_1 = some r) : CallOK Try.prog 49 .fresh [(encGJson a_1)] (encGJson r) := by
  refine CallOK.of_awp mixed Try.func49 fc49 nle ?_
  rw [argT_eq]
  rw [encGJson_eq a_1]
  unfold laws_toJson_B at hf
  unfold c49
  refine (show awp Try.prog true 0 _ (ofL [(0, (.agg [(.int .i64 a_1.Kind), (.int .i64 a_1.N), (.str a_1.T), (.lst 1 (a_1.Keys.map AV.str)), (.lst 5 (a_1.Items.map encGJson))]))]) [] _ from ?_)
  refine awp_seq ?_
  refine w_reg ?_
  refine s_do (o_box (j := 0) (c := (.agg [(.int .i64 a_1.Kind), (.int .i64 a_1.N), (.str a_1.T), (.lst 1 (a_1.Keys.map AV.str)), (.lst 5 (a_1.Items.map encGJson))])) rfl trivial rfl rfl) ?_
  refine s_do (o_box (j := 1) (c := (.agg [(.int .i64 0), (.int .i64 0), (.str []), .nil, .nil])) rfl trivial rfl rfl) ?_
  refine w_done ?_
  refine k_seq ?_
  refine awp_seq ?_
  refine w_reg ?_
  refine s_do (o_box (j := 2) (c := (.agg [(.int .i64 0), (.int .i64 0), (.str []), .nil, .nil])) rfl trivial rfl rfl) ?_
  refine w_done ?_
  refine k_seq ?_
  refine awp_seq ?_
  refine w_reg ?_
  refine s_do (o_q (.ptr 0 0 0) rfl trivial rfl) ?_
  refine s_do (o_q (.int .i64 a_1.Kind) rfl nle rfl) ?_
  refine s_do (o_q (.ptr 2 0 0) rfl trivial rfl) ?_
  refine s_do0 (o_storebox (v := (.int .i64 a_1.Kind)) (y' := (.agg [(.int .i64 a_1.Kind), (.int .i64 0), (.str []), .nil, .nil])) rfl rfl rfl trivial ⟨rfl, nle⟩ ⟨⟨rfl, trivial⟩, trivial⟩ rfl) ?_
  refine w_done ?_
  refine k_seq ?_
  refine awp_seq ?_
  refine w_reg ?_
  refine s_do (o_q (.ptr 0 0 1) rfl trivial rfl) ?_
  refine s_do (o_q (.int .i64 a_1.N) rfl nle rfl) ?_
  refine s_do (o_q (.ptr 2 0 1) rfl trivial rfl) ?_
  refine s_do0 (o_storebox (v := (.int .i64 a_1.N)) (y' := (.agg [(.int .i64 a_1.Kind), (.int .i64 a_1.N), (.str []), .nil, .nil])) rfl rfl rfl trivial ⟨rfl, nle⟩ ⟨⟨rfl, trivial⟩, trivial⟩ rfl) ?_
  refine w_done ?_
  refine k_seq ?_
  refine awp_seq ?_
  refine w_reg ?_
  refine s_do (o_q (.ptr 0 0 2) rfl trivial rfl) ?_
  refine s_do (o_q (.str a_1.T) rfl nle rfl) ?_
  refine s_do (o_q (.ptr 2 0 2) rfl trivial rfl) ?_
  refine s_do0 (o_storebox (v := (.str a_1.T)) (y' := (.agg [(.int .i64 a_1.Kind), (.int .i64 a_1.N), (.str a_1.T), .nil, .nil])) rfl rfl rfl trivial ⟨rfl, nle⟩ ⟨⟨rfl, trivial⟩, trivial⟩ rfl) ?_
  refine w_done ?_
  refine k_seq ?_
  refine awp_seq ?_
  refine w_reg ?_
  obtain ⟨r_2, er3, hf⟩ := ob hf
  refine s_do (o_q (.ptr 0 0 3) rfl trivial rfl) ?_
  refine s_do (o_q (.lst 1 (a_1.Keys.map AV.str)) rfl nle rfl) ?_
  refine s_do (o_callf (v := (.own 3 0 r_2.length)) (h' := [.row 1 (r_2.map AV.str)]) (w_laws_toStringS _ _ er3) rfl (.refl _) (by simp only [openV, openVs, List.length_map, List.nil_append, List.append_nil, List.cons_append]; rfl)) ?_
  refine s_do (o_q (.ptr 2 0 3) rfl trivial rfl) ?_
  refine s_do0 (o_storebox (v := (.own 3 0 r_2.length)) (y' := (.agg [(.int .i64 a_1.Kind), (.int .i64 a_1.N), (.str a_1.T), (.own 3 0 r_2.length), .nil])) rfl rfl rfl trivial ⟨rfl, nle⟩ ⟨⟨rfl, trivial⟩, trivial⟩ rfl) ?_
  refine w_done ?_
  refine k_seq ?_
  refine awp_seq ?_
  refine w_reg ?_
  obtain ⟨r_4, er5, hf⟩ := ob hf
  refine s_do (o_q (.ptr 0 0 4) rfl trivial rfl) ?_
  refine s_do (o_q (.lst 5 (a_1.Items.map encGJson)) rfl nle rfl) ?_
  refine s_do (o_callf (v := (.own 4 0 r_4.length)) (h' := [.row 5 (r_4.map encGJson)]) (w_laws_toJsonS rec hrec _ _ er5) rfl (.refl _) (by simp only [openV, openVs, List.length_map, List.nil_append, List.append_nil, List.cons_append]; rfl)) ?_
  refine s_do (o_q (.ptr 2 0 4) rfl trivial rfl) ?_
  refine s_do0 (o_storebox (v := (.own 4 0 r_4.length)) (y' := (.agg [(.int .i64 a_1.Kind), (.int .i64 a_1.N), (.str a_1.T), (.own 3 0 r_2.length), (.own 4 0 r_4.length)])) rfl rfl rfl trivial ⟨rfl, nle⟩ ⟨⟨rfl, trivial⟩, trivial⟩ rfl) ?_
  refine w_done ?_
  refine k_seq ?_
  refine awp_seq ?_
  refine w_reg ?_
  refine s_do (o_q (.agg [(.int .i64 a_1.Kind), (.int .i64 a_1.N), (.str a_1.T), (.own 3 0 r_2.length), (.own 4 0 r_4.length)]) rfl nle rfl) ?_
  refine s_do0 (o_storebox (v := (.agg [(.int .i64 a_1.Kind), (.int .i64 a_1.N), (.str a_1.T), (.own 3 0 r_2.length), (.own 4 0 r_4.length)])) (y' := (.agg [(.int .i64 a_1.Kind), (.int .i64 a_1.N), (.str a_1.T), (.own 3 0 r_2.length), (.own 4 0 r_4.length)])) rfl rfl rfl trivial ⟨rfl, nle⟩ ⟨⟨rfl, trivial⟩, ⟨⟨rfl, trivial⟩, ⟨⟨rfl, trivial⟩, ⟨⟨rfl, trivial⟩, ⟨⟨rfl, trivial⟩, trivial⟩⟩⟩⟩⟩ rfl) ?_
  refine w_done ?_
  refine k_seq ?_
  refine w_ret ?_
  obtain rfl := os hf
  exact r_fresh ⟨nle, trivial⟩ rfl (by decide) (leJ (x := (⟨a_1.Kind, a_1.N, a_1.T, r_2, r_4⟩ : GJson)) (.agg (.cons (.refl _) (.cons (.refl _) (.cons (.refl _) (.cons (.of_eq (congrArg (AV.lst _) (tk (enc := AV.str) r_2))) (.cons (.of_eq (congrArg (AV.lst _) (tk (enc := encGJson) r_4))) .nil)))))))
def laws_toJson : Nat → GJson → Option GJson
  | 0, _ => none
  | k + 1, a_1 => laws_toJson_B (laws_toJson k) a_1
theorem w_laws_toJson : ∀ (k : Nat) (a_1 : GJson) (r : GJson), laws_toJson k a_1 = some r → CallOK Try.prog 49 .fresh [(encGJson a_1)] (encGJson r)
  | 0, a_1, r, h => by rw [laws_toJson.eq_1] at h; cases h
  | k + 1, a_1, r, h => by
    rw [laws_toJson.eq_2] at h
    exact w_laws_toJson_B _ (w_laws_toJson k) a_1 r h

/- spec.l01In -/
def c81 : ACode :=
 (.seq (.reg (.q ⟨(some 6), none, .mov (.c (.bool false))⟩
 .done))
 (.seq (.reg (.q ⟨(some 7), none, .mov (.t 1)⟩
 (.q ⟨(some 8), none, .mov (.t 0)⟩
 (.q ⟨(some 9), none, .bin .leq (.t 7) (.t 8)⟩
 (.q ⟨(some 10), none, .mov (.t 9)⟩
 (.q ⟨(some 11), (some (10, true)), .mov (.t 0)⟩
 (.q ⟨(some 12), (some (10, true)), .mov (.t 2)⟩
 (.q ⟨(some 13), (some (10, true)), .bin .leq (.t 11) (.t 12)⟩
 (.q ⟨(some 14), none, .pick (.t 10) (.t 13) (.c (.bool false))⟩
 (.q ⟨(some 6), none, .mov (.t 14)⟩
 .done))))))))))
 .ret))
theorem fc81 : fcomp Try.prog Try.f81 = some (c81.erase, [.mov (.t 6)], 15) := by kernel_rfl
def spec_l01In (n_1 : Int) (low_2 : Int) (high_3 : Int) : Option Bool :=
    if (decide (low_2 ≤ n_1)) then
    some (decide (n_1 ≤ high_3))
    else
    some false
theorem w_spec_l01In (n_1 : Int) (low_2 : Int) (high_3 : Int) (r : Bool) (hf : spec_l01In n_1 low_2 high_3 = some r) : CallOK Try.prog 81 .flat [(.int .i64 n_1), (.int .i64 low_2), (.int .i64 high_3)] (.bool r) := by
  refine CallOK.of_awp mixed Try.func81 fc81 nle ?_
  rw [argT_eq]
  unfold spec_l01In at hf
  unfold c81
  refine (show awp Try.prog false 0 _ (ofL [(0, (.int .i64 n_1)), (1, (.int .i64 low_2)), (2, (.int .i64 high_3))]) [] _ from ?_)
  refine awp_seq ?_
  refine w_reg ?_
  refine s_do (o_mov (.bool false) rfl) ?_
  refine w_done ?_
  refine k_seq ?_
  refine awp_seq ?_
  refine w_reg ?_
  rcases oi hf with ⟨c4, hf⟩ | ⟨c4, hf⟩
  · refine s_do (o_mov (.int .i64 low_2) rfl) ?_
    refine s_do (o_mov (.int .i64 n_1) rfl) ?_
    refine s_do (o_q (.bool (decide (low_2 ≤ n_1))) rfl rfl rfl) ?_
    refine s_do (o_mov (.bool (decide (low_2 ≤ n_1))) rfl) ?_
    refine s_lit (s := 10) (b := true) rfl c4 ?_
    refine s_on rfl ?_
    refine s_do (o_mov (.int .i64 n_1) rfl) ?_
    refine s_on rfl ?_
    refine s_do (o_mov (.int .i64 high_3) rfl) ?_
    refine s_on rfl ?_
    refine s_do (o_q (.bool (decide (n_1 ≤ high_3))) rfl rfl rfl) ?_
    refine s_do (o_q (.bool (decide (n_1 ≤ high_3))) rfl trivial rfl) ?_
    refine s_do (o_mov (.bool (decide (n_1 ≤ high_3))) rfl) ?_
    refine w_done ?_
    refine k_seq ?_
    refine w_ret ?_
    obtain rfl := os hf
    exact r_flat ⟨trivial, trivial⟩ rfl (.refl _)
  · refine s_do (o_mov (.int .i64 low_2) rfl) ?_
    refine s_do (o_mov (.int .i64 n_1) rfl) ?_
    refine s_do (o_q (.bool (decide (low_2 ≤ n_1))) rfl rfl rfl) ?_
    refine s_do (o_mov (.bool (decide (low_2 ≤ n_1))) rfl) ?_
    refine s_lit (s := 10) (b := false) rfl (bf c4) ?_
    refine s_off rfl rfl ?_
    refine s_off rfl rfl ?_
    refine s_off rfl rfl ?_
    refine s_do (o_q (.bool false) rfl trivial rfl) ?_
    refine s_do (o_mov (.bool false) rfl) ?_
    refine w_done ?_
    refine k_seq ?_
    refine w_ret ?_
    obtain rfl := os hf
    exact r_flat ⟨trivial, trivial⟩ rfl (.refl _)

/- spec.l01Text -/
def c169 : ACode :=
 (.seq (.reg (.q ⟨(some 2), none, .mov (.c (.bool false))⟩
 .done))
 (.seq (.seq (.reg (.q ⟨(some 3), none, .mov (.c (.int .i64 0))⟩
 .done))
 (.block 0 (.loop (.seq (.seq (.reg (.q ⟨(some 4), none, .mov (.t 3)⟩
 (.q ⟨(some 5), none, .mov (.t 0)⟩
 (.q ⟨(some 6), none, .lenS (.t 5)⟩
 (.q ⟨(some 7), none, .bin .lss (.t 4) (.t 6)⟩
 .done)))))
 (.cond (.t 7) .skip
 (.exit 0)))
 (.seq (.block 1 (.seq (.reg (.q ⟨(some 10), none, .mov (.t 0)⟩
 (.q ⟨(some 11), none, .mov (.t 3)⟩
 (.q ⟨(some 12), none, .idxs (.t 10) (.t 11)⟩
 (.q ⟨(some 13), none, .bin .lss (.t 12) (.c (.int .u8 32))⟩
 (.q ⟨(some 14), none, .mov (.t 13)⟩
 (.q ⟨(some 15), (some (14, false)), .mov (.t 0)⟩
 (.q ⟨(some 16), (some (14, false)), .mov (.t 3)⟩
 (.q ⟨(some 17), (some (14, false)), .idxs (.t 15) (.t 16)⟩
 (.q ⟨(some 18), (some (14, false)), .bin .gtr (.t 17) (.c (.int .u8 126))⟩
 (.q ⟨(some 19), none, .pick (.t 14) (.c (.bool true)) (.t 18)⟩
 .done)))))))))))
 (.cut (.cond (.t 19) (.seq (.reg (.q ⟨(some 2), none, .mov (.c (.bool false))⟩
 .done))
 .ret)
 .skip))))
 (.reg (.q ⟨(some 8), none, .mov (.t 3)⟩
 (.q ⟨(some 9), none, .bin .add (.t 8) (.c (.int .i64 1))⟩
 (.q ⟨(some 3), none, .mov (.t 9)⟩
 .done)))))))))
 (.cut (.seq (.reg (.q ⟨(some 20), none, .mov (.t 0)⟩
 (.q ⟨(some 21), none, .lenS (.t 20)⟩
 (.q ⟨(some 22), none, .bin .leq (.t 21) (.c (.int .i64 200))⟩
 (.q ⟨(some 2), none, .mov (.t 22)⟩
 .done)))))
 .ret))))
theorem fc169 : fcomp Try.prog Try.f169 = some (c169.erase, [.mov (.t 2)], 23) := by kernel_rfl
def spec_l01Text_L1  : List UInt8 → Option (Fl Bool Unit)
  | [] =>
    some (.go ())
  | x_57 :: xs =>
    ((if (decide ((x_57.toNat : Int) < 32)) then
    some true
    else
    some (decide ((x_57.toNat : Int) > 126)) : Option Bool)).bind fun s19_61 =>
    if s19_61 then
    some (.ret false)
    else
    spec_l01Text_L1 xs 

def spec_l01Text (t_1 : Str) : Option Bool :=
    (spec_l01Text_L1 t_1 ).bind fun q => (match q with
    | .ret r => some r
    | .go _ =>
    some (decide ((t_1.length : Int) ≤ 200)))
theorem w_spec_l01Text (t_1 : Str) (r : Bool) (hf : spec_l01Text t_1 = some r) : CallOK Try.prog 169 .flat [(.str t_1)] (.bool r) := by
  refine CallOK.of_awp mixed Try.func169 fc169 nle ?_
  rw [argT_eq]
  unfold spec_l01Text at hf
  unfold c169
  refine (show awp Try.prog false 0 _ (ofL [(0, (.str t_1))]) [] _ from ?_)
  refine awp_seq ?_
  refine w_reg ?_
  refine s_do (o_mov (.bool false) rfl) ?_
  refine w_done ?_
  refine k_seq ?_
  refine awp_seq ?_
  refine awp_seq ?_
  refine w_reg ?_
  refine s_do (o_mov (.int .i64 0) rfl) ?_
  refine w_done ?_
  refine k_seq ?_
  obtain ⟨p50, hb1, hf⟩ := ob hf
  refine awp_cutx (X := {q : Unit // p50 = .go q}) (fun q => ([(0, (.str t_1))], [])) ?_ ?_
  · refine awp_loop (X := {q : Nat // spec_l01Text_L1 (t_1.drop q)  = some p50}) (fun q => ([(0, (.str t_1)), (3, (.int .i64 (q.1 : Int)))], [])) (fun q => t_1.length - q.1) ⟨0, hb1⟩ ⟨[], [], _, _, rfl, rfl, ⟨.refl _, ⟨.refl _, trivial⟩⟩, (.refl _)⟩ ?_
    rintro ⟨i_33, hc1⟩
    have hc1 : spec_l01Text_L1 (t_1.drop i_33)  = some p50 := hc1
    refine (show awp Try.prog false 0 _ (ofL [(0, (.str t_1)), (3, (.int .i64 (i_33 : Int)))]) [] _ from ?_)
    rcases dropc t_1 i_33 with ⟨hie53, hd56⟩ | ⟨hlt51, x_57, hx52, hd56⟩
    · rw [hd56, spec_l01Text_L1.eq_1] at hc1
      have hq55 := dlf hie53
      refine awp_seq ?_
      refine awp_seq ?_
      refine w_reg ?_
      refine s_do (o_mov (.int .i64 (i_33 : Int)) rfl) ?_
      refine s_do (o_mov (.str t_1) rfl) ?_
      refine s_dof (o_lenS rfl) fun hl58 => ?_
      refine s_do (o_q (.bool (decide ((i_33 : Int) < (t_1.length : Int)))) rfl rfl rfl) ?_
      refine w_done ?_
      refine k_seq ?_
      refine w_condf rfl hq55 ?_
      refine w_exit ?_
      refine k_seqx ?_
      refine k_loopx ?_
      refine k_blkx ?_
      obtain rfl := os hc1
      exact k_cutn ⟨_, rfl⟩ ⟨[], [], _, _, rfl, rfl, ⟨.refl _, trivial⟩, (.refl _)⟩
    · rw [hd56, spec_l01Text_L1.eq_2] at hc1
      have hq55 := dlt hlt51
      refine awp_seq ?_
      refine awp_seq ?_
      refine w_reg ?_
      refine s_do (o_mov (.int .i64 (i_33 : Int)) rfl) ?_
      refine s_do (o_mov (.str t_1) rfl) ?_
      refine s_dof (o_lenS rfl) fun hl59 => ?_
      refine s_do (o_q (.bool (decide ((i_33 : Int) < (t_1.length : Int)))) rfl rfl rfl) ?_
      refine w_done ?_
      refine k_seq ?_
      refine w_condt rfl hq55 ?_
      refine w_skip ?_
      refine k_seq ?_
      refine awp_seq ?_
      refine w_blk ?_
      refine awp_seq ?_
      obtain ⟨s19_61, hb2, hc1⟩ := ob hc1
      refine awp_cut ([(0, (.str t_1)), (3, (.int .i64 (i_33 : Int))), (19, (.bool s19_61))], []) ?_ ?_
      · refine w_reg ?_
        rcases oi hb2 with ⟨c63, hb2⟩ | ⟨c63, hb2⟩
        · refine s_do (o_mov (.str t_1) rfl) ?_
          refine s_do (o_mov (.int .i64 (i_33 : Int)) rfl) ?_
          refine s_do (o_idxsn rfl rfl hx52) ?_
          refine s_do (o_q (.bool (decide ((x_57.toNat : Int) < 32))) rfl rfl rfl) ?_
          refine s_do (o_mov (.bool (decide ((x_57.toNat : Int) < 32))) rfl) ?_
          refine s_lit (s := 14) (b := true) rfl c63 ?_
          refine s_off rfl rfl ?_
          refine s_off rfl rfl ?_
          refine s_off rfl rfl ?_
          refine s_off rfl rfl ?_
          refine s_do (o_q (.bool true) rfl trivial rfl) ?_
          refine w_done ?_
          obtain rfl := os hb2
          exact ⟨[], [], _, _, rfl, rfl, ⟨.refl _, ⟨.refl _, ⟨.refl _, trivial⟩⟩⟩, (.refl _)⟩
        · refine s_do (o_mov (.str t_1) rfl) ?_
          refine s_do (o_mov (.int .i64 (i_33 : Int)) rfl) ?_
          refine s_do (o_idxsn rfl rfl hx52) ?_
          refine s_do (o_q (.bool (decide ((x_57.toNat : Int) < 32))) rfl rfl rfl) ?_
          refine s_do (o_mov (.bool (decide ((x_57.toNat : Int) < 32))) rfl) ?_
          refine s_lit (s := 14) (b := false) rfl (bf c63) ?_
          refine s_on rfl ?_
          refine s_do (o_mov (.str t_1) rfl) ?_
          refine s_on rfl ?_
          refine s_do (o_mov (.int .i64 (i_33 : Int)) rfl) ?_
          refine s_on rfl ?_
          refine s_do (o_idxsn rfl rfl hx52) ?_
          refine s_on rfl ?_
          refine s_do (o_q (.bool (decide ((x_57.toNat : Int) > 126))) rfl rfl rfl) ?_
          refine s_do (o_q (.bool (decide ((x_57.toNat : Int) > 126))) rfl trivial rfl) ?_
          refine w_done ?_
          obtain rfl := os hb2
          exact ⟨[], [], _, _, rfl, rfl, ⟨.refl _, ⟨.refl _, ⟨.refl _, trivial⟩⟩⟩, (.refl _)⟩
      · rcases oi hc1 with ⟨c64, hc1⟩ | ⟨c64, hc1⟩
        · refine w_condt rfl c64 ?_
          refine awp_seq ?_
          refine w_reg ?_
          refine s_do (o_mov (.bool false) rfl) ?_
          refine w_done ?_
          refine k_seq ?_
          refine w_ret ?_
          obtain rfl := os hc1
          obtain rfl := os hf
          exact r_flat ⟨trivial, trivial⟩ rfl (.refl _)
        · refine w_condf rfl (bf c64) ?_
          refine w_skip ?_
          refine k_blk ?_
          refine k_seq ?_
          refine w_reg ?_
          refine s_do (o_mov (.int .i64 (i_33 : Int)) rfl) ?_
          refine s_do (o_q (.int .i64 (w64 ((i_33 : Int) + 1))) rfl rfl rfl) ?_
          refine s_do (o_mov (.int .i64 (w64 ((i_33 : Int) + 1))) rfl) ?_
          refine w_done ?_
          exact k_loopn ⟨(i_33 + 1), hc1⟩ (mul hlt51) ⟨[], [], _, _, rfl, rfl, ⟨.refl _, ⟨.of_eq (congrArg (AV.int _) (w64_incr hlt51 hl59)), trivial⟩⟩, (.refl _)⟩
  · rintro ⟨_, rfl⟩
    refine awp_seq ?_
    refine w_reg ?_
    refine s_do (o_mov (.str t_1) rfl) ?_
    refine s_dof (o_lenS rfl) fun hl65 => ?_
    refine s_do (o_q (.bool (decide ((t_1.length : Int) ≤ 200))) rfl rfl rfl) ?_
    refine s_do (o_mov (.bool (decide ((t_1.length : Int) ≤ 200))) rfl) ?_
    refine w_done ?_
    refine k_seq ?_
    refine w_ret ?_
    obtain rfl := os hf
    exact r_flat ⟨trivial, trivial⟩ rfl (.refl _)

/- spec.l01OK -/
def c181 : ACode :=
 (.seq (.reg (.q ⟨(some 2), none, .box 5 (.t 0)⟩
 (.q ⟨(some 4), none, .mov (.c (.int .i64 0))⟩
 (.q ⟨(some 5), none, .mov (.c (.bool false))⟩
 .done))))
 (.seq (.seq (.reg (.q ⟨(some 11), none, .mov (.t 1)⟩
 (.q ⟨(some 12), none, .bin .eql (.t 11) (.c (.int .i64 0))⟩
 .done)))
 (.cond (.t 12) (.seq (.reg (.q ⟨(some 4), none, .mov (.c (.int .i64 0))⟩
 (.q ⟨(some 5), none, .mov (.c (.bool false))⟩
 .done)))
 .ret)
 .skip))
 (.seq (.reg (.q ⟨(some 13), none, .faddr 3 (.t 2)⟩
 (.q ⟨(some 14), none, .load 1 false (.t 13)⟩
 (.q ⟨(some 15), none, .len (.t 14)⟩
 (.q ⟨(some 16), none, .bin .eql (.t 15) (.c (.int .i64 0))⟩
 (.q ⟨(some 17), none, .mov (.t 16)⟩
 (.q ⟨(some 18), (some (17, true)), .faddr 4 (.t 2)⟩
 (.q ⟨(some 19), (some (17, true)), .load 1 false (.t 18)⟩
 (.q ⟨(some 20), (some (17, true)), .len (.t 19)⟩
 (.q ⟨(some 21), (some (17, true)), .bin .eql (.t 20) (.c (.int .i64 0))⟩
 (.q ⟨(some 22), none, .pick (.t 17) (.t 21) (.c (.bool false))⟩
 (.q ⟨(some 6), none, .mov (.t 22)⟩
 .done))))))))))))
 (.cut (.seq (.seq (.reg (.q ⟨(some 23), none, .faddr 0 (.t 2)⟩
 (.q ⟨(some 24), none, .load 1 false (.t 23)⟩
 .done)))
 (.block 0 (.seq (.reg (.q ⟨(some 26), none, .bin .eql (.t 24) (.c (.int .i64 0))⟩
 (.q ⟨(some 25), none, .mov (.t 26)⟩
 .done)))
 (.cond (.t 25) (.seq (.reg (.q ⟨(some 27), none, .mov (.t 6)⟩
 (.q ⟨(some 28), none, .mov (.t 27)⟩
 (.q ⟨(some 29), (some (28, true)), .faddr 1 (.t 2)⟩
 (.q ⟨(some 30), (some (28, true)), .load 1 false (.t 29)⟩
 (.q ⟨(some 31), (some (28, true)), .bin .eql (.t 30) (.c (.int .i64 0))⟩
 (.q ⟨(some 32), none, .pick (.t 28) (.t 31) (.c (.bool false))⟩
 (.q ⟨(some 33), none, .mov (.t 32)⟩
 (.q ⟨(some 34), (some (33, true)), .faddr 2 (.t 2)⟩
 (.q ⟨(some 35), (some (33, true)), .load 1 false (.t 34)⟩
 (.q ⟨(some 36), (some (33, true)), .bin .eql (.t 35) (.c (.str []))⟩
 (.q ⟨(some 37), none, .pick (.t 33) (.t 36) (.c (.bool false))⟩
 (.q ⟨(some 4), none, .mov (.c (.int .i64 1))⟩
 (.q ⟨(some 5), none, .mov (.t 37)⟩
 .done))))))))))))))
 .ret)
 (.seq (.reg (.q ⟨(some 39), none, .bin .eql (.t 24) (.c (.int .i64 1))⟩
 (.q ⟨(some 38), none, .mov (.t 39)⟩
 .done)))
 (.cond (.t 38) (.seq (.reg (.q ⟨(some 40), none, .mov (.t 6)⟩
 (.q ⟨(some 41), none, .mov (.t 40)⟩
 (.q ⟨(some 42), (some (41, true)), .faddr 1 (.t 2)⟩
 (.q ⟨(some 43), (some (41, true)), .load 1 false (.t 42)⟩
 (.l ⟨(some 44), (some (41, true)), .call 81 [(.t 43), (.c (.int .i64 0)), (.c (.int .i64 1))]⟩ []
 (.q ⟨(some 45), none, .pick (.t 41) (.t 44) (.c (.bool false))⟩
 (.q ⟨(some 46), none, .mov (.t 45)⟩
 (.q ⟨(some 47), (some (46, true)), .faddr 2 (.t 2)⟩
 (.q ⟨(some 48), (some (46, true)), .load 1 false (.t 47)⟩
 (.q ⟨(some 49), (some (46, true)), .bin .eql (.t 48) (.c (.str []))⟩
 (.q ⟨(some 50), none, .pick (.t 46) (.t 49) (.c (.bool false))⟩
 (.q ⟨(some 4), none, .mov (.c (.int .i64 1))⟩
 (.q ⟨(some 5), none, .mov (.t 50)⟩
 .done)))))))) .non))))))
 .ret)
 (.seq (.reg (.q ⟨(some 52), none, .bin .eql (.t 24) (.c (.int .i64 2))⟩
 (.q ⟨(some 51), none, .mov (.t 52)⟩
 .done)))
 (.cond (.t 51) (.seq (.reg (.q ⟨(some 53), none, .mov (.t 6)⟩
 (.q ⟨(some 54), none, .mov (.t 53)⟩
 (.q ⟨(some 55), (some (54, true)), .faddr 1 (.t 2)⟩
 (.q ⟨(some 56), (some (54, true)), .load 1 false (.t 55)⟩
 (.l ⟨(some 57), (some (54, true)), .call 81 [(.t 56), (.c (.int .i64 (-1000000000))), (.c (.int .i64 1000000000))]⟩ []
 (.q ⟨(some 58), none, .pick (.t 54) (.t 57) (.c (.bool false))⟩
 (.q ⟨(some 59), none, .mov (.t 58)⟩
 (.q ⟨(some 60), (some (59, true)), .faddr 2 (.t 2)⟩
 (.q ⟨(some 61), (some (59, true)), .load 1 false (.t 60)⟩
 (.q ⟨(some 62), (some (59, true)), .bin .eql (.t 61) (.c (.str []))⟩
 (.q ⟨(some 63), none, .pick (.t 59) (.t 62) (.c (.bool false))⟩
 (.q ⟨(some 4), none, .mov (.c (.int .i64 1))⟩
 (.q ⟨(some 5), none, .mov (.t 63)⟩
 .done)))))))) .non))))))
 .ret)
 (.seq (.reg (.q ⟨(some 65), none, .bin .eql (.t 24) (.c (.int .i64 3))⟩
 (.q ⟨(some 64), none, .mov (.t 65)⟩
 .done)))
 (.cond (.t 64) (.seq (.reg (.q ⟨(some 66), none, .mov (.t 6)⟩
 (.q ⟨(some 67), none, .mov (.t 66)⟩
 (.q ⟨(some 68), (some (67, true)), .faddr 1 (.t 2)⟩
 (.q ⟨(some 69), (some (67, true)), .load 1 false (.t 68)⟩
 (.q ⟨(some 70), (some (67, true)), .bin .eql (.t 69) (.c (.int .i64 0))⟩
 (.q ⟨(some 71), none, .pick (.t 67) (.t 70) (.c (.bool false))⟩
 (.q ⟨(some 72), none, .mov (.t 71)⟩
 (.q ⟨(some 73), (some (72, true)), .faddr 2 (.t 2)⟩
 (.q ⟨(some 74), (some (72, true)), .load 1 false (.t 73)⟩
 (.q ⟨(some 75), (some (72, true)), .call 169 [(.t 74)]⟩
 (.q ⟨(some 76), none, .pick (.t 72) (.t 75) (.c (.bool false))⟩
 (.q ⟨(some 4), none, .mov (.c (.int .i64 1))⟩
 (.q ⟨(some 5), none, .mov (.t 76)⟩
 .done))))))))))))))
 .ret)
 .skip))))))))))
 (.seq (.seq (.reg (.q ⟨(some 77), none, .faddr 0 (.t 2)⟩
 (.q ⟨(some 78), none, .load 1 false (.t 77)⟩
 (.q ⟨(some 79), none, .bin .neq (.t 78) (.c (.int .i64 4))⟩
 (.q ⟨(some 80), none, .mov (.t 79)⟩
 (.q ⟨(some 81), (some (80, true)), .faddr 0 (.t 2)⟩
 (.q ⟨(some 82), (some (80, true)), .load 1 false (.t 81)⟩
 (.q ⟨(some 83), (some (80, true)), .bin .neq (.t 82) (.c (.int .i64 5))⟩
 (.q ⟨(some 84), none, .pick (.t 80) (.t 83) (.c (.bool false))⟩
 (.q ⟨(some 85), none, .mov (.t 84)⟩
 (.q ⟨(some 86), (some (85, false)), .faddr 1 (.t 2)⟩
 (.q ⟨(some 87), (some (85, false)), .load 1 false (.t 86)⟩
 (.q ⟨(some 88), (some (85, false)), .bin .neq (.t 87) (.c (.int .i64 0))⟩
 (.q ⟨(some 89), none, .pick (.t 85) (.c (.bool true)) (.t 88)⟩
 (.q ⟨(some 90), none, .mov (.t 89)⟩
 (.q ⟨(some 91), (some (90, false)), .faddr 2 (.t 2)⟩
 (.q ⟨(some 92), (some (90, false)), .load 1 false (.t 91)⟩
 (.q ⟨(some 93), (some (90, false)), .bin .neq (.t 92) (.c (.str []))⟩
 (.q ⟨(some 94), none, .pick (.t 90) (.c (.bool true)) (.t 93)⟩
 (.q ⟨(some 95), none, .mov (.t 94)⟩
 (.q ⟨(some 96), (some (95, false)), .faddr 0 (.t 2)⟩
 (.q ⟨(some 97), (some (95, false)), .load 1 false (.t 96)⟩
 (.q ⟨(some 98), (some (95, false)), .bin .eql (.t 97) (.c (.int .i64 4))⟩
 (.q ⟨(some 99), (some (95, false)), .mov (.t 98)⟩
 (.q ⟨(some 100), (some (99, true)), .faddr 3 (.t 2)⟩
 (.q ⟨(some 101), (some (99, true)), .load 1 false (.t 100)⟩
 (.q ⟨(some 102), (some (99, true)), .len (.t 101)⟩
 (.q ⟨(some 103), (some (99, true)), .bin .gtr (.t 102) (.c (.int .i64 0))⟩
 (.q ⟨(some 104), (some (95, false)), .pick (.t 99) (.t 103) (.c (.bool false))⟩
 (.q ⟨(some 105), none, .pick (.t 95) (.c (.bool true)) (.t 104)⟩
 (.q ⟨(some 106), none, .mov (.t 105)⟩
 (.q ⟨(some 107), (some (106, false)), .faddr 0 (.t 2)⟩
 (.q ⟨(some 108), (some (106, false)), .load 1 false (.t 107)⟩
 (.q ⟨(some 109), (some (106, false)), .bin .eql (.t 108) (.c (.int .i64 5))⟩
 (.q ⟨(some 110), (some (106, false)), .mov (.t 109)⟩
 (.q ⟨(some 111), (some (110, true)), .faddr 3 (.t 2)⟩
 (.q ⟨(some 112), (some (110, true)), .load 1 false (.t 111)⟩
 (.q ⟨(some 113), (some (110, true)), .len (.t 112)⟩
 (.q ⟨(some 114), (some (110, true)), .faddr 4 (.t 2)⟩
 (.q ⟨(some 115), (some (110, true)), .load 1 false (.t 114)⟩
 (.q ⟨(some 116), (some (110, true)), .len (.t 115)⟩
 (.q ⟨(some 117), (some (110, true)), .bin .neq (.t 113) (.t 116)⟩
 (.q ⟨(some 118), (some (106, false)), .pick (.t 110) (.t 117) (.c (.bool false))⟩
 (.q ⟨(some 119), none, .pick (.t 106) (.c (.bool true)) (.t 118)⟩
 .done))))))))))))))))))))))))))))))))))))))))))))
 (.cut (.cond (.t 119) (.seq (.reg (.q ⟨(some 4), none, .mov (.c (.int .i64 0))⟩
 (.q ⟨(some 5), none, .mov (.c (.bool false))⟩
 .done)))
 .ret)
 .skip)))
 (.seq (.reg (.q ⟨(some 7), none, .mov (.c (.int .i64 1))⟩
 .done))
 (.seq (.seq (.reg (.q ⟨(some 8), none, .mov (.c (.int .i64 0))⟩
 .done))
 (.block 1 (.loop (.seq (.seq (.reg (.q ⟨(some 120), none, .mov (.t 8)⟩
 (.q ⟨(some 121), none, .faddr 4 (.t 2)⟩
 (.q ⟨(some 122), none, .load 1 false (.t 121)⟩
 (.q ⟨(some 123), none, .len (.t 122)⟩
 (.q ⟨(some 124), none, .bin .lss (.t 120) (.t 123)⟩
 .done))))))
 (.cond (.t 124) .skip
 (.exit 1)))
 (.seq (.block 2 (.seq (.seq (.reg (.q ⟨(some 127), none, .faddr 0 (.t 2)⟩
 (.q ⟨(some 128), none, .load 1 false (.t 127)⟩
 (.q ⟨(some 129), none, .bin .eql (.t 128) (.c (.int .i64 5))⟩
 (.q ⟨(some 130), none, .mov (.t 129)⟩
 (.q ⟨(some 131), (some (130, true)), .faddr 3 (.t 2)⟩
 (.q ⟨(some 132), (some (130, true)), .load 1 false (.t 131)⟩
 (.q ⟨(some 133), (some (130, true)), .mov (.t 8)⟩
 (.q ⟨(some 134), (some (130, true)), .iaddr 1 (.t 132) (.t 133)⟩
 (.q ⟨(some 135), (some (130, true)), .load 1 false (.t 134)⟩
 (.l ⟨(some 136), (some (130, true)), .call 169 [(.t 135)]⟩ []
 (.q ⟨(some 137), (some (130, true)), .not (.t 136)⟩
 (.q ⟨(some 138), (some (130, true)), .mov (.t 137)⟩
 (.q ⟨(some 139), (some (138, false)), .mov (.t 8)⟩
 (.q ⟨(some 140), (some (138, false)), .bin .gtr (.t 139) (.c (.int .i64 0))⟩
 (.q ⟨(some 141), (some (138, false)), .mov (.t 140)⟩
 (.q ⟨(some 142), (some (141, true)), .faddr 3 (.t 2)⟩
 (.q ⟨(some 143), (some (141, true)), .load 1 false (.t 142)⟩
 (.q ⟨(some 144), (some (141, true)), .mov (.t 8)⟩
 (.q ⟨(some 145), (some (141, true)), .bin .sub (.t 144) (.c (.int .i64 1))⟩
 (.q ⟨(some 146), (some (141, true)), .iaddr 1 (.t 143) (.t 145)⟩
 (.q ⟨(some 147), (some (141, true)), .load 1 false (.t 146)⟩
 (.q ⟨(some 148), (some (141, true)), .faddr 3 (.t 2)⟩
 (.q ⟨(some 149), (some (141, true)), .load 1 false (.t 148)⟩
 (.q ⟨(some 150), (some (141, true)), .mov (.t 8)⟩
 (.q ⟨(some 151), (some (141, true)), .iaddr 1 (.t 149) (.t 150)⟩
 (.q ⟨(some 152), (some (141, true)), .load 1 false (.t 151)⟩
 (.q ⟨(some 153), (some (141, true)), .bin .geq (.t 147) (.t 152)⟩
 (.q ⟨(some 154), (some (138, false)), .pick (.t 141) (.t 153) (.c (.bool false))⟩
 (.q ⟨(some 155), (some (130, true)), .pick (.t 138) (.c (.bool true)) (.t 154)⟩
 (.q ⟨(some 156), none, .pick (.t 130) (.t 155) (.c (.bool false))⟩
 .done)))))))))))))))))))) .non)))))))))))
 (.cut (.cond (.t 156) (.seq (.reg (.q ⟨(some 4), none, .mov (.c (.int .i64 0))⟩
 (.q ⟨(some 5), none, .mov (.c (.bool false))⟩
 .done)))
 .ret)
 .skip)))
 (.seq (.reg (.q ⟨(some 158), none, .faddr 4 (.t 2)⟩
 (.q ⟨(some 159), none, .load 1 false (.t 158)⟩
 (.q ⟨(some 160), none, .mov (.t 8)⟩
 (.q ⟨(some 161), none, .iaddr 5 (.t 159) (.t 160)⟩
 (.q ⟨(some 162), none, .load 5 true (.t 161)⟩
 (.q ⟨(some 163), none, .mov (.t 1)⟩
 (.q ⟨(some 164), none, .bin .sub (.t 163) (.c (.int .i64 1))⟩
 (.q ⟨(some 165), none, .call 181 [(.t 162), (.t 164)]⟩
 (.q ⟨(some 157), none, .mov (.t 165)⟩
 (.q ⟨(some 166), none, .extract 0 (.t 157)⟩
 (.q ⟨(some 167), none, .extract 1 (.t 157)⟩
 (.q ⟨(some 9), none, .mov (.t 166)⟩
 (.q ⟨(some 10), none, .mov (.t 167)⟩
 .done))))))))))))))
 (.seq (.reg (.q ⟨(some 168), none, .mov (.t 7)⟩
 (.q ⟨(some 169), none, .mov (.t 9)⟩
 (.q ⟨(some 170), none, .bin .add (.t 168) (.t 169)⟩
 (.q ⟨(some 7), none, .mov (.t 170)⟩
 .done)))))
 (.seq (.reg (.q ⟨(some 171), none, .mov (.t 10)⟩
 (.q ⟨(some 172), none, .not (.t 171)⟩
 (.q ⟨(some 173), none, .mov (.t 172)⟩
 (.q ⟨(some 174), (some (173, false)), .mov (.t 7)⟩
 (.q ⟨(some 175), (some (173, false)), .bin .gtr (.t 174) (.c (.int .i64 400))⟩
 (.q ⟨(some 176), none, .pick (.t 173) (.c (.bool true)) (.t 175)⟩
 .done)))))))
 (.cut (.cond (.t 176) (.seq (.reg (.q ⟨(some 4), none, .mov (.c (.int .i64 0))⟩
 (.q ⟨(some 5), none, .mov (.c (.bool false))⟩
 .done)))
 .ret)
 .skip)))))))
 (.reg (.q ⟨(some 125), none, .mov (.t 8)⟩
 (.q ⟨(some 126), none, .bin .add (.t 125) (.c (.int .i64 1))⟩
 (.q ⟨(some 8), none, .mov (.t 126)⟩
 .done)))))))))
 (.cut (.seq (.reg (.q ⟨(some 177), none, .mov (.t 7)⟩
 (.q ⟨(some 4), none, .mov (.t 177)⟩
 (.q ⟨(some 5), none, .mov (.c (.bool true))⟩
 .done))))
 .ret))))))))))
theorem fc181 : fcomp Try.prog Try.f181 = some (c181.erase, [.mov (.t 4), .mov (.t 5)], 178) := by kernel_rfl
def spec_l01OK_B_L1 (j_1 : GJson) (rec : (GJson → Int → Option (Int × Bool))) (deep_2 : Int) : List GJson → Int → Nat → Option (Fl (Int × Bool) Int)
  | [], n_155, i_156 =>
    some (.go n_155)
  | x_202 :: xs, n_155, i_156 =>
    ((if (j_1.Kind == 5) then
    (idx j_1.Keys (i_156 : Int)).bind fun x_219 =>
    (spec_l01Text x_219).bind fun r_221 =>
    if (!r_221) then
    some true
    else
    if (decide ((i_156 : Int) > 0)) then
    (idx j_1.Keys (w64 ((i_156 : Int) - 1))).bind fun x_225 =>
    (idx j_1.Keys (i_156 : Int)).bind fun x_227 =>
    some (!Op.bytesLess x_225 x_227)
    else
    some false
    else
    some false : Option Bool)).bind fun s156_216 =>
    if s156_216 then
    some (.ret (0, false))
    else
    (rec x_202 (w64 (deep_2 - 1))).bind fun r_230 =>
    ((if (!r_230.2) then
    some true
    else
    some (decide (w64 (n_155 + r_230.1) > 400)) : Option Bool)).bind fun s176_233 =>
    if s176_233 then
    some (.ret (0, false))
    else
    spec_l01OK_B_L1 j_1 rec deep_2 xs (w64 (n_155 + r_230.1)) (i_156 + 1)

def spec_l01OK_B (rec : (GJson → Int → Option (Int × Bool))) (j_1 : GJson) (deep_2 : Int) : Option (Int × Bool) :=
    if (deep_2 == 0) then
    some (0, false)
    else
    ((if ((j_1.Keys.length : Int) == 0) then
    some ((j_1.Items.length : Int) == 0)
    else
    some false : Option Bool)).bind fun plain_7 =>
    if (j_1.Kind == 0) then
    if plain_7 then
    if (j_1.N == 0) then
    some (1, (j_1.T == []))
    else
    some (1, false)
    else
    some (1, false)
    else
    if (j_1.Kind == 1) then
    if plain_7 then
    (spec_l01In j_1.N 0 1).bind fun r_17 =>
    if r_17 then
    some (1, (j_1.T == []))
    else
    some (1, false)
    else
    some (1, false)
    else
    if (j_1.Kind == 2) then
    if plain_7 then
    (spec_l01In j_1.N (-1000000000) 1000000000).bind fun r_22 =>
    if r_22 then
    some (1, (j_1.T == []))
    else
    some (1, false)
    else
    some (1, false)
    else
    if (j_1.Kind == 3) then
    if plain_7 then
    if (j_1.N == 0) then
    (spec_l01Text j_1.T).bind fun r_28 =>
    some (1, r_28)
    else
    some (1, false)
    else
    some (1, false)
    else
    ((if (j_1.Kind != 4) then
    if (j_1.Kind != 5) then
    some true
    else
    if (j_1.N != 0) then
    some true
    else
    if (!(j_1.T == [])) then
    some true
    else
    if (j_1.Kind == 4) then
    if (decide ((j_1.Keys.length : Int) > 0)) then
    some true
    else
    if (j_1.Kind == 5) then
    some ((j_1.Keys.length : Int) != (j_1.Items.length : Int))
    else
    some false
    else
    if (j_1.Kind == 5) then
    some ((j_1.Keys.length : Int) != (j_1.Items.length : Int))
    else
    some false
    else
    if (j_1.N != 0) then
    some true
    else
    if (!(j_1.T == [])) then
    some true
    else
    if (j_1.Kind == 4) then
    if (decide ((j_1.Keys.length : Int) > 0)) then
    some true
    else
    if (j_1.Kind == 5) then
    some ((j_1.Keys.length : Int) != (j_1.Items.length : Int))
    else
    some false
    else
    if (j_1.Kind == 5) then
    some ((j_1.Keys.length : Int) != (j_1.Items.length : Int))
    else
    some false : Option Bool)).bind fun s119_54 =>
    if s119_54 then
    some (0, false)
    else
    (spec_l01OK_B_L1 j_1 rec deep_2 j_1.Items 1 0).bind fun q => (match q with
    | .ret r => some r
    | .go n_194 =>
    some (n_194, true))
theorem w_spec_l01OK_B (rec : (GJson → Int → Option (Int × Bool))) (hrec : ∀ a0 a1 r, rec a0 a1 = some r → CallOK Try.prog 181 .flat [(encGJson a0), (.int .i64 a1)] (.tup [(.int .i64 r.1), (.bool r.2)])) (j_1 : GJson) (deep_2 : Int) (r : (Int × Bool)) (hf : spec_l01OK_B rec j_1 deep_2 = some r) : CallOK Try.prog 181 .flat [(encGJson j_1), (.int .i64 deep_2)] (.tup [(.int .i64 r.1), (.bool r.2)]) := by
  refine CallOK.of_awp mixed Try.func181 fc181 nle ?_
  rw [argT_eq]
  rw [encGJson_eq j_1]
  unfold spec_l01OK_B at hf
  unfold c181
  refine (show awp Try.prog false 0 _ (ofL [(0, (.agg [(.int .i64 j_1.Kind), (.int .i64 j_1.N), (.str j_1.T), (.lst 1 (j_1.Keys.map AV.str)), (.lst 5 (j_1.Items.map encGJson))])), (1, (.int .i64 deep_2))]) [] _ from ?_)
  refine awp_seq ?_
  refine w_reg ?_
  refine s_do (o_box (j := 0) (c := (.agg [(.int .i64 j_1.Kind), (.int .i64 j_1.N), (.str j_1.T), (.lst 1 (j_1.Keys.map AV.str)), (.lst 5 (j_1.Items.map encGJson))])) rfl trivial rfl rfl) ?_
  refine s_do (o_mov (.int .i64 0) rfl) ?_
  refine s_do (o_mov (.bool false) rfl) ?_
  refine w_done ?_
  refine k_seq ?_
  refine awp_seq ?_
  refine awp_seq ?_
  refine w_reg ?_
  refine s_do (o_mov (.int .i64 deep_2) rfl) ?_
  refine s_do (o_q (.bool (deep_2 == 0)) rfl rfl rfl) ?_
  refine w_done ?_
  refine k_seq ?_
  rcases oi hf with ⟨c3, hf⟩ | ⟨c3, hf⟩
  · refine w_condt rfl c3 ?_
    refine awp_seq ?_
    refine w_reg ?_
    refine s_do (o_mov (.int .i64 0) rfl) ?_
    refine s_do (o_mov (.bool false) rfl) ?_
    refine w_done ?_
    refine k_seq ?_
    refine w_ret ?_
    obtain rfl := os hf
    exact r_flat ⟨trivial, ⟨trivial, trivial⟩⟩ rfl (.refl _)
  · refine w_condf rfl (bf c3) ?_
    refine w_skip ?_
    refine k_seq ?_
    refine awp_seq ?_
    obtain ⟨plain_7, hb1, hf⟩ := ob hf
    refine awp_cut ([(1, (.int .i64 deep_2)), (2, (.ptr 0 0 0)), (6, (.bool plain_7))], [.box 5 (.agg [(.int .i64 j_1.Kind), (.int .i64 j_1.N), (.str j_1.T), (.lst 1 (j_1.Keys.map AV.str)), (.lst 5 (j_1.Items.map encGJson))])]) ?_ ?_
    · refine w_reg ?_
      rcases oi hb1 with ⟨c10, hb1⟩ | ⟨c10, hb1⟩
      · refine s_do (o_q (.ptr 0 0 3) rfl trivial rfl) ?_
        refine s_do (o_q (.lst 1 (j_1.Keys.map AV.str)) rfl nle rfl) ?_
        refine s_dof (o_len (enc := AV.str) rfl) fun hl9 => ?_
        refine s_do (o_q (.bool ((j_1.Keys.length : Int) == 0)) rfl rfl rfl) ?_
        refine s_do (o_mov (.bool ((j_1.Keys.length : Int) == 0)) rfl) ?_
        refine s_lit (s := 17) (b := true) rfl c10 ?_
        refine s_on rfl ?_
        refine s_do (o_q (.ptr 0 0 4) rfl trivial rfl) ?_
        refine s_on rfl ?_
        refine s_do (o_q (.lst 5 (j_1.Items.map encGJson)) rfl nle rfl) ?_
        refine s_on rfl ?_
        refine s_dof (o_len (enc := encGJson) rfl) fun hl11 => ?_
        refine s_on rfl ?_
        refine s_do (o_q (.bool ((j_1.Items.length : Int) == 0)) rfl rfl rfl) ?_
        refine s_do (o_q (.bool ((j_1.Items.length : Int) == 0)) rfl trivial rfl) ?_
        refine s_do (o_mov (.bool ((j_1.Items.length : Int) == 0)) rfl) ?_
        refine w_done ?_
        obtain rfl := os hb1
        exact ⟨[], [0], _, _, rfl, rfl, ⟨.refl _, ⟨.refl _, ⟨.refl _, trivial⟩⟩⟩, (.refl _)⟩
      · refine s_do (o_q (.ptr 0 0 3) rfl trivial rfl) ?_
        refine s_do (o_q (.lst 1 (j_1.Keys.map AV.str)) rfl nle rfl) ?_
        refine s_dof (o_len (enc := AV.str) rfl) fun hl9 => ?_
        refine s_do (o_q (.bool ((j_1.Keys.length : Int) == 0)) rfl rfl rfl) ?_
        refine s_do (o_mov (.bool ((j_1.Keys.length : Int) == 0)) rfl) ?_
        refine s_lit (s := 17) (b := false) rfl (bf c10) ?_
        refine s_off rfl rfl ?_
        refine s_off rfl rfl ?_
        refine s_off rfl rfl ?_
        refine s_off rfl rfl ?_
        refine s_do (o_q (.bool false) rfl trivial rfl) ?_
        refine s_do (o_mov (.bool false) rfl) ?_
        refine w_done ?_
        obtain rfl := os hb1
        exact ⟨[], [0], _, _, rfl, rfl, ⟨.refl _, ⟨.refl _, ⟨.refl _, trivial⟩⟩⟩, (.refl _)⟩
    · refine awp_seq ?_
      refine awp_seq ?_
      refine w_reg ?_
      refine s_do (o_q (.ptr 0 0 0) rfl trivial rfl) ?_
      refine s_do (o_q (.int .i64 j_1.Kind) rfl nle rfl) ?_
      refine w_done ?_
      refine k_seq ?_
      refine w_blk ?_
      refine awp_seq ?_
      refine w_reg ?_
      refine s_do (o_q (.bool (j_1.Kind == 0)) rfl rfl rfl) ?_
      refine s_do (o_mov (.bool (j_1.Kind == 0)) rfl) ?_
      refine w_done ?_
      refine k_seq ?_
      rcases oi hf with ⟨c12, hf⟩ | ⟨c12, hf⟩
      · refine w_condt rfl c12 ?_
        refine awp_seq ?_
        refine w_reg ?_
        refine s_do (o_mov (.bool plain_7) rfl) ?_
        refine s_do (o_mov (.bool plain_7) rfl) ?_
        rcases oi hf with ⟨c13, hf⟩ | ⟨c13, hf⟩
        · refine s_lit (s := 28) (b := true) rfl c13 ?_
          refine s_on rfl ?_
          refine s_do (o_q (.ptr 0 0 1) rfl trivial rfl) ?_
          refine s_on rfl ?_
          refine s_do (o_q (.int .i64 j_1.N) rfl nle rfl) ?_
          refine s_on rfl ?_
          refine s_do (o_q (.bool (j_1.N == 0)) rfl rfl rfl) ?_
          refine s_do (o_q (.bool (j_1.N == 0)) rfl trivial rfl) ?_
          refine s_do (o_mov (.bool (j_1.N == 0)) rfl) ?_
          rcases oi hf with ⟨c14, hf⟩ | ⟨c14, hf⟩
          · refine s_lit (s := 33) (b := true) rfl c14 ?_
            refine s_on rfl ?_
            refine s_do (o_q (.ptr 0 0 2) rfl trivial rfl) ?_
            refine s_on rfl ?_
            refine s_do (o_q (.str j_1.T) rfl nle rfl) ?_
            refine s_on rfl ?_
            refine s_do (o_q (.bool (j_1.T == [])) rfl trivial rfl) ?_
            refine s_do (o_q (.bool (j_1.T == [])) rfl trivial rfl) ?_
            refine s_do (o_mov (.int .i64 1) rfl) ?_
            refine s_do (o_mov (.bool (j_1.T == [])) rfl) ?_
            refine w_done ?_
            refine k_seq ?_
            refine w_ret ?_
            obtain rfl := os hf
            exact r_flat ⟨trivial, ⟨trivial, trivial⟩⟩ rfl (.refl _)
          · refine s_lit (s := 33) (b := false) rfl (bf c14) ?_
            refine s_off rfl rfl ?_
            refine s_off rfl rfl ?_
            refine s_off rfl rfl ?_
            refine s_do (o_q (.bool false) rfl trivial rfl) ?_
            refine s_do (o_mov (.int .i64 1) rfl) ?_
            refine s_do (o_mov (.bool false) rfl) ?_
            refine w_done ?_
            refine k_seq ?_
            refine w_ret ?_
            obtain rfl := os hf
            exact r_flat ⟨trivial, ⟨trivial, trivial⟩⟩ rfl (.refl _)
        · refine s_lit (s := 28) (b := false) rfl (bf c13) ?_
          refine s_off rfl rfl ?_
          refine s_off rfl rfl ?_
          refine s_off rfl rfl ?_
          refine s_do (o_q (.bool false) rfl trivial rfl) ?_
          refine s_do (o_mov (.bool false) rfl) ?_
          refine s_off rfl rfl ?_
          refine s_off rfl rfl ?_
          refine s_off rfl rfl ?_
          refine s_do (o_q (.bool false) rfl trivial rfl) ?_
          refine s_do (o_mov (.int .i64 1) rfl) ?_
          refine s_do (o_mov (.bool false) rfl) ?_
          refine w_done ?_
          refine k_seq ?_
          refine w_ret ?_
          obtain rfl := os hf
          exact r_flat ⟨trivial, ⟨trivial, trivial⟩⟩ rfl (.refl _)
      · refine w_condf rfl (bf c12) ?_
        refine awp_seq ?_
        refine w_reg ?_
        refine s_do (o_q (.bool (j_1.Kind == 1)) rfl rfl rfl) ?_
        refine s_do (o_mov (.bool (j_1.Kind == 1)) rfl) ?_
        refine w_done ?_
        refine k_seq ?_
        rcases oi hf with ⟨c15, hf⟩ | ⟨c15, hf⟩
        · refine w_condt rfl c15 ?_
          refine awp_seq ?_
          refine w_reg ?_
          refine s_do (o_mov (.bool plain_7) rfl) ?_
          refine s_do (o_mov (.bool plain_7) rfl) ?_
          rcases oi hf with ⟨c16, hf⟩ | ⟨c16, hf⟩
          · refine s_lit (s := 41) (b := true) rfl c16 ?_
            refine s_on rfl ?_
            refine s_do (o_q (.ptr 0 0 1) rfl trivial rfl) ?_
            refine s_on rfl ?_
            refine s_do (o_q (.int .i64 j_1.N) rfl nle rfl) ?_
            refine s_onl rfl ?_
            obtain ⟨r_17, er18, hf⟩ := ob hf
            refine s_dol (o_call (w_spec_l01In _ _ _ _ er18) rfl (.refl _) rfl) a_same trivial ?_
            refine s_do (o_q (.bool r_17) rfl trivial rfl) ?_
            refine s_do (o_mov (.bool r_17) rfl) ?_
            rcases oi hf with ⟨c19, hf⟩ | ⟨c19, hf⟩
            · refine s_lit (s := 46) (b := true) rfl c19 ?_
              refine s_on rfl ?_
              refine s_do (o_q (.ptr 0 0 2) rfl trivial rfl) ?_
              refine s_on rfl ?_
              refine s_do (o_q (.str j_1.T) rfl nle rfl) ?_
              refine s_on rfl ?_
              refine s_do (o_q (.bool (j_1.T == [])) rfl trivial rfl) ?_
              refine s_do (o_q (.bool (j_1.T == [])) rfl trivial rfl) ?_
              refine s_do (o_mov (.int .i64 1) rfl) ?_
              refine s_do (o_mov (.bool (j_1.T == [])) rfl) ?_
              refine w_done ?_
              refine k_seq ?_
              refine w_ret ?_
              obtain rfl := os hf
              exact r_flat ⟨trivial, ⟨trivial, trivial⟩⟩ rfl (.refl _)
            · refine s_lit (s := 46) (b := false) rfl (bf c19) ?_
              refine s_off rfl rfl ?_
              refine s_off rfl rfl ?_
              refine s_off rfl rfl ?_
              refine s_do (o_q (.bool false) rfl trivial rfl) ?_
              refine s_do (o_mov (.int .i64 1) rfl) ?_
              refine s_do (o_mov (.bool false) rfl) ?_
              refine w_done ?_
              refine k_seq ?_
              refine w_ret ?_
              obtain rfl := os hf
              exact r_flat ⟨trivial, ⟨trivial, trivial⟩⟩ rfl (.refl _)
          · refine s_lit (s := 41) (b := false) rfl (bf c16) ?_
            refine s_off rfl rfl ?_
            refine s_off rfl rfl ?_
            refine s_offl rfl rfl trivial ?_
            refine s_do (o_q (.bool false) rfl trivial rfl) ?_
            refine s_do (o_mov (.bool false) rfl) ?_
            refine s_off rfl rfl ?_
            refine s_off rfl rfl ?_
            refine s_off rfl rfl ?_
            refine s_do (o_q (.bool false) rfl trivial rfl) ?_
            refine s_do (o_mov (.int .i64 1) rfl) ?_
            refine s_do (o_mov (.bool false) rfl) ?_
            refine w_done ?_
            refine k_seq ?_
            refine w_ret ?_
            obtain rfl := os hf
            exact r_flat ⟨trivial, ⟨trivial, trivial⟩⟩ rfl (.refl _)
        · refine w_condf rfl (bf c15) ?_
          refine awp_seq ?_
          refine w_reg ?_
          refine s_do (o_q (.bool (j_1.Kind == 2)) rfl rfl rfl) ?_
          refine s_do (o_mov (.bool (j_1.Kind == 2)) rfl) ?_
          refine w_done ?_
          refine k_seq ?_
          rcases oi hf with ⟨c20, hf⟩ | ⟨c20, hf⟩
          · refine w_condt rfl c20 ?_
            refine awp_seq ?_
            refine w_reg ?_
            refine s_do (o_mov (.bool plain_7) rfl) ?_
            refine s_do (o_mov (.bool plain_7) rfl) ?_
            rcases oi hf with ⟨c21, hf⟩ | ⟨c21, hf⟩
            · refine s_lit (s := 54) (b := true) rfl c21 ?_
              refine s_on rfl ?_
              refine s_do (o_q (.ptr 0 0 1) rfl trivial rfl) ?_
              refine s_on rfl ?_
              refine s_do (o_q (.int .i64 j_1.N) rfl nle rfl) ?_
              refine s_onl rfl ?_
              obtain ⟨r_22, er23, hf⟩ := ob hf
              refine s_dol (o_call (w_spec_l01In _ _ _ _ er23) rfl (.refl _) rfl) a_same trivial ?_
              refine s_do (o_q (.bool r_22) rfl trivial rfl) ?_
              refine s_do (o_mov (.bool r_22) rfl) ?_
              rcases oi hf with ⟨c24, hf⟩ | ⟨c24, hf⟩
              · refine s_lit (s := 59) (b := true) rfl c24 ?_
                refine s_on rfl ?_
                refine s_do (o_q (.ptr 0 0 2) rfl trivial rfl) ?_
                refine s_on rfl ?_
                refine s_do (o_q (.str j_1.T) rfl nle rfl) ?_
                refine s_on rfl ?_
                refine s_do (o_q (.bool (j_1.T == [])) rfl trivial rfl) ?_
                refine s_do (o_q (.bool (j_1.T == [])) rfl trivial rfl) ?_
                refine s_do (o_mov (.int .i64 1) rfl) ?_
                refine s_do (o_mov (.bool (j_1.T == [])) rfl) ?_
                refine w_done ?_
                refine k_seq ?_
                refine w_ret ?_
                obtain rfl := os hf
                exact r_flat ⟨trivial, ⟨trivial, trivial⟩⟩ rfl (.refl _)
              · refine s_lit (s := 59) (b := false) rfl (bf c24) ?_
                refine s_off rfl rfl ?_
                refine s_off rfl rfl ?_
                refine s_off rfl rfl ?_
                refine s_do (o_q (.bool false) rfl trivial rfl) ?_
                refine s_do (o_mov (.int .i64 1) rfl) ?_
                refine s_do (o_mov (.bool false) rfl) ?_
                refine w_done ?_
                refine k_seq ?_
                refine w_ret ?_
                obtain rfl := os hf
                exact r_flat ⟨trivial, ⟨trivial, trivial⟩⟩ rfl (.refl _)
            · refine s_lit (s := 54) (b := false) rfl (bf c21) ?_
              refine s_off rfl rfl ?_
              refine s_off rfl rfl ?_
              refine s_offl rfl rfl trivial ?_
              refine s_do (o_q (.bool false) rfl trivial rfl) ?_
              refine s_do (o_mov (.bool false) rfl) ?_
              refine s_off rfl rfl ?_
              refine s_off rfl rfl ?_
              refine s_off rfl rfl ?_
              refine s_do (o_q (.bool false) rfl trivial rfl) ?_
              refine s_do (o_mov (.int .i64 1) rfl) ?_
              refine s_do (o_mov (.bool false) rfl) ?_
              refine w_done ?_
              refine k_seq ?_
              refine w_ret ?_
              obtain rfl := os hf
              exact r_flat ⟨trivial, ⟨trivial, trivial⟩⟩ rfl (.refl _)
          · refine w_condf rfl (bf c20) ?_
            refine awp_seq ?_
            refine w_reg ?_
            refine s_do (o_q (.bool (j_1.Kind == 3)) rfl rfl rfl) ?_
            refine s_do (o_mov (.bool (j_1.Kind == 3)) rfl) ?_
            refine w_done ?_
            refine k_seq ?_
            rcases oi hf with ⟨c25, hf⟩ | ⟨c25, hf⟩
            · refine w_condt rfl c25 ?_
              refine awp_seq ?_
              refine w_reg ?_
              refine s_do (o_mov (.bool plain_7) rfl) ?_
              refine s_do (o_mov (.bool plain_7) rfl) ?_
              rcases oi hf with ⟨c26, hf⟩ | ⟨c26, hf⟩
              · refine s_lit (s := 67) (b := true) rfl c26 ?_
                refine s_on rfl ?_
                refine s_do (o_q (.ptr 0 0 1) rfl trivial rfl) ?_
                refine s_on rfl ?_
                refine s_do (o_q (.int .i64 j_1.N) rfl nle rfl) ?_
                refine s_on rfl ?_
                refine s_do (o_q (.bool (j_1.N == 0)) rfl rfl rfl) ?_
                refine s_do (o_q (.bool (j_1.N == 0)) rfl trivial rfl) ?_
                refine s_do (o_mov (.bool (j_1.N == 0)) rfl) ?_
                rcases oi hf with ⟨c27, hf⟩ | ⟨c27, hf⟩
                · refine s_lit (s := 72) (b := true) rfl c27 ?_
                  refine s_on rfl ?_
                  refine s_do (o_q (.ptr 0 0 2) rfl trivial rfl) ?_
                  refine s_on rfl ?_
                  refine s_do (o_q (.str j_1.T) rfl nle rfl) ?_
                  refine s_on rfl ?_
                  obtain ⟨r_28, er29, hf⟩ := ob hf
                  refine s_do (o_call (w_spec_l01Text _ _ er29) rfl (.refl _) rfl) ?_
                  refine s_do (o_q (.bool r_28) rfl trivial rfl) ?_
                  refine s_do (o_mov (.int .i64 1) rfl) ?_
                  refine s_do (o_mov (.bool r_28) rfl) ?_
                  refine w_done ?_
                  refine k_seq ?_
                  refine w_ret ?_
                  obtain rfl := os hf
                  exact r_flat ⟨trivial, ⟨trivial, trivial⟩⟩ rfl (.refl _)
                · refine s_lit (s := 72) (b := false) rfl (bf c27) ?_
                  refine s_off rfl rfl ?_
                  refine s_off rfl rfl ?_
                  refine s_off rfl rfl ?_
                  refine s_do (o_q (.bool false) rfl trivial rfl) ?_
                  refine s_do (o_mov (.int .i64 1) rfl) ?_
                  refine s_do (o_mov (.bool false) rfl) ?_
                  refine w_done ?_
                  refine k_seq ?_
                  refine w_ret ?_
                  obtain rfl := os hf
                  exact r_flat ⟨trivial, ⟨trivial, trivial⟩⟩ rfl (.refl _)
              · refine s_lit (s := 67) (b := false) rfl (bf c26) ?_
                refine s_off rfl rfl ?_
                refine s_off rfl rfl ?_
                refine s_off rfl rfl ?_
                refine s_do (o_q (.bool false) rfl trivial rfl) ?_
                refine s_do (o_mov (.bool false) rfl) ?_
                refine s_off rfl rfl ?_
                refine s_off rfl rfl ?_
                refine s_off rfl rfl ?_
                refine s_do (o_q (.bool false) rfl trivial rfl) ?_
                refine s_do (o_mov (.int .i64 1) rfl) ?_
                refine s_do (o_mov (.bool false) rfl) ?_
                refine w_done ?_
                refine k_seq ?_
                refine w_ret ?_
                obtain rfl := os hf
                exact r_flat ⟨trivial, ⟨trivial, trivial⟩⟩ rfl (.refl _)
            · refine w_condf rfl (bf c25) ?_
              refine w_skip ?_
              refine k_blk ?_
              refine k_seq ?_
              refine awp_seq ?_
              refine awp_seq ?_
              obtain ⟨s119_54, hb1, hf⟩ := ob hf
              refine awp_cut ([(1, (.int .i64 deep_2)), (2, (.ptr 0 0 0)), (119, (.bool s119_54))], [.box 5 (.agg [(.int .i64 j_1.Kind), (.int .i64 j_1.N), (.str j_1.T), (.lst 1 (j_1.Keys.map AV.str)), (.lst 5 (j_1.Items.map encGJson))])]) ?_ ?_
              · refine w_reg ?_
                refine s_do (o_q (.ptr 0 0 0) rfl trivial rfl) ?_
                refine s_do (o_q (.int .i64 j_1.Kind) rfl nle rfl) ?_
                refine s_do (o_q (.bool (j_1.Kind != 4)) rfl rfl rfl) ?_
                refine s_do (o_mov (.bool (j_1.Kind != 4)) rfl) ?_
                rcases oi hb1 with ⟨c56, hb1⟩ | ⟨c56, hb1⟩
                · refine s_lit (s := 80) (b := true) rfl c56 ?_
                  refine s_on rfl ?_
                  refine s_do (o_q (.ptr 0 0 0) rfl trivial rfl) ?_
                  refine s_on rfl ?_
                  refine s_do (o_q (.int .i64 j_1.Kind) rfl nle rfl) ?_
                  refine s_on rfl ?_
                  refine s_do (o_q (.bool (j_1.Kind != 5)) rfl rfl rfl) ?_
                  refine s_do (o_q (.bool (j_1.Kind != 5)) rfl trivial rfl) ?_
                  refine s_do (o_mov (.bool (j_1.Kind != 5)) rfl) ?_
                  rcases oi hb1 with ⟨c57, hb1⟩ | ⟨c57, hb1⟩
                  · refine s_lit (s := 85) (b := true) rfl c57 ?_
                    refine s_off rfl rfl ?_
                    refine s_off rfl rfl ?_
                    refine s_off rfl rfl ?_
                    refine s_do (o_q (.bool true) rfl trivial rfl) ?_
                    refine s_do (o_mov (.bool true) rfl) ?_
                    refine s_off rfl rfl ?_
                    refine s_off rfl rfl ?_
                    refine s_off rfl rfl ?_
                    refine s_do (o_q (.bool true) rfl trivial rfl) ?_
                    refine s_do (o_mov (.bool true) rfl) ?_
                    refine s_off rfl rfl ?_
                    refine s_off rfl rfl ?_
                    refine s_off rfl rfl ?_
                    refine s_off rfl rfl ?_
                    refine s_offs rfl ?_
                    refine s_offs rfl ?_
                    refine s_offs rfl ?_
                    refine s_offs rfl ?_
                    refine s_off rfl rfl ?_
                    refine s_do (o_q (.bool true) rfl trivial rfl) ?_
                    refine s_do (o_mov (.bool true) rfl) ?_
                    refine s_off rfl rfl ?_
                    refine s_off rfl rfl ?_
                    refine s_off rfl rfl ?_
                    refine s_off rfl rfl ?_
                    refine s_offs rfl ?_
                    refine s_offs rfl ?_
                    refine s_offs rfl ?_
                    refine s_offs rfl ?_
                    refine s_offs rfl ?_
                    refine s_offs rfl ?_
                    refine s_offs rfl ?_
                    refine s_off rfl rfl ?_
                    refine s_do (o_q (.bool true) rfl trivial rfl) ?_
                    refine w_done ?_
                    obtain rfl := os hb1
                    exact ⟨[], [0], _, _, rfl, rfl, ⟨.refl _, ⟨.refl _, ⟨.refl _, trivial⟩⟩⟩, (.refl _)⟩
                  · refine s_lit (s := 85) (b := false) rfl (bf c57) ?_
                    refine s_on rfl ?_
                    refine s_do (o_q (.ptr 0 0 1) rfl trivial rfl) ?_
                    refine s_on rfl ?_
                    refine s_do (o_q (.int .i64 j_1.N) rfl nle rfl) ?_
                    refine s_on rfl ?_
                    refine s_do (o_q (.bool (j_1.N != 0)) rfl rfl rfl) ?_
                    refine s_do (o_q (.bool (j_1.N != 0)) rfl trivial rfl) ?_
                    refine s_do (o_mov (.bool (j_1.N != 0)) rfl) ?_
                    rcases oi hb1 with ⟨c58, hb1⟩ | ⟨c58, hb1⟩
                    · refine s_lit (s := 90) (b := true) rfl c58 ?_
                      refine s_off rfl rfl ?_
                      refine s_off rfl rfl ?_
                      refine s_off rfl rfl ?_
                      refine s_do (o_q (.bool true) rfl trivial rfl) ?_
                      refine s_do (o_mov (.bool true) rfl) ?_
                      refine s_off rfl rfl ?_
                      refine s_off rfl rfl ?_
                      refine s_off rfl rfl ?_
                      refine s_off rfl rfl ?_
                      refine s_offs rfl ?_
                      refine s_offs rfl ?_
                      refine s_offs rfl ?_
                      refine s_offs rfl ?_
                      refine s_off rfl rfl ?_
                      refine s_do (o_q (.bool true) rfl trivial rfl) ?_
                      refine s_do (o_mov (.bool true) rfl) ?_
                      refine s_off rfl rfl ?_
                      refine s_off rfl rfl ?_
                      refine s_off rfl rfl ?_
                      refine s_off rfl rfl ?_
                      refine s_offs rfl ?_
                      refine s_offs rfl ?_
                      refine s_offs rfl ?_
                      refine s_offs rfl ?_
                      refine s_offs rfl ?_
                      refine s_offs rfl ?_
                      refine s_offs rfl ?_
                      refine s_off rfl rfl ?_
                      refine s_do (o_q (.bool true) rfl trivial rfl) ?_
                      refine w_done ?_
                      obtain rfl := os hb1
                      exact ⟨[], [0], _, _, rfl, rfl, ⟨.refl _, ⟨.refl _, ⟨.refl _, trivial⟩⟩⟩, (.refl _)⟩
                    · refine s_lit (s := 90) (b := false) rfl (bf c58) ?_
                      refine s_on rfl ?_
                      refine s_do (o_q (.ptr 0 0 2) rfl trivial rfl) ?_
                      refine s_on rfl ?_
                      refine s_do (o_q (.str j_1.T) rfl nle rfl) ?_
                      refine s_on rfl ?_
                      refine s_do (o_q (.bool (!(j_1.T == []))) rfl trivial rfl) ?_
                      refine s_do (o_q (.bool (!(j_1.T == []))) rfl trivial rfl) ?_
                      refine s_do (o_mov (.bool (!(j_1.T == []))) rfl) ?_
                      rcases oi hb1 with ⟨c59, hb1⟩ | ⟨c59, hb1⟩
                      · refine s_lit (s := 95) (b := true) rfl c59 ?_
                        refine s_off rfl rfl ?_
                        refine s_off rfl rfl ?_
                        refine s_off rfl rfl ?_
                        refine s_off rfl rfl ?_
                        refine s_offs rfl ?_
                        refine s_offs rfl ?_
                        refine s_offs rfl ?_
                        refine s_offs rfl ?_
                        refine s_off rfl rfl ?_
                        refine s_do (o_q (.bool true) rfl trivial rfl) ?_
                        refine s_do (o_mov (.bool true) rfl) ?_
                        refine s_off rfl rfl ?_
                        refine s_off rfl rfl ?_
                        refine s_off rfl rfl ?_
                        refine s_off rfl rfl ?_
                        refine s_offs rfl ?_
                        refine s_offs rfl ?_
                        refine s_offs rfl ?_
                        refine s_offs rfl ?_
                        refine s_offs rfl ?_
                        refine s_offs rfl ?_
                        refine s_offs rfl ?_
                        refine s_off rfl rfl ?_
                        refine s_do (o_q (.bool true) rfl trivial rfl) ?_
                        refine w_done ?_
                        obtain rfl := os hb1
                        exact ⟨[], [0], _, _, rfl, rfl, ⟨.refl _, ⟨.refl _, ⟨.refl _, trivial⟩⟩⟩, (.refl _)⟩
                      · refine s_lit (s := 95) (b := false) rfl (bf c59) ?_
                        refine s_on rfl ?_
                        refine s_do (o_q (.ptr 0 0 0) rfl trivial rfl) ?_
                        refine s_on rfl ?_
                        refine s_do (o_q (.int .i64 j_1.Kind) rfl nle rfl) ?_
                        refine s_on rfl ?_
                        refine s_do (o_q (.bool (j_1.Kind == 4)) rfl rfl rfl) ?_
                        refine s_on rfl ?_
                        refine s_do (o_mov (.bool (j_1.Kind == 4)) rfl) ?_
                        rcases oi hb1 with ⟨c60, hb1⟩ | ⟨c60, hb1⟩
                        · refine s_lit (s := 99) (b := true) rfl c60 ?_
                          refine s_on rfl ?_
                          refine s_do (o_q (.ptr 0 0 3) rfl trivial rfl) ?_
                          refine s_on rfl ?_
                          refine s_do (o_q (.lst 1 (j_1.Keys.map AV.str)) rfl nle rfl) ?_
                          refine s_on rfl ?_
                          refine s_dof (o_len (enc := AV.str) rfl) fun hl61 => ?_
                          refine s_on rfl ?_
                          refine s_do (o_q (.bool (decide ((j_1.Keys.length : Int) > 0))) rfl rfl rfl) ?_
                          refine s_on rfl ?_
                          refine s_do (o_q (.bool (decide ((j_1.Keys.length : Int) > 0))) rfl trivial rfl) ?_
                          refine s_do (o_q (.bool (decide ((j_1.Keys.length : Int) > 0))) rfl trivial rfl) ?_
                          refine s_do (o_mov (.bool (decide ((j_1.Keys.length : Int) > 0))) rfl) ?_
                          rcases oi hb1 with ⟨c62, hb1⟩ | ⟨c62, hb1⟩
                          · refine s_lit (s := 106) (b := true) rfl c62 ?_
                            refine s_off rfl rfl ?_
                            refine s_off rfl rfl ?_
                            refine s_off rfl rfl ?_
                            refine s_off rfl rfl ?_
                            refine s_offs rfl ?_
                            refine s_offs rfl ?_
                            refine s_offs rfl ?_
                            refine s_offs rfl ?_
                            refine s_offs rfl ?_
                            refine s_offs rfl ?_
                            refine s_offs rfl ?_
                            refine s_off rfl rfl ?_
                            refine s_do (o_q (.bool true) rfl trivial rfl) ?_
                            refine w_done ?_
                            obtain rfl := os hb1
                            exact ⟨[], [0], _, _, rfl, rfl, ⟨.refl _, ⟨.refl _, ⟨.refl _, trivial⟩⟩⟩, (.refl _)⟩
                          · refine s_lit (s := 106) (b := false) rfl (bf c62) ?_
                            refine s_on rfl ?_
                            refine s_do (o_q (.ptr 0 0 0) rfl trivial rfl) ?_
                            refine s_on rfl ?_
                            refine s_do (o_q (.int .i64 j_1.Kind) rfl nle rfl) ?_
                            refine s_on rfl ?_
                            refine s_do (o_q (.bool (j_1.Kind == 5)) rfl rfl rfl) ?_
                            refine s_on rfl ?_
                            refine s_do (o_mov (.bool (j_1.Kind == 5)) rfl) ?_
                            rcases oi hb1 with ⟨c63, hb1⟩ | ⟨c63, hb1⟩
                            · refine s_lit (s := 110) (b := true) rfl c63 ?_
                              refine s_on rfl ?_
                              refine s_do (o_q (.ptr 0 0 3) rfl trivial rfl) ?_
                              refine s_on rfl ?_
                              refine s_do (o_q (.lst 1 (j_1.Keys.map AV.str)) rfl nle rfl) ?_
                              refine s_on rfl ?_
                              refine s_dof (o_len (enc := AV.str) rfl) fun hl64 => ?_
                              refine s_on rfl ?_
                              refine s_do (o_q (.ptr 0 0 4) rfl trivial rfl) ?_
                              refine s_on rfl ?_
                              refine s_do (o_q (.lst 5 (j_1.Items.map encGJson)) rfl nle rfl) ?_
                              refine s_on rfl ?_
                              refine s_dof (o_len (enc := encGJson) rfl) fun hl65 => ?_
                              refine s_on rfl ?_
                              refine s_do (o_q (.bool ((j_1.Keys.length : Int) != (j_1.Items.length : Int))) rfl rfl rfl) ?_
                              refine s_on rfl ?_
                              refine s_do (o_q (.bool ((j_1.Keys.length : Int) != (j_1.Items.length : Int))) rfl trivial rfl) ?_
                              refine s_do (o_q (.bool ((j_1.Keys.length : Int) != (j_1.Items.length : Int))) rfl trivial rfl) ?_
                              refine w_done ?_
                              obtain rfl := os hb1
                              exact ⟨[], [0], _, _, rfl, rfl, ⟨.refl _, ⟨.refl _, ⟨.refl _, trivial⟩⟩⟩, (.refl _)⟩
                            · refine s_lit (s := 110) (b := false) rfl (bf c63) ?_
                              refine s_off rfl rfl ?_
                              refine s_off rfl rfl ?_
                              refine s_off rfl rfl ?_
                              refine s_off rfl rfl ?_
                              refine s_off rfl rfl ?_
                              refine s_off rfl rfl ?_
                              refine s_off rfl rfl ?_
                              refine s_on rfl ?_
                              refine s_do (o_q (.bool false) rfl trivial rfl) ?_
                              refine s_do (o_q (.bool false) rfl trivial rfl) ?_
                              refine w_done ?_
                              obtain rfl := os hb1
                              exact ⟨[], [0], _, _, rfl, rfl, ⟨.refl _, ⟨.refl _, ⟨.refl _, trivial⟩⟩⟩, (.refl _)⟩
                        · refine s_lit (s := 99) (b := false) rfl (bf c60) ?_
                          refine s_off rfl rfl ?_
                          refine s_off rfl rfl ?_
                          refine s_off rfl rfl ?_
                          refine s_off rfl rfl ?_
                          refine s_on rfl ?_
                          refine s_do (o_q (.bool false) rfl trivial rfl) ?_
                          refine s_do (o_q (.bool false) rfl trivial rfl) ?_
                          refine s_do (o_mov (.bool false) rfl) ?_
                          refine s_on rfl ?_
                          refine s_do (o_q (.ptr 0 0 0) rfl trivial rfl) ?_
                          refine s_on rfl ?_
                          refine s_do (o_q (.int .i64 j_1.Kind) rfl nle rfl) ?_
                          refine s_on rfl ?_
                          refine s_do (o_q (.bool (j_1.Kind == 5)) rfl rfl rfl) ?_
                          refine s_on rfl ?_
                          refine s_do (o_mov (.bool (j_1.Kind == 5)) rfl) ?_
                          rcases oi hb1 with ⟨c66, hb1⟩ | ⟨c66, hb1⟩
                          · refine s_lit (s := 110) (b := true) rfl c66 ?_
                            refine s_on rfl ?_
                            refine s_do (o_q (.ptr 0 0 3) rfl trivial rfl) ?_
                            refine s_on rfl ?_
                            refine s_do (o_q (.lst 1 (j_1.Keys.map AV.str)) rfl nle rfl) ?_
                            refine s_on rfl ?_
                            refine s_dof (o_len (enc := AV.str) rfl) fun hl67 => ?_
                            refine s_on rfl ?_
                            refine s_do (o_q (.ptr 0 0 4) rfl trivial rfl) ?_
                            refine s_on rfl ?_
                            refine s_do (o_q (.lst 5 (j_1.Items.map encGJson)) rfl nle rfl) ?_
                            refine s_on rfl ?_
                            refine s_dof (o_len (enc := encGJson) rfl) fun hl68 => ?_
                            refine s_on rfl ?_
                            refine s_do (o_q (.bool ((j_1.Keys.length : Int) != (j_1.Items.length : Int))) rfl rfl rfl) ?_
                            refine s_on rfl ?_
                            refine s_do (o_q (.bool ((j_1.Keys.length : Int) != (j_1.Items.length : Int))) rfl trivial rfl) ?_
                            refine s_do (o_q (.bool ((j_1.Keys.length : Int) != (j_1.Items.length : Int))) rfl trivial rfl) ?_
                            refine w_done ?_
                            obtain rfl := os hb1
                            exact ⟨[], [0], _, _, rfl, rfl, ⟨.refl _, ⟨.refl _, ⟨.refl _, trivial⟩⟩⟩, (.refl _)⟩
                          · refine s_lit (s := 110) (b := false) rfl (bf c66) ?_
                            refine s_off rfl rfl ?_
                            refine s_off rfl rfl ?_
                            refine s_off rfl rfl ?_
                            refine s_off rfl rfl ?_
                            refine s_off rfl rfl ?_
                            refine s_off rfl rfl ?_
                            refine s_off rfl rfl ?_
                            refine s_on rfl ?_
                            refine s_do (o_q (.bool false) rfl trivial rfl) ?_
                            refine s_do (o_q (.bool false) rfl trivial rfl) ?_
                            refine w_done ?_
                            obtain rfl := os hb1
                            exact ⟨[], [0], _, _, rfl, rfl, ⟨.refl _, ⟨.refl _, ⟨.refl _, trivial⟩⟩⟩, (.refl _)⟩
                · refine s_lit (s := 80) (b := false) rfl (bf c56) ?_
                  refine s_off rfl rfl ?_
                  refine s_off rfl rfl ?_
                  refine s_off rfl rfl ?_
                  refine s_do (o_q (.bool false) rfl trivial rfl) ?_
                  refine s_do (o_mov (.bool false) rfl) ?_
                  refine s_on rfl ?_
                  refine s_do (o_q (.ptr 0 0 1) rfl trivial rfl) ?_
                  refine s_on rfl ?_
                  refine s_do (o_q (.int .i64 j_1.N) rfl nle rfl) ?_
                  refine s_on rfl ?_
                  refine s_do (o_q (.bool (j_1.N != 0)) rfl rfl rfl) ?_
                  refine s_do (o_q (.bool (j_1.N != 0)) rfl trivial rfl) ?_
                  refine s_do (o_mov (.bool (j_1.N != 0)) rfl) ?_
                  rcases oi hb1 with ⟨c69, hb1⟩ | ⟨c69, hb1⟩
                  · refine s_lit (s := 90) (b := true) rfl c69 ?_
                    refine s_off rfl rfl ?_
                    refine s_off rfl rfl ?_
                    refine s_off rfl rfl ?_
                    refine s_do (o_q (.bool true) rfl trivial rfl) ?_
                    refine s_do (o_mov (.bool true) rfl) ?_
                    refine s_off rfl rfl ?_
                    refine s_off rfl rfl ?_
                    refine s_off rfl rfl ?_
                    refine s_off rfl rfl ?_
                    refine s_offs rfl ?_
                    refine s_offs rfl ?_
                    refine s_offs rfl ?_
                    refine s_offs rfl ?_
                    refine s_off rfl rfl ?_
                    refine s_do (o_q (.bool true) rfl trivial rfl) ?_
                    refine s_do (o_mov (.bool true) rfl) ?_
                    refine s_off rfl rfl ?_
                    refine s_off rfl rfl ?_
                    refine s_off rfl rfl ?_
                    refine s_off rfl rfl ?_
                    refine s_offs rfl ?_
                    refine s_offs rfl ?_
                    refine s_offs rfl ?_
                    refine s_offs rfl ?_
                    refine s_offs rfl ?_
                    refine s_offs rfl ?_
                    refine s_offs rfl ?_
                    refine s_off rfl rfl ?_
                    refine s_do (o_q (.bool true) rfl trivial rfl) ?_
                    refine w_done ?_
                    obtain rfl := os hb1
                    exact ⟨[], [0], _, _, rfl, rfl, ⟨.refl _, ⟨.refl _, ⟨.refl _, trivial⟩⟩⟩, (.refl _)⟩
                  · refine s_lit (s := 90) (b := false) rfl (bf c69) ?_
                    refine s_on rfl ?_
                    refine s_do (o_q (.ptr 0 0 2) rfl trivial rfl) ?_
                    refine s_on rfl ?_
                    refine s_do (o_q (.str j_1.T) rfl nle rfl) ?_
                    refine s_on rfl ?_
                    refine s_do (o_q (.bool (!(j_1.T == []))) rfl trivial rfl) ?_
                    refine s_do (o_q (.bool (!(j_1.T == []))) rfl trivial rfl) ?_
                    refine s_do (o_mov (.bool (!(j_1.T == []))) rfl) ?_
                    rcases oi hb1 with ⟨c70, hb1⟩ | ⟨c70, hb1⟩
                    · refine s_lit (s := 95) (b := true) rfl c70 ?_
                      refine s_off rfl rfl ?_
                      refine s_off rfl rfl ?_
                      refine s_off rfl rfl ?_
                      refine s_off rfl rfl ?_
                      refine s_offs rfl ?_
                      refine s_offs rfl ?_
                      refine s_offs rfl ?_
                      refine s_offs rfl ?_
                      refine s_off rfl rfl ?_
                      refine s_do (o_q (.bool true) rfl trivial rfl) ?_
                      refine s_do (o_mov (.bool true) rfl) ?_
                      refine s_off rfl rfl ?_
                      refine s_off rfl rfl ?_
                      refine s_off rfl rfl ?_
                      refine s_off rfl rfl ?_
                      refine s_offs rfl ?_
                      refine s_offs rfl ?_
                      refine s_offs rfl ?_
                      refine s_offs rfl ?_
                      refine s_offs rfl ?_
                      refine s_offs rfl ?_
                      refine s_offs rfl ?_
                      refine s_off rfl rfl ?_
                      refine s_do (o_q (.bool true) rfl trivial rfl) ?_
                      refine w_done ?_
                      obtain rfl := os hb1
                      exact ⟨[], [0], _, _, rfl, rfl, ⟨.refl _, ⟨.refl _, ⟨.refl _, trivial⟩⟩⟩, (.refl _)⟩
                    · refine s_lit (s := 95) (b := false) rfl (bf c70) ?_
                      refine s_on rfl ?_
                      refine s_do (o_q (.ptr 0 0 0) rfl trivial rfl) ?_
                      refine s_on rfl ?_
                      refine s_do (o_q (.int .i64 j_1.Kind) rfl nle rfl) ?_
                      refine s_on rfl ?_
                      refine s_do (o_q (.bool (j_1.Kind == 4)) rfl rfl rfl) ?_
                      refine s_on rfl ?_
                      refine s_do (o_mov (.bool (j_1.Kind == 4)) rfl) ?_
                      rcases oi hb1 with ⟨c71, hb1⟩ | ⟨c71, hb1⟩
                      · refine s_lit (s := 99) (b := true) rfl c71 ?_
                        refine s_on rfl ?_
                        refine s_do (o_q (.ptr 0 0 3) rfl trivial rfl) ?_
                        refine s_on rfl ?_
                        refine s_do (o_q (.lst 1 (j_1.Keys.map AV.str)) rfl nle rfl) ?_
                        refine s_on rfl ?_
                        refine s_dof (o_len (enc := AV.str) rfl) fun hl72 => ?_
                        refine s_on rfl ?_
                        refine s_do (o_q (.bool (decide ((j_1.Keys.length : Int) > 0))) rfl rfl rfl) ?_
                        refine s_on rfl ?_
                        refine s_do (o_q (.bool (decide ((j_1.Keys.length : Int) > 0))) rfl trivial rfl) ?_
                        refine s_do (o_q (.bool (decide ((j_1.Keys.length : Int) > 0))) rfl trivial rfl) ?_
                        refine s_do (o_mov (.bool (decide ((j_1.Keys.length : Int) > 0))) rfl) ?_
                        rcases oi hb1 with ⟨c73, hb1⟩ | ⟨c73, hb1⟩
                        · refine s_lit (s := 106) (b := true) rfl c73 ?_
                          refine s_off rfl rfl ?_
                          refine s_off rfl rfl ?_
                          refine s_off rfl rfl ?_
                          refine s_off rfl rfl ?_
                          refine s_offs rfl ?_
                          refine s_offs rfl ?_
                          refine s_offs rfl ?_
                          refine s_offs rfl ?_
                          refine s_offs rfl ?_
                          refine s_offs rfl ?_
                          refine s_offs rfl ?_
                          refine s_off rfl rfl ?_
                          refine s_do (o_q (.bool true) rfl trivial rfl) ?_
                          refine w_done ?_
                          obtain rfl := os hb1
                          exact ⟨[], [0], _, _, rfl, rfl, ⟨.refl _, ⟨.refl _, ⟨.refl _, trivial⟩⟩⟩, (.refl _)⟩
                        · refine s_lit (s := 106) (b := false) rfl (bf c73) ?_
                          refine s_on rfl ?_
                          refine s_do (o_q (.ptr 0 0 0) rfl trivial rfl) ?_
                          refine s_on rfl ?_
                          refine s_do (o_q (.int .i64 j_1.Kind) rfl nle rfl) ?_
                          refine s_on rfl ?_
                          refine s_do (o_q (.bool (j_1.Kind == 5)) rfl rfl rfl) ?_
                          refine s_on rfl ?_
                          refine s_do (o_mov (.bool (j_1.Kind == 5)) rfl) ?_
                          rcases oi hb1 with ⟨c74, hb1⟩ | ⟨c74, hb1⟩
                          · refine s_lit (s := 110) (b := true) rfl c74 ?_
                            refine s_on rfl ?_
                            refine s_do (o_q (.ptr 0 0 3) rfl trivial rfl) ?_
                            refine s_on rfl ?_
                            refine s_do (o_q (.lst 1 (j_1.Keys.map AV.str)) rfl nle rfl) ?_
                            refine s_on rfl ?_
                            refine s_dof (o_len (enc := AV.str) rfl) fun hl75 => ?_
                            refine s_on rfl ?_
                            refine s_do (o_q (.ptr 0 0 4) rfl trivial rfl) ?_
                            refine s_on rfl ?_
                            refine s_do (o_q (.lst 5 (j_1.Items.map encGJson)) rfl nle rfl) ?_
                            refine s_on rfl ?_
                            refine s_dof (o_len (enc := encGJson) rfl) fun hl76 => ?_
                            refine s_on rfl ?_
                            refine s_do (o_q (.bool ((j_1.Keys.length : Int) != (j_1.Items.length : Int))) rfl rfl rfl) ?_
                            refine s_on rfl ?_
                            refine s_do (o_q (.bool ((j_1.Keys.length : Int) != (j_1.Items.length : Int))) rfl trivial rfl) ?_
                            refine s_do (o_q (.bool ((j_1.Keys.length : Int) != (j_1.Items.length : Int))) rfl trivial rfl) ?_
                            refine w_done ?_
                            obtain rfl := os hb1
                            exact ⟨[], [0], _, _, rfl, rfl, ⟨.refl _, ⟨.refl _, ⟨.refl _, trivial⟩⟩⟩, (.refl _)⟩
                          · refine s_lit (s := 110) (b := false) rfl (bf c74) ?_
                            refine s_off rfl rfl ?_
                            refine s_off rfl rfl ?_
                            refine s_off rfl rfl ?_
                            refine s_off rfl rfl ?_
                            refine s_off rfl rfl ?_
                            refine s_off rfl rfl ?_
                            refine s_off rfl rfl ?_
                            refine s_on rfl ?_
                            refine s_do (o_q (.bool false) rfl trivial rfl) ?_
                            refine s_do (o_q (.bool false) rfl trivial rfl) ?_
                            refine w_done ?_
                            obtain rfl := os hb1
                            exact ⟨[], [0], _, _, rfl, rfl, ⟨.refl _, ⟨.refl _, ⟨.refl _, trivial⟩⟩⟩, (.refl _)⟩
                      · refine s_lit (s := 99) (b := false) rfl (bf c71) ?_
                        refine s_off rfl rfl ?_
                        refine s_off rfl rfl ?_
                        refine s_off rfl rfl ?_
                        refine s_off rfl rfl ?_
                        refine s_on rfl ?_
                        refine s_do (o_q (.bool false) rfl trivial rfl) ?_
                        refine s_do (o_q (.bool false) rfl trivial rfl) ?_
                        refine s_do (o_mov (.bool false) rfl) ?_
                        refine s_on rfl ?_
                        refine s_do (o_q (.ptr 0 0 0) rfl trivial rfl) ?_
                        refine s_on rfl ?_
                        refine s_do (o_q (.int .i64 j_1.Kind) rfl nle rfl) ?_
                        refine s_on rfl ?_
                        refine s_do (o_q (.bool (j_1.Kind == 5)) rfl rfl rfl) ?_
                        refine s_on rfl ?_
                        refine s_do (o_mov (.bool (j_1.Kind == 5)) rfl) ?_
                        rcases oi hb1 with ⟨c77, hb1⟩ | ⟨c77, hb1⟩
                        · refine s_lit (s := 110) (b := true) rfl c77 ?_
                          refine s_on rfl ?_
                          refine s_do (o_q (.ptr 0 0 3) rfl trivial rfl) ?_
                          refine s_on rfl ?_
                          refine s_do (o_q (.lst 1 (j_1.Keys.map AV.str)) rfl nle rfl) ?_
                          refine s_on rfl ?_
                          refine s_dof (o_len (enc := AV.str) rfl) fun hl78 => ?_
                          refine s_on rfl ?_
                          refine s_do (o_q (.ptr 0 0 4) rfl trivial rfl) ?_
                          refine s_on rfl ?_
                          refine s_do (o_q (.lst 5 (j_1.Items.map encGJson)) rfl nle rfl) ?_
                          refine s_on rfl ?_
                          refine s_dof (o_len (enc := encGJson) rfl) fun hl79 => ?_
                          refine s_on rfl ?_
                          refine s_do (o_q (.bool ((j_1.Keys.length : Int) != (j_1.Items.length : Int))) rfl rfl rfl) ?_
                          refine s_on rfl ?_
                          refine s_do (o_q (.bool ((j_1.Keys.length : Int) != (j_1.Items.length : Int))) rfl trivial rfl) ?_
                          refine s_do (o_q (.bool ((j_1.Keys.length : Int) != (j_1.Items.length : Int))) rfl trivial rfl) ?_
                          refine w_done ?_
                          obtain rfl := os hb1
                          exact ⟨[], [0], _, _, rfl, rfl, ⟨.refl _, ⟨.refl _, ⟨.refl _, trivial⟩⟩⟩, (.refl _)⟩
                        · refine s_lit (s := 110) (b := false) rfl (bf c77) ?_
                          refine s_off rfl rfl ?_
                          refine s_off rfl rfl ?_
                          refine s_off rfl rfl ?_
                          refine s_off rfl rfl ?_
                          refine s_off rfl rfl ?_
                          refine s_off rfl rfl ?_
                          refine s_off rfl rfl ?_
                          refine s_on rfl ?_
                          refine s_do (o_q (.bool false) rfl trivial rfl) ?_
                          refine s_do (o_q (.bool false) rfl trivial rfl) ?_
                          refine w_done ?_
                          obtain rfl := os hb1
                          exact ⟨[], [0], _, _, rfl, rfl, ⟨.refl _, ⟨.refl _, ⟨.refl _, trivial⟩⟩⟩, (.refl _)⟩
              · rcases oi hf with ⟨c80, hf⟩ | ⟨c80, hf⟩
                · refine w_condt rfl c80 ?_
                  refine awp_seq ?_
                  refine w_reg ?_
                  refine s_do (o_mov (.int .i64 0) rfl) ?_
                  refine s_do (o_mov (.bool false) rfl) ?_
                  refine w_done ?_
                  refine k_seq ?_
                  refine w_ret ?_
                  obtain rfl := os hf
                  exact r_flat ⟨trivial, ⟨trivial, trivial⟩⟩ rfl (.refl _)
                · refine w_condf rfl (bf c80) ?_
                  refine w_skip ?_
                  refine k_seq ?_
                  refine awp_seq ?_
                  refine w_reg ?_
                  refine s_do (o_mov (.int .i64 1) rfl) ?_
                  refine w_done ?_
                  refine k_seq ?_
                  refine awp_seq ?_
                  refine awp_seq ?_
                  refine w_reg ?_
                  refine s_do (o_mov (.int .i64 0) rfl) ?_
                  refine w_done ?_
                  refine k_seq ?_
                  obtain ⟨p195, hb1, hf⟩ := ob hf
                  refine awp_cutx (X := {q : Int // p195 = .go q}) (fun q => ([(7, (.int .i64 q.1))], [])) ?_ ?_
                  · refine awp_loop (X := {q : (Int × Nat) // spec_l01OK_B_L1 j_1 rec deep_2 (j_1.Items.drop q.2) q.1 q.2 = some p195}) (fun q => ([(1, (.int .i64 deep_2)), (2, (.ptr 0 0 0)), (7, (.int .i64 q.1.1)), (8, (.int .i64 (q.1.2 : Int)))], [.box 5 (.agg [(.int .i64 j_1.Kind), (.int .i64 j_1.N), (.str j_1.T), (.lst 1 (j_1.Keys.map AV.str)), (.lst 5 (j_1.Items.map encGJson))])])) (fun q => j_1.Items.length - q.1.2) ⟨(1, 0), hb1⟩ ⟨[], [0], _, _, rfl, rfl, ⟨.refl _, ⟨.refl _, ⟨.refl _, ⟨.refl _, trivial⟩⟩⟩⟩, (.refl _)⟩ ?_
                    rintro ⟨⟨n_155, i_156⟩, hc1⟩
                    have hc1 : spec_l01OK_B_L1 j_1 rec deep_2 (j_1.Items.drop i_156) n_155 i_156 = some p195 := hc1
                    refine (show awp Try.prog false 0 _ (ofL [(1, (.int .i64 deep_2)), (2, (.ptr 0 0 0)), (7, (.int .i64 n_155)), (8, (.int .i64 (i_156 : Int)))]) [.box 5 (.agg [(.int .i64 j_1.Kind), (.int .i64 j_1.N), (.str j_1.T), (.lst 1 (j_1.Keys.map AV.str)), (.lst 5 (j_1.Items.map encGJson))])] _ from ?_)
                    rcases dropc j_1.Items i_156 with ⟨hie198, hd201⟩ | ⟨hlt196, x_202, hx197, hd201⟩
                    · rw [hd201, spec_l01OK_B_L1.eq_1] at hc1
                      have hq200 := dlf hie198
                      refine awp_seq ?_
                      refine awp_seq ?_
                      refine w_reg ?_
                      refine s_do (o_mov (.int .i64 (i_156 : Int)) rfl) ?_
                      refine s_do (o_q (.ptr 0 0 4) rfl trivial rfl) ?_
                      refine s_do (o_q (.lst 5 (j_1.Items.map encGJson)) rfl nle rfl) ?_
                      refine s_dof (o_len (enc := encGJson) rfl) fun hl203 => ?_
                      refine s_do (o_q (.bool (decide ((i_156 : Int) < (j_1.Items.length : Int)))) rfl rfl rfl) ?_
                      refine w_done ?_
                      refine k_seq ?_
                      refine w_condf rfl hq200 ?_
                      refine w_exit ?_
                      refine k_seqx ?_
                      refine k_loopx ?_
                      refine k_blkx ?_
                      obtain rfl := os hc1
                      exact k_cutn ⟨_, rfl⟩ ⟨[], [], _, _, rfl, rfl, ⟨.refl _, trivial⟩, (.refl _)⟩
                    · rw [hd201, spec_l01OK_B_L1.eq_2] at hc1
                      have hq200 := dlt hlt196
                      refine awp_seq ?_
                      refine awp_seq ?_
                      refine w_reg ?_
                      refine s_do (o_mov (.int .i64 (i_156 : Int)) rfl) ?_
                      refine s_do (o_q (.ptr 0 0 4) rfl trivial rfl) ?_
                      refine s_do (o_q (.lst 5 (j_1.Items.map encGJson)) rfl nle rfl) ?_
                      refine s_dof (o_len (enc := encGJson) rfl) fun hl204 => ?_
                      refine s_do (o_q (.bool (decide ((i_156 : Int) < (j_1.Items.length : Int)))) rfl rfl rfl) ?_
                      refine w_done ?_
                      refine k_seq ?_
                      refine w_condt rfl hq200 ?_
                      refine w_skip ?_
                      refine k_seq ?_
                      refine awp_seq ?_
                      refine w_blk ?_
                      refine awp_seq ?_
                      refine awp_seq ?_
                      obtain ⟨s156_216, hb2, hc1⟩ := ob hc1
                      refine awp_cut ([(1, (.int .i64 deep_2)), (2, (.ptr 0 0 0)), (7, (.int .i64 n_155)), (8, (.int .i64 (i_156 : Int))), (156, (.bool s156_216))], [.box 5 (.agg [(.int .i64 j_1.Kind), (.int .i64 j_1.N), (.str j_1.T), (.lst 1 (j_1.Keys.map AV.str)), (.lst 5 (j_1.Items.map encGJson))])]) ?_ ?_
                      · refine w_reg ?_
                        refine s_do (o_q (.ptr 0 0 0) rfl trivial rfl) ?_
                        refine s_do (o_q (.int .i64 j_1.Kind) rfl nle rfl) ?_
                        refine s_do (o_q (.bool (j_1.Kind == 5)) rfl rfl rfl) ?_
                        refine s_do (o_mov (.bool (j_1.Kind == 5)) rfl) ?_
                        rcases oi hb2 with ⟨c218, hb2⟩ | ⟨c218, hb2⟩
                        · refine s_lit (s := 130) (b := true) rfl c218 ?_
                          refine s_on rfl ?_
                          refine s_do (o_q (.ptr 0 0 3) rfl trivial rfl) ?_
                          refine s_on rfl ?_
                          refine s_do (o_q (.lst 1 (j_1.Keys.map AV.str)) rfl nle rfl) ?_
                          refine s_on rfl ?_
                          refine s_do (o_mov (.int .i64 (i_156 : Int)) rfl) ?_
                          refine s_on rfl ?_
                          obtain ⟨x_219, ex220, hb2⟩ := ob hb2
                          refine s_do (o_iaddr (enc := AV.str) rfl rfl (idx0 ex220) (idx1 ex220)) ?_
                          refine s_on rfl ?_
                          refine s_do (o_q (.str x_219) rfl ⟨rfl, rfl⟩ rfl) ?_
                          refine s_onl rfl ?_
                          obtain ⟨r_221, er222, hb2⟩ := ob hb2
                          refine s_dol (o_call (w_spec_l01Text _ _ er222) rfl (.refl _) rfl) a_same trivial ?_
                          refine s_on rfl ?_
                          refine s_do (o_q (.bool (!r_221)) rfl trivial rfl) ?_
                          refine s_on rfl ?_
                          refine s_do (o_mov (.bool (!r_221)) rfl) ?_
                          rcases oi hb2 with ⟨c223, hb2⟩ | ⟨c223, hb2⟩
                          · refine s_lit (s := 138) (b := true) rfl c223 ?_
                            refine s_off rfl rfl ?_
                            refine s_off rfl rfl ?_
                            refine s_off rfl rfl ?_
                            refine s_offs rfl ?_
                            refine s_offs rfl ?_
                            refine s_offs rfl ?_
                            refine s_offs rfl ?_
                            refine s_offs rfl ?_
                            refine s_offs rfl ?_
                            refine s_offs rfl ?_
                            refine s_offs rfl ?_
                            refine s_offs rfl ?_
                            refine s_offs rfl ?_
                            refine s_offs rfl ?_
                            refine s_offs rfl ?_
                            refine s_off rfl rfl ?_
                            refine s_on rfl ?_
                            refine s_do (o_q (.bool true) rfl trivial rfl) ?_
                            refine s_do (o_q (.bool true) rfl trivial rfl) ?_
                            refine w_done ?_
                            obtain rfl := os hb2
                            exact ⟨[], [0], _, _, rfl, rfl, ⟨.refl _, ⟨.refl _, ⟨.refl _, ⟨.refl _, ⟨.refl _, trivial⟩⟩⟩⟩⟩, (.refl _)⟩
                          · refine s_lit (s := 138) (b := false) rfl (bf c223) ?_
                            refine s_on rfl ?_
                            refine s_do (o_mov (.int .i64 (i_156 : Int)) rfl) ?_
                            refine s_on rfl ?_
                            refine s_do (o_q (.bool (decide ((i_156 : Int) > 0))) rfl rfl rfl) ?_
                            refine s_on rfl ?_
                            refine s_do (o_mov (.bool (decide ((i_156 : Int) > 0))) rfl) ?_
                            rcases oi hb2 with ⟨c224, hb2⟩ | ⟨c224, hb2⟩
                            · refine s_lit (s := 141) (b := true) rfl c224 ?_
                              refine s_on rfl ?_
                              refine s_do (o_q (.ptr 0 0 3) rfl trivial rfl) ?_
                              refine s_on rfl ?_
                              refine s_do (o_q (.lst 1 (j_1.Keys.map AV.str)) rfl nle rfl) ?_
                              refine s_on rfl ?_
                              refine s_do (o_mov (.int .i64 (i_156 : Int)) rfl) ?_
                              refine s_on rfl ?_
                              refine s_do (o_q (.int .i64 (w64 ((i_156 : Int) - 1))) rfl rfl rfl) ?_
                              refine s_on rfl ?_
                              obtain ⟨x_225, ex226, hb2⟩ := ob hb2
                              refine s_do (o_iaddr (enc := AV.str) rfl rfl (idx0 ex226) (idx1 ex226)) ?_
                              refine s_on rfl ?_
                              refine s_do (o_q (.str x_225) rfl ⟨rfl, rfl⟩ rfl) ?_
                              refine s_on rfl ?_
                              refine s_do (o_q (.ptr 0 0 3) rfl trivial rfl) ?_
                              refine s_on rfl ?_
                              refine s_do (o_q (.lst 1 (j_1.Keys.map AV.str)) rfl nle rfl) ?_
                              refine s_on rfl ?_
                              refine s_do (o_mov (.int .i64 (i_156 : Int)) rfl) ?_
                              refine s_on rfl ?_
                              obtain ⟨x_227, ex228, hb2⟩ := ob hb2
                              refine s_do (o_iaddr (enc := AV.str) rfl rfl (idx0 ex228) (idx1 ex228)) ?_
                              refine s_on rfl ?_
                              refine s_do (o_q (.str x_227) rfl ⟨rfl, rfl⟩ rfl) ?_
                              refine s_on rfl ?_
                              refine s_do (o_q (.bool (!Op.bytesLess x_225 x_227)) rfl trivial rfl) ?_
                              refine s_on rfl ?_
                              refine s_do (o_q (.bool (!Op.bytesLess x_225 x_227)) rfl trivial rfl) ?_
                              refine s_on rfl ?_
                              refine s_do (o_q (.bool (!Op.bytesLess x_225 x_227)) rfl trivial rfl) ?_
                              refine s_do (o_q (.bool (!Op.bytesLess x_225 x_227)) rfl trivial rfl) ?_
                              refine w_done ?_
                              obtain rfl := os hb2
                              exact ⟨[], [0], _, _, rfl, rfl, ⟨.refl _, ⟨.refl _, ⟨.refl _, ⟨.refl _, ⟨.refl _, trivial⟩⟩⟩⟩⟩, (.refl _)⟩
                            · refine s_lit (s := 141) (b := false) rfl (bf c224) ?_
                              refine s_off rfl rfl ?_
                              refine s_off rfl rfl ?_
                              refine s_off rfl rfl ?_
                              refine s_off rfl rfl ?_
                              refine s_off rfl rfl ?_
                              refine s_off rfl rfl ?_
                              refine s_off rfl rfl ?_
                              refine s_off rfl rfl ?_
                              refine s_off rfl rfl ?_
                              refine s_off rfl rfl ?_
                              refine s_off rfl rfl ?_
                              refine s_off rfl rfl ?_
                              refine s_on rfl ?_
                              refine s_do (o_q (.bool false) rfl trivial rfl) ?_
                              refine s_on rfl ?_
                              refine s_do (o_q (.bool false) rfl trivial rfl) ?_
                              refine s_do (o_q (.bool false) rfl trivial rfl) ?_
                              refine w_done ?_
                              obtain rfl := os hb2
                              exact ⟨[], [0], _, _, rfl, rfl, ⟨.refl _, ⟨.refl _, ⟨.refl _, ⟨.refl _, ⟨.refl _, trivial⟩⟩⟩⟩⟩, (.refl _)⟩
                        · refine s_lit (s := 130) (b := false) rfl (bf c218) ?_
                          refine s_off rfl rfl ?_
                          refine s_off rfl rfl ?_
                          refine s_off rfl rfl ?_
                          refine s_off rfl rfl ?_
                          refine s_off rfl rfl ?_
                          refine s_offl rfl rfl trivial ?_
                          refine s_off rfl rfl ?_
                          refine s_off rfl rfl ?_
                          refine s_offs rfl ?_
                          refine s_offs rfl ?_
                          refine s_offs rfl ?_
                          refine s_offs rfl ?_
                          refine s_offs rfl ?_
                          refine s_offs rfl ?_
                          refine s_offs rfl ?_
                          refine s_offs rfl ?_
                          refine s_offs rfl ?_
                          refine s_offs rfl ?_
                          refine s_offs rfl ?_
                          refine s_offs rfl ?_
                          refine s_offs rfl ?_
                          refine s_offs rfl ?_
                          refine s_offs rfl ?_
                          refine s_offs rfl ?_
                          refine s_off rfl rfl ?_
                          refine s_do (o_q (.bool false) rfl trivial rfl) ?_
                          refine w_done ?_
                          obtain rfl := os hb2
                          exact ⟨[], [0], _, _, rfl, rfl, ⟨.refl _, ⟨.refl _, ⟨.refl _, ⟨.refl _, ⟨.refl _, trivial⟩⟩⟩⟩⟩, (.refl _)⟩
                      · rcases oi hc1 with ⟨c229, hc1⟩ | ⟨c229, hc1⟩
                        · refine w_condt rfl c229 ?_
                          refine awp_seq ?_
                          refine w_reg ?_
                          refine s_do (o_mov (.int .i64 0) rfl) ?_
                          refine s_do (o_mov (.bool false) rfl) ?_
                          refine w_done ?_
                          refine k_seq ?_
                          refine w_ret ?_
                          obtain rfl := os hc1
                          obtain rfl := os hf
                          exact r_flat ⟨trivial, ⟨trivial, trivial⟩⟩ rfl (.refl _)
                        · refine w_condf rfl (bf c229) ?_
                          refine w_skip ?_
                          refine k_seq ?_
                          refine awp_seq ?_
                          refine w_reg ?_
                          refine s_do (o_q (.ptr 0 0 4) rfl trivial rfl) ?_
                          refine s_do (o_q (.lst 5 (j_1.Items.map encGJson)) rfl nle rfl) ?_
                          refine s_do (o_mov (.int .i64 (i_156 : Int)) rfl) ?_
                          refine s_do (o_iaddrn (enc := encGJson) rfl rfl hx197) ?_
                          refine s_do (o_loadeq (v := (.agg [(.int .i64 x_202.Kind), (.int .i64 x_202.N), (.str x_202.T), (.lst 1 (x_202.Keys.map AV.str)), (.lst 5 (x_202.Items.map encGJson))])) rfl (encGJson_eq _) nle rfl) ?_
                          refine s_do (o_mov (.int .i64 deep_2) rfl) ?_
                          refine s_do (o_q (.int .i64 (w64 (deep_2 - 1))) rfl rfl rfl) ?_
                          obtain ⟨r_230, er231, hc1⟩ := ob hc1
                          refine s_do (o_call (hrec _ _ _ er231) rfl (.cons (.of_eq (encGJson_eq x_202).symm) (.cons (.refl _) .nil)) rfl) ?_
                          refine s_do (o_mov (.tup [(.int .i64 r_230.1), (.bool r_230.2)]) rfl) ?_
                          refine s_do (o_q (.int .i64 r_230.1) rfl nle rfl) ?_
                          refine s_do (o_q (.bool r_230.2) rfl nle rfl) ?_
                          refine s_do (o_mov (.int .i64 r_230.1) rfl) ?_
                          refine s_do (o_mov (.bool r_230.2) rfl) ?_
                          refine w_done ?_
                          refine k_seq ?_
                          refine awp_seq ?_
                          refine w_reg ?_
                          refine s_do (o_mov (.int .i64 n_155) rfl) ?_
                          refine s_do (o_mov (.int .i64 r_230.1) rfl) ?_
                          refine s_do (o_q (.int .i64 (w64 (n_155 + r_230.1))) rfl rfl rfl) ?_
                          refine s_do (o_mov (.int .i64 (w64 (n_155 + r_230.1))) rfl) ?_
                          refine w_done ?_
                          refine k_seq ?_
                          refine awp_seq ?_
                          obtain ⟨s176_233, hb2, hc1⟩ := ob hc1
                          refine awp_cut ([(1, (.int .i64 deep_2)), (2, (.ptr 0 0 0)), (7, (.int .i64 (w64 (n_155 + r_230.1)))), (8, (.int .i64 (i_156 : Int))), (176, (.bool s176_233))], [.box 5 (.agg [(.int .i64 j_1.Kind), (.int .i64 j_1.N), (.str j_1.T), (.lst 1 (j_1.Keys.map AV.str)), (.lst 5 (j_1.Items.map encGJson))])]) ?_ ?_
                          · refine w_reg ?_
                            rcases oi hb2 with ⟨c235, hb2⟩ | ⟨c235, hb2⟩
                            · refine s_do (o_mov (.bool r_230.2) rfl) ?_
                              refine s_do (o_q (.bool (!r_230.2)) rfl trivial rfl) ?_
                              refine s_do (o_mov (.bool (!r_230.2)) rfl) ?_
                              refine s_lit (s := 173) (b := true) rfl c235 ?_
                              refine s_off rfl rfl ?_
                              refine s_off rfl rfl ?_
                              refine s_do (o_q (.bool true) rfl trivial rfl) ?_
                              refine w_done ?_
                              obtain rfl := os hb2
                              exact ⟨[], [0], _, _, rfl, rfl, ⟨.refl _, ⟨.refl _, ⟨.refl _, ⟨.refl _, ⟨.refl _, trivial⟩⟩⟩⟩⟩, (.refl _)⟩
                            · refine s_do (o_mov (.bool r_230.2) rfl) ?_
                              refine s_do (o_q (.bool (!r_230.2)) rfl trivial rfl) ?_
                              refine s_do (o_mov (.bool (!r_230.2)) rfl) ?_
                              refine s_lit (s := 173) (b := false) rfl (bf c235) ?_
                              refine s_on rfl ?_
                              refine s_do (o_mov (.int .i64 (w64 (n_155 + r_230.1))) rfl) ?_
                              refine s_on rfl ?_
                              refine s_do (o_q (.bool (decide (w64 (n_155 + r_230.1) > 400))) rfl rfl rfl) ?_
                              refine s_do (o_q (.bool (decide (w64 (n_155 + r_230.1) > 400))) rfl trivial rfl) ?_
                              refine w_done ?_
                              obtain rfl := os hb2
                              exact ⟨[], [0], _, _, rfl, rfl, ⟨.refl _, ⟨.refl _, ⟨.refl _, ⟨.refl _, ⟨.refl _, trivial⟩⟩⟩⟩⟩, (.refl _)⟩
                          · rcases oi hc1 with ⟨c236, hc1⟩ | ⟨c236, hc1⟩
                            · refine w_condt rfl c236 ?_
                              refine awp_seq ?_
                              refine w_reg ?_
                              refine s_do (o_mov (.int .i64 0) rfl) ?_
                              refine s_do (o_mov (.bool false) rfl) ?_
                              refine w_done ?_
                              refine k_seq ?_
                              refine w_ret ?_
                              obtain rfl := os hc1
                              obtain rfl := os hf
                              exact r_flat ⟨trivial, ⟨trivial, trivial⟩⟩ rfl (.refl _)
                            · refine w_condf rfl (bf c236) ?_
                              refine w_skip ?_
                              refine k_blk ?_
                              refine k_seq ?_
                              refine w_reg ?_
                              refine s_do (o_mov (.int .i64 (i_156 : Int)) rfl) ?_
                              refine s_do (o_q (.int .i64 (w64 ((i_156 : Int) + 1))) rfl rfl rfl) ?_
                              refine s_do (o_mov (.int .i64 (w64 ((i_156 : Int) + 1))) rfl) ?_
                              refine w_done ?_
                              exact k_loopn ⟨(w64 (n_155 + r_230.1), (i_156 + 1)), hc1⟩ (mul hlt196) ⟨[], [0], _, _, rfl, rfl, ⟨.refl _, ⟨.refl _, ⟨.refl _, ⟨.of_eq (congrArg (AV.int _) (w64_incr hlt196 hl204)), trivial⟩⟩⟩⟩, (.refl _)⟩
                  · rintro ⟨n_194, rfl⟩
                    refine awp_seq ?_
                    refine w_reg ?_
                    refine s_do (o_mov (.int .i64 n_194) rfl) ?_
                    refine s_do (o_mov (.int .i64 n_194) rfl) ?_
                    refine s_do (o_mov (.bool true) rfl) ?_
                    refine w_done ?_
                    refine k_seq ?_
                    refine w_ret ?_
                    obtain rfl := os hf
                    exact r_flat ⟨trivial, ⟨trivial, trivial⟩⟩ rfl (.refl _)
def spec_l01OK : Nat → GJson → Int → Option (Int × Bool)
  | 0, _, _ => none
  | k + 1, j_1, deep_2 => spec_l01OK_B (spec_l01OK k) j_1 deep_2
theorem w_spec_l01OK : ∀ (k : Nat) (j_1 : GJson) (deep_2 : Int) (r : (Int × Bool)), spec_l01OK k j_1 deep_2 = some r → CallOK Try.prog 181 .flat [(encGJson j_1), (.int .i64 deep_2)] (.tup [(.int .i64 r.1), (.bool r.2)])
  | 0, j_1, deep_2, r, h => by rw [spec_l01OK.eq_1] at h; cases h
  | k + 1, j_1, deep_2, r, h => by
    rw [spec_l01OK.eq_2] at h
    exact w_spec_l01OK_B _ (w_spec_l01OK k) j_1 deep_2 r h

/- spec.JsonOK -/
def c121 : ACode :=
 (.seq (.reg (.q ⟨(some 1), none, .box 5 (.t 0)⟩
 (.q ⟨(some 2), none, .mov (.c (.bool false))⟩
 .done)))
 (.seq (.reg (.q ⟨(some 6), none, .load 5 true (.t 1)⟩
 (.q ⟨(some 7), none, .call 181 [(.t 6), (.c (.int .i64 12))]⟩
 (.q ⟨(some 5), none, .mov (.t 7)⟩
 (.q ⟨(some 8), none, .extract 0 (.t 5)⟩
 (.q ⟨(some 9), none, .extract 1 (.t 5)⟩
 (.q ⟨(some 3), none, .mov (.t 8)⟩
 (.q ⟨(some 4), none, .mov (.t 9)⟩
 .done))))))))
 (.seq (.reg (.q ⟨(some 10), none, .mov (.t 4)⟩
 (.q ⟨(some 2), none, .mov (.t 10)⟩
 .done)))
 .ret)))
theorem fc121 : fcomp Try.prog Try.f121 = some (c121.erase, [.mov (.t 2)], 11) := by kernel_rfl
def spec_JsonOK (j_1 : GJson) : Option Bool :=
    (spec_l01OK FUEL j_1 12).bind fun r_2 =>
    some r_2.2
theorem w_spec_JsonOK (j_1 : GJson) (r : Bool) (hf : spec_JsonOK j_1 = some r) : CallOK Try.prog 121 .flat [(encGJson j_1)] (.bool r) := by
  refine CallOK.of_awp mixed Try.func121 fc121 nle ?_
  rw [argT_eq]
  rw [encGJson_eq j_1]
  unfold spec_JsonOK at hf
  unfold c121
  refine (show awp Try.prog false 0 _ (ofL [(0, (.agg [(.int .i64 j_1.Kind), (.int .i64 j_1.N), (.str j_1.T), (.lst 1 (j_1.Keys.map AV.str)), (.lst 5 (j_1.Items.map encGJson))]))]) [] _ from ?_)
  refine awp_seq ?_
  refine w_reg ?_
  refine s_do (o_box (j := 0) (c := (.agg [(.int .i64 j_1.Kind), (.int .i64 j_1.N), (.str j_1.T), (.lst 1 (j_1.Keys.map AV.str)), (.lst 5 (j_1.Items.map encGJson))])) rfl trivial rfl rfl) ?_
  refine s_do (o_mov (.bool false) rfl) ?_
  refine w_done ?_
  refine k_seq ?_
  refine awp_seq ?_
  refine w_reg ?_
  obtain ⟨r_2, er3, hf⟩ := ob hf
  refine s_do (o_q (.agg [(.int .i64 j_1.Kind), (.int .i64 j_1.N), (.str j_1.T), (.lst 1 (j_1.Keys.map AV.str)), (.lst 5 (j_1.Items.map encGJson))]) rfl nle rfl) ?_
  refine s_do (o_call (w_spec_l01OK FUEL _ _ _ er3) rfl (.cons (.of_eq (encGJson_eq j_1).symm) (.cons (.refl _) .nil)) rfl) ?_
  refine s_do (o_mov (.tup [(.int .i64 r_2.1), (.bool r_2.2)]) rfl) ?_
  refine s_do (o_q (.int .i64 r_2.1) rfl nle rfl) ?_
  refine s_do (o_q (.bool r_2.2) rfl nle rfl) ?_
  refine s_do (o_mov (.int .i64 r_2.1) rfl) ?_
  refine s_do (o_mov (.bool r_2.2) rfl) ?_
  refine w_done ?_
  refine k_seq ?_
  refine awp_seq ?_
  refine w_reg ?_
  refine s_do (o_mov (.bool r_2.2) rfl) ?_
  refine s_do (o_mov (.bool r_2.2) rfl) ?_
  refine w_done ?_
  refine k_seq ?_
  refine w_ret ?_
  obtain rfl := os hf
  exact r_flat ⟨trivial, trivial⟩ rfl (.refl _)

/- spec.l13Pair -/
def c182 : ACode :=
 (.seq (.reg (.q ⟨(some 2), none, .box 5 (.t 0)⟩
 (.q ⟨(some 4), none, .box 5 (.c (.agg [(.int .i64 0), (.int .i64 0), (.str []), .nil, .nil]))⟩
 (.q ⟨(some 5), none, .mov (.c (.bool false))⟩
 .done))))
 (.seq (.seq (.reg (.q ⟨(some 6), none, .faddr 0 (.t 2)⟩
 (.q ⟨(some 7), none, .load 1 false (.t 6)⟩
 (.q ⟨(some 8), none, .bin .neq (.t 7) (.c (.int .i64 4))⟩
 (.q ⟨(some 9), none, .mov (.t 8)⟩
 (.q ⟨(some 10), (some (9, false)), .faddr 4 (.t 2)⟩
 (.q ⟨(some 11), (some (9, false)), .load 1 false (.t 10)⟩
 (.q ⟨(some 12), (some (9, false)), .len (.t 11)⟩
 (.q ⟨(some 13), (some (9, false)), .bin .neq (.t 12) (.c (.int .i64 2))⟩
 (.q ⟨(some 14), none, .pick (.t 9) (.c (.bool true)) (.t 13)⟩
 (.q ⟨(some 15), none, .mov (.t 14)⟩
 (.q ⟨(some 16), (some (15, false)), .faddr 4 (.t 2)⟩
 (.q ⟨(some 17), (some (15, false)), .load 1 false (.t 16)⟩
 (.q ⟨(some 18), (some (15, false)), .iaddr 5 (.t 17) (.c (.int .i64 0))⟩
 (.q ⟨(some 19), (some (15, false)), .faddr 0 (.t 18)⟩
 (.q ⟨(some 20), (some (15, false)), .load 1 false (.t 19)⟩
 (.q ⟨(some 21), (some (15, false)), .bin .neq (.t 20) (.c (.int .i64 3))⟩
 (.q ⟨(some 22), none, .pick (.t 15) (.c (.bool true)) (.t 21)⟩
 (.q ⟨(some 23), none, .mov (.t 22)⟩
 (.q ⟨(some 24), (some (23, false)), .faddr 4 (.t 2)⟩
 (.q ⟨(some 25), (some (23, false)), .load 1 false (.t 24)⟩
 (.q ⟨(some 26), (some (23, false)), .iaddr 5 (.t 25) (.c (.int .i64 0))⟩
 (.q ⟨(some 27), (some (23, false)), .faddr 2 (.t 26)⟩
 (.q ⟨(some 28), (some (23, false)), .load 1 false (.t 27)⟩
 (.q ⟨(some 29), (some (23, false)), .mov (.t 1)⟩
 (.q ⟨(some 30), (some (23, false)), .bin .neq (.t 28) (.t 29)⟩
 (.q ⟨(some 31), none, .pick (.t 23) (.c (.bool true)) (.t 30)⟩
 .done)))))))))))))))))))))))))))
 (.cut (.cond (.t 31) (.seq (.reg (.q ⟨(some 32), none, .build [(.int .i64 0), (.int .i64 0), (.str []), .nil, .nil] []⟩
 (.q ⟨none, none, .store 5 (.t 4) (.t 32)⟩
 (.q ⟨(some 5), none, .mov (.c (.bool false))⟩
 .done))))
 .ret)
 .skip)))
 (.seq (.reg (.q ⟨(some 33), none, .faddr 4 (.t 2)⟩
 (.q ⟨(some 34), none, .load 1 false (.t 33)⟩
 (.q ⟨(some 35), none, .iaddr 5 (.t 34) (.c (.int .i64 1))⟩
 (.q ⟨(some 36), none, .load 5 true (.t 35)⟩
 (.q ⟨none, none, .store 5 (.t 4) (.t 36)⟩
 (.q ⟨(some 5), none, .mov (.c (.bool true))⟩
 .done)))))))
 .ret)))
theorem fc182 : fcomp Try.prog Try.f182 = some (c182.erase, [.load 5 true (.t 4), .mov (.t 5)], 37) := by kernel_rfl
def spec_l13Pair (j_1 : GJson) (word_2 : Str) : Option (GJson × Bool) :=
    ((if (j_1.Kind != 4) then
    some true
    else
    if ((j_1.Items.length : Int) != 2) then
    some true
    else
    (idx j_1.Items 0).bind fun x_16 =>
    if (x_16.Kind != 3) then
    some true
    else
    (idx j_1.Items 0).bind fun x_19 =>
    some (!(x_19.T == word_2)) : Option Bool)).bind fun s31_11 =>
    if s31_11 then
    some ((⟨0, 0, [], [], []⟩ : GJson), false)
    else
    (idx j_1.Items 1).bind fun x_22 =>
    some (x_22, true)
theorem w_spec_l13Pair (j_1 : GJson) (word_2 : Str) (r : (GJson × Bool)) (hf : spec_l13Pair j_1 word_2 = some r) : CallOK Try.prog 182 .weak [(encGJson j_1), (.str word_2)] (.tup [(encGJson r.1), (.bool r.2)]) := by
  refine CallOK.of_awp mixed Try.func182 fc182 nle ?_
  rw [argT_eq]
  rw [encGJson_eq j_1]
  unfold spec_l13Pair at hf
  unfold c182
  refine (show awp Try.prog false 0 _ (ofL [(0, (.agg [(.int .i64 j_1.Kind), (.int .i64 j_1.N), (.str j_1.T), (.lst 1 (j_1.Keys.map AV.str)), (.lst 5 (j_1.Items.map encGJson))])), (1, (.str word_2))]) [] _ from ?_)
  refine awp_seq ?_
  refine w_reg ?_
  refine s_do (o_box (j := 0) (c := (.agg [(.int .i64 j_1.Kind), (.int .i64 j_1.N), (.str j_1.T), (.lst 1 (j_1.Keys.map AV.str)), (.lst 5 (j_1.Items.map encGJson))])) rfl trivial rfl rfl) ?_
  refine s_do (o_box (j := 1) (c := (.agg [(.int .i64 0), (.int .i64 0), (.str []), .nil, .nil])) rfl trivial rfl rfl) ?_
  refine s_do (o_mov (.bool false) rfl) ?_
  refine w_done ?_
  refine k_seq ?_
  refine awp_seq ?_
  refine awp_seq ?_
  obtain ⟨s31_11, hb1, hf⟩ := ob hf
  refine awp_cut ([(2, (.ptr 0 0 0)), (4, (.ptr 1 0 0)), (31, (.bool s31_11))], [.box 5 (.agg [(.int .i64 j_1.Kind), (.int .i64 j_1.N), (.str j_1.T), (.lst 1 (j_1.Keys.map AV.str)), (.lst 5 (j_1.Items.map encGJson))]), .box 5 (.agg [(.int .i64 0), (.int .i64 0), (.str []), .nil, .nil])]) ?_ ?_
  · refine w_reg ?_
    refine s_do (o_q (.ptr 0 0 0) rfl trivial rfl) ?_
    refine s_do (o_q (.int .i64 j_1.Kind) rfl nle rfl) ?_
    refine s_do (o_q (.bool (j_1.Kind != 4)) rfl rfl rfl) ?_
    refine s_do (o_mov (.bool (j_1.Kind != 4)) rfl) ?_
    rcases oi hb1 with ⟨c13, hb1⟩ | ⟨c13, hb1⟩
    · refine s_lit (s := 9) (b := true) rfl c13 ?_
      refine s_off rfl rfl ?_
      refine s_off rfl rfl ?_
      refine s_off rfl rfl ?_
      refine s_off rfl rfl ?_
      refine s_do (o_q (.bool true) rfl trivial rfl) ?_
      refine s_do (o_mov (.bool true) rfl) ?_
      refine s_off rfl rfl ?_
      refine s_off rfl rfl ?_
      refine s_off rfl rfl ?_
      refine s_off rfl rfl ?_
      refine s_off rfl rfl ?_
      refine s_off rfl rfl ?_
      refine s_do (o_q (.bool true) rfl trivial rfl) ?_
      refine s_do (o_mov (.bool true) rfl) ?_
      refine s_off rfl rfl ?_
      refine s_off rfl rfl ?_
      refine s_off rfl rfl ?_
      refine s_off rfl rfl ?_
      refine s_off rfl rfl ?_
      refine s_off rfl rfl ?_
      refine s_off rfl rfl ?_
      refine s_do (o_q (.bool true) rfl trivial rfl) ?_
      refine w_done ?_
      obtain rfl := os hb1
      exact ⟨[], [0, 1], _, _, rfl, rfl, ⟨.refl _, ⟨.refl _, ⟨.refl _, trivial⟩⟩⟩, (.refl _)⟩
    · refine s_lit (s := 9) (b := false) rfl (bf c13) ?_
      refine s_on rfl ?_
      refine s_do (o_q (.ptr 0 0 4) rfl trivial rfl) ?_
      refine s_on rfl ?_
      refine s_do (o_q (.lst 5 (j_1.Items.map encGJson)) rfl nle rfl) ?_
      refine s_on rfl ?_
      refine s_dof (o_len (enc := encGJson) rfl) fun hl14 => ?_
      refine s_on rfl ?_
      refine s_do (o_q (.bool ((j_1.Items.length : Int) != 2)) rfl rfl rfl) ?_
      refine s_do (o_q (.bool ((j_1.Items.length : Int) != 2)) rfl trivial rfl) ?_
      refine s_do (o_mov (.bool ((j_1.Items.length : Int) != 2)) rfl) ?_
      rcases oi hb1 with ⟨c15, hb1⟩ | ⟨c15, hb1⟩
      · refine s_lit (s := 15) (b := true) rfl c15 ?_
        refine s_off rfl rfl ?_
        refine s_off rfl rfl ?_
        refine s_off rfl rfl ?_
        refine s_off rfl rfl ?_
        refine s_off rfl rfl ?_
        refine s_off rfl rfl ?_
        refine s_do (o_q (.bool true) rfl trivial rfl) ?_
        refine s_do (o_mov (.bool true) rfl) ?_
        refine s_off rfl rfl ?_
        refine s_off rfl rfl ?_
        refine s_off rfl rfl ?_
        refine s_off rfl rfl ?_
        refine s_off rfl rfl ?_
        refine s_off rfl rfl ?_
        refine s_off rfl rfl ?_
        refine s_do (o_q (.bool true) rfl trivial rfl) ?_
        refine w_done ?_
        obtain rfl := os hb1
        exact ⟨[], [0, 1], _, _, rfl, rfl, ⟨.refl _, ⟨.refl _, ⟨.refl _, trivial⟩⟩⟩, (.refl _)⟩
      · refine s_lit (s := 15) (b := false) rfl (bf c15) ?_
        refine s_on rfl ?_
        refine s_do (o_q (.ptr 0 0 4) rfl trivial rfl) ?_
        refine s_on rfl ?_
        refine s_do (o_q (.lst 5 (j_1.Items.map encGJson)) rfl nle rfl) ?_
        refine s_on rfl ?_
        obtain ⟨x_16, ex17, hb1⟩ := ob hb1
        refine s_do (o_iaddr (enc := encGJson) rfl rfl (idx0 ex17) (idx1 ex17)) ?_
        refine s_on rfl ?_
        refine s_do (o_q (.iptr (encGJson x_16) 0) rfl trivial rfl) ?_
        refine s_on rfl ?_
        refine s_do (o_loadeq (v := (.int .i64 x_16.Kind)) rfl (encGJson_eq _) nle rfl) ?_
        refine s_on rfl ?_
        refine s_do (o_q (.bool (x_16.Kind != 3)) rfl rfl rfl) ?_
        refine s_do (o_q (.bool (x_16.Kind != 3)) rfl trivial rfl) ?_
        refine s_do (o_mov (.bool (x_16.Kind != 3)) rfl) ?_
        rcases oi hb1 with ⟨c18, hb1⟩ | ⟨c18, hb1⟩
        · refine s_lit (s := 23) (b := true) rfl c18 ?_
          refine s_off rfl rfl ?_
          refine s_off rfl rfl ?_
          refine s_off rfl rfl ?_
          refine s_off rfl rfl ?_
          refine s_off rfl rfl ?_
          refine s_off rfl rfl ?_
          refine s_off rfl rfl ?_
          refine s_do (o_q (.bool true) rfl trivial rfl) ?_
          refine w_done ?_
          obtain rfl := os hb1
          exact ⟨[], [0, 1], _, _, rfl, rfl, ⟨.refl _, ⟨.refl _, ⟨.refl _, trivial⟩⟩⟩, (.refl _)⟩
        · refine s_lit (s := 23) (b := false) rfl (bf c18) ?_
          refine s_on rfl ?_
          refine s_do (o_q (.ptr 0 0 4) rfl trivial rfl) ?_
          refine s_on rfl ?_
          refine s_do (o_q (.lst 5 (j_1.Items.map encGJson)) rfl nle rfl) ?_
          refine s_on rfl ?_
          obtain ⟨x_19, ex20, hb1⟩ := ob hb1
          refine s_do (o_iaddr (enc := encGJson) rfl rfl (idx0 ex20) (idx1 ex20)) ?_
          refine s_on rfl ?_
          refine s_do (o_q (.iptr (encGJson x_19) 2) rfl trivial rfl) ?_
          refine s_on rfl ?_
          refine s_do (o_loadeq (v := (.str x_19.T)) rfl (encGJson_eq _) nle rfl) ?_
          refine s_on rfl ?_
          refine s_do (o_mov (.str word_2) rfl) ?_
          refine s_on rfl ?_
          refine s_do (o_q (.bool (!(x_19.T == word_2))) rfl trivial rfl) ?_
          refine s_do (o_q (.bool (!(x_19.T == word_2))) rfl trivial rfl) ?_
          refine w_done ?_
          obtain rfl := os hb1
          exact ⟨[], [0, 1], _, _, rfl, rfl, ⟨.refl _, ⟨.refl _, ⟨.refl _, trivial⟩⟩⟩, (.refl _)⟩
  · rcases oi hf with ⟨c21, hf⟩ | ⟨c21, hf⟩
    · refine w_condt rfl c21 ?_
      refine awp_seq ?_
      refine w_reg ?_
      refine s_do (o_q (.agg [(.int .i64 0), (.int .i64 0), (.str []), .nil, .nil]) rfl trivial rfl) ?_
      refine s_do0 (o_storebox (v := (.agg [(.int .i64 0), (.int .i64 0), (.str []), .nil, .nil])) (y' := (.agg [(.int .i64 0), (.int .i64 0), (.str []), .nil, .nil])) rfl rfl rfl trivial ⟨rfl, nle⟩ ⟨⟨rfl, trivial⟩, ⟨⟨rfl, trivial⟩, ⟨⟨rfl, trivial⟩, ⟨⟨rfl, trivial⟩, ⟨⟨rfl, trivial⟩, trivial⟩⟩⟩⟩⟩ rfl) ?_
      refine s_do (o_mov (.bool false) rfl) ?_
      refine w_done ?_
      refine k_seq ?_
      refine w_ret ?_
      obtain rfl := os hf
      exact r_weak ⟨nle, ⟨trivial, trivial⟩⟩ rfl (.tup (.cons (leJ (x := (⟨0, 0, [], [], []⟩ : GJson)) (.agg (.cons (.refl _) (.cons (.refl _) (.cons (.refl _) (.cons (.nil _) (.cons (.nil _) .nil))))))) (.cons (.refl _) .nil)))
    · refine w_condf rfl (bf c21) ?_
      refine w_skip ?_
      refine k_seq ?_
      refine awp_seq ?_
      refine w_reg ?_
      obtain ⟨x_22, ex23, hf⟩ := ob hf
      refine s_do (o_q (.ptr 0 0 4) rfl trivial rfl) ?_
      refine s_do (o_q (.lst 5 (j_1.Items.map encGJson)) rfl nle rfl) ?_
      refine s_do (o_iaddr (enc := encGJson) rfl rfl (idx0 ex23) (idx1 ex23)) ?_
      refine s_do (o_loadeq (v := (.agg [(.int .i64 x_22.Kind), (.int .i64 x_22.N), (.str x_22.T), (.lst 1 (x_22.Keys.map AV.str)), (.lst 5 (x_22.Items.map encGJson))])) rfl (encGJson_eq _) nle rfl) ?_
      refine s_do0 (o_storebox (v := (.agg [(.int .i64 x_22.Kind), (.int .i64 x_22.N), (.str x_22.T), (.lst 1 (x_22.Keys.map AV.str)), (.lst 5 (x_22.Items.map encGJson))])) (y' := (.agg [(.int .i64 x_22.Kind), (.int .i64 x_22.N), (.str x_22.T), (.lst 1 (x_22.Keys.map AV.str)), (.lst 5 (x_22.Items.map encGJson))])) rfl rfl rfl trivial ⟨rfl, nle⟩ ⟨⟨rfl, trivial⟩, ⟨⟨rfl, trivial⟩, ⟨⟨rfl, trivial⟩, ⟨⟨rfl, trivial⟩, ⟨⟨rfl, trivial⟩, trivial⟩⟩⟩⟩⟩ rfl) ?_
      refine s_do (o_mov (.bool true) rfl) ?_
      refine w_done ?_
      refine k_seq ?_
      refine w_ret ?_
      obtain rfl := os hf
      exact r_weak ⟨nle, ⟨trivial, trivial⟩⟩ rfl (.tup (.cons (.of_eq (encGJson_eq x_22).symm) (.cons (.refl _) .nil)))

/- spec.AtomOK -/
def c106 : ACode :=
 (.seq (.reg (.q ⟨(some 1), none, .box 3 (.t 0)⟩
 (.q ⟨(some 2), none, .mov (.c (.bool false))⟩
 .done)))
 (.seq (.seq (.reg (.q ⟨(some 3), none, .faddr 0 (.t 1)⟩
 (.q ⟨(some 4), none, .load 1 false (.t 3)⟩
 .done)))
 (.block 0 (.seq (.reg (.q ⟨(some 6), none, .bin .eql (.t 4) (.c (.int .i64 1))⟩
 (.q ⟨(some 5), none, .mov (.t 6)⟩
 .done)))
 (.cond (.t 5) (.seq (.reg (.q ⟨(some 7), none, .faddr 1 (.t 1)⟩
 (.q ⟨(some 8), none, .load 1 false (.t 7)⟩
 (.q ⟨(some 9), none, .call 81 [(.t 8), (.c (.int .i64 (-1000000000))), (.c (.int .i64 1000000000))]⟩
 (.q ⟨(some 10), none, .mov (.t 9)⟩
 (.q ⟨(some 11), (some (10, true)), .faddr 2 (.t 1)⟩
 (.q ⟨(some 12), (some (10, true)), .load 1 false (.t 11)⟩
 (.q ⟨(some 13), (some (10, true)), .bin .eql (.t 12) (.c (.str []))⟩
 (.q ⟨(some 14), none, .pick (.t 10) (.t 13) (.c (.bool false))⟩
 (.q ⟨(some 2), none, .mov (.t 14)⟩
 .done))))))))))
 .ret)
 (.seq (.reg (.q ⟨(some 16), none, .bin .eql (.t 4) (.c (.int .i64 2))⟩
 (.q ⟨(some 15), none, .mov (.t 16)⟩
 .done)))
 (.cond (.t 15) (.seq (.reg (.q ⟨(some 17), none, .faddr 1 (.t 1)⟩
 (.q ⟨(some 18), none, .load 1 false (.t 17)⟩
 (.q ⟨(some 19), none, .bin .eql (.t 18) (.c (.int .i64 0))⟩
 (.q ⟨(some 20), none, .mov (.t 19)⟩
 (.q ⟨(some 21), (some (20, true)), .faddr 2 (.t 1)⟩
 (.q ⟨(some 22), (some (20, true)), .load 1 false (.t 21)⟩
 (.q ⟨(some 23), (some (20, true)), .call 169 [(.t 22)]⟩
 (.q ⟨(some 24), none, .pick (.t 20) (.t 23) (.c (.bool false))⟩
 (.q ⟨(some 2), none, .mov (.t 24)⟩
 .done))))))))))
 .ret)
 (.seq (.reg (.q ⟨(some 26), none, .bin .eql (.t 4) (.c (.int .i64 3))⟩
 (.q ⟨(some 25), none, .mov (.t 26)⟩
 .done)))
 (.cond (.t 25) (.seq (.reg (.q ⟨(some 27), none, .faddr 1 (.t 1)⟩
 (.q ⟨(some 28), none, .load 1 false (.t 27)⟩
 (.q ⟨(some 29), none, .call 81 [(.t 28), (.c (.int .i64 0)), (.c (.int .i64 1))]⟩
 (.q ⟨(some 30), none, .mov (.t 29)⟩
 (.q ⟨(some 31), (some (30, true)), .faddr 2 (.t 1)⟩
 (.q ⟨(some 32), (some (30, true)), .load 1 false (.t 31)⟩
 (.q ⟨(some 33), (some (30, true)), .bin .eql (.t 32) (.c (.str []))⟩
 (.q ⟨(some 34), none, .pick (.t 30) (.t 33) (.c (.bool false))⟩
 (.q ⟨(some 2), none, .mov (.t 34)⟩
 .done))))))))))
 .ret)
 (.seq (.reg (.q ⟨(some 36), none, .bin .eql (.t 4) (.c (.int .i64 4))⟩
 (.q ⟨(some 35), none, .mov (.t 36)⟩
 .done)))
 (.cond (.t 35) (.seq (.reg (.q ⟨(some 37), none, .faddr 1 (.t 1)⟩
 (.q ⟨(some 38), none, .load 1 false (.t 37)⟩
 (.q ⟨(some 39), none, .call 81 [(.t 38), (.c (.int .i64 1)), (.c (.int .i64 1000000))]⟩
 (.q ⟨(some 40), none, .mov (.t 39)⟩
 (.q ⟨(some 41), (some (40, true)), .faddr 2 (.t 1)⟩
 (.q ⟨(some 42), (some (40, true)), .load 1 false (.t 41)⟩
 (.q ⟨(some 43), (some (40, true)), .bin .eql (.t 42) (.c (.str []))⟩
 (.q ⟨(some 44), none, .pick (.t 40) (.t 43) (.c (.bool false))⟩
 (.q ⟨(some 2), none, .mov (.t 44)⟩
 .done))))))))))
 .ret)
 .skip))))))))))
 (.seq (.reg (.q ⟨(some 2), none, .mov (.c (.bool false))⟩
 .done))
 .ret)))
theorem fc106 : fcomp Try.prog Try.f106 = some (c106.erase, [.mov (.t 2)], 45) := by kernel_rfl
def spec_AtomOK (a_1 : GAtom) : Option Bool :=
    if (a_1.Kind == 1) then
    (spec_l01In a_1.N (-1000000000) 1000000000).bind fun r_3 =>
    if r_3 then
    some (a_1.T == [])
    else
    some false
    else
    if (a_1.Kind == 2) then
    if (a_1.N == 0) then
    (spec_l01Text a_1.T).bind fun r_8 =>
    some r_8
    else
    some false
    else
    if (a_1.Kind == 3) then
    (spec_l01In a_1.N 0 1).bind fun r_11 =>
    if r_11 then
    some (a_1.T == [])
    else
    some false
    else
    if (a_1.Kind == 4) then
    (spec_l01In a_1.N 1 1000000).bind fun r_15 =>
    if r_15 then
    some (a_1.T == [])
    else
    some false
    else
    some false
theorem w_spec_AtomOK (a_1 : GAtom) (r : Bool) (hf : spec_AtomOK a_1 = some r) : CallOK Try.prog 106 .flat [(encGAtom a_1)] (.bool r) := by
  refine CallOK.of_awp mixed Try.func106 fc106 nle ?_
  rw [argT_eq]
  unfold spec_AtomOK at hf
  unfold c106
  refine (show awp Try.prog false 0 _ (ofL [(0, (encGAtom a_1))]) [] _ from ?_)
  refine awp_seq ?_
  refine w_reg ?_
  refine s_do (o_box (j := 0) (c := (.agg [(.int .i64 a_1.Kind), (.int .i64 a_1.N), (.str a_1.T)])) rfl trivial rfl rfl) ?_
  refine s_do (o_mov (.bool false) rfl) ?_
  refine w_done ?_
  refine k_seq ?_
  refine awp_seq ?_
  refine awp_seq ?_
  refine w_reg ?_
  refine s_do (o_q (.ptr 0 0 0) rfl trivial rfl) ?_
  refine s_do (o_q (.int .i64 a_1.Kind) rfl nle rfl) ?_
  refine w_done ?_
  refine k_seq ?_
  refine w_blk ?_
  refine awp_seq ?_
  refine w_reg ?_
  refine s_do (o_q (.bool (a_1.Kind == 1)) rfl rfl rfl) ?_
  refine s_do (o_mov (.bool (a_1.Kind == 1)) rfl) ?_
  refine w_done ?_
  refine k_seq ?_
  rcases oi hf with ⟨c2, hf⟩ | ⟨c2, hf⟩
  · refine w_condt rfl c2 ?_
    refine awp_seq ?_
    refine w_reg ?_
    obtain ⟨r_3, er4, hf⟩ := ob hf
    rcases oi hf with ⟨c5, hf⟩ | ⟨c5, hf⟩
    · refine s_do (o_q (.ptr 0 0 1) rfl trivial rfl) ?_
      refine s_do (o_q (.int .i64 a_1.N) rfl nle rfl) ?_
      refine s_do (o_call (w_spec_l01In _ _ _ _ er4) rfl (.refl _) rfl) ?_
      refine s_do (o_mov (.bool r_3) rfl) ?_
      refine s_lit (s := 10) (b := true) rfl c5 ?_
      refine s_on rfl ?_
      refine s_do (o_q (.ptr 0 0 2) rfl trivial rfl) ?_
      refine s_on rfl ?_
      refine s_do (o_q (.str a_1.T) rfl nle rfl) ?_
      refine s_on rfl ?_
      refine s_do (o_q (.bool (a_1.T == [])) rfl trivial rfl) ?_
      refine s_do (o_q (.bool (a_1.T == [])) rfl trivial rfl) ?_
      refine s_do (o_mov (.bool (a_1.T == [])) rfl) ?_
      refine w_done ?_
      refine k_seq ?_
      refine w_ret ?_
      obtain rfl := os hf
      exact r_flat ⟨trivial, trivial⟩ rfl (.refl _)
    · refine s_do (o_q (.ptr 0 0 1) rfl trivial rfl) ?_
      refine s_do (o_q (.int .i64 a_1.N) rfl nle rfl) ?_
      refine s_do (o_call (w_spec_l01In _ _ _ _ er4) rfl (.refl _) rfl) ?_
      refine s_do (o_mov (.bool r_3) rfl) ?_
      refine s_lit (s := 10) (b := false) rfl (bf c5) ?_
      refine s_off rfl rfl ?_
      refine s_off rfl rfl ?_
      refine s_off rfl rfl ?_
      refine s_do (o_q (.bool false) rfl trivial rfl) ?_
      refine s_do (o_mov (.bool false) rfl) ?_
      refine w_done ?_
      refine k_seq ?_
      refine w_ret ?_
      obtain rfl := os hf
      exact r_flat ⟨trivial, trivial⟩ rfl (.refl _)
  · refine w_condf rfl (bf c2) ?_
    refine awp_seq ?_
    refine w_reg ?_
    refine s_do (o_q (.bool (a_1.Kind == 2)) rfl rfl rfl) ?_
    refine s_do (o_mov (.bool (a_1.Kind == 2)) rfl) ?_
    refine w_done ?_
    refine k_seq ?_
    rcases oi hf with ⟨c6, hf⟩ | ⟨c6, hf⟩
    · refine w_condt rfl c6 ?_
      refine awp_seq ?_
      refine w_reg ?_
      rcases oi hf with ⟨c7, hf⟩ | ⟨c7, hf⟩
      · obtain ⟨r_8, er9, hf⟩ := ob hf
        refine s_do (o_q (.ptr 0 0 1) rfl trivial rfl) ?_
        refine s_do (o_q (.int .i64 a_1.N) rfl nle rfl) ?_
        refine s_do (o_q (.bool (a_1.N == 0)) rfl rfl rfl) ?_
        refine s_do (o_mov (.bool (a_1.N == 0)) rfl) ?_
        refine s_lit (s := 20) (b := true) rfl c7 ?_
        refine s_on rfl ?_
        refine s_do (o_q (.ptr 0 0 2) rfl trivial rfl) ?_
        refine s_on rfl ?_
        refine s_do (o_q (.str a_1.T) rfl nle rfl) ?_
        refine s_on rfl ?_
        refine s_do (o_call (w_spec_l01Text _ _ er9) rfl (.refl _) rfl) ?_
        refine s_do (o_q (.bool r_8) rfl trivial rfl) ?_
        refine s_do (o_mov (.bool r_8) rfl) ?_
        refine w_done ?_
        refine k_seq ?_
        refine w_ret ?_
        obtain rfl := os hf
        exact r_flat ⟨trivial, trivial⟩ rfl (.refl _)
      · refine s_do (o_q (.ptr 0 0 1) rfl trivial rfl) ?_
        refine s_do (o_q (.int .i64 a_1.N) rfl nle rfl) ?_
        refine s_do (o_q (.bool (a_1.N == 0)) rfl rfl rfl) ?_
        refine s_do (o_mov (.bool (a_1.N == 0)) rfl) ?_
        refine s_lit (s := 20) (b := false) rfl (bf c7) ?_
        refine s_off rfl rfl ?_
        refine s_off rfl rfl ?_
        refine s_off rfl rfl ?_
        refine s_do (o_q (.bool false) rfl trivial rfl) ?_
        refine s_do (o_mov (.bool false) rfl) ?_
        refine w_done ?_
        refine k_seq ?_
        refine w_ret ?_
        obtain rfl := os hf
        exact r_flat ⟨trivial, trivial⟩ rfl (.refl _)
    · refine w_condf rfl (bf c6) ?_
      refine awp_seq ?_
      refine w_reg ?_
      refine s_do (o_q (.bool (a_1.Kind == 3)) rfl rfl rfl) ?_
      refine s_do (o_mov (.bool (a_1.Kind == 3)) rfl) ?_
      refine w_done ?_
      refine k_seq ?_
      rcases oi hf with ⟨c10, hf⟩ | ⟨c10, hf⟩
      · refine w_condt rfl c10 ?_
        refine awp_seq ?_
        refine w_reg ?_
        obtain ⟨r_11, er12, hf⟩ := ob hf
        rcases oi hf with ⟨c13, hf⟩ | ⟨c13, hf⟩
        · refine s_do (o_q (.ptr 0 0 1) rfl trivial rfl) ?_
          refine s_do (o_q (.int .i64 a_1.N) rfl nle rfl) ?_
          refine s_do (o_call (w_spec_l01In _ _ _ _ er12) rfl (.refl _) rfl) ?_
          refine s_do (o_mov (.bool r_11) rfl) ?_
          refine s_lit (s := 30) (b := true) rfl c13 ?_
          refine s_on rfl ?_
          refine s_do (o_q (.ptr 0 0 2) rfl trivial rfl) ?_
          refine s_on rfl ?_
          refine s_do (o_q (.str a_1.T) rfl nle rfl) ?_
          refine s_on rfl ?_
          refine s_do (o_q (.bool (a_1.T == [])) rfl trivial rfl) ?_
          refine s_do (o_q (.bool (a_1.T == [])) rfl trivial rfl) ?_
          refine s_do (o_mov (.bool (a_1.T == [])) rfl) ?_
          refine w_done ?_
          refine k_seq ?_
          refine w_ret ?_
          obtain rfl := os hf
          exact r_flat ⟨trivial, trivial⟩ rfl (.refl _)
        · refine s_do (o_q (.ptr 0 0 1) rfl trivial rfl) ?_
          refine s_do (o_q (.int .i64 a_1.N) rfl nle rfl) ?_
          refine s_do (o_call (w_spec_l01In _ _ _ _ er12) rfl (.refl _) rfl) ?_
          refine s_do (o_mov (.bool r_11) rfl) ?_
          refine s_lit (s := 30) (b := false) rfl (bf c13) ?_
          refine s_off rfl rfl ?_
          refine s_off rfl rfl ?_
          refine s_off rfl rfl ?_
          refine s_do (o_q (.bool false) rfl trivial rfl) ?_
          refine s_do (o_mov (.bool false) rfl) ?_
          refine w_done ?_
          refine k_seq ?_
          refine w_ret ?_
          obtain rfl := os hf
          exact r_flat ⟨trivial, trivial⟩ rfl (.refl _)
      · refine w_condf rfl (bf c10) ?_
        refine awp_seq ?_
        refine w_reg ?_
        refine s_do (o_q (.bool (a_1.Kind == 4)) rfl rfl rfl) ?_
        refine s_do (o_mov (.bool (a_1.Kind == 4)) rfl) ?_
        refine w_done ?_
        refine k_seq ?_
        rcases oi hf with ⟨c14, hf⟩ | ⟨c14, hf⟩
        · refine w_condt rfl c14 ?_
          refine awp_seq ?_
          refine w_reg ?_
          obtain ⟨r_15, er16, hf⟩ := ob hf
          rcases oi hf with ⟨c17, hf⟩ | ⟨c17, hf⟩
          · refine s_do (o_q (.ptr 0 0 1) rfl trivial rfl) ?_
            refine s_do (o_q (.int .i64 a_1.N) rfl nle rfl) ?_
            refine s_do (o_call (w_spec_l01In _ _ _ _ er16) rfl (.refl _) rfl) ?_
            refine s_do (o_mov (.bool r_15) rfl) ?_
            refine s_lit (s := 40) (b := true) rfl c17 ?_
            refine s_on rfl ?_
            refine s_do (o_q (.ptr 0 0 2) rfl trivial rfl) ?_
            refine s_on rfl ?_
            refine s_do (o_q (.str a_1.T) rfl nle rfl) ?_
            refine s_on rfl ?_
            refine s_do (o_q (.bool (a_1.T == [])) rfl trivial rfl) ?_
            refine s_do (o_q (.bool (a_1.T == [])) rfl trivial rfl) ?_
            refine s_do (o_mov (.bool (a_1.T == [])) rfl) ?_
            refine w_done ?_
            refine k_seq ?_
            refine w_ret ?_
            obtain rfl := os hf
            exact r_flat ⟨trivial, trivial⟩ rfl (.refl _)
          · refine s_do (o_q (.ptr 0 0 1) rfl trivial rfl) ?_
            refine s_do (o_q (.int .i64 a_1.N) rfl nle rfl) ?_
            refine s_do (o_call (w_spec_l01In _ _ _ _ er16) rfl (.refl _) rfl) ?_
            refine s_do (o_mov (.bool r_15) rfl) ?_
            refine s_lit (s := 40) (b := false) rfl (bf c17) ?_
            refine s_off rfl rfl ?_
            refine s_off rfl rfl ?_
            refine s_off rfl rfl ?_
            refine s_do (o_q (.bool false) rfl trivial rfl) ?_
            refine s_do (o_mov (.bool false) rfl) ?_
            refine w_done ?_
            refine k_seq ?_
            refine w_ret ?_
            obtain rfl := os hf
            exact r_flat ⟨trivial, trivial⟩ rfl (.refl _)
        · refine w_condf rfl (bf c14) ?_
          refine w_skip ?_
          refine k_blk ?_
          refine k_seq ?_
          refine awp_seq ?_
          refine w_reg ?_
          refine s_do (o_mov (.bool false) rfl) ?_
          refine w_done ?_
          refine k_seq ?_
          refine w_ret ?_
          obtain rfl := os hf
          exact r_flat ⟨trivial, trivial⟩ rfl (.refl _)

/- spec.l13ToAtom -/
def c122 : ACode :=
 (.seq (.reg (.q ⟨(some 1), none, .box 5 (.t 0)⟩
 (.q ⟨(some 2), none, .box 3 (.c (.agg [(.int .i64 0), (.int .i64 0), (.str [])]))⟩
 (.q ⟨(some 3), none, .mov (.c (.bool false))⟩
 .done))))
 (.seq (.reg (.q ⟨(some 7), none, .build [(.int .i64 0), (.int .i64 0), (.str [])] []⟩
 (.q ⟨(some 4), none, .box 3 (.c (.agg [(.int .i64 0), (.int .i64 0), (.str [])]))⟩
 (.q ⟨none, none, .store 3 (.t 4) (.t 7)⟩
 .done))))
 (.seq (.seq (.reg (.q ⟨(some 8), none, .faddr 0 (.t 1)⟩
 (.q ⟨(some 9), none, .load 1 false (.t 8)⟩
 .done)))
 (.block 0 (.seq (.reg (.q ⟨(some 27), none, .bin .eql (.t 9) (.c (.int .i64 2))⟩
 (.q ⟨(some 26), none, .mov (.t 27)⟩
 .done)))
 (.cond (.t 26) (.reg (.q ⟨(some 28), none, .faddr 1 (.t 1)⟩
 (.q ⟨(some 29), none, .load 1 false (.t 28)⟩
 (.q ⟨(some 30), none, .build [(.int .i64 0), (.int .i64 0), (.str [])] [(0, 1, (.c (.int .i64 1))), (1, 1, (.t 29))]⟩
 (.q ⟨none, none, .store 3 (.t 4) (.t 30)⟩
 .done)))))
 (.seq (.reg (.q ⟨(some 32), none, .bin .eql (.t 9) (.c (.int .i64 3))⟩
 (.q ⟨(some 31), none, .mov (.t 32)⟩
 .done)))
 (.cond (.t 31) (.reg (.q ⟨(some 33), none, .faddr 2 (.t 1)⟩
 (.q ⟨(some 34), none, .load 1 false (.t 33)⟩
 (.q ⟨(some 35), none, .build [(.int .i64 0), (.int .i64 0), (.str [])] [(0, 1, (.c (.int .i64 2))), (2, 1, (.t 34))]⟩
 (.q ⟨none, none, .store 3 (.t 4) (.t 35)⟩
 .done)))))
 (.seq (.reg (.q ⟨(some 37), none, .bin .eql (.t 9) (.c (.int .i64 1))⟩
 (.q ⟨(some 36), none, .mov (.t 37)⟩
 .done)))
 (.cond (.t 36) (.reg (.q ⟨(some 38), none, .faddr 1 (.t 1)⟩
 (.q ⟨(some 39), none, .load 1 false (.t 38)⟩
 (.q ⟨(some 40), none, .build [(.int .i64 0), (.int .i64 0), (.str [])] [(0, 1, (.c (.int .i64 3))), (1, 1, (.t 39))]⟩
 (.q ⟨none, none, .store 3 (.t 4) (.t 40)⟩
 .done)))))
 (.seq (.reg (.q ⟨(some 11), none, .load 5 true (.t 1)⟩
 (.q ⟨(some 12), none, .call 182 [(.t 11), (.c (.str [117, 117, 105, 100]))]⟩
 (.q ⟨(some 10), none, .mov (.t 12)⟩
 (.q ⟨(some 13), none, .extract 0 (.t 10)⟩
 (.q ⟨(some 14), none, .extract 1 (.t 10)⟩
 (.q ⟨(some 5), none, .box 5 (.c (.agg [(.int .i64 0), (.int .i64 0), (.str []), .nil, .nil]))⟩
 (.q ⟨none, none, .store 5 (.t 5) (.t 13)⟩
 (.q ⟨(some 6), none, .mov (.t 14)⟩
 .done)))))))))
 (.seq (.seq (.reg (.q ⟨(some 15), none, .mov (.t 6)⟩
 (.q ⟨(some 16), none, .not (.t 15)⟩
 (.q ⟨(some 17), none, .mov (.t 16)⟩
 (.q ⟨(some 18), (some (17, false)), .faddr 0 (.t 5)⟩
 (.q ⟨(some 19), (some (17, false)), .load 1 false (.t 18)⟩
 (.q ⟨(some 20), (some (17, false)), .bin .neq (.t 19) (.c (.int .i64 2))⟩
 (.q ⟨(some 21), none, .pick (.t 17) (.c (.bool true)) (.t 20)⟩
 .done))))))))
 (.cut (.cond (.t 21) (.seq (.reg (.q ⟨(some 22), none, .build [(.int .i64 0), (.int .i64 0), (.str [])] []⟩
 (.q ⟨none, none, .store 3 (.t 2) (.t 22)⟩
 (.q ⟨(some 3), none, .mov (.c (.bool false))⟩
 .done))))
 .ret)
 .skip)))
 (.reg (.q ⟨(some 23), none, .faddr 1 (.t 5)⟩
 (.q ⟨(some 24), none, .load 1 false (.t 23)⟩
 (.q ⟨(some 25), none, .build [(.int .i64 0), (.int .i64 0), (.str [])] [(0, 1, (.c (.int .i64 4))), (1, 1, (.t 24))]⟩
 (.q ⟨none, none, .store 3 (.t 4) (.t 25)⟩
 .done)))))))))))))))
 (.cut (.seq (.seq (.reg (.q ⟨(some 41), none, .load 3 true (.t 4)⟩
 (.q ⟨(some 42), none, .call 106 [(.t 41)]⟩
 (.q ⟨(some 43), none, .not (.t 42)⟩
 .done))))
 (.cond (.t 43) (.seq (.reg (.q ⟨(some 44), none, .build [(.int .i64 0), (.int .i64 0), (.str [])] []⟩
 (.q ⟨none, none, .store 3 (.t 2) (.t 44)⟩
 (.q ⟨(some 3), none, .mov (.c (.bool false))⟩
 .done))))
 .ret)
 .skip))
 (.seq (.reg (.q ⟨(some 45), none, .load 3 true (.t 4)⟩
 (.q ⟨none, none, .store 3 (.t 2) (.t 45)⟩
 (.q ⟨(some 3), none, .mov (.c (.bool true))⟩
 .done))))
 .ret))))))
theorem fc122 : fcomp Try.prog Try.f122 = some (c122.erase, [.load 3 true (.t 2), .mov (.t 3)], 46) := by kernel_rfl
def spec_l13ToAtom (j_1 : GJson) : Option (GAtom × Bool) :=
    ((if (j_1.Kind == 2) then
    some (.go (1, j_1.N, []))
    else
    if (j_1.Kind == 3) then
    some (.go (2, 0, j_1.T))
    else
    if (j_1.Kind == 1) then
    some (.go (3, j_1.N, []))
    else
    (spec_l13Pair j_1 [117, 117, 105, 100]).bind fun r_19 =>
    ((if (!r_19.2) then
    some true
    else
    some (r_19.1.Kind != 2) : Option Bool)).bind fun s21_22 =>
    if s21_22 then
    some (.ret ((⟨0, 0, []⟩ : GAtom), false))
    else
    some (.go (4, r_19.1.N, [])) : Option (Fl (GAtom × Bool) (Int × Int × Str)))).bind fun q => (match q with
    | .ret r => some r
    | .go (x_12, x_13, x_14) =>
    (spec_AtomOK (⟨x_12, x_13, x_14⟩ : GAtom)).bind fun r_26 =>
    if (!r_26) then
    some ((⟨0, 0, []⟩ : GAtom), false)
    else
    some ((⟨x_12, x_13, x_14⟩ : GAtom), true))
theorem w_spec_l13ToAtom (j_1 : GJson) (r : (GAtom × Bool)) (hf : spec_l13ToAtom j_1 = some r) : CallOK Try.prog 122 .flat [(encGJson j_1)] (.tup [(encGAtom r.1), (.bool r.2)]) := by
  refine CallOK.of_awp mixed Try.func122 fc122 nle ?_
  rw [argT_eq]
  rw [encGJson_eq j_1]
  unfold spec_l13ToAtom at hf
  unfold c122
  refine (show awp Try.prog false 0 _ (ofL [(0, (.agg [(.int .i64 j_1.Kind), (.int .i64 j_1.N), (.str j_1.T), (.lst 1 (j_1.Keys.map AV.str)), (.lst 5 (j_1.Items.map encGJson))]))]) [] _ from ?_)
  refine awp_seq ?_
  refine w_reg ?_
  refine s_do (o_box (j := 0) (c := (.agg [(.int .i64 j_1.Kind), (.int .i64 j_1.N), (.str j_1.T), (.lst 1 (j_1.Keys.map AV.str)), (.lst 5 (j_1.Items.map encGJson))])) rfl trivial rfl rfl) ?_
  refine s_do (o_box (j := 1) (c := (.agg [(.int .i64 0), (.int .i64 0), (.str [])])) rfl trivial rfl rfl) ?_
  refine s_do (o_mov (.bool false) rfl) ?_
  refine w_done ?_
  refine k_seq ?_
  refine awp_seq ?_
  refine w_reg ?_
  refine s_do (o_q (.agg [(.int .i64 0), (.int .i64 0), (.str [])]) rfl trivial rfl) ?_
  refine s_do (o_box (j := 2) (c := (.agg [(.int .i64 0), (.int .i64 0), (.str [])])) rfl trivial rfl rfl) ?_
  refine s_do0 (o_storebox (v := (.agg [(.int .i64 0), (.int .i64 0), (.str [])])) (y' := (.agg [(.int .i64 0), (.int .i64 0), (.str [])])) rfl rfl rfl trivial ⟨rfl, nle⟩ ⟨⟨rfl, trivial⟩, ⟨⟨rfl, trivial⟩, ⟨⟨rfl, trivial⟩, trivial⟩⟩⟩ rfl) ?_
  refine w_done ?_
  refine k_seq ?_
  refine awp_seq ?_
  obtain ⟨p15, hb1, hf⟩ := ob hf
  refine awp_cutx (X := {q : (Int × Int × Str) // p15 = .go q}) (fun q => ([(2, (.ptr 0 0 0)), (4, (.ptr 1 0 0))], [.box 3 (.agg [(.int .i64 0), (.int .i64 0), (.str [])]), .box 3 (.agg [(.int .i64 q.1.1), (.int .i64 q.1.2.1), (.str q.1.2.2)])])) ?_ ?_
  · refine awp_seq ?_
    refine w_reg ?_
    refine s_do (o_q (.ptr 0 0 0) rfl trivial rfl) ?_
    refine s_do (o_q (.int .i64 j_1.Kind) rfl nle rfl) ?_
    refine w_done ?_
    refine k_seq ?_
    refine w_blk ?_
    refine awp_seq ?_
    refine w_reg ?_
    refine s_do (o_q (.bool (j_1.Kind == 2)) rfl rfl rfl) ?_
    refine s_do (o_mov (.bool (j_1.Kind == 2)) rfl) ?_
    refine w_done ?_
    refine k_seq ?_
    rcases oi hb1 with ⟨c16, hb1⟩ | ⟨c16, hb1⟩
    · refine w_condt rfl c16 ?_
      refine w_reg ?_
      refine s_do (o_q (.ptr 0 0 1) rfl trivial rfl) ?_
      refine s_do (o_q (.int .i64 j_1.N) rfl nle rfl) ?_
      refine s_do (o_q (.agg [(.int .i64 1), (.int .i64 j_1.N), (.str [])]) rfl ⟨⟨rfl, nle, trivial⟩, ⟨⟨rfl, nle, trivial⟩, trivial⟩⟩ rfl) ?_
      refine s_do0 (o_storebox (v := (.agg [(.int .i64 1), (.int .i64 j_1.N), (.str [])])) (y' := (.agg [(.int .i64 1), (.int .i64 j_1.N), (.str [])])) rfl rfl rfl trivial ⟨rfl, nle⟩ ⟨⟨rfl, trivial⟩, ⟨⟨rfl, trivial⟩, ⟨⟨rfl, trivial⟩, trivial⟩⟩⟩ rfl) ?_
      refine w_done ?_
      refine k_blk ?_
      obtain rfl := os hb1
      exact k_cutn ⟨_, rfl⟩ ⟨[], [1, 2], _, _, rfl, rfl, ⟨.refl _, ⟨.refl _, trivial⟩⟩, (.refl _)⟩
    · refine w_condf rfl (bf c16) ?_
      refine awp_seq ?_
      refine w_reg ?_
      refine s_do (o_q (.bool (j_1.Kind == 3)) rfl rfl rfl) ?_
      refine s_do (o_mov (.bool (j_1.Kind == 3)) rfl) ?_
      refine w_done ?_
      refine k_seq ?_
      rcases oi hb1 with ⟨c17, hb1⟩ | ⟨c17, hb1⟩
      · refine w_condt rfl c17 ?_
        refine w_reg ?_
        refine s_do (o_q (.ptr 0 0 2) rfl trivial rfl) ?_
        refine s_do (o_q (.str j_1.T) rfl nle rfl) ?_
        refine s_do (o_q (.agg [(.int .i64 2), (.int .i64 0), (.str j_1.T)]) rfl ⟨⟨rfl, nle, trivial⟩, ⟨⟨rfl, nle, trivial⟩, trivial⟩⟩ rfl) ?_
        refine s_do0 (o_storebox (v := (.agg [(.int .i64 2), (.int .i64 0), (.str j_1.T)])) (y' := (.agg [(.int .i64 2), (.int .i64 0), (.str j_1.T)])) rfl rfl rfl trivial ⟨rfl, nle⟩ ⟨⟨rfl, trivial⟩, ⟨⟨rfl, trivial⟩, ⟨⟨rfl, trivial⟩, trivial⟩⟩⟩ rfl) ?_
        refine w_done ?_
        refine k_blk ?_
        obtain rfl := os hb1
        exact k_cutn ⟨_, rfl⟩ ⟨[], [1, 2], _, _, rfl, rfl, ⟨.refl _, ⟨.refl _, trivial⟩⟩, (.refl _)⟩
      · refine w_condf rfl (bf c17) ?_
        refine awp_seq ?_
        refine w_reg ?_
        refine s_do (o_q (.bool (j_1.Kind == 1)) rfl rfl rfl) ?_
        refine s_do (o_mov (.bool (j_1.Kind == 1)) rfl) ?_
        refine w_done ?_
        refine k_seq ?_
        rcases oi hb1 with ⟨c18, hb1⟩ | ⟨c18, hb1⟩
        · refine w_condt rfl c18 ?_
          refine w_reg ?_
          refine s_do (o_q (.ptr 0 0 1) rfl trivial rfl) ?_
          refine s_do (o_q (.int .i64 j_1.N) rfl nle rfl) ?_
          refine s_do (o_q (.agg [(.int .i64 3), (.int .i64 j_1.N), (.str [])]) rfl ⟨⟨rfl, nle, trivial⟩, ⟨⟨rfl, nle, trivial⟩, trivial⟩⟩ rfl) ?_
          refine s_do0 (o_storebox (v := (.agg [(.int .i64 3), (.int .i64 j_1.N), (.str [])])) (y' := (.agg [(.int .i64 3), (.int .i64 j_1.N), (.str [])])) rfl rfl rfl trivial ⟨rfl, nle⟩ ⟨⟨rfl, trivial⟩, ⟨⟨rfl, trivial⟩, ⟨⟨rfl, trivial⟩, trivial⟩⟩⟩ rfl) ?_
          refine w_done ?_
          refine k_blk ?_
          obtain rfl := os hb1
          exact k_cutn ⟨_, rfl⟩ ⟨[], [1, 2], _, _, rfl, rfl, ⟨.refl _, ⟨.refl _, trivial⟩⟩, (.refl _)⟩
        · refine w_condf rfl (bf c18) ?_
          refine awp_seq ?_
          refine w_reg ?_
          obtain ⟨r_19, er20, hb1⟩ := ob hb1
          refine s_do (o_q (.agg [(.int .i64 j_1.Kind), (.int .i64 j_1.N), (.str j_1.T), (.lst 1 (j_1.Keys.map AV.str)), (.lst 5 (j_1.Items.map encGJson))]) rfl nle rfl) ?_
          refine s_do (o_callw (v := (.tup [(.agg [(.int .i64 r_19.1.Kind), (.int .i64 r_19.1.N), (.str r_19.1.T), (.lst 1 (r_19.1.Keys.map AV.str)), (.lst 5 (r_19.1.Items.map encGJson))]), (.bool r_19.2)])) (w_spec_l13Pair _ _ _ er20) rfl (.cons (.of_eq (encGJson_eq j_1).symm) (.cons (.refl _) .nil)) (by simp only [encGJson_eq]) rfl) ?_
          refine s_do (o_mov (.tup [(.agg [(.int .i64 r_19.1.Kind), (.int .i64 r_19.1.N), (.str r_19.1.T), (.lst 1 (r_19.1.Keys.map AV.str)), (.lst 5 (r_19.1.Items.map encGJson))]), (.bool r_19.2)]) rfl) ?_
          refine s_do (o_q (.agg [(.int .i64 r_19.1.Kind), (.int .i64 r_19.1.N), (.str r_19.1.T), (.lst 1 (r_19.1.Keys.map AV.str)), (.lst 5 (r_19.1.Items.map encGJson))]) rfl nle rfl) ?_
          refine s_do (o_q (.bool r_19.2) rfl nle rfl) ?_
          refine s_do (o_box (j := 3) (c := (.agg [(.int .i64 0), (.int .i64 0), (.str []), .nil, .nil])) rfl trivial rfl rfl) ?_
          refine s_do0 (o_storebox (v := (.agg [(.int .i64 r_19.1.Kind), (.int .i64 r_19.1.N), (.str r_19.1.T), (.lst 1 (r_19.1.Keys.map AV.str)), (.lst 5 (r_19.1.Items.map encGJson))])) (y' := (.agg [(.int .i64 r_19.1.Kind), (.int .i64 r_19.1.N), (.str r_19.1.T), (.lst 1 (r_19.1.Keys.map AV.str)), (.lst 5 (r_19.1.Items.map encGJson))])) rfl rfl rfl trivial ⟨rfl, nle⟩ ⟨⟨rfl, trivial⟩, ⟨⟨rfl, trivial⟩, ⟨⟨rfl, trivial⟩, ⟨⟨rfl, trivial⟩, ⟨⟨rfl, trivial⟩, trivial⟩⟩⟩⟩⟩ rfl) ?_
          refine s_do (o_mov (.bool r_19.2) rfl) ?_
          refine w_done ?_
          refine k_seq ?_
          refine awp_seq ?_
          refine awp_seq ?_
          obtain ⟨s21_22, hb2, hb1⟩ := ob hb1
          refine awp_cut ([(2, (.ptr 0 0 0)), (4, (.ptr 1 0 0)), (5, (.ptr 2 0 0)), (21, (.bool s21_22))], [.box 3 (.agg [(.int .i64 0), (.int .i64 0), (.str [])]), .box 3 (.agg [(.int .i64 0), (.int .i64 0), (.str [])]), .box 5 (.agg [(.int .i64 r_19.1.Kind), (.int .i64 r_19.1.N), (.str r_19.1.T), (.lst 1 (r_19.1.Keys.map AV.str)), (.lst 5 (r_19.1.Items.map encGJson))])]) ?_ ?_
          · refine w_reg ?_
            rcases oi hb2 with ⟨c24, hb2⟩ | ⟨c24, hb2⟩
            · refine s_do (o_mov (.bool r_19.2) rfl) ?_
              refine s_do (o_q (.bool (!r_19.2)) rfl trivial rfl) ?_
              refine s_do (o_mov (.bool (!r_19.2)) rfl) ?_
              refine s_lit (s := 17) (b := true) rfl c24 ?_
              refine s_off rfl rfl ?_
              refine s_off rfl rfl ?_
              refine s_off rfl rfl ?_
              refine s_do (o_q (.bool true) rfl trivial rfl) ?_
              refine w_done ?_
              obtain rfl := os hb2
              exact ⟨[], [1, 2, 3], _, _, rfl, rfl, ⟨.refl _, ⟨.refl _, ⟨.refl _, ⟨.refl _, trivial⟩⟩⟩⟩, (.refl _)⟩
            · refine s_do (o_mov (.bool r_19.2) rfl) ?_
              refine s_do (o_q (.bool (!r_19.2)) rfl trivial rfl) ?_
              refine s_do (o_mov (.bool (!r_19.2)) rfl) ?_
              refine s_lit (s := 17) (b := false) rfl (bf c24) ?_
              refine s_on rfl ?_
              refine s_do (o_q (.ptr 3 0 0) rfl trivial rfl) ?_
              refine s_on rfl ?_
              refine s_do (o_q (.int .i64 r_19.1.Kind) rfl nle rfl) ?_
              refine s_on rfl ?_
              refine s_do (o_q (.bool (r_19.1.Kind != 2)) rfl rfl rfl) ?_
              refine s_do (o_q (.bool (r_19.1.Kind != 2)) rfl trivial rfl) ?_
              refine w_done ?_
              obtain rfl := os hb2
              exact ⟨[], [1, 2, 3], _, _, rfl, rfl, ⟨.refl _, ⟨.refl _, ⟨.refl _, ⟨.refl _, trivial⟩⟩⟩⟩, (.refl _)⟩
          · rcases oi hb1 with ⟨c25, hb1⟩ | ⟨c25, hb1⟩
            · refine w_condt rfl c25 ?_
              refine awp_seq ?_
              refine w_reg ?_
              refine s_do (o_q (.agg [(.int .i64 0), (.int .i64 0), (.str [])]) rfl trivial rfl) ?_
              refine s_do0 (o_storebox (v := (.agg [(.int .i64 0), (.int .i64 0), (.str [])])) (y' := (.agg [(.int .i64 0), (.int .i64 0), (.str [])])) rfl rfl rfl trivial ⟨rfl, nle⟩ ⟨⟨rfl, trivial⟩, ⟨⟨rfl, trivial⟩, ⟨⟨rfl, trivial⟩, trivial⟩⟩⟩ rfl) ?_
              refine s_do (o_mov (.bool false) rfl) ?_
              refine w_done ?_
              refine k_seq ?_
              refine w_ret ?_
              obtain rfl := os hb1
              obtain rfl := os hf
              exact r_flat ⟨nle, ⟨trivial, trivial⟩⟩ rfl (.refl _)
            · refine w_condf rfl (bf c25) ?_
              refine w_skip ?_
              refine k_seq ?_
              refine w_reg ?_
              refine s_do (o_q (.ptr 2 0 1) rfl trivial rfl) ?_
              refine s_do (o_q (.int .i64 r_19.1.N) rfl nle rfl) ?_
              refine s_do (o_q (.agg [(.int .i64 4), (.int .i64 r_19.1.N), (.str [])]) rfl ⟨⟨rfl, nle, trivial⟩, ⟨⟨rfl, nle, trivial⟩, trivial⟩⟩ rfl) ?_
              refine s_do0 (o_storebox (v := (.agg [(.int .i64 4), (.int .i64 r_19.1.N), (.str [])])) (y' := (.agg [(.int .i64 4), (.int .i64 r_19.1.N), (.str [])])) rfl rfl rfl trivial ⟨rfl, nle⟩ ⟨⟨rfl, trivial⟩, ⟨⟨rfl, trivial⟩, ⟨⟨rfl, trivial⟩, trivial⟩⟩⟩ rfl) ?_
              refine w_done ?_
              refine k_blk ?_
              obtain rfl := os hb1
              exact k_cutn ⟨_, rfl⟩ ⟨[], [0, 1], _, _, rfl, rfl, ⟨.refl _, ⟨.refl _, trivial⟩⟩, (.refl _)⟩
  · rintro ⟨⟨x_12, x_13, x_14⟩, rfl⟩
    refine awp_seq ?_
    refine awp_seq ?_
    refine w_reg ?_
    obtain ⟨r_26, er27, hf⟩ := ob hf
    refine s_do (o_q (.agg [(.int .i64 x_12), (.int .i64 x_13), (.str x_14)]) rfl nle rfl) ?_
    refine s_do (o_call (w_spec_AtomOK _ _ er27) rfl (.refl _) rfl) ?_
    refine s_do (o_q (.bool (!r_26)) rfl trivial rfl) ?_
    refine w_done ?_
    refine k_seq ?_
    rcases oi hf with ⟨c28, hf⟩ | ⟨c28, hf⟩
    · refine w_condt rfl c28 ?_
      refine awp_seq ?_
      refine w_reg ?_
      refine s_do (o_q (.agg [(.int .i64 0), (.int .i64 0), (.str [])]) rfl trivial rfl) ?_
      refine s_do0 (o_storebox (v := (.agg [(.int .i64 0), (.int .i64 0), (.str [])])) (y' := (.agg [(.int .i64 0), (.int .i64 0), (.str [])])) rfl rfl rfl trivial ⟨rfl, nle⟩ ⟨⟨rfl, trivial⟩, ⟨⟨rfl, trivial⟩, ⟨⟨rfl, trivial⟩, trivial⟩⟩⟩ rfl) ?_
      refine s_do (o_mov (.bool false) rfl) ?_
      refine w_done ?_
      refine k_seq ?_
      refine w_ret ?_
      obtain rfl := os hf
      exact r_flat ⟨nle, ⟨trivial, trivial⟩⟩ rfl (.refl _)
    · refine w_condf rfl (bf c28) ?_
      refine w_skip ?_
      refine k_seq ?_
      refine awp_seq ?_
      refine w_reg ?_
      refine s_do (o_q (.agg [(.int .i64 x_12), (.int .i64 x_13), (.str x_14)]) rfl nle rfl) ?_
      refine s_do0 (o_storebox (v := (.agg [(.int .i64 x_12), (.int .i64 x_13), (.str x_14)])) (y' := (.agg [(.int .i64 x_12), (.int .i64 x_13), (.str x_14)])) rfl rfl rfl trivial ⟨rfl, nle⟩ ⟨⟨rfl, trivial⟩, ⟨⟨rfl, trivial⟩, ⟨⟨rfl, trivial⟩, trivial⟩⟩⟩ rfl) ?_
      refine s_do (o_mov (.bool true) rfl) ?_
      refine w_done ?_
      refine k_seq ?_
      refine w_ret ?_
      obtain rfl := os hf
      exact r_flat ⟨nle, ⟨trivial, trivial⟩⟩ rfl (.refl _)

/- spec.JsonAtom -/
def c48 : ACode :=
 (.seq (.reg (.q ⟨(some 1), none, .box 5 (.t 0)⟩
 (.q ⟨(some 2), none, .box 3 (.c (.agg [(.int .i64 0), (.int .i64 0), (.str [])]))⟩
 (.q ⟨(some 3), none, .mov (.c (.int .i64 0))⟩
 .done))))
 (.seq (.seq (.reg (.q ⟨(some 6), none, .load 5 true (.t 1)⟩
 (.q ⟨(some 7), none, .call 121 [(.t 6)]⟩
 (.q ⟨(some 8), none, .not (.t 7)⟩
 .done))))
 (.cond (.t 8) (.seq (.reg (.q ⟨(some 9), none, .build [(.int .i64 0), (.int .i64 0), (.str [])] []⟩
 (.q ⟨none, none, .store 3 (.t 2) (.t 9)⟩
 (.q ⟨(some 3), none, .mov (.c (.int .i64 1))⟩
 .done))))
 .ret)
 .skip))
 (.seq (.reg (.q ⟨(some 11), none, .load 5 true (.t 1)⟩
 (.q ⟨(some 12), none, .call 122 [(.t 11)]⟩
 (.q ⟨(some 10), none, .mov (.t 12)⟩
 (.q ⟨(some 13), none, .extract 0 (.t 10)⟩
 (.q ⟨(some 14), none, .extract 1 (.t 10)⟩
 (.q ⟨(some 4), none, .box 3 (.c (.agg [(.int .i64 0), (.int .i64 0), (.str [])]))⟩
 (.q ⟨none, none, .store 3 (.t 4) (.t 13)⟩
 (.q ⟨(some 5), none, .mov (.t 14)⟩
 .done)))))))))
 (.seq (.seq (.reg (.q ⟨(some 15), none, .mov (.t 5)⟩
 (.q ⟨(some 16), none, .not (.t 15)⟩
 .done)))
 (.cond (.t 16) (.seq (.reg (.q ⟨(some 17), none, .build [(.int .i64 0), (.int .i64 0), (.str [])] []⟩
 (.q ⟨none, none, .store 3 (.t 2) (.t 17)⟩
 (.q ⟨(some 3), none, .mov (.c (.int .i64 3))⟩
 .done))))
 .ret)
 .skip))
 (.seq (.reg (.q ⟨(some 18), none, .load 3 true (.t 4)⟩
 (.q ⟨none, none, .store 3 (.t 2) (.t 18)⟩
 (.q ⟨(some 3), none, .mov (.c (.int .i64 0))⟩
 .done))))
 .ret)))))
theorem fc48 : fcomp Try.prog Try.f48 = some (c48.erase, [.load 3 true (.t 2), .mov (.t 3)], 19) := by kernel_rfl
def spec_JsonAtom (j_1 : GJson) : Option (GAtom × Int) :=
    (spec_JsonOK j_1).bind fun r_2 =>
    if (!r_2) then
    some ((⟨0, 0, []⟩ : GAtom), 1)
    else
    (spec_l13ToAtom j_1).bind fun r_5 =>
    if (!r_5.2) then
    some ((⟨0, 0, []⟩ : GAtom), 3)
    else
    some (r_5.1, 0)
theorem w_spec_JsonAtom (j_1 : GJson) (r : (GAtom × Int)) (hf : spec_JsonAtom j_1 = some r) : CallOK Try.prog 48 .flat [(encGJson j_1)] (.tup [(encGAtom r.1), (.int .i64 r.2)]) := by
  refine CallOK.of_awp mixed Try.func48 fc48 nle ?_
  rw [argT_eq]
  rw [encGJson_eq j_1]
  unfold spec_JsonAtom at hf
  unfold c48
  refine (show awp Try.prog false 0 _ (ofL [(0, (.agg [(.int .i64 j_1.Kind), (.int .i64 j_1.N), (.str j_1.T), (.lst 1 (j_1.Keys.map AV.str)), (.lst 5 (j_1.Items.map encGJson))]))]) [] _ from ?_)
  refine awp_seq ?_
  refine w_reg ?_
  refine s_do (o_box (j := 0) (c := (.agg [(.int .i64 j_1.Kind), (.int .i64 j_1.N), (.str j_1.T), (.lst 1 (j_1.Keys.map AV.str)), (.lst 5 (j_1.Items.map encGJson))])) rfl trivial rfl rfl) ?_
  refine s_do (o_box (j := 1) (c := (.agg [(.int .i64 0), (.int .i64 0), (.str [])])) rfl trivial rfl rfl) ?_
  refine s_do (o_mov (.int .i64 0) rfl) ?_
  refine w_done ?_
  refine k_seq ?_
  refine awp_seq ?_
  refine awp_seq ?_
  refine w_reg ?_
  obtain ⟨r_2, er3, hf⟩ := ob hf
  refine s_do (o_q (.agg [(.int .i64 j_1.Kind), (.int .i64 j_1.N), (.str j_1.T), (.lst 1 (j_1.Keys.map AV.str)), (.lst 5 (j_1.Items.map encGJson))]) rfl nle rfl) ?_
  refine s_do (o_call (w_spec_JsonOK _ _ er3) rfl (.cons (.of_eq (encGJson_eq j_1).symm) .nil) rfl) ?_
  refine s_do (o_q (.bool (!r_2)) rfl trivial rfl) ?_
  refine w_done ?_
  refine k_seq ?_
  rcases oi hf with ⟨c4, hf⟩ | ⟨c4, hf⟩
  · refine w_condt rfl c4 ?_
    refine awp_seq ?_
    refine w_reg ?_
    refine s_do (o_q (.agg [(.int .i64 0), (.int .i64 0), (.str [])]) rfl trivial rfl) ?_
    refine s_do0 (o_storebox (v := (.agg [(.int .i64 0), (.int .i64 0), (.str [])])) (y' := (.agg [(.int .i64 0), (.int .i64 0), (.str [])])) rfl rfl rfl trivial ⟨rfl, nle⟩ ⟨⟨rfl, trivial⟩, ⟨⟨rfl, trivial⟩, ⟨⟨rfl, trivial⟩, trivial⟩⟩⟩ rfl) ?_
    refine s_do (o_mov (.int .i64 1) rfl) ?_
    refine w_done ?_
    refine k_seq ?_
    refine w_ret ?_
    obtain rfl := os hf
    exact r_flat ⟨nle, ⟨trivial, trivial⟩⟩ rfl (.refl _)
  · refine w_condf rfl (bf c4) ?_
    refine w_skip ?_
    refine k_seq ?_
    refine awp_seq ?_
    refine w_reg ?_
    obtain ⟨r_5, er6, hf⟩ := ob hf
    refine s_do (o_q (.agg [(.int .i64 j_1.Kind), (.int .i64 j_1.N), (.str j_1.T), (.lst 1 (j_1.Keys.map AV.str)), (.lst 5 (j_1.Items.map encGJson))]) rfl nle rfl) ?_
    refine s_do (o_call (w_spec_l13ToAtom _ _ er6) rfl (.cons (.of_eq (encGJson_eq j_1).symm) .nil) rfl) ?_
    refine s_do (o_mov (.tup [(encGAtom r_5.1), (.bool r_5.2)]) rfl) ?_
    refine s_do (o_q (encGAtom r_5.1) rfl nle rfl) ?_
    refine s_do (o_q (.bool r_5.2) rfl nle rfl) ?_
    refine s_do (o_box (j := 2) (c := (.agg [(.int .i64 0), (.int .i64 0), (.str [])])) rfl trivial rfl rfl) ?_
    refine s_do0 (o_storebox (v := (.agg [(.int .i64 r_5.1.Kind), (.int .i64 r_5.1.N), (.str r_5.1.T)])) (y' := (.agg [(.int .i64 r_5.1.Kind), (.int .i64 r_5.1.N), (.str r_5.1.T)])) rfl rfl rfl trivial ⟨rfl, nle⟩ ⟨⟨rfl, trivial⟩, ⟨⟨rfl, trivial⟩, ⟨⟨rfl, trivial⟩, trivial⟩⟩⟩ rfl) ?_
    refine s_do (o_mov (.bool r_5.2) rfl) ?_
    refine w_done ?_
    refine k_seq ?_
    refine awp_seq ?_
    refine awp_seq ?_
    refine w_reg ?_
    refine s_do (o_mov (.bool r_5.2) rfl) ?_
    refine s_do (o_q (.bool (!r_5.2)) rfl trivial rfl) ?_
    refine w_done ?_
    refine k_seq ?_
    rcases oi hf with ⟨c7, hf⟩ | ⟨c7, hf⟩
    · refine w_condt rfl c7 ?_
      refine awp_seq ?_
      refine w_reg ?_
      refine s_do (o_q (.agg [(.int .i64 0), (.int .i64 0), (.str [])]) rfl trivial rfl) ?_
      refine s_do0 (o_storebox (v := (.agg [(.int .i64 0), (.int .i64 0), (.str [])])) (y' := (.agg [(.int .i64 0), (.int .i64 0), (.str [])])) rfl rfl rfl trivial ⟨rfl, nle⟩ ⟨⟨rfl, trivial⟩, ⟨⟨rfl, trivial⟩, ⟨⟨rfl, trivial⟩, trivial⟩⟩⟩ rfl) ?_
      refine s_do (o_mov (.int .i64 3) rfl) ?_
      refine w_done ?_
      refine k_seq ?_
      refine w_ret ?_
      obtain rfl := os hf
      exact r_flat ⟨nle, ⟨trivial, trivial⟩⟩ rfl (.refl _)
    · refine w_condf rfl (bf c7) ?_
      refine w_skip ?_
      refine k_seq ?_
      refine awp_seq ?_
      refine w_reg ?_
      refine s_do (o_q (.agg [(.int .i64 r_5.1.Kind), (.int .i64 r_5.1.N), (.str r_5.1.T)]) rfl nle rfl) ?_
      refine s_do0 (o_storebox (v := (.agg [(.int .i64 r_5.1.Kind), (.int .i64 r_5.1.N), (.str r_5.1.T)])) (y' := (.agg [(.int .i64 r_5.1.Kind), (.int .i64 r_5.1.N), (.str r_5.1.T)])) rfl rfl rfl trivial ⟨rfl, nle⟩ ⟨⟨rfl, trivial⟩, ⟨⟨rfl, trivial⟩, ⟨⟨rfl, trivial⟩, trivial⟩⟩⟩ rfl) ?_
      refine s_do (o_mov (.int .i64 0) rfl) ?_
      refine w_done ?_
      refine k_seq ?_
      refine w_ret ?_
      obtain rfl := os hf
      exact r_flat ⟨nle, ⟨trivial, trivial⟩⟩ rfl (.refl _)

/- impl.within -/
def c86 : ACode :=
 (.seq (.reg (.q ⟨(some 6), none, .mov (.c (.bool false))⟩
 .done))
 (.seq (.reg (.q ⟨(some 7), none, .mov (.t 0)⟩
 (.q ⟨(some 8), none, .mov (.t 1)⟩
 (.q ⟨(some 9), none, .bin .geq (.t 7) (.t 8)⟩
 (.q ⟨(some 10), none, .mov (.t 9)⟩
 (.q ⟨(some 11), (some (10, true)), .mov (.t 0)⟩
 (.q ⟨(some 12), (some (10, true)), .mov (.t 2)⟩
 (.q ⟨(some 13), (some (10, true)), .bin .leq (.t 11) (.t 12)⟩
 (.q ⟨(some 14), none, .pick (.t 10) (.t 13) (.c (.bool false))⟩
 (.q ⟨(some 6), none, .mov (.t 14)⟩
 .done))))))))))
 .ret))
theorem fc86 : fcomp Try.prog Try.f86 = some (c86.erase, [.mov (.t 6)], 15) := by kernel_rfl
def impl_within (n_1 : Int) (low_2 : Int) (high_3 : Int) : Option Bool :=
    if (decide (n_1 ≥ low_2)) then
    some (decide (n_1 ≤ high_3))
    else
    some false
theorem w_impl_within (n_1 : Int) (low_2 : Int) (high_3 : Int) (r : Bool) (hf : impl_within n_1 low_2 high_3 = some r) : CallOK Try.prog 86 .flat [(.int .i64 n_1), (.int .i64 low_2), (.int .i64 high_3)] (.bool r) := by
  refine CallOK.of_awp mixed Try.func86 fc86 nle ?_
  rw [argT_eq]
  unfold impl_within at hf
  unfold c86
  refine (show awp Try.prog false 0 _ (ofL [(0, (.int .i64 n_1)), (1, (.int .i64 low_2)), (2, (.int .i64 high_3))]) [] _ from ?_)
  refine awp_seq ?_
  refine w_reg ?_
  refine s_do (o_mov (.bool false) rfl) ?_
  refine w_done ?_
  refine k_seq ?_
  refine awp_seq ?_
  refine w_reg ?_
  rcases oi hf with ⟨c4, hf⟩ | ⟨c4, hf⟩
  · refine s_do (o_mov (.int .i64 n_1) rfl) ?_
    refine s_do (o_mov (.int .i64 low_2) rfl) ?_
    refine s_do (o_q (.bool (decide (n_1 ≥ low_2))) rfl rfl rfl) ?_
    refine s_do (o_mov (.bool (decide (n_1 ≥ low_2))) rfl) ?_
    refine s_lit (s := 10) (b := true) rfl c4 ?_
    refine s_on rfl ?_
    refine s_do (o_mov (.int .i64 n_1) rfl) ?_
    refine s_on rfl ?_
    refine s_do (o_mov (.int .i64 high_3) rfl) ?_
    refine s_on rfl ?_
    refine s_do (o_q (.bool (decide (n_1 ≤ high_3))) rfl rfl rfl) ?_
    refine s_do (o_q (.bool (decide (n_1 ≤ high_3))) rfl trivial rfl) ?_
    refine s_do (o_mov (.bool (decide (n_1 ≤ high_3))) rfl) ?_
    refine w_done ?_
    refine k_seq ?_
    refine w_ret ?_
    obtain rfl := os hf
    exact r_flat ⟨trivial, trivial⟩ rfl (.refl _)
  · refine s_do (o_mov (.int .i64 n_1) rfl) ?_
    refine s_do (o_mov (.int .i64 low_2) rfl) ?_
    refine s_do (o_q (.bool (decide (n_1 ≥ low_2))) rfl rfl rfl) ?_
    refine s_do (o_mov (.bool (decide (n_1 ≥ low_2))) rfl) ?_
    refine s_lit (s := 10) (b := false) rfl (bf c4) ?_
    refine s_off rfl rfl ?_
    refine s_off rfl rfl ?_
    refine s_off rfl rfl ?_
    refine s_do (o_q (.bool false) rfl trivial rfl) ?_
    refine s_do (o_mov (.bool false) rfl) ?_
    refine w_done ?_
    refine k_seq ?_
    refine w_ret ?_
    obtain rfl := os hf
    exact r_flat ⟨trivial, trivial⟩ rfl (.refl _)

end Go.R
