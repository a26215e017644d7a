/- Walks. -/
import Derived.Test.YthejoafcjkoahaaOOT
set_option linter.all false
namespace Go.R
open Go Go.Proofs
set_option linter.unusedVariables false
set_option linter.unusedSimpArgs false
set_option maxHeartbeats 8000000
/- laws.szAtom -/
def c126 : ACode :=
 (.seq (.reg (.q ⟨(some 2), none, .box 3 (.t 0)⟩
 (.q ⟨(some 4), none, .mov (.c (.int .i64 0))⟩
 .done)))
 (.seq (.reg (.q ⟨(some 5), none, .mov (.t 1)⟩
 (.q ⟨(some 6), none, .faddr 2 (.t 2)⟩
 (.q ⟨(some 7), none, .load 1 false (.t 6)⟩
 (.q ⟨(some 8), none, .lenS (.t 7)⟩
 (.q ⟨(some 9), none, .bin .sub (.t 5) (.t 8)⟩
 (.q ⟨(some 1), none, .mov (.t 9)⟩
 .done)))))))
 (.seq (.seq (.reg (.q ⟨(some 10), none, .mov (.t 1)⟩
 (.q ⟨(some 11), none, .bin .lss (.t 10) (.c (.int .i64 0))⟩
 .done)))
 (.cond (.t 11) (.seq (.reg (.q ⟨(some 4), none, .mov (.c (.int .i64 (-1)))⟩
 .done))
 .ret)
 .skip))
 (.seq (.reg (.q ⟨(some 12), none, .mov (.t 1)⟩
 (.q ⟨(some 4), none, .mov (.t 12)⟩
 .done)))
 .ret))))
theorem fc126 : fcomp Try.prog Try.f126 = some (c126.erase, [.mov (.t 4)], 13) := by kernel_rfl
def laws_szAtom (a_1 : GAtom) (left_2 : Int) : Option Int :=
    if (decide (w64 (left_2 - (a_1.T.length : Int)) < 0)) then
    some (-1)
    else
    some (w64 (left_2 - (a_1.T.length : Int)))
theorem w_laws_szAtom (a_1 : GAtom) (left_2 : Int) (r : Int) (hf : laws_szAtom a_1 left_2 = some r) : CallOK Try.prog 126 .flat [(encGAtom a_1), (.int .i64 left_2)] (.int .i64 r) := by
  refine CallOK.of_awp mixed Try.func126 fc126 nle ?_
  rw [argT_eq]
  unfold laws_szAtom at hf
  unfold c126
  refine (show awp Try.prog false 0 _ (ofL [(0, (encGAtom a_1)), (1, (.int .i64 left_2))]) [] _ from ?_)
  refine awp_seq ?_
  refine w_reg ?_
  refine s_do (o_box (j := 0) (c := (.agg [(.int .i64 a_1.Kind), (.int .i64 a_1.N), (.str a_1.T)])) rfl trivial rfl rfl) ?_
  refine s_do (o_mov (.int .i64 0) rfl) ?_
  refine w_done ?_
  refine k_seq ?_
  refine awp_seq ?_
  refine w_reg ?_
  refine s_do (o_mov (.int .i64 left_2) rfl) ?_
  refine s_do (o_q (.ptr 0 0 2) rfl trivial rfl) ?_
  refine s_do (o_q (.str a_1.T) rfl nle rfl) ?_
  refine s_dof (o_lenS rfl) fun hl3 => ?_
  refine s_do (o_q (.int .i64 (w64 (left_2 - (a_1.T.length : Int)))) rfl rfl rfl) ?_
  refine s_do (o_mov (.int .i64 (w64 (left_2 - (a_1.T.length : Int)))) rfl) ?_
  refine w_done ?_
  refine k_seq ?_
  refine awp_seq ?_
  refine awp_seq ?_
  refine w_reg ?_
  refine s_do (o_mov (.int .i64 (w64 (left_2 - (a_1.T.length : Int)))) rfl) ?_
  refine s_do (o_q (.bool (decide (w64 (left_2 - (a_1.T.length : Int)) < 0))) rfl rfl rfl) ?_
  refine w_done ?_
  refine k_seq ?_
  rcases oi hf with ⟨c4, hf⟩ | ⟨c4, hf⟩
  · refine w_condt rfl c4 ?_
    refine awp_seq ?_
    refine w_reg ?_
    refine s_do (o_mov (.int .i64 (-1)) rfl) ?_
    refine w_done ?_
    refine k_seq ?_
    refine w_ret ?_
    obtain rfl := os hf
    exact r_flat ⟨trivial, trivial⟩ rfl (.refl _)
  · refine w_condf rfl (bf c4) ?_
    refine w_skip ?_
    refine k_seq ?_
    refine awp_seq ?_
    refine w_reg ?_
    refine s_do (o_mov (.int .i64 (w64 (left_2 - (a_1.T.length : Int)))) rfl) ?_
    refine s_do (o_mov (.int .i64 (w64 (left_2 - (a_1.T.length : Int)))) rfl) ?_
    refine w_done ?_
    refine k_seq ?_
    refine w_ret ?_
    obtain rfl := os hf
    exact r_flat ⟨trivial, trivial⟩ rfl (.refl _)

/- laws.szAtomS -/
def c108 : ACode :=
 (.seq (.reg (.q ⟨(some 4), none, .mov (.c (.int .i64 0))⟩
 .done))
 (.seq (.reg (.q ⟨(some 6), none, .mov (.t 1)⟩
 (.q ⟨(some 7), none, .mov (.t 0)⟩
 (.q ⟨(some 8), none, .len (.t 7)⟩
 (.q ⟨(some 9), none, .bin .sub (.t 6) (.t 8)⟩
 (.q ⟨(some 1), none, .mov (.t 9)⟩
 .done))))))
 (.seq (.seq (.reg (.q ⟨(some 10), none, .mov (.t 1)⟩
 (.q ⟨(some 11), none, .bin .lss (.t 10) (.c (.int .i64 0))⟩
 .done)))
 (.cond (.t 11) (.seq (.reg (.q ⟨(some 4), none, .mov (.c (.int .i64 (-1)))⟩
 .done))
 .ret)
 .skip))
 (.seq (.seq (.reg (.q ⟨(some 5), none, .mov (.c (.int .i64 0))⟩
 .done))
 (.block 0 (.loop (.seq (.seq (.reg (.q ⟨(some 12), none, .mov (.t 5)⟩
 (.q ⟨(some 13), none, .mov (.t 0)⟩
 (.q ⟨(some 14), none, .len (.t 13)⟩
 (.q ⟨(some 15), none, .bin .lss (.t 12) (.t 14)⟩
 .done)))))
 (.cond (.t 15) .skip
 (.exit 0)))
 (.seq (.block 1 (.seq (.reg (.q ⟨(some 18), none, .mov (.t 0)⟩
 (.q ⟨(some 19), none, .mov (.t 5)⟩
 (.q ⟨(some 20), none, .iaddr 3 (.t 18) (.t 19)⟩
 (.q ⟨(some 21), none, .load 3 true (.t 20)⟩
 (.q ⟨(some 22), none, .mov (.t 1)⟩
 (.q ⟨(some 23), none, .call 126 [(.t 21), (.t 22)]⟩
 (.q ⟨(some 1), none, .mov (.t 23)⟩
 .done))))))))
 (.seq (.reg (.q ⟨(some 24), none, .mov (.t 1)⟩
 (.q ⟨(some 25), none, .bin .lss (.t 24) (.c (.int .i64 0))⟩
 .done)))
 (.cond (.t 25) (.seq (.reg (.q ⟨(some 4), none, .mov (.c (.int .i64 (-1)))⟩
 .done))
 .ret)
 .skip))))
 (.reg (.q ⟨(some 16), none, .mov (.t 5)⟩
 (.q ⟨(some 17), none, .bin .add (.t 16) (.c (.int .i64 1))⟩
 (.q ⟨(some 5), none, .mov (.t 17)⟩
 .done)))))))))
 (.cut (.seq (.reg (.q ⟨(some 26), none, .mov (.t 1)⟩
 (.q ⟨(some 4), none, .mov (.t 26)⟩
 .done)))
 .ret))))))
theorem fc108 : fcomp Try.prog Try.f108 = some (c108.erase, [.mov (.t 4)], 27) := by kernel_rfl
def laws_szAtomS_L1  : List GAtom → Int → Option (Fl Int Int)
  | [], left_21 =>
    some (.go left_21)
  | x_39 :: xs, left_21 =>
    (laws_szAtom x_39 left_21).bind fun r_42 =>
    if (decide (r_42 < 0)) then
    some (.ret (-1))
    else
    laws_szAtomS_L1 xs r_42 

def laws_szAtomS (a_1 : (List GAtom)) (left_2 : Int) : Option Int :=
    if (decide (w64 (left_2 - (a_1.length : Int)) < 0)) then
    some (-1)
    else
    (laws_szAtomS_L1 a_1 (w64 (left_2 - (a_1.length : Int)))).bind fun q => (match q with
    | .ret r => some r
    | .go left_31 =>
    some left_31)
theorem w_laws_szAtomS (a_1 : (List GAtom)) (left_2 : Int) (r : Int) (hf : laws_szAtomS a_1 left_2 = some r) : CallOK Try.prog 108 .flat [(.lst 3 (a_1.map encGAtom)), (.int .i64 left_2)] (.int .i64 r) := by
 refine CallOK.of_awp mixed Try.func108 fc108 nle ?_; rw [argT_eq]; unfold laws_szAtomS at hf; unfold c108; refine (show awp Try.prog false 0 _ (ofL [(0, (.lst 3 (a_1.map encGAtom))), (1, (.int .i64 left_2))]) [] _ from ?_); refine awp_seq ?_; refine w_reg ?_; refine s_do (o_mov (.int .i64 0) rfl) ?_; refine w_done ?_; refine k_seq ?_; refine awp_seq ?_; refine w_reg ?_; refine s_do (o_mov (.int .i64 left_2) rfl) ?_; refine s_do (o_mov (.lst 3 (a_1.map encGAtom)) rfl) ?_; refine s_dof (o_len (enc := encGAtom) rfl) fun hl3 => ?_; refine s_do (o_q (.int .i64 (w64 (left_2 - (a_1.length : Int)))) rfl rfl rfl) ?_
 refine s_do (o_mov (.int .i64 (w64 (left_2 - (a_1.length : Int)))) rfl) ?_; refine w_done ?_; refine k_seq ?_; refine awp_seq ?_; refine awp_seq ?_; refine w_reg ?_; refine s_do (o_mov (.int .i64 (w64 (left_2 - (a_1.length : Int)))) rfl) ?_; refine s_do (o_q (.bool (decide (w64 (left_2 - (a_1.length : Int)) < 0))) rfl rfl rfl) ?_; refine w_done ?_; refine k_seq ?_
 rcases oi hf with ⟨c4, hf⟩ | ⟨c4, hf⟩
 ·refine w_condt rfl c4 ?_; refine awp_seq ?_; refine w_reg ?_; refine s_do (o_mov (.int .i64 (-1)) rfl) ?_; refine w_done ?_; refine k_seq ?_; refine w_ret ?_; obtain rfl := os hf; exact r_flat ⟨trivial, trivial⟩ rfl (.refl _)
 ·refine w_condf rfl (bf c4) ?_; refine w_skip ?_; refine k_seq ?_; refine awp_seq ?_; refine awp_seq ?_; refine w_reg ?_; refine s_do (o_mov (.int .i64 0) rfl) ?_; refine w_done ?_; refine k_seq ?_
  obtain ⟨p32, hb1, hf⟩ := ob hf
  refine awp_cutx (X := {q : Int // p32 = .go q}) (fun q => ([(1, (.int .i64 q.1))], [])) ?_ ?_
  ·refine awp_loop (X := {q : (Int × Nat) // laws_szAtomS_L1 (a_1.drop q.2) q.1 = some p32}) (fun q => ([(0, (.lst 3 (a_1.map encGAtom))), (1, (.int .i64 q.1.1)), (5, (.int .i64 (q.1.2 : Int)))], [])) (fun q => a_1.length - q.1.2) ⟨(w64 (left_2 - (a_1.length : Int)), 0), hb1⟩ ⟨[], [], _, _, rfl, rfl, ⟨.refl _, ⟨.refl _, ⟨.refl _, trivial⟩⟩⟩, (.refl _)⟩ ?_
   rintro ⟨⟨left_21, i_22⟩, hc1⟩
   have hc1 : laws_szAtomS_L1 (a_1.drop i_22) left_21 = some p32 := hc1
   refine (show awp Try.prog false 0 _ (ofL [(0, (.lst 3 (a_1.map encGAtom))), (1, (.int .i64 left_21)), (5, (.int .i64 (i_22 : Int)))]) [] _ from ?_)
   rcases dropc a_1 i_22 with ⟨hie35, hd38⟩ | ⟨hlt33, x_39, hx34, hd38⟩
   ·rw [hd38, laws_szAtomS_L1.eq_1] at hc1
    have hq37 := dlf hie35
    refine awp_seq ?_; refine awp_seq ?_; refine w_reg ?_; refine s_do (o_mov (.int .i64 (i_22 : Int)) rfl) ?_; refine s_do (o_mov (.lst 3 (a_1.map encGAtom)) rfl) ?_; refine s_dof (o_len (enc := encGAtom) rfl) fun hl40 => ?_; refine s_do (o_q (.bool (decide ((i_22 : Int) < (a_1.length : Int)))) rfl rfl rfl) ?_; refine w_done ?_; refine k_seq ?_; refine w_condf rfl hq37 ?_; refine w_exit ?_; refine k_seqx ?_; refine k_loopx ?_; refine k_blkx ?_; obtain rfl := os hc1; exact k_cutn ⟨_, rfl⟩ ⟨[], [], _, _, rfl, rfl, ⟨.refl _, trivial⟩, (.refl _)⟩
   ·rw [hd38, laws_szAtomS_L1.eq_2] at hc1
    have hq37 := dlt hlt33
    refine awp_seq ?_; refine awp_seq ?_; refine w_reg ?_; refine s_do (o_mov (.int .i64 (i_22 : Int)) rfl) ?_; refine s_do (o_mov (.lst 3 (a_1.map encGAtom)) rfl) ?_; refine s_dof (o_len (enc := encGAtom) rfl) fun hl41 => ?_; refine s_do (o_q (.bool (decide ((i_22 : Int) < (a_1.length : Int)))) rfl rfl rfl) ?_; refine w_done ?_; refine k_seq ?_; refine w_condt rfl hq37 ?_; refine w_skip ?_; refine k_seq ?_; refine awp_seq ?_; refine w_blk ?_; refine awp_seq ?_; refine w_reg ?_
    obtain ⟨r_42, er43, hc1⟩ := ob hc1
    refine s_do (o_mov (.lst 3 (a_1.map encGAtom)) rfl) ?_; refine s_do (o_mov (.int .i64 (i_22 : Int)) rfl) ?_; refine s_do (o_iaddrn (enc := encGAtom) rfl rfl hx34) ?_; refine s_do (o_q (encGAtom x_39) rfl nle rfl) ?_; refine s_do (o_mov (.int .i64 left_21) rfl) ?_; refine s_do (o_call (w_laws_szAtom _ _ _ er43) rfl (.refl _) rfl) ?_; refine s_do (o_mov (.int .i64 r_42) rfl) ?_; refine w_done ?_; refine k_seq ?_; refine awp_seq ?_; refine w_reg ?_; refine s_do (o_mov (.int .i64 r_42) rfl) ?_; refine s_do (o_q (.bool (decide (r_42 < 0))) rfl rfl rfl) ?_; refine w_done ?_; refine k_seq ?_
    rcases oi hc1 with ⟨c44, hc1⟩ | ⟨c44, hc1⟩
    ·refine w_condt rfl c44 ?_; refine awp_seq ?_; refine w_reg ?_; refine s_do (o_mov (.int .i64 (-1)) rfl) ?_; refine w_done ?_; refine k_seq ?_; refine w_ret ?_; obtain rfl := os hc1; obtain rfl := os hf; exact r_flat ⟨trivial, trivial⟩ rfl (.refl _)
    ·refine w_condf rfl (bf c44) ?_; refine w_skip ?_; refine k_blk ?_; refine k_seq ?_; refine w_reg ?_; refine s_do (o_mov (.int .i64 (i_22 : Int)) rfl) ?_; refine s_do (o_q (.int .i64 (w64 ((i_22 : Int) + 1))) rfl rfl rfl) ?_; refine s_do (o_mov (.int .i64 (w64 ((i_22 : Int) + 1))) rfl) ?_; refine w_done ?_; exact k_loopn ⟨(r_42, (i_22 + 1)), hc1⟩ (mul hlt33) ⟨[], [], _, _, rfl, rfl, ⟨.refl _, ⟨.refl _, ⟨.of_eq (congrArg (AV.int _) (w64_incr hlt33 hl41)), trivial⟩⟩⟩, (.refl _)⟩
  ·rintro ⟨left_31, rfl⟩
   refine awp_seq ?_; refine w_reg ?_; refine s_do (o_mov (.int .i64 left_31) rfl) ?_; refine s_do (o_mov (.int .i64 left_31) rfl) ?_; refine w_done ?_; refine k_seq ?_; refine w_ret ?_; obtain rfl := os hf; exact r_flat ⟨trivial, trivial⟩ rfl (.refl _)

/- laws.szCond -/
def c64 : ACode :=
 (.seq (.reg (.q ⟨(some 2), none, .box 3 (.t 0)⟩
 (.q ⟨(some 4), none, .mov (.c (.int .i64 0))⟩
 .done)))
 (.seq (.reg (.q ⟨(some 5), none, .mov (.t 1)⟩
 (.q ⟨(some 6), none, .faddr 0 (.t 2)⟩
 (.q ⟨(some 7), none, .load 1 false (.t 6)⟩
 (.q ⟨(some 8), none, .lenS (.t 7)⟩
 (.q ⟨(some 9), none, .bin .sub (.t 5) (.t 8)⟩
 (.q ⟨(some 1), none, .mov (.t 9)⟩
 .done)))))))
 (.seq (.seq (.reg (.q ⟨(some 10), none, .mov (.t 1)⟩
 (.q ⟨(some 11), none, .bin .lss (.t 10) (.c (.int .i64 0))⟩
 .done)))
 (.cond (.t 11) (.seq (.reg (.q ⟨(some 4), none, .mov (.c (.int .i64 (-1)))⟩
 .done))
 .ret)
 .skip))
 (.seq (.reg (.q ⟨(some 12), none, .faddr 2 (.t 2)⟩
 (.q ⟨(some 13), none, .load 1 false (.t 12)⟩
 (.q ⟨(some 14), none, .mov (.t 1)⟩
 (.q ⟨(some 15), none, .call 108 [(.t 13), (.t 14)]⟩
 (.q ⟨(some 1), none, .mov (.t 15)⟩
 .done))))))
 (.seq (.seq (.reg (.q ⟨(some 16), none, .mov (.t 1)⟩
 (.q ⟨(some 17), none, .bin .lss (.t 16) (.c (.int .i64 0))⟩
 .done)))
 (.cond (.t 17) (.seq (.reg (.q ⟨(some 4), none, .mov (.c (.int .i64 (-1)))⟩
 .done))
 .ret)
 .skip))
 (.seq (.reg (.q ⟨(some 18), none, .mov (.t 1)⟩
 (.q ⟨(some 4), none, .mov (.t 18)⟩
 .done)))
 .ret))))))
theorem fc64 : fcomp Try.prog Try.f64 = some (c64.erase, [.mov (.t 4)], 19) := by kernel_rfl
def laws_szCond (a_1 : GCond) (left_2 : Int) : Option Int :=
    if (decide (w64 (left_2 - (a_1.Column.length : Int)) < 0)) then
    some (-1)
    else
    (laws_szAtomS a_1.Value (w64 (left_2 - (a_1.Column.length : Int)))).bind fun r_5 =>
    if (decide (r_5 < 0)) then
    some (-1)
    else
    some r_5
theorem w_laws_szCond (a_1 : GCond) (left_2 : Int) (r : Int) (hf : laws_szCond a_1 left_2 = some r) : CallOK Try.prog 64 .flat [(encGCond a_1), (.int .i64 left_2)] (.int .i64 r) := by
  refine CallOK.of_awp mixed Try.func64 fc64 nle ?_
  rw [argT_eq]
  unfold laws_szCond at hf
  unfold c64
  refine (show awp Try.prog false 0 _ (ofL [(0, (encGCond a_1)), (1, (.int .i64 left_2))]) [] _ from ?_)
  refine awp_seq ?_
  refine w_reg ?_
  refine s_do (o_box (j := 0) (c := (.agg [(.str a_1.Column), (.int .i64 a_1.Func), (.lst 3 (a_1.Value.map encGAtom))])) rfl trivial rfl rfl) ?_
  refine s_do (o_mov (.int .i64 0) rfl) ?_
  refine w_done ?_
  refine k_seq ?_
  refine awp_seq ?_
  refine w_reg ?_
  refine s_do (o_mov (.int .i64 left_2) rfl) ?_
  refine s_do (o_q (.ptr 0 0 0) rfl trivial rfl) ?_
  refine s_do (o_q (.str a_1.Column) rfl nle rfl) ?_
  refine s_dof (o_lenS rfl) fun hl3 => ?_
  refine s_do (o_q (.int .i64 (w64 (left_2 - (a_1.Column.length : Int)))) rfl rfl rfl) ?_
  refine s_do (o_mov (.int .i64 (w64 (left_2 - (a_1.Column.length : Int)))) rfl) ?_
  refine w_done ?_
  refine k_seq ?_
  refine awp_seq ?_
  refine awp_seq ?_
  refine w_reg ?_
  refine s_do (o_mov (.int .i64 (w64 (left_2 - (a_1.Column.length : Int)))) rfl) ?_
  refine s_do (o_q (.bool (decide (w64 (left_2 - (a_1.Column.length : Int)) < 0))) rfl rfl rfl) ?_
  refine w_done ?_
  refine k_seq ?_
  rcases oi hf with ⟨c4, hf⟩ | ⟨c4, hf⟩
  · refine w_condt rfl c4 ?_
    refine awp_seq ?_
    refine w_reg ?_
    refine s_do (o_mov (.int .i64 (-1)) rfl) ?_
    refine w_done ?_
    refine k_seq ?_
    refine w_ret ?_
    obtain rfl := os hf
    exact r_flat ⟨trivial, trivial⟩ rfl (.refl _)
  · refine w_condf rfl (bf c4) ?_
    refine w_skip ?_
    refine k_seq ?_
    refine awp_seq ?_
    refine w_reg ?_
    obtain ⟨r_5, er6, hf⟩ := ob hf
    refine s_do (o_q (.ptr 0 0 2) rfl trivial rfl) ?_
    refine s_do (o_q (.lst 3 (a_1.Value.map encGAtom)) rfl nle rfl) ?_
    refine s_do (o_mov (.int .i64 (w64 (left_2 - (a_1.Column.length : Int)))) rfl) ?_
    refine s_do (o_call (w_laws_szAtomS _ _ _ er6) rfl (.refl _) rfl) ?_
    refine s_do (o_mov (.int .i64 r_5) rfl) ?_
    refine w_done ?_
    refine k_seq ?_
    refine awp_seq ?_
    refine awp_seq ?_
    refine w_reg ?_
    refine s_do (o_mov (.int .i64 r_5) rfl) ?_
    refine s_do (o_q (.bool (decide (r_5 < 0))) rfl rfl rfl) ?_
    refine w_done ?_
    refine k_seq ?_
    rcases oi hf with ⟨c7, hf⟩ | ⟨c7, hf⟩
    · refine w_condt rfl c7 ?_
      refine awp_seq ?_
      refine w_reg ?_
      refine s_do (o_mov (.int .i64 (-1)) rfl) ?_
      refine w_done ?_
      refine k_seq ?_
      refine w_ret ?_
      obtain rfl := os hf
      exact r_flat ⟨trivial, trivial⟩ rfl (.refl _)
    · refine w_condf rfl (bf c7) ?_
      refine w_skip ?_
      refine k_seq ?_
      refine awp_seq ?_
      refine w_reg ?_
      refine s_do (o_mov (.int .i64 r_5) rfl) ?_
      refine s_do (o_mov (.int .i64 r_5) rfl) ?_
      refine w_done ?_
      refine k_seq ?_
      refine w_ret ?_
      obtain rfl := os hf
      exact r_flat ⟨trivial, trivial⟩ rfl (.refl _)

/- laws.szCondS -/
def c24 : ACode :=
 (.seq (.reg (.q ⟨(some 4), none, .mov (.c (.int .i64 0))⟩
 .done))
 (.seq (.reg (.q ⟨(some 6), none, .mov (.t 1)⟩
 (.q ⟨(some 7), none, .mov (.t 0)⟩
 (.q ⟨(some 8), none, .len (.t 7)⟩
 (.q ⟨(some 9), none, .bin .sub (.t 6) (.t 8)⟩
 (.q ⟨(some 1), none, .mov (.t 9)⟩
 .done))))))
 (.seq (.seq (.reg (.q ⟨(some 10), none, .mov (.t 1)⟩
 (.q ⟨(some 11), none, .bin .lss (.t 10) (.c (.int .i64 0))⟩
 .done)))
 (.cond (.t 11) (.seq (.reg (.q ⟨(some 4), none, .mov (.c (.int .i64 (-1)))⟩
 .done))
 .ret)
 .skip))
 (.seq (.seq (.reg (.q ⟨(some 5), none, .mov (.c (.int .i64 0))⟩
 .done))
 (.block 0 (.loop (.seq (.seq (.reg (.q ⟨(some 12), none, .mov (.t 5)⟩
 (.q ⟨(some 13), none, .mov (.t 0)⟩
 (.q ⟨(some 14), none, .len (.t 13)⟩
 (.q ⟨(some 15), none, .bin .lss (.t 12) (.t 14)⟩
 .done)))))
 (.cond (.t 15) .skip
 (.exit 0)))
 (.seq (.block 1 (.seq (.reg (.q ⟨(some 18), none, .mov (.t 0)⟩
 (.q ⟨(some 19), none, .mov (.t 5)⟩
 (.q ⟨(some 20), none, .iaddr 3 (.t 18) (.t 19)⟩
 (.q ⟨(some 21), none, .load 3 true (.t 20)⟩
 (.q ⟨(some 22), none, .mov (.t 1)⟩
 (.q ⟨(some 23), none, .call 64 [(.t 21), (.t 22)]⟩
 (.q ⟨(some 1), none, .mov (.t 23)⟩
 .done))))))))
 (.seq (.reg (.q ⟨(some 24), none, .mov (.t 1)⟩
 (.q ⟨(some 25), none, .bin .lss (.t 24) (.c (.int .i64 0))⟩
 .done)))
 (.cond (.t 25) (.seq (.reg (.q ⟨(some 4), none, .mov (.c (.int .i64 (-1)))⟩
 .done))
 .ret)
 .skip))))
 (.reg (.q ⟨(some 16), none, .mov (.t 5)⟩
 (.q ⟨(some 17), none, .bin .add (.t 16) (.c (.int .i64 1))⟩
 (.q ⟨(some 5), none, .mov (.t 17)⟩
 .done)))))))))
 (.cut (.seq (.reg (.q ⟨(some 26), none, .mov (.t 1)⟩
 (.q ⟨(some 4), none, .mov (.t 26)⟩
 .done)))
 .ret))))))
theorem fc24 : fcomp Try.prog Try.f24 = some (c24.erase, [.mov (.t 4)], 27) := by kernel_rfl
def laws_szCondS_L1  : List GCond → Int → Option (Fl Int Int)
  | [], left_21 =>
    some (.go left_21)
  | x_39 :: xs, left_21 =>
    (laws_szCond x_39 left_21).bind fun r_42 =>
    if (decide (r_42 < 0)) then
    some (.ret (-1))
    else
    laws_szCondS_L1 xs r_42 

def laws_szCondS (a_1 : (List GCond)) (left_2 : Int) : Option Int :=
    if (decide (w64 (left_2 - (a_1.length : Int)) < 0)) then
    some (-1)
    else
    (laws_szCondS_L1 a_1 (w64 (left_2 - (a_1.length : Int)))).bind fun q => (match q with
    | .ret r => some r
    | .go left_31 =>
    some left_31)
theorem w_laws_szCondS (a_1 : (List GCond)) (left_2 : Int) (r : Int) (hf : laws_szCondS a_1 left_2 = some r) : CallOK Try.prog 24 .flat [(.lst 3 (a_1.map encGCond)), (.int .i64 left_2)] (.int .i64 r) := by
 refine CallOK.of_awp mixed Try.func24 fc24 nle ?_; rw [argT_eq]; unfold laws_szCondS at hf; unfold c24; refine (show awp Try.prog false 0 _ (ofL [(0, (.lst 3 (a_1.map encGCond))), (1, (.int .i64 left_2))]) [] _ from ?_); refine awp_seq ?_; refine w_reg ?_; refine s_do (o_mov (.int .i64 0) rfl) ?_; refine w_done ?_; refine k_seq ?_; refine awp_seq ?_; refine w_reg ?_; refine s_do (o_mov (.int .i64 left_2) rfl) ?_; refine s_do (o_mov (.lst 3 (a_1.map encGCond)) rfl) ?_; refine s_dof (o_len (enc := encGCond) rfl) fun hl3 => ?_; refine s_do (o_q (.int .i64 (w64 (left_2 - (a_1.length : Int)))) rfl rfl rfl) ?_
 refine s_do (o_mov (.int .i64 (w64 (left_2 - (a_1.length : Int)))) rfl) ?_; refine w_done ?_; refine k_seq ?_; refine awp_seq ?_; refine awp_seq ?_; refine w_reg ?_; refine s_do (o_mov (.int .i64 (w64 (left_2 - (a_1.length : Int)))) rfl) ?_; refine s_do (o_q (.bool (decide (w64 (left_2 - (a_1.length : Int)) < 0))) rfl rfl rfl) ?_; refine w_done ?_; refine k_seq ?_
 rcases oi hf with ⟨c4, hf⟩ | ⟨c4, hf⟩
 ·refine w_condt rfl c4 ?_; refine awp_seq ?_; refine w_reg ?_; refine s_do (o_mov (.int .i64 (-1)) rfl) ?_; refine w_done ?_; refine k_seq ?_; refine w_ret ?_; obtain rfl := os hf; exact r_flat ⟨trivial, trivial⟩ rfl (.refl _)
 ·refine w_condf rfl (bf c4) ?_; refine w_skip ?_; refine k_seq ?_; refine awp_seq ?_; refine awp_seq ?_; refine w_reg ?_; refine s_do (o_mov (.int .i64 0) rfl) ?_; refine w_done ?_; refine k_seq ?_
  obtain ⟨p32, hb1, hf⟩ := ob hf
  refine awp_cutx (X := {q : Int // p32 = .go q}) (fun q => ([(1, (.int .i64 q.1))], [])) ?_ ?_
  ·refine awp_loop (X := {q : (Int × Nat) // laws_szCondS_L1 (a_1.drop q.2) q.1 = some p32}) (fun q => ([(0, (.lst 3 (a_1.map encGCond))), (1, (.int .i64 q.1.1)), (5, (.int .i64 (q.1.2 : Int)))], [])) (fun q => a_1.length - q.1.2) ⟨(w64 (left_2 - (a_1.length : Int)), 0), hb1⟩ ⟨[], [], _, _, rfl, rfl, ⟨.refl _, ⟨.refl _, ⟨.refl _, trivial⟩⟩⟩, (.refl _)⟩ ?_
   rintro ⟨⟨left_21, i_22⟩, hc1⟩
   have hc1 : laws_szCondS_L1 (a_1.drop i_22) left_21 = some p32 := hc1
   refine (show awp Try.prog false 0 _ (ofL [(0, (.lst 3 (a_1.map encGCond))), (1, (.int .i64 left_21)), (5, (.int .i64 (i_22 : Int)))]) [] _ from ?_)
   rcases dropc a_1 i_22 with ⟨hie35, hd38⟩ | ⟨hlt33, x_39, hx34, hd38⟩
   ·rw [hd38, laws_szCondS_L1.eq_1] at hc1
    have hq37 := dlf hie35
    refine awp_seq ?_; refine awp_seq ?_; refine w_reg ?_; refine s_do (o_mov (.int .i64 (i_22 : Int)) rfl) ?_; refine s_do (o_mov (.lst 3 (a_1.map encGCond)) rfl) ?_; refine s_dof (o_len (enc := encGCond) rfl) fun hl40 => ?_; refine s_do (o_q (.bool (decide ((i_22 : Int) < (a_1.length : Int)))) rfl rfl rfl) ?_; refine w_done ?_; refine k_seq ?_; refine w_condf rfl hq37 ?_; refine w_exit ?_; refine k_seqx ?_; refine k_loopx ?_; refine k_blkx ?_; obtain rfl := os hc1; exact k_cutn ⟨_, rfl⟩ ⟨[], [], _, _, rfl, rfl, ⟨.refl _, trivial⟩, (.refl _)⟩
   ·rw [hd38, laws_szCondS_L1.eq_2] at hc1
    have hq37 := dlt hlt33
    refine awp_seq ?_; refine awp_seq ?_; refine w_reg ?_; refine s_do (o_mov (.int .i64 (i_22 : Int)) rfl) ?_; refine s_do (o_mov (.lst 3 (a_1.map encGCond)) rfl) ?_; refine s_dof (o_len (enc := encGCond) rfl) fun hl41 => ?_; refine s_do (o_q (.bool (decide ((i_22 : Int) < (a_1.length : Int)))) rfl rfl rfl) ?_; refine w_done ?_; refine k_seq ?_; refine w_condt rfl hq37 ?_; refine w_skip ?_; refine k_seq ?_; refine awp_seq ?_; refine w_blk ?_; refine awp_seq ?_; refine w_reg ?_
    obtain ⟨r_42, er43, hc1⟩ := ob hc1
    refine s_do (o_mov (.lst 3 (a_1.map encGCond)) rfl) ?_; refine s_do (o_mov (.int .i64 (i_22 : Int)) rfl) ?_; refine s_do (o_iaddrn (enc := encGCond) rfl rfl hx34) ?_; refine s_do (o_q (encGCond x_39) rfl nle rfl) ?_; refine s_do (o_mov (.int .i64 left_21) rfl) ?_; refine s_do (o_call (w_laws_szCond _ _ _ er43) rfl (.refl _) rfl) ?_; refine s_do (o_mov (.int .i64 r_42) rfl) ?_; refine w_done ?_; refine k_seq ?_; refine awp_seq ?_; refine w_reg ?_; refine s_do (o_mov (.int .i64 r_42) rfl) ?_; refine s_do (o_q (.bool (decide (r_42 < 0))) rfl rfl rfl) ?_; refine w_done ?_; refine k_seq ?_
    rcases oi hc1 with ⟨c44, hc1⟩ | ⟨c44, hc1⟩
    ·refine w_condt rfl c44 ?_; refine awp_seq ?_; refine w_reg ?_; refine s_do (o_mov (.int .i64 (-1)) rfl) ?_; refine w_done ?_; refine k_seq ?_; refine w_ret ?_; obtain rfl := os hc1; obtain rfl := os hf; exact r_flat ⟨trivial, trivial⟩ rfl (.refl _)
    ·refine w_condf rfl (bf c44) ?_; refine w_skip ?_; refine k_blk ?_; refine k_seq ?_; refine w_reg ?_; refine s_do (o_mov (.int .i64 (i_22 : Int)) rfl) ?_; refine s_do (o_q (.int .i64 (w64 ((i_22 : Int) + 1))) rfl rfl rfl) ?_; refine s_do (o_mov (.int .i64 (w64 ((i_22 : Int) + 1))) rfl) ?_; refine w_done ?_; exact k_loopn ⟨(r_42, (i_22 + 1)), hc1⟩ (mul hlt33) ⟨[], [], _, _, rfl, rfl, ⟨.refl _, ⟨.refl _, ⟨.of_eq (congrArg (AV.int _) (w64_incr hlt33 hl41)), trivial⟩⟩⟩, (.refl _)⟩
  ·rintro ⟨left_31, rfl⟩
   refine awp_seq ?_; refine w_reg ?_; refine s_do (o_mov (.int .i64 left_31) rfl) ?_; refine s_do (o_mov (.int .i64 left_31) rfl) ?_; refine w_done ?_; refine k_seq ?_; refine w_ret ?_; obtain rfl := os hf; exact r_flat ⟨trivial, trivial⟩ rfl (.refl _)

/- laws.szStringS -/
def c27 : ACode :=
 (.seq (.reg (.q ⟨(some 4), none, .mov (.c (.int .i64 0))⟩
 .done))
 (.seq (.reg (.q ⟨(some 6), none, .mov (.t 1)⟩
 (.q ⟨(some 7), none, .mov (.t 0)⟩
 (.q ⟨(some 8), none, .len (.t 7)⟩
 (.q ⟨(some 9), none, .bin .sub (.t 6) (.t 8)⟩
 (.q ⟨(some 1), none, .mov (.t 9)⟩
 .done))))))
 (.seq (.seq (.reg (.q ⟨(some 10), none, .mov (.t 1)⟩
 (.q ⟨(some 11), none, .bin .lss (.t 10) (.c (.int .i64 0))⟩
 .done)))
 (.cond (.t 11) (.seq (.reg (.q ⟨(some 4), none, .mov (.c (.int .i64 (-1)))⟩
 .done))
 .ret)
 .skip))
 (.seq (.seq (.reg (.q ⟨(some 5), none, .mov (.c (.int .i64 0))⟩
 .done))
 (.block 0 (.loop (.seq (.seq (.reg (.q ⟨(some 12), none, .mov (.t 5)⟩
 (.q ⟨(some 13), none, .mov (.t 0)⟩
 (.q ⟨(some 14), none, .len (.t 13)⟩
 (.q ⟨(some 15), none, .bin .lss (.t 12) (.t 14)⟩
 .done)))))
 (.cond (.t 15) .skip
 (.exit 0)))
 (.seq (.block 1 (.seq (.reg (.q ⟨(some 18), none, .mov (.t 1)⟩
 (.q ⟨(some 19), none, .mov (.t 0)⟩
 (.q ⟨(some 20), none, .mov (.t 5)⟩
 (.q ⟨(some 21), none, .iaddr 1 (.t 19) (.t 20)⟩
 (.q ⟨(some 22), none, .load 1 false (.t 21)⟩
 (.q ⟨(some 23), none, .lenS (.t 22)⟩
 (.q ⟨(some 24), none, .bin .sub (.t 18) (.t 23)⟩
 (.q ⟨(some 1), none, .mov (.t 24)⟩
 .done)))))))))
 (.seq (.reg (.q ⟨(some 25), none, .mov (.t 1)⟩
 (.q ⟨(some 26), none, .bin .lss (.t 25) (.c (.int .i64 0))⟩
 .done)))
 (.cond (.t 26) (.seq (.reg (.q ⟨(some 4), none, .mov (.c (.int .i64 (-1)))⟩
 .done))
 .ret)
 .skip))))
 (.reg (.q ⟨(some 16), none, .mov (.t 5)⟩
 (.q ⟨(some 17), none, .bin .add (.t 16) (.c (.int .i64 1))⟩
 (.q ⟨(some 5), none, .mov (.t 17)⟩
 .done)))))))))
 (.cut (.seq (.reg (.q ⟨(some 27), none, .mov (.t 1)⟩
 (.q ⟨(some 4), none, .mov (.t 27)⟩
 .done)))
 .ret))))))
theorem fc27 : fcomp Try.prog Try.f27 = some (c27.erase, [.mov (.t 4)], 28) := by kernel_rfl
def laws_szStringS_L1  : List Str → Int → Option (Fl Int Int)
  | [], left_19 =>
    some (.go left_19)
  | x_36 :: xs, left_19 =>
    if (decide (w64 (left_19 - (x_36.length : Int)) < 0)) then
    some (.ret (-1))
    else
    laws_szStringS_L1 xs (w64 (left_19 - (x_36.length : Int))) 

def laws_szStringS (a_1 : (List Str)) (left_2 : Int) : Option Int :=
    if (decide (w64 (left_2 - (a_1.length : Int)) < 0)) then
    some (-1)
    else
    (laws_szStringS_L1 a_1 (w64 (left_2 - (a_1.length : Int)))).bind fun q => (match q with
    | .ret r => some r
    | .go left_28 =>
    some left_28)
theorem w_laws_szStringS (a_1 : (List Str)) (left_2 : Int) (r : Int) (hf : laws_szStringS a_1 left_2 = some r) : CallOK Try.prog 27 .flat [(.lst 1 (a_1.map AV.str)), (.int .i64 left_2)] (.int .i64 r) := by
 refine CallOK.of_awp mixed Try.func27 fc27 nle ?_; rw [argT_eq]; unfold laws_szStringS at hf; unfold c27; refine (show awp Try.prog false 0 _ (ofL [(0, (.lst 1 (a_1.map AV.str))), (1, (.int .i64 left_2))]) [] _ from ?_); refine awp_seq ?_; refine w_reg ?_; refine s_do (o_mov (.int .i64 0) rfl) ?_; refine w_done ?_; refine k_seq ?_; refine awp_seq ?_; refine w_reg ?_; refine s_do (o_mov (.int .i64 left_2) rfl) ?_; refine s_do (o_mov (.lst 1 (a_1.map AV.str)) rfl) ?_; refine s_dof (o_len (enc := AV.str) rfl) fun hl3 => ?_; refine s_do (o_q (.int .i64 (w64 (left_2 - (a_1.length : Int)))) rfl rfl rfl) ?_
 refine s_do (o_mov (.int .i64 (w64 (left_2 - (a_1.length : Int)))) rfl) ?_; refine w_done ?_; refine k_seq ?_; refine awp_seq ?_; refine awp_seq ?_; refine w_reg ?_; refine s_do (o_mov (.int .i64 (w64 (left_2 - (a_1.length : Int)))) rfl) ?_; refine s_do (o_q (.bool (decide (w64 (left_2 - (a_1.length : Int)) < 0))) rfl rfl rfl) ?_; refine w_done ?_; refine k_seq ?_
 rcases oi hf with ⟨c4, hf⟩ | ⟨c4, hf⟩
 ·refine w_condt rfl c4 ?_; refine awp_seq ?_; refine w_reg ?_; refine s_do (o_mov (.int .i64 (-1)) rfl) ?_; refine w_done ?_; refine k_seq ?_; refine w_ret ?_; obtain rfl := os hf; exact r_flat ⟨trivial, trivial⟩ rfl (.refl _)
 ·refine w_condf rfl (bf c4) ?_; refine w_skip ?_; refine k_seq ?_; refine awp_seq ?_; refine awp_seq ?_; refine w_reg ?_; refine s_do (o_mov (.int .i64 0) rfl) ?_; refine w_done ?_; refine k_seq ?_
  obtain ⟨p29, hb1, hf⟩ := ob hf
  refine awp_cutx (X := {q : Int // p29 = .go q}) (fun q => ([(1, (.int .i64 q.1))], [])) ?_ ?_
  ·refine awp_loop (X := {q : (Int × Nat) // laws_szStringS_L1 (a_1.drop q.2) q.1 = some p29}) (fun q => ([(0, (.lst 1 (a_1.map AV.str))), (1, (.int .i64 q.1.1)), (5, (.int .i64 (q.1.2 : Int)))], [])) (fun q => a_1.length - q.1.2) ⟨(w64 (left_2 - (a_1.length : Int)), 0), hb1⟩ ⟨[], [], _, _, rfl, rfl, ⟨.refl _, ⟨.refl _, ⟨.refl _, trivial⟩⟩⟩, (.refl _)⟩ ?_
   rintro ⟨⟨left_19, i_20⟩, hc1⟩
   have hc1 : laws_szStringS_L1 (a_1.drop i_20) left_19 = some p29 := hc1
   refine (show awp Try.prog false 0 _ (ofL [(0, (.lst 1 (a_1.map AV.str))), (1, (.int .i64 left_19)), (5, (.int .i64 (i_20 : Int)))]) [] _ from ?_)
   rcases dropc a_1 i_20 with ⟨hie32, hd35⟩ | ⟨hlt30, x_36, hx31, hd35⟩
   ·rw [hd35, laws_szStringS_L1.eq_1] at hc1
    have hq34 := dlf hie32
    refine awp_seq ?_; refine awp_seq ?_; refine w_reg ?_; refine s_do (o_mov (.int .i64 (i_20 : Int)) rfl) ?_; refine s_do (o_mov (.lst 1 (a_1.map AV.str)) rfl) ?_; refine s_dof (o_len (enc := AV.str) rfl) fun hl37 => ?_; refine s_do (o_q (.bool (decide ((i_20 : Int) < (a_1.length : Int)))) rfl rfl rfl) ?_; refine w_done ?_; refine k_seq ?_; refine w_condf rfl hq34 ?_; refine w_exit ?_; refine k_seqx ?_; refine k_loopx ?_; refine k_blkx ?_; obtain rfl := os hc1; exact k_cutn ⟨_, rfl⟩ ⟨[], [], _, _, rfl, rfl, ⟨.refl _, trivial⟩, (.refl _)⟩
   ·rw [hd35, laws_szStringS_L1.eq_2] at hc1
    have hq34 := dlt hlt30
    refine awp_seq ?_; refine awp_seq ?_; refine w_reg ?_; refine s_do (o_mov (.int .i64 (i_20 : Int)) rfl) ?_; refine s_do (o_mov (.lst 1 (a_1.map AV.str)) rfl) ?_; refine s_dof (o_len (enc := AV.str) rfl) fun hl38 => ?_; refine s_do (o_q (.bool (decide ((i_20 : Int) < (a_1.length : Int)))) rfl rfl rfl) ?_; refine w_done ?_; refine k_seq ?_; refine w_condt rfl hq34 ?_; refine w_skip ?_; refine k_seq ?_; refine awp_seq ?_; refine w_blk ?_; refine awp_seq ?_; refine w_reg ?_; refine s_do (o_mov (.int .i64 left_19) rfl) ?_; refine s_do (o_mov (.lst 1 (a_1.map AV.str)) rfl) ?_; refine s_do (o_mov (.int .i64 (i_20 : Int)) rfl) ?_
    refine s_do (o_iaddrn (enc := AV.str) rfl rfl hx31) ?_; refine s_do (o_q (.str x_36) rfl ⟨rfl, rfl⟩ rfl) ?_; refine s_dof (o_lenS rfl) fun hl39 => ?_; refine s_do (o_q (.int .i64 (w64 (left_19 - (x_36.length : Int)))) rfl rfl rfl) ?_; refine s_do (o_mov (.int .i64 (w64 (left_19 - (x_36.length : Int)))) rfl) ?_; refine w_done ?_; refine k_seq ?_; refine awp_seq ?_; refine w_reg ?_; refine s_do (o_mov (.int .i64 (w64 (left_19 - (x_36.length : Int)))) rfl) ?_; refine s_do (o_q (.bool (decide (w64 (left_19 - (x_36.length : Int)) < 0))) rfl rfl rfl) ?_; refine w_done ?_; refine k_seq ?_
    rcases oi hc1 with ⟨c40, hc1⟩ | ⟨c40, hc1⟩
    ·refine w_condt rfl c40 ?_; refine awp_seq ?_; refine w_reg ?_; refine s_do (o_mov (.int .i64 (-1)) rfl) ?_; refine w_done ?_; refine k_seq ?_; refine w_ret ?_; obtain rfl := os hc1; obtain rfl := os hf; exact r_flat ⟨trivial, trivial⟩ rfl (.refl _)
    ·refine w_condf rfl (bf c40) ?_; refine w_skip ?_; refine k_blk ?_; refine k_seq ?_; refine w_reg ?_; refine s_do (o_mov (.int .i64 (i_20 : Int)) rfl) ?_; refine s_do (o_q (.int .i64 (w64 ((i_20 : Int) + 1))) rfl rfl rfl) ?_; refine s_do (o_mov (.int .i64 (w64 ((i_20 : Int) + 1))) rfl) ?_; refine w_done ?_; exact k_loopn ⟨(w64 (left_19 - (x_36.length : Int)), (i_20 + 1)), hc1⟩ (mul hlt30) ⟨[], [], _, _, rfl, rfl, ⟨.refl _, ⟨.refl _, ⟨.of_eq (congrArg (AV.int _) (w64_incr hlt30 hl38)), trivial⟩⟩⟩, (.refl _)⟩
  ·rintro ⟨left_28, rfl⟩
   refine awp_seq ?_; refine w_reg ?_; refine s_do (o_mov (.int .i64 left_28) rfl) ?_; refine s_do (o_mov (.int .i64 left_28) rfl) ?_; refine w_done ?_; refine k_seq ?_; refine w_ret ?_; obtain rfl := os hf; exact r_flat ⟨trivial, trivial⟩ rfl (.refl _)

/- laws.szSet -/
def c65 : ACode :=
 (.seq (.reg (.q ⟨(some 2), none, .box 3 (.t 0)⟩
 (.q ⟨(some 4), none, .mov (.c (.int .i64 0))⟩
 .done)))
 (.seq (.reg (.q ⟨(some 5), none, .mov (.t 1)⟩
 (.q ⟨(some 6), none, .faddr 0 (.t 2)⟩
 (.q ⟨(some 7), none, .load 1 false (.t 6)⟩
 (.q ⟨(some 8), none, .lenS (.t 7)⟩
 (.q ⟨(some 9), none, .bin .sub (.t 5) (.t 8)⟩
 (.q ⟨(some 1), none, .mov (.t 9)⟩
 .done)))))))
 (.seq (.seq (.reg (.q ⟨(some 10), none, .mov (.t 1)⟩
 (.q ⟨(some 11), none, .bin .lss (.t 10) (.c (.int .i64 0))⟩
 .done)))
 (.cond (.t 11) (.seq (.reg (.q ⟨(some 4), none, .mov (.c (.int .i64 (-1)))⟩
 .done))
 .ret)
 .skip))
 (.seq (.reg (.q ⟨(some 12), none, .faddr 1 (.t 2)⟩
 (.q ⟨(some 13), none, .load 1 false (.t 12)⟩
 (.q ⟨(some 14), none, .mov (.t 1)⟩
 (.q ⟨(some 15), none, .call 108 [(.t 13), (.t 14)]⟩
 (.q ⟨(some 1), none, .mov (.t 15)⟩
 .done))))))
 (.seq (.seq (.reg (.q ⟨(some 16), none, .mov (.t 1)⟩
 (.q ⟨(some 17), none, .bin .lss (.t 16) (.c (.int .i64 0))⟩
 .done)))
 (.cond (.t 17) (.seq (.reg (.q ⟨(some 4), none, .mov (.c (.int .i64 (-1)))⟩
 .done))
 .ret)
 .skip))
 (.seq (.reg (.q ⟨(some 18), none, .faddr 2 (.t 2)⟩
 (.q ⟨(some 19), none, .load 1 false (.t 18)⟩
 (.q ⟨(some 20), none, .mov (.t 1)⟩
 (.q ⟨(some 21), none, .call 27 [(.t 19), (.t 20)]⟩
 (.q ⟨(some 1), none, .mov (.t 21)⟩
 .done))))))
 (.seq (.seq (.reg (.q ⟨(some 22), none, .mov (.t 1)⟩
 (.q ⟨(some 23), none, .bin .lss (.t 22) (.c (.int .i64 0))⟩
 .done)))
 (.cond (.t 23) (.seq (.reg (.q ⟨(some 4), none, .mov (.c (.int .i64 (-1)))⟩
 .done))
 .ret)
 .skip))
 (.seq (.reg (.q ⟨(some 24), none, .mov (.t 1)⟩
 (.q ⟨(some 4), none, .mov (.t 24)⟩
 .done)))
 .ret))))))))
theorem fc65 : fcomp Try.prog Try.f65 = some (c65.erase, [.mov (.t 4)], 25) := by kernel_rfl
def laws_szSet (a_1 : GSet) (left_2 : Int) : Option Int :=
    if (decide (w64 (left_2 - (a_1.Column.length : Int)) < 0)) then
    some (-1)
    else
    (laws_szAtomS a_1.Value (w64 (left_2 - (a_1.Column.length : Int)))).bind fun r_5 =>
    if (decide (r_5 < 0)) then
    some (-1)
    else
    (laws_szStringS a_1.Names r_5).bind fun r_8 =>
    if (decide (r_8 < 0)) then
    some (-1)
    else
    some r_8
theorem w_laws_szSet (a_1 : GSet) (left_2 : Int) (r : Int) (hf : laws_szSet a_1 left_2 = some r) : CallOK Try.prog 65 .flat [(encGSet a_1), (.int .i64 left_2)] (.int .i64 r) := by
 refine CallOK.of_awp mixed Try.func65 fc65 nle ?_; rw [argT_eq]; unfold laws_szSet at hf; unfold c65; refine (show awp Try.prog false 0 _ (ofL [(0, (encGSet a_1)), (1, (.int .i64 left_2))]) [] _ from ?_); refine awp_seq ?_; refine w_reg ?_; refine s_do (o_box (j := 0) (c := (.agg [(.str a_1.Column), (.lst 3 (a_1.Value.map encGAtom)), (.lst 1 (a_1.Names.map AV.str))])) rfl trivial rfl rfl) ?_; refine s_do (o_mov (.int .i64 0) rfl) ?_; refine w_done ?_; refine k_seq ?_; refine awp_seq ?_; refine w_reg ?_; refine s_do (o_mov (.int .i64 left_2) rfl) ?_; refine s_do (o_q (.ptr 0 0 0) rfl trivial rfl) ?_
 refine s_do (o_q (.str a_1.Column) rfl nle rfl) ?_; refine s_dof (o_lenS rfl) fun hl3 => ?_; refine s_do (o_q (.int .i64 (w64 (left_2 - (a_1.Column.length : Int)))) rfl rfl rfl) ?_; refine s_do (o_mov (.int .i64 (w64 (left_2 - (a_1.Column.length : Int)))) rfl) ?_; refine w_done ?_; refine k_seq ?_; refine awp_seq ?_; refine awp_seq ?_; refine w_reg ?_; refine s_do (o_mov (.int .i64 (w64 (left_2 - (a_1.Column.length : Int)))) rfl) ?_; refine s_do (o_q (.bool (decide (w64 (left_2 - (a_1.Column.length : Int)) < 0))) rfl rfl rfl) ?_; refine w_done ?_; refine k_seq ?_
 rcases oi hf with ⟨c4, hf⟩ | ⟨c4, hf⟩
 ·refine w_condt rfl c4 ?_; refine awp_seq ?_; refine w_reg ?_; refine s_do (o_mov (.int .i64 (-1)) rfl) ?_; refine w_done ?_; refine k_seq ?_; refine w_ret ?_; obtain rfl := os hf; exact r_flat ⟨trivial, trivial⟩ rfl (.refl _)
 ·refine w_condf rfl (bf c4) ?_; refine w_skip ?_; refine k_seq ?_; refine awp_seq ?_; refine w_reg ?_
  obtain ⟨r_5, er6, hf⟩ := ob hf
  refine s_do (o_q (.ptr 0 0 1) rfl trivial rfl) ?_; refine s_do (o_q (.lst 3 (a_1.Value.map encGAtom)) rfl nle rfl) ?_; refine s_do (o_mov (.int .i64 (w64 (left_2 - (a_1.Column.length : Int)))) rfl) ?_; refine s_do (o_call (w_laws_szAtomS _ _ _ er6) rfl (.refl _) rfl) ?_; refine s_do (o_mov (.int .i64 r_5) rfl) ?_; refine w_done ?_; refine k_seq ?_; refine awp_seq ?_; refine awp_seq ?_; refine w_reg ?_; refine s_do (o_mov (.int .i64 r_5) rfl) ?_; refine s_do (o_q (.bool (decide (r_5 < 0))) rfl rfl rfl) ?_; refine w_done ?_; refine k_seq ?_
  rcases oi hf with ⟨c7, hf⟩ | ⟨c7, hf⟩
  ·refine w_condt rfl c7 ?_; refine awp_seq ?_; refine w_reg ?_; refine s_do (o_mov (.int .i64 (-1)) rfl) ?_; refine w_done ?_; refine k_seq ?_; refine w_ret ?_; obtain rfl := os hf; exact r_flat ⟨trivial, trivial⟩ rfl (.refl _)
  ·refine w_condf rfl (bf c7) ?_; refine w_skip ?_; refine k_seq ?_; refine awp_seq ?_; refine w_reg ?_
   obtain ⟨r_8, er9, hf⟩ := ob hf
   refine s_do (o_q (.ptr 0 0 2) rfl trivial rfl) ?_; refine s_do (o_q (.lst 1 (a_1.Names.map AV.str)) rfl nle rfl) ?_; refine s_do (o_mov (.int .i64 r_5) rfl) ?_; refine s_do (o_call (w_laws_szStringS _ _ _ er9) rfl (.refl _) rfl) ?_; refine s_do (o_mov (.int .i64 r_8) rfl) ?_; refine w_done ?_; refine k_seq ?_; refine awp_seq ?_; refine awp_seq ?_; refine w_reg ?_; refine s_do (o_mov (.int .i64 r_8) rfl) ?_; refine s_do (o_q (.bool (decide (r_8 < 0))) rfl rfl rfl) ?_; refine w_done ?_; refine k_seq ?_
   rcases oi hf with ⟨c10, hf⟩ | ⟨c10, hf⟩
   ·refine w_condt rfl c10 ?_; refine awp_seq ?_; refine w_reg ?_; refine s_do (o_mov (.int .i64 (-1)) rfl) ?_; refine w_done ?_; refine k_seq ?_; refine w_ret ?_; obtain rfl := os hf; exact r_flat ⟨trivial, trivial⟩ rfl (.refl _)
   ·refine w_condf rfl (bf c10) ?_; refine w_skip ?_; refine k_seq ?_; refine awp_seq ?_; refine w_reg ?_; refine s_do (o_mov (.int .i64 r_8) rfl) ?_; refine s_do (o_mov (.int .i64 r_8) rfl) ?_; refine w_done ?_; refine k_seq ?_; refine w_ret ?_; obtain rfl := os hf; exact r_flat ⟨trivial, trivial⟩ rfl (.refl _)

/- laws.szSetS -/
def c25 : ACode :=
 (.seq (.reg (.q ⟨(some 4), none, .mov (.c (.int .i64 0))⟩
 .done))
 (.seq (.reg (.q ⟨(some 6), none, .mov (.t 1)⟩
 (.q ⟨(some 7), none, .mov (.t 0)⟩
 (.q ⟨(some 8), none, .len (.t 7)⟩
 (.q ⟨(some 9), none, .bin .sub (.t 6) (.t 8)⟩
 (.q ⟨(some 1), none, .mov (.t 9)⟩
 .done))))))
 (.seq (.seq (.reg (.q ⟨(some 10), none, .mov (.t 1)⟩
 (.q ⟨(some 11), none, .bin .lss (.t 10) (.c (.int .i64 0))⟩
 .done)))
 (.cond (.t 11) (.seq (.reg (.q ⟨(some 4), none, .mov (.c (.int .i64 (-1)))⟩
 .done))
 .ret)
 .skip))
 (.seq (.seq (.reg (.q ⟨(some 5), none, .mov (.c (.int .i64 0))⟩
 .done))
 (.block 0 (.loop (.seq (.seq (.reg (.q ⟨(some 12), none, .mov (.t 5)⟩
 (.q ⟨(some 13), none, .mov (.t 0)⟩
 (.q ⟨(some 14), none, .len (.t 13)⟩
 (.q ⟨(some 15), none, .bin .lss (.t 12) (.t 14)⟩
 .done)))))
 (.cond (.t 15) .skip
 (.exit 0)))
 (.seq (.block 1 (.seq (.reg (.q ⟨(some 18), none, .mov (.t 0)⟩
 (.q ⟨(some 19), none, .mov (.t 5)⟩
 (.q ⟨(some 20), none, .iaddr 3 (.t 18) (.t 19)⟩
 (.q ⟨(some 21), none, .load 3 true (.t 20)⟩
 (.q ⟨(some 22), none, .mov (.t 1)⟩
 (.q ⟨(some 23), none, .call 65 [(.t 21), (.t 22)]⟩
 (.q ⟨(some 1), none, .mov (.t 23)⟩
 .done))))))))
 (.seq (.reg (.q ⟨(some 24), none, .mov (.t 1)⟩
 (.q ⟨(some 25), none, .bin .lss (.t 24) (.c (.int .i64 0))⟩
 .done)))
 (.cond (.t 25) (.seq (.reg (.q ⟨(some 4), none, .mov (.c (.int .i64 (-1)))⟩
 .done))
 .ret)
 .skip))))
 (.reg (.q ⟨(some 16), none, .mov (.t 5)⟩
 (.q ⟨(some 17), none, .bin .add (.t 16) (.c (.int .i64 1))⟩
 (.q ⟨(some 5), none, .mov (.t 17)⟩
 .done)))))))))
 (.cut (.seq (.reg (.q ⟨(some 26), none, .mov (.t 1)⟩
 (.q ⟨(some 4), none, .mov (.t 26)⟩
 .done)))
 .ret))))))
theorem fc25 : fcomp Try.prog Try.f25 = some (c25.erase, [.mov (.t 4)], 27) := by kernel_rfl
def laws_szSetS_L1  : List GSet → Int → Option (Fl Int Int)
  | [], left_21 =>
    some (.go left_21)
  | x_39 :: xs, left_21 =>
    (laws_szSet x_39 left_21).bind fun r_42 =>
    if (decide (r_42 < 0)) then
    some (.ret (-1))
    else
    laws_szSetS_L1 xs r_42 

def laws_szSetS (a_1 : (List GSet)) (left_2 : Int) : Option Int :=
    if (decide (w64 (left_2 - (a_1.length : Int)) < 0)) then
    some (-1)
    else
    (laws_szSetS_L1 a_1 (w64 (left_2 - (a_1.length : Int)))).bind fun q => (match q with
    | .ret r => some r
    | .go left_31 =>
    some left_31)
theorem w_laws_szSetS (a_1 : (List GSet)) (left_2 : Int) (r : Int) (hf : laws_szSetS a_1 left_2 = some r) : CallOK Try.prog 25 .flat [(.lst 3 (a_1.map encGSet)), (.int .i64 left_2)] (.int .i64 r) := by
 refine CallOK.of_awp mixed Try.func25 fc25 nle ?_; rw [argT_eq]; unfold laws_szSetS at hf; unfold c25; refine (show awp Try.prog false 0 _ (ofL [(0, (.lst 3 (a_1.map encGSet))), (1, (.int .i64 left_2))]) [] _ from ?_); refine awp_seq ?_; refine w_reg ?_; refine s_do (o_mov (.int .i64 0) rfl) ?_; refine w_done ?_; refine k_seq ?_; refine awp_seq ?_; refine w_reg ?_; refine s_do (o_mov (.int .i64 left_2) rfl) ?_; refine s_do (o_mov (.lst 3 (a_1.map encGSet)) rfl) ?_; refine s_dof (o_len (enc := encGSet) rfl) fun hl3 => ?_; refine s_do (o_q (.int .i64 (w64 (left_2 - (a_1.length : Int)))) rfl rfl rfl) ?_
 refine s_do (o_mov (.int .i64 (w64 (left_2 - (a_1.length : Int)))) rfl) ?_; refine w_done ?_; refine k_seq ?_; refine awp_seq ?_; refine awp_seq ?_; refine w_reg ?_; refine s_do (o_mov (.int .i64 (w64 (left_2 - (a_1.length : Int)))) rfl) ?_; refine s_do (o_q (.bool (decide (w64 (left_2 - (a_1.length : Int)) < 0))) rfl rfl rfl) ?_; refine w_done ?_; refine k_seq ?_
 rcases oi hf with ⟨c4, hf⟩ | ⟨c4, hf⟩
 ·refine w_condt rfl c4 ?_; refine awp_seq ?_; refine w_reg ?_; refine s_do (o_mov (.int .i64 (-1)) rfl) ?_; refine w_done ?_; refine k_seq ?_; refine w_ret ?_; obtain rfl := os hf; exact r_flat ⟨trivial, trivial⟩ rfl (.refl _)
 ·refine w_condf rfl (bf c4) ?_; refine w_skip ?_; refine k_seq ?_; refine awp_seq ?_; refine awp_seq ?_; refine w_reg ?_; refine s_do (o_mov (.int .i64 0) rfl) ?_; refine w_done ?_; refine k_seq ?_
  obtain ⟨p32, hb1, hf⟩ := ob hf
  refine awp_cutx (X := {q : Int // p32 = .go q}) (fun q => ([(1, (.int .i64 q.1))], [])) ?_ ?_
  ·refine awp_loop (X := {q : (Int × Nat) // laws_szSetS_L1 (a_1.drop q.2) q.1 = some p32}) (fun q => ([(0, (.lst 3 (a_1.map encGSet))), (1, (.int .i64 q.1.1)), (5, (.int .i64 (q.1.2 : Int)))], [])) (fun q => a_1.length - q.1.2) ⟨(w64 (left_2 - (a_1.length : Int)), 0), hb1⟩ ⟨[], [], _, _, rfl, rfl, ⟨.refl _, ⟨.refl _, ⟨.refl _, trivial⟩⟩⟩, (.refl _)⟩ ?_
   rintro ⟨⟨left_21, i_22⟩, hc1⟩
   have hc1 : laws_szSetS_L1 (a_1.drop i_22) left_21 = some p32 := hc1
   refine (show awp Try.prog false 0 _ (ofL [(0, (.lst 3 (a_1.map encGSet))), (1, (.int .i64 left_21)), (5, (.int .i64 (i_22 : Int)))]) [] _ from ?_)
   rcases dropc a_1 i_22 with ⟨hie35, hd38⟩ | ⟨hlt33, x_39, hx34, hd38⟩
   ·rw [hd38, laws_szSetS_L1.eq_1] at hc1
    have hq37 := dlf hie35
    refine awp_seq ?_; refine awp_seq ?_; refine w_reg ?_; refine s_do (o_mov (.int .i64 (i_22 : Int)) rfl) ?_; refine s_do (o_mov (.lst 3 (a_1.map encGSet)) rfl) ?_; refine s_dof (o_len (enc := encGSet) rfl) fun hl40 => ?_; refine s_do (o_q (.bool (decide ((i_22 : Int) < (a_1.length : Int)))) rfl rfl rfl) ?_; refine w_done ?_; refine k_seq ?_; refine w_condf rfl hq37 ?_; refine w_exit ?_; refine k_seqx ?_; refine k_loopx ?_; refine k_blkx ?_; obtain rfl := os hc1; exact k_cutn ⟨_, rfl⟩ ⟨[], [], _, _, rfl, rfl, ⟨.refl _, trivial⟩, (.refl _)⟩
   ·rw [hd38, laws_szSetS_L1.eq_2] at hc1
    have hq37 := dlt hlt33
    refine awp_seq ?_; refine awp_seq ?_; refine w_reg ?_; refine s_do (o_mov (.int .i64 (i_22 : Int)) rfl) ?_; refine s_do (o_mov (.lst 3 (a_1.map encGSet)) rfl) ?_; refine s_dof (o_len (enc := encGSet) rfl) fun hl41 => ?_; refine s_do (o_q (.bool (decide ((i_22 : Int) < (a_1.length : Int)))) rfl rfl rfl) ?_; refine w_done ?_; refine k_seq ?_; refine w_condt rfl hq37 ?_; refine w_skip ?_; refine k_seq ?_; refine awp_seq ?_; refine w_blk ?_; refine awp_seq ?_; refine w_reg ?_
    obtain ⟨r_42, er43, hc1⟩ := ob hc1
    refine s_do (o_mov (.lst 3 (a_1.map encGSet)) rfl) ?_; refine s_do (o_mov (.int .i64 (i_22 : Int)) rfl) ?_; refine s_do (o_iaddrn (enc := encGSet) rfl rfl hx34) ?_; refine s_do (o_q (encGSet x_39) rfl nle rfl) ?_; refine s_do (o_mov (.int .i64 left_21) rfl) ?_; refine s_do (o_call (w_laws_szSet _ _ _ er43) rfl (.refl _) rfl) ?_; refine s_do (o_mov (.int .i64 r_42) rfl) ?_; refine w_done ?_; refine k_seq ?_; refine awp_seq ?_; refine w_reg ?_; refine s_do (o_mov (.int .i64 r_42) rfl) ?_; refine s_do (o_q (.bool (decide (r_42 < 0))) rfl rfl rfl) ?_; refine w_done ?_; refine k_seq ?_
    rcases oi hc1 with ⟨c44, hc1⟩ | ⟨c44, hc1⟩
    ·refine w_condt rfl c44 ?_; refine awp_seq ?_; refine w_reg ?_; refine s_do (o_mov (.int .i64 (-1)) rfl) ?_; refine w_done ?_; refine k_seq ?_; refine w_ret ?_; obtain rfl := os hc1; obtain rfl := os hf; exact r_flat ⟨trivial, trivial⟩ rfl (.refl _)
    ·refine w_condf rfl (bf c44) ?_; refine w_skip ?_; refine k_blk ?_; refine k_seq ?_; refine w_reg ?_; refine s_do (o_mov (.int .i64 (i_22 : Int)) rfl) ?_; refine s_do (o_q (.int .i64 (w64 ((i_22 : Int) + 1))) rfl rfl rfl) ?_; refine s_do (o_mov (.int .i64 (w64 ((i_22 : Int) + 1))) rfl) ?_; refine w_done ?_; exact k_loopn ⟨(r_42, (i_22 + 1)), hc1⟩ (mul hlt33) ⟨[], [], _, _, rfl, rfl, ⟨.refl _, ⟨.refl _, ⟨.of_eq (congrArg (AV.int _) (w64_incr hlt33 hl41)), trivial⟩⟩⟩, (.refl _)⟩
  ·rintro ⟨left_31, rfl⟩
   refine awp_seq ?_; refine w_reg ?_; refine s_do (o_mov (.int .i64 left_31) rfl) ?_; refine s_do (o_mov (.int .i64 left_31) rfl) ?_; refine w_done ?_; refine k_seq ?_; refine w_ret ?_; obtain rfl := os hf; exact r_flat ⟨trivial, trivial⟩ rfl (.refl _)

/- laws.szMut -/
def c66 : ACode :=
 (.seq (.reg (.q ⟨(some 2), none, .box 3 (.t 0)⟩
 (.q ⟨(some 4), none, .mov (.c (.int .i64 0))⟩
 .done)))
 (.seq (.reg (.q ⟨(some 5), none, .mov (.t 1)⟩
 (.q ⟨(some 6), none, .faddr 0 (.t 2)⟩
 (.q ⟨(some 7), none, .load 1 false (.t 6)⟩
 (.q ⟨(some 8), none, .lenS (.t 7)⟩
 (.q ⟨(some 9), none, .bin .sub (.t 5) (.t 8)⟩
 (.q ⟨(some 1), none, .mov (.t 9)⟩
 .done)))))))
 (.seq (.seq (.reg (.q ⟨(some 10), none, .mov (.t 1)⟩
 (.q ⟨(some 11), none, .bin .lss (.t 10) (.c (.int .i64 0))⟩
 .done)))
 (.cond (.t 11) (.seq (.reg (.q ⟨(some 4), none, .mov (.c (.int .i64 (-1)))⟩
 .done))
 .ret)
 .skip))
 (.seq (.reg (.q ⟨(some 12), none, .faddr 2 (.t 2)⟩
 (.q ⟨(some 13), none, .load 1 false (.t 12)⟩
 (.q ⟨(some 14), none, .mov (.t 1)⟩
 (.q ⟨(some 15), none, .call 108 [(.t 13), (.t 14)]⟩
 (.q ⟨(some 1), none, .mov (.t 15)⟩
 .done))))))
 (.seq (.seq (.reg (.q ⟨(some 16), none, .mov (.t 1)⟩
 (.q ⟨(some 17), none, .bin .lss (.t 16) (.c (.int .i64 0))⟩
 .done)))
 (.cond (.t 17) (.seq (.reg (.q ⟨(some 4), none, .mov (.c (.int .i64 (-1)))⟩
 .done))
 .ret)
 .skip))
 (.seq (.reg (.q ⟨(some 18), none, .mov (.t 1)⟩
 (.q ⟨(some 4), none, .mov (.t 18)⟩
 .done)))
 .ret))))))
theorem fc66 : fcomp Try.prog Try.f66 = some (c66.erase, [.mov (.t 4)], 19) := by kernel_rfl
def laws_szMut (a_1 : GMut) (left_2 : Int) : Option Int :=
    if (decide (w64 (left_2 - (a_1.Column.length : Int)) < 0)) then
    some (-1)
    else
    (laws_szAtomS a_1.Value (w64 (left_2 - (a_1.Column.length : Int)))).bind fun r_5 =>
    if (decide (r_5 < 0)) then
    some (-1)
    else
    some r_5
theorem w_laws_szMut (a_1 : GMut) (left_2 : Int) (r : Int) (hf : laws_szMut a_1 left_2 = some r) : CallOK Try.prog 66 .flat [(encGMut a_1), (.int .i64 left_2)] (.int .i64 r) := by
  refine CallOK.of_awp mixed Try.func66 fc66 nle ?_
  rw [argT_eq]
  unfold laws_szMut at hf
  unfold c66
  refine (show awp Try.prog false 0 _ (ofL [(0, (encGMut a_1)), (1, (.int .i64 left_2))]) [] _ from ?_)
  refine awp_seq ?_
  refine w_reg ?_
  refine s_do (o_box (j := 0) (c := (.agg [(.str a_1.Column), (.int .i64 a_1.Func), (.lst 3 (a_1.Value.map encGAtom))])) rfl trivial rfl rfl) ?_
  refine s_do (o_mov (.int .i64 0) rfl) ?_
  refine w_done ?_
  refine k_seq ?_
  refine awp_seq ?_
  refine w_reg ?_
  refine s_do (o_mov (.int .i64 left_2) rfl) ?_
  refine s_do (o_q (.ptr 0 0 0) rfl trivial rfl) ?_
  refine s_do (o_q (.str a_1.Column) rfl nle rfl) ?_
  refine s_dof (o_lenS rfl) fun hl3 => ?_
  refine s_do (o_q (.int .i64 (w64 (left_2 - (a_1.Column.length : Int)))) rfl rfl rfl) ?_
  refine s_do (o_mov (.int .i64 (w64 (left_2 - (a_1.Column.length : Int)))) rfl) ?_
  refine w_done ?_
  refine k_seq ?_
  refine awp_seq ?_
  refine awp_seq ?_
  refine w_reg ?_
  refine s_do (o_mov (.int .i64 (w64 (left_2 - (a_1.Column.length : Int)))) rfl) ?_
  refine s_do (o_q (.bool (decide (w64 (left_2 - (a_1.Column.length : Int)) < 0))) rfl rfl rfl) ?_
  refine w_done ?_
  refine k_seq ?_
  rcases oi hf with ⟨c4, hf⟩ | ⟨c4, hf⟩
  · refine w_condt rfl c4 ?_
    refine awp_seq ?_
    refine w_reg ?_
    refine s_do (o_mov (.int .i64 (-1)) rfl) ?_
    refine w_done ?_
    refine k_seq ?_
    refine w_ret ?_
    obtain rfl := os hf
    exact r_flat ⟨trivial, trivial⟩ rfl (.refl _)
  · refine w_condf rfl (bf c4) ?_
    refine w_skip ?_
    refine k_seq ?_
    refine awp_seq ?_
    refine w_reg ?_
    obtain ⟨r_5, er6, hf⟩ := ob hf
    refine s_do (o_q (.ptr 0 0 2) rfl trivial rfl) ?_
    refine s_do (o_q (.lst 3 (a_1.Value.map encGAtom)) rfl nle rfl) ?_
    refine s_do (o_mov (.int .i64 (w64 (left_2 - (a_1.Column.length : Int)))) rfl) ?_
    refine s_do (o_call (w_laws_szAtomS _ _ _ er6) rfl (.refl _) rfl) ?_
    refine s_do (o_mov (.int .i64 r_5) rfl) ?_
    refine w_done ?_
    refine k_seq ?_
    refine awp_seq ?_
    refine awp_seq ?_
    refine w_reg ?_
    refine s_do (o_mov (.int .i64 r_5) rfl) ?_
    refine s_do (o_q (.bool (decide (r_5 < 0))) rfl rfl rfl) ?_
    refine w_done ?_
    refine k_seq ?_
    rcases oi hf with ⟨c7, hf⟩ | ⟨c7, hf⟩
    · refine w_condt rfl c7 ?_
      refine awp_seq ?_
      refine w_reg ?_
      refine s_do (o_mov (.int .i64 (-1)) rfl) ?_
      refine w_done ?_
      refine k_seq ?_
      refine w_ret ?_
      obtain rfl := os hf
      exact r_flat ⟨trivial, trivial⟩ rfl (.refl _)
    · refine w_condf rfl (bf c7) ?_
      refine w_skip ?_
      refine k_seq ?_
      refine awp_seq ?_
      refine w_reg ?_
      refine s_do (o_mov (.int .i64 r_5) rfl) ?_
      refine s_do (o_mov (.int .i64 r_5) rfl) ?_
      refine w_done ?_
      refine k_seq ?_
      refine w_ret ?_
      obtain rfl := os hf
      exact r_flat ⟨trivial, trivial⟩ rfl (.refl _)

/- laws.szMutS -/
def c26 : ACode :=
 (.seq (.reg (.q ⟨(some 4), none, .mov (.c (.int .i64 0))⟩
 .done))
 (.seq (.reg (.q ⟨(some 6), none, .mov (.t 1)⟩
 (.q ⟨(some 7), none, .mov (.t 0)⟩
 (.q ⟨(some 8), none, .len (.t 7)⟩
 (.q ⟨(some 9), none, .bin .sub (.t 6) (.t 8)⟩
 (.q ⟨(some 1), none, .mov (.t 9)⟩
 .done))))))
 (.seq (.seq (.reg (.q ⟨(some 10), none, .mov (.t 1)⟩
 (.q ⟨(some 11), none, .bin .lss (.t 10) (.c (.int .i64 0))⟩
 .done)))
 (.cond (.t 11) (.seq (.reg (.q ⟨(some 4), none, .mov (.c (.int .i64 (-1)))⟩
 .done))
 .ret)
 .skip))
 (.seq (.seq (.reg (.q ⟨(some 5), none, .mov (.c (.int .i64 0))⟩
 .done))
 (.block 0 (.loop (.seq (.seq (.reg (.q ⟨(some 12), none, .mov (.t 5)⟩
 (.q ⟨(some 13), none, .mov (.t 0)⟩
 (.q ⟨(some 14), none, .len (.t 13)⟩
 (.q ⟨(some 15), none, .bin .lss (.t 12) (.t 14)⟩
 .done)))))
 (.cond (.t 15) .skip
 (.exit 0)))
 (.seq (.block 1 (.seq (.reg (.q ⟨(some 18), none, .mov (.t 0)⟩
 (.q ⟨(some 19), none, .mov (.t 5)⟩
 (.q ⟨(some 20), none, .iaddr 3 (.t 18) (.t 19)⟩
 (.q ⟨(some 21), none, .load 3 true (.t 20)⟩
 (.q ⟨(some 22), none, .mov (.t 1)⟩
 (.q ⟨(some 23), none, .call 66 [(.t 21), (.t 22)]⟩
 (.q ⟨(some 1), none, .mov (.t 23)⟩
 .done))))))))
 (.seq (.reg (.q ⟨(some 24), none, .mov (.t 1)⟩
 (.q ⟨(some 25), none, .bin .lss (.t 24) (.c (.int .i64 0))⟩
 .done)))
 (.cond (.t 25) (.seq (.reg (.q ⟨(some 4), none, .mov (.c (.int .i64 (-1)))⟩
 .done))
 .ret)
 .skip))))
 (.reg (.q ⟨(some 16), none, .mov (.t 5)⟩
 (.q ⟨(some 17), none, .bin .add (.t 16) (.c (.int .i64 1))⟩
 (.q ⟨(some 5), none, .mov (.t 17)⟩
 .done)))))))))
 (.cut (.seq (.reg (.q ⟨(some 26), none, .mov (.t 1)⟩
 (.q ⟨(some 4), none, .mov (.t 26)⟩
 .done)))
 .ret))))))
theorem fc26 : fcomp Try.prog Try.f26 = some (c26.erase, [.mov (.t 4)], 27) := by kernel_rfl
def laws_szMutS_L1  : List GMut → Int → Option (Fl Int Int)
  | [], left_21 =>
    some (.go left_21)
  | x_39 :: xs, left_21 =>
    (laws_szMut x_39 left_21).bind fun r_42 =>
    if (decide (r_42 < 0)) then
    some (.ret (-1))
    else
    laws_szMutS_L1 xs r_42 

def laws_szMutS (a_1 : (List GMut)) (left_2 : Int) : Option Int :=
    if (decide (w64 (left_2 - (a_1.length : Int)) < 0)) then
    some (-1)
    else
    (laws_szMutS_L1 a_1 (w64 (left_2 - (a_1.length : Int)))).bind fun q => (match q with
    | .ret r => some r
    | .go left_31 =>
    some left_31)
theorem w_laws_szMutS (a_1 : (List GMut)) (left_2 : Int) (r : Int) (hf : laws_szMutS a_1 left_2 = some r) : CallOK Try.prog 26 .flat [(.lst 3 (a_1.map encGMut)), (.int .i64 left_2)] (.int .i64 r) := by
 refine CallOK.of_awp mixed Try.func26 fc26 nle ?_; rw [argT_eq]; unfold laws_szMutS at hf; unfold c26; refine (show awp Try.prog false 0 _ (ofL [(0, (.lst 3 (a_1.map encGMut))), (1, (.int .i64 left_2))]) [] _ from ?_); refine awp_seq ?_; refine w_reg ?_; refine s_do (o_mov (.int .i64 0) rfl) ?_; refine w_done ?_; refine k_seq ?_; refine awp_seq ?_; refine w_reg ?_; refine s_do (o_mov (.int .i64 left_2) rfl) ?_; refine s_do (o_mov (.lst 3 (a_1.map encGMut)) rfl) ?_; refine s_dof (o_len (enc := encGMut) rfl) fun hl3 => ?_; refine s_do (o_q (.int .i64 (w64 (left_2 - (a_1.length : Int)))) rfl rfl rfl) ?_
 refine s_do (o_mov (.int .i64 (w64 (left_2 - (a_1.length : Int)))) rfl) ?_; refine w_done ?_; refine k_seq ?_; refine awp_seq ?_; refine awp_seq ?_; refine w_reg ?_; refine s_do (o_mov (.int .i64 (w64 (left_2 - (a_1.length : Int)))) rfl) ?_; refine s_do (o_q (.bool (decide (w64 (left_2 - (a_1.length : Int)) < 0))) rfl rfl rfl) ?_; refine w_done ?_; refine k_seq ?_
 rcases oi hf with ⟨c4, hf⟩ | ⟨c4, hf⟩
 ·refine w_condt rfl c4 ?_; refine awp_seq ?_; refine w_reg ?_; refine s_do (o_mov (.int .i64 (-1)) rfl) ?_; refine w_done ?_; refine k_seq ?_; refine w_ret ?_; obtain rfl := os hf; exact r_flat ⟨trivial, trivial⟩ rfl (.refl _)
 ·refine w_condf rfl (bf c4) ?_; refine w_skip ?_; refine k_seq ?_; refine awp_seq ?_; refine awp_seq ?_; refine w_reg ?_; refine s_do (o_mov (.int .i64 0) rfl) ?_; refine w_done ?_; refine k_seq ?_
  obtain ⟨p32, hb1, hf⟩ := ob hf
  refine awp_cutx (X := {q : Int // p32 = .go q}) (fun q => ([(1, (.int .i64 q.1))], [])) ?_ ?_
  ·refine awp_loop (X := {q : (Int × Nat) // laws_szMutS_L1 (a_1.drop q.2) q.1 = some p32}) (fun q => ([(0, (.lst 3 (a_1.map encGMut))), (1, (.int .i64 q.1.1)), (5, (.int .i64 (q.1.2 : Int)))], [])) (fun q => a_1.length - q.1.2) ⟨(w64 (left_2 - (a_1.length : Int)), 0), hb1⟩ ⟨[], [], _, _, rfl, rfl, ⟨.refl _, ⟨.refl _, ⟨.refl _, trivial⟩⟩⟩, (.refl _)⟩ ?_
   rintro ⟨⟨left_21, i_22⟩, hc1⟩
   have hc1 : laws_szMutS_L1 (a_1.drop i_22) left_21 = some p32 := hc1
   refine (show awp Try.prog false 0 _ (ofL [(0, (.lst 3 (a_1.map encGMut))), (1, (.int .i64 left_21)), (5, (.int .i64 (i_22 : Int)))]) [] _ from ?_)
   rcases dropc a_1 i_22 with ⟨hie35, hd38⟩ | ⟨hlt33, x_39, hx34, hd38⟩
   ·rw [hd38, laws_szMutS_L1.eq_1] at hc1
    have hq37 := dlf hie35
    refine awp_seq ?_; refine awp_seq ?_; refine w_reg ?_; refine s_do (o_mov (.int .i64 (i_22 : Int)) rfl) ?_; refine s_do (o_mov (.lst 3 (a_1.map encGMut)) rfl) ?_; refine s_dof (o_len (enc := encGMut) rfl) fun hl40 => ?_; refine s_do (o_q (.bool (decide ((i_22 : Int) < (a_1.length : Int)))) rfl rfl rfl) ?_; refine w_done ?_; refine k_seq ?_; refine w_condf rfl hq37 ?_; refine w_exit ?_; refine k_seqx ?_; refine k_loopx ?_; refine k_blkx ?_; obtain rfl := os hc1; exact k_cutn ⟨_, rfl⟩ ⟨[], [], _, _, rfl, rfl, ⟨.refl _, trivial⟩, (.refl _)⟩
   ·rw [hd38, laws_szMutS_L1.eq_2] at hc1
    have hq37 := dlt hlt33
    refine awp_seq ?_; refine awp_seq ?_; refine w_reg ?_; refine s_do (o_mov (.int .i64 (i_22 : Int)) rfl) ?_; refine s_do (o_mov (.lst 3 (a_1.map encGMut)) rfl) ?_; refine s_dof (o_len (enc := encGMut) rfl) fun hl41 => ?_; refine s_do (o_q (.bool (decide ((i_22 : Int) < (a_1.length : Int)))) rfl rfl rfl) ?_; refine w_done ?_; refine k_seq ?_; refine w_condt rfl hq37 ?_; refine w_skip ?_; refine k_seq ?_; refine awp_seq ?_; refine w_blk ?_; refine awp_seq ?_; refine w_reg ?_
    obtain ⟨r_42, er43, hc1⟩ := ob hc1
    refine s_do (o_mov (.lst 3 (a_1.map encGMut)) rfl) ?_; refine s_do (o_mov (.int .i64 (i_22 : Int)) rfl) ?_; refine s_do (o_iaddrn (enc := encGMut) rfl rfl hx34) ?_; refine s_do (o_q (encGMut x_39) rfl nle rfl) ?_; refine s_do (o_mov (.int .i64 left_21) rfl) ?_; refine s_do (o_call (w_laws_szMut _ _ _ er43) rfl (.refl _) rfl) ?_; refine s_do (o_mov (.int .i64 r_42) rfl) ?_; refine w_done ?_; refine k_seq ?_; refine awp_seq ?_; refine w_reg ?_; refine s_do (o_mov (.int .i64 r_42) rfl) ?_; refine s_do (o_q (.bool (decide (r_42 < 0))) rfl rfl rfl) ?_; refine w_done ?_; refine k_seq ?_
    rcases oi hc1 with ⟨c44, hc1⟩ | ⟨c44, hc1⟩
    ·refine w_condt rfl c44 ?_; refine awp_seq ?_; refine w_reg ?_; refine s_do (o_mov (.int .i64 (-1)) rfl) ?_; refine w_done ?_; refine k_seq ?_; refine w_ret ?_; obtain rfl := os hc1; obtain rfl := os hf; exact r_flat ⟨trivial, trivial⟩ rfl (.refl _)
    ·refine w_condf rfl (bf c44) ?_; refine w_skip ?_; refine k_blk ?_; refine k_seq ?_; refine w_reg ?_; refine s_do (o_mov (.int .i64 (i_22 : Int)) rfl) ?_; refine s_do (o_q (.int .i64 (w64 ((i_22 : Int) + 1))) rfl rfl rfl) ?_; refine s_do (o_mov (.int .i64 (w64 ((i_22 : Int) + 1))) rfl) ?_; refine w_done ?_; exact k_loopn ⟨(r_42, (i_22 + 1)), hc1⟩ (mul hlt33) ⟨[], [], _, _, rfl, rfl, ⟨.refl _, ⟨.refl _, ⟨.of_eq (congrArg (AV.int _) (w64_incr hlt33 hl41)), trivial⟩⟩⟩, (.refl _)⟩
  ·rintro ⟨left_31, rfl⟩
   refine awp_seq ?_; refine w_reg ?_; refine s_do (o_mov (.int .i64 left_31) rfl) ?_; refine s_do (o_mov (.int .i64 left_31) rfl) ?_; refine w_done ?_; refine k_seq ?_; refine w_ret ?_; obtain rfl := os hf; exact r_flat ⟨trivial, trivial⟩ rfl (.refl _)

/- laws.szOp -/
def c7 : ACode :=
 (.seq (.reg (.q ⟨(some 2), none, .box 8 (.t 0)⟩
 (.q ⟨(some 4), none, .mov (.c (.int .i64 0))⟩
 .done)))
 (.seq (.reg (.q ⟨(some 5), none, .mov (.t 1)⟩
 (.q ⟨(some 6), none, .faddr 1 (.t 2)⟩
 (.q ⟨(some 7), none, .load 1 false (.t 6)⟩
 (.q ⟨(some 8), none, .lenS (.t 7)⟩
 (.q ⟨(some 9), none, .bin .sub (.t 5) (.t 8)⟩
 (.q ⟨(some 1), none, .mov (.t 9)⟩
 .done)))))))
 (.seq (.seq (.reg (.q ⟨(some 10), none, .mov (.t 1)⟩
 (.q ⟨(some 11), none, .bin .lss (.t 10) (.c (.int .i64 0))⟩
 .done)))
 (.cond (.t 11) (.seq (.reg (.q ⟨(some 4), none, .mov (.c (.int .i64 (-1)))⟩
 .done))
 .ret)
 .skip))
 (.seq (.reg (.q ⟨(some 12), none, .mov (.t 1)⟩
 (.q ⟨(some 13), none, .faddr 2 (.t 2)⟩
 (.q ⟨(some 14), none, .load 1 false (.t 13)⟩
 (.q ⟨(some 15), none, .lenS (.t 14)⟩
 (.q ⟨(some 16), none, .bin .sub (.t 12) (.t 15)⟩
 (.q ⟨(some 1), none, .mov (.t 16)⟩
 .done)))))))
 (.seq (.seq (.reg (.q ⟨(some 17), none, .mov (.t 1)⟩
 (.q ⟨(some 18), none, .bin .lss (.t 17) (.c (.int .i64 0))⟩
 .done)))
 (.cond (.t 18) (.seq (.reg (.q ⟨(some 4), none, .mov (.c (.int .i64 (-1)))⟩
 .done))
 .ret)
 .skip))
 (.seq (.reg (.q ⟨(some 19), none, .faddr 3 (.t 2)⟩
 (.q ⟨(some 20), none, .load 1 false (.t 19)⟩
 (.q ⟨(some 21), none, .mov (.t 1)⟩
 (.q ⟨(some 22), none, .call 24 [(.t 20), (.t 21)]⟩
 (.q ⟨(some 1), none, .mov (.t 22)⟩
 .done))))))
 (.seq (.seq (.reg (.q ⟨(some 23), none, .mov (.t 1)⟩
 (.q ⟨(some 24), none, .bin .lss (.t 23) (.c (.int .i64 0))⟩
 .done)))
 (.cond (.t 24) (.seq (.reg (.q ⟨(some 4), none, .mov (.c (.int .i64 (-1)))⟩
 .done))
 .ret)
 .skip))
 (.seq (.reg (.q ⟨(some 25), none, .faddr 4 (.t 2)⟩
 (.q ⟨(some 26), none, .load 1 false (.t 25)⟩
 (.q ⟨(some 27), none, .mov (.t 1)⟩
 (.q ⟨(some 28), none, .call 25 [(.t 26), (.t 27)]⟩
 (.q ⟨(some 1), none, .mov (.t 28)⟩
 .done))))))
 (.seq (.seq (.reg (.q ⟨(some 29), none, .mov (.t 1)⟩
 (.q ⟨(some 30), none, .bin .lss (.t 29) (.c (.int .i64 0))⟩
 .done)))
 (.cond (.t 30) (.seq (.reg (.q ⟨(some 4), none, .mov (.c (.int .i64 (-1)))⟩
 .done))
 .ret)
 .skip))
 (.seq (.reg (.q ⟨(some 31), none, .faddr 5 (.t 2)⟩
 (.q ⟨(some 32), none, .load 1 false (.t 31)⟩
 (.q ⟨(some 33), none, .mov (.t 1)⟩
 (.q ⟨(some 34), none, .call 26 [(.t 32), (.t 33)]⟩
 (.q ⟨(some 1), none, .mov (.t 34)⟩
 .done))))))
 (.seq (.seq (.reg (.q ⟨(some 35), none, .mov (.t 1)⟩
 (.q ⟨(some 36), none, .bin .lss (.t 35) (.c (.int .i64 0))⟩
 .done)))
 (.cond (.t 36) (.seq (.reg (.q ⟨(some 4), none, .mov (.c (.int .i64 (-1)))⟩
 .done))
 .ret)
 .skip))
 (.seq (.reg (.q ⟨(some 37), none, .faddr 6 (.t 2)⟩
 (.q ⟨(some 38), none, .load 1 false (.t 37)⟩
 (.q ⟨(some 39), none, .mov (.t 1)⟩
 (.q ⟨(some 40), none, .call 27 [(.t 38), (.t 39)]⟩
 (.q ⟨(some 1), none, .mov (.t 40)⟩
 .done))))))
 (.seq (.seq (.reg (.q ⟨(some 41), none, .mov (.t 1)⟩
 (.q ⟨(some 42), none, .bin .lss (.t 41) (.c (.int .i64 0))⟩
 .done)))
 (.cond (.t 42) (.seq (.reg (.q ⟨(some 4), none, .mov (.c (.int .i64 (-1)))⟩
 .done))
 .ret)
 .skip))
 (.seq (.reg (.q ⟨(some 43), none, .mov (.t 1)⟩
 (.q ⟨(some 4), none, .mov (.t 43)⟩
 .done)))
 .ret))))))))))))))
theorem fc7 : fcomp Try.prog Try.f7 = some (c7.erase, [.mov (.t 4)], 44) := by kernel_rfl
def laws_szOp (a_1 : GOp) (left_2 : Int) : Option Int :=
    if (decide (w64 (left_2 - (a_1.Table.length : Int)) < 0)) then
    some (-1)
    else
    if (decide (w64 ((w64 (left_2 - (a_1.Table.length : Int))) - (a_1.Name.length : Int)) < 0)) then
    some (-1)
    else
    (laws_szCondS a_1.Where (w64 ((w64 (left_2 - (a_1.Table.length : Int))) - (a_1.Name.length : Int)))).bind fun r_7 =>
    if (decide (r_7 < 0)) then
    some (-1)
    else
    (laws_szSetS a_1.Row r_7).bind fun r_10 =>
    if (decide (r_10 < 0)) then
    some (-1)
    else
    (laws_szMutS a_1.Muts r_10).bind fun r_13 =>
    if (decide (r_13 < 0)) then
    some (-1)
    else
    (laws_szStringS a_1.Columns r_13).bind fun r_16 =>
    if (decide (r_16 < 0)) then
    some (-1)
    else
    some r_16
theorem w_laws_szOp (a_1 : GOp) (left_2 : Int) (r : Int) (hf : laws_szOp a_1 left_2 = some r) : CallOK Try.prog 7 .flat [(encGOp a_1), (.int .i64 left_2)] (.int .i64 r) := by
 refine CallOK.of_awp mixed Try.func7 fc7 nle ?_; rw [argT_eq]; unfold laws_szOp at hf; unfold c7; refine (show awp Try.prog false 0 _ (ofL [(0, (encGOp a_1)), (1, (.int .i64 left_2))]) [] _ from ?_); refine awp_seq ?_; refine w_reg ?_; refine s_do (o_box (j := 0) (c := (.agg [(.int .i64 a_1.Kind), (.str a_1.Table), (.str a_1.Name), (.lst 3 (a_1.Where.map encGCond)), (.lst 3 (a_1.Row.map encGSet)), (.lst 3 (a_1.Muts.map encGMut)), (.lst 1 (a_1.Columns.map AV.str)), (.bool a_1.Until)])) rfl trivial rfl rfl) ?_; refine s_do (o_mov (.int .i64 0) rfl) ?_; refine w_done ?_; refine k_seq ?_; refine awp_seq ?_
 refine w_reg ?_; refine s_do (o_mov (.int .i64 left_2) rfl) ?_; refine s_do (o_q (.ptr 0 0 1) rfl trivial rfl) ?_; refine s_do (o_q (.str a_1.Table) rfl nle rfl) ?_; refine s_dof (o_lenS rfl) fun hl3 => ?_; refine s_do (o_q (.int .i64 (w64 (left_2 - (a_1.Table.length : Int)))) rfl rfl rfl) ?_; refine s_do (o_mov (.int .i64 (w64 (left_2 - (a_1.Table.length : Int)))) rfl) ?_; refine w_done ?_; refine k_seq ?_; refine awp_seq ?_; refine awp_seq ?_; refine w_reg ?_; refine s_do (o_mov (.int .i64 (w64 (left_2 - (a_1.Table.length : Int)))) rfl) ?_; refine s_do (o_q (.bool (decide (w64 (left_2 - (a_1.Table.length : Int)) < 0))) rfl rfl rfl) ?_
 refine w_done ?_; refine k_seq ?_
 rcases oi hf with ⟨c4, hf⟩ | ⟨c4, hf⟩
 ·refine w_condt rfl c4 ?_; refine awp_seq ?_; refine w_reg ?_; refine s_do (o_mov (.int .i64 (-1)) rfl) ?_; refine w_done ?_; refine k_seq ?_; refine w_ret ?_; obtain rfl := os hf; exact r_flat ⟨trivial, trivial⟩ rfl (.refl _)
 ·refine w_condf rfl (bf c4) ?_; refine w_skip ?_; refine k_seq ?_; refine awp_seq ?_; refine w_reg ?_; refine s_do (o_mov (.int .i64 (w64 (left_2 - (a_1.Table.length : Int)))) rfl) ?_; refine s_do (o_q (.ptr 0 0 2) rfl trivial rfl) ?_; refine s_do (o_q (.str a_1.Name) rfl nle rfl) ?_; refine s_dof (o_lenS rfl) fun hl5 => ?_; refine s_do (o_q (.int .i64 (w64 ((w64 (left_2 - (a_1.Table.length : Int))) - (a_1.Name.length : Int)))) rfl rfl rfl) ?_; refine s_do (o_mov (.int .i64 (w64 ((w64 (left_2 - (a_1.Table.length : Int))) - (a_1.Name.length : Int)))) rfl) ?_; refine w_done ?_; refine k_seq ?_; refine awp_seq ?_
  refine awp_seq ?_; refine w_reg ?_; refine s_do (o_mov (.int .i64 (w64 ((w64 (left_2 - (a_1.Table.length : Int))) - (a_1.Name.length : Int)))) rfl) ?_; refine s_do (o_q (.bool (decide (w64 ((w64 (left_2 - (a_1.Table.length : Int))) - (a_1.Name.length : Int)) < 0))) rfl rfl rfl) ?_; refine w_done ?_; refine k_seq ?_
  rcases oi hf with ⟨c6, hf⟩ | ⟨c6, hf⟩
  ·refine w_condt rfl c6 ?_; refine awp_seq ?_; refine w_reg ?_; refine s_do (o_mov (.int .i64 (-1)) rfl) ?_; refine w_done ?_; refine k_seq ?_; refine w_ret ?_; obtain rfl := os hf; exact r_flat ⟨trivial, trivial⟩ rfl (.refl _)
  ·refine w_condf rfl (bf c6) ?_; refine w_skip ?_; refine k_seq ?_; refine awp_seq ?_; refine w_reg ?_
   obtain ⟨r_7, er8, hf⟩ := ob hf
   refine s_do (o_q (.ptr 0 0 3) rfl trivial rfl) ?_; refine s_do (o_q (.lst 3 (a_1.Where.map encGCond)) rfl nle rfl) ?_; refine s_do (o_mov (.int .i64 (w64 ((w64 (left_2 - (a_1.Table.length : Int))) - (a_1.Name.length : Int)))) rfl) ?_; refine s_do (o_call (w_laws_szCondS _ _ _ er8) rfl (.refl _) rfl) ?_; refine s_do (o_mov (.int .i64 r_7) rfl) ?_; refine w_done ?_; refine k_seq ?_; refine awp_seq ?_; refine awp_seq ?_; refine w_reg ?_; refine s_do (o_mov (.int .i64 r_7) rfl) ?_; refine s_do (o_q (.bool (decide (r_7 < 0))) rfl rfl rfl) ?_; refine w_done ?_; refine k_seq ?_
   rcases oi hf with ⟨c9, hf⟩ | ⟨c9, hf⟩
   ·refine w_condt rfl c9 ?_; refine awp_seq ?_; refine w_reg ?_; refine s_do (o_mov (.int .i64 (-1)) rfl) ?_; refine w_done ?_; refine k_seq ?_; refine w_ret ?_; obtain rfl := os hf; exact r_flat ⟨trivial, trivial⟩ rfl (.refl _)
   ·refine w_condf rfl (bf c9) ?_; refine w_skip ?_; refine k_seq ?_; refine awp_seq ?_; refine w_reg ?_
    obtain ⟨r_10, er11, hf⟩ := ob hf
    refine s_do (o_q (.ptr 0 0 4) rfl trivial rfl) ?_; refine s_do (o_q (.lst 3 (a_1.Row.map encGSet)) rfl nle rfl) ?_; refine s_do (o_mov (.int .i64 r_7) rfl) ?_; refine s_do (o_call (w_laws_szSetS _ _ _ er11) rfl (.refl _) rfl) ?_; refine s_do (o_mov (.int .i64 r_10) rfl) ?_; refine w_done ?_; refine k_seq ?_; refine awp_seq ?_; refine awp_seq ?_; refine w_reg ?_; refine s_do (o_mov (.int .i64 r_10) rfl) ?_; refine s_do (o_q (.bool (decide (r_10 < 0))) rfl rfl rfl) ?_; refine w_done ?_; refine k_seq ?_
    rcases oi hf with ⟨c12, hf⟩ | ⟨c12, hf⟩
    ·refine w_condt rfl c12 ?_; refine awp_seq ?_; refine w_reg ?_; refine s_do (o_mov (.int .i64 (-1)) rfl) ?_; refine w_done ?_; refine k_seq ?_; refine w_ret ?_; obtain rfl := os hf; exact r_flat ⟨trivial, trivial⟩ rfl (.refl _)
    ·refine w_condf rfl (bf c12) ?_; refine w_skip ?_; refine k_seq ?_; refine awp_seq ?_; refine w_reg ?_
     obtain ⟨r_13, er14, hf⟩ := ob hf
     refine s_do (o_q (.ptr 0 0 5) rfl trivial rfl) ?_; refine s_do (o_q (.lst 3 (a_1.Muts.map encGMut)) rfl nle rfl) ?_; refine s_do (o_mov (.int .i64 r_10) rfl) ?_; refine s_do (o_call (w_laws_szMutS _ _ _ er14) rfl (.refl _) rfl) ?_; refine s_do (o_mov (.int .i64 r_13) rfl) ?_; refine w_done ?_; refine k_seq ?_; refine awp_seq ?_; refine awp_seq ?_; refine w_reg ?_; refine s_do (o_mov (.int .i64 r_13) rfl) ?_; refine s_do (o_q (.bool (decide (r_13 < 0))) rfl rfl rfl) ?_; refine w_done ?_; refine k_seq ?_
     rcases oi hf with ⟨c15, hf⟩ | ⟨c15, hf⟩
     ·refine w_condt rfl c15 ?_; refine awp_seq ?_; refine w_reg ?_; refine s_do (o_mov (.int .i64 (-1)) rfl) ?_; refine w_done ?_; refine k_seq ?_; refine w_ret ?_; obtain rfl := os hf; exact r_flat ⟨trivial, trivial⟩ rfl (.refl _)
     ·refine w_condf rfl (bf c15) ?_; refine w_skip ?_; refine k_seq ?_; refine awp_seq ?_; refine w_reg ?_
      obtain ⟨r_16, er17, hf⟩ := ob hf
      refine s_do (o_q (.ptr 0 0 6) rfl trivial rfl) ?_; refine s_do (o_q (.lst 1 (a_1.Columns.map AV.str)) rfl nle rfl) ?_; refine s_do (o_mov (.int .i64 r_13) rfl) ?_; refine s_do (o_call (w_laws_szStringS _ _ _ er17) rfl (.refl _) rfl) ?_; refine s_do (o_mov (.int .i64 r_16) rfl) ?_; refine w_done ?_; refine k_seq ?_; refine awp_seq ?_; refine awp_seq ?_; refine w_reg ?_; refine s_do (o_mov (.int .i64 r_16) rfl) ?_; refine s_do (o_q (.bool (decide (r_16 < 0))) rfl rfl rfl) ?_; refine w_done ?_; refine k_seq ?_
      rcases oi hf with ⟨c18, hf⟩ | ⟨c18, hf⟩
      ·refine w_condt rfl c18 ?_; refine awp_seq ?_; refine w_reg ?_; refine s_do (o_mov (.int .i64 (-1)) rfl) ?_; refine w_done ?_; refine k_seq ?_; refine w_ret ?_; obtain rfl := os hf; exact r_flat ⟨trivial, trivial⟩ rfl (.refl _)
      ·refine w_condf rfl (bf c18) ?_; refine w_skip ?_; refine k_seq ?_; refine awp_seq ?_; refine w_reg ?_; refine s_do (o_mov (.int .i64 r_16) rfl) ?_; refine s_do (o_mov (.int .i64 r_16) rfl) ?_; refine w_done ?_; refine k_seq ?_; refine w_ret ?_; obtain rfl := os hf; exact r_flat ⟨trivial, trivial⟩ rfl (.refl _)

/- laws.toAtom -/
def c130 : ACode :=
 (.seq (.reg (.q ⟨(some 1), none, .box 3 (.t 0)⟩
 (.q ⟨(some 2), none, .box 3 (.c (.agg [(.int .i64 0), (.int .i64 0), (.str [])]))⟩
 .done)))
 (.seq (.reg (.q ⟨(some 3), none, .box 3 (.c (.agg [(.int .i64 0), (.int .i64 0), (.str [])]))⟩
 .done))
 (.seq (.reg (.q ⟨(some 4), none, .faddr 0 (.t 1)⟩
 (.q ⟨(some 5), none, .load 1 false (.t 4)⟩
 (.q ⟨(some 6), none, .faddr 0 (.t 3)⟩
 (.q ⟨none, none, .store 1 (.t 6) (.t 5)⟩
 .done)))))
 (.seq (.reg (.q ⟨(some 7), none, .faddr 1 (.t 1)⟩
 (.q ⟨(some 8), none, .load 1 false (.t 7)⟩
 (.q ⟨(some 9), none, .faddr 1 (.t 3)⟩
 (.q ⟨none, none, .store 1 (.t 9) (.t 8)⟩
 .done)))))
 (.seq (.reg (.q ⟨(some 10), none, .faddr 2 (.t 1)⟩
 (.q ⟨(some 11), none, .load 1 false (.t 10)⟩
 (.q ⟨(some 12), none, .faddr 2 (.t 3)⟩
 (.q ⟨none, none, .store 1 (.t 12) (.t 11)⟩
 .done)))))
 (.seq (.reg (.q ⟨(some 13), none, .load 3 true (.t 3)⟩
 (.q ⟨none, none, .store 3 (.t 2) (.t 13)⟩
 .done)))
 .ret))))))
theorem fc130 : fcomp Try.prog Try.f130 = some (c130.erase, [.load 3 true (.t 2)], 14) := by kernel_rfl
def laws_toAtom (a_1 : GAtom) : Option GAtom :=
    some a_1
theorem w_laws_toAtom (a_1 : GAtom) (r : GAtom) (hf : laws_toAtom a_1 = some r) : CallOK Try.prog 130 .flat [(encGAtom a_1)] (encGAtom r) := by
  refine CallOK.of_awp mixed Try.func130 fc130 nle ?_
  rw [argT_eq]
  unfold laws_toAtom at hf
  unfold c130
  refine (show awp Try.prog false 0 _ (ofL [(0, (encGAtom a_1))]) [] _ from ?_)
  refine awp_seq ?_
  refine w_reg ?_
  refine s_do (o_box (j := 0) (c := (.agg [(.int .i64 a_1.Kind), (.int .i64 a_1.N), (.str a_1.T)])) rfl trivial rfl rfl) ?_
  refine s_do (o_box (j := 1) (c := (.agg [(.int .i64 0), (.int .i64 0), (.str [])])) rfl trivial rfl rfl) ?_
  refine w_done ?_
  refine k_seq ?_
  refine awp_seq ?_
  refine w_reg ?_
  refine s_do (o_box (j := 2) (c := (.agg [(.int .i64 0), (.int .i64 0), (.str [])])) rfl trivial rfl rfl) ?_
  refine w_done ?_
  refine k_seq ?_
  refine awp_seq ?_
  refine w_reg ?_
  refine s_do (o_q (.ptr 0 0 0) rfl trivial rfl) ?_
  refine s_do (o_q (.int .i64 a_1.Kind) rfl nle rfl) ?_
  refine s_do (o_q (.ptr 2 0 0) rfl trivial rfl) ?_
  refine s_do0 (o_storebox (v := (.int .i64 a_1.Kind)) (y' := (.agg [(.int .i64 a_1.Kind), (.int .i64 0), (.str [])])) rfl rfl rfl trivial ⟨rfl, nle⟩ ⟨⟨rfl, trivial⟩, trivial⟩ rfl) ?_
  refine w_done ?_
  refine k_seq ?_
  refine awp_seq ?_
  refine w_reg ?_
  refine s_do (o_q (.ptr 0 0 1) rfl trivial rfl) ?_
  refine s_do (o_q (.int .i64 a_1.N) rfl nle rfl) ?_
  refine s_do (o_q (.ptr 2 0 1) rfl trivial rfl) ?_
  refine s_do0 (o_storebox (v := (.int .i64 a_1.N)) (y' := (.agg [(.int .i64 a_1.Kind), (.int .i64 a_1.N), (.str [])])) rfl rfl rfl trivial ⟨rfl, nle⟩ ⟨⟨rfl, trivial⟩, trivial⟩ rfl) ?_
  refine w_done ?_
  refine k_seq ?_
  refine awp_seq ?_
  refine w_reg ?_
  refine s_do (o_q (.ptr 0 0 2) rfl trivial rfl) ?_
  refine s_do (o_q (.str a_1.T) rfl nle rfl) ?_
  refine s_do (o_q (.ptr 2 0 2) rfl trivial rfl) ?_
  refine s_do0 (o_storebox (v := (.str a_1.T)) (y' := (.agg [(.int .i64 a_1.Kind), (.int .i64 a_1.N), (.str a_1.T)])) rfl rfl rfl trivial ⟨rfl, nle⟩ ⟨⟨rfl, trivial⟩, trivial⟩ rfl) ?_
  refine w_done ?_
  refine k_seq ?_
  refine awp_seq ?_
  refine w_reg ?_
  refine s_do (o_q (.agg [(.int .i64 a_1.Kind), (.int .i64 a_1.N), (.str a_1.T)]) rfl nle rfl) ?_
  refine s_do0 (o_storebox (v := (.agg [(.int .i64 a_1.Kind), (.int .i64 a_1.N), (.str a_1.T)])) (y' := (.agg [(.int .i64 a_1.Kind), (.int .i64 a_1.N), (.str a_1.T)])) rfl rfl rfl trivial ⟨rfl, nle⟩ ⟨⟨rfl, trivial⟩, ⟨⟨rfl, trivial⟩, ⟨⟨rfl, trivial⟩, trivial⟩⟩⟩ rfl) ?_
  refine w_done ?_
  refine k_seq ?_
  refine w_ret ?_
  obtain rfl := os hf
  exact r_flat ⟨nle, trivial⟩ rfl (.refl _)

/- laws.toAtomS -/
def c112 : ACode :=
 (.seq (.reg (.q ⟨(some 2), none, .mov (.c .nil)⟩
 .done))
 (.seq (.reg (.q ⟨(some 5), none, .mov (.t 0)⟩
 (.q ⟨(some 6), none, .len (.t 5)⟩
 (.q ⟨(some 7), none, .mkslice 3 32 (.agg [(.int .i64 0), (.int .i64 0), (.str [])]) (.t 6) (.t 6)⟩
 (.q ⟨(some 3), none, .mov (.t 7)⟩
 .done)))))
 (.seq (.seq (.reg (.q ⟨(some 4), none, .mov (.c (.int .i64 0))⟩
 .done))
 (.block 0 (.loop (.seq (.seq (.reg (.q ⟨(some 8), none, .mov (.t 4)⟩
 (.q ⟨(some 9), none, .mov (.t 0)⟩
 (.q ⟨(some 10), none, .len (.t 9)⟩
 (.q ⟨(some 11), none, .bin .lss (.t 8) (.t 10)⟩
 .done)))))
 (.cond (.t 11) .skip
 (.exit 0)))
 (.seq (.block 1 (.reg (.q ⟨(some 14), none, .mov (.t 3)⟩
 (.q ⟨(some 15), none, .mov (.t 4)⟩
 (.q ⟨(some 16), none, .mov (.t 0)⟩
 (.q ⟨(some 17), none, .mov (.t 4)⟩
 (.q ⟨(some 18), none, .iaddr 3 (.t 16) (.t 17)⟩
 (.q ⟨(some 19), none, .load 3 true (.t 18)⟩
 (.q ⟨(some 20), none, .call 130 [(.t 19)]⟩
 (.q ⟨(some 21), none, .iaddr 3 (.t 14) (.t 15)⟩
 (.q ⟨none, none, .store 3 (.t 21) (.t 20)⟩
 .done)))))))))))
 (.reg (.q ⟨(some 12), none, .mov (.t 4)⟩
 (.q ⟨(some 13), none, .bin .add (.t 12) (.c (.int .i64 1))⟩
 (.q ⟨(some 4), none, .mov (.t 13)⟩
 .done)))))))))
 (.cut (.seq (.reg (.q ⟨(some 22), none, .mov (.t 3)⟩
 (.q ⟨(some 2), none, .mov (.t 22)⟩
 .done)))
 .ret)))))
theorem fc112 : fcomp Try.prog Try.f112 = some (c112.erase, [.mov (.t 2)], 23) := by kernel_rfl
def laws_toAtomS_L1  : List GAtom → Nat → (List GAtom) → Option (List GAtom)
  | [], i_24, out_25 =>
    some out_25
  | x_44 :: xs, i_24, out_25 =>
    (laws_toAtom x_44).bind fun r_47 =>
    if i_24 < out_25.length then
    (out_25[i_24]?).bind fun x_50 =>
    laws_toAtomS_L1 xs (i_24 + 1) (out_25.set i_24 r_47)
    else none

def laws_toAtomS (a_1 : (List GAtom)) : Option (List GAtom) :=
    if (a_1.length : Int) ≤ 2 ^ 30 then
    (laws_toAtomS_L1 a_1 0 (List.replicate a_1.length (⟨0, 0, []⟩ : GAtom))).bind fun out_36 =>
    some out_36
    else none
theorem w_laws_toAtomS (a_1 : (List GAtom)) (r : (List GAtom)) (hf : laws_toAtomS a_1 = some r) : CallOK Try.prog 112 .fresh [(.lst 3 (a_1.map encGAtom))] (.lst 3 (r.map encGAtom)) := by
 refine CallOK.of_awp mixed Try.func112 fc112 nle ?_; rw [argT_eq]; unfold laws_toAtomS at hf; unfold c112; refine (show awp Try.prog true 0 _ (ofL [(0, (.lst 3 (a_1.map encGAtom)))]) [] _ from ?_); refine awp_seq ?_; refine w_reg ?_; refine s_do (o_mov .nil rfl) ?_; refine w_done ?_; refine k_seq ?_; refine awp_seq ?_; refine w_reg ?_
 obtain ⟨g3, hf⟩ := og hf
 refine s_do (o_mov (.lst 3 (a_1.map encGAtom)) rfl) ?_; refine s_dof (o_len (enc := encGAtom) rfl) fun hl2 => ?_; refine s_do (o_mkslice (j := 0) (enc := encGAtom) (m := a_1.length) (⟨0, 0, []⟩ : GAtom) (.refl _) rfl rfl (Int.le_refl _) g3 rfl) ?_; refine s_do (o_mov (.own 0 0 a_1.length) rfl) ?_; refine w_done ?_; refine k_seq ?_; refine awp_seq ?_; refine awp_seq ?_; refine w_reg ?_; refine s_do (o_mov (.int .i64 0) rfl) ?_; refine w_done ?_; refine k_seq ?_
 obtain ⟨out_36, hb1, hf⟩ := ob hf
 refine awp_cut ([(3, (.own 0 0 out_36.length))], [.row 3 (out_36.map encGAtom)]) ?_ ?_
 ·refine awp_loop (X := {q : (Nat × (List GAtom)) // laws_toAtomS_L1 (a_1.drop q.1) q.1 q.2 = some out_36}) (fun q => ([(0, (.lst 3 (a_1.map encGAtom))), (3, (.own 0 0 q.1.2.length)), (4, (.int .i64 (q.1.1 : Int)))], [.row 3 (q.1.2.map encGAtom)])) (fun q => a_1.length - q.1.1) ⟨(0, List.replicate a_1.length (⟨0, 0, []⟩ : GAtom)), hb1⟩ ⟨[], [0], _, _, rfl, rfl, ⟨.refl _, ⟨.of_eq (congrArg (AV.own _ 0) (by simp)), ⟨.refl _, trivial⟩⟩⟩, (.refl _)⟩ ?_
  rintro ⟨⟨i_24, out_25⟩, hc1⟩
  have hc1 : laws_toAtomS_L1 (a_1.drop i_24) i_24 out_25 = some out_36 := hc1
  refine (show awp Try.prog true 0 _ (ofL [(0, (.lst 3 (a_1.map encGAtom))), (3, (.own 0 0 out_25.length)), (4, (.int .i64 (i_24 : Int)))]) [.row 3 (out_25.map encGAtom)] _ from ?_)
  rcases dropc a_1 i_24 with ⟨hie40, hd43⟩ | ⟨hlt38, x_44, hx39, hd43⟩
  ·rw [hd43, laws_toAtomS_L1.eq_1] at hc1
   have hq42 := dlf hie40
   refine awp_seq ?_; refine awp_seq ?_; refine w_reg ?_; refine s_do (o_mov (.int .i64 (i_24 : Int)) rfl) ?_; refine s_do (o_mov (.lst 3 (a_1.map encGAtom)) rfl) ?_; refine s_dof (o_len (enc := encGAtom) rfl) fun hl45 => ?_; refine s_do (o_q (.bool (decide ((i_24 : Int) < (a_1.length : Int)))) rfl rfl rfl) ?_; refine w_done ?_; refine k_seq ?_; refine w_condf rfl hq42 ?_; refine w_exit ?_; refine k_seqx ?_; refine k_loopx ?_; refine k_blkx ?_; obtain rfl := os hc1; exact ⟨[], [0], _, _, rfl, rfl, ⟨.refl _, trivial⟩, (.refl _)⟩
  ·rw [hd43, laws_toAtomS_L1.eq_2] at hc1
   have hq42 := dlt hlt38
   refine awp_seq ?_; refine awp_seq ?_; refine w_reg ?_; refine s_do (o_mov (.int .i64 (i_24 : Int)) rfl) ?_; refine s_do (o_mov (.lst 3 (a_1.map encGAtom)) rfl) ?_; refine s_dof (o_len (enc := encGAtom) rfl) fun hl46 => ?_; refine s_do (o_q (.bool (decide ((i_24 : Int) < (a_1.length : Int)))) rfl rfl rfl) ?_; refine w_done ?_; refine k_seq ?_; refine w_condt rfl hq42 ?_; refine w_skip ?_; refine k_seq ?_; refine awp_seq ?_; refine w_blk ?_; refine w_reg ?_
   obtain ⟨r_47, er48, hc1⟩ := ob hc1
   obtain ⟨g49, hc1⟩ := og hc1
   obtain ⟨x_50, ex51, hc1⟩ := ob hc1
   refine s_do (o_mov (.own 0 0 out_25.length) rfl) ?_; refine s_do (o_mov (.int .i64 (i_24 : Int)) rfl) ?_; refine s_do (o_mov (.lst 3 (a_1.map encGAtom)) rfl) ?_; refine s_do (o_mov (.int .i64 (i_24 : Int)) rfl) ?_; refine s_do (o_iaddrn (enc := encGAtom) rfl rfl hx39) ?_; refine s_do (o_q (encGAtom x_44) rfl nle rfl) ?_; refine s_do (o_call (w_laws_toAtom _ _ er48) rfl (.refl _) rfl) ?_; refine s_do (o_iaddrownn rfl rfl g49 rfl rfl) ?_; refine s_do0 (o_storerow (v' := (encGAtom r_47)) (e' := r_47) rfl rfl ex51 rfl rfl rfl (by decide) (fun _ => by decide) ⟨rfl, nle⟩ (.refl _) rfl) ?_; refine w_done ?_
   refine k_blk ?_; refine k_seq ?_; refine w_reg ?_; refine s_do (o_mov (.int .i64 (i_24 : Int)) rfl) ?_; refine s_do (o_q (.int .i64 (w64 ((i_24 : Int) + 1))) rfl rfl rfl) ?_; refine s_do (o_mov (.int .i64 (w64 ((i_24 : Int) + 1))) rfl) ?_; refine w_done ?_; exact k_loopn ⟨((i_24 + 1), out_25.set i_24 r_47), hc1⟩ (mul hlt38) ⟨[], [0], _, _, rfl, rfl, ⟨.refl _, ⟨.of_eq (congrArg (AV.own _ 0) (by simp)), ⟨.of_eq (congrArg (AV.int _) (w64_incr hlt38 hl46)), trivial⟩⟩⟩, (.refl _)⟩
 ·refine awp_seq ?_; refine w_reg ?_; refine s_do (o_mov (.own 0 0 out_36.length) rfl) ?_; refine s_do (o_mov (.own 0 0 out_36.length) rfl) ?_; refine w_done ?_; refine k_seq ?_; refine w_ret ?_; obtain rfl := os hf; exact r_fresh ⟨trivial, trivial⟩ rfl (by decide) (.of_eq (congrArg (AV.lst _) (tk (enc := encGAtom) out_36)))

/- laws.toCond -/
def c71 : ACode :=
 (.seq (.reg (.q ⟨(some 1), none, .box 3 (.t 0)⟩
 (.q ⟨(some 2), none, .box 3 (.c (.agg [(.str []), (.int .i64 0), .nil]))⟩
 .done)))
 (.seq (.reg (.q ⟨(some 3), none, .box 3 (.c (.agg [(.str []), (.int .i64 0), .nil]))⟩
 .done))
 (.seq (.reg (.q ⟨(some 4), none, .faddr 0 (.t 1)⟩
 (.q ⟨(some 5), none, .load 1 false (.t 4)⟩
 (.q ⟨(some 6), none, .faddr 0 (.t 3)⟩
 (.q ⟨none, none, .store 1 (.t 6) (.t 5)⟩
 .done)))))
 (.seq (.reg (.q ⟨(some 7), none, .faddr 1 (.t 1)⟩
 (.q ⟨(some 8), none, .load 1 false (.t 7)⟩
 (.q ⟨(some 9), none, .faddr 1 (.t 3)⟩
 (.q ⟨none, none, .store 1 (.t 9) (.t 8)⟩
 .done)))))
 (.seq (.reg (.q ⟨(some 10), none, .faddr 2 (.t 1)⟩
 (.q ⟨(some 11), none, .load 1 false (.t 10)⟩
 (.q ⟨(some 12), none, .call 112 [(.t 11)]⟩
 (.q ⟨(some 13), none, .faddr 2 (.t 3)⟩
 (.q ⟨none, none, .store 1 (.t 13) (.t 12)⟩
 .done))))))
 (.seq (.reg (.q ⟨(some 14), none, .load 3 true (.t 3)⟩
 (.q ⟨none, none, .store 3 (.t 2) (.t 14)⟩
 .done)))
 .ret))))))
theorem fc71 : fcomp Try.prog Try.f71 = some (c71.erase, [.load 3 true (.t 2)], 15) := by kernel_rfl
def laws_toCond (a_1 : GCond) : Option GCond :=
    (laws_toAtomS a_1.Value).bind fun r_2 =>
    some (⟨a_1.Column, a_1.Func, r_2⟩ : GCond)
theorem w_laws_toCond (a_1 : GCond) (r : GCond) (hf : laws_toCond a_1 = some r) : CallOK Try.prog 71 .fresh [(encGCond a_1)] (encGCond r) := by
  refine CallOK.of_awp mixed Try.func71 fc71 nle ?_
  rw [argT_eq]
  unfold laws_toCond at hf
  unfold c71
  refine (show awp Try.prog true 0 _ (ofL [(0, (encGCond a_1))]) [] _ from ?_)
  refine awp_seq ?_
  refine w_reg ?_
  refine s_do (o_box (j := 0) (c := (.agg [(.str a_1.Column), (.int .i64 a_1.Func), (.lst 3 (a_1.Value.map encGAtom))])) rfl trivial rfl rfl) ?_
  refine s_do (o_box (j := 1) (c := (.agg [(.str []), (.int .i64 0), .nil])) rfl trivial rfl rfl) ?_
  refine w_done ?_
  refine k_seq ?_
  refine awp_seq ?_
  refine w_reg ?_
  refine s_do (o_box (j := 2) (c := (.agg [(.str []), (.int .i64 0), .nil])) rfl trivial rfl rfl) ?_
  refine w_done ?_
  refine k_seq ?_
  refine awp_seq ?_
  refine w_reg ?_
  refine s_do (o_q (.ptr 0 0 0) rfl trivial rfl) ?_
  refine s_do (o_q (.str a_1.Column) rfl nle rfl) ?_
  refine s_do (o_q (.ptr 2 0 0) rfl trivial rfl) ?_
  refine s_do0 (o_storebox (v := (.str a_1.Column)) (y' := (.agg [(.str a_1.Column), (.int .i64 0), .nil])) rfl rfl rfl trivial ⟨rfl, nle⟩ ⟨⟨rfl, trivial⟩, trivial⟩ rfl) ?_
  refine w_done ?_
  refine k_seq ?_
  refine awp_seq ?_
  refine w_reg ?_
  refine s_do (o_q (.ptr 0 0 1) rfl trivial rfl) ?_
  refine s_do (o_q (.int .i64 a_1.Func) rfl nle rfl) ?_
  refine s_do (o_q (.ptr 2 0 1) rfl trivial rfl) ?_
  refine s_do0 (o_storebox (v := (.int .i64 a_1.Func)) (y' := (.agg [(.str a_1.Column), (.int .i64 a_1.Func), .nil])) rfl rfl rfl trivial ⟨rfl, nle⟩ ⟨⟨rfl, trivial⟩, trivial⟩ rfl) ?_
  refine w_done ?_
  refine k_seq ?_
  refine awp_seq ?_
  refine w_reg ?_
  obtain ⟨r_2, er3, hf⟩ := ob hf
  refine s_do (o_q (.ptr 0 0 2) rfl trivial rfl) ?_
  refine s_do (o_q (.lst 3 (a_1.Value.map encGAtom)) rfl nle rfl) ?_
  refine s_do (o_callf (v := (.own 3 0 r_2.length)) (h' := [.row 3 (r_2.map encGAtom)]) (w_laws_toAtomS _ _ er3) rfl (.refl _) (by simp only [openV, openVs, List.length_map, List.nil_append, List.append_nil, List.cons_append]; rfl)) ?_
  refine s_do (o_q (.ptr 2 0 2) rfl trivial rfl) ?_
  refine s_do0 (o_storebox (v := (.own 3 0 r_2.length)) (y' := (.agg [(.str a_1.Column), (.int .i64 a_1.Func), (.own 3 0 r_2.length)])) rfl rfl rfl trivial ⟨rfl, nle⟩ ⟨⟨rfl, trivial⟩, trivial⟩ rfl) ?_
  refine w_done ?_
  refine k_seq ?_
  refine awp_seq ?_
  refine w_reg ?_
  refine s_do (o_q (.agg [(.str a_1.Column), (.int .i64 a_1.Func), (.own 3 0 r_2.length)]) rfl nle rfl) ?_
  refine s_do0 (o_storebox (v := (.agg [(.str a_1.Column), (.int .i64 a_1.Func), (.own 3 0 r_2.length)])) (y' := (.agg [(.str a_1.Column), (.int .i64 a_1.Func), (.own 3 0 r_2.length)])) rfl rfl rfl trivial ⟨rfl, nle⟩ ⟨⟨rfl, trivial⟩, ⟨⟨rfl, trivial⟩, ⟨⟨rfl, trivial⟩, trivial⟩⟩⟩ rfl) ?_
  refine w_done ?_
  refine k_seq ?_
  refine w_ret ?_
  obtain rfl := os hf
  exact r_fresh ⟨nle, trivial⟩ rfl (by decide) (.agg (.cons (.refl _) (.cons (.refl _) (.cons (.of_eq (congrArg (AV.lst _) (tk (enc := encGAtom) r_2))) .nil))))

/- laws.toCondS -/
def c32 : ACode :=
 (.seq (.reg (.q ⟨(some 2), none, .mov (.c .nil)⟩
 .done))
 (.seq (.reg (.q ⟨(some 5), none, .mov (.t 0)⟩
 (.q ⟨(some 6), none, .len (.t 5)⟩
 (.q ⟨(some 7), none, .mkslice 3 48 (.agg [(.str []), (.int .i64 0), .nil]) (.t 6) (.t 6)⟩
 (.q ⟨(some 3), none, .mov (.t 7)⟩
 .done)))))
 (.seq (.seq (.reg (.q ⟨(some 4), none, .mov (.c (.int .i64 0))⟩
 .done))
 (.block 0 (.loop (.seq (.seq (.reg (.q ⟨(some 8), none, .mov (.t 4)⟩
 (.q ⟨(some 9), none, .mov (.t 0)⟩
 (.q ⟨(some 10), none, .len (.t 9)⟩
 (.q ⟨(some 11), none, .bin .lss (.t 8) (.t 10)⟩
 .done)))))
 (.cond (.t 11) .skip
 (.exit 0)))
 (.seq (.block 1 (.reg (.q ⟨(some 14), none, .mov (.t 3)⟩
 (.q ⟨(some 15), none, .mov (.t 4)⟩
 (.q ⟨(some 16), none, .mov (.t 0)⟩
 (.q ⟨(some 17), none, .mov (.t 4)⟩
 (.q ⟨(some 18), none, .iaddr 3 (.t 16) (.t 17)⟩
 (.q ⟨(some 19), none, .load 3 true (.t 18)⟩
 (.q ⟨(some 20), none, .call 71 [(.t 19)]⟩
 (.q ⟨(some 21), none, .iaddr 3 (.t 14) (.t 15)⟩
 (.q ⟨none, none, .store 3 (.t 21) (.t 20)⟩
 .done)))))))))))
 (.reg (.q ⟨(some 12), none, .mov (.t 4)⟩
 (.q ⟨(some 13), none, .bin .add (.t 12) (.c (.int .i64 1))⟩
 (.q ⟨(some 4), none, .mov (.t 13)⟩
 .done)))))))))
 (.cut (.seq (.reg (.q ⟨(some 22), none, .mov (.t 3)⟩
 (.q ⟨(some 2), none, .mov (.t 22)⟩
 .done)))
 .ret)))))
theorem fc32 : fcomp Try.prog Try.f32 = some (c32.erase, [.mov (.t 2)], 23) := by kernel_rfl
def laws_toCondS_L1  : List GCond → Nat → (List GCond) → Option (List GCond)
  | [], i_24, out_25 =>
    some out_25
  | x_44 :: xs, i_24, out_25 =>
    (laws_toCond x_44).bind fun r_47 =>
    if i_24 < out_25.length then
    (out_25[i_24]?).bind fun x_50 =>
    laws_toCondS_L1 xs (i_24 + 1) (out_25.set i_24 r_47)
    else none

def laws_toCondS (a_1 : (List GCond)) : Option (List GCond) :=
    if (a_1.length : Int) ≤ 2 ^ 30 then
    (laws_toCondS_L1 a_1 0 (List.replicate a_1.length (⟨[], 0, []⟩ : GCond))).bind fun out_36 =>
    some out_36
    else none
theorem w_laws_toCondS (a_1 : (List GCond)) (r : (List GCond)) (hf : laws_toCondS a_1 = some r) : CallOK Try.prog 32 .fresh [(.lst 3 (a_1.map encGCond))] (.lst 3 (r.map encGCond)) := by
 refine CallOK.of_awp mixed Try.func32 fc32 nle ?_; rw [argT_eq]; unfold laws_toCondS at hf; unfold c32; refine (show awp Try.prog true 0 _ (ofL [(0, (.lst 3 (a_1.map encGCond)))]) [] _ from ?_); refine awp_seq ?_; refine w_reg ?_; refine s_do (o_mov .nil rfl) ?_; refine w_done ?_; refine k_seq ?_; refine awp_seq ?_; refine w_reg ?_
 obtain ⟨g3, hf⟩ := og hf
 refine s_do (o_mov (.lst 3 (a_1.map encGCond)) rfl) ?_; refine s_dof (o_len (enc := encGCond) rfl) fun hl2 => ?_; refine s_do (o_mkslice (j := 0) (enc := encGCond) (m := a_1.length) (⟨[], 0, []⟩ : GCond) (.agg (.cons (.refl _) (.cons (.refl _) (.cons (.nil _) .nil)))) rfl rfl (Int.le_refl _) g3 rfl) ?_; refine s_do (o_mov (.own 0 0 a_1.length) rfl) ?_; refine w_done ?_; refine k_seq ?_; refine awp_seq ?_; refine awp_seq ?_; refine w_reg ?_; refine s_do (o_mov (.int .i64 0) rfl) ?_; refine w_done ?_; refine k_seq ?_
 obtain ⟨out_36, hb1, hf⟩ := ob hf
 refine awp_cut ([(3, (.own 0 0 out_36.length))], [.row 3 (out_36.map encGCond)]) ?_ ?_
 ·refine awp_loop (X := {q : (Nat × (List GCond)) // laws_toCondS_L1 (a_1.drop q.1) q.1 q.2 = some out_36}) (fun q => ([(0, (.lst 3 (a_1.map encGCond))), (3, (.own 0 0 q.1.2.length)), (4, (.int .i64 (q.1.1 : Int)))], [.row 3 (q.1.2.map encGCond)])) (fun q => a_1.length - q.1.1) ⟨(0, List.replicate a_1.length (⟨[], 0, []⟩ : GCond)), hb1⟩ ⟨[], [0], _, _, rfl, rfl, ⟨.refl _, ⟨.of_eq (congrArg (AV.own _ 0) (by simp)), ⟨.refl _, trivial⟩⟩⟩, (.refl _)⟩ ?_
  rintro ⟨⟨i_24, out_25⟩, hc1⟩
  have hc1 : laws_toCondS_L1 (a_1.drop i_24) i_24 out_25 = some out_36 := hc1
  refine (show awp Try.prog true 0 _ (ofL [(0, (.lst 3 (a_1.map encGCond))), (3, (.own 0 0 out_25.length)), (4, (.int .i64 (i_24 : Int)))]) [.row 3 (out_25.map encGCond)] _ from ?_)
  rcases dropc a_1 i_24 with ⟨hie40, hd43⟩ | ⟨hlt38, x_44, hx39, hd43⟩
  ·rw [hd43, laws_toCondS_L1.eq_1] at hc1
   have hq42 := dlf hie40
   refine awp_seq ?_; refine awp_seq ?_; refine w_reg ?_; refine s_do (o_mov (.int .i64 (i_24 : Int)) rfl) ?_; refine s_do (o_mov (.lst 3 (a_1.map encGCond)) rfl) ?_; refine s_dof (o_len (enc := encGCond) rfl) fun hl45 => ?_; refine s_do (o_q (.bool (decide ((i_24 : Int) < (a_1.length : Int)))) rfl rfl rfl) ?_; refine w_done ?_; refine k_seq ?_; refine w_condf rfl hq42 ?_; refine w_exit ?_; refine k_seqx ?_; refine k_loopx ?_; refine k_blkx ?_; obtain rfl := os hc1; exact ⟨[], [0], _, _, rfl, rfl, ⟨.refl _, trivial⟩, (.refl _)⟩
  ·rw [hd43, laws_toCondS_L1.eq_2] at hc1
   have hq42 := dlt hlt38
   refine awp_seq ?_; refine awp_seq ?_; refine w_reg ?_; refine s_do (o_mov (.int .i64 (i_24 : Int)) rfl) ?_; refine s_do (o_mov (.lst 3 (a_1.map encGCond)) rfl) ?_; refine s_dof (o_len (enc := encGCond) rfl) fun hl46 => ?_; refine s_do (o_q (.bool (decide ((i_24 : Int) < (a_1.length : Int)))) rfl rfl rfl) ?_; refine w_done ?_; refine k_seq ?_; refine w_condt rfl hq42 ?_; refine w_skip ?_; refine k_seq ?_; refine awp_seq ?_; refine w_blk ?_; refine w_reg ?_
   obtain ⟨r_47, er48, hc1⟩ := ob hc1
   obtain ⟨g49, hc1⟩ := og hc1
   obtain ⟨x_50, ex51, hc1⟩ := ob hc1
   refine s_do (o_mov (.own 0 0 out_25.length) rfl) ?_; refine s_do (o_mov (.int .i64 (i_24 : Int)) rfl) ?_; refine s_do (o_mov (.lst 3 (a_1.map encGCond)) rfl) ?_; refine s_do (o_mov (.int .i64 (i_24 : Int)) rfl) ?_; refine s_do (o_iaddrn (enc := encGCond) rfl rfl hx39) ?_; refine s_do (o_q (encGCond x_44) rfl nle rfl) ?_; refine s_do (o_callf (v := (.agg [(.str r_47.Column), (.int .i64 r_47.Func), (.own 1 0 r_47.Value.length)])) (h' := [.row 3 (r_47.Value.map encGAtom)]) (w_laws_toCond _ _ er48) rfl (.refl _) (by simp only [openV, openVs, List.length_map, encGCond_eq, List.nil_append, List.append_nil, List.cons_append]; rfl)) ?_
   refine s_do (o_iaddrownn rfl rfl g49 rfl rfl) ?_; refine s_do0 (o_storerow (v' := (.agg [(.str r_47.Column), (.int .i64 r_47.Func), (.lst 3 (r_47.Value.map encGAtom))])) (e' := r_47) rfl rfl ex51 rfl rfl (by simp only [tk, tko, List.take_length]) (by decide) (fun _ => by decide) ⟨rfl, nle⟩ (.refl _) rfl) ?_; refine w_done ?_; refine k_blk ?_; refine k_seq ?_; refine w_reg ?_; refine s_do (o_mov (.int .i64 (i_24 : Int)) rfl) ?_; refine s_do (o_q (.int .i64 (w64 ((i_24 : Int) + 1))) rfl rfl rfl) ?_; refine s_do (o_mov (.int .i64 (w64 ((i_24 : Int) + 1))) rfl) ?_; refine w_done ?_; exact k_loopn ⟨((i_24 + 1), out_25.set i_24 r_47), hc1⟩ (mul hlt38) ⟨[], [0], _, _, rfl, rfl, ⟨.refl _, ⟨.of_eq (congrArg (AV.own _ 0) (by simp)), ⟨.of_eq (congrArg (AV.int _) (w64_incr hlt38 hl46)), trivial⟩⟩⟩, (.refl _)⟩
 ·refine awp_seq ?_; refine w_reg ?_; refine s_do (o_mov (.own 0 0 out_36.length) rfl) ?_; refine s_do (o_mov (.own 0 0 out_36.length) rfl) ?_; refine w_done ?_; refine k_seq ?_; refine w_ret ?_; obtain rfl := os hf; exact r_fresh ⟨trivial, trivial⟩ rfl (by decide) (.of_eq (congrArg (AV.lst _) (tk (enc := encGCond) out_36)))

/- laws.toStringS -/
def c35 : ACode :=
 (.seq (.reg (.q ⟨(some 2), none, .mov (.c .nil)⟩
 .done))
 (.seq (.reg (.q ⟨(some 5), none, .mov (.t 0)⟩
 (.q ⟨(some 6), none, .len (.t 5)⟩
 (.q ⟨(some 7), none, .mkslice 1 16 (.str []) (.t 6) (.t 6)⟩
 (.q ⟨(some 3), none, .mov (.t 7)⟩
 .done)))))
 (.seq (.seq (.reg (.q ⟨(some 4), none, .mov (.c (.int .i64 0))⟩
 .done))
 (.block 0 (.loop (.seq (.seq (.reg (.q ⟨(some 8), none, .mov (.t 4)⟩
 (.q ⟨(some 9), none, .mov (.t 0)⟩
 (.q ⟨(some 10), none, .len (.t 9)⟩
 (.q ⟨(some 11), none, .bin .lss (.t 8) (.t 10)⟩
 .done)))))
 (.cond (.t 11) .skip
 (.exit 0)))
 (.seq (.block 1 (.reg (.q ⟨(some 14), none, .mov (.t 3)⟩
 (.q ⟨(some 15), none, .mov (.t 4)⟩
 (.q ⟨(some 16), none, .mov (.t 0)⟩
 (.q ⟨(some 17), none, .mov (.t 4)⟩
 (.q ⟨(some 18), none, .iaddr 1 (.t 16) (.t 17)⟩
 (.q ⟨(some 19), none, .load 1 false (.t 18)⟩
 (.q ⟨(some 20), none, .iaddr 1 (.t 14) (.t 15)⟩
 (.q ⟨none, none, .store 1 (.t 20) (.t 19)⟩
 .done))))))))))
 (.reg (.q ⟨(some 12), none, .mov (.t 4)⟩
 (.q ⟨(some 13), none, .bin .add (.t 12) (.c (.int .i64 1))⟩
 (.q ⟨(some 4), none, .mov (.t 13)⟩
 .done)))))))))
 (.cut (.seq (.reg (.q ⟨(some 21), none, .mov (.t 3)⟩
 (.q ⟨(some 2), none, .mov (.t 21)⟩
 .done)))
 .ret)))))
theorem fc35 : fcomp Try.prog Try.f35 = some (c35.erase, [.mov (.t 2)], 22) := by kernel_rfl
def laws_toStringS_L1  : List Str → Nat → (List Str) → Option (List Str)
  | [], i_20, out_21 =>
    some out_21
  | x_38 :: xs, i_20, out_21 =>
    if i_20 < out_21.length then
    (out_21[i_20]?).bind fun x_42 =>
    laws_toStringS_L1 xs (i_20 + 1) (out_21.set i_20 x_38)
    else none

def laws_toStringS (a_1 : (List Str)) : Option (List Str) :=
    if (a_1.length : Int) ≤ 2 ^ 30 then
    (laws_toStringS_L1 a_1 0 (List.replicate a_1.length [])).bind fun out_30 =>
    some out_30
    else none
theorem w_laws_toStringS (a_1 : (List Str)) (r : (List Str)) (hf : laws_toStringS a_1 = some r) : CallOK Try.prog 35 .fresh [(.lst 1 (a_1.map AV.str))] (.lst 1 (r.map AV.str)) := by
 refine CallOK.of_awp mixed Try.func35 fc35 nle ?_; rw [argT_eq]; unfold laws_toStringS at hf; unfold c35; refine (show awp Try.prog true 0 _ (ofL [(0, (.lst 1 (a_1.map AV.str)))]) [] _ from ?_); refine awp_seq ?_; refine w_reg ?_; refine s_do (o_mov .nil rfl) ?_; refine w_done ?_; refine k_seq ?_; refine awp_seq ?_; refine w_reg ?_
 obtain ⟨g3, hf⟩ := og hf
 refine s_do (o_mov (.lst 1 (a_1.map AV.str)) rfl) ?_; refine s_dof (o_len (enc := AV.str) rfl) fun hl2 => ?_; refine s_do (o_mkslice (j := 0) (enc := AV.str) (m := a_1.length) [] (.refl _) rfl rfl (Int.le_refl _) g3 rfl) ?_; refine s_do (o_mov (.own 0 0 a_1.length) rfl) ?_; refine w_done ?_; refine k_seq ?_; refine awp_seq ?_; refine awp_seq ?_; refine w_reg ?_; refine s_do (o_mov (.int .i64 0) rfl) ?_; refine w_done ?_; refine k_seq ?_
 obtain ⟨out_30, hb1, hf⟩ := ob hf
 refine awp_cut ([(3, (.own 0 0 out_30.length))], [.row 1 (out_30.map AV.str)]) ?_ ?_
 ·refine awp_loop (X := {q : (Nat × (List Str)) // laws_toStringS_L1 (a_1.drop q.1) q.1 q.2 = some out_30}) (fun q => ([(0, (.lst 1 (a_1.map AV.str))), (3, (.own 0 0 q.1.2.length)), (4, (.int .i64 (q.1.1 : Int)))], [.row 1 (q.1.2.map AV.str)])) (fun q => a_1.length - q.1.1) ⟨(0, List.replicate a_1.length []), hb1⟩ ⟨[], [0], _, _, rfl, rfl, ⟨.refl _, ⟨.of_eq (congrArg (AV.own _ 0) (by simp)), ⟨.refl _, trivial⟩⟩⟩, (.refl _)⟩ ?_
  rintro ⟨⟨i_20, out_21⟩, hc1⟩
  have hc1 : laws_toStringS_L1 (a_1.drop i_20) i_20 out_21 = some out_30 := hc1
  refine (show awp Try.prog true 0 _ (ofL [(0, (.lst 1 (a_1.map AV.str))), (3, (.own 0 0 out_21.length)), (4, (.int .i64 (i_20 : Int)))]) [.row 1 (out_21.map AV.str)] _ from ?_)
  rcases dropc a_1 i_20 with ⟨hie34, hd37⟩ | ⟨hlt32, x_38, hx33, hd37⟩
  ·rw [hd37, laws_toStringS_L1.eq_1] at hc1
   have hq36 := dlf hie34
   refine awp_seq ?_; refine awp_seq ?_; refine w_reg ?_; refine s_do (o_mov (.int .i64 (i_20 : Int)) rfl) ?_; refine s_do (o_mov (.lst 1 (a_1.map AV.str)) rfl) ?_; refine s_dof (o_len (enc := AV.str) rfl) fun hl39 => ?_; refine s_do (o_q (.bool (decide ((i_20 : Int) < (a_1.length : Int)))) rfl rfl rfl) ?_; refine w_done ?_; refine k_seq ?_; refine w_condf rfl hq36 ?_; refine w_exit ?_; refine k_seqx ?_; refine k_loopx ?_; refine k_blkx ?_; obtain rfl := os hc1; exact ⟨[], [0], _, _, rfl, rfl, ⟨.refl _, trivial⟩, (.refl _)⟩
  ·rw [hd37, laws_toStringS_L1.eq_2] at hc1
   have hq36 := dlt hlt32
   refine awp_seq ?_; refine awp_seq ?_; refine w_reg ?_; refine s_do (o_mov (.int .i64 (i_20 : Int)) rfl) ?_; refine s_do (o_mov (.lst 1 (a_1.map AV.str)) rfl) ?_; refine s_dof (o_len (enc := AV.str) rfl) fun hl40 => ?_; refine s_do (o_q (.bool (decide ((i_20 : Int) < (a_1.length : Int)))) rfl rfl rfl) ?_; refine w_done ?_; refine k_seq ?_; refine w_condt rfl hq36 ?_; refine w_skip ?_; refine k_seq ?_; refine awp_seq ?_; refine w_blk ?_; refine w_reg ?_
   obtain ⟨g41, hc1⟩ := og hc1
   obtain ⟨x_42, ex43, hc1⟩ := ob hc1
   refine s_do (o_mov (.own 0 0 out_21.length) rfl) ?_; refine s_do (o_mov (.int .i64 (i_20 : Int)) rfl) ?_; refine s_do (o_mov (.lst 1 (a_1.map AV.str)) rfl) ?_; refine s_do (o_mov (.int .i64 (i_20 : Int)) rfl) ?_; refine s_do (o_iaddrn (enc := AV.str) rfl rfl hx33) ?_; refine s_do (o_q (.str x_38) rfl ⟨rfl, rfl⟩ rfl) ?_; refine s_do (o_iaddrownn rfl rfl g41 rfl rfl) ?_; refine s_do0 (o_storerow (v' := (.str x_38)) (e' := x_38) rfl rfl ex43 rfl rfl rfl (by decide) (fun _ => by decide) ⟨rfl, rfl, rfl⟩ (.refl _) rfl) ?_; refine w_done ?_; refine k_blk ?_; refine k_seq ?_; refine w_reg ?_; refine s_do (o_mov (.int .i64 (i_20 : Int)) rfl) ?_
   refine s_do (o_q (.int .i64 (w64 ((i_20 : Int) + 1))) rfl rfl rfl) ?_; refine s_do (o_mov (.int .i64 (w64 ((i_20 : Int) + 1))) rfl) ?_; refine w_done ?_; exact k_loopn ⟨((i_20 + 1), out_21.set i_20 x_38), hc1⟩ (mul hlt32) ⟨[], [0], _, _, rfl, rfl, ⟨.refl _, ⟨.of_eq (congrArg (AV.own _ 0) (by simp)), ⟨.of_eq (congrArg (AV.int _) (w64_incr hlt32 hl40)), trivial⟩⟩⟩, (.refl _)⟩
 ·refine awp_seq ?_; refine w_reg ?_; refine s_do (o_mov (.own 0 0 out_30.length) rfl) ?_; refine s_do (o_mov (.own 0 0 out_30.length) rfl) ?_; refine w_done ?_; refine k_seq ?_; refine w_ret ?_; obtain rfl := os hf; exact r_fresh ⟨trivial, trivial⟩ rfl (by decide) (.of_eq (congrArg (AV.lst _) (tk (enc := AV.str) out_30)))

/- laws.toSet -/
def c72 : ACode :=
 (.seq (.reg (.q ⟨(some 1), none, .box 3 (.t 0)⟩
 (.q ⟨(some 2), none, .box 3 (.c (.agg [(.str []), .nil, .nil]))⟩
 .done)))
 (.seq (.reg (.q ⟨(some 3), none, .box 3 (.c (.agg [(.str []), .nil, .nil]))⟩
 .done))
 (.seq (.reg (.q ⟨(some 4), none, .faddr 0 (.t 1)⟩
 (.q ⟨(some 5), none, .load 1 false (.t 4)⟩
 (.q ⟨(some 6), none, .faddr 0 (.t 3)⟩
 (.q ⟨none, none, .store 1 (.t 6) (.t 5)⟩
 .done)))))
 (.seq (.reg (.q ⟨(some 7), none, .faddr 1 (.t 1)⟩
 (.q ⟨(some 8), none, .load 1 false (.t 7)⟩
 (.q ⟨(some 9), none, .call 112 [(.t 8)]⟩
 (.q ⟨(some 10), none, .faddr 1 (.t 3)⟩
 (.q ⟨none, none, .store 1 (.t 10) (.t 9)⟩
 .done))))))
 (.seq (.reg (.q ⟨(some 11), none, .faddr 2 (.t 1)⟩
 (.q ⟨(some 12), none, .load 1 false (.t 11)⟩
 (.q ⟨(some 13), none, .call 35 [(.t 12)]⟩
 (.q ⟨(some 14), none, .faddr 2 (.t 3)⟩
 (.q ⟨none, none, .store 1 (.t 14) (.t 13)⟩
 .done))))))
 (.seq (.reg (.q ⟨(some 15), none, .load 3 true (.t 3)⟩
 (.q ⟨none, none, .store 3 (.t 2) (.t 15)⟩
 .done)))
 .ret))))))
theorem fc72 : fcomp Try.prog Try.f72 = some (c72.erase, [.load 3 true (.t 2)], 16) := by kernel_rfl
def laws_toSet (a_1 : GSet) : Option GSet :=
    (laws_toAtomS a_1.Value).bind fun r_2 =>
    (laws_toStringS a_1.Names).bind fun r_4 =>
    some (⟨a_1.Column, r_2, r_4⟩ : GSet)
theorem w_laws_toSet (a_1 : GSet) (r : GSet) (hf : laws_toSet a_1 = some r) : CallOK Try.prog 72 .fresh [(encGSet a_1)] (encGSet r) := by
  refine CallOK.of_awp mixed Try.func72 fc72 nle ?_
  rw [argT_eq]
  unfold laws_toSet at hf
  unfold c72
  refine (show awp Try.prog true 0 _ (ofL [(0, (encGSet a_1))]) [] _ from ?_)
  refine awp_seq ?_
  refine w_reg ?_
  refine s_do (o_box (j := 0) (c := (.agg [(.str a_1.Column), (.lst 3 (a_1.Value.map encGAtom)), (.lst 1 (a_1.Names.map AV.str))])) rfl trivial rfl rfl) ?_
  refine s_do (o_box (j := 1) (c := (.agg [(.str []), .nil, .nil])) rfl trivial rfl rfl) ?_
  refine w_done ?_
  refine k_seq ?_
  refine awp_seq ?_
  refine w_reg ?_
  refine s_do (o_box (j := 2) (c := (.agg [(.str []), .nil, .nil])) rfl trivial rfl rfl) ?_
  refine w_done ?_
  refine k_seq ?_
  refine awp_seq ?_
  refine w_reg ?_
  refine s_do (o_q (.ptr 0 0 0) rfl trivial rfl) ?_
  refine s_do (o_q (.str a_1.Column) rfl nle rfl) ?_
  refine s_do (o_q (.ptr 2 0 0) rfl trivial rfl) ?_
  refine s_do0 (o_storebox (v := (.str a_1.Column)) (y' := (.agg [(.str a_1.Column), .nil, .nil])) rfl rfl rfl trivial ⟨rfl, nle⟩ ⟨⟨rfl, trivial⟩, trivial⟩ rfl) ?_
  refine w_done ?_
  refine k_seq ?_
  refine awp_seq ?_
  refine w_reg ?_
  obtain ⟨r_2, er3, hf⟩ := ob hf
  refine s_do (o_q (.ptr 0 0 1) rfl trivial rfl) ?_
  refine s_do (o_q (.lst 3 (a_1.Value.map encGAtom)) rfl nle rfl) ?_
  refine s_do (o_callf (v := (.own 3 0 r_2.length)) (h' := [.row 3 (r_2.map encGAtom)]) (w_laws_toAtomS _ _ er3) rfl (.refl _) (by simp only [openV, openVs, List.length_map, List.nil_append, List.append_nil, List.cons_append]; rfl)) ?_
  refine s_do (o_q (.ptr 2 0 1) rfl trivial rfl) ?_
  refine s_do0 (o_storebox (v := (.own 3 0 r_2.length)) (y' := (.agg [(.str a_1.Column), (.own 3 0 r_2.length), .nil])) rfl rfl rfl trivial ⟨rfl, nle⟩ ⟨⟨rfl, trivial⟩, trivial⟩ rfl) ?_
  refine w_done ?_
  refine k_seq ?_
  refine awp_seq ?_
  refine w_reg ?_
  obtain ⟨r_4, er5, hf⟩ := ob hf
  refine s_do (o_q (.ptr 0 0 2) rfl trivial rfl) ?_
  refine s_do (o_q (.lst 1 (a_1.Names.map AV.str)) rfl nle rfl) ?_
  refine s_do (o_callf (v := (.own 4 0 r_4.length)) (h' := [.row 1 (r_4.map AV.str)]) (w_laws_toStringS _ _ er5) rfl (.refl _) (by simp only [openV, openVs, List.length_map, List.nil_append, List.append_nil, List.cons_append]; rfl)) ?_
  refine s_do (o_q (.ptr 2 0 2) rfl trivial rfl) ?_
  refine s_do0 (o_storebox (v := (.own 4 0 r_4.length)) (y' := (.agg [(.str a_1.Column), (.own 3 0 r_2.length), (.own 4 0 r_4.length)])) rfl rfl rfl trivial ⟨rfl, nle⟩ ⟨⟨rfl, trivial⟩, trivial⟩ rfl) ?_
  refine w_done ?_
  refine k_seq ?_
  refine awp_seq ?_
  refine w_reg ?_
  refine s_do (o_q (.agg [(.str a_1.Column), (.own 3 0 r_2.length), (.own 4 0 r_4.length)]) rfl nle rfl) ?_
  refine s_do0 (o_storebox (v := (.agg [(.str a_1.Column), (.own 3 0 r_2.length), (.own 4 0 r_4.length)])) (y' := (.agg [(.str a_1.Column), (.own 3 0 r_2.length), (.own 4 0 r_4.length)])) rfl rfl rfl trivial ⟨rfl, nle⟩ ⟨⟨rfl, trivial⟩, ⟨⟨rfl, trivial⟩, ⟨⟨rfl, trivial⟩, trivial⟩⟩⟩ rfl) ?_
  refine w_done ?_
  refine k_seq ?_
  refine w_ret ?_
  obtain rfl := os hf
  exact r_fresh ⟨nle, trivial⟩ rfl (by decide) (.agg (.cons (.refl _) (.cons (.of_eq (congrArg (AV.lst _) (tk (enc := encGAtom) r_2))) (.cons (.of_eq (congrArg (AV.lst _) (tk (enc := AV.str) r_4))) .nil))))

/- laws.toSetS -/
def c33 : ACode :=
 (.seq (.reg (.q ⟨(some 2), none, .mov (.c .nil)⟩
 .done))
 (.seq (.reg (.q ⟨(some 5), none, .mov (.t 0)⟩
 (.q ⟨(some 6), none, .len (.t 5)⟩
 (.q ⟨(some 7), none, .mkslice 3 64 (.agg [(.str []), .nil, .nil]) (.t 6) (.t 6)⟩
 (.q ⟨(some 3), none, .mov (.t 7)⟩
 .done)))))
 (.seq (.seq (.reg (.q ⟨(some 4), none, .mov (.c (.int .i64 0))⟩
 .done))
 (.block 0 (.loop (.seq (.seq (.reg (.q ⟨(some 8), none, .mov (.t 4)⟩
 (.q ⟨(some 9), none, .mov (.t 0)⟩
 (.q ⟨(some 10), none, .len (.t 9)⟩
 (.q ⟨(some 11), none, .bin .lss (.t 8) (.t 10)⟩
 .done)))))
 (.cond (.t 11) .skip
 (.exit 0)))
 (.seq (.block 1 (.reg (.q ⟨(some 14), none, .mov (.t 3)⟩
 (.q ⟨(some 15), none, .mov (.t 4)⟩
 (.q ⟨(some 16), none, .mov (.t 0)⟩
 (.q ⟨(some 17), none, .mov (.t 4)⟩
 (.q ⟨(some 18), none, .iaddr 3 (.t 16) (.t 17)⟩
 (.q ⟨(some 19), none, .load 3 true (.t 18)⟩
 (.q ⟨(some 20), none, .call 72 [(.t 19)]⟩
 (.q ⟨(some 21), none, .iaddr 3 (.t 14) (.t 15)⟩
 (.q ⟨none, none, .store 3 (.t 21) (.t 20)⟩
 .done)))))))))))
 (.reg (.q ⟨(some 12), none, .mov (.t 4)⟩
 (.q ⟨(some 13), none, .bin .add (.t 12) (.c (.int .i64 1))⟩
 (.q ⟨(some 4), none, .mov (.t 13)⟩
 .done)))))))))
 (.cut (.seq (.reg (.q ⟨(some 22), none, .mov (.t 3)⟩
 (.q ⟨(some 2), none, .mov (.t 22)⟩
 .done)))
 .ret)))))
theorem fc33 : fcomp Try.prog Try.f33 = some (c33.erase, [.mov (.t 2)], 23) := by kernel_rfl
def laws_toSetS_L1  : List GSet → Nat → (List GSet) → Option (List GSet)
  | [], i_24, out_25 =>
    some out_25
  | x_44 :: xs, i_24, out_25 =>
    (laws_toSet x_44).bind fun r_47 =>
    if i_24 < out_25.length then
    (out_25[i_24]?).bind fun x_50 =>
    laws_toSetS_L1 xs (i_24 + 1) (out_25.set i_24 r_47)
    else none

def laws_toSetS (a_1 : (List GSet)) : Option (List GSet) :=
    if (a_1.length : Int) ≤ 2 ^ 30 then
    (laws_toSetS_L1 a_1 0 (List.replicate a_1.length (⟨[], [], []⟩ : GSet))).bind fun out_36 =>
    some out_36
    else none
theorem w_laws_toSetS (a_1 : (List GSet)) (r : (List GSet)) (hf : laws_toSetS a_1 = some r) : CallOK Try.prog 33 .fresh [(.lst 3 (a_1.map encGSet))] (.lst 3 (r.map encGSet)) := by
 refine CallOK.of_awp mixed Try.func33 fc33 nle ?_; rw [argT_eq]; unfold laws_toSetS at hf; unfold c33; refine (show awp Try.prog true 0 _ (ofL [(0, (.lst 3 (a_1.map encGSet)))]) [] _ from ?_); refine awp_seq ?_; refine w_reg ?_; refine s_do (o_mov .nil rfl) ?_; refine w_done ?_; refine k_seq ?_; refine awp_seq ?_; refine w_reg ?_
 obtain ⟨g3, hf⟩ := og hf
 refine s_do (o_mov (.lst 3 (a_1.map encGSet)) rfl) ?_; refine s_dof (o_len (enc := encGSet) rfl) fun hl2 => ?_; refine s_do (o_mkslice (j := 0) (enc := encGSet) (m := a_1.length) (⟨[], [], []⟩ : GSet) (.agg (.cons (.refl _) (.cons (.nil _) (.cons (.nil _) .nil)))) rfl rfl (Int.le_refl _) g3 rfl) ?_; refine s_do (o_mov (.own 0 0 a_1.length) rfl) ?_; refine w_done ?_; refine k_seq ?_; refine awp_seq ?_; refine awp_seq ?_; refine w_reg ?_; refine s_do (o_mov (.int .i64 0) rfl) ?_; refine w_done ?_; refine k_seq ?_
 obtain ⟨out_36, hb1, hf⟩ := ob hf
 refine awp_cut ([(3, (.own 0 0 out_36.length))], [.row 3 (out_36.map encGSet)]) ?_ ?_
 ·refine awp_loop (X := {q : (Nat × (List GSet)) // laws_toSetS_L1 (a_1.drop q.1) q.1 q.2 = some out_36}) (fun q => ([(0, (.lst 3 (a_1.map encGSet))), (3, (.own 0 0 q.1.2.length)), (4, (.int .i64 (q.1.1 : Int)))], [.row 3 (q.1.2.map encGSet)])) (fun q => a_1.length - q.1.1) ⟨(0, List.replicate a_1.length (⟨[], [], []⟩ : GSet)), hb1⟩ ⟨[], [0], _, _, rfl, rfl, ⟨.refl _, ⟨.of_eq (congrArg (AV.own _ 0) (by simp)), ⟨.refl _, trivial⟩⟩⟩, (.refl _)⟩ ?_
  rintro ⟨⟨i_24, out_25⟩, hc1⟩
  have hc1 : laws_toSetS_L1 (a_1.drop i_24) i_24 out_25 = some out_36 := hc1
  refine (show awp Try.prog true 0 _ (ofL [(0, (.lst 3 (a_1.map encGSet))), (3, (.own 0 0 out_25.length)), (4, (.int .i64 (i_24 : Int)))]) [.row 3 (out_25.map encGSet)] _ from ?_)
  rcases dropc a_1 i_24 with ⟨hie40, hd43⟩ | ⟨hlt38, x_44, hx39, hd43⟩
  ·rw [hd43, laws_toSetS_L1.eq_1] at hc1
   have hq42 := dlf hie40
   refine awp_seq ?_; refine awp_seq ?_; refine w_reg ?_; refine s_do (o_mov (.int .i64 (i_24 : Int)) rfl) ?_; refine s_do (o_mov (.lst 3 (a_1.map encGSet)) rfl) ?_; refine s_dof (o_len (enc := encGSet) rfl) fun hl45 => ?_; refine s_do (o_q (.bool (decide ((i_24 : Int) < (a_1.length : Int)))) rfl rfl rfl) ?_; refine w_done ?_; refine k_seq ?_; refine w_condf rfl hq42 ?_; refine w_exit ?_; refine k_seqx ?_; refine k_loopx ?_; refine k_blkx ?_; obtain rfl := os hc1; exact ⟨[], [0], _, _, rfl, rfl, ⟨.refl _, trivial⟩, (.refl _)⟩
  ·rw [hd43, laws_toSetS_L1.eq_2] at hc1
   have hq42 := dlt hlt38
   refine awp_seq ?_; refine awp_seq ?_; refine w_reg ?_; refine s_do (o_mov (.int .i64 (i_24 : Int)) rfl) ?_; refine s_do (o_mov (.lst 3 (a_1.map encGSet)) rfl) ?_; refine s_dof (o_len (enc := encGSet) rfl) fun hl46 => ?_; refine s_do (o_q (.bool (decide ((i_24 : Int) < (a_1.length : Int)))) rfl rfl rfl) ?_; refine w_done ?_; refine k_seq ?_; refine w_condt rfl hq42 ?_; refine w_skip ?_; refine k_seq ?_; refine awp_seq ?_; refine w_blk ?_; refine w_reg ?_
   obtain ⟨r_47, er48, hc1⟩ := ob hc1
   obtain ⟨g49, hc1⟩ := og hc1
   obtain ⟨x_50, ex51, hc1⟩ := ob hc1
   refine s_do (o_mov (.own 0 0 out_25.length) rfl) ?_; refine s_do (o_mov (.int .i64 (i_24 : Int)) rfl) ?_; refine s_do (o_mov (.lst 3 (a_1.map encGSet)) rfl) ?_; refine s_do (o_mov (.int .i64 (i_24 : Int)) rfl) ?_; refine s_do (o_iaddrn (enc := encGSet) rfl rfl hx39) ?_; refine s_do (o_q (encGSet x_44) rfl nle rfl) ?_; refine s_do (o_callf (v := (.agg [(.str r_47.Column), (.own 1 0 r_47.Value.length), (.own 2 0 r_47.Names.length)])) (h' := [.row 3 (r_47.Value.map encGAtom), .row 1 (r_47.Names.map AV.str)]) (w_laws_toSet _ _ er48) rfl (.refl _) (by simp only [openV, openVs, List.length_map, encGSet_eq, List.nil_append, List.append_nil, List.cons_append]; rfl)) ?_
   refine s_do (o_iaddrownn rfl rfl g49 rfl rfl) ?_; refine s_do0 (o_storerow (v' := (.agg [(.str r_47.Column), (.lst 3 (r_47.Value.map encGAtom)), (.lst 1 (r_47.Names.map AV.str))])) (e' := r_47) rfl rfl ex51 rfl rfl (by simp only [tk, tko, List.take_length]) (by decide) (fun _ => by decide) ⟨rfl, nle⟩ (.refl _) rfl) ?_; refine w_done ?_; refine k_blk ?_; refine k_seq ?_; refine w_reg ?_; refine s_do (o_mov (.int .i64 (i_24 : Int)) rfl) ?_; refine s_do (o_q (.int .i64 (w64 ((i_24 : Int) + 1))) rfl rfl rfl) ?_; refine s_do (o_mov (.int .i64 (w64 ((i_24 : Int) + 1))) rfl) ?_; refine w_done ?_; exact k_loopn ⟨((i_24 + 1), out_25.set i_24 r_47), hc1⟩ (mul hlt38) ⟨[], [0], _, _, rfl, rfl, ⟨.refl _, ⟨.of_eq (congrArg (AV.own _ 0) (by simp)), ⟨.of_eq (congrArg (AV.int _) (w64_incr hlt38 hl46)), trivial⟩⟩⟩, (.refl _)⟩
 ·refine awp_seq ?_; refine w_reg ?_; refine s_do (o_mov (.own 0 0 out_36.length) rfl) ?_; refine s_do (o_mov (.own 0 0 out_36.length) rfl) ?_; refine w_done ?_; refine k_seq ?_; refine w_ret ?_; obtain rfl := os hf; exact r_fresh ⟨trivial, trivial⟩ rfl (by decide) (.of_eq (congrArg (AV.lst _) (tk (enc := encGSet) out_36)))

/- laws.toMut -/
def c73 : ACode :=
 (.seq (.reg (.q ⟨(some 1), none, .box 3 (.t 0)⟩
 (.q ⟨(some 2), none, .box 3 (.c (.agg [(.str []), (.int .i64 0), .nil]))⟩
 .done)))
 (.seq (.reg (.q ⟨(some 3), none, .box 3 (.c (.agg [(.str []), (.int .i64 0), .nil]))⟩
 .done))
 (.seq (.reg (.q ⟨(some 4), none, .faddr 0 (.t 1)⟩
 (.q ⟨(some 5), none, .load 1 false (.t 4)⟩
 (.q ⟨(some 6), none, .faddr 0 (.t 3)⟩
 (.q ⟨none, none, .store 1 (.t 6) (.t 5)⟩
 .done)))))
 (.seq (.reg (.q ⟨(some 7), none, .faddr 1 (.t 1)⟩
 (.q ⟨(some 8), none, .load 1 false (.t 7)⟩
 (.q ⟨(some 9), none, .faddr 1 (.t 3)⟩
 (.q ⟨none, none, .store 1 (.t 9) (.t 8)⟩
 .done)))))
 (.seq (.reg (.q ⟨(some 10), none, .faddr 2 (.t 1)⟩
 (.q ⟨(some 11), none, .load 1 false (.t 10)⟩
 (.q ⟨(some 12), none, .call 112 [(.t 11)]⟩
 (.q ⟨(some 13), none, .faddr 2 (.t 3)⟩
 (.q ⟨none, none, .store 1 (.t 13) (.t 12)⟩
 .done))))))
 (.seq (.reg (.q ⟨(some 14), none, .load 3 true (.t 3)⟩
 (.q ⟨none, none, .store 3 (.t 2) (.t 14)⟩
 .done)))
 .ret))))))
theorem fc73 : fcomp Try.prog Try.f73 = some (c73.erase, [.load 3 true (.t 2)], 15) := by kernel_rfl
def laws_toMut (a_1 : GMut) : Option GMut :=
    (laws_toAtomS a_1.Value).bind fun r_2 =>
    some (⟨a_1.Column, a_1.Func, r_2⟩ : GMut)
theorem w_laws_toMut (a_1 : GMut) (r : GMut) (hf : laws_toMut a_1 = some r) : CallOK Try.prog 73 .fresh [(encGMut a_1)] (encGMut r) := by
  refine CallOK.of_awp mixed Try.func73 fc73 nle ?_
  rw [argT_eq]
  unfold laws_toMut at hf
  unfold c73
  refine (show awp Try.prog true 0 _ (ofL [(0, (encGMut a_1))]) [] _ from ?_)
  refine awp_seq ?_
  refine w_reg ?_
  refine s_do (o_box (j := 0) (c := (.agg [(.str a_1.Column), (.int .i64 a_1.Func), (.lst 3 (a_1.Value.map encGAtom))])) rfl trivial rfl rfl) ?_
  refine s_do (o_box (j := 1) (c := (.agg [(.str []), (.int .i64 0), .nil])) rfl trivial rfl rfl) ?_
  refine w_done ?_
  refine k_seq ?_
  refine awp_seq ?_
  refine w_reg ?_
  refine s_do (o_box (j := 2) (c := (.agg [(.str []), (.int .i64 0), .nil])) rfl trivial rfl rfl) ?_
  refine w_done ?_
  refine k_seq ?_
  refine awp_seq ?_
  refine w_reg ?_
  refine s_do (o_q (.ptr 0 0 0) rfl trivial rfl) ?_
  refine s_do (o_q (.str a_1.Column) rfl nle rfl) ?_
  refine s_do (o_q (.ptr 2 0 0) rfl trivial rfl) ?_
  refine s_do0 (o_storebox (v := (.str a_1.Column)) (y' := (.agg [(.str a_1.Column), (.int .i64 0), .nil])) rfl rfl rfl trivial ⟨rfl, nle⟩ ⟨⟨rfl, trivial⟩, trivial⟩ rfl) ?_
  refine w_done ?_
  refine k_seq ?_
  refine awp_seq ?_
  refine w_reg ?_
  refine s_do (o_q (.ptr 0 0 1) rfl trivial rfl) ?_
  refine s_do (o_q (.int .i64 a_1.Func) rfl nle rfl) ?_
  refine s_do (o_q (.ptr 2 0 1) rfl trivial rfl) ?_
  refine s_do0 (o_storebox (v := (.int .i64 a_1.Func)) (y' := (.agg [(.str a_1.Column), (.int .i64 a_1.Func), .nil])) rfl rfl rfl trivial ⟨rfl, nle⟩ ⟨⟨rfl, trivial⟩, trivial⟩ rfl) ?_
  refine w_done ?_
  refine k_seq ?_
  refine awp_seq ?_
  refine w_reg ?_
  obtain ⟨r_2, er3, hf⟩ := ob hf
  refine s_do (o_q (.ptr 0 0 2) rfl trivial rfl) ?_
  refine s_do (o_q (.lst 3 (a_1.Value.map encGAtom)) rfl nle rfl) ?_
  refine s_do (o_callf (v := (.own 3 0 r_2.length)) (h' := [.row 3 (r_2.map encGAtom)]) (w_laws_toAtomS _ _ er3) rfl (.refl _) (by simp only [openV, openVs, List.length_map, List.nil_append, List.append_nil, List.cons_append]; rfl)) ?_
  refine s_do (o_q (.ptr 2 0 2) rfl trivial rfl) ?_
  refine s_do0 (o_storebox (v := (.own 3 0 r_2.length)) (y' := (.agg [(.str a_1.Column), (.int .i64 a_1.Func), (.own 3 0 r_2.length)])) rfl rfl rfl trivial ⟨rfl, nle⟩ ⟨⟨rfl, trivial⟩, trivial⟩ rfl) ?_
  refine w_done ?_
  refine k_seq ?_
  refine awp_seq ?_
  refine w_reg ?_
  refine s_do (o_q (.agg [(.str a_1.Column), (.int .i64 a_1.Func), (.own 3 0 r_2.length)]) rfl nle rfl) ?_
  refine s_do0 (o_storebox (v := (.agg [(.str a_1.Column), (.int .i64 a_1.Func), (.own 3 0 r_2.length)])) (y' := (.agg [(.str a_1.Column), (.int .i64 a_1.Func), (.own 3 0 r_2.length)])) rfl rfl rfl trivial ⟨rfl, nle⟩ ⟨⟨rfl, trivial⟩, ⟨⟨rfl, trivial⟩, ⟨⟨rfl, trivial⟩, trivial⟩⟩⟩ rfl) ?_
  refine w_done ?_
  refine k_seq ?_
  refine w_ret ?_
  obtain rfl := os hf
  exact r_fresh ⟨nle, trivial⟩ rfl (by decide) (.agg (.cons (.refl _) (.cons (.refl _) (.cons (.of_eq (congrArg (AV.lst _) (tk (enc := encGAtom) r_2))) .nil))))

/- laws.toMutS -/
def c34 : ACode :=
 (.seq (.reg (.q ⟨(some 2), none, .mov (.c .nil)⟩
 .done))
 (.seq (.reg (.q ⟨(some 5), none, .mov (.t 0)⟩
 (.q ⟨(some 6), none, .len (.t 5)⟩
 (.q ⟨(some 7), none, .mkslice 3 48 (.agg [(.str []), (.int .i64 0), .nil]) (.t 6) (.t 6)⟩
 (.q ⟨(some 3), none, .mov (.t 7)⟩
 .done)))))
 (.seq (.seq (.reg (.q ⟨(some 4), none, .mov (.c (.int .i64 0))⟩
 .done))
 (.block 0 (.loop (.seq (.seq (.reg (.q ⟨(some 8), none, .mov (.t 4)⟩
 (.q ⟨(some 9), none, .mov (.t 0)⟩
 (.q ⟨(some 10), none, .len (.t 9)⟩
 (.q ⟨(some 11), none, .bin .lss (.t 8) (.t 10)⟩
 .done)))))
 (.cond (.t 11) .skip
 (.exit 0)))
 (.seq (.block 1 (.reg (.q ⟨(some 14), none, .mov (.t 3)⟩
 (.q ⟨(some 15), none, .mov (.t 4)⟩
 (.q ⟨(some 16), none, .mov (.t 0)⟩
 (.q ⟨(some 17), none, .mov (.t 4)⟩
 (.q ⟨(some 18), none, .iaddr 3 (.t 16) (.t 17)⟩
 (.q ⟨(some 19), none, .load 3 true (.t 18)⟩
 (.q ⟨(some 20), none, .call 73 [(.t 19)]⟩
 (.q ⟨(some 21), none, .iaddr 3 (.t 14) (.t 15)⟩
 (.q ⟨none, none, .store 3 (.t 21) (.t 20)⟩
 .done)))))))))))
 (.reg (.q ⟨(some 12), none, .mov (.t 4)⟩
 (.q ⟨(some 13), none, .bin .add (.t 12) (.c (.int .i64 1))⟩
 (.q ⟨(some 4), none, .mov (.t 13)⟩
 .done)))))))))
 (.cut (.seq (.reg (.q ⟨(some 22), none, .mov (.t 3)⟩
 (.q ⟨(some 2), none, .mov (.t 22)⟩
 .done)))
 .ret)))))
theorem fc34 : fcomp Try.prog Try.f34 = some (c34.erase, [.mov (.t 2)], 23) := by kernel_rfl
def laws_toMutS_L1  : List GMut → Nat → (List GMut) → Option (List GMut)
  | [], i_24, out_25 =>
    some out_25
  | x_44 :: xs, i_24, out_25 =>
    (laws_toMut x_44).bind fun r_47 =>
    if i_24 < out_25.length then
    (out_25[i_24]?).bind fun x_50 =>
    laws_toMutS_L1 xs (i_24 + 1) (out_25.set i_24 r_47)
    else none

def laws_toMutS (a_1 : (List GMut)) : Option (List GMut) :=
    if (a_1.length : Int) ≤ 2 ^ 30 then
    (laws_toMutS_L1 a_1 0 (List.replicate a_1.length (⟨[], 0, []⟩ : GMut))).bind fun out_36 =>
    some out_36
    else none
theorem w_laws_toMutS (a_1 : (List GMut)) (r : (List GMut)) (hf : laws_toMutS a_1 = some r) : CallOK Try.prog 34 .fresh [(.lst 3 (a_1.map encGMut))] (.lst 3 (r.map encGMut)) := by
 refine CallOK.of_awp mixed Try.func34 fc34 nle ?_; rw [argT_eq]; unfold laws_toMutS at hf; unfold c34; refine (show awp Try.prog true 0 _ (ofL [(0, (.lst 3 (a_1.map encGMut)))]) [] _ from ?_); refine awp_seq ?_; refine w_reg ?_; refine s_do (o_mov .nil rfl) ?_; refine w_done ?_; refine k_seq ?_; refine awp_seq ?_; refine w_reg ?_
 obtain ⟨g3, hf⟩ := og hf
 refine s_do (o_mov (.lst 3 (a_1.map encGMut)) rfl) ?_; refine s_dof (o_len (enc := encGMut) rfl) fun hl2 => ?_; refine s_do (o_mkslice (j := 0) (enc := encGMut) (m := a_1.length) (⟨[], 0, []⟩ : GMut) (.agg (.cons (.refl _) (.cons (.refl _) (.cons (.nil _) .nil)))) rfl rfl (Int.le_refl _) g3 rfl) ?_; refine s_do (o_mov (.own 0 0 a_1.length) rfl) ?_; refine w_done ?_; refine k_seq ?_; refine awp_seq ?_; refine awp_seq ?_; refine w_reg ?_; refine s_do (o_mov (.int .i64 0) rfl) ?_; refine w_done ?_; refine k_seq ?_
 obtain ⟨out_36, hb1, hf⟩ := ob hf
 refine awp_cut ([(3, (.own 0 0 out_36.length))], [.row 3 (out_36.map encGMut)]) ?_ ?_
 ·refine awp_loop (X := {q : (Nat × (List GMut)) // laws_toMutS_L1 (a_1.drop q.1) q.1 q.2 = some out_36}) (fun q => ([(0, (.lst 3 (a_1.map encGMut))), (3, (.own 0 0 q.1.2.length)), (4, (.int .i64 (q.1.1 : Int)))], [.row 3 (q.1.2.map encGMut)])) (fun q => a_1.length - q.1.1) ⟨(0, List.replicate a_1.length (⟨[], 0, []⟩ : GMut)), hb1⟩ ⟨[], [0], _, _, rfl, rfl, ⟨.refl _, ⟨.of_eq (congrArg (AV.own _ 0) (by simp)), ⟨.refl _, trivial⟩⟩⟩, (.refl _)⟩ ?_
  rintro ⟨⟨i_24, out_25⟩, hc1⟩
  have hc1 : laws_toMutS_L1 (a_1.drop i_24) i_24 out_25 = some out_36 := hc1
  refine (show awp Try.prog true 0 _ (ofL [(0, (.lst 3 (a_1.map encGMut))), (3, (.own 0 0 out_25.length)), (4, (.int .i64 (i_24 : Int)))]) [.row 3 (out_25.map encGMut)] _ from ?_)
  rcases dropc a_1 i_24 with ⟨hie40, hd43⟩ | ⟨hlt38, x_44, hx39, hd43⟩
  ·rw [hd43, laws_toMutS_L1.eq_1] at hc1
   have hq42 := dlf hie40
   refine awp_seq ?_; refine awp_seq ?_; refine w_reg ?_; refine s_do (o_mov (.int .i64 (i_24 : Int)) rfl) ?_; refine s_do (o_mov (.lst 3 (a_1.map encGMut)) rfl) ?_; refine s_dof (o_len (enc := encGMut) rfl) fun hl45 => ?_; refine s_do (o_q (.bool (decide ((i_24 : Int) < (a_1.length : Int)))) rfl rfl rfl) ?_; refine w_done ?_; refine k_seq ?_; refine w_condf rfl hq42 ?_; refine w_exit ?_; refine k_seqx ?_; refine k_loopx ?_; refine k_blkx ?_; obtain rfl := os hc1; exact ⟨[], [0], _, _, rfl, rfl, ⟨.refl _, trivial⟩, (.refl _)⟩
  ·rw [hd43, laws_toMutS_L1.eq_2] at hc1
   have hq42 := dlt hlt38
   refine awp_seq ?_; refine awp_seq ?_; refine w_reg ?_; refine s_do (o_mov (.int .i64 (i_24 : Int)) rfl) ?_; refine s_do (o_mov (.lst 3 (a_1.map encGMut)) rfl) ?_; refine s_dof (o_len (enc := encGMut) rfl) fun hl46 => ?_; refine s_do (o_q (.bool (decide ((i_24 : Int) < (a_1.length : Int)))) rfl rfl rfl) ?_; refine w_done ?_; refine k_seq ?_; refine w_condt rfl hq42 ?_; refine w_skip ?_; refine k_seq ?_; refine awp_seq ?_; refine w_blk ?_; refine w_reg ?_
   obtain ⟨r_47, er48, hc1⟩ := ob hc1
   obtain ⟨g49, hc1⟩ := og hc1
   obtain ⟨x_50, ex51, hc1⟩ := ob hc1
   refine s_do (o_mov (.own 0 0 out_25.length) rfl) ?_; refine s_do (o_mov (.int .i64 (i_24 : Int)) rfl) ?_; refine s_do (o_mov (.lst 3 (a_1.map encGMut)) rfl) ?_; refine s_do (o_mov (.int .i64 (i_24 : Int)) rfl) ?_; refine s_do (o_iaddrn (enc := encGMut) rfl rfl hx39) ?_; refine s_do (o_q (encGMut x_44) rfl nle rfl) ?_; refine s_do (o_callf (v := (.agg [(.str r_47.Column), (.int .i64 r_47.Func), (.own 1 0 r_47.Value.length)])) (h' := [.row 3 (r_47.Value.map encGAtom)]) (w_laws_toMut _ _ er48) rfl (.refl _) (by simp only [openV, openVs, List.length_map, encGMut_eq, List.nil_append, List.append_nil, List.cons_append]; rfl)) ?_
   refine s_do (o_iaddrownn rfl rfl g49 rfl rfl) ?_; refine s_do0 (o_storerow (v' := (.agg [(.str r_47.Column), (.int .i64 r_47.Func), (.lst 3 (r_47.Value.map encGAtom))])) (e' := r_47) rfl rfl ex51 rfl rfl (by simp only [tk, tko, List.take_length]) (by decide) (fun _ => by decide) ⟨rfl, nle⟩ (.refl _) rfl) ?_; refine w_done ?_; refine k_blk ?_; refine k_seq ?_; refine w_reg ?_; refine s_do (o_mov (.int .i64 (i_24 : Int)) rfl) ?_; refine s_do (o_q (.int .i64 (w64 ((i_24 : Int) + 1))) rfl rfl rfl) ?_; refine s_do (o_mov (.int .i64 (w64 ((i_24 : Int) + 1))) rfl) ?_; refine w_done ?_; exact k_loopn ⟨((i_24 + 1), out_25.set i_24 r_47), hc1⟩ (mul hlt38) ⟨[], [0], _, _, rfl, rfl, ⟨.refl _, ⟨.of_eq (congrArg (AV.own _ 0) (by simp)), ⟨.of_eq (congrArg (AV.int _) (w64_incr hlt38 hl46)), trivial⟩⟩⟩, (.refl _)⟩
 ·refine awp_seq ?_; refine w_reg ?_; refine s_do (o_mov (.own 0 0 out_36.length) rfl) ?_; refine s_do (o_mov (.own 0 0 out_36.length) rfl) ?_; refine w_done ?_; refine k_seq ?_; refine w_ret ?_; obtain rfl := os hf; exact r_fresh ⟨trivial, trivial⟩ rfl (by decide) (.of_eq (congrArg (AV.lst _) (tk (enc := encGMut) out_36)))

/- laws.toOp -/
def c9 : ACode :=
 (.seq (.reg (.q ⟨(some 1), none, .box 8 (.t 0)⟩
 (.q ⟨(some 2), none, .box 8 (.c (.agg [(.int .i64 0), (.str []), (.str []), .nil, .nil, .nil, .nil, (.bool false)]))⟩
 .done)))
 (.seq (.reg (.q ⟨(some 3), none, .box 8 (.c (.agg [(.int .i64 0), (.str []), (.str []), .nil, .nil, .nil, .nil, (.bool false)]))⟩
 .done))
 (.seq (.reg (.q ⟨(some 4), none, .faddr 0 (.t 1)⟩
 (.q ⟨(some 5), none, .load 1 false (.t 4)⟩
 (.q ⟨(some 6), none, .faddr 0 (.t 3)⟩
 (.q ⟨none, none, .store 1 (.t 6) (.t 5)⟩
 .done)))))
 (.seq (.reg (.q ⟨(some 7), none, .faddr 1 (.t 1)⟩
 (.q ⟨(some 8), none, .load 1 false (.t 7)⟩
 (.q ⟨(some 9), none, .faddr 1 (.t 3)⟩
 (.q ⟨none, none, .store 1 (.t 9) (.t 8)⟩
 .done)))))
 (.seq (.reg (.q ⟨(some 10), none, .faddr 2 (.t 1)⟩
 (.q ⟨(some 11), none, .load 1 false (.t 10)⟩
 (.q ⟨(some 12), none, .faddr 2 (.t 3)⟩
 (.q ⟨none, none, .store 1 (.t 12) (.t 11)⟩
 .done)))))
 (.seq (.reg (.q ⟨(some 13), none, .faddr 3 (.t 1)⟩
 (.q ⟨(some 14), none, .load 1 false (.t 13)⟩
 (.q ⟨(some 15), none, .call 32 [(.t 14)]⟩
 (.q ⟨(some 16), none, .faddr 3 (.t 3)⟩
 (.q ⟨none, none, .store 1 (.t 16) (.t 15)⟩
 .done))))))
 (.seq (.reg (.q ⟨(some 17), none, .faddr 4 (.t 1)⟩
 (.q ⟨(some 18), none, .load 1 false (.t 17)⟩
 (.q ⟨(some 19), none, .call 33 [(.t 18)]⟩
 (.q ⟨(some 20), none, .faddr 4 (.t 3)⟩
 (.q ⟨none, none, .store 1 (.t 20) (.t 19)⟩
 .done))))))
 (.seq (.reg (.q ⟨(some 21), none, .faddr 5 (.t 1)⟩
 (.q ⟨(some 22), none, .load 1 false (.t 21)⟩
 (.q ⟨(some 23), none, .call 34 [(.t 22)]⟩
 (.q ⟨(some 24), none, .faddr 5 (.t 3)⟩
 (.q ⟨none, none, .store 1 (.t 24) (.t 23)⟩
 .done))))))
 (.seq (.reg (.q ⟨(some 25), none, .faddr 6 (.t 1)⟩
 (.q ⟨(some 26), none, .load 1 false (.t 25)⟩
 (.q ⟨(some 27), none, .call 35 [(.t 26)]⟩
 (.q ⟨(some 28), none, .faddr 6 (.t 3)⟩
 (.q ⟨none, none, .store 1 (.t 28) (.t 27)⟩
 .done))))))
 (.seq (.reg (.q ⟨(some 29), none, .faddr 7 (.t 1)⟩
 (.q ⟨(some 30), none, .load 1 false (.t 29)⟩
 (.q ⟨(some 31), none, .faddr 7 (.t 3)⟩
 (.q ⟨none, none, .store 1 (.t 31) (.t 30)⟩
 .done)))))
 (.seq (.reg (.q ⟨(some 32), none, .load 8 true (.t 3)⟩
 (.q ⟨none, none, .store 8 (.t 2) (.t 32)⟩
 .done)))
 .ret)))))))))))
theorem fc9 : fcomp Try.prog Try.f9 = some (c9.erase, [.load 8 true (.t 2)], 33) := by kernel_rfl
def laws_toOp (a_1 : GOp) : Option GOp :=
    (laws_toCondS a_1.Where).bind fun r_2 =>
    (laws_toSetS a_1.Row).bind fun r_4 =>
    (laws_toMutS a_1.Muts).bind fun r_6 =>
    (laws_toStringS a_1.Columns).bind fun r_8 =>
    some (⟨a_1.Kind, a_1.Table, a_1.Name, r_2, r_4, r_6, r_8, a_1.Until⟩ : GOp)
theorem w_laws_toOp (a_1 : GOp) (r : GOp) (hf : laws_toOp a_1 = some r) : CallOK Try.prog 9 .fresh [(encGOp a_1)] (encGOp r) := by
 refine CallOK.of_awp mixed Try.func9 fc9 nle ?_; rw [argT_eq]; unfold laws_toOp at hf; unfold c9; refine (show awp Try.prog true 0 _ (ofL [(0, (encGOp a_1))]) [] _ from ?_); refine awp_seq ?_; refine w_reg ?_; refine s_do (o_box (j := 0) (c := (.agg [(.int .i64 a_1.Kind), (.str a_1.Table), (.str a_1.Name), (.lst 3 (a_1.Where.map encGCond)), (.lst 3 (a_1.Row.map encGSet)), (.lst 3 (a_1.Muts.map encGMut)), (.lst 1 (a_1.Columns.map AV.str)), (.bool a_1.Until)])) rfl trivial rfl rfl) ?_; refine s_do (o_box (j := 1) (c := (.agg [(.int .i64 0), (.str []), (.str []), .nil, .nil, .nil, .nil, (.bool false)])) rfl trivial rfl rfl) ?_
 refine w_done ?_; refine k_seq ?_; refine awp_seq ?_; refine w_reg ?_; refine s_do (o_box (j := 2) (c := (.agg [(.int .i64 0), (.str []), (.str []), .nil, .nil, .nil, .nil, (.bool false)])) rfl trivial rfl rfl) ?_; refine w_done ?_; refine k_seq ?_; refine awp_seq ?_; refine w_reg ?_; refine s_do (o_q (.ptr 0 0 0) rfl trivial rfl) ?_; refine s_do (o_q (.int .i64 a_1.Kind) rfl nle rfl) ?_; refine s_do (o_q (.ptr 2 0 0) rfl trivial rfl) ?_; refine s_do0 (o_storebox (v := (.int .i64 a_1.Kind)) (y' := (.agg [(.int .i64 a_1.Kind), (.str []), (.str []), .nil, .nil, .nil, .nil, (.bool false)])) rfl rfl rfl trivial ⟨rfl, nle⟩ ⟨⟨rfl, trivial⟩, trivial⟩ rfl) ?_
 refine w_done ?_; refine k_seq ?_; refine awp_seq ?_; refine w_reg ?_; refine s_do (o_q (.ptr 0 0 1) rfl trivial rfl) ?_; refine s_do (o_q (.str a_1.Table) rfl nle rfl) ?_; refine s_do (o_q (.ptr 2 0 1) rfl trivial rfl) ?_; refine s_do0 (o_storebox (v := (.str a_1.Table)) (y' := (.agg [(.int .i64 a_1.Kind), (.str a_1.Table), (.str []), .nil, .nil, .nil, .nil, (.bool false)])) rfl rfl rfl trivial ⟨rfl, nle⟩ ⟨⟨rfl, trivial⟩, trivial⟩ rfl) ?_; refine w_done ?_; refine k_seq ?_; refine awp_seq ?_; refine w_reg ?_; refine s_do (o_q (.ptr 0 0 2) rfl trivial rfl) ?_; refine s_do (o_q (.str a_1.Name) rfl nle rfl) ?_
 refine s_do (o_q (.ptr 2 0 2) rfl trivial rfl) ?_; refine s_do0 (o_storebox (v := (.str a_1.Name)) (y' := (.agg [(.int .i64 a_1.Kind), (.str a_1.Table), (.str a_1.Name), .nil, .nil, .nil, .nil, (.bool false)])) rfl rfl rfl trivial ⟨rfl, nle⟩ ⟨⟨rfl, trivial⟩, trivial⟩ rfl) ?_; refine w_done ?_; refine k_seq ?_; refine awp_seq ?_; refine w_reg ?_
 obtain ⟨r_2, er3, hf⟩ := ob hf
 refine s_do (o_q (.ptr 0 0 3) rfl trivial rfl) ?_; refine s_do (o_q (.lst 3 (a_1.Where.map encGCond)) rfl nle rfl) ?_; refine s_do (o_callf (v := (.own 3 0 r_2.length)) (h' := [.row 3 (r_2.map encGCond)]) (w_laws_toCondS _ _ er3) rfl (.refl _) (by simp only [openV, openVs, List.length_map, List.nil_append, List.append_nil, List.cons_append]; rfl)) ?_
 refine s_do (o_q (.ptr 2 0 3) rfl trivial rfl) ?_; refine s_do0 (o_storebox (v := (.own 3 0 r_2.length)) (y' := (.agg [(.int .i64 a_1.Kind), (.str a_1.Table), (.str a_1.Name), (.own 3 0 r_2.length), .nil, .nil, .nil, (.bool false)])) rfl rfl rfl trivial ⟨rfl, nle⟩ ⟨⟨rfl, trivial⟩, trivial⟩ rfl) ?_; refine w_done ?_; refine k_seq ?_; refine awp_seq ?_; refine w_reg ?_
 obtain ⟨r_4, er5, hf⟩ := ob hf
 refine s_do (o_q (.ptr 0 0 4) rfl trivial rfl) ?_; refine s_do (o_q (.lst 3 (a_1.Row.map encGSet)) rfl nle rfl) ?_; refine s_do (o_callf (v := (.own 4 0 r_4.length)) (h' := [.row 3 (r_4.map encGSet)]) (w_laws_toSetS _ _ er5) rfl (.refl _) (by simp only [openV, openVs, List.length_map, List.nil_append, List.append_nil, List.cons_append]; rfl)) ?_
 refine s_do (o_q (.ptr 2 0 4) rfl trivial rfl) ?_; refine s_do0 (o_storebox (v := (.own 4 0 r_4.length)) (y' := (.agg [(.int .i64 a_1.Kind), (.str a_1.Table), (.str a_1.Name), (.own 3 0 r_2.length), (.own 4 0 r_4.length), .nil, .nil, (.bool false)])) rfl rfl rfl trivial ⟨rfl, nle⟩ ⟨⟨rfl, trivial⟩, trivial⟩ rfl) ?_; refine w_done ?_; refine k_seq ?_; refine awp_seq ?_; refine w_reg ?_
 obtain ⟨r_6, er7, hf⟩ := ob hf
 refine s_do (o_q (.ptr 0 0 5) rfl trivial rfl) ?_; refine s_do (o_q (.lst 3 (a_1.Muts.map encGMut)) rfl nle rfl) ?_; refine s_do (o_callf (v := (.own 5 0 r_6.length)) (h' := [.row 3 (r_6.map encGMut)]) (w_laws_toMutS _ _ er7) rfl (.refl _) (by simp only [openV, openVs, List.length_map, List.nil_append, List.append_nil, List.cons_append]; rfl)) ?_
 refine s_do (o_q (.ptr 2 0 5) rfl trivial rfl) ?_; refine s_do0 (o_storebox (v := (.own 5 0 r_6.length)) (y' := (.agg [(.int .i64 a_1.Kind), (.str a_1.Table), (.str a_1.Name), (.own 3 0 r_2.length), (.own 4 0 r_4.length), (.own 5 0 r_6.length), .nil, (.bool false)])) rfl rfl rfl trivial ⟨rfl, nle⟩ ⟨⟨rfl, trivial⟩, trivial⟩ rfl) ?_; refine w_done ?_; refine k_seq ?_; refine awp_seq ?_; refine w_reg ?_
 obtain ⟨r_8, er9, hf⟩ := ob hf
 refine s_do (o_q (.ptr 0 0 6) rfl trivial rfl) ?_; refine s_do (o_q (.lst 1 (a_1.Columns.map AV.str)) rfl nle rfl) ?_; refine s_do (o_callf (v := (.own 6 0 r_8.length)) (h' := [.row 1 (r_8.map AV.str)]) (w_laws_toStringS _ _ er9) rfl (.refl _) (by simp only [openV, openVs, List.length_map, List.nil_append, List.append_nil, List.cons_append]; rfl)) ?_
 refine s_do (o_q (.ptr 2 0 6) rfl trivial rfl) ?_; refine s_do0 (o_storebox (v := (.own 6 0 r_8.length)) (y' := (.agg [(.int .i64 a_1.Kind), (.str a_1.Table), (.str a_1.Name), (.own 3 0 r_2.length), (.own 4 0 r_4.length), (.own 5 0 r_6.length), (.own 6 0 r_8.length), (.bool false)])) rfl rfl rfl trivial ⟨rfl, nle⟩ ⟨⟨rfl, trivial⟩, trivial⟩ rfl) ?_; refine w_done ?_; refine k_seq ?_; refine awp_seq ?_; refine w_reg ?_; refine s_do (o_q (.ptr 0 0 7) rfl trivial rfl) ?_; refine s_do (o_q (.bool a_1.Until) rfl nle rfl) ?_; refine s_do (o_q (.ptr 2 0 7) rfl trivial rfl) ?_; refine s_do0 (o_storebox (v := (.bool a_1.Until)) (y' := (.agg [(.int .i64 a_1.Kind), (.str a_1.Table), (.str a_1.Name), (.own 3 0 r_2.length), (.own 4 0 r_4.length), (.own 5 0 r_6.length), (.own 6 0 r_8.length), (.bool a_1.Until)])) rfl rfl rfl trivial ⟨rfl, nle⟩ ⟨⟨rfl, trivial⟩, trivial⟩ rfl) ?_
 refine w_done ?_; refine k_seq ?_; refine awp_seq ?_; refine w_reg ?_; refine s_do (o_q (.agg [(.int .i64 a_1.Kind), (.str a_1.Table), (.str a_1.Name), (.own 3 0 r_2.length), (.own 4 0 r_4.length), (.own 5 0 r_6.length), (.own 6 0 r_8.length), (.bool a_1.Until)]) rfl nle rfl) ?_; refine s_do0 (o_storebox (v := (.agg [(.int .i64 a_1.Kind), (.str a_1.Table), (.str a_1.Name), (.own 3 0 r_2.length), (.own 4 0 r_4.length), (.own 5 0 r_6.length), (.own 6 0 r_8.length), (.bool a_1.Until)])) (y' := (.agg [(.int .i64 a_1.Kind), (.str a_1.Table), (.str a_1.Name), (.own 3 0 r_2.length), (.own 4 0 r_4.length), (.own 5 0 r_6.length), (.own 6 0 r_8.length), (.bool a_1.Until)])) rfl rfl rfl trivial ⟨rfl, nle⟩ ⟨⟨rfl, trivial⟩, ⟨⟨rfl, trivial⟩, ⟨⟨rfl, trivial⟩, ⟨⟨rfl, trivial⟩, ⟨⟨rfl, trivial⟩, ⟨⟨rfl, trivial⟩, ⟨⟨rfl, trivial⟩, ⟨⟨rfl, trivial⟩, trivial⟩⟩⟩⟩⟩⟩⟩⟩ rfl) ?_
 refine w_done ?_; refine k_seq ?_; refine w_ret ?_; obtain rfl := os hf; exact r_fresh ⟨nle, trivial⟩ rfl (by decide) (.agg (.cons (.refl _) (.cons (.refl _) (.cons (.refl _) (.cons (.of_eq (congrArg (AV.lst _) (tk (enc := encGCond) r_2))) (.cons (.of_eq (congrArg (AV.lst _) (tk (enc := encGSet) r_4))) (.cons (.of_eq (congrArg (AV.lst _) (tk (enc := encGMut) r_6))) (.cons (.of_eq (congrArg (AV.lst _) (tk (enc := AV.str) r_8))) (.cons (.refl _) .nil)))))))))

/- spec.l01In -/
def c28 : ACode :=
 (.seq (.reg (.q ⟨(some 6), none, .mov (.c (.bool false))⟩
 .done))
 (.seq (.reg (.q ⟨(some 7), none, .mov (.t 1)⟩
 (.q ⟨(some 8), none, .mov (.t 0)⟩
 (.q ⟨(some 9), none, .bin .leq (.t 7) (.t 8)⟩
 (.q ⟨(some 10), none, .mov (.t 9)⟩
 (.q ⟨(some 11), (some (10, true)), .mov (.t 0)⟩
 (.q ⟨(some 12), (some (10, true)), .mov (.t 2)⟩
 (.q ⟨(some 13), (some (10, true)), .bin .leq (.t 11) (.t 12)⟩
 (.q ⟨(some 14), none, .pick (.t 10) (.t 13) (.c (.bool false))⟩
 (.q ⟨(some 6), none, .mov (.t 14)⟩
 .done))))))))))
 .ret))
theorem fc28 : fcomp Try.prog Try.f28 = some (c28.erase, [.mov (.t 6)], 15) := by kernel_rfl
def spec_l01In (n_1 : Int) (low_2 : Int) (high_3 : Int) : Option Bool :=
    if (decide (low_2 ≤ n_1)) then
    some (decide (n_1 ≤ high_3))
    else
    some false
theorem w_spec_l01In (n_1 : Int) (low_2 : Int) (high_3 : Int) (r : Bool) (hf : spec_l01In n_1 low_2 high_3 = some r) : CallOK Try.prog 28 .flat [(.int .i64 n_1), (.int .i64 low_2), (.int .i64 high_3)] (.bool r) := by
  refine CallOK.of_awp mixed Try.func28 fc28 nle ?_
  rw [argT_eq]
  unfold spec_l01In at hf
  unfold c28
  refine (show awp Try.prog false 0 _ (ofL [(0, (.int .i64 n_1)), (1, (.int .i64 low_2)), (2, (.int .i64 high_3))]) [] _ from ?_)
  refine awp_seq ?_
  refine w_reg ?_
  refine s_do (o_mov (.bool false) rfl) ?_
  refine w_done ?_
  refine k_seq ?_
  refine awp_seq ?_
  refine w_reg ?_
  rcases oi hf with ⟨c4, hf⟩ | ⟨c4, hf⟩
  · refine s_do (o_mov (.int .i64 low_2) rfl) ?_
    refine s_do (o_mov (.int .i64 n_1) rfl) ?_
    refine s_do (o_q (.bool (decide (low_2 ≤ n_1))) rfl rfl rfl) ?_
    refine s_do (o_mov (.bool (decide (low_2 ≤ n_1))) rfl) ?_
    refine s_lit (s := 10) (b := true) rfl c4 ?_
    refine s_on rfl ?_
    refine s_do (o_mov (.int .i64 n_1) rfl) ?_
    refine s_on rfl ?_
    refine s_do (o_mov (.int .i64 high_3) rfl) ?_
    refine s_on rfl ?_
    refine s_do (o_q (.bool (decide (n_1 ≤ high_3))) rfl rfl rfl) ?_
    refine s_do (o_q (.bool (decide (n_1 ≤ high_3))) rfl trivial rfl) ?_
    refine s_do (o_mov (.bool (decide (n_1 ≤ high_3))) rfl) ?_
    refine w_done ?_
    refine k_seq ?_
    refine w_ret ?_
    obtain rfl := os hf
    exact r_flat ⟨trivial, trivial⟩ rfl (.refl _)
  · refine s_do (o_mov (.int .i64 low_2) rfl) ?_
    refine s_do (o_mov (.int .i64 n_1) rfl) ?_
    refine s_do (o_q (.bool (decide (low_2 ≤ n_1))) rfl rfl rfl) ?_
    refine s_do (o_mov (.bool (decide (low_2 ≤ n_1))) rfl) ?_
    refine s_lit (s := 10) (b := false) rfl (bf c4) ?_
    refine s_off rfl rfl ?_
    refine s_off rfl rfl ?_
    refine s_off rfl rfl ?_
    refine s_do (o_q (.bool false) rfl trivial rfl) ?_
    refine s_do (o_mov (.bool false) rfl) ?_
    refine w_done ?_
    refine k_seq ?_
    refine w_ret ?_
    obtain rfl := os hf
    exact r_flat ⟨trivial, trivial⟩ rfl (.refl _)

/- spec.l01Text -/
def c127 : ACode :=
 (.seq (.reg (.q ⟨(some 2), none, .mov (.c (.bool false))⟩
 .done))
 (.seq (.seq (.reg (.q ⟨(some 3), none, .mov (.c (.int .i64 0))⟩
 .done))
 (.block 0 (.loop (.seq (.seq (.reg (.q ⟨(some 4), none, .mov (.t 3)⟩
 (.q ⟨(some 5), none, .mov (.t 0)⟩
 (.q ⟨(some 6), none, .lenS (.t 5)⟩
 (.q ⟨(some 7), none, .bin .lss (.t 4) (.t 6)⟩
 .done)))))
 (.cond (.t 7) .skip
 (.exit 0)))
 (.seq (.block 1 (.seq (.reg (.q ⟨(some 10), none, .mov (.t 0)⟩
 (.q ⟨(some 11), none, .mov (.t 3)⟩
 (.q ⟨(some 12), none, .idxs (.t 10) (.t 11)⟩
 (.q ⟨(some 13), none, .bin .lss (.t 12) (.c (.int .u8 32))⟩
 (.q ⟨(some 14), none, .mov (.t 13)⟩
 (.q ⟨(some 15), (some (14, false)), .mov (.t 0)⟩
 (.q ⟨(some 16), (some (14, false)), .mov (.t 3)⟩
 (.q ⟨(some 17), (some (14, false)), .idxs (.t 15) (.t 16)⟩
 (.q ⟨(some 18), (some (14, false)), .bin .gtr (.t 17) (.c (.int .u8 126))⟩
 (.q ⟨(some 19), none, .pick (.t 14) (.c (.bool true)) (.t 18)⟩
 .done)))))))))))
 (.cut (.cond (.t 19) (.seq (.reg (.q ⟨(some 2), none, .mov (.c (.bool false))⟩
 .done))
 .ret)
 .skip))))
 (.reg (.q ⟨(some 8), none, .mov (.t 3)⟩
 (.q ⟨(some 9), none, .bin .add (.t 8) (.c (.int .i64 1))⟩
 (.q ⟨(some 3), none, .mov (.t 9)⟩
 .done)))))))))
 (.cut (.seq (.reg (.q ⟨(some 20), none, .mov (.t 0)⟩
 (.q ⟨(some 21), none, .lenS (.t 20)⟩
 (.q ⟨(some 22), none, .bin .leq (.t 21) (.c (.int .i64 200))⟩
 (.q ⟨(some 2), none, .mov (.t 22)⟩
 .done)))))
 .ret))))
theorem fc127 : fcomp Try.prog Try.f127 = some (c127.erase, [.mov (.t 2)], 23) := by kernel_rfl
def spec_l01Text_L1  : List UInt8 → Option (Fl Bool Unit)
  | [] =>
    some (.go ())
  | x_57 :: xs =>
    ((if (decide ((x_57.toNat : Int) < 32)) then
    some true
    else
    some (decide ((x_57.toNat : Int) > 126)) : Option Bool)).bind fun s19_61 =>
    if s19_61 then
    some (.ret false)
    else
    spec_l01Text_L1 xs 

def spec_l01Text (t_1 : Str) : Option Bool :=
    (spec_l01Text_L1 t_1 ).bind fun q => (match q with
    | .ret r => some r
    | .go _ =>
    some (decide ((t_1.length : Int) ≤ 200)))
theorem w_spec_l01Text (t_1 : Str) (r : Bool) (hf : spec_l01Text t_1 = some r) : CallOK Try.prog 127 .flat [(.str t_1)] (.bool r) := by
 refine CallOK.of_awp mixed Try.func127 fc127 nle ?_; rw [argT_eq]; unfold spec_l01Text at hf; unfold c127; refine (show awp Try.prog false 0 _ (ofL [(0, (.str t_1))]) [] _ from ?_); refine awp_seq ?_; refine w_reg ?_; refine s_do (o_mov (.bool false) rfl) ?_; refine w_done ?_; refine k_seq ?_; refine awp_seq ?_; refine awp_seq ?_; refine w_reg ?_; refine s_do (o_mov (.int .i64 0) rfl) ?_; refine w_done ?_; refine k_seq ?_
 obtain ⟨p50, hb1, hf⟩ := ob hf
 refine awp_cutx (X := {q : Unit // p50 = .go q}) (fun q => ([(0, (.str t_1))], [])) ?_ ?_
 ·refine awp_loop (X := {q : Nat // spec_l01Text_L1 (t_1.drop q)  = some p50}) (fun q => ([(0, (.str t_1)), (3, (.int .i64 (q.1 : Int)))], [])) (fun q => t_1.length - q.1) ⟨0, hb1⟩ ⟨[], [], _, _, rfl, rfl, ⟨.refl _, ⟨.refl _, trivial⟩⟩, (.refl _)⟩ ?_
  rintro ⟨i_33, hc1⟩
  have hc1 : spec_l01Text_L1 (t_1.drop i_33)  = some p50 := hc1
  refine (show awp Try.prog false 0 _ (ofL [(0, (.str t_1)), (3, (.int .i64 (i_33 : Int)))]) [] _ from ?_)
  rcases dropc t_1 i_33 with ⟨hie53, hd56⟩ | ⟨hlt51, x_57, hx52, hd56⟩
  ·rw [hd56, spec_l01Text_L1.eq_1] at hc1
   have hq55 := dlf hie53
   refine awp_seq ?_; refine awp_seq ?_; refine w_reg ?_; refine s_do (o_mov (.int .i64 (i_33 : Int)) rfl) ?_; refine s_do (o_mov (.str t_1) rfl) ?_; refine s_dof (o_lenS rfl) fun hl58 => ?_; refine s_do (o_q (.bool (decide ((i_33 : Int) < (t_1.length : Int)))) rfl rfl rfl) ?_; refine w_done ?_; refine k_seq ?_; refine w_condf rfl hq55 ?_; refine w_exit ?_; refine k_seqx ?_; refine k_loopx ?_; refine k_blkx ?_; obtain rfl := os hc1; exact k_cutn ⟨_, rfl⟩ ⟨[], [], _, _, rfl, rfl, ⟨.refl _, trivial⟩, (.refl _)⟩
  ·rw [hd56, spec_l01Text_L1.eq_2] at hc1
   have hq55 := dlt hlt51
   refine awp_seq ?_; refine awp_seq ?_; refine w_reg ?_; refine s_do (o_mov (.int .i64 (i_33 : Int)) rfl) ?_; refine s_do (o_mov (.str t_1) rfl) ?_; refine s_dof (o_lenS rfl) fun hl59 => ?_; refine s_do (o_q (.bool (decide ((i_33 : Int) < (t_1.length : Int)))) rfl rfl rfl) ?_; refine w_done ?_; refine k_seq ?_; refine w_condt rfl hq55 ?_; refine w_skip ?_; refine k_seq ?_; refine awp_seq ?_; refine w_blk ?_; refine awp_seq ?_
   obtain ⟨s19_61, hb2, hc1⟩ := ob hc1
   refine awp_cut ([(0, (.str t_1)), (3, (.int .i64 (i_33 : Int))), (19, (.bool s19_61))], []) ?_ ?_
   ·refine w_reg ?_
    rcases oi hb2 with ⟨c63, hb2⟩ | ⟨c63, hb2⟩
    ·refine s_do (o_mov (.str t_1) rfl) ?_; refine s_do (o_mov (.int .i64 (i_33 : Int)) rfl) ?_; refine s_do (o_idxsn rfl rfl hx52) ?_; refine s_do (o_q (.bool (decide ((x_57.toNat : Int) < 32))) rfl rfl rfl) ?_; refine s_do (o_mov (.bool (decide ((x_57.toNat : Int) < 32))) rfl) ?_; refine s_lit (s := 14) (b := true) rfl c63 ?_; refine s_off rfl rfl ?_; refine s_off rfl rfl ?_; refine s_off rfl rfl ?_; refine s_off rfl rfl ?_; refine s_do (o_q (.bool true) rfl trivial rfl) ?_; refine w_done ?_; obtain rfl := os hb2; exact ⟨[], [], _, _, rfl, rfl, ⟨.refl _, ⟨.refl _, ⟨.refl _, trivial⟩⟩⟩, (.refl _)⟩
    ·refine s_do (o_mov (.str t_1) rfl) ?_; refine s_do (o_mov (.int .i64 (i_33 : Int)) rfl) ?_; refine s_do (o_idxsn rfl rfl hx52) ?_; refine s_do (o_q (.bool (decide ((x_57.toNat : Int) < 32))) rfl rfl rfl) ?_; refine s_do (o_mov (.bool (decide ((x_57.toNat : Int) < 32))) rfl) ?_; refine s_lit (s := 14) (b := false) rfl (bf c63) ?_; refine s_on rfl ?_; refine s_do (o_mov (.str t_1) rfl) ?_; refine s_on rfl ?_; refine s_do (o_mov (.int .i64 (i_33 : Int)) rfl) ?_; refine s_on rfl ?_; refine s_do (o_idxsn rfl rfl hx52) ?_; refine s_on rfl ?_; refine s_do (o_q (.bool (decide ((x_57.toNat : Int) > 126))) rfl rfl rfl) ?_
     refine s_do (o_q (.bool (decide ((x_57.toNat : Int) > 126))) rfl trivial rfl) ?_; refine w_done ?_; obtain rfl := os hb2; exact ⟨[], [], _, _, rfl, rfl, ⟨.refl _, ⟨.refl _, ⟨.refl _, trivial⟩⟩⟩, (.refl _)⟩
   ·rcases oi hc1 with ⟨c64, hc1⟩ | ⟨c64, hc1⟩
    ·refine w_condt rfl c64 ?_; refine awp_seq ?_; refine w_reg ?_; refine s_do (o_mov (.bool false) rfl) ?_; refine w_done ?_; refine k_seq ?_; refine w_ret ?_; obtain rfl := os hc1; obtain rfl := os hf; exact r_flat ⟨trivial, trivial⟩ rfl (.refl _)
    ·refine w_condf rfl (bf c64) ?_; refine w_skip ?_; refine k_blk ?_; refine k_seq ?_; refine w_reg ?_; refine s_do (o_mov (.int .i64 (i_33 : Int)) rfl) ?_; refine s_do (o_q (.int .i64 (w64 ((i_33 : Int) + 1))) rfl rfl rfl) ?_; refine s_do (o_mov (.int .i64 (w64 ((i_33 : Int) + 1))) rfl) ?_; refine w_done ?_; exact k_loopn ⟨(i_33 + 1), hc1⟩ (mul hlt51) ⟨[], [], _, _, rfl, rfl, ⟨.refl _, ⟨.of_eq (congrArg (AV.int _) (w64_incr hlt51 hl59)), trivial⟩⟩, (.refl _)⟩
 ·rintro ⟨_, rfl⟩
  refine awp_seq ?_; refine w_reg ?_; refine s_do (o_mov (.str t_1) rfl) ?_; refine s_dof (o_lenS rfl) fun hl65 => ?_; refine s_do (o_q (.bool (decide ((t_1.length : Int) ≤ 200))) rfl rfl rfl) ?_; refine s_do (o_mov (.bool (decide ((t_1.length : Int) ≤ 200))) rfl) ?_; refine w_done ?_; refine k_seq ?_; refine w_ret ?_; obtain rfl := os hf; exact r_flat ⟨trivial, trivial⟩ rfl (.refl _)

/- spec.AtomOK -/
def c109 : ACode :=
 (.seq (.reg (.q ⟨(some 1), none, .box 3 (.t 0)⟩
 (.q ⟨(some 2), none, .mov (.c (.bool false))⟩
 .done)))
 (.seq (.seq (.reg (.q ⟨(some 3), none, .faddr 0 (.t 1)⟩
 (.q ⟨(some 4), none, .load 1 false (.t 3)⟩
 .done)))
 (.block 0 (.seq (.reg (.q ⟨(some 6), none, .bin .eql (.t 4) (.c (.int .i64 1))⟩
 (.q ⟨(some 5), none, .mov (.t 6)⟩
 .done)))
 (.cond (.t 5) (.seq (.reg (.q ⟨(some 7), none, .faddr 1 (.t 1)⟩
 (.q ⟨(some 8), none, .load 1 false (.t 7)⟩
 (.q ⟨(some 9), none, .call 28 [(.t 8), (.c (.int .i64 (-1000000000))), (.c (.int .i64 1000000000))]⟩
 (.q ⟨(some 10), none, .mov (.t 9)⟩
 (.q ⟨(some 11), (some (10, true)), .faddr 2 (.t 1)⟩
 (.q ⟨(some 12), (some (10, true)), .load 1 false (.t 11)⟩
 (.q ⟨(some 13), (some (10, true)), .bin .eql (.t 12) (.c (.str []))⟩
 (.q ⟨(some 14), none, .pick (.t 10) (.t 13) (.c (.bool false))⟩
 (.q ⟨(some 2), none, .mov (.t 14)⟩
 .done))))))))))
 .ret)
 (.seq (.reg (.q ⟨(some 16), none, .bin .eql (.t 4) (.c (.int .i64 2))⟩
 (.q ⟨(some 15), none, .mov (.t 16)⟩
 .done)))
 (.cond (.t 15) (.seq (.reg (.q ⟨(some 17), none, .faddr 1 (.t 1)⟩
 (.q ⟨(some 18), none, .load 1 false (.t 17)⟩
 (.q ⟨(some 19), none, .bin .eql (.t 18) (.c (.int .i64 0))⟩
 (.q ⟨(some 20), none, .mov (.t 19)⟩
 (.q ⟨(some 21), (some (20, true)), .faddr 2 (.t 1)⟩
 (.q ⟨(some 22), (some (20, true)), .load 1 false (.t 21)⟩
 (.q ⟨(some 23), (some (20, true)), .call 127 [(.t 22)]⟩
 (.q ⟨(some 24), none, .pick (.t 20) (.t 23) (.c (.bool false))⟩
 (.q ⟨(some 2), none, .mov (.t 24)⟩
 .done))))))))))
 .ret)
 (.seq (.reg (.q ⟨(some 26), none, .bin .eql (.t 4) (.c (.int .i64 3))⟩
 (.q ⟨(some 25), none, .mov (.t 26)⟩
 .done)))
 (.cond (.t 25) (.seq (.reg (.q ⟨(some 27), none, .faddr 1 (.t 1)⟩
 (.q ⟨(some 28), none, .load 1 false (.t 27)⟩
 (.q ⟨(some 29), none, .call 28 [(.t 28), (.c (.int .i64 0)), (.c (.int .i64 1))]⟩
 (.q ⟨(some 30), none, .mov (.t 29)⟩
 (.q ⟨(some 31), (some (30, true)), .faddr 2 (.t 1)⟩
 (.q ⟨(some 32), (some (30, true)), .load 1 false (.t 31)⟩
 (.q ⟨(some 33), (some (30, true)), .bin .eql (.t 32) (.c (.str []))⟩
 (.q ⟨(some 34), none, .pick (.t 30) (.t 33) (.c (.bool false))⟩
 (.q ⟨(some 2), none, .mov (.t 34)⟩
 .done))))))))))
 .ret)
 (.seq (.reg (.q ⟨(some 36), none, .bin .eql (.t 4) (.c (.int .i64 4))⟩
 (.q ⟨(some 35), none, .mov (.t 36)⟩
 .done)))
 (.cond (.t 35) (.seq (.reg (.q ⟨(some 37), none, .faddr 1 (.t 1)⟩
 (.q ⟨(some 38), none, .load 1 false (.t 37)⟩
 (.q ⟨(some 39), none, .call 28 [(.t 38), (.c (.int .i64 1)), (.c (.int .i64 1000000))]⟩
 (.q ⟨(some 40), none, .mov (.t 39)⟩
 (.q ⟨(some 41), (some (40, true)), .faddr 2 (.t 1)⟩
 (.q ⟨(some 42), (some (40, true)), .load 1 false (.t 41)⟩
 (.q ⟨(some 43), (some (40, true)), .bin .eql (.t 42) (.c (.str []))⟩
 (.q ⟨(some 44), none, .pick (.t 40) (.t 43) (.c (.bool false))⟩
 (.q ⟨(some 2), none, .mov (.t 44)⟩
 .done))))))))))
 .ret)
 .skip))))))))))
 (.seq (.reg (.q ⟨(some 2), none, .mov (.c (.bool false))⟩
 .done))
 .ret)))
theorem fc109 : fcomp Try.prog Try.f109 = some (c109.erase, [.mov (.t 2)], 45) := by kernel_rfl
def spec_AtomOK (a_1 : GAtom) : Option Bool :=
    if (a_1.Kind == 1) then
    (spec_l01In a_1.N (-1000000000) 1000000000).bind fun r_3 =>
    if r_3 then
    some (a_1.T == [])
    else
    some false
    else
    if (a_1.Kind == 2) then
    if (a_1.N == 0) then
    (spec_l01Text a_1.T).bind fun r_8 =>
    some r_8
    else
    some false
    else
    if (a_1.Kind == 3) then
    (spec_l01In a_1.N 0 1).bind fun r_11 =>
    if r_11 then
    some (a_1.T == [])
    else
    some false
    else
    if (a_1.Kind == 4) then
    (spec_l01In a_1.N 1 1000000).bind fun r_15 =>
    if r_15 then
    some (a_1.T == [])
    else
    some false
    else
    some false
theorem w_spec_AtomOK (a_1 : GAtom) (r : Bool) (hf : spec_AtomOK a_1 = some r) : CallOK Try.prog 109 .flat [(encGAtom a_1)] (.bool r) := by
 refine CallOK.of_awp mixed Try.func109 fc109 nle ?_; rw [argT_eq]; unfold spec_AtomOK at hf; unfold c109; refine (show awp Try.prog false 0 _ (ofL [(0, (encGAtom a_1))]) [] _ from ?_); refine awp_seq ?_; refine w_reg ?_; refine s_do (o_box (j := 0) (c := (.agg [(.int .i64 a_1.Kind), (.int .i64 a_1.N), (.str a_1.T)])) rfl trivial rfl rfl) ?_; refine s_do (o_mov (.bool false) rfl) ?_; refine w_done ?_; refine k_seq ?_; refine awp_seq ?_; refine awp_seq ?_; refine w_reg ?_; refine s_do (o_q (.ptr 0 0 0) rfl trivial rfl) ?_; refine s_do (o_q (.int .i64 a_1.Kind) rfl nle rfl) ?_; refine w_done ?_; refine k_seq ?_
 refine w_blk ?_; refine awp_seq ?_; refine w_reg ?_; refine s_do (o_q (.bool (a_1.Kind == 1)) rfl rfl rfl) ?_; refine s_do (o_mov (.bool (a_1.Kind == 1)) rfl) ?_; refine w_done ?_; refine k_seq ?_
 rcases oi hf with ⟨c2, hf⟩ | ⟨c2, hf⟩
 ·refine w_condt rfl c2 ?_; refine awp_seq ?_; refine w_reg ?_
  obtain ⟨r_3, er4, hf⟩ := ob hf
  rcases oi hf with ⟨c5, hf⟩ | ⟨c5, hf⟩
  ·refine s_do (o_q (.ptr 0 0 1) rfl trivial rfl) ?_; refine s_do (o_q (.int .i64 a_1.N) rfl nle rfl) ?_; refine s_do (o_call (w_spec_l01In _ _ _ _ er4) rfl (.refl _) rfl) ?_; refine s_do (o_mov (.bool r_3) rfl) ?_; refine s_lit (s := 10) (b := true) rfl c5 ?_; refine s_on rfl ?_; refine s_do (o_q (.ptr 0 0 2) rfl trivial rfl) ?_; refine s_on rfl ?_; refine s_do (o_q (.str a_1.T) rfl nle rfl) ?_; refine s_on rfl ?_; refine s_do (o_q (.bool (a_1.T == [])) rfl trivial rfl) ?_; refine s_do (o_q (.bool (a_1.T == [])) rfl trivial rfl) ?_; refine s_do (o_mov (.bool (a_1.T == [])) rfl) ?_; refine w_done ?_
   refine k_seq ?_; refine w_ret ?_; obtain rfl := os hf; exact r_flat ⟨trivial, trivial⟩ rfl (.refl _)
  ·refine s_do (o_q (.ptr 0 0 1) rfl trivial rfl) ?_; refine s_do (o_q (.int .i64 a_1.N) rfl nle rfl) ?_; refine s_do (o_call (w_spec_l01In _ _ _ _ er4) rfl (.refl _) rfl) ?_; refine s_do (o_mov (.bool r_3) rfl) ?_; refine s_lit (s := 10) (b := false) rfl (bf c5) ?_; refine s_off rfl rfl ?_; refine s_off rfl rfl ?_; refine s_off rfl rfl ?_; refine s_do (o_q (.bool false) rfl trivial rfl) ?_; refine s_do (o_mov (.bool false) rfl) ?_; refine w_done ?_; refine k_seq ?_; refine w_ret ?_; obtain rfl := os hf; exact r_flat ⟨trivial, trivial⟩ rfl (.refl _)
 ·refine w_condf rfl (bf c2) ?_; refine awp_seq ?_; refine w_reg ?_; refine s_do (o_q (.bool (a_1.Kind == 2)) rfl rfl rfl) ?_; refine s_do (o_mov (.bool (a_1.Kind == 2)) rfl) ?_; refine w_done ?_; refine k_seq ?_
  rcases oi hf with ⟨c6, hf⟩ | ⟨c6, hf⟩
  ·refine w_condt rfl c6 ?_; refine awp_seq ?_; refine w_reg ?_
   rcases oi hf with ⟨c7, hf⟩ | ⟨c7, hf⟩
   ·obtain ⟨r_8, er9, hf⟩ := ob hf
    refine s_do (o_q (.ptr 0 0 1) rfl trivial rfl) ?_; refine s_do (o_q (.int .i64 a_1.N) rfl nle rfl) ?_; refine s_do (o_q (.bool (a_1.N == 0)) rfl rfl rfl) ?_; refine s_do (o_mov (.bool (a_1.N == 0)) rfl) ?_; refine s_lit (s := 20) (b := true) rfl c7 ?_; refine s_on rfl ?_; refine s_do (o_q (.ptr 0 0 2) rfl trivial rfl) ?_; refine s_on rfl ?_; refine s_do (o_q (.str a_1.T) rfl nle rfl) ?_; refine s_on rfl ?_; refine s_do (o_call (w_spec_l01Text _ _ er9) rfl (.refl _) rfl) ?_; refine s_do (o_q (.bool r_8) rfl trivial rfl) ?_; refine s_do (o_mov (.bool r_8) rfl) ?_; refine w_done ?_; refine k_seq ?_
    refine w_ret ?_; obtain rfl := os hf; exact r_flat ⟨trivial, trivial⟩ rfl (.refl _)
   ·refine s_do (o_q (.ptr 0 0 1) rfl trivial rfl) ?_; refine s_do (o_q (.int .i64 a_1.N) rfl nle rfl) ?_; refine s_do (o_q (.bool (a_1.N == 0)) rfl rfl rfl) ?_; refine s_do (o_mov (.bool (a_1.N == 0)) rfl) ?_; refine s_lit (s := 20) (b := false) rfl (bf c7) ?_; refine s_off rfl rfl ?_; refine s_off rfl rfl ?_; refine s_off rfl rfl ?_; refine s_do (o_q (.bool false) rfl trivial rfl) ?_; refine s_do (o_mov (.bool false) rfl) ?_; refine w_done ?_; refine k_seq ?_; refine w_ret ?_; obtain rfl := os hf; exact r_flat ⟨trivial, trivial⟩ rfl (.refl _)
  ·refine w_condf rfl (bf c6) ?_; refine awp_seq ?_; refine w_reg ?_; refine s_do (o_q (.bool (a_1.Kind == 3)) rfl rfl rfl) ?_; refine s_do (o_mov (.bool (a_1.Kind == 3)) rfl) ?_; refine w_done ?_; refine k_seq ?_
   rcases oi hf with ⟨c10, hf⟩ | ⟨c10, hf⟩
   ·refine w_condt rfl c10 ?_; refine awp_seq ?_; refine w_reg ?_
    obtain ⟨r_11, er12, hf⟩ := ob hf
    rcases oi hf with ⟨c13, hf⟩ | ⟨c13, hf⟩
    ·refine s_do (o_q (.ptr 0 0 1) rfl trivial rfl) ?_; refine s_do (o_q (.int .i64 a_1.N) rfl nle rfl) ?_; refine s_do (o_call (w_spec_l01In _ _ _ _ er12) rfl (.refl _) rfl) ?_; refine s_do (o_mov (.bool r_11) rfl) ?_; refine s_lit (s := 30) (b := true) rfl c13 ?_; refine s_on rfl ?_; refine s_do (o_q (.ptr 0 0 2) rfl trivial rfl) ?_; refine s_on rfl ?_; refine s_do (o_q (.str a_1.T) rfl nle rfl) ?_; refine s_on rfl ?_; refine s_do (o_q (.bool (a_1.T == [])) rfl trivial rfl) ?_; refine s_do (o_q (.bool (a_1.T == [])) rfl trivial rfl) ?_; refine s_do (o_mov (.bool (a_1.T == [])) rfl) ?_; refine w_done ?_
     refine k_seq ?_; refine w_ret ?_; obtain rfl := os hf; exact r_flat ⟨trivial, trivial⟩ rfl (.refl _)
    ·refine s_do (o_q (.ptr 0 0 1) rfl trivial rfl) ?_; refine s_do (o_q (.int .i64 a_1.N) rfl nle rfl) ?_; refine s_do (o_call (w_spec_l01In _ _ _ _ er12) rfl (.refl _) rfl) ?_; refine s_do (o_mov (.bool r_11) rfl) ?_; refine s_lit (s := 30) (b := false) rfl (bf c13) ?_; refine s_off rfl rfl ?_; refine s_off rfl rfl ?_; refine s_off rfl rfl ?_; refine s_do (o_q (.bool false) rfl trivial rfl) ?_; refine s_do (o_mov (.bool false) rfl) ?_; refine w_done ?_; refine k_seq ?_; refine w_ret ?_; obtain rfl := os hf; exact r_flat ⟨trivial, trivial⟩ rfl (.refl _)
   ·refine w_condf rfl (bf c10) ?_; refine awp_seq ?_; refine w_reg ?_; refine s_do (o_q (.bool (a_1.Kind == 4)) rfl rfl rfl) ?_; refine s_do (o_mov (.bool (a_1.Kind == 4)) rfl) ?_; refine w_done ?_; refine k_seq ?_
    rcases oi hf with ⟨c14, hf⟩ | ⟨c14, hf⟩
    ·refine w_condt rfl c14 ?_; refine awp_seq ?_; refine w_reg ?_
     obtain ⟨r_15, er16, hf⟩ := ob hf
     rcases oi hf with ⟨c17, hf⟩ | ⟨c17, hf⟩
     ·refine s_do (o_q (.ptr 0 0 1) rfl trivial rfl) ?_; refine s_do (o_q (.int .i64 a_1.N) rfl nle rfl) ?_; refine s_do (o_call (w_spec_l01In _ _ _ _ er16) rfl (.refl _) rfl) ?_; refine s_do (o_mov (.bool r_15) rfl) ?_; refine s_lit (s := 40) (b := true) rfl c17 ?_; refine s_on rfl ?_; refine s_do (o_q (.ptr 0 0 2) rfl trivial rfl) ?_; refine s_on rfl ?_; refine s_do (o_q (.str a_1.T) rfl nle rfl) ?_; refine s_on rfl ?_; refine s_do (o_q (.bool (a_1.T == [])) rfl trivial rfl) ?_; refine s_do (o_q (.bool (a_1.T == [])) rfl trivial rfl) ?_; refine s_do (o_mov (.bool (a_1.T == [])) rfl) ?_; refine w_done ?_
      refine k_seq ?_; refine w_ret ?_; obtain rfl := os hf; exact r_flat ⟨trivial, trivial⟩ rfl (.refl _)
     ·refine s_do (o_q (.ptr 0 0 1) rfl trivial rfl) ?_; refine s_do (o_q (.int .i64 a_1.N) rfl nle rfl) ?_; refine s_do (o_call (w_spec_l01In _ _ _ _ er16) rfl (.refl _) rfl) ?_; refine s_do (o_mov (.bool r_15) rfl) ?_; refine s_lit (s := 40) (b := false) rfl (bf c17) ?_; refine s_off rfl rfl ?_; refine s_off rfl rfl ?_; refine s_off rfl rfl ?_; refine s_do (o_q (.bool false) rfl trivial rfl) ?_; refine s_do (o_mov (.bool false) rfl) ?_; refine w_done ?_; refine k_seq ?_; refine w_ret ?_; obtain rfl := os hf; exact r_flat ⟨trivial, trivial⟩ rfl (.refl _)
    ·refine w_condf rfl (bf c14) ?_; refine w_skip ?_; refine k_blk ?_; refine k_seq ?_; refine awp_seq ?_; refine w_reg ?_; refine s_do (o_mov (.bool false) rfl) ?_; refine w_done ?_; refine k_seq ?_; refine w_ret ?_; obtain rfl := os hf; exact r_flat ⟨trivial, trivial⟩ rfl (.refl _)

/- spec.l01Bit -/
def c128 : ACode :=
 (.seq (.reg (.q ⟨(some 2), none, .mov (.c (.int .i64 0))⟩
 .done))
 (.seq (.seq (.reg (.q ⟨(some 3), none, .mov (.t 0)⟩
 .done))
 (.cond (.t 3) (.seq (.reg (.q ⟨(some 2), none, .mov (.c (.int .i64 1))⟩
 .done))
 .ret)
 .skip))
 (.seq (.reg (.q ⟨(some 2), none, .mov (.c (.int .i64 0))⟩
 .done))
 .ret)))
theorem fc128 : fcomp Try.prog Try.f128 = some (c128.erase, [.mov (.t 2)], 4) := by kernel_rfl
def spec_l01Bit (b_1 : Bool) : Option Int :=
    if b_1 then
    some 1
    else
    some 0
theorem w_spec_l01Bit (b_1 : Bool) (r : Int) (hf : spec_l01Bit b_1 = some r) : CallOK Try.prog 128 .flat [(.bool b_1)] (.int .i64 r) := by
  refine CallOK.of_awp mixed Try.func128 fc128 nle ?_
  rw [argT_eq]
  unfold spec_l01Bit at hf
  unfold c128
  refine (show awp Try.prog false 0 _ (ofL [(0, (.bool b_1))]) [] _ from ?_)
  refine awp_seq ?_
  refine w_reg ?_
  refine s_do (o_mov (.int .i64 0) rfl) ?_
  refine w_done ?_
  refine k_seq ?_
  refine awp_seq ?_
  refine awp_seq ?_
  refine w_reg ?_
  refine s_do (o_mov (.bool b_1) rfl) ?_
  refine w_done ?_
  refine k_seq ?_
  rcases oi hf with ⟨c2, hf⟩ | ⟨c2, hf⟩
  · refine w_condt rfl c2 ?_
    refine awp_seq ?_
    refine w_reg ?_
    refine s_do (o_mov (.int .i64 1) rfl) ?_
    refine w_done ?_
    refine k_seq ?_
    refine w_ret ?_
    obtain rfl := os hf
    exact r_flat ⟨trivial, trivial⟩ rfl (.refl _)
  · refine w_condf rfl (bf c2) ?_
    refine w_skip ?_
    refine k_seq ?_
    refine awp_seq ?_
    refine w_reg ?_
    refine s_do (o_mov (.int .i64 0) rfl) ?_
    refine w_done ?_
    refine k_seq ?_
    refine w_ret ?_
    obtain rfl := os hf
    exact r_flat ⟨trivial, trivial⟩ rfl (.refl _)

/- spec.l03Order -/
def c110 : ACode :=
 (.seq (.reg (.q ⟨(some 2), none, .box 3 (.t 0)⟩
 (.q ⟨(some 3), none, .box 3 (.t 1)⟩
 (.q ⟨(some 4), none, .mov (.c (.int .i64 0))⟩
 .done))))
 (.seq (.block 0 (.seq (.reg (.q ⟨(some 6), none, .faddr 0 (.t 2)⟩
 (.q ⟨(some 7), none, .load 1 false (.t 6)⟩
 (.q ⟨(some 8), none, .faddr 0 (.t 3)⟩
 (.q ⟨(some 9), none, .load 1 false (.t 8)⟩
 (.q ⟨(some 10), none, .bin .neq (.t 7) (.t 9)⟩
 (.q ⟨(some 5), none, .mov (.t 10)⟩
 .done)))))))
 (.cond (.t 5) (.seq (.reg (.q ⟨(some 11), none, .faddr 0 (.t 2)⟩
 (.q ⟨(some 12), none, .load 1 false (.t 11)⟩
 (.q ⟨(some 13), none, .faddr 0 (.t 3)⟩
 (.q ⟨(some 14), none, .load 1 false (.t 13)⟩
 (.q ⟨(some 15), none, .bin .lss (.t 12) (.t 14)⟩
 (.q ⟨(some 16), none, .call 128 [(.t 15)]⟩
 (.q ⟨(some 17), none, .bin .mul (.c (.int .i64 2)) (.t 16)⟩
 (.q ⟨(some 18), none, .bin .sub (.c (.int .i64 1)) (.t 17)⟩
 (.q ⟨(some 4), none, .mov (.t 18)⟩
 .done))))))))))
 .ret)
 (.seq (.reg (.q ⟨(some 20), none, .faddr 1 (.t 2)⟩
 (.q ⟨(some 21), none, .load 1 false (.t 20)⟩
 (.q ⟨(some 22), none, .faddr 1 (.t 3)⟩
 (.q ⟨(some 23), none, .load 1 false (.t 22)⟩
 (.q ⟨(some 24), none, .bin .neq (.t 21) (.t 23)⟩
 (.q ⟨(some 19), none, .mov (.t 24)⟩
 .done)))))))
 (.cond (.t 19) (.seq (.reg (.q ⟨(some 25), none, .faddr 1 (.t 2)⟩
 (.q ⟨(some 26), none, .load 1 false (.t 25)⟩
 (.q ⟨(some 27), none, .faddr 1 (.t 3)⟩
 (.q ⟨(some 28), none, .load 1 false (.t 27)⟩
 (.q ⟨(some 29), none, .bin .lss (.t 26) (.t 28)⟩
 (.q ⟨(some 30), none, .call 128 [(.t 29)]⟩
 (.q ⟨(some 31), none, .bin .mul (.c (.int .i64 2)) (.t 30)⟩
 (.q ⟨(some 32), none, .bin .sub (.c (.int .i64 1)) (.t 31)⟩
 (.q ⟨(some 4), none, .mov (.t 32)⟩
 .done))))))))))
 .ret)
 (.seq (.reg (.q ⟨(some 34), none, .faddr 2 (.t 2)⟩
 (.q ⟨(some 35), none, .load 1 false (.t 34)⟩
 (.q ⟨(some 36), none, .faddr 2 (.t 3)⟩
 (.q ⟨(some 37), none, .load 1 false (.t 36)⟩
 (.q ⟨(some 38), none, .bin .neq (.t 35) (.t 37)⟩
 (.q ⟨(some 33), none, .mov (.t 38)⟩
 .done)))))))
 (.cond (.t 33) (.seq (.reg (.q ⟨(some 39), none, .faddr 2 (.t 2)⟩
 (.q ⟨(some 40), none, .load 1 false (.t 39)⟩
 (.q ⟨(some 41), none, .faddr 2 (.t 3)⟩
 (.q ⟨(some 42), none, .load 1 false (.t 41)⟩
 (.q ⟨(some 43), none, .bin .lss (.t 40) (.t 42)⟩
 (.q ⟨(some 44), none, .call 128 [(.t 43)]⟩
 (.q ⟨(some 45), none, .bin .mul (.c (.int .i64 2)) (.t 44)⟩
 (.q ⟨(some 46), none, .bin .sub (.c (.int .i64 1)) (.t 45)⟩
 (.q ⟨(some 4), none, .mov (.t 46)⟩
 .done))))))))))
 .ret)
 .skip)))))))
 (.seq (.reg (.q ⟨(some 4), none, .mov (.c (.int .i64 0))⟩
 .done))
 .ret)))
theorem fc110 : fcomp Try.prog Try.f110 = some (c110.erase, [.mov (.t 4)], 47) := by kernel_rfl
def spec_l03Order (a_1 : GAtom) (b_2 : GAtom) : Option Int :=
    if (a_1.Kind != b_2.Kind) then
    (spec_l01Bit (decide (a_1.Kind < b_2.Kind))).bind fun r_4 =>
    some (w64 (1 - (w64 (2 * r_4))))
    else
    if (a_1.N != b_2.N) then
    (spec_l01Bit (decide (a_1.N < b_2.N))).bind fun r_7 =>
    some (w64 (1 - (w64 (2 * r_7))))
    else
    if (!(a_1.T == b_2.T)) then
    (spec_l01Bit (Op.bytesLess a_1.T b_2.T)).bind fun r_10 =>
    some (w64 (1 - (w64 (2 * r_10))))
    else
    some 0
theorem w_spec_l03Order (a_1 : GAtom) (b_2 : GAtom) (r : Int) (hf : spec_l03Order a_1 b_2 = some r) : CallOK Try.prog 110 .flat [(encGAtom a_1), (encGAtom b_2)] (.int .i64 r) := by
 refine CallOK.of_awp mixed Try.func110 fc110 nle ?_; rw [argT_eq]; unfold spec_l03Order at hf; unfold c110; refine (show awp Try.prog false 0 _ (ofL [(0, (encGAtom a_1)), (1, (encGAtom b_2))]) [] _ from ?_); refine awp_seq ?_; refine w_reg ?_; refine s_do (o_box (j := 0) (c := (.agg [(.int .i64 a_1.Kind), (.int .i64 a_1.N), (.str a_1.T)])) rfl trivial rfl rfl) ?_; refine s_do (o_box (j := 1) (c := (.agg [(.int .i64 b_2.Kind), (.int .i64 b_2.N), (.str b_2.T)])) rfl trivial rfl rfl) ?_; refine s_do (o_mov (.int .i64 0) rfl) ?_; refine w_done ?_; refine k_seq ?_; refine awp_seq ?_; refine w_blk ?_
 refine awp_seq ?_; refine w_reg ?_; refine s_do (o_q (.ptr 0 0 0) rfl trivial rfl) ?_; refine s_do (o_q (.int .i64 a_1.Kind) rfl nle rfl) ?_; refine s_do (o_q (.ptr 1 0 0) rfl trivial rfl) ?_; refine s_do (o_q (.int .i64 b_2.Kind) rfl nle rfl) ?_; refine s_do (o_q (.bool (a_1.Kind != b_2.Kind)) rfl rfl rfl) ?_; refine s_do (o_mov (.bool (a_1.Kind != b_2.Kind)) rfl) ?_; refine w_done ?_; refine k_seq ?_
 rcases oi hf with ⟨c3, hf⟩ | ⟨c3, hf⟩
 ·refine w_condt rfl c3 ?_; refine awp_seq ?_; refine w_reg ?_
  obtain ⟨r_4, er5, hf⟩ := ob hf
  refine s_do (o_q (.ptr 0 0 0) rfl trivial rfl) ?_; refine s_do (o_q (.int .i64 a_1.Kind) rfl nle rfl) ?_; refine s_do (o_q (.ptr 1 0 0) rfl trivial rfl) ?_; refine s_do (o_q (.int .i64 b_2.Kind) rfl nle rfl) ?_; refine s_do (o_q (.bool (decide (a_1.Kind < b_2.Kind))) rfl rfl rfl) ?_; refine s_do (o_call (w_spec_l01Bit _ _ er5) rfl (.refl _) rfl) ?_; refine s_do (o_q (.int .i64 (w64 (2 * r_4))) rfl rfl rfl) ?_; refine s_do (o_q (.int .i64 (w64 (1 - (w64 (2 * r_4))))) rfl rfl rfl) ?_; refine s_do (o_mov (.int .i64 (w64 (1 - (w64 (2 * r_4))))) rfl) ?_; refine w_done ?_; refine k_seq ?_; refine w_ret ?_
  obtain rfl := os hf; exact r_flat ⟨trivial, trivial⟩ rfl (.refl _)
 ·refine w_condf rfl (bf c3) ?_; refine awp_seq ?_; refine w_reg ?_; refine s_do (o_q (.ptr 0 0 1) rfl trivial rfl) ?_; refine s_do (o_q (.int .i64 a_1.N) rfl nle rfl) ?_; refine s_do (o_q (.ptr 1 0 1) rfl trivial rfl) ?_; refine s_do (o_q (.int .i64 b_2.N) rfl nle rfl) ?_; refine s_do (o_q (.bool (a_1.N != b_2.N)) rfl rfl rfl) ?_; refine s_do (o_mov (.bool (a_1.N != b_2.N)) rfl) ?_; refine w_done ?_; refine k_seq ?_
  rcases oi hf with ⟨c6, hf⟩ | ⟨c6, hf⟩
  ·refine w_condt rfl c6 ?_; refine awp_seq ?_; refine w_reg ?_
   obtain ⟨r_7, er8, hf⟩ := ob hf
   refine s_do (o_q (.ptr 0 0 1) rfl trivial rfl) ?_; refine s_do (o_q (.int .i64 a_1.N) rfl nle rfl) ?_; refine s_do (o_q (.ptr 1 0 1) rfl trivial rfl) ?_; refine s_do (o_q (.int .i64 b_2.N) rfl nle rfl) ?_; refine s_do (o_q (.bool (decide (a_1.N < b_2.N))) rfl rfl rfl) ?_; refine s_do (o_call (w_spec_l01Bit _ _ er8) rfl (.refl _) rfl) ?_; refine s_do (o_q (.int .i64 (w64 (2 * r_7))) rfl rfl rfl) ?_; refine s_do (o_q (.int .i64 (w64 (1 - (w64 (2 * r_7))))) rfl rfl rfl) ?_; refine s_do (o_mov (.int .i64 (w64 (1 - (w64 (2 * r_7))))) rfl) ?_; refine w_done ?_; refine k_seq ?_; refine w_ret ?_; obtain rfl := os hf
   exact r_flat ⟨trivial, trivial⟩ rfl (.refl _)
  ·refine w_condf rfl (bf c6) ?_; refine awp_seq ?_; refine w_reg ?_; refine s_do (o_q (.ptr 0 0 2) rfl trivial rfl) ?_; refine s_do (o_q (.str a_1.T) rfl nle rfl) ?_; refine s_do (o_q (.ptr 1 0 2) rfl trivial rfl) ?_; refine s_do (o_q (.str b_2.T) rfl nle rfl) ?_; refine s_do (o_q (.bool (!(a_1.T == b_2.T))) rfl trivial rfl) ?_; refine s_do (o_mov (.bool (!(a_1.T == b_2.T))) rfl) ?_; refine w_done ?_; refine k_seq ?_
   rcases oi hf with ⟨c9, hf⟩ | ⟨c9, hf⟩
   ·refine w_condt rfl c9 ?_; refine awp_seq ?_; refine w_reg ?_
    obtain ⟨r_10, er11, hf⟩ := ob hf
    refine s_do (o_q (.ptr 0 0 2) rfl trivial rfl) ?_; refine s_do (o_q (.str a_1.T) rfl nle rfl) ?_; refine s_do (o_q (.ptr 1 0 2) rfl trivial rfl) ?_; refine s_do (o_q (.str b_2.T) rfl nle rfl) ?_; refine s_do (o_q (.bool (Op.bytesLess a_1.T b_2.T)) rfl trivial rfl) ?_; refine s_do (o_call (w_spec_l01Bit _ _ er11) rfl (.refl _) rfl) ?_; refine s_do (o_q (.int .i64 (w64 (2 * r_10))) rfl rfl rfl) ?_; refine s_do (o_q (.int .i64 (w64 (1 - (w64 (2 * r_10))))) rfl rfl rfl) ?_; refine s_do (o_mov (.int .i64 (w64 (1 - (w64 (2 * r_10))))) rfl) ?_; refine w_done ?_; refine k_seq ?_; refine w_ret ?_; obtain rfl := os hf
    exact r_flat ⟨trivial, trivial⟩ rfl (.refl _)
   ·refine w_condf rfl (bf c9) ?_; refine w_skip ?_; refine k_blk ?_; refine k_seq ?_; refine awp_seq ?_; refine w_reg ?_; refine s_do (o_mov (.int .i64 0) rfl) ?_; refine w_done ?_; refine k_seq ?_; refine w_ret ?_; obtain rfl := os hf; exact r_flat ⟨trivial, trivial⟩ rfl (.refl _)

/- spec.DatumOK -/
def c69 : ACode :=
 (.seq (.reg (.q ⟨(some 2), none, .mov (.c (.bool false))⟩
 .done))
 (.seq (.seq (.reg (.q ⟨(some 4), none, .mov (.t 0)⟩
 (.q ⟨(some 5), none, .len (.t 4)⟩
 (.q ⟨(some 6), none, .bin .gtr (.t 5) (.c (.int .i64 4096))⟩
 .done))))
 (.cond (.t 6) (.seq (.reg (.q ⟨(some 2), none, .mov (.c (.bool false))⟩
 .done))
 .ret)
 .skip))
 (.seq (.seq (.reg (.q ⟨(some 3), none, .mov (.c (.int .i64 0))⟩
 .done))
 (.block 0 (.loop (.seq (.seq (.reg (.q ⟨(some 7), none, .mov (.t 3)⟩
 (.q ⟨(some 8), none, .mov (.t 0)⟩
 (.q ⟨(some 9), none, .len (.t 8)⟩
 (.q ⟨(some 10), none, .bin .lss (.t 7) (.t 9)⟩
 .done)))))
 (.cond (.t 10) .skip
 (.exit 0)))
 (.seq (.block 1 (.seq (.reg (.q ⟨(some 13), none, .mov (.t 0)⟩
 (.q ⟨(some 14), none, .mov (.t 3)⟩
 (.q ⟨(some 15), none, .iaddr 3 (.t 13) (.t 14)⟩
 (.q ⟨(some 16), none, .load 3 true (.t 15)⟩
 (.l ⟨(some 17), none, .call 109 [(.t 16)]⟩ []
 (.q ⟨(some 18), none, .not (.t 17)⟩
 (.q ⟨(some 19), none, .mov (.t 18)⟩
 (.q ⟨(some 20), (some (19, false)), .mov (.t 0)⟩
 (.q ⟨(some 21), (some (19, false)), .mov (.t 3)⟩
 (.q ⟨(some 22), (some (19, false)), .iaddr 3 (.t 20) (.t 21)⟩
 (.q ⟨(some 23), (some (19, false)), .faddr 0 (.t 22)⟩
 (.q ⟨(some 24), (some (19, false)), .load 1 false (.t 23)⟩
 (.q ⟨(some 25), (some (19, false)), .mov (.t 0)⟩
 (.q ⟨(some 26), (some (19, false)), .iaddr 3 (.t 25) (.c (.int .i64 0))⟩
 (.q ⟨(some 27), (some (19, false)), .faddr 0 (.t 26)⟩
 (.q ⟨(some 28), (some (19, false)), .load 1 false (.t 27)⟩
 (.q ⟨(some 29), (some (19, false)), .bin .neq (.t 24) (.t 28)⟩
 (.q ⟨(some 30), none, .pick (.t 19) (.c (.bool true)) (.t 29)⟩
 (.q ⟨(some 31), none, .mov (.t 30)⟩
 (.q ⟨(some 32), (some (31, false)), .mov (.t 3)⟩
 (.q ⟨(some 33), (some (31, false)), .bin .gtr (.t 32) (.c (.int .i64 0))⟩
 (.q ⟨(some 34), (some (31, false)), .mov (.t 33)⟩
 (.q ⟨(some 35), (some (34, true)), .mov (.t 0)⟩
 (.q ⟨(some 36), (some (34, true)), .mov (.t 3)⟩
 (.q ⟨(some 37), (some (34, true)), .bin .sub (.t 36) (.c (.int .i64 1))⟩
 (.q ⟨(some 38), (some (34, true)), .iaddr 3 (.t 35) (.t 37)⟩
 (.q ⟨(some 39), (some (34, true)), .load 3 true (.t 38)⟩
 (.q ⟨(some 40), (some (34, true)), .mov (.t 0)⟩
 (.q ⟨(some 41), (some (34, true)), .mov (.t 3)⟩
 (.q ⟨(some 42), (some (34, true)), .iaddr 3 (.t 40) (.t 41)⟩
 (.q ⟨(some 43), (some (34, true)), .load 3 true (.t 42)⟩
 (.l ⟨(some 44), (some (34, true)), .call 110 [(.t 39), (.t 43)]⟩ []
 (.q ⟨(some 45), (some (34, true)), .bin .geq (.t 44) (.c (.int .i64 0))⟩
 (.q ⟨(some 46), (some (31, false)), .pick (.t 34) (.t 45) (.c (.bool false))⟩
 (.q ⟨(some 47), none, .pick (.t 31) (.c (.bool true)) (.t 46)⟩
 .done))) .non))))))))))))))))))))))))))) .non))))))
 (.cut (.cond (.t 47) (.seq (.reg (.q ⟨(some 2), none, .mov (.c (.bool false))⟩
 .done))
 .ret)
 .skip))))
 (.reg (.q ⟨(some 11), none, .mov (.t 3)⟩
 (.q ⟨(some 12), none, .bin .add (.t 11) (.c (.int .i64 1))⟩
 (.q ⟨(some 3), none, .mov (.t 12)⟩
 .done)))))))))
 (.cut (.seq (.reg (.q ⟨(some 48), none, .mov (.t 0)⟩
 (.q ⟨(some 49), none, .len (.t 48)⟩
 (.q ⟨(some 50), none, .bin .leq (.t 49) (.c (.int .i64 8))⟩
 (.q ⟨(some 2), none, .mov (.t 50)⟩
 .done)))))
 .ret)))))
theorem fc69 : fcomp Try.prog Try.f69 = some (c69.erase, [.mov (.t 2)], 51) := by kernel_rfl
def spec_DatumOK_L1 (d_1 : (List GAtom)) : List GAtom → Nat → Option (Fl Bool Unit)
  | [], i_83 =>
    some (.go ())
  | x_131 :: xs, i_83 =>
    (((spec_AtomOK x_131).bind fun r_147 =>
    if (!r_147) then
    some true
    else
    (idx d_1 0).bind fun x_150 =>
    if (x_131.Kind != x_150.Kind) then
    some true
    else
    if (decide ((i_83 : Int) > 0)) then
    (idx d_1 (w64 ((i_83 : Int) - 1))).bind fun x_154 =>
    (spec_l03Order x_154 x_131).bind fun r_156 =>
    some (decide (r_156 ≥ 0))
    else
    some false : Option Bool)).bind fun s47_145 =>
    if s47_145 then
    some (.ret false)
    else
    spec_DatumOK_L1 d_1 xs (i_83 + 1)

def spec_DatumOK (d_1 : (List GAtom)) : Option Bool :=
    if (decide ((d_1.length : Int) > 4096)) then
    some false
    else
    (spec_DatumOK_L1 d_1 d_1 0).bind fun q => (match q with
    | .ret r => some r
    | .go _ =>
    some (decide ((d_1.length : Int) ≤ 8)))
theorem w_spec_DatumOK (d_1 : (List GAtom)) (r : Bool) (hf : spec_DatumOK d_1 = some r) : CallOK Try.prog 69 .flat [(.lst 3 (d_1.map encGAtom))] (.bool r) := by
 refine CallOK.of_awp mixed Try.func69 fc69 nle ?_; rw [argT_eq]; unfold spec_DatumOK at hf; unfold c69; refine (show awp Try.prog false 0 _ (ofL [(0, (.lst 3 (d_1.map encGAtom)))]) [] _ from ?_); refine awp_seq ?_; refine w_reg ?_; refine s_do (o_mov (.bool false) rfl) ?_; refine w_done ?_; refine k_seq ?_; refine awp_seq ?_; refine awp_seq ?_; refine w_reg ?_; refine s_do (o_mov (.lst 3 (d_1.map encGAtom)) rfl) ?_; refine s_dof (o_len (enc := encGAtom) rfl) fun hl2 => ?_; refine s_do (o_q (.bool (decide ((d_1.length : Int) > 4096))) rfl rfl rfl) ?_; refine w_done ?_; refine k_seq ?_
 rcases oi hf with ⟨c3, hf⟩ | ⟨c3, hf⟩
 ·refine w_condt rfl c3 ?_; refine awp_seq ?_; refine w_reg ?_; refine s_do (o_mov (.bool false) rfl) ?_; refine w_done ?_; refine k_seq ?_; refine w_ret ?_; obtain rfl := os hf; exact r_flat ⟨trivial, trivial⟩ rfl (.refl _)
 ·refine w_condf rfl (bf c3) ?_; refine w_skip ?_; refine k_seq ?_; refine awp_seq ?_; refine awp_seq ?_; refine w_reg ?_; refine s_do (o_mov (.int .i64 0) rfl) ?_; refine w_done ?_; refine k_seq ?_
  obtain ⟨p124, hb1, hf⟩ := ob hf
  refine awp_cutx (X := {q : Unit // p124 = .go q}) (fun q => ([(0, (.lst 3 (d_1.map encGAtom)))], [])) ?_ ?_
  ·refine awp_loop (X := {q : Nat // spec_DatumOK_L1 d_1 (d_1.drop q) q = some p124}) (fun q => ([(0, (.lst 3 (d_1.map encGAtom))), (3, (.int .i64 (q.1 : Int)))], [])) (fun q => d_1.length - q.1) ⟨0, hb1⟩ ⟨[], [], _, _, rfl, rfl, ⟨.refl _, ⟨.refl _, trivial⟩⟩, (.refl _)⟩ ?_
   rintro ⟨i_83, hc1⟩
   have hc1 : spec_DatumOK_L1 d_1 (d_1.drop i_83) i_83 = some p124 := hc1
   refine (show awp Try.prog false 0 _ (ofL [(0, (.lst 3 (d_1.map encGAtom))), (3, (.int .i64 (i_83 : Int)))]) [] _ from ?_)
   rcases dropc d_1 i_83 with ⟨hie127, hd130⟩ | ⟨hlt125, x_131, hx126, hd130⟩
   ·rw [hd130, spec_DatumOK_L1.eq_1] at hc1
    have hq129 := dlf hie127
    refine awp_seq ?_; refine awp_seq ?_; refine w_reg ?_; refine s_do (o_mov (.int .i64 (i_83 : Int)) rfl) ?_; refine s_do (o_mov (.lst 3 (d_1.map encGAtom)) rfl) ?_; refine s_dof (o_len (enc := encGAtom) rfl) fun hl132 => ?_; refine s_do (o_q (.bool (decide ((i_83 : Int) < (d_1.length : Int)))) rfl rfl rfl) ?_; refine w_done ?_; refine k_seq ?_; refine w_condf rfl hq129 ?_; refine w_exit ?_; refine k_seqx ?_; refine k_loopx ?_; refine k_blkx ?_; obtain rfl := os hc1; exact k_cutn ⟨_, rfl⟩ ⟨[], [], _, _, rfl, rfl, ⟨.refl _, trivial⟩, (.refl _)⟩
   ·rw [hd130, spec_DatumOK_L1.eq_2] at hc1
    have hq129 := dlt hlt125
    refine awp_seq ?_; refine awp_seq ?_; refine w_reg ?_; refine s_do (o_mov (.int .i64 (i_83 : Int)) rfl) ?_; refine s_do (o_mov (.lst 3 (d_1.map encGAtom)) rfl) ?_; refine s_dof (o_len (enc := encGAtom) rfl) fun hl133 => ?_; refine s_do (o_q (.bool (decide ((i_83 : Int) < (d_1.length : Int)))) rfl rfl rfl) ?_; refine w_done ?_; refine k_seq ?_; refine w_condt rfl hq129 ?_; refine w_skip ?_; refine k_seq ?_; refine awp_seq ?_; refine w_blk ?_; refine awp_seq ?_
    obtain ⟨s47_145, hb2, hc1⟩ := ob hc1
    refine awp_cut ([(0, (.lst 3 (d_1.map encGAtom))), (3, (.int .i64 (i_83 : Int))), (47, (.bool s47_145))], []) ?_ ?_
    ·refine w_reg ?_; refine s_do (o_mov (.lst 3 (d_1.map encGAtom)) rfl) ?_; refine s_do (o_mov (.int .i64 (i_83 : Int)) rfl) ?_; refine s_do (o_iaddrn (enc := encGAtom) rfl rfl hx126) ?_; refine s_do (o_q (encGAtom x_131) rfl nle rfl) ?_
     obtain ⟨r_147, er148, hb2⟩ := ob hb2
     refine s_dol (o_call (w_spec_AtomOK _ _ er148) rfl (.refl _) rfl) a_same trivial ?_; refine s_do (o_q (.bool (!r_147)) rfl trivial rfl) ?_; refine s_do (o_mov (.bool (!r_147)) rfl) ?_
     rcases oi hb2 with ⟨c149, hb2⟩ | ⟨c149, hb2⟩
     ·refine s_lit (s := 19) (b := true) rfl c149 ?_; refine s_off rfl rfl ?_; refine s_off rfl rfl ?_; refine s_off rfl rfl ?_; refine s_off rfl rfl ?_; refine s_off rfl rfl ?_; refine s_off rfl rfl ?_; refine s_off rfl rfl ?_; refine s_off rfl rfl ?_; refine s_off rfl rfl ?_; refine s_off rfl rfl ?_; refine s_do (o_q (.bool true) rfl trivial rfl) ?_; refine s_do (o_mov (.bool true) rfl) ?_; refine s_off rfl rfl ?_; refine s_off rfl rfl ?_; refine s_off rfl rfl ?_; refine s_offs rfl ?_; refine s_offs rfl ?_; refine s_offs rfl ?_; refine s_offs rfl ?_; refine s_offs rfl ?_; refine s_offs rfl ?_; refine s_offs rfl ?_
      refine s_offs rfl ?_; refine s_offs rfl ?_; refine s_offsl rfl trivial ?_; refine s_offs rfl ?_; refine s_off rfl rfl ?_; refine s_do (o_q (.bool true) rfl trivial rfl) ?_; refine w_done ?_; obtain rfl := os hb2; exact ⟨[], [], _, _, rfl, rfl, ⟨.refl _, ⟨.refl _, ⟨.refl _, trivial⟩⟩⟩, (.refl _)⟩
     ·refine s_lit (s := 19) (b := false) rfl (bf c149) ?_; refine s_on rfl ?_; refine s_do (o_mov (.lst 3 (d_1.map encGAtom)) rfl) ?_; refine s_on rfl ?_; refine s_do (o_mov (.int .i64 (i_83 : Int)) rfl) ?_; refine s_on rfl ?_; refine s_do (o_iaddrn (enc := encGAtom) rfl rfl hx126) ?_; refine s_on rfl ?_; refine s_do (o_q (.iptr (encGAtom x_131) 0) rfl trivial rfl) ?_; refine s_on rfl ?_; refine s_do (o_q (.int .i64 x_131.Kind) rfl nle rfl) ?_; refine s_on rfl ?_; refine s_do (o_mov (.lst 3 (d_1.map encGAtom)) rfl) ?_; refine s_on rfl ?_
      obtain ⟨x_150, ex151, hb2⟩ := ob hb2
      refine s_do (o_iaddr (enc := encGAtom) rfl rfl (idx0 ex151) (idx1 ex151)) ?_; refine s_on rfl ?_; refine s_do (o_q (.iptr (encGAtom x_150) 0) rfl trivial rfl) ?_; refine s_on rfl ?_; refine s_do (o_q (.int .i64 x_150.Kind) rfl nle rfl) ?_; refine s_on rfl ?_; refine s_do (o_q (.bool (x_131.Kind != x_150.Kind)) rfl rfl rfl) ?_; refine s_do (o_q (.bool (x_131.Kind != x_150.Kind)) rfl trivial rfl) ?_; refine s_do (o_mov (.bool (x_131.Kind != x_150.Kind)) rfl) ?_
      rcases oi hb2 with ⟨c152, hb2⟩ | ⟨c152, hb2⟩
      ·refine s_lit (s := 31) (b := true) rfl c152 ?_; refine s_off rfl rfl ?_; refine s_off rfl rfl ?_; refine s_off rfl rfl ?_; refine s_offs rfl ?_; refine s_offs rfl ?_; refine s_offs rfl ?_; refine s_offs rfl ?_; refine s_offs rfl ?_; refine s_offs rfl ?_; refine s_offs rfl ?_; refine s_offs rfl ?_; refine s_offs rfl ?_; refine s_offsl rfl trivial ?_; refine s_offs rfl ?_; refine s_off rfl rfl ?_; refine s_do (o_q (.bool true) rfl trivial rfl) ?_; refine w_done ?_; obtain rfl := os hb2; exact ⟨[], [], _, _, rfl, rfl, ⟨.refl _, ⟨.refl _, ⟨.refl _, trivial⟩⟩⟩, (.refl _)⟩
      ·refine s_lit (s := 31) (b := false) rfl (bf c152) ?_; refine s_on rfl ?_; refine s_do (o_mov (.int .i64 (i_83 : Int)) rfl) ?_; refine s_on rfl ?_; refine s_do (o_q (.bool (decide ((i_83 : Int) > 0))) rfl rfl rfl) ?_; refine s_on rfl ?_; refine s_do (o_mov (.bool (decide ((i_83 : Int) > 0))) rfl) ?_
       rcases oi hb2 with ⟨c153, hb2⟩ | ⟨c153, hb2⟩
       ·refine s_lit (s := 34) (b := true) rfl c153 ?_; refine s_on rfl ?_; refine s_do (o_mov (.lst 3 (d_1.map encGAtom)) rfl) ?_; refine s_on rfl ?_; refine s_do (o_mov (.int .i64 (i_83 : Int)) rfl) ?_; refine s_on rfl ?_; refine s_do (o_q (.int .i64 (w64 ((i_83 : Int) - 1))) rfl rfl rfl) ?_; refine s_on rfl ?_
        obtain ⟨x_154, ex155, hb2⟩ := ob hb2
        refine s_do (o_iaddr (enc := encGAtom) rfl rfl (idx0 ex155) (idx1 ex155)) ?_; refine s_on rfl ?_; refine s_do (o_q (encGAtom x_154) rfl nle rfl) ?_; refine s_on rfl ?_; refine s_do (o_mov (.lst 3 (d_1.map encGAtom)) rfl) ?_; refine s_on rfl ?_; refine s_do (o_mov (.int .i64 (i_83 : Int)) rfl) ?_; refine s_on rfl ?_; refine s_do (o_iaddrn (enc := encGAtom) rfl rfl hx126) ?_; refine s_on rfl ?_; refine s_do (o_q (encGAtom x_131) rfl nle rfl) ?_; refine s_onl rfl ?_
        obtain ⟨r_156, er157, hb2⟩ := ob hb2
        refine s_dol (o_call (w_spec_l03Order _ _ _ er157) rfl (.refl _) rfl) a_same trivial ?_; refine s_on rfl ?_; refine s_do (o_q (.bool (decide (r_156 ≥ 0))) rfl rfl rfl) ?_; refine s_on rfl ?_; refine s_do (o_q (.bool (decide (r_156 ≥ 0))) rfl trivial rfl) ?_; refine s_do (o_q (.bool (decide (r_156 ≥ 0))) rfl trivial rfl) ?_; refine w_done ?_; obtain rfl := os hb2; exact ⟨[], [], _, _, rfl, rfl, ⟨.refl _, ⟨.refl _, ⟨.refl _, trivial⟩⟩⟩, (.refl _)⟩
       ·refine s_lit (s := 34) (b := false) rfl (bf c153) ?_; refine s_off rfl rfl ?_; refine s_off rfl rfl ?_; refine s_off rfl rfl ?_; refine s_off rfl rfl ?_; refine s_off rfl rfl ?_; refine s_off rfl rfl ?_; refine s_off rfl rfl ?_; refine s_off rfl rfl ?_; refine s_off rfl rfl ?_; refine s_offl rfl rfl trivial ?_; refine s_off rfl rfl ?_; refine s_on rfl ?_; refine s_do (o_q (.bool false) rfl trivial rfl) ?_; refine s_do (o_q (.bool false) rfl trivial rfl) ?_; refine w_done ?_; obtain rfl := os hb2; exact ⟨[], [], _, _, rfl, rfl, ⟨.refl _, ⟨.refl _, ⟨.refl _, trivial⟩⟩⟩, (.refl _)⟩
    ·rcases oi hc1 with ⟨c158, hc1⟩ | ⟨c158, hc1⟩
     ·refine w_condt rfl c158 ?_; refine awp_seq ?_; refine w_reg ?_; refine s_do (o_mov (.bool false) rfl) ?_; refine w_done ?_; refine k_seq ?_; refine w_ret ?_; obtain rfl := os hc1; obtain rfl := os hf; exact r_flat ⟨trivial, trivial⟩ rfl (.refl _)
     ·refine w_condf rfl (bf c158) ?_; refine w_skip ?_; refine k_blk ?_; refine k_seq ?_; refine w_reg ?_; refine s_do (o_mov (.int .i64 (i_83 : Int)) rfl) ?_; refine s_do (o_q (.int .i64 (w64 ((i_83 : Int) + 1))) rfl rfl rfl) ?_; refine s_do (o_mov (.int .i64 (w64 ((i_83 : Int) + 1))) rfl) ?_; refine w_done ?_; exact k_loopn ⟨(i_83 + 1), hc1⟩ (mul hlt125) ⟨[], [], _, _, rfl, rfl, ⟨.refl _, ⟨.of_eq (congrArg (AV.int _) (w64_incr hlt125 hl133)), trivial⟩⟩, (.refl _)⟩
  ·rintro ⟨_, rfl⟩
   refine awp_seq ?_; refine w_reg ?_; refine s_do (o_mov (.lst 3 (d_1.map encGAtom)) rfl) ?_; refine s_dof (o_len (enc := encGAtom) rfl) fun hl159 => ?_; refine s_do (o_q (.bool (decide ((d_1.length : Int) ≤ 8))) rfl rfl rfl) ?_; refine s_do (o_mov (.bool (decide ((d_1.length : Int) ≤ 8))) rfl) ?_; refine w_done ?_; refine k_seq ?_; refine w_ret ?_; obtain rfl := os hf; exact r_flat ⟨trivial, trivial⟩ rfl (.refl _)

/- spec.l06OK -/
def c67 : ACode :=
 (.seq (.reg (.q ⟨(some 1), none, .box 3 (.t 0)⟩
 (.q ⟨(some 2), none, .mov (.c (.bool false))⟩
 .done)))
 (.seq (.reg (.q ⟨(some 3), none, .faddr 1 (.t 1)⟩
 (.q ⟨(some 4), none, .load 1 false (.t 3)⟩
 (.q ⟨(some 5), none, .call 28 [(.t 4), (.c (.int .i64 1)), (.c (.int .i64 8))]⟩
 (.q ⟨(some 6), none, .mov (.t 5)⟩
 (.q ⟨(some 7), (some (6, true)), .faddr 2 (.t 1)⟩
 (.q ⟨(some 8), (some (6, true)), .load 1 false (.t 7)⟩
 (.q ⟨(some 9), (some (6, true)), .call 69 [(.t 8)]⟩
 (.q ⟨(some 10), none, .pick (.t 6) (.t 9) (.c (.bool false))⟩
 (.q ⟨(some 11), none, .mov (.t 10)⟩
 (.q ⟨(some 12), (some (11, true)), .faddr 0 (.t 1)⟩
 (.q ⟨(some 13), (some (11, true)), .load 1 false (.t 12)⟩
 (.q ⟨(some 14), (some (11, true)), .lenS (.t 13)⟩
 (.q ⟨(some 15), (some (11, true)), .bin .leq (.t 14) (.c (.int .i64 40))⟩
 (.q ⟨(some 16), none, .pick (.t 11) (.t 15) (.c (.bool false))⟩
 (.q ⟨(some 2), none, .mov (.t 16)⟩
 .done))))))))))))))))
 .ret))
theorem fc67 : fcomp Try.prog Try.f67 = some (c67.erase, [.mov (.t 2)], 17) := by kernel_rfl
def spec_l06OK (c_1 : GCond) : Option Bool :=
    (spec_l01In c_1.Func 1 8).bind fun r_2 =>
    if r_2 then
    (spec_DatumOK c_1.Value).bind fun r_5 =>
    if r_5 then
    some (decide ((c_1.Column.length : Int) ≤ 40))
    else
    some false
    else
    some false
theorem w_spec_l06OK (c_1 : GCond) (r : Bool) (hf : spec_l06OK c_1 = some r) : CallOK Try.prog 67 .flat [(encGCond c_1)] (.bool r) := by
  refine CallOK.of_awp mixed Try.func67 fc67 nle ?_
  rw [argT_eq]
  unfold spec_l06OK at hf
  unfold c67
  refine (show awp Try.prog false 0 _ (ofL [(0, (encGCond c_1))]) [] _ from ?_)
  refine awp_seq ?_
  refine w_reg ?_
  refine s_do (o_box (j := 0) (c := (.agg [(.str c_1.Column), (.int .i64 c_1.Func), (.lst 3 (c_1.Value.map encGAtom))])) rfl trivial rfl rfl) ?_
  refine s_do (o_mov (.bool false) rfl) ?_
  refine w_done ?_
  refine k_seq ?_
  refine awp_seq ?_
  refine w_reg ?_
  refine s_do (o_q (.ptr 0 0 1) rfl trivial rfl) ?_
  refine s_do (o_q (.int .i64 c_1.Func) rfl nle rfl) ?_
  obtain ⟨r_2, er3, hf⟩ := ob hf
  refine s_do (o_call (w_spec_l01In _ _ _ _ er3) rfl (.refl _) rfl) ?_
  refine s_do (o_mov (.bool r_2) rfl) ?_
  rcases oi hf with ⟨c4, hf⟩ | ⟨c4, hf⟩
  · refine s_lit (s := 6) (b := true) rfl c4 ?_
    refine s_on rfl ?_
    refine s_do (o_q (.ptr 0 0 2) rfl trivial rfl) ?_
    refine s_on rfl ?_
    refine s_do (o_q (.lst 3 (c_1.Value.map encGAtom)) rfl nle rfl) ?_
    refine s_on rfl ?_
    obtain ⟨r_5, er6, hf⟩ := ob hf
    refine s_do (o_call (w_spec_DatumOK _ _ er6) rfl (.refl _) rfl) ?_
    refine s_do (o_q (.bool r_5) rfl trivial rfl) ?_
    refine s_do (o_mov (.bool r_5) rfl) ?_
    rcases oi hf with ⟨c7, hf⟩ | ⟨c7, hf⟩
    · refine s_lit (s := 11) (b := true) rfl c7 ?_
      refine s_on rfl ?_
      refine s_do (o_q (.ptr 0 0 0) rfl trivial rfl) ?_
      refine s_on rfl ?_
      refine s_do (o_q (.str c_1.Column) rfl nle rfl) ?_
      refine s_on rfl ?_
      refine s_dof (o_lenS rfl) fun hl8 => ?_
      refine s_on rfl ?_
      refine s_do (o_q (.bool (decide ((c_1.Column.length : Int) ≤ 40))) rfl rfl rfl) ?_
      refine s_do (o_q (.bool (decide ((c_1.Column.length : Int) ≤ 40))) rfl trivial rfl) ?_
      refine s_do (o_mov (.bool (decide ((c_1.Column.length : Int) ≤ 40))) rfl) ?_
      refine w_done ?_
      refine k_seq ?_
      refine w_ret ?_
      obtain rfl := os hf
      exact r_flat ⟨trivial, trivial⟩ rfl (.refl _)
    · refine s_lit (s := 11) (b := false) rfl (bf c7) ?_
      refine s_off rfl rfl ?_
      refine s_off rfl rfl ?_
      refine s_off rfl rfl ?_
      refine s_off rfl rfl ?_
      refine s_do (o_q (.bool false) rfl trivial rfl) ?_
      refine s_do (o_mov (.bool false) rfl) ?_
      refine w_done ?_
      refine k_seq ?_
      refine w_ret ?_
      obtain rfl := os hf
      exact r_flat ⟨trivial, trivial⟩ rfl (.refl _)
  · refine s_lit (s := 6) (b := false) rfl (bf c4) ?_
    refine s_off rfl rfl ?_
    refine s_off rfl rfl ?_
    refine s_off rfl rfl ?_
    refine s_do (o_q (.bool false) rfl trivial rfl) ?_
    refine s_do (o_mov (.bool false) rfl) ?_
    refine s_off rfl rfl ?_
    refine s_off rfl rfl ?_
    refine s_off rfl rfl ?_
    refine s_off rfl rfl ?_
    refine s_do (o_q (.bool false) rfl trivial rfl) ?_
    refine s_do (o_mov (.bool false) rfl) ?_
    refine w_done ?_
    refine k_seq ?_
    refine w_ret ?_
    obtain rfl := os hf
    exact r_flat ⟨trivial, trivial⟩ rfl (.refl _)

/- spec.l06List -/
def c29 : ACode :=
 (.seq (.reg (.q ⟨(some 2), none, .mov (.c (.bool false))⟩
 .done))
 (.seq (.seq (.reg (.q ⟨(some 3), none, .mov (.c (.int .i64 0))⟩
 .done))
 (.block 0 (.loop (.seq (.seq (.reg (.q ⟨(some 4), none, .mov (.t 3)⟩
 (.q ⟨(some 5), none, .mov (.t 0)⟩
 (.q ⟨(some 6), none, .len (.t 5)⟩
 (.q ⟨(some 7), none, .bin .lss (.t 4) (.t 6)⟩
 .done)))))
 (.cond (.t 7) .skip
 (.exit 0)))
 (.seq (.block 1 (.seq (.reg (.q ⟨(some 10), none, .mov (.t 0)⟩
 (.q ⟨(some 11), none, .mov (.t 3)⟩
 (.q ⟨(some 12), none, .iaddr 3 (.t 10) (.t 11)⟩
 (.q ⟨(some 13), none, .load 3 true (.t 12)⟩
 (.q ⟨(some 14), none, .call 67 [(.t 13)]⟩
 (.q ⟨(some 15), none, .not (.t 14)⟩
 .done)))))))
 (.cond (.t 15) (.seq (.reg (.q ⟨(some 2), none, .mov (.c (.bool false))⟩
 .done))
 .ret)
 .skip)))
 (.reg (.q ⟨(some 8), none, .mov (.t 3)⟩
 (.q ⟨(some 9), none, .bin .add (.t 8) (.c (.int .i64 1))⟩
 (.q ⟨(some 3), none, .mov (.t 9)⟩
 .done)))))))))
 (.cut (.seq (.reg (.q ⟨(some 16), none, .mov (.t 0)⟩
 (.q ⟨(some 17), none, .len (.t 16)⟩
 (.q ⟨(some 18), none, .bin .leq (.t 17) (.c (.int .i64 8))⟩
 (.q ⟨(some 2), none, .mov (.t 18)⟩
 .done)))))
 .ret))))
theorem fc29 : fcomp Try.prog Try.f29 = some (c29.erase, [.mov (.t 2)], 19) := by kernel_rfl
def spec_l06List_L1  : List GCond → Option (Fl Bool Unit)
  | [] =>
    some (.go ())
  | x_33 :: xs =>
    (spec_l06OK x_33).bind fun r_36 =>
    if (!r_36) then
    some (.ret false)
    else
    spec_l06List_L1 xs 

def spec_l06List (list_1 : (List GCond)) : Option Bool :=
    (spec_l06List_L1 list_1 ).bind fun q => (match q with
    | .ret r => some r
    | .go _ =>
    some (decide ((list_1.length : Int) ≤ 8)))
theorem w_spec_l06List (list_1 : (List GCond)) (r : Bool) (hf : spec_l06List list_1 = some r) : CallOK Try.prog 29 .flat [(.lst 3 (list_1.map encGCond))] (.bool r) := by
 refine CallOK.of_awp mixed Try.func29 fc29 nle ?_; rw [argT_eq]; unfold spec_l06List at hf; unfold c29; refine (show awp Try.prog false 0 _ (ofL [(0, (.lst 3 (list_1.map encGCond)))]) [] _ from ?_); refine awp_seq ?_; refine w_reg ?_; refine s_do (o_mov (.bool false) rfl) ?_; refine w_done ?_; refine k_seq ?_; refine awp_seq ?_; refine awp_seq ?_; refine w_reg ?_; refine s_do (o_mov (.int .i64 0) rfl) ?_; refine w_done ?_; refine k_seq ?_
 obtain ⟨p26, hb1, hf⟩ := ob hf
 refine awp_cutx (X := {q : Unit // p26 = .go q}) (fun q => ([(0, (.lst 3 (list_1.map encGCond)))], [])) ?_ ?_
 ·refine awp_loop (X := {q : Nat // spec_l06List_L1 (list_1.drop q)  = some p26}) (fun q => ([(0, (.lst 3 (list_1.map encGCond))), (3, (.int .i64 (q.1 : Int)))], [])) (fun q => list_1.length - q.1) ⟨0, hb1⟩ ⟨[], [], _, _, rfl, rfl, ⟨.refl _, ⟨.refl _, trivial⟩⟩, (.refl _)⟩ ?_
  rintro ⟨i_17, hc1⟩
  have hc1 : spec_l06List_L1 (list_1.drop i_17)  = some p26 := hc1
  refine (show awp Try.prog false 0 _ (ofL [(0, (.lst 3 (list_1.map encGCond))), (3, (.int .i64 (i_17 : Int)))]) [] _ from ?_)
  rcases dropc list_1 i_17 with ⟨hie29, hd32⟩ | ⟨hlt27, x_33, hx28, hd32⟩
  ·rw [hd32, spec_l06List_L1.eq_1] at hc1
   have hq31 := dlf hie29
   refine awp_seq ?_; refine awp_seq ?_; refine w_reg ?_; refine s_do (o_mov (.int .i64 (i_17 : Int)) rfl) ?_; refine s_do (o_mov (.lst 3 (list_1.map encGCond)) rfl) ?_; refine s_dof (o_len (enc := encGCond) rfl) fun hl34 => ?_; refine s_do (o_q (.bool (decide ((i_17 : Int) < (list_1.length : Int)))) rfl rfl rfl) ?_; refine w_done ?_; refine k_seq ?_; refine w_condf rfl hq31 ?_; refine w_exit ?_; refine k_seqx ?_; refine k_loopx ?_; refine k_blkx ?_; obtain rfl := os hc1; exact k_cutn ⟨_, rfl⟩ ⟨[], [], _, _, rfl, rfl, ⟨.refl _, trivial⟩, (.refl _)⟩
  ·rw [hd32, spec_l06List_L1.eq_2] at hc1
   have hq31 := dlt hlt27
   refine awp_seq ?_; refine awp_seq ?_; refine w_reg ?_; refine s_do (o_mov (.int .i64 (i_17 : Int)) rfl) ?_; refine s_do (o_mov (.lst 3 (list_1.map encGCond)) rfl) ?_; refine s_dof (o_len (enc := encGCond) rfl) fun hl35 => ?_; refine s_do (o_q (.bool (decide ((i_17 : Int) < (list_1.length : Int)))) rfl rfl rfl) ?_; refine w_done ?_; refine k_seq ?_; refine w_condt rfl hq31 ?_; refine w_skip ?_; refine k_seq ?_; refine awp_seq ?_; refine w_blk ?_; refine awp_seq ?_; refine w_reg ?_
   obtain ⟨r_36, er37, hc1⟩ := ob hc1
   refine s_do (o_mov (.lst 3 (list_1.map encGCond)) rfl) ?_; refine s_do (o_mov (.int .i64 (i_17 : Int)) rfl) ?_; refine s_do (o_iaddrn (enc := encGCond) rfl rfl hx28) ?_; refine s_do (o_q (encGCond x_33) rfl nle rfl) ?_; refine s_do (o_call (w_spec_l06OK _ _ er37) rfl (.refl _) rfl) ?_; refine s_do (o_q (.bool (!r_36)) rfl trivial rfl) ?_; refine w_done ?_; refine k_seq ?_
   rcases oi hc1 with ⟨c38, hc1⟩ | ⟨c38, hc1⟩
   ·refine w_condt rfl c38 ?_; refine awp_seq ?_; refine w_reg ?_; refine s_do (o_mov (.bool false) rfl) ?_; refine w_done ?_; refine k_seq ?_; refine w_ret ?_; obtain rfl := os hc1; obtain rfl := os hf; exact r_flat ⟨trivial, trivial⟩ rfl (.refl _)
   ·refine w_condf rfl (bf c38) ?_; refine w_skip ?_; refine k_blk ?_; refine k_seq ?_; refine w_reg ?_; refine s_do (o_mov (.int .i64 (i_17 : Int)) rfl) ?_; refine s_do (o_q (.int .i64 (w64 ((i_17 : Int) + 1))) rfl rfl rfl) ?_; refine s_do (o_mov (.int .i64 (w64 ((i_17 : Int) + 1))) rfl) ?_; refine w_done ?_; exact k_loopn ⟨(i_17 + 1), hc1⟩ (mul hlt27) ⟨[], [], _, _, rfl, rfl, ⟨.refl _, ⟨.of_eq (congrArg (AV.int _) (w64_incr hlt27 hl35)), trivial⟩⟩, (.refl _)⟩
 ·rintro ⟨_, rfl⟩
  refine awp_seq ?_; refine w_reg ?_; refine s_do (o_mov (.lst 3 (list_1.map encGCond)) rfl) ?_; refine s_dof (o_len (enc := encGCond) rfl) fun hl39 => ?_; refine s_do (o_q (.bool (decide ((list_1.length : Int) ≤ 8))) rfl rfl rfl) ?_; refine s_do (o_mov (.bool (decide ((list_1.length : Int) ≤ 8))) rfl) ?_; refine w_done ?_; refine k_seq ?_; refine w_ret ?_; obtain rfl := os hf; exact r_flat ⟨trivial, trivial⟩ rfl (.refl _)

/- spec.l07OK -/
def c68 : ACode :=
 (.seq (.reg (.q ⟨(some 1), none, .box 3 (.t 0)⟩
 (.q ⟨(some 2), none, .mov (.c (.bool false))⟩
 .done)))
 (.seq (.reg (.q ⟨(some 3), none, .faddr 1 (.t 1)⟩
 (.q ⟨(some 4), none, .load 1 false (.t 3)⟩
 (.q ⟨(some 5), none, .call 28 [(.t 4), (.c (.int .i64 1)), (.c (.int .i64 7))]⟩
 (.q ⟨(some 6), none, .mov (.t 5)⟩
 (.q ⟨(some 7), (some (6, true)), .faddr 2 (.t 1)⟩
 (.q ⟨(some 8), (some (6, true)), .load 1 false (.t 7)⟩
 (.q ⟨(some 9), (some (6, true)), .call 69 [(.t 8)]⟩
 (.q ⟨(some 10), none, .pick (.t 6) (.t 9) (.c (.bool false))⟩
 (.q ⟨(some 11), none, .mov (.t 10)⟩
 (.q ⟨(some 12), (some (11, true)), .faddr 0 (.t 1)⟩
 (.q ⟨(some 13), (some (11, true)), .load 1 false (.t 12)⟩
 (.q ⟨(some 14), (some (11, true)), .lenS (.t 13)⟩
 (.q ⟨(some 15), (some (11, true)), .bin .leq (.t 14) (.c (.int .i64 40))⟩
 (.q ⟨(some 16), none, .pick (.t 11) (.t 15) (.c (.bool false))⟩
 (.q ⟨(some 2), none, .mov (.t 16)⟩
 .done))))))))))))))))
 .ret))
theorem fc68 : fcomp Try.prog Try.f68 = some (c68.erase, [.mov (.t 2)], 17) := by kernel_rfl
def spec_l07OK (m_1 : GMut) : Option Bool :=
    (spec_l01In m_1.Func 1 7).bind fun r_2 =>
    if r_2 then
    (spec_DatumOK m_1.Value).bind fun r_5 =>
    if r_5 then
    some (decide ((m_1.Column.length : Int) ≤ 40))
    else
    some false
    else
    some false
theorem w_spec_l07OK (m_1 : GMut) (r : Bool) (hf : spec_l07OK m_1 = some r) : CallOK Try.prog 68 .flat [(encGMut m_1)] (.bool r) := by
  refine CallOK.of_awp mixed Try.func68 fc68 nle ?_
  rw [argT_eq]
  unfold spec_l07OK at hf
  unfold c68
  refine (show awp Try.prog false 0 _ (ofL [(0, (encGMut m_1))]) [] _ from ?_)
  refine awp_seq ?_
  refine w_reg ?_
  refine s_do (o_box (j := 0) (c := (.agg [(.str m_1.Column), (.int .i64 m_1.Func), (.lst 3 (m_1.Value.map encGAtom))])) rfl trivial rfl rfl) ?_
  refine s_do (o_mov (.bool false) rfl) ?_
  refine w_done ?_
  refine k_seq ?_
  refine awp_seq ?_
  refine w_reg ?_
  refine s_do (o_q (.ptr 0 0 1) rfl trivial rfl) ?_
  refine s_do (o_q (.int .i64 m_1.Func) rfl nle rfl) ?_
  obtain ⟨r_2, er3, hf⟩ := ob hf
  refine s_do (o_call (w_spec_l01In _ _ _ _ er3) rfl (.refl _) rfl) ?_
  refine s_do (o_mov (.bool r_2) rfl) ?_
  rcases oi hf with ⟨c4, hf⟩ | ⟨c4, hf⟩
  · refine s_lit (s := 6) (b := true) rfl c4 ?_
    refine s_on rfl ?_
    refine s_do (o_q (.ptr 0 0 2) rfl trivial rfl) ?_
    refine s_on rfl ?_
    refine s_do (o_q (.lst 3 (m_1.Value.map encGAtom)) rfl nle rfl) ?_
    refine s_on rfl ?_
    obtain ⟨r_5, er6, hf⟩ := ob hf
    refine s_do (o_call (w_spec_DatumOK _ _ er6) rfl (.refl _) rfl) ?_
    refine s_do (o_q (.bool r_5) rfl trivial rfl) ?_
    refine s_do (o_mov (.bool r_5) rfl) ?_
    rcases oi hf with ⟨c7, hf⟩ | ⟨c7, hf⟩
    · refine s_lit (s := 11) (b := true) rfl c7 ?_
      refine s_on rfl ?_
      refine s_do (o_q (.ptr 0 0 0) rfl trivial rfl) ?_
      refine s_on rfl ?_
      refine s_do (o_q (.str m_1.Column) rfl nle rfl) ?_
      refine s_on rfl ?_
      refine s_dof (o_lenS rfl) fun hl8 => ?_
      refine s_on rfl ?_
      refine s_do (o_q (.bool (decide ((m_1.Column.length : Int) ≤ 40))) rfl rfl rfl) ?_
      refine s_do (o_q (.bool (decide ((m_1.Column.length : Int) ≤ 40))) rfl trivial rfl) ?_
      refine s_do (o_mov (.bool (decide ((m_1.Column.length : Int) ≤ 40))) rfl) ?_
      refine w_done ?_
      refine k_seq ?_
      refine w_ret ?_
      obtain rfl := os hf
      exact r_flat ⟨trivial, trivial⟩ rfl (.refl _)
    · refine s_lit (s := 11) (b := false) rfl (bf c7) ?_
      refine s_off rfl rfl ?_
      refine s_off rfl rfl ?_
      refine s_off rfl rfl ?_
      refine s_off rfl rfl ?_
      refine s_do (o_q (.bool false) rfl trivial rfl) ?_
      refine s_do (o_mov (.bool false) rfl) ?_
      refine w_done ?_
      refine k_seq ?_
      refine w_ret ?_
      obtain rfl := os hf
      exact r_flat ⟨trivial, trivial⟩ rfl (.refl _)
  · refine s_lit (s := 6) (b := false) rfl (bf c4) ?_
    refine s_off rfl rfl ?_
    refine s_off rfl rfl ?_
    refine s_off rfl rfl ?_
    refine s_do (o_q (.bool false) rfl trivial rfl) ?_
    refine s_do (o_mov (.bool false) rfl) ?_
    refine s_off rfl rfl ?_
    refine s_off rfl rfl ?_
    refine s_off rfl rfl ?_
    refine s_off rfl rfl ?_
    refine s_do (o_q (.bool false) rfl trivial rfl) ?_
    refine s_do (o_mov (.bool false) rfl) ?_
    refine w_done ?_
    refine k_seq ?_
    refine w_ret ?_
    obtain rfl := os hf
    exact r_flat ⟨trivial, trivial⟩ rfl (.refl _)

end Go.R
