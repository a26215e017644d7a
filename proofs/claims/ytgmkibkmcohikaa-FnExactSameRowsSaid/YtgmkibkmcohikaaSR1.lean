/- Walks. -/
import Derived.Test.YtgmkibkmcohikaaSRT
set_option linter.all false
namespace Go.R
open Go Go.Proofs
set_option linter.unusedVariables false
set_option linter.unusedSimpArgs false
/- laws.szAtom -/
def c34 : ACode :=
 (.seq (.reg (.q ⟨(some 2), none, .box 3 (.t 0)⟩
 (.q ⟨(some 4), none, .mov (.c (.int .i64 0))⟩
 .done)))
 (.seq (.reg (.q ⟨(some 5), none, .mov (.t 1)⟩
 (.q ⟨(some 6), none, .faddr 2 (.t 2)⟩
 (.q ⟨(some 7), none, .load 1 false (.t 6)⟩
 (.q ⟨(some 8), none, .lenS (.t 7)⟩
 (.q ⟨(some 9), none, .bin .sub (.t 5) (.t 8)⟩
 (.q ⟨(some 1), none, .mov (.t 9)⟩
 .done)))))))
 (.seq (.seq (.reg (.q ⟨(some 10), none, .mov (.t 1)⟩
 (.q ⟨(some 11), none, .bin .lss (.t 10) (.c (.int .i64 0))⟩
 .done)))
 (.cond (.t 11) (.seq (.reg (.q ⟨(some 4), none, .mov (.c (.int .i64 (-1)))⟩
 .done))
 .ret)
 .skip))
 (.seq (.reg (.q ⟨(some 12), none, .mov (.t 1)⟩
 (.q ⟨(some 4), none, .mov (.t 12)⟩
 .done)))
 .ret))))
theorem fc34 : fcomp Try.prog Try.f34 = some (c34.erase, [.mov (.t 4)], 13) := by kernel_rfl
def laws_szAtom (a_1 : GAtom) (left_2 : Int) : Option Int :=
    if (decide (w64 (left_2 - (a_1.T.length : Int)) < 0)) then
    some (-1)
    else
    some (w64 (left_2 - (a_1.T.length : Int)))
theorem w_laws_szAtom (a_1 : GAtom) (left_2 : Int) (r : Int) (hf : laws_szAtom a_1 left_2 = some r) : CallOK Try.prog 34 .flat [(encGAtom a_1), (.int .i64 left_2)] (.int .i64 r) := by
  refine CallOK.of_awp mixed Try.func34 fc34 nle ?_
  rw [argT_eq]
  unfold laws_szAtom at hf
  unfold c34
  refine (show awp Try.prog false 0 _ (ofL [(0, (encGAtom a_1)), (1, (.int .i64 left_2))]) [] _ from ?_)
  refine awp_seq ?_
  refine w_reg ?_
  refine s_do (o_box (j := 0) (c := (.agg [(.int .i64 a_1.Kind), (.int .i64 a_1.N), (.str a_1.T)])) rfl trivial rfl rfl) ?_
  refine s_do (o_mov (.int .i64 0) rfl) ?_
  refine w_done ?_
  refine k_seq ?_
  refine awp_seq ?_
  refine w_reg ?_
  refine s_do (o_mov (.int .i64 left_2) rfl) ?_
  refine s_do (o_q (.ptr 0 0 2) rfl trivial rfl) ?_
  refine s_do (o_q (.str a_1.T) rfl nle rfl) ?_
  refine s_dof (o_lenS rfl) fun hl3 => ?_
  refine s_do (o_q (.int .i64 (w64 (left_2 - (a_1.T.length : Int)))) rfl rfl rfl) ?_
  refine s_do (o_mov (.int .i64 (w64 (left_2 - (a_1.T.length : Int)))) rfl) ?_
  refine w_done ?_
  refine k_seq ?_
  refine awp_seq ?_
  refine awp_seq ?_
  refine w_reg ?_
  refine s_do (o_mov (.int .i64 (w64 (left_2 - (a_1.T.length : Int)))) rfl) ?_
  refine s_do (o_q (.bool (decide (w64 (left_2 - (a_1.T.length : Int)) < 0))) rfl rfl rfl) ?_
  refine w_done ?_
  refine k_seq ?_
  rcases oi hf with ⟨c4, hf⟩ | ⟨c4, hf⟩
  · refine w_condt rfl c4 ?_
    refine awp_seq ?_
    refine w_reg ?_
    refine s_do (o_mov (.int .i64 (-1)) rfl) ?_
    refine w_done ?_
    refine k_seq ?_
    refine w_ret ?_
    obtain rfl := os hf
    exact r_flat ⟨trivial, trivial⟩ rfl (.refl _)
  · refine w_condf rfl (bf c4) ?_
    refine w_skip ?_
    refine k_seq ?_
    refine awp_seq ?_
    refine w_reg ?_
    refine s_do (o_mov (.int .i64 (w64 (left_2 - (a_1.T.length : Int)))) rfl) ?_
    refine s_do (o_mov (.int .i64 (w64 (left_2 - (a_1.T.length : Int)))) rfl) ?_
    refine w_done ?_
    refine k_seq ?_
    refine w_ret ?_
    obtain rfl := os hf
    exact r_flat ⟨trivial, trivial⟩ rfl (.refl _)

/- laws.szAtomS -/
def c68 : ACode :=
 (.seq (.reg (.q ⟨(some 4), none, .mov (.c (.int .i64 0))⟩
 .done))
 (.seq (.reg (.q ⟨(some 6), none, .mov (.t 1)⟩
 (.q ⟨(some 7), none, .mov (.t 0)⟩
 (.q ⟨(some 8), none, .len (.t 7)⟩
 (.q ⟨(some 9), none, .bin .sub (.t 6) (.t 8)⟩
 (.q ⟨(some 1), none, .mov (.t 9)⟩
 .done))))))
 (.seq (.seq (.reg (.q ⟨(some 10), none, .mov (.t 1)⟩
 (.q ⟨(some 11), none, .bin .lss (.t 10) (.c (.int .i64 0))⟩
 .done)))
 (.cond (.t 11) (.seq (.reg (.q ⟨(some 4), none, .mov (.c (.int .i64 (-1)))⟩
 .done))
 .ret)
 .skip))
 (.seq (.seq (.reg (.q ⟨(some 5), none, .mov (.c (.int .i64 0))⟩
 .done))
 (.block 0 (.loop (.seq (.seq (.reg (.q ⟨(some 12), none, .mov (.t 5)⟩
 (.q ⟨(some 13), none, .mov (.t 0)⟩
 (.q ⟨(some 14), none, .len (.t 13)⟩
 (.q ⟨(some 15), none, .bin .lss (.t 12) (.t 14)⟩
 .done)))))
 (.cond (.t 15) .skip
 (.exit 0)))
 (.seq (.block 1 (.seq (.reg (.q ⟨(some 18), none, .mov (.t 0)⟩
 (.q ⟨(some 19), none, .mov (.t 5)⟩
 (.q ⟨(some 20), none, .iaddr 3 (.t 18) (.t 19)⟩
 (.q ⟨(some 21), none, .load 3 true (.t 20)⟩
 (.q ⟨(some 22), none, .mov (.t 1)⟩
 (.q ⟨(some 23), none, .call 34 [(.t 21), (.t 22)]⟩
 (.q ⟨(some 1), none, .mov (.t 23)⟩
 .done))))))))
 (.seq (.reg (.q ⟨(some 24), none, .mov (.t 1)⟩
 (.q ⟨(some 25), none, .bin .lss (.t 24) (.c (.int .i64 0))⟩
 .done)))
 (.cond (.t 25) (.seq (.reg (.q ⟨(some 4), none, .mov (.c (.int .i64 (-1)))⟩
 .done))
 .ret)
 .skip))))
 (.reg (.q ⟨(some 16), none, .mov (.t 5)⟩
 (.q ⟨(some 17), none, .bin .add (.t 16) (.c (.int .i64 1))⟩
 (.q ⟨(some 5), none, .mov (.t 17)⟩
 .done)))))))))
 (.cut (.seq (.reg (.q ⟨(some 26), none, .mov (.t 1)⟩
 (.q ⟨(some 4), none, .mov (.t 26)⟩
 .done)))
 .ret))))))
theorem fc68 : fcomp Try.prog Try.f68 = some (c68.erase, [.mov (.t 4)], 27) := by kernel_rfl
def laws_szAtomS_L1  : List GAtom → Int → Option (Fl Int Int)
  | [], left_21 =>
    some (.go left_21)
  | x_39 :: xs, left_21 =>
    (laws_szAtom x_39 left_21).bind fun r_42 =>
    if (decide (r_42 < 0)) then
    some (.ret (-1))
    else
    laws_szAtomS_L1 xs r_42 

def laws_szAtomS (a_1 : (List GAtom)) (left_2 : Int) : Option Int :=
    if (decide (w64 (left_2 - (a_1.length : Int)) < 0)) then
    some (-1)
    else
    (laws_szAtomS_L1 a_1 (w64 (left_2 - (a_1.length : Int)))).bind fun q => (match q with
    | .ret r => some r
    | .go left_31 =>
    some left_31)
theorem w_laws_szAtomS (a_1 : (List GAtom)) (left_2 : Int) (r : Int) (hf : laws_szAtomS a_1 left_2 = some r) : CallOK Try.prog 68 .flat [(.lst 3 (a_1.map encGAtom)), (.int .i64 left_2)] (.int .i64 r) := by
  refine CallOK.of_awp mixed Try.func68 fc68 nle ?_
  rw [argT_eq]
  unfold laws_szAtomS at hf
  unfold c68
  refine (show awp Try.prog false 0 _ (ofL [(0, (.lst 3 (a_1.map encGAtom))), (1, (.int .i64 left_2))]) [] _ from ?_)
  refine awp_seq ?_
  refine w_reg ?_
  refine s_do (o_mov (.int .i64 0) rfl) ?_
  refine w_done ?_
  refine k_seq ?_
  refine awp_seq ?_
  refine w_reg ?_
  refine s_do (o_mov (.int .i64 left_2) rfl) ?_
  refine s_do (o_mov (.lst 3 (a_1.map encGAtom)) rfl) ?_
  refine s_dof (o_len (enc := encGAtom) rfl) fun hl3 => ?_
  refine s_do (o_q (.int .i64 (w64 (left_2 - (a_1.length : Int)))) rfl rfl rfl) ?_
  refine s_do (o_mov (.int .i64 (w64 (left_2 - (a_1.length : Int)))) rfl) ?_
  refine w_done ?_
  refine k_seq ?_
  refine awp_seq ?_
  refine awp_seq ?_
  refine w_reg ?_
  refine s_do (o_mov (.int .i64 (w64 (left_2 - (a_1.length : Int)))) rfl) ?_
  refine s_do (o_q (.bool (decide (w64 (left_2 - (a_1.length : Int)) < 0))) rfl rfl rfl) ?_
  refine w_done ?_
  refine k_seq ?_
  rcases oi hf with ⟨c4, hf⟩ | ⟨c4, hf⟩
  · refine w_condt rfl c4 ?_
    refine awp_seq ?_
    refine w_reg ?_
    refine s_do (o_mov (.int .i64 (-1)) rfl) ?_
    refine w_done ?_
    refine k_seq ?_
    refine w_ret ?_
    obtain rfl := os hf
    exact r_flat ⟨trivial, trivial⟩ rfl (.refl _)
  · refine w_condf rfl (bf c4) ?_
    refine w_skip ?_
    refine k_seq ?_
    refine awp_seq ?_
    refine awp_seq ?_
    refine w_reg ?_
    refine s_do (o_mov (.int .i64 0) rfl) ?_
    refine w_done ?_
    refine k_seq ?_
    obtain ⟨p32, hb1, hf⟩ := ob hf
    refine awp_cutx (X := {q : Int // p32 = .go q}) (fun q => ([(1, (.int .i64 q.1))], [])) ?_ ?_
    · refine awp_loop (X := {q : (Int × Nat) // laws_szAtomS_L1 (a_1.drop q.2) q.1 = some p32}) (fun q => ([(0, (.lst 3 (a_1.map encGAtom))), (1, (.int .i64 q.1.1)), (5, (.int .i64 (q.1.2 : Int)))], [])) (fun q => a_1.length - q.1.2) ⟨(w64 (left_2 - (a_1.length : Int)), 0), hb1⟩ ⟨[], [], _, _, rfl, rfl, ⟨.refl _, ⟨.refl _, ⟨.refl _, trivial⟩⟩⟩, .refl _⟩ ?_
      rintro ⟨⟨left_21, i_22⟩, hc1⟩
      have hc1 : laws_szAtomS_L1 (a_1.drop i_22) left_21 = some p32 := hc1
      refine (show awp Try.prog false 0 _ (ofL [(0, (.lst 3 (a_1.map encGAtom))), (1, (.int .i64 left_21)), (5, (.int .i64 (i_22 : Int)))]) [] _ from ?_)
      rcases dropc a_1 i_22 with ⟨hie35, hd38⟩ | ⟨hlt33, x_39, hx34, hd38⟩
      · rw [hd38, laws_szAtomS_L1.eq_1] at hc1
        have hq37 := dlf hie35
        refine awp_seq ?_
        refine awp_seq ?_
        refine w_reg ?_
        refine s_do (o_mov (.int .i64 (i_22 : Int)) rfl) ?_
        refine s_do (o_mov (.lst 3 (a_1.map encGAtom)) rfl) ?_
        refine s_dof (o_len (enc := encGAtom) rfl) fun hl40 => ?_
        refine s_do (o_q (.bool (decide ((i_22 : Int) < (a_1.length : Int)))) rfl rfl rfl) ?_
        refine w_done ?_
        refine k_seq ?_
        refine w_condf rfl hq37 ?_
        refine w_exit ?_
        refine k_seqx ?_
        refine k_loopx ?_
        refine k_blkx ?_
        obtain rfl := os hc1
        exact k_cutn ⟨_, rfl⟩ ⟨[], [], _, _, rfl, rfl, ⟨.refl _, trivial⟩, .refl _⟩
      · rw [hd38, laws_szAtomS_L1.eq_2] at hc1
        have hq37 := dlt hlt33
        refine awp_seq ?_
        refine awp_seq ?_
        refine w_reg ?_
        refine s_do (o_mov (.int .i64 (i_22 : Int)) rfl) ?_
        refine s_do (o_mov (.lst 3 (a_1.map encGAtom)) rfl) ?_
        refine s_dof (o_len (enc := encGAtom) rfl) fun hl41 => ?_
        refine s_do (o_q (.bool (decide ((i_22 : Int) < (a_1.length : Int)))) rfl rfl rfl) ?_
        refine w_done ?_
        refine k_seq ?_
        refine w_condt rfl hq37 ?_
        refine w_skip ?_
        refine k_seq ?_
        refine awp_seq ?_
        refine w_blk ?_
        refine awp_seq ?_
        refine w_reg ?_
        obtain ⟨r_42, er43, hc1⟩ := ob hc1
        refine s_do (o_mov (.lst 3 (a_1.map encGAtom)) rfl) ?_
        refine s_do (o_mov (.int .i64 (i_22 : Int)) rfl) ?_
        refine s_do (o_iaddrn (enc := encGAtom) rfl rfl hx34) ?_
        refine s_do (o_q (encGAtom x_39) rfl nle rfl) ?_
        refine s_do (o_mov (.int .i64 left_21) rfl) ?_
        refine s_do (o_call (w_laws_szAtom _ _ _ er43) rfl (.refl _) rfl) ?_
        refine s_do (o_mov (.int .i64 r_42) rfl) ?_
        refine w_done ?_
        refine k_seq ?_
        refine awp_seq ?_
        refine w_reg ?_
        refine s_do (o_mov (.int .i64 r_42) rfl) ?_
        refine s_do (o_q (.bool (decide (r_42 < 0))) rfl rfl rfl) ?_
        refine w_done ?_
        refine k_seq ?_
        rcases oi hc1 with ⟨c44, hc1⟩ | ⟨c44, hc1⟩
        · refine w_condt rfl c44 ?_
          refine awp_seq ?_
          refine w_reg ?_
          refine s_do (o_mov (.int .i64 (-1)) rfl) ?_
          refine w_done ?_
          refine k_seq ?_
          refine w_ret ?_
          obtain rfl := os hc1
          obtain rfl := os hf
          exact r_flat ⟨trivial, trivial⟩ rfl (.refl _)
        · refine w_condf rfl (bf c44) ?_
          refine w_skip ?_
          refine k_blk ?_
          refine k_seq ?_
          refine w_reg ?_
          refine s_do (o_mov (.int .i64 (i_22 : Int)) rfl) ?_
          refine s_do (o_q (.int .i64 (w64 ((i_22 : Int) + 1))) rfl rfl rfl) ?_
          refine s_do (o_mov (.int .i64 (w64 ((i_22 : Int) + 1))) rfl) ?_
          refine w_done ?_
          exact k_loopn ⟨(r_42, (i_22 + 1)), hc1⟩ (mul hlt33) ⟨[], [], _, _, rfl, rfl, ⟨.refl _, ⟨.refl _, ⟨.of_eq (congrArg (AV.int _) (w64_incr hlt33 hl41)), trivial⟩⟩⟩, .refl _⟩
    · rintro ⟨left_31, rfl⟩
      refine awp_seq ?_
      refine w_reg ?_
      refine s_do (o_mov (.int .i64 left_31) rfl) ?_
      refine s_do (o_mov (.int .i64 left_31) rfl) ?_
      refine w_done ?_
      refine k_seq ?_
      refine w_ret ?_
      obtain rfl := os hf
      exact r_flat ⟨trivial, trivial⟩ rfl (.refl _)

/- laws.szAtomSS -/
def c155 : ACode :=
 (.seq (.reg (.q ⟨(some 4), none, .mov (.c (.int .i64 0))⟩
 .done))
 (.seq (.reg (.q ⟨(some 6), none, .mov (.t 1)⟩
 (.q ⟨(some 7), none, .mov (.t 0)⟩
 (.q ⟨(some 8), none, .len (.t 7)⟩
 (.q ⟨(some 9), none, .bin .sub (.t 6) (.t 8)⟩
 (.q ⟨(some 1), none, .mov (.t 9)⟩
 .done))))))
 (.seq (.seq (.reg (.q ⟨(some 10), none, .mov (.t 1)⟩
 (.q ⟨(some 11), none, .bin .lss (.t 10) (.c (.int .i64 0))⟩
 .done)))
 (.cond (.t 11) (.seq (.reg (.q ⟨(some 4), none, .mov (.c (.int .i64 (-1)))⟩
 .done))
 .ret)
 .skip))
 (.seq (.seq (.reg (.q ⟨(some 5), none, .mov (.c (.int .i64 0))⟩
 .done))
 (.block 0 (.loop (.seq (.seq (.reg (.q ⟨(some 12), none, .mov (.t 5)⟩
 (.q ⟨(some 13), none, .mov (.t 0)⟩
 (.q ⟨(some 14), none, .len (.t 13)⟩
 (.q ⟨(some 15), none, .bin .lss (.t 12) (.t 14)⟩
 .done)))))
 (.cond (.t 15) .skip
 (.exit 0)))
 (.seq (.block 1 (.seq (.reg (.q ⟨(some 18), none, .mov (.t 0)⟩
 (.q ⟨(some 19), none, .mov (.t 5)⟩
 (.q ⟨(some 20), none, .iaddr 1 (.t 18) (.t 19)⟩
 (.q ⟨(some 21), none, .load 1 false (.t 20)⟩
 (.q ⟨(some 22), none, .mov (.t 1)⟩
 (.q ⟨(some 23), none, .call 68 [(.t 21), (.t 22)]⟩
 (.q ⟨(some 1), none, .mov (.t 23)⟩
 .done))))))))
 (.seq (.reg (.q ⟨(some 24), none, .mov (.t 1)⟩
 (.q ⟨(some 25), none, .bin .lss (.t 24) (.c (.int .i64 0))⟩
 .done)))
 (.cond (.t 25) (.seq (.reg (.q ⟨(some 4), none, .mov (.c (.int .i64 (-1)))⟩
 .done))
 .ret)
 .skip))))
 (.reg (.q ⟨(some 16), none, .mov (.t 5)⟩
 (.q ⟨(some 17), none, .bin .add (.t 16) (.c (.int .i64 1))⟩
 (.q ⟨(some 5), none, .mov (.t 17)⟩
 .done)))))))))
 (.cut (.seq (.reg (.q ⟨(some 26), none, .mov (.t 1)⟩
 (.q ⟨(some 4), none, .mov (.t 26)⟩
 .done)))
 .ret))))))
theorem fc155 : fcomp Try.prog Try.f155 = some (c155.erase, [.mov (.t 4)], 27) := by kernel_rfl
def laws_szAtomSS_L1  : List (List GAtom) → Int → Option (Fl Int Int)
  | [], left_21 =>
    some (.go left_21)
  | x_39 :: xs, left_21 =>
    (laws_szAtomS x_39 left_21).bind fun r_42 =>
    if (decide (r_42 < 0)) then
    some (.ret (-1))
    else
    laws_szAtomSS_L1 xs r_42 

def laws_szAtomSS (a_1 : (List (List GAtom))) (left_2 : Int) : Option Int :=
    if (decide (w64 (left_2 - (a_1.length : Int)) < 0)) then
    some (-1)
    else
    (laws_szAtomSS_L1 a_1 (w64 (left_2 - (a_1.length : Int)))).bind fun q => (match q with
    | .ret r => some r
    | .go left_31 =>
    some left_31)
theorem w_laws_szAtomSS (a_1 : (List (List GAtom))) (left_2 : Int) (r : Int) (hf : laws_szAtomSS a_1 left_2 = some r) : CallOK Try.prog 155 .flat [(.lst 1 (a_1.map (encL 3 encGAtom))), (.int .i64 left_2)] (.int .i64 r) := by
  refine CallOK.of_awp mixed Try.func155 fc155 nle ?_
  rw [argT_eq]
  unfold laws_szAtomSS at hf
  unfold c155
  refine (show awp Try.prog false 0 _ (ofL [(0, (.lst 1 (a_1.map (encL 3 encGAtom)))), (1, (.int .i64 left_2))]) [] _ from ?_)
  refine awp_seq ?_
  refine w_reg ?_
  refine s_do (o_mov (.int .i64 0) rfl) ?_
  refine w_done ?_
  refine k_seq ?_
  refine awp_seq ?_
  refine w_reg ?_
  refine s_do (o_mov (.int .i64 left_2) rfl) ?_
  refine s_do (o_mov (.lst 1 (a_1.map (encL 3 encGAtom))) rfl) ?_
  refine s_dof (o_len (enc := (encL 3 encGAtom)) rfl) fun hl3 => ?_
  refine s_do (o_q (.int .i64 (w64 (left_2 - (a_1.length : Int)))) rfl rfl rfl) ?_
  refine s_do (o_mov (.int .i64 (w64 (left_2 - (a_1.length : Int)))) rfl) ?_
  refine w_done ?_
  refine k_seq ?_
  refine awp_seq ?_
  refine awp_seq ?_
  refine w_reg ?_
  refine s_do (o_mov (.int .i64 (w64 (left_2 - (a_1.length : Int)))) rfl) ?_
  refine s_do (o_q (.bool (decide (w64 (left_2 - (a_1.length : Int)) < 0))) rfl rfl rfl) ?_
  refine w_done ?_
  refine k_seq ?_
  rcases oi hf with ⟨c4, hf⟩ | ⟨c4, hf⟩
  · refine w_condt rfl c4 ?_
    refine awp_seq ?_
    refine w_reg ?_
    refine s_do (o_mov (.int .i64 (-1)) rfl) ?_
    refine w_done ?_
    refine k_seq ?_
    refine w_ret ?_
    obtain rfl := os hf
    exact r_flat ⟨trivial, trivial⟩ rfl (.refl _)
  · refine w_condf rfl (bf c4) ?_
    refine w_skip ?_
    refine k_seq ?_
    refine awp_seq ?_
    refine awp_seq ?_
    refine w_reg ?_
    refine s_do (o_mov (.int .i64 0) rfl) ?_
    refine w_done ?_
    refine k_seq ?_
    obtain ⟨p32, hb1, hf⟩ := ob hf
    refine awp_cutx (X := {q : Int // p32 = .go q}) (fun q => ([(1, (.int .i64 q.1))], [])) ?_ ?_
    · refine awp_loop (X := {q : (Int × Nat) // laws_szAtomSS_L1 (a_1.drop q.2) q.1 = some p32}) (fun q => ([(0, (.lst 1 (a_1.map (encL 3 encGAtom)))), (1, (.int .i64 q.1.1)), (5, (.int .i64 (q.1.2 : Int)))], [])) (fun q => a_1.length - q.1.2) ⟨(w64 (left_2 - (a_1.length : Int)), 0), hb1⟩ ⟨[], [], _, _, rfl, rfl, ⟨.refl _, ⟨.refl _, ⟨.refl _, trivial⟩⟩⟩, .refl _⟩ ?_
      rintro ⟨⟨left_21, i_22⟩, hc1⟩
      have hc1 : laws_szAtomSS_L1 (a_1.drop i_22) left_21 = some p32 := hc1
      refine (show awp Try.prog false 0 _ (ofL [(0, (.lst 1 (a_1.map (encL 3 encGAtom)))), (1, (.int .i64 left_21)), (5, (.int .i64 (i_22 : Int)))]) [] _ from ?_)
      rcases dropc a_1 i_22 with ⟨hie35, hd38⟩ | ⟨hlt33, x_39, hx34, hd38⟩
      · rw [hd38, laws_szAtomSS_L1.eq_1] at hc1
        have hq37 := dlf hie35
        refine awp_seq ?_
        refine awp_seq ?_
        refine w_reg ?_
        refine s_do (o_mov (.int .i64 (i_22 : Int)) rfl) ?_
        refine s_do (o_mov (.lst 1 (a_1.map (encL 3 encGAtom))) rfl) ?_
        refine s_dof (o_len (enc := (encL 3 encGAtom)) rfl) fun hl40 => ?_
        refine s_do (o_q (.bool (decide ((i_22 : Int) < (a_1.length : Int)))) rfl rfl rfl) ?_
        refine w_done ?_
        refine k_seq ?_
        refine w_condf rfl hq37 ?_
        refine w_exit ?_
        refine k_seqx ?_
        refine k_loopx ?_
        refine k_blkx ?_
        obtain rfl := os hc1
        exact k_cutn ⟨_, rfl⟩ ⟨[], [], _, _, rfl, rfl, ⟨.refl _, trivial⟩, .refl _⟩
      · rw [hd38, laws_szAtomSS_L1.eq_2] at hc1
        have hq37 := dlt hlt33
        refine awp_seq ?_
        refine awp_seq ?_
        refine w_reg ?_
        refine s_do (o_mov (.int .i64 (i_22 : Int)) rfl) ?_
        refine s_do (o_mov (.lst 1 (a_1.map (encL 3 encGAtom))) rfl) ?_
        refine s_dof (o_len (enc := (encL 3 encGAtom)) rfl) fun hl41 => ?_
        refine s_do (o_q (.bool (decide ((i_22 : Int) < (a_1.length : Int)))) rfl rfl rfl) ?_
        refine w_done ?_
        refine k_seq ?_
        refine w_condt rfl hq37 ?_
        refine w_skip ?_
        refine k_seq ?_
        refine awp_seq ?_
        refine w_blk ?_
        refine awp_seq ?_
        refine w_reg ?_
        obtain ⟨r_42, er43, hc1⟩ := ob hc1
        refine s_do (o_mov (.lst 1 (a_1.map (encL 3 encGAtom))) rfl) ?_
        refine s_do (o_mov (.int .i64 (i_22 : Int)) rfl) ?_
        refine s_do (o_iaddrn (enc := (encL 3 encGAtom)) rfl rfl hx34) ?_
        refine s_do (o_q (.lst 3 (x_39.map encGAtom)) rfl ⟨rfl, rfl⟩ rfl) ?_
        refine s_do (o_mov (.int .i64 left_21) rfl) ?_
        refine s_do (o_call (w_laws_szAtomS _ _ _ er43) rfl (.refl _) rfl) ?_
        refine s_do (o_mov (.int .i64 r_42) rfl) ?_
        refine w_done ?_
        refine k_seq ?_
        refine awp_seq ?_
        refine w_reg ?_
        refine s_do (o_mov (.int .i64 r_42) rfl) ?_
        refine s_do (o_q (.bool (decide (r_42 < 0))) rfl rfl rfl) ?_
        refine w_done ?_
        refine k_seq ?_
        rcases oi hc1 with ⟨c44, hc1⟩ | ⟨c44, hc1⟩
        · refine w_condt rfl c44 ?_
          refine awp_seq ?_
          refine w_reg ?_
          refine s_do (o_mov (.int .i64 (-1)) rfl) ?_
          refine w_done ?_
          refine k_seq ?_
          refine w_ret ?_
          obtain rfl := os hc1
          obtain rfl := os hf
          exact r_flat ⟨trivial, trivial⟩ rfl (.refl _)
        · refine w_condf rfl (bf c44) ?_
          refine w_skip ?_
          refine k_blk ?_
          refine k_seq ?_
          refine w_reg ?_
          refine s_do (o_mov (.int .i64 (i_22 : Int)) rfl) ?_
          refine s_do (o_q (.int .i64 (w64 ((i_22 : Int) + 1))) rfl rfl rfl) ?_
          refine s_do (o_mov (.int .i64 (w64 ((i_22 : Int) + 1))) rfl) ?_
          refine w_done ?_
          exact k_loopn ⟨(r_42, (i_22 + 1)), hc1⟩ (mul hlt33) ⟨[], [], _, _, rfl, rfl, ⟨.refl _, ⟨.refl _, ⟨.of_eq (congrArg (AV.int _) (w64_incr hlt33 hl41)), trivial⟩⟩⟩, .refl _⟩
    · rintro ⟨left_31, rfl⟩
      refine awp_seq ?_
      refine w_reg ?_
      refine s_do (o_mov (.int .i64 left_31) rfl) ?_
      refine s_do (o_mov (.int .i64 left_31) rfl) ?_
      refine w_done ?_
      refine k_seq ?_
      refine w_ret ?_
      obtain rfl := os hf
      exact r_flat ⟨trivial, trivial⟩ rfl (.refl _)

/- laws.szRow -/
def c90 : ACode :=
 (.seq (.reg (.q ⟨(some 2), none, .box 2 (.t 0)⟩
 (.q ⟨(some 4), none, .mov (.c (.int .i64 0))⟩
 .done)))
 (.seq (.reg (.q ⟨(some 5), none, .faddr 1 (.t 2)⟩
 (.q ⟨(some 6), none, .load 1 false (.t 5)⟩
 (.q ⟨(some 7), none, .mov (.t 1)⟩
 (.q ⟨(some 8), none, .call 155 [(.t 6), (.t 7)]⟩
 (.q ⟨(some 1), none, .mov (.t 8)⟩
 .done))))))
 (.seq (.seq (.reg (.q ⟨(some 9), none, .mov (.t 1)⟩
 (.q ⟨(some 10), none, .bin .lss (.t 9) (.c (.int .i64 0))⟩
 .done)))
 (.cond (.t 10) (.seq (.reg (.q ⟨(some 4), none, .mov (.c (.int .i64 (-1)))⟩
 .done))
 .ret)
 .skip))
 (.seq (.reg (.q ⟨(some 11), none, .mov (.t 1)⟩
 (.q ⟨(some 4), none, .mov (.t 11)⟩
 .done)))
 .ret))))
theorem fc90 : fcomp Try.prog Try.f90 = some (c90.erase, [.mov (.t 4)], 12) := by kernel_rfl
def laws_szRow (a_1 : GRow) (left_2 : Int) : Option Int :=
    (laws_szAtomSS a_1.Cells left_2).bind fun r_3 =>
    if (decide (r_3 < 0)) then
    some (-1)
    else
    some r_3
theorem w_laws_szRow (a_1 : GRow) (left_2 : Int) (r : Int) (hf : laws_szRow a_1 left_2 = some r) : CallOK Try.prog 90 .flat [(encGRow a_1), (.int .i64 left_2)] (.int .i64 r) := by
  refine CallOK.of_awp mixed Try.func90 fc90 nle ?_
  rw [argT_eq]
  unfold laws_szRow at hf
  unfold c90
  refine (show awp Try.prog false 0 _ (ofL [(0, (encGRow a_1)), (1, (.int .i64 left_2))]) [] _ from ?_)
  refine awp_seq ?_
  refine w_reg ?_
  refine s_do (o_box (j := 0) (c := (.agg [(.int .i64 a_1.Id), (.lst 1 (a_1.Cells.map (encL 3 encGAtom)))])) rfl trivial rfl rfl) ?_
  refine s_do (o_mov (.int .i64 0) rfl) ?_
  refine w_done ?_
  refine k_seq ?_
  refine awp_seq ?_
  refine w_reg ?_
  obtain ⟨r_3, er4, hf⟩ := ob hf
  refine s_do (o_q (.ptr 0 0 1) rfl trivial rfl) ?_
  refine s_do (o_q (.lst 1 (a_1.Cells.map (encL 3 encGAtom))) rfl nle rfl) ?_
  refine s_do (o_mov (.int .i64 left_2) rfl) ?_
  refine s_do (o_call (w_laws_szAtomSS _ _ _ er4) rfl (.refl _) rfl) ?_
  refine s_do (o_mov (.int .i64 r_3) rfl) ?_
  refine w_done ?_
  refine k_seq ?_
  refine awp_seq ?_
  refine awp_seq ?_
  refine w_reg ?_
  refine s_do (o_mov (.int .i64 r_3) rfl) ?_
  refine s_do (o_q (.bool (decide (r_3 < 0))) rfl rfl rfl) ?_
  refine w_done ?_
  refine k_seq ?_
  rcases oi hf with ⟨c5, hf⟩ | ⟨c5, hf⟩
  · refine w_condt rfl c5 ?_
    refine awp_seq ?_
    refine w_reg ?_
    refine s_do (o_mov (.int .i64 (-1)) rfl) ?_
    refine w_done ?_
    refine k_seq ?_
    refine w_ret ?_
    obtain rfl := os hf
    exact r_flat ⟨trivial, trivial⟩ rfl (.refl _)
  · refine w_condf rfl (bf c5) ?_
    refine w_skip ?_
    refine k_seq ?_
    refine awp_seq ?_
    refine w_reg ?_
    refine s_do (o_mov (.int .i64 r_3) rfl) ?_
    refine s_do (o_mov (.int .i64 r_3) rfl) ?_
    refine w_done ?_
    refine k_seq ?_
    refine w_ret ?_
    obtain rfl := os hf
    exact r_flat ⟨trivial, trivial⟩ rfl (.refl _)

/- laws.szRowS -/
def c25 : ACode :=
 (.seq (.reg (.q ⟨(some 4), none, .mov (.c (.int .i64 0))⟩
 .done))
 (.seq (.reg (.q ⟨(some 6), none, .mov (.t 1)⟩
 (.q ⟨(some 7), none, .mov (.t 0)⟩
 (.q ⟨(some 8), none, .len (.t 7)⟩
 (.q ⟨(some 9), none, .bin .sub (.t 6) (.t 8)⟩
 (.q ⟨(some 1), none, .mov (.t 9)⟩
 .done))))))
 (.seq (.seq (.reg (.q ⟨(some 10), none, .mov (.t 1)⟩
 (.q ⟨(some 11), none, .bin .lss (.t 10) (.c (.int .i64 0))⟩
 .done)))
 (.cond (.t 11) (.seq (.reg (.q ⟨(some 4), none, .mov (.c (.int .i64 (-1)))⟩
 .done))
 .ret)
 .skip))
 (.seq (.seq (.reg (.q ⟨(some 5), none, .mov (.c (.int .i64 0))⟩
 .done))
 (.block 0 (.loop (.seq (.seq (.reg (.q ⟨(some 12), none, .mov (.t 5)⟩
 (.q ⟨(some 13), none, .mov (.t 0)⟩
 (.q ⟨(some 14), none, .len (.t 13)⟩
 (.q ⟨(some 15), none, .bin .lss (.t 12) (.t 14)⟩
 .done)))))
 (.cond (.t 15) .skip
 (.exit 0)))
 (.seq (.block 1 (.seq (.reg (.q ⟨(some 18), none, .mov (.t 0)⟩
 (.q ⟨(some 19), none, .mov (.t 5)⟩
 (.q ⟨(some 20), none, .iaddr 2 (.t 18) (.t 19)⟩
 (.q ⟨(some 21), none, .load 2 true (.t 20)⟩
 (.q ⟨(some 22), none, .mov (.t 1)⟩
 (.q ⟨(some 23), none, .call 90 [(.t 21), (.t 22)]⟩
 (.q ⟨(some 1), none, .mov (.t 23)⟩
 .done))))))))
 (.seq (.reg (.q ⟨(some 24), none, .mov (.t 1)⟩
 (.q ⟨(some 25), none, .bin .lss (.t 24) (.c (.int .i64 0))⟩
 .done)))
 (.cond (.t 25) (.seq (.reg (.q ⟨(some 4), none, .mov (.c (.int .i64 (-1)))⟩
 .done))
 .ret)
 .skip))))
 (.reg (.q ⟨(some 16), none, .mov (.t 5)⟩
 (.q ⟨(some 17), none, .bin .add (.t 16) (.c (.int .i64 1))⟩
 (.q ⟨(some 5), none, .mov (.t 17)⟩
 .done)))))))))
 (.cut (.seq (.reg (.q ⟨(some 26), none, .mov (.t 1)⟩
 (.q ⟨(some 4), none, .mov (.t 26)⟩
 .done)))
 .ret))))))
theorem fc25 : fcomp Try.prog Try.f25 = some (c25.erase, [.mov (.t 4)], 27) := by kernel_rfl
def laws_szRowS_L1  : List GRow → Int → Option (Fl Int Int)
  | [], left_21 =>
    some (.go left_21)
  | x_39 :: xs, left_21 =>
    (laws_szRow x_39 left_21).bind fun r_42 =>
    if (decide (r_42 < 0)) then
    some (.ret (-1))
    else
    laws_szRowS_L1 xs r_42 

def laws_szRowS (a_1 : (List GRow)) (left_2 : Int) : Option Int :=
    if (decide (w64 (left_2 - (a_1.length : Int)) < 0)) then
    some (-1)
    else
    (laws_szRowS_L1 a_1 (w64 (left_2 - (a_1.length : Int)))).bind fun q => (match q with
    | .ret r => some r
    | .go left_31 =>
    some left_31)
theorem w_laws_szRowS (a_1 : (List GRow)) (left_2 : Int) (r : Int) (hf : laws_szRowS a_1 left_2 = some r) : CallOK Try.prog 25 .flat [(.lst 2 (a_1.map encGRow)), (.int .i64 left_2)] (.int .i64 r) := by
  refine CallOK.of_awp mixed Try.func25 fc25 nle ?_
  rw [argT_eq]
  unfold laws_szRowS at hf
  unfold c25
  refine (show awp Try.prog false 0 _ (ofL [(0, (.lst 2 (a_1.map encGRow))), (1, (.int .i64 left_2))]) [] _ from ?_)
  refine awp_seq ?_
  refine w_reg ?_
  refine s_do (o_mov (.int .i64 0) rfl) ?_
  refine w_done ?_
  refine k_seq ?_
  refine awp_seq ?_
  refine w_reg ?_
  refine s_do (o_mov (.int .i64 left_2) rfl) ?_
  refine s_do (o_mov (.lst 2 (a_1.map encGRow)) rfl) ?_
  refine s_dof (o_len (enc := encGRow) rfl) fun hl3 => ?_
  refine s_do (o_q (.int .i64 (w64 (left_2 - (a_1.length : Int)))) rfl rfl rfl) ?_
  refine s_do (o_mov (.int .i64 (w64 (left_2 - (a_1.length : Int)))) rfl) ?_
  refine w_done ?_
  refine k_seq ?_
  refine awp_seq ?_
  refine awp_seq ?_
  refine w_reg ?_
  refine s_do (o_mov (.int .i64 (w64 (left_2 - (a_1.length : Int)))) rfl) ?_
  refine s_do (o_q (.bool (decide (w64 (left_2 - (a_1.length : Int)) < 0))) rfl rfl rfl) ?_
  refine w_done ?_
  refine k_seq ?_
  rcases oi hf with ⟨c4, hf⟩ | ⟨c4, hf⟩
  · refine w_condt rfl c4 ?_
    refine awp_seq ?_
    refine w_reg ?_
    refine s_do (o_mov (.int .i64 (-1)) rfl) ?_
    refine w_done ?_
    refine k_seq ?_
    refine w_ret ?_
    obtain rfl := os hf
    exact r_flat ⟨trivial, trivial⟩ rfl (.refl _)
  · refine w_condf rfl (bf c4) ?_
    refine w_skip ?_
    refine k_seq ?_
    refine awp_seq ?_
    refine awp_seq ?_
    refine w_reg ?_
    refine s_do (o_mov (.int .i64 0) rfl) ?_
    refine w_done ?_
    refine k_seq ?_
    obtain ⟨p32, hb1, hf⟩ := ob hf
    refine awp_cutx (X := {q : Int // p32 = .go q}) (fun q => ([(1, (.int .i64 q.1))], [])) ?_ ?_
    · refine awp_loop (X := {q : (Int × Nat) // laws_szRowS_L1 (a_1.drop q.2) q.1 = some p32}) (fun q => ([(0, (.lst 2 (a_1.map encGRow))), (1, (.int .i64 q.1.1)), (5, (.int .i64 (q.1.2 : Int)))], [])) (fun q => a_1.length - q.1.2) ⟨(w64 (left_2 - (a_1.length : Int)), 0), hb1⟩ ⟨[], [], _, _, rfl, rfl, ⟨.refl _, ⟨.refl _, ⟨.refl _, trivial⟩⟩⟩, .refl _⟩ ?_
      rintro ⟨⟨left_21, i_22⟩, hc1⟩
      have hc1 : laws_szRowS_L1 (a_1.drop i_22) left_21 = some p32 := hc1
      refine (show awp Try.prog false 0 _ (ofL [(0, (.lst 2 (a_1.map encGRow))), (1, (.int .i64 left_21)), (5, (.int .i64 (i_22 : Int)))]) [] _ from ?_)
      rcases dropc a_1 i_22 with ⟨hie35, hd38⟩ | ⟨hlt33, x_39, hx34, hd38⟩
      · rw [hd38, laws_szRowS_L1.eq_1] at hc1
        have hq37 := dlf hie35
        refine awp_seq ?_
        refine awp_seq ?_
        refine w_reg ?_
        refine s_do (o_mov (.int .i64 (i_22 : Int)) rfl) ?_
        refine s_do (o_mov (.lst 2 (a_1.map encGRow)) rfl) ?_
        refine s_dof (o_len (enc := encGRow) rfl) fun hl40 => ?_
        refine s_do (o_q (.bool (decide ((i_22 : Int) < (a_1.length : Int)))) rfl rfl rfl) ?_
        refine w_done ?_
        refine k_seq ?_
        refine w_condf rfl hq37 ?_
        refine w_exit ?_
        refine k_seqx ?_
        refine k_loopx ?_
        refine k_blkx ?_
        obtain rfl := os hc1
        exact k_cutn ⟨_, rfl⟩ ⟨[], [], _, _, rfl, rfl, ⟨.refl _, trivial⟩, .refl _⟩
      · rw [hd38, laws_szRowS_L1.eq_2] at hc1
        have hq37 := dlt hlt33
        refine awp_seq ?_
        refine awp_seq ?_
        refine w_reg ?_
        refine s_do (o_mov (.int .i64 (i_22 : Int)) rfl) ?_
        refine s_do (o_mov (.lst 2 (a_1.map encGRow)) rfl) ?_
        refine s_dof (o_len (enc := encGRow) rfl) fun hl41 => ?_
        refine s_do (o_q (.bool (decide ((i_22 : Int) < (a_1.length : Int)))) rfl rfl rfl) ?_
        refine w_done ?_
        refine k_seq ?_
        refine w_condt rfl hq37 ?_
        refine w_skip ?_
        refine k_seq ?_
        refine awp_seq ?_
        refine w_blk ?_
        refine awp_seq ?_
        refine w_reg ?_
        obtain ⟨r_42, er43, hc1⟩ := ob hc1
        refine s_do (o_mov (.lst 2 (a_1.map encGRow)) rfl) ?_
        refine s_do (o_mov (.int .i64 (i_22 : Int)) rfl) ?_
        refine s_do (o_iaddrn (enc := encGRow) rfl rfl hx34) ?_
        refine s_do (o_q (encGRow x_39) rfl nle rfl) ?_
        refine s_do (o_mov (.int .i64 left_21) rfl) ?_
        refine s_do (o_call (w_laws_szRow _ _ _ er43) rfl (.refl _) rfl) ?_
        refine s_do (o_mov (.int .i64 r_42) rfl) ?_
        refine w_done ?_
        refine k_seq ?_
        refine awp_seq ?_
        refine w_reg ?_
        refine s_do (o_mov (.int .i64 r_42) rfl) ?_
        refine s_do (o_q (.bool (decide (r_42 < 0))) rfl rfl rfl) ?_
        refine w_done ?_
        refine k_seq ?_
        rcases oi hc1 with ⟨c44, hc1⟩ | ⟨c44, hc1⟩
        · refine w_condt rfl c44 ?_
          refine awp_seq ?_
          refine w_reg ?_
          refine s_do (o_mov (.int .i64 (-1)) rfl) ?_
          refine w_done ?_
          refine k_seq ?_
          refine w_ret ?_
          obtain rfl := os hc1
          obtain rfl := os hf
          exact r_flat ⟨trivial, trivial⟩ rfl (.refl _)
        · refine w_condf rfl (bf c44) ?_
          refine w_skip ?_
          refine k_blk ?_
          refine k_seq ?_
          refine w_reg ?_
          refine s_do (o_mov (.int .i64 (i_22 : Int)) rfl) ?_
          refine s_do (o_q (.int .i64 (w64 ((i_22 : Int) + 1))) rfl rfl rfl) ?_
          refine s_do (o_mov (.int .i64 (w64 ((i_22 : Int) + 1))) rfl) ?_
          refine w_done ?_
          exact k_loopn ⟨(r_42, (i_22 + 1)), hc1⟩ (mul hlt33) ⟨[], [], _, _, rfl, rfl, ⟨.refl _, ⟨.refl _, ⟨.of_eq (congrArg (AV.int _) (w64_incr hlt33 hl41)), trivial⟩⟩⟩, .refl _⟩
    · rintro ⟨left_31, rfl⟩
      refine awp_seq ?_
      refine w_reg ?_
      refine s_do (o_mov (.int .i64 left_31) rfl) ?_
      refine s_do (o_mov (.int .i64 left_31) rfl) ?_
      refine w_done ?_
      refine k_seq ?_
      refine w_ret ?_
      obtain rfl := os hf
      exact r_flat ⟨trivial, trivial⟩ rfl (.refl _)

/- laws.toAtom -/
def c36 : ACode :=
 (.seq (.reg (.q ⟨(some 1), none, .box 3 (.t 0)⟩
 (.q ⟨(some 2), none, .box 3 (.c (.agg [(.int .i64 0), (.int .i64 0), (.str [])]))⟩
 .done)))
 (.seq (.reg (.q ⟨(some 3), none, .box 3 (.c (.agg [(.int .i64 0), (.int .i64 0), (.str [])]))⟩
 .done))
 (.seq (.reg (.q ⟨(some 4), none, .faddr 0 (.t 1)⟩
 (.q ⟨(some 5), none, .load 1 false (.t 4)⟩
 (.q ⟨(some 6), none, .faddr 0 (.t 3)⟩
 (.q ⟨none, none, .store 1 (.t 6) (.t 5)⟩
 .done)))))
 (.seq (.reg (.q ⟨(some 7), none, .faddr 1 (.t 1)⟩
 (.q ⟨(some 8), none, .load 1 false (.t 7)⟩
 (.q ⟨(some 9), none, .faddr 1 (.t 3)⟩
 (.q ⟨none, none, .store 1 (.t 9) (.t 8)⟩
 .done)))))
 (.seq (.reg (.q ⟨(some 10), none, .faddr 2 (.t 1)⟩
 (.q ⟨(some 11), none, .load 1 false (.t 10)⟩
 (.q ⟨(some 12), none, .faddr 2 (.t 3)⟩
 (.q ⟨none, none, .store 1 (.t 12) (.t 11)⟩
 .done)))))
 (.seq (.reg (.q ⟨(some 13), none, .load 3 true (.t 3)⟩
 (.q ⟨none, none, .store 3 (.t 2) (.t 13)⟩
 .done)))
 .ret))))))
theorem fc36 : fcomp Try.prog Try.f36 = some (c36.erase, [.load 3 true (.t 2)], 14) := by kernel_rfl
def laws_toAtom (a_1 : GAtom) : Option GAtom :=
    some a_1
theorem w_laws_toAtom (a_1 : GAtom) (r : GAtom) (hf : laws_toAtom a_1 = some r) : CallOK Try.prog 36 .flat [(encGAtom a_1)] (encGAtom r) := by
  refine CallOK.of_awp mixed Try.func36 fc36 nle ?_
  rw [argT_eq]
  unfold laws_toAtom at hf
  unfold c36
  refine (show awp Try.prog false 0 _ (ofL [(0, (encGAtom a_1))]) [] _ from ?_)
  refine awp_seq ?_
  refine w_reg ?_
  refine s_do (o_box (j := 0) (c := (.agg [(.int .i64 a_1.Kind), (.int .i64 a_1.N), (.str a_1.T)])) rfl trivial rfl rfl) ?_
  refine s_do (o_box (j := 1) (c := (.agg [(.int .i64 0), (.int .i64 0), (.str [])])) rfl trivial rfl rfl) ?_
  refine w_done ?_
  refine k_seq ?_
  refine awp_seq ?_
  refine w_reg ?_
  refine s_do (o_box (j := 2) (c := (.agg [(.int .i64 0), (.int .i64 0), (.str [])])) rfl trivial rfl rfl) ?_
  refine w_done ?_
  refine k_seq ?_
  refine awp_seq ?_
  refine w_reg ?_
  refine s_do (o_q (.ptr 0 0 0) rfl trivial rfl) ?_
  refine s_do (o_q (.int .i64 a_1.Kind) rfl nle rfl) ?_
  refine s_do (o_q (.ptr 2 0 0) rfl trivial rfl) ?_
  refine s_do0 (o_storebox (v := (.int .i64 a_1.Kind)) (y' := (.agg [(.int .i64 a_1.Kind), (.int .i64 0), (.str [])])) rfl rfl rfl trivial ⟨rfl, nle⟩ ⟨⟨rfl, trivial⟩, trivial⟩ rfl) ?_
  refine w_done ?_
  refine k_seq ?_
  refine awp_seq ?_
  refine w_reg ?_
  refine s_do (o_q (.ptr 0 0 1) rfl trivial rfl) ?_
  refine s_do (o_q (.int .i64 a_1.N) rfl nle rfl) ?_
  refine s_do (o_q (.ptr 2 0 1) rfl trivial rfl) ?_
  refine s_do0 (o_storebox (v := (.int .i64 a_1.N)) (y' := (.agg [(.int .i64 a_1.Kind), (.int .i64 a_1.N), (.str [])])) rfl rfl rfl trivial ⟨rfl, nle⟩ ⟨⟨rfl, trivial⟩, trivial⟩ rfl) ?_
  refine w_done ?_
  refine k_seq ?_
  refine awp_seq ?_
  refine w_reg ?_
  refine s_do (o_q (.ptr 0 0 2) rfl trivial rfl) ?_
  refine s_do (o_q (.str a_1.T) rfl nle rfl) ?_
  refine s_do (o_q (.ptr 2 0 2) rfl trivial rfl) ?_
  refine s_do0 (o_storebox (v := (.str a_1.T)) (y' := (.agg [(.int .i64 a_1.Kind), (.int .i64 a_1.N), (.str a_1.T)])) rfl rfl rfl trivial ⟨rfl, nle⟩ ⟨⟨rfl, trivial⟩, trivial⟩ rfl) ?_
  refine w_done ?_
  refine k_seq ?_
  refine awp_seq ?_
  refine w_reg ?_
  refine s_do (o_q (.agg [(.int .i64 a_1.Kind), (.int .i64 a_1.N), (.str a_1.T)]) rfl nle rfl) ?_
  refine s_do0 (o_storebox (v := (.agg [(.int .i64 a_1.Kind), (.int .i64 a_1.N), (.str a_1.T)])) (y' := (.agg [(.int .i64 a_1.Kind), (.int .i64 a_1.N), (.str a_1.T)])) rfl rfl rfl trivial ⟨rfl, nle⟩ ⟨⟨rfl, trivial⟩, ⟨⟨rfl, trivial⟩, ⟨⟨rfl, trivial⟩, trivial⟩⟩⟩ rfl) ?_
  refine w_done ?_
  refine k_seq ?_
  refine w_ret ?_
  obtain rfl := os hf
  exact r_flat ⟨nle, trivial⟩ rfl (.refl _)

/- laws.toAtomS -/
def c70 : ACode :=
 (.seq (.reg (.q ⟨(some 2), none, .mov (.c .nil)⟩
 .done))
 (.seq (.reg (.q ⟨(some 5), none, .mov (.t 0)⟩
 (.q ⟨(some 6), none, .len (.t 5)⟩
 (.q ⟨(some 7), none, .mkslice 3 32 (.agg [(.int .i64 0), (.int .i64 0), (.str [])]) (.t 6) (.t 6)⟩
 (.q ⟨(some 3), none, .mov (.t 7)⟩
 .done)))))
 (.seq (.seq (.reg (.q ⟨(some 4), none, .mov (.c (.int .i64 0))⟩
 .done))
 (.block 0 (.loop (.seq (.seq (.reg (.q ⟨(some 8), none, .mov (.t 4)⟩
 (.q ⟨(some 9), none, .mov (.t 0)⟩
 (.q ⟨(some 10), none, .len (.t 9)⟩
 (.q ⟨(some 11), none, .bin .lss (.t 8) (.t 10)⟩
 .done)))))
 (.cond (.t 11) .skip
 (.exit 0)))
 (.seq (.block 1 (.reg (.q ⟨(some 14), none, .mov (.t 3)⟩
 (.q ⟨(some 15), none, .mov (.t 4)⟩
 (.q ⟨(some 16), none, .mov (.t 0)⟩
 (.q ⟨(some 17), none, .mov (.t 4)⟩
 (.q ⟨(some 18), none, .iaddr 3 (.t 16) (.t 17)⟩
 (.q ⟨(some 19), none, .load 3 true (.t 18)⟩
 (.q ⟨(some 20), none, .call 36 [(.t 19)]⟩
 (.q ⟨(some 21), none, .iaddr 3 (.t 14) (.t 15)⟩
 (.q ⟨none, none, .store 3 (.t 21) (.t 20)⟩
 .done)))))))))))
 (.reg (.q ⟨(some 12), none, .mov (.t 4)⟩
 (.q ⟨(some 13), none, .bin .add (.t 12) (.c (.int .i64 1))⟩
 (.q ⟨(some 4), none, .mov (.t 13)⟩
 .done)))))))))
 (.cut (.seq (.reg (.q ⟨(some 22), none, .mov (.t 3)⟩
 (.q ⟨(some 2), none, .mov (.t 22)⟩
 .done)))
 .ret)))))
theorem fc70 : fcomp Try.prog Try.f70 = some (c70.erase, [.mov (.t 2)], 23) := by kernel_rfl
def laws_toAtomS_L1  : List GAtom → Nat → (List GAtom) → Option (List GAtom)
  | [], i_24, out_25 =>
    some out_25
  | x_44 :: xs, i_24, out_25 =>
    (laws_toAtom x_44).bind fun r_47 =>
    if i_24 < out_25.length then
    (out_25[i_24]?).bind fun x_50 =>
    laws_toAtomS_L1 xs (i_24 + 1) (out_25.set i_24 r_47)
    else none

def laws_toAtomS (a_1 : (List GAtom)) : Option (List GAtom) :=
    if (a_1.length : Int) ≤ 2 ^ 30 then
    (laws_toAtomS_L1 a_1 0 (List.replicate a_1.length (⟨0, 0, []⟩ : GAtom))).bind fun out_36 =>
    some out_36
    else none
theorem w_laws_toAtomS (a_1 : (List GAtom)) (r : (List GAtom)) (hf : laws_toAtomS a_1 = some r) : CallOK Try.prog 70 .fresh [(.lst 3 (a_1.map encGAtom))] (.lst 3 (r.map encGAtom)) := by
  refine CallOK.of_awp mixed Try.func70 fc70 nle ?_
  rw [argT_eq]
  unfold laws_toAtomS at hf
  unfold c70
  refine (show awp Try.prog true 0 _ (ofL [(0, (.lst 3 (a_1.map encGAtom)))]) [] _ from ?_)
  refine awp_seq ?_
  refine w_reg ?_
  refine s_do (o_mov .nil rfl) ?_
  refine w_done ?_
  refine k_seq ?_
  refine awp_seq ?_
  refine w_reg ?_
  obtain ⟨g3, hf⟩ := og hf
  refine s_do (o_mov (.lst 3 (a_1.map encGAtom)) rfl) ?_
  refine s_dof (o_len (enc := encGAtom) rfl) fun hl2 => ?_
  refine s_do (o_mkslice (j := 0) (enc := encGAtom) (m := a_1.length) (⟨0, 0, []⟩ : GAtom) (.refl _) rfl rfl (Int.le_refl _) g3 rfl) ?_
  refine s_do (o_mov (.own 0 0 a_1.length) rfl) ?_
  refine w_done ?_
  refine k_seq ?_
  refine awp_seq ?_
  refine awp_seq ?_
  refine w_reg ?_
  refine s_do (o_mov (.int .i64 0) rfl) ?_
  refine w_done ?_
  refine k_seq ?_
  obtain ⟨out_36, hb1, hf⟩ := ob hf
  refine awp_cut ([(3, (.own 0 0 out_36.length))], [.row 3 (out_36.map encGAtom)]) ?_ ?_
  · refine awp_loop (X := {q : (Nat × (List GAtom)) // laws_toAtomS_L1 (a_1.drop q.1) q.1 q.2 = some out_36}) (fun q => ([(0, (.lst 3 (a_1.map encGAtom))), (3, (.own 0 0 q.1.2.length)), (4, (.int .i64 (q.1.1 : Int)))], [.row 3 (q.1.2.map encGAtom)])) (fun q => a_1.length - q.1.1) ⟨(0, List.replicate a_1.length (⟨0, 0, []⟩ : GAtom)), hb1⟩ ⟨[], [0], _, _, rfl, rfl, ⟨.refl _, ⟨.of_eq (congrArg (AV.own _ 0) (by simp)), ⟨.refl _, trivial⟩⟩⟩, .refl _⟩ ?_
    rintro ⟨⟨i_24, out_25⟩, hc1⟩
    have hc1 : laws_toAtomS_L1 (a_1.drop i_24) i_24 out_25 = some out_36 := hc1
    refine (show awp Try.prog true 0 _ (ofL [(0, (.lst 3 (a_1.map encGAtom))), (3, (.own 0 0 out_25.length)), (4, (.int .i64 (i_24 : Int)))]) [.row 3 (out_25.map encGAtom)] _ from ?_)
    rcases dropc a_1 i_24 with ⟨hie40, hd43⟩ | ⟨hlt38, x_44, hx39, hd43⟩
    · rw [hd43, laws_toAtomS_L1.eq_1] at hc1
      have hq42 := dlf hie40
      refine awp_seq ?_
      refine awp_seq ?_
      refine w_reg ?_
      refine s_do (o_mov (.int .i64 (i_24 : Int)) rfl) ?_
      refine s_do (o_mov (.lst 3 (a_1.map encGAtom)) rfl) ?_
      refine s_dof (o_len (enc := encGAtom) rfl) fun hl45 => ?_
      refine s_do (o_q (.bool (decide ((i_24 : Int) < (a_1.length : Int)))) rfl rfl rfl) ?_
      refine w_done ?_
      refine k_seq ?_
      refine w_condf rfl hq42 ?_
      refine w_exit ?_
      refine k_seqx ?_
      refine k_loopx ?_
      refine k_blkx ?_
      obtain rfl := os hc1
      exact ⟨[], [0], _, _, rfl, rfl, ⟨.refl _, trivial⟩, .refl _⟩
    · rw [hd43, laws_toAtomS_L1.eq_2] at hc1
      have hq42 := dlt hlt38
      refine awp_seq ?_
      refine awp_seq ?_
      refine w_reg ?_
      refine s_do (o_mov (.int .i64 (i_24 : Int)) rfl) ?_
      refine s_do (o_mov (.lst 3 (a_1.map encGAtom)) rfl) ?_
      refine s_dof (o_len (enc := encGAtom) rfl) fun hl46 => ?_
      refine s_do (o_q (.bool (decide ((i_24 : Int) < (a_1.length : Int)))) rfl rfl rfl) ?_
      refine w_done ?_
      refine k_seq ?_
      refine w_condt rfl hq42 ?_
      refine w_skip ?_
      refine k_seq ?_
      refine awp_seq ?_
      refine w_blk ?_
      refine w_reg ?_
      obtain ⟨r_47, er48, hc1⟩ := ob hc1
      obtain ⟨g49, hc1⟩ := og hc1
      obtain ⟨x_50, ex51, hc1⟩ := ob hc1
      refine s_do (o_mov (.own 0 0 out_25.length) rfl) ?_
      refine s_do (o_mov (.int .i64 (i_24 : Int)) rfl) ?_
      refine s_do (o_mov (.lst 3 (a_1.map encGAtom)) rfl) ?_
      refine s_do (o_mov (.int .i64 (i_24 : Int)) rfl) ?_
      refine s_do (o_iaddrn (enc := encGAtom) rfl rfl hx39) ?_
      refine s_do (o_q (encGAtom x_44) rfl nle rfl) ?_
      refine s_do (o_call (w_laws_toAtom _ _ er48) rfl (.refl _) rfl) ?_
      refine s_do (o_iaddrownn rfl rfl g49 rfl rfl) ?_
      refine s_do0 (o_storerow (v' := (encGAtom r_47)) (e' := r_47) rfl rfl ex51 rfl rfl rfl (by decide) (fun _ => by decide) ⟨rfl, nle⟩ (.refl _) rfl) ?_
      refine w_done ?_
      refine k_blk ?_
      refine k_seq ?_
      refine w_reg ?_
      refine s_do (o_mov (.int .i64 (i_24 : Int)) rfl) ?_
      refine s_do (o_q (.int .i64 (w64 ((i_24 : Int) + 1))) rfl rfl rfl) ?_
      refine s_do (o_mov (.int .i64 (w64 ((i_24 : Int) + 1))) rfl) ?_
      refine w_done ?_
      exact k_loopn ⟨((i_24 + 1), out_25.set i_24 r_47), hc1⟩ (mul hlt38) ⟨[], [0], _, _, rfl, rfl, ⟨.refl _, ⟨.of_eq (congrArg (AV.own _ 0) (by simp)), ⟨.of_eq (congrArg (AV.int _) (w64_incr hlt38 hl46)), trivial⟩⟩⟩, .refl _⟩
  · refine awp_seq ?_
    refine w_reg ?_
    refine s_do (o_mov (.own 0 0 out_36.length) rfl) ?_
    refine s_do (o_mov (.own 0 0 out_36.length) rfl) ?_
    refine w_done ?_
    refine k_seq ?_
    refine w_ret ?_
    obtain rfl := os hf
    exact r_fresh ⟨trivial, trivial⟩ rfl (by decide) (.of_eq (congrArg (AV.lst _) (tk (enc := encGAtom) out_36)))

/- laws.toAtomSS -/
def c156 : ACode :=
 (.seq (.reg (.q ⟨(some 2), none, .mov (.c .nil)⟩
 .done))
 (.seq (.reg (.q ⟨(some 5), none, .mov (.t 0)⟩
 (.q ⟨(some 6), none, .len (.t 5)⟩
 (.q ⟨(some 7), none, .mkslice 1 24 .nil (.t 6) (.t 6)⟩
 (.q ⟨(some 3), none, .mov (.t 7)⟩
 .done)))))
 (.seq (.seq (.reg (.q ⟨(some 4), none, .mov (.c (.int .i64 0))⟩
 .done))
 (.block 0 (.loop (.seq (.seq (.reg (.q ⟨(some 8), none, .mov (.t 4)⟩
 (.q ⟨(some 9), none, .mov (.t 0)⟩
 (.q ⟨(some 10), none, .len (.t 9)⟩
 (.q ⟨(some 11), none, .bin .lss (.t 8) (.t 10)⟩
 .done)))))
 (.cond (.t 11) .skip
 (.exit 0)))
 (.seq (.block 1 (.reg (.q ⟨(some 14), none, .mov (.t 3)⟩
 (.q ⟨(some 15), none, .mov (.t 4)⟩
 (.q ⟨(some 16), none, .mov (.t 0)⟩
 (.q ⟨(some 17), none, .mov (.t 4)⟩
 (.q ⟨(some 18), none, .iaddr 1 (.t 16) (.t 17)⟩
 (.q ⟨(some 19), none, .load 1 false (.t 18)⟩
 (.q ⟨(some 20), none, .call 70 [(.t 19)]⟩
 (.q ⟨(some 21), none, .iaddr 1 (.t 14) (.t 15)⟩
 (.q ⟨none, none, .store 1 (.t 21) (.t 20)⟩
 .done)))))))))))
 (.reg (.q ⟨(some 12), none, .mov (.t 4)⟩
 (.q ⟨(some 13), none, .bin .add (.t 12) (.c (.int .i64 1))⟩
 (.q ⟨(some 4), none, .mov (.t 13)⟩
 .done)))))))))
 (.cut (.seq (.reg (.q ⟨(some 22), none, .mov (.t 3)⟩
 (.q ⟨(some 2), none, .mov (.t 22)⟩
 .done)))
 .ret)))))
theorem fc156 : fcomp Try.prog Try.f156 = some (c156.erase, [.mov (.t 2)], 23) := by kernel_rfl
def laws_toAtomSS_L1  : List (List GAtom) → Nat → (List (List GAtom)) → Option (List (List GAtom))
  | [], i_24, out_25 =>
    some out_25
  | x_44 :: xs, i_24, out_25 =>
    (laws_toAtomS x_44).bind fun r_47 =>
    if i_24 < out_25.length then
    (out_25[i_24]?).bind fun x_50 =>
    laws_toAtomSS_L1 xs (i_24 + 1) (out_25.set i_24 r_47)
    else none

def laws_toAtomSS (a_1 : (List (List GAtom))) : Option (List (List GAtom)) :=
    if (a_1.length : Int) ≤ 2 ^ 30 then
    (laws_toAtomSS_L1 a_1 0 (List.replicate a_1.length [])).bind fun out_36 =>
    some out_36
    else none
theorem w_laws_toAtomSS (a_1 : (List (List GAtom))) (r : (List (List GAtom))) (hf : laws_toAtomSS a_1 = some r) : CallOK Try.prog 156 .fresh [(.lst 1 (a_1.map (encL 3 encGAtom)))] (.lst 1 (r.map (encL 3 encGAtom))) := by
  refine CallOK.of_awp mixed Try.func156 fc156 nle ?_
  rw [argT_eq]
  unfold laws_toAtomSS at hf
  unfold c156
  refine (show awp Try.prog true 0 _ (ofL [(0, (.lst 1 (a_1.map (encL 3 encGAtom))))]) [] _ from ?_)
  refine awp_seq ?_
  refine w_reg ?_
  refine s_do (o_mov .nil rfl) ?_
  refine w_done ?_
  refine k_seq ?_
  refine awp_seq ?_
  refine w_reg ?_
  obtain ⟨g3, hf⟩ := og hf
  refine s_do (o_mov (.lst 1 (a_1.map (encL 3 encGAtom))) rfl) ?_
  refine s_dof (o_len (enc := (encL 3 encGAtom)) rfl) fun hl2 => ?_
  refine s_do (o_mkslice (j := 0) (enc := (encL 3 encGAtom)) (m := a_1.length) [] (.nil _) rfl rfl (Int.le_refl _) g3 rfl) ?_
  refine s_do (o_mov (.own 0 0 a_1.length) rfl) ?_
  refine w_done ?_
  refine k_seq ?_
  refine awp_seq ?_
  refine awp_seq ?_
  refine w_reg ?_
  refine s_do (o_mov (.int .i64 0) rfl) ?_
  refine w_done ?_
  refine k_seq ?_
  obtain ⟨out_36, hb1, hf⟩ := ob hf
  refine awp_cut ([(3, (.own 0 0 out_36.length))], [.row 1 (out_36.map (encL 3 encGAtom))]) ?_ ?_
  · refine awp_loop (X := {q : (Nat × (List (List GAtom))) // laws_toAtomSS_L1 (a_1.drop q.1) q.1 q.2 = some out_36}) (fun q => ([(0, (.lst 1 (a_1.map (encL 3 encGAtom)))), (3, (.own 0 0 q.1.2.length)), (4, (.int .i64 (q.1.1 : Int)))], [.row 1 (q.1.2.map (encL 3 encGAtom))])) (fun q => a_1.length - q.1.1) ⟨(0, List.replicate a_1.length []), hb1⟩ ⟨[], [0], _, _, rfl, rfl, ⟨.refl _, ⟨.of_eq (congrArg (AV.own _ 0) (by simp)), ⟨.refl _, trivial⟩⟩⟩, .refl _⟩ ?_
    rintro ⟨⟨i_24, out_25⟩, hc1⟩
    have hc1 : laws_toAtomSS_L1 (a_1.drop i_24) i_24 out_25 = some out_36 := hc1
    refine (show awp Try.prog true 0 _ (ofL [(0, (.lst 1 (a_1.map (encL 3 encGAtom)))), (3, (.own 0 0 out_25.length)), (4, (.int .i64 (i_24 : Int)))]) [.row 1 (out_25.map (encL 3 encGAtom))] _ from ?_)
    rcases dropc a_1 i_24 with ⟨hie40, hd43⟩ | ⟨hlt38, x_44, hx39, hd43⟩
    · rw [hd43, laws_toAtomSS_L1.eq_1] at hc1
      have hq42 := dlf hie40
      refine awp_seq ?_
      refine awp_seq ?_
      refine w_reg ?_
      refine s_do (o_mov (.int .i64 (i_24 : Int)) rfl) ?_
      refine s_do (o_mov (.lst 1 (a_1.map (encL 3 encGAtom))) rfl) ?_
      refine s_dof (o_len (enc := (encL 3 encGAtom)) rfl) fun hl45 => ?_
      refine s_do (o_q (.bool (decide ((i_24 : Int) < (a_1.length : Int)))) rfl rfl rfl) ?_
      refine w_done ?_
      refine k_seq ?_
      refine w_condf rfl hq42 ?_
      refine w_exit ?_
      refine k_seqx ?_
      refine k_loopx ?_
      refine k_blkx ?_
      obtain rfl := os hc1
      exact ⟨[], [0], _, _, rfl, rfl, ⟨.refl _, trivial⟩, .refl _⟩
    · rw [hd43, laws_toAtomSS_L1.eq_2] at hc1
      have hq42 := dlt hlt38
      refine awp_seq ?_
      refine awp_seq ?_
      refine w_reg ?_
      refine s_do (o_mov (.int .i64 (i_24 : Int)) rfl) ?_
      refine s_do (o_mov (.lst 1 (a_1.map (encL 3 encGAtom))) rfl) ?_
      refine s_dof (o_len (enc := (encL 3 encGAtom)) rfl) fun hl46 => ?_
      refine s_do (o_q (.bool (decide ((i_24 : Int) < (a_1.length : Int)))) rfl rfl rfl) ?_
      refine w_done ?_
      refine k_seq ?_
      refine w_condt rfl hq42 ?_
      refine w_skip ?_
      refine k_seq ?_
      refine awp_seq ?_
      refine w_blk ?_
      refine w_reg ?_
      obtain ⟨r_47, er48, hc1⟩ := ob hc1
      obtain ⟨g49, hc1⟩ := og hc1
      obtain ⟨x_50, ex51, hc1⟩ := ob hc1
      refine s_do (o_mov (.own 0 0 out_25.length) rfl) ?_
      refine s_do (o_mov (.int .i64 (i_24 : Int)) rfl) ?_
      refine s_do (o_mov (.lst 1 (a_1.map (encL 3 encGAtom))) rfl) ?_
      refine s_do (o_mov (.int .i64 (i_24 : Int)) rfl) ?_
      refine s_do (o_iaddrn (enc := (encL 3 encGAtom)) rfl rfl hx39) ?_
      refine s_do (o_q (.lst 3 (x_44.map encGAtom)) rfl ⟨rfl, rfl⟩ rfl) ?_
      refine s_do (o_callf (v := (.own 1 0 r_47.length)) (h' := [.row 3 (r_47.map encGAtom)]) (w_laws_toAtomS _ _ er48) rfl (.refl _) (by simp only [openV, openVs, List.length_map, List.nil_append, List.append_nil, List.cons_append]; rfl)) ?_
      refine s_do (o_iaddrownn rfl rfl g49 rfl rfl) ?_
      refine s_do0 (o_storerow (v' := (.lst 3 (r_47.map encGAtom))) (e' := r_47) rfl rfl ex51 rfl rfl (by simp only [tk, tko, List.take_length]) (by decide) (fun _ => by decide) ⟨rfl, rfl, rfl⟩ (.refl _) rfl) ?_
      refine w_done ?_
      refine k_blk ?_
      refine k_seq ?_
      refine w_reg ?_
      refine s_do (o_mov (.int .i64 (i_24 : Int)) rfl) ?_
      refine s_do (o_q (.int .i64 (w64 ((i_24 : Int) + 1))) rfl rfl rfl) ?_
      refine s_do (o_mov (.int .i64 (w64 ((i_24 : Int) + 1))) rfl) ?_
      refine w_done ?_
      exact k_loopn ⟨((i_24 + 1), out_25.set i_24 r_47), hc1⟩ (mul hlt38) ⟨[], [0], _, _, rfl, rfl, ⟨.refl _, ⟨.of_eq (congrArg (AV.own _ 0) (by simp)), ⟨.of_eq (congrArg (AV.int _) (w64_incr hlt38 hl46)), trivial⟩⟩⟩, .refl _⟩
  · refine awp_seq ?_
    refine w_reg ?_
    refine s_do (o_mov (.own 0 0 out_36.length) rfl) ?_
    refine s_do (o_mov (.own 0 0 out_36.length) rfl) ?_
    refine w_done ?_
    refine k_seq ?_
    refine w_ret ?_
    obtain rfl := os hf
    exact r_fresh ⟨trivial, trivial⟩ rfl (by decide) (.of_eq (congrArg (AV.lst _) (tk (enc := (encL 3 encGAtom)) out_36)))

/- laws.toRow -/
def c92 : ACode :=
 (.seq (.reg (.q ⟨(some 1), none, .box 2 (.t 0)⟩
 (.q ⟨(some 2), none, .box 2 (.c (.agg [(.int .i64 0), .nil]))⟩
 .done)))
 (.seq (.reg (.q ⟨(some 3), none, .box 2 (.c (.agg [(.int .i64 0), .nil]))⟩
 .done))
 (.seq (.reg (.q ⟨(some 4), none, .faddr 0 (.t 1)⟩
 (.q ⟨(some 5), none, .load 1 false (.t 4)⟩
 (.q ⟨(some 6), none, .faddr 0 (.t 3)⟩
 (.q ⟨none, none, .store 1 (.t 6) (.t 5)⟩
 .done)))))
 (.seq (.reg (.q ⟨(some 7), none, .faddr 1 (.t 1)⟩
 (.q ⟨(some 8), none, .load 1 false (.t 7)⟩
 (.q ⟨(some 9), none, .call 156 [(.t 8)]⟩
 (.q ⟨(some 10), none, .faddr 1 (.t 3)⟩
 (.q ⟨none, none, .store 1 (.t 10) (.t 9)⟩
 .done))))))
 (.seq (.reg (.q ⟨(some 11), none, .load 2 true (.t 3)⟩
 (.q ⟨none, none, .store 2 (.t 2) (.t 11)⟩
 .done)))
 .ret)))))
theorem fc92 : fcomp Try.prog Try.f92 = some (c92.erase, [.load 2 true (.t 2)], 12) := by kernel_rfl
def laws_toRow (a_1 : GRow) : Option GRow :=
    (laws_toAtomSS a_1.Cells).bind fun r_2 =>
    some (⟨a_1.Id, r_2⟩ : GRow)
theorem w_laws_toRow (a_1 : GRow) (r : GRow) (hf : laws_toRow a_1 = some r) : CallOK Try.prog 92 .fresh [(encGRow a_1)] (encGRow r) := by
  refine CallOK.of_awp mixed Try.func92 fc92 nle ?_
  rw [argT_eq]
  unfold laws_toRow at hf
  unfold c92
  refine (show awp Try.prog true 0 _ (ofL [(0, (encGRow a_1))]) [] _ from ?_)
  refine awp_seq ?_
  refine w_reg ?_
  refine s_do (o_box (j := 0) (c := (.agg [(.int .i64 a_1.Id), (.lst 1 (a_1.Cells.map (encL 3 encGAtom)))])) rfl trivial rfl rfl) ?_
  refine s_do (o_box (j := 1) (c := (.agg [(.int .i64 0), .nil])) rfl trivial rfl rfl) ?_
  refine w_done ?_
  refine k_seq ?_
  refine awp_seq ?_
  refine w_reg ?_
  refine s_do (o_box (j := 2) (c := (.agg [(.int .i64 0), .nil])) rfl trivial rfl rfl) ?_
  refine w_done ?_
  refine k_seq ?_
  refine awp_seq ?_
  refine w_reg ?_
  refine s_do (o_q (.ptr 0 0 0) rfl trivial rfl) ?_
  refine s_do (o_q (.int .i64 a_1.Id) rfl nle rfl) ?_
  refine s_do (o_q (.ptr 2 0 0) rfl trivial rfl) ?_
  refine s_do0 (o_storebox (v := (.int .i64 a_1.Id)) (y' := (.agg [(.int .i64 a_1.Id), .nil])) rfl rfl rfl trivial ⟨rfl, nle⟩ ⟨⟨rfl, trivial⟩, trivial⟩ rfl) ?_
  refine w_done ?_
  refine k_seq ?_
  refine awp_seq ?_
  refine w_reg ?_
  obtain ⟨r_2, er3, hf⟩ := ob hf
  refine s_do (o_q (.ptr 0 0 1) rfl trivial rfl) ?_
  refine s_do (o_q (.lst 1 (a_1.Cells.map (encL 3 encGAtom))) rfl nle rfl) ?_
  refine s_do (o_callf (v := (.own 3 0 r_2.length)) (h' := [.row 1 (r_2.map (encL 3 encGAtom))]) (w_laws_toAtomSS _ _ er3) rfl (.refl _) (by simp only [openV, openVs, List.length_map, List.nil_append, List.append_nil, List.cons_append]; rfl)) ?_
  refine s_do (o_q (.ptr 2 0 1) rfl trivial rfl) ?_
  refine s_do0 (o_storebox (v := (.own 3 0 r_2.length)) (y' := (.agg [(.int .i64 a_1.Id), (.own 3 0 r_2.length)])) rfl rfl rfl trivial ⟨rfl, nle⟩ ⟨⟨rfl, trivial⟩, trivial⟩ rfl) ?_
  refine w_done ?_
  refine k_seq ?_
  refine awp_seq ?_
  refine w_reg ?_
  refine s_do (o_q (.agg [(.int .i64 a_1.Id), (.own 3 0 r_2.length)]) rfl nle rfl) ?_
  refine s_do0 (o_storebox (v := (.agg [(.int .i64 a_1.Id), (.own 3 0 r_2.length)])) (y' := (.agg [(.int .i64 a_1.Id), (.own 3 0 r_2.length)])) rfl rfl rfl trivial ⟨rfl, nle⟩ ⟨⟨rfl, trivial⟩, ⟨⟨rfl, trivial⟩, trivial⟩⟩ rfl) ?_
  refine w_done ?_
  refine k_seq ?_
  refine w_ret ?_
  obtain rfl := os hf
  exact r_fresh ⟨nle, trivial⟩ rfl (by decide) (.agg (.cons (.refl _) (.cons (.of_eq (congrArg (AV.lst _) (tk (enc := (encL 3 encGAtom)) r_2))) .nil)))

/- laws.toRowS -/
def c27 : ACode :=
 (.seq (.reg (.q ⟨(some 2), none, .mov (.c .nil)⟩
 .done))
 (.seq (.reg (.q ⟨(some 5), none, .mov (.t 0)⟩
 (.q ⟨(some 6), none, .len (.t 5)⟩
 (.q ⟨(some 7), none, .mkslice 2 32 (.agg [(.int .i64 0), .nil]) (.t 6) (.t 6)⟩
 (.q ⟨(some 3), none, .mov (.t 7)⟩
 .done)))))
 (.seq (.seq (.reg (.q ⟨(some 4), none, .mov (.c (.int .i64 0))⟩
 .done))
 (.block 0 (.loop (.seq (.seq (.reg (.q ⟨(some 8), none, .mov (.t 4)⟩
 (.q ⟨(some 9), none, .mov (.t 0)⟩
 (.q ⟨(some 10), none, .len (.t 9)⟩
 (.q ⟨(some 11), none, .bin .lss (.t 8) (.t 10)⟩
 .done)))))
 (.cond (.t 11) .skip
 (.exit 0)))
 (.seq (.block 1 (.reg (.q ⟨(some 14), none, .mov (.t 3)⟩
 (.q ⟨(some 15), none, .mov (.t 4)⟩
 (.q ⟨(some 16), none, .mov (.t 0)⟩
 (.q ⟨(some 17), none, .mov (.t 4)⟩
 (.q ⟨(some 18), none, .iaddr 2 (.t 16) (.t 17)⟩
 (.q ⟨(some 19), none, .load 2 true (.t 18)⟩
 (.q ⟨(some 20), none, .call 92 [(.t 19)]⟩
 (.q ⟨(some 21), none, .iaddr 2 (.t 14) (.t 15)⟩
 (.q ⟨none, none, .store 2 (.t 21) (.t 20)⟩
 .done)))))))))))
 (.reg (.q ⟨(some 12), none, .mov (.t 4)⟩
 (.q ⟨(some 13), none, .bin .add (.t 12) (.c (.int .i64 1))⟩
 (.q ⟨(some 4), none, .mov (.t 13)⟩
 .done)))))))))
 (.cut (.seq (.reg (.q ⟨(some 22), none, .mov (.t 3)⟩
 (.q ⟨(some 2), none, .mov (.t 22)⟩
 .done)))
 .ret)))))
theorem fc27 : fcomp Try.prog Try.f27 = some (c27.erase, [.mov (.t 2)], 23) := by kernel_rfl
def laws_toRowS_L1  : List GRow → Nat → (List GRow) → Option (List GRow)
  | [], i_24, out_25 =>
    some out_25
  | x_44 :: xs, i_24, out_25 =>
    (laws_toRow x_44).bind fun r_47 =>
    if i_24 < out_25.length then
    (out_25[i_24]?).bind fun x_50 =>
    laws_toRowS_L1 xs (i_24 + 1) (out_25.set i_24 r_47)
    else none

def laws_toRowS (a_1 : (List GRow)) : Option (List GRow) :=
    if (a_1.length : Int) ≤ 2 ^ 30 then
    (laws_toRowS_L1 a_1 0 (List.replicate a_1.length (⟨0, []⟩ : GRow))).bind fun out_36 =>
    some out_36
    else none
theorem w_laws_toRowS (a_1 : (List GRow)) (r : (List GRow)) (hf : laws_toRowS a_1 = some r) : CallOK Try.prog 27 .fresh [(.lst 2 (a_1.map encGRow))] (.lst 2 (r.map encGRow)) := by
  refine CallOK.of_awp mixed Try.func27 fc27 nle ?_
  rw [argT_eq]
  unfold laws_toRowS at hf
  unfold c27
  refine (show awp Try.prog true 0 _ (ofL [(0, (.lst 2 (a_1.map encGRow)))]) [] _ from ?_)
  refine awp_seq ?_
  refine w_reg ?_
  refine s_do (o_mov .nil rfl) ?_
  refine w_done ?_
  refine k_seq ?_
  refine awp_seq ?_
  refine w_reg ?_
  obtain ⟨g3, hf⟩ := og hf
  refine s_do (o_mov (.lst 2 (a_1.map encGRow)) rfl) ?_
  refine s_dof (o_len (enc := encGRow) rfl) fun hl2 => ?_
  refine s_do (o_mkslice (j := 0) (enc := encGRow) (m := a_1.length) (⟨0, []⟩ : GRow) (.agg (.cons (.refl _) (.cons (.nil _) .nil))) rfl rfl (Int.le_refl _) g3 rfl) ?_
  refine s_do (o_mov (.own 0 0 a_1.length) rfl) ?_
  refine w_done ?_
  refine k_seq ?_
  refine awp_seq ?_
  refine awp_seq ?_
  refine w_reg ?_
  refine s_do (o_mov (.int .i64 0) rfl) ?_
  refine w_done ?_
  refine k_seq ?_
  obtain ⟨out_36, hb1, hf⟩ := ob hf
  refine awp_cut ([(3, (.own 0 0 out_36.length))], [.row 2 (out_36.map encGRow)]) ?_ ?_
  · refine awp_loop (X := {q : (Nat × (List GRow)) // laws_toRowS_L1 (a_1.drop q.1) q.1 q.2 = some out_36}) (fun q => ([(0, (.lst 2 (a_1.map encGRow))), (3, (.own 0 0 q.1.2.length)), (4, (.int .i64 (q.1.1 : Int)))], [.row 2 (q.1.2.map encGRow)])) (fun q => a_1.length - q.1.1) ⟨(0, List.replicate a_1.length (⟨0, []⟩ : GRow)), hb1⟩ ⟨[], [0], _, _, rfl, rfl, ⟨.refl _, ⟨.of_eq (congrArg (AV.own _ 0) (by simp)), ⟨.refl _, trivial⟩⟩⟩, .refl _⟩ ?_
    rintro ⟨⟨i_24, out_25⟩, hc1⟩
    have hc1 : laws_toRowS_L1 (a_1.drop i_24) i_24 out_25 = some out_36 := hc1
    refine (show awp Try.prog true 0 _ (ofL [(0, (.lst 2 (a_1.map encGRow))), (3, (.own 0 0 out_25.length)), (4, (.int .i64 (i_24 : Int)))]) [.row 2 (out_25.map encGRow)] _ from ?_)
    rcases dropc a_1 i_24 with ⟨hie40, hd43⟩ | ⟨hlt38, x_44, hx39, hd43⟩
    · rw [hd43, laws_toRowS_L1.eq_1] at hc1
      have hq42 := dlf hie40
      refine awp_seq ?_
      refine awp_seq ?_
      refine w_reg ?_
      refine s_do (o_mov (.int .i64 (i_24 : Int)) rfl) ?_
      refine s_do (o_mov (.lst 2 (a_1.map encGRow)) rfl) ?_
      refine s_dof (o_len (enc := encGRow) rfl) fun hl45 => ?_
      refine s_do (o_q (.bool (decide ((i_24 : Int) < (a_1.length : Int)))) rfl rfl rfl) ?_
      refine w_done ?_
      refine k_seq ?_
      refine w_condf rfl hq42 ?_
      refine w_exit ?_
      refine k_seqx ?_
      refine k_loopx ?_
      refine k_blkx ?_
      obtain rfl := os hc1
      exact ⟨[], [0], _, _, rfl, rfl, ⟨.refl _, trivial⟩, .refl _⟩
    · rw [hd43, laws_toRowS_L1.eq_2] at hc1
      have hq42 := dlt hlt38
      refine awp_seq ?_
      refine awp_seq ?_
      refine w_reg ?_
      refine s_do (o_mov (.int .i64 (i_24 : Int)) rfl) ?_
      refine s_do (o_mov (.lst 2 (a_1.map encGRow)) rfl) ?_
      refine s_dof (o_len (enc := encGRow) rfl) fun hl46 => ?_
      refine s_do (o_q (.bool (decide ((i_24 : Int) < (a_1.length : Int)))) rfl rfl rfl) ?_
      refine w_done ?_
      refine k_seq ?_
      refine w_condt rfl hq42 ?_
      refine w_skip ?_
      refine k_seq ?_
      refine awp_seq ?_
      refine w_blk ?_
      refine w_reg ?_
      obtain ⟨r_47, er48, hc1⟩ := ob hc1
      obtain ⟨g49, hc1⟩ := og hc1
      obtain ⟨x_50, ex51, hc1⟩ := ob hc1
      refine s_do (o_mov (.own 0 0 out_25.length) rfl) ?_
      refine s_do (o_mov (.int .i64 (i_24 : Int)) rfl) ?_
      refine s_do (o_mov (.lst 2 (a_1.map encGRow)) rfl) ?_
      refine s_do (o_mov (.int .i64 (i_24 : Int)) rfl) ?_
      refine s_do (o_iaddrn (enc := encGRow) rfl rfl hx39) ?_
      refine s_do (o_q (encGRow x_44) rfl nle rfl) ?_
      refine s_do (o_callf (v := (.agg [(.int .i64 r_47.Id), (.own 1 0 r_47.Cells.length)])) (h' := [.row 1 (r_47.Cells.map (encL 3 encGAtom))]) (w_laws_toRow _ _ er48) rfl (.refl _) (by simp only [openV, openVs, List.length_map, encGRow_eq, List.nil_append, List.append_nil, List.cons_append]; rfl)) ?_
      refine s_do (o_iaddrownn rfl rfl g49 rfl rfl) ?_
      refine s_do0 (o_storerow (v' := (.agg [(.int .i64 r_47.Id), (.lst 1 (r_47.Cells.map (encL 3 encGAtom)))])) (e' := r_47) rfl rfl ex51 rfl rfl (by simp only [tk, tko, List.take_length]) (by decide) (fun _ => by decide) ⟨rfl, nle⟩ (.refl _) rfl) ?_
      refine w_done ?_
      refine k_blk ?_
      refine k_seq ?_
      refine w_reg ?_
      refine s_do (o_mov (.int .i64 (i_24 : Int)) rfl) ?_
      refine s_do (o_q (.int .i64 (w64 ((i_24 : Int) + 1))) rfl rfl rfl) ?_
      refine s_do (o_mov (.int .i64 (w64 ((i_24 : Int) + 1))) rfl) ?_
      refine w_done ?_
      exact k_loopn ⟨((i_24 + 1), out_25.set i_24 r_47), hc1⟩ (mul hlt38) ⟨[], [0], _, _, rfl, rfl, ⟨.refl _, ⟨.of_eq (congrArg (AV.own _ 0) (by simp)), ⟨.of_eq (congrArg (AV.int _) (w64_incr hlt38 hl46)), trivial⟩⟩⟩, .refl _⟩
  · refine awp_seq ?_
    refine w_reg ?_
    refine s_do (o_mov (.own 0 0 out_36.length) rfl) ?_
    refine s_do (o_mov (.own 0 0 out_36.length) rfl) ?_
    refine w_done ?_
    refine k_seq ?_
    refine w_ret ?_
    obtain rfl := os hf
    exact r_fresh ⟨trivial, trivial⟩ rfl (by decide) (.of_eq (congrArg (AV.lst _) (tk (enc := encGRow) out_36)))

/- spec.l03Same -/
def c158 : ACode :=
 (.seq (.reg (.q ⟨(some 4), none, .mov (.c (.bool false))⟩
 .done))
 (.seq (.seq (.reg (.q ⟨(some 6), none, .mov (.t 0)⟩
 (.q ⟨(some 7), none, .len (.t 6)⟩
 (.q ⟨(some 8), none, .mov (.t 1)⟩
 (.q ⟨(some 9), none, .len (.t 8)⟩
 (.q ⟨(some 10), none, .bin .neq (.t 7) (.t 9)⟩
 .done))))))
 (.cond (.t 10) (.seq (.reg (.q ⟨(some 4), none, .mov (.c (.bool false))⟩
 .done))
 .ret)
 .skip))
 (.seq (.seq (.reg (.q ⟨(some 5), none, .mov (.c (.int .i64 0))⟩
 .done))
 (.block 0 (.loop (.seq (.seq (.reg (.q ⟨(some 11), none, .mov (.t 5)⟩
 (.q ⟨(some 12), none, .mov (.t 0)⟩
 (.q ⟨(some 13), none, .len (.t 12)⟩
 (.q ⟨(some 14), none, .bin .lss (.t 11) (.t 13)⟩
 .done)))))
 (.cond (.t 14) .skip
 (.exit 0)))
 (.seq (.block 1 (.seq (.reg (.q ⟨(some 17), none, .mov (.t 0)⟩
 (.q ⟨(some 18), none, .mov (.t 5)⟩
 (.q ⟨(some 19), none, .iaddr 3 (.t 17) (.t 18)⟩
 (.q ⟨(some 20), none, .load 3 true (.t 19)⟩
 (.q ⟨(some 21), none, .mov (.t 1)⟩
 (.q ⟨(some 22), none, .mov (.t 5)⟩
 (.q ⟨(some 23), none, .iaddr 3 (.t 21) (.t 22)⟩
 (.q ⟨(some 24), none, .load 3 true (.t 23)⟩
 (.q ⟨(some 25), none, .eqs true [0, 0, 2] (.t 20) (.t 24)⟩
 .done))))))))))
 (.cond (.t 25) (.seq (.reg (.q ⟨(some 4), none, .mov (.c (.bool false))⟩
 .done))
 .ret)
 .skip)))
 (.reg (.q ⟨(some 15), none, .mov (.t 5)⟩
 (.q ⟨(some 16), none, .bin .add (.t 15) (.c (.int .i64 1))⟩
 (.q ⟨(some 5), none, .mov (.t 16)⟩
 .done)))))))))
 (.cut (.seq (.reg (.q ⟨(some 4), none, .mov (.c (.bool true))⟩
 .done))
 .ret)))))
theorem fc158 : fcomp Try.prog Try.f158 = some (c158.erase, [.mov (.t 4)], 26) := by kernel_rfl
def spec_l03Same_L1 (b_2 : (List GAtom)) : List GAtom → Nat → Option (Fl Bool Unit)
  | [], i_21 =>
    some (.go ())
  | x_37 :: xs, i_21 =>
    (idx b_2 (i_21 : Int)).bind fun x_40 =>
    if (!(x_37.Kind == x_40.Kind && (x_37.N == x_40.N && (x_37.T == x_40.T && true)))) then
    some (.ret false)
    else
    spec_l03Same_L1 b_2 xs (i_21 + 1)

def spec_l03Same (a_1 : (List GAtom)) (b_2 : (List GAtom)) : Option Bool :=
    if ((a_1.length : Int) != (b_2.length : Int)) then
    some false
    else
    (spec_l03Same_L1 b_2 a_1 0).bind fun q => (match q with
    | .ret r => some r
    | .go _ =>
    some true)
theorem w_spec_l03Same (a_1 : (List GAtom)) (b_2 : (List GAtom)) (r : Bool) (hf : spec_l03Same a_1 b_2 = some r) : CallOK Try.prog 158 .flat [(.lst 3 (a_1.map encGAtom)), (.lst 3 (b_2.map encGAtom))] (.bool r) := by
  refine CallOK.of_awp mixed Try.func158 fc158 nle ?_
  rw [argT_eq]
  unfold spec_l03Same at hf
  unfold c158
  refine (show awp Try.prog false 0 _ (ofL [(0, (.lst 3 (a_1.map encGAtom))), (1, (.lst 3 (b_2.map encGAtom)))]) [] _ from ?_)
  refine awp_seq ?_
  refine w_reg ?_
  refine s_do (o_mov (.bool false) rfl) ?_
  refine w_done ?_
  refine k_seq ?_
  refine awp_seq ?_
  refine awp_seq ?_
  refine w_reg ?_
  refine s_do (o_mov (.lst 3 (a_1.map encGAtom)) rfl) ?_
  refine s_dof (o_len (enc := encGAtom) rfl) fun hl3 => ?_
  refine s_do (o_mov (.lst 3 (b_2.map encGAtom)) rfl) ?_
  refine s_dof (o_len (enc := encGAtom) rfl) fun hl4 => ?_
  refine s_do (o_q (.bool ((a_1.length : Int) != (b_2.length : Int))) rfl rfl rfl) ?_
  refine w_done ?_
  refine k_seq ?_
  rcases oi hf with ⟨c5, hf⟩ | ⟨c5, hf⟩
  · refine w_condt rfl c5 ?_
    refine awp_seq ?_
    refine w_reg ?_
    refine s_do (o_mov (.bool false) rfl) ?_
    refine w_done ?_
    refine k_seq ?_
    refine w_ret ?_
    obtain rfl := os hf
    exact r_flat ⟨trivial, trivial⟩ rfl (.refl _)
  · refine w_condf rfl (bf c5) ?_
    refine w_skip ?_
    refine k_seq ?_
    refine awp_seq ?_
    refine awp_seq ?_
    refine w_reg ?_
    refine s_do (o_mov (.int .i64 0) rfl) ?_
    refine w_done ?_
    refine k_seq ?_
    obtain ⟨p30, hb1, hf⟩ := ob hf
    refine awp_cutx (X := {q : Unit // p30 = .go q}) (fun q => ([], [])) ?_ ?_
    · refine awp_loop (X := {q : Nat // spec_l03Same_L1 b_2 (a_1.drop q) q = some p30}) (fun q => ([(0, (.lst 3 (a_1.map encGAtom))), (1, (.lst 3 (b_2.map encGAtom))), (5, (.int .i64 (q.1 : Int)))], [])) (fun q => a_1.length - q.1) ⟨0, hb1⟩ ⟨[], [], _, _, rfl, rfl, ⟨.refl _, ⟨.refl _, ⟨.refl _, trivial⟩⟩⟩, .refl _⟩ ?_
      rintro ⟨i_21, hc1⟩
      have hc1 : spec_l03Same_L1 b_2 (a_1.drop i_21) i_21 = some p30 := hc1
      refine (show awp Try.prog false 0 _ (ofL [(0, (.lst 3 (a_1.map encGAtom))), (1, (.lst 3 (b_2.map encGAtom))), (5, (.int .i64 (i_21 : Int)))]) [] _ from ?_)
      rcases dropc a_1 i_21 with ⟨hie33, hd36⟩ | ⟨hlt31, x_37, hx32, hd36⟩
      · rw [hd36, spec_l03Same_L1.eq_1] at hc1
        have hq35 := dlf hie33
        refine awp_seq ?_
        refine awp_seq ?_
        refine w_reg ?_
        refine s_do (o_mov (.int .i64 (i_21 : Int)) rfl) ?_
        refine s_do (o_mov (.lst 3 (a_1.map encGAtom)) rfl) ?_
        refine s_dof (o_len (enc := encGAtom) rfl) fun hl38 => ?_
        refine s_do (o_q (.bool (decide ((i_21 : Int) < (a_1.length : Int)))) rfl rfl rfl) ?_
        refine w_done ?_
        refine k_seq ?_
        refine w_condf rfl hq35 ?_
        refine w_exit ?_
        refine k_seqx ?_
        refine k_loopx ?_
        refine k_blkx ?_
        obtain rfl := os hc1
        exact k_cutn ⟨_, rfl⟩ ⟨[], [], _, _, rfl, rfl, trivial, .refl _⟩
      · rw [hd36, spec_l03Same_L1.eq_2] at hc1
        have hq35 := dlt hlt31
        refine awp_seq ?_
        refine awp_seq ?_
        refine w_reg ?_
        refine s_do (o_mov (.int .i64 (i_21 : Int)) rfl) ?_
        refine s_do (o_mov (.lst 3 (a_1.map encGAtom)) rfl) ?_
        refine s_dof (o_len (enc := encGAtom) rfl) fun hl39 => ?_
        refine s_do (o_q (.bool (decide ((i_21 : Int) < (a_1.length : Int)))) rfl rfl rfl) ?_
        refine w_done ?_
        refine k_seq ?_
        refine w_condt rfl hq35 ?_
        refine w_skip ?_
        refine k_seq ?_
        refine awp_seq ?_
        refine w_blk ?_
        refine awp_seq ?_
        refine w_reg ?_
        obtain ⟨x_40, ex41, hc1⟩ := ob hc1
        refine s_do (o_mov (.lst 3 (a_1.map encGAtom)) rfl) ?_
        refine s_do (o_mov (.int .i64 (i_21 : Int)) rfl) ?_
        refine s_do (o_iaddrn (enc := encGAtom) rfl rfl hx32) ?_
        refine s_do (o_q (encGAtom x_37) rfl nle rfl) ?_
        refine s_do (o_mov (.lst 3 (b_2.map encGAtom)) rfl) ?_
        refine s_do (o_mov (.int .i64 (i_21 : Int)) rfl) ?_
        refine s_do (o_iaddr (enc := encGAtom) rfl rfl (idx0 ex41) (idx1 ex41)) ?_
        refine s_do (o_q (encGAtom x_40) rfl nle rfl) ?_
        refine s_do (o_q (.bool (!(x_37.Kind == x_40.Kind && (x_37.N == x_40.N && (x_37.T == x_40.T && true))))) rfl ⟨⟨rfl, rfl⟩, ⟨⟨rfl, rfl⟩, ⟨rfl, trivial⟩⟩⟩ rfl) ?_
        refine w_done ?_
        refine k_seq ?_
        rcases oi hc1 with ⟨c42, hc1⟩ | ⟨c42, hc1⟩
        · refine w_condt rfl c42 ?_
          refine awp_seq ?_
          refine w_reg ?_
          refine s_do (o_mov (.bool false) rfl) ?_
          refine w_done ?_
          refine k_seq ?_
          refine w_ret ?_
          obtain rfl := os hc1
          obtain rfl := os hf
          exact r_flat ⟨trivial, trivial⟩ rfl (.refl _)
        · refine w_condf rfl (bf c42) ?_
          refine w_skip ?_
          refine k_blk ?_
          refine k_seq ?_
          refine w_reg ?_
          refine s_do (o_mov (.int .i64 (i_21 : Int)) rfl) ?_
          refine s_do (o_q (.int .i64 (w64 ((i_21 : Int) + 1))) rfl rfl rfl) ?_
          refine s_do (o_mov (.int .i64 (w64 ((i_21 : Int) + 1))) rfl) ?_
          refine w_done ?_
          exact k_loopn ⟨(i_21 + 1), hc1⟩ (mul hlt31) ⟨[], [], _, _, rfl, rfl, ⟨.refl _, ⟨.refl _, ⟨.of_eq (congrArg (AV.int _) (w64_incr hlt31 hl39)), trivial⟩⟩⟩, .refl _⟩
    · rintro ⟨_, rfl⟩
      refine awp_seq ?_
      refine w_reg ?_
      refine s_do (o_mov (.bool true) rfl) ?_
      refine w_done ?_
      refine k_seq ?_
      refine w_ret ?_
      obtain rfl := os hf
      exact r_flat ⟨trivial, trivial⟩ rfl (.refl _)

/- spec.l05SameRow -/
def c95 : ACode :=
 (.seq (.reg (.q ⟨(some 2), none, .box 2 (.t 0)⟩
 (.q ⟨(some 3), none, .box 2 (.t 1)⟩
 (.q ⟨(some 4), none, .mov (.c (.bool false))⟩
 .done))))
 (.seq (.seq (.reg (.q ⟨(some 6), none, .faddr 0 (.t 2)⟩
 (.q ⟨(some 7), none, .load 1 false (.t 6)⟩
 (.q ⟨(some 8), none, .faddr 0 (.t 3)⟩
 (.q ⟨(some 9), none, .load 1 false (.t 8)⟩
 (.q ⟨(some 10), none, .bin .neq (.t 7) (.t 9)⟩
 (.q ⟨(some 11), none, .mov (.t 10)⟩
 (.q ⟨(some 12), (some (11, false)), .faddr 1 (.t 2)⟩
 (.q ⟨(some 13), (some (11, false)), .load 1 false (.t 12)⟩
 (.q ⟨(some 14), (some (11, false)), .len (.t 13)⟩
 (.q ⟨(some 15), (some (11, false)), .faddr 1 (.t 3)⟩
 (.q ⟨(some 16), (some (11, false)), .load 1 false (.t 15)⟩
 (.q ⟨(some 17), (some (11, false)), .len (.t 16)⟩
 (.q ⟨(some 18), (some (11, false)), .bin .neq (.t 14) (.t 17)⟩
 (.q ⟨(some 19), none, .pick (.t 11) (.c (.bool true)) (.t 18)⟩
 .done)))))))))))))))
 (.cut (.cond (.t 19) (.seq (.reg (.q ⟨(some 4), none, .mov (.c (.bool false))⟩
 .done))
 .ret)
 .skip)))
 (.seq (.seq (.reg (.q ⟨(some 5), none, .mov (.c (.int .i64 0))⟩
 .done))
 (.block 0 (.loop (.seq (.seq (.reg (.q ⟨(some 20), none, .mov (.t 5)⟩
 (.q ⟨(some 21), none, .faddr 1 (.t 2)⟩
 (.q ⟨(some 22), none, .load 1 false (.t 21)⟩
 (.q ⟨(some 23), none, .len (.t 22)⟩
 (.q ⟨(some 24), none, .bin .lss (.t 20) (.t 23)⟩
 .done))))))
 (.cond (.t 24) .skip
 (.exit 0)))
 (.seq (.block 1 (.seq (.reg (.q ⟨(some 27), none, .faddr 1 (.t 2)⟩
 (.q ⟨(some 28), none, .load 1 false (.t 27)⟩
 (.q ⟨(some 29), none, .mov (.t 5)⟩
 (.q ⟨(some 30), none, .iaddr 1 (.t 28) (.t 29)⟩
 (.q ⟨(some 31), none, .load 1 false (.t 30)⟩
 (.q ⟨(some 32), none, .faddr 1 (.t 3)⟩
 (.q ⟨(some 33), none, .load 1 false (.t 32)⟩
 (.q ⟨(some 34), none, .mov (.t 5)⟩
 (.q ⟨(some 35), none, .iaddr 1 (.t 33) (.t 34)⟩
 (.q ⟨(some 36), none, .load 1 false (.t 35)⟩
 (.l ⟨(some 37), none, .call 158 [(.t 31), (.t 36)]⟩ []
 (.q ⟨(some 38), none, .not (.t 37)⟩
 .done) .non))))))))))))
 (.cond (.t 38) (.seq (.reg (.q ⟨(some 4), none, .mov (.c (.bool false))⟩
 .done))
 .ret)
 .skip)))
 (.reg (.q ⟨(some 25), none, .mov (.t 5)⟩
 (.q ⟨(some 26), none, .bin .add (.t 25) (.c (.int .i64 1))⟩
 (.q ⟨(some 5), none, .mov (.t 26)⟩
 .done)))))))))
 (.cut (.seq (.reg (.q ⟨(some 4), none, .mov (.c (.bool true))⟩
 .done))
 .ret)))))
theorem fc95 : fcomp Try.prog Try.f95 = some (c95.erase, [.mov (.t 4)], 39) := by kernel_rfl
def spec_l05SameRow_L1 (b_2 : GRow) : List (List GAtom) → Nat → Option (Fl Bool Unit)
  | [], i_31 =>
    some (.go ())
  | x_49 :: xs, i_31 =>
    (idx b_2.Cells (i_31 : Int)).bind fun x_52 =>
    (spec_l03Same x_49 x_52).bind fun r_54 =>
    if (!r_54) then
    some (.ret false)
    else
    spec_l05SameRow_L1 b_2 xs (i_31 + 1)

def spec_l05SameRow (a_1 : GRow) (b_2 : GRow) : Option Bool :=
    (if (a_1.Id != b_2.Id) then
    some true
    else
    some ((a_1.Cells.length : Int) != (b_2.Cells.length : Int))).bind fun s19_6 =>
    if s19_6 then
    some false
    else
    (spec_l05SameRow_L1 b_2 a_1.Cells 0).bind fun q => (match q with
    | .ret r => some r
    | .go _ =>
    some true)
theorem w_spec_l05SameRow (a_1 : GRow) (b_2 : GRow) (r : Bool) (hf : spec_l05SameRow a_1 b_2 = some r) : CallOK Try.prog 95 .flat [(encGRow a_1), (encGRow b_2)] (.bool r) := by
  refine CallOK.of_awp mixed Try.func95 fc95 nle ?_
  rw [argT_eq]
  unfold spec_l05SameRow at hf
  unfold c95
  refine (show awp Try.prog false 0 _ (ofL [(0, (encGRow a_1)), (1, (encGRow b_2))]) [] _ from ?_)
  refine awp_seq ?_
  refine w_reg ?_
  refine s_do (o_box (j := 0) (c := (.agg [(.int .i64 a_1.Id), (.lst 1 (a_1.Cells.map (encL 3 encGAtom)))])) rfl trivial rfl rfl) ?_
  refine s_do (o_box (j := 1) (c := (.agg [(.int .i64 b_2.Id), (.lst 1 (b_2.Cells.map (encL 3 encGAtom)))])) rfl trivial rfl rfl) ?_
  refine s_do (o_mov (.bool false) rfl) ?_
  refine w_done ?_
  refine k_seq ?_
  refine awp_seq ?_
  refine awp_seq ?_
  obtain ⟨s19_6, hb1, hf⟩ := ob hf
  refine awp_cut ([(2, (.ptr 0 0 0)), (3, (.ptr 1 0 0)), (19, (.bool s19_6))], [.box 2 (.agg [(.int .i64 a_1.Id), (.lst 1 (a_1.Cells.map (encL 3 encGAtom)))]), .box 2 (.agg [(.int .i64 b_2.Id), (.lst 1 (b_2.Cells.map (encL 3 encGAtom)))])]) ?_ ?_
  · refine w_reg ?_
    rcases oi hb1 with ⟨c8, hb1⟩ | ⟨c8, hb1⟩
    · refine s_do (o_q (.ptr 0 0 0) rfl trivial rfl) ?_
      refine s_do (o_q (.int .i64 a_1.Id) rfl nle rfl) ?_
      refine s_do (o_q (.ptr 1 0 0) rfl trivial rfl) ?_
      refine s_do (o_q (.int .i64 b_2.Id) rfl nle rfl) ?_
      refine s_do (o_q (.bool (a_1.Id != b_2.Id)) rfl rfl rfl) ?_
      refine s_do (o_mov (.bool (a_1.Id != b_2.Id)) rfl) ?_
      refine s_lit (s := 11) (b := true) rfl c8 ?_
      refine s_off rfl rfl ?_
      refine s_off rfl rfl ?_
      refine s_off rfl rfl ?_
      refine s_off rfl rfl ?_
      refine s_off rfl rfl ?_
      refine s_off rfl rfl ?_
      refine s_off rfl rfl ?_
      refine s_do (o_q (.bool true) rfl trivial rfl) ?_
      refine w_done ?_
      obtain rfl := os hb1
      exact ⟨[], [0, 1], _, _, rfl, rfl, ⟨.refl _, ⟨.refl _, ⟨.refl _, trivial⟩⟩⟩, .refl _⟩
    · refine s_do (o_q (.ptr 0 0 0) rfl trivial rfl) ?_
      refine s_do (o_q (.int .i64 a_1.Id) rfl nle rfl) ?_
      refine s_do (o_q (.ptr 1 0 0) rfl trivial rfl) ?_
      refine s_do (o_q (.int .i64 b_2.Id) rfl nle rfl) ?_
      refine s_do (o_q (.bool (a_1.Id != b_2.Id)) rfl rfl rfl) ?_
      refine s_do (o_mov (.bool (a_1.Id != b_2.Id)) rfl) ?_
      refine s_lit (s := 11) (b := false) rfl (bf c8) ?_
      refine s_on rfl ?_
      refine s_do (o_q (.ptr 0 0 1) rfl trivial rfl) ?_
      refine s_on rfl ?_
      refine s_do (o_q (.lst 1 (a_1.Cells.map (encL 3 encGAtom))) rfl nle rfl) ?_
      refine s_on rfl ?_
      refine s_dof (o_len (enc := (encL 3 encGAtom)) rfl) fun hl9 => ?_
      refine s_on rfl ?_
      refine s_do (o_q (.ptr 1 0 1) rfl trivial rfl) ?_
      refine s_on rfl ?_
      refine s_do (o_q (.lst 1 (b_2.Cells.map (encL 3 encGAtom))) rfl nle rfl) ?_
      refine s_on rfl ?_
      refine s_dof (o_len (enc := (encL 3 encGAtom)) rfl) fun hl10 => ?_
      refine s_on rfl ?_
      refine s_do (o_q (.bool ((a_1.Cells.length : Int) != (b_2.Cells.length : Int))) rfl rfl rfl) ?_
      refine s_do (o_q (.bool ((a_1.Cells.length : Int) != (b_2.Cells.length : Int))) rfl trivial rfl) ?_
      refine w_done ?_
      obtain rfl := os hb1
      exact ⟨[], [0, 1], _, _, rfl, rfl, ⟨.refl _, ⟨.refl _, ⟨.refl _, trivial⟩⟩⟩, .refl _⟩
  · rcases oi hf with ⟨c11, hf⟩ | ⟨c11, hf⟩
    · refine w_condt rfl c11 ?_
      refine awp_seq ?_
      refine w_reg ?_
      refine s_do (o_mov (.bool false) rfl) ?_
      refine w_done ?_
      refine k_seq ?_
      refine w_ret ?_
      obtain rfl := os hf
      exact r_flat ⟨trivial, trivial⟩ rfl (.refl _)
    · refine w_condf rfl (bf c11) ?_
      refine w_skip ?_
      refine k_seq ?_
      refine awp_seq ?_
      refine awp_seq ?_
      refine w_reg ?_
      refine s_do (o_mov (.int .i64 0) rfl) ?_
      refine w_done ?_
      refine k_seq ?_
      obtain ⟨p42, hb1, hf⟩ := ob hf
      refine awp_cutx (X := {q : Unit // p42 = .go q}) (fun q => ([], [])) ?_ ?_
      · refine awp_loop (X := {q : Nat // spec_l05SameRow_L1 b_2 (a_1.Cells.drop q) q = some p42}) (fun q => ([(2, (.ptr 0 0 0)), (3, (.ptr 1 0 0)), (5, (.int .i64 (q.1 : Int)))], [.box 2 (.agg [(.int .i64 a_1.Id), (.lst 1 (a_1.Cells.map (encL 3 encGAtom)))]), .box 2 (.agg [(.int .i64 b_2.Id), (.lst 1 (b_2.Cells.map (encL 3 encGAtom)))])])) (fun q => a_1.Cells.length - q.1) ⟨0, hb1⟩ ⟨[], [0, 1], _, _, rfl, rfl, ⟨.refl _, ⟨.refl _, ⟨.refl _, trivial⟩⟩⟩, .refl _⟩ ?_
        rintro ⟨i_31, hc1⟩
        have hc1 : spec_l05SameRow_L1 b_2 (a_1.Cells.drop i_31) i_31 = some p42 := hc1
        refine (show awp Try.prog false 0 _ (ofL [(2, (.ptr 0 0 0)), (3, (.ptr 1 0 0)), (5, (.int .i64 (i_31 : Int)))]) [.box 2 (.agg [(.int .i64 a_1.Id), (.lst 1 (a_1.Cells.map (encL 3 encGAtom)))]), .box 2 (.agg [(.int .i64 b_2.Id), (.lst 1 (b_2.Cells.map (encL 3 encGAtom)))])] _ from ?_)
        rcases dropc a_1.Cells i_31 with ⟨hie45, hd48⟩ | ⟨hlt43, x_49, hx44, hd48⟩
        · rw [hd48, spec_l05SameRow_L1.eq_1] at hc1
          have hq47 := dlf hie45
          refine awp_seq ?_
          refine awp_seq ?_
          refine w_reg ?_
          refine s_do (o_mov (.int .i64 (i_31 : Int)) rfl) ?_
          refine s_do (o_q (.ptr 0 0 1) rfl trivial rfl) ?_
          refine s_do (o_q (.lst 1 (a_1.Cells.map (encL 3 encGAtom))) rfl nle rfl) ?_
          refine s_dof (o_len (enc := (encL 3 encGAtom)) rfl) fun hl50 => ?_
          refine s_do (o_q (.bool (decide ((i_31 : Int) < (a_1.Cells.length : Int)))) rfl rfl rfl) ?_
          refine w_done ?_
          refine k_seq ?_
          refine w_condf rfl hq47 ?_
          refine w_exit ?_
          refine k_seqx ?_
          refine k_loopx ?_
          refine k_blkx ?_
          obtain rfl := os hc1
          exact k_cutn ⟨_, rfl⟩ ⟨[], [], _, _, rfl, rfl, trivial, .refl _⟩
        · rw [hd48, spec_l05SameRow_L1.eq_2] at hc1
          have hq47 := dlt hlt43
          refine awp_seq ?_
          refine awp_seq ?_
          refine w_reg ?_
          refine s_do (o_mov (.int .i64 (i_31 : Int)) rfl) ?_
          refine s_do (o_q (.ptr 0 0 1) rfl trivial rfl) ?_
          refine s_do (o_q (.lst 1 (a_1.Cells.map (encL 3 encGAtom))) rfl nle rfl) ?_
          refine s_dof (o_len (enc := (encL 3 encGAtom)) rfl) fun hl51 => ?_
          refine s_do (o_q (.bool (decide ((i_31 : Int) < (a_1.Cells.length : Int)))) rfl rfl rfl) ?_
          refine w_done ?_
          refine k_seq ?_
          refine w_condt rfl hq47 ?_
          refine w_skip ?_
          refine k_seq ?_
          refine awp_seq ?_
          refine w_blk ?_
          refine awp_seq ?_
          refine w_reg ?_
          obtain ⟨x_52, ex53, hc1⟩ := ob hc1
          obtain ⟨r_54, er55, hc1⟩ := ob hc1
          refine s_do (o_q (.ptr 0 0 1) rfl trivial rfl) ?_
          refine s_do (o_q (.lst 1 (a_1.Cells.map (encL 3 encGAtom))) rfl nle rfl) ?_
          refine s_do (o_mov (.int .i64 (i_31 : Int)) rfl) ?_
          refine s_do (o_iaddrn (enc := (encL 3 encGAtom)) rfl rfl hx44) ?_
          refine s_do (o_q (.lst 3 (x_49.map encGAtom)) rfl ⟨rfl, rfl⟩ rfl) ?_
          refine s_do (o_q (.ptr 1 0 1) rfl trivial rfl) ?_
          refine s_do (o_q (.lst 1 (b_2.Cells.map (encL 3 encGAtom))) rfl nle rfl) ?_
          refine s_do (o_mov (.int .i64 (i_31 : Int)) rfl) ?_
          refine s_do (o_iaddr (enc := (encL 3 encGAtom)) rfl rfl (idx0 ex53) (idx1 ex53)) ?_
          refine s_do (o_q (.lst 3 (x_52.map encGAtom)) rfl ⟨rfl, rfl⟩ rfl) ?_
          refine s_dol (o_call (w_spec_l03Same _ _ _ er55) rfl (.refl _) rfl) a_same trivial ?_
          refine s_do (o_q (.bool (!r_54)) rfl trivial rfl) ?_
          refine w_done ?_
          refine k_seq ?_
          rcases oi hc1 with ⟨c56, hc1⟩ | ⟨c56, hc1⟩
          · refine w_condt rfl c56 ?_
            refine awp_seq ?_
            refine w_reg ?_
            refine s_do (o_mov (.bool false) rfl) ?_
            refine w_done ?_
            refine k_seq ?_
            refine w_ret ?_
            obtain rfl := os hc1
            obtain rfl := os hf
            exact r_flat ⟨trivial, trivial⟩ rfl (.refl _)
          · refine w_condf rfl (bf c56) ?_
            refine w_skip ?_
            refine k_blk ?_
            refine k_seq ?_
            refine w_reg ?_
            refine s_do (o_mov (.int .i64 (i_31 : Int)) rfl) ?_
            refine s_do (o_q (.int .i64 (w64 ((i_31 : Int) + 1))) rfl rfl rfl) ?_
            refine s_do (o_mov (.int .i64 (w64 ((i_31 : Int) + 1))) rfl) ?_
            refine w_done ?_
            exact k_loopn ⟨(i_31 + 1), hc1⟩ (mul hlt43) ⟨[], [0, 1], _, _, rfl, rfl, ⟨.refl _, ⟨.refl _, ⟨.of_eq (congrArg (AV.int _) (w64_incr hlt43 hl51)), trivial⟩⟩⟩, .refl _⟩
      · rintro ⟨_, rfl⟩
        refine awp_seq ?_
        refine w_reg ?_
        refine s_do (o_mov (.bool true) rfl) ?_
        refine w_done ?_
        refine k_seq ?_
        refine w_ret ?_
        obtain rfl := os hf
        exact r_flat ⟨trivial, trivial⟩ rfl (.refl _)

/- spec.SameRows -/
def c26 : ACode :=
 (.seq (.reg (.q ⟨(some 4), none, .mov (.c (.bool false))⟩
 .done))
 (.seq (.seq (.reg (.q ⟨(some 6), none, .mov (.t 0)⟩
 (.q ⟨(some 7), none, .len (.t 6)⟩
 (.q ⟨(some 8), none, .bin .gtr (.t 7) (.c (.int .i64 4096))⟩
 (.q ⟨(some 9), none, .mov (.t 8)⟩
 (.q ⟨(some 10), (some (9, false)), .mov (.t 1)⟩
 (.q ⟨(some 11), (some (9, false)), .len (.t 10)⟩
 (.q ⟨(some 12), (some (9, false)), .bin .gtr (.t 11) (.c (.int .i64 4096))⟩
 (.q ⟨(some 13), none, .pick (.t 9) (.c (.bool true)) (.t 12)⟩
 .done)))))))))
 (.cut (.cond (.t 13) (.seq (.reg (.q ⟨(some 4), none, .mov (.c (.bool false))⟩
 .done))
 .ret)
 .skip)))
 (.seq (.seq (.reg (.q ⟨(some 14), none, .mov (.t 0)⟩
 (.q ⟨(some 15), none, .len (.t 14)⟩
 (.q ⟨(some 16), none, .mov (.t 1)⟩
 (.q ⟨(some 17), none, .len (.t 16)⟩
 (.q ⟨(some 18), none, .bin .neq (.t 15) (.t 17)⟩
 .done))))))
 (.cond (.t 18) (.seq (.reg (.q ⟨(some 4), none, .mov (.c (.bool false))⟩
 .done))
 .ret)
 .skip))
 (.seq (.seq (.reg (.q ⟨(some 5), none, .mov (.c (.int .i64 0))⟩
 .done))
 (.block 0 (.loop (.seq (.seq (.reg (.q ⟨(some 19), none, .mov (.t 5)⟩
 (.q ⟨(some 20), none, .mov (.t 0)⟩
 (.q ⟨(some 21), none, .len (.t 20)⟩
 (.q ⟨(some 22), none, .bin .lss (.t 19) (.t 21)⟩
 .done)))))
 (.cond (.t 22) .skip
 (.exit 0)))
 (.seq (.block 1 (.seq (.reg (.q ⟨(some 25), none, .mov (.t 0)⟩
 (.q ⟨(some 26), none, .mov (.t 5)⟩
 (.q ⟨(some 27), none, .iaddr 2 (.t 25) (.t 26)⟩
 (.q ⟨(some 28), none, .load 2 true (.t 27)⟩
 (.q ⟨(some 29), none, .mov (.t 1)⟩
 (.q ⟨(some 30), none, .mov (.t 5)⟩
 (.q ⟨(some 31), none, .iaddr 2 (.t 29) (.t 30)⟩
 (.q ⟨(some 32), none, .load 2 true (.t 31)⟩
 (.l ⟨(some 33), none, .call 95 [(.t 28), (.t 32)]⟩ []
 (.q ⟨(some 34), none, .not (.t 33)⟩
 .done) .non))))))))))
 (.cond (.t 34) (.seq (.reg (.q ⟨(some 4), none, .mov (.c (.bool false))⟩
 .done))
 .ret)
 .skip)))
 (.reg (.q ⟨(some 23), none, .mov (.t 5)⟩
 (.q ⟨(some 24), none, .bin .add (.t 23) (.c (.int .i64 1))⟩
 (.q ⟨(some 5), none, .mov (.t 24)⟩
 .done)))))))))
 (.cut (.seq (.reg (.q ⟨(some 4), none, .mov (.c (.bool true))⟩
 .done))
 .ret))))))
theorem fc26 : fcomp Try.prog Try.f26 = some (c26.erase, [.mov (.t 4)], 35) := by kernel_rfl
def spec_SameRows_L1 (b_2 : (List GRow)) : List GRow → Nat → Option (Fl Bool Unit)
  | [], i_34 =>
    some (.go ())
  | x_52 :: xs, i_34 =>
    (idx b_2 (i_34 : Int)).bind fun x_55 =>
    (spec_l05SameRow x_52 x_55).bind fun r_57 =>
    if (!r_57) then
    some (.ret false)
    else
    spec_SameRows_L1 b_2 xs (i_34 + 1)

def spec_SameRows (a_1 : (List GRow)) (b_2 : (List GRow)) : Option Bool :=
    (if (decide ((a_1.length : Int) > 4096)) then
    some true
    else
    some (decide ((b_2.length : Int) > 4096))).bind fun s13_6 =>
    if s13_6 then
    some false
    else
    if ((a_1.length : Int) != (b_2.length : Int)) then
    some false
    else
    (spec_SameRows_L1 b_2 a_1 0).bind fun q => (match q with
    | .ret r => some r
    | .go _ =>
    some true)
theorem w_spec_SameRows (a_1 : (List GRow)) (b_2 : (List GRow)) (r : Bool) (hf : spec_SameRows a_1 b_2 = some r) : CallOK Try.prog 26 .flat [(.lst 2 (a_1.map encGRow)), (.lst 2 (b_2.map encGRow))] (.bool r) := by
  refine CallOK.of_awp mixed Try.func26 fc26 nle ?_
  rw [argT_eq]
  unfold spec_SameRows at hf
  unfold c26
  refine (show awp Try.prog false 0 _ (ofL [(0, (.lst 2 (a_1.map encGRow))), (1, (.lst 2 (b_2.map encGRow)))]) [] _ from ?_)
  refine awp_seq ?_
  refine w_reg ?_
  refine s_do (o_mov (.bool false) rfl) ?_
  refine w_done ?_
  refine k_seq ?_
  refine awp_seq ?_
  refine awp_seq ?_
  obtain ⟨s13_6, hb1, hf⟩ := ob hf
  refine awp_cut ([(0, (.lst 2 (a_1.map encGRow))), (1, (.lst 2 (b_2.map encGRow))), (13, (.bool s13_6))], []) ?_ ?_
  · refine w_reg ?_
    rcases oi hb1 with ⟨c9, hb1⟩ | ⟨c9, hb1⟩
    · refine s_do (o_mov (.lst 2 (a_1.map encGRow)) rfl) ?_
      refine s_dof (o_len (enc := encGRow) rfl) fun hl8 => ?_
      refine s_do (o_q (.bool (decide ((a_1.length : Int) > 4096))) rfl rfl rfl) ?_
      refine s_do (o_mov (.bool (decide ((a_1.length : Int) > 4096))) rfl) ?_
      refine s_lit (s := 9) (b := true) rfl c9 ?_
      refine s_off rfl rfl ?_
      refine s_off rfl rfl ?_
      refine s_off rfl rfl ?_
      refine s_do (o_q (.bool true) rfl trivial rfl) ?_
      refine w_done ?_
      obtain rfl := os hb1
      exact ⟨[], [], _, _, rfl, rfl, ⟨.refl _, ⟨.refl _, ⟨.refl _, trivial⟩⟩⟩, .refl _⟩
    · refine s_do (o_mov (.lst 2 (a_1.map encGRow)) rfl) ?_
      refine s_dof (o_len (enc := encGRow) rfl) fun hl8 => ?_
      refine s_do (o_q (.bool (decide ((a_1.length : Int) > 4096))) rfl rfl rfl) ?_
      refine s_do (o_mov (.bool (decide ((a_1.length : Int) > 4096))) rfl) ?_
      refine s_lit (s := 9) (b := false) rfl (bf c9) ?_
      refine s_on rfl ?_
      refine s_do (o_mov (.lst 2 (b_2.map encGRow)) rfl) ?_
      refine s_on rfl ?_
      refine s_dof (o_len (enc := encGRow) rfl) fun hl10 => ?_
      refine s_on rfl ?_
      refine s_do (o_q (.bool (decide ((b_2.length : Int) > 4096))) rfl rfl rfl) ?_
      refine s_do (o_q (.bool (decide ((b_2.length : Int) > 4096))) rfl trivial rfl) ?_
      refine w_done ?_
      obtain rfl := os hb1
      exact ⟨[], [], _, _, rfl, rfl, ⟨.refl _, ⟨.refl _, ⟨.refl _, trivial⟩⟩⟩, .refl _⟩
  · rcases oi hf with ⟨c11, hf⟩ | ⟨c11, hf⟩
    · refine w_condt rfl c11 ?_
      refine awp_seq ?_
      refine w_reg ?_
      refine s_do (o_mov (.bool false) rfl) ?_
      refine w_done ?_
      refine k_seq ?_
      refine w_ret ?_
      obtain rfl := os hf
      exact r_flat ⟨trivial, trivial⟩ rfl (.refl _)
    · refine w_condf rfl (bf c11) ?_
      refine w_skip ?_
      refine k_seq ?_
      refine awp_seq ?_
      refine awp_seq ?_
      refine w_reg ?_
      refine s_do (o_mov (.lst 2 (a_1.map encGRow)) rfl) ?_
      refine s_dof (o_len (enc := encGRow) rfl) fun hl12 => ?_
      refine s_do (o_mov (.lst 2 (b_2.map encGRow)) rfl) ?_
      refine s_dof (o_len (enc := encGRow) rfl) fun hl13 => ?_
      refine s_do (o_q (.bool ((a_1.length : Int) != (b_2.length : Int))) rfl rfl rfl) ?_
      refine w_done ?_
      refine k_seq ?_
      rcases oi hf with ⟨c14, hf⟩ | ⟨c14, hf⟩
      · refine w_condt rfl c14 ?_
        refine awp_seq ?_
        refine w_reg ?_
        refine s_do (o_mov (.bool false) rfl) ?_
        refine w_done ?_
        refine k_seq ?_
        refine w_ret ?_
        obtain rfl := os hf
        exact r_flat ⟨trivial, trivial⟩ rfl (.refl _)
      · refine w_condf rfl (bf c14) ?_
        refine w_skip ?_
        refine k_seq ?_
        refine awp_seq ?_
        refine awp_seq ?_
        refine w_reg ?_
        refine s_do (o_mov (.int .i64 0) rfl) ?_
        refine w_done ?_
        refine k_seq ?_
        obtain ⟨p45, hb1, hf⟩ := ob hf
        refine awp_cutx (X := {q : Unit // p45 = .go q}) (fun q => ([], [])) ?_ ?_
        · refine awp_loop (X := {q : Nat // spec_SameRows_L1 b_2 (a_1.drop q) q = some p45}) (fun q => ([(0, (.lst 2 (a_1.map encGRow))), (1, (.lst 2 (b_2.map encGRow))), (5, (.int .i64 (q.1 : Int)))], [])) (fun q => a_1.length - q.1) ⟨0, hb1⟩ ⟨[], [], _, _, rfl, rfl, ⟨.refl _, ⟨.refl _, ⟨.refl _, trivial⟩⟩⟩, .refl _⟩ ?_
          rintro ⟨i_34, hc1⟩
          have hc1 : spec_SameRows_L1 b_2 (a_1.drop i_34) i_34 = some p45 := hc1
          refine (show awp Try.prog false 0 _ (ofL [(0, (.lst 2 (a_1.map encGRow))), (1, (.lst 2 (b_2.map encGRow))), (5, (.int .i64 (i_34 : Int)))]) [] _ from ?_)
          rcases dropc a_1 i_34 with ⟨hie48, hd51⟩ | ⟨hlt46, x_52, hx47, hd51⟩
          · rw [hd51, spec_SameRows_L1.eq_1] at hc1
            have hq50 := dlf hie48
            refine awp_seq ?_
            refine awp_seq ?_
            refine w_reg ?_
            refine s_do (o_mov (.int .i64 (i_34 : Int)) rfl) ?_
            refine s_do (o_mov (.lst 2 (a_1.map encGRow)) rfl) ?_
            refine s_dof (o_len (enc := encGRow) rfl) fun hl53 => ?_
            refine s_do (o_q (.bool (decide ((i_34 : Int) < (a_1.length : Int)))) rfl rfl rfl) ?_
            refine w_done ?_
            refine k_seq ?_
            refine w_condf rfl hq50 ?_
            refine w_exit ?_
            refine k_seqx ?_
            refine k_loopx ?_
            refine k_blkx ?_
            obtain rfl := os hc1
            exact k_cutn ⟨_, rfl⟩ ⟨[], [], _, _, rfl, rfl, trivial, .refl _⟩
          · rw [hd51, spec_SameRows_L1.eq_2] at hc1
            have hq50 := dlt hlt46
            refine awp_seq ?_
            refine awp_seq ?_
            refine w_reg ?_
            refine s_do (o_mov (.int .i64 (i_34 : Int)) rfl) ?_
            refine s_do (o_mov (.lst 2 (a_1.map encGRow)) rfl) ?_
            refine s_dof (o_len (enc := encGRow) rfl) fun hl54 => ?_
            refine s_do (o_q (.bool (decide ((i_34 : Int) < (a_1.length : Int)))) rfl rfl rfl) ?_
            refine w_done ?_
            refine k_seq ?_
            refine w_condt rfl hq50 ?_
            refine w_skip ?_
            refine k_seq ?_
            refine awp_seq ?_
            refine w_blk ?_
            refine awp_seq ?_
            refine w_reg ?_
            obtain ⟨x_55, ex56, hc1⟩ := ob hc1
            obtain ⟨r_57, er58, hc1⟩ := ob hc1
            refine s_do (o_mov (.lst 2 (a_1.map encGRow)) rfl) ?_
            refine s_do (o_mov (.int .i64 (i_34 : Int)) rfl) ?_
            refine s_do (o_iaddrn (enc := encGRow) rfl rfl hx47) ?_
            refine s_do (o_q (encGRow x_52) rfl nle rfl) ?_
            refine s_do (o_mov (.lst 2 (b_2.map encGRow)) rfl) ?_
            refine s_do (o_mov (.int .i64 (i_34 : Int)) rfl) ?_
            refine s_do (o_iaddr (enc := encGRow) rfl rfl (idx0 ex56) (idx1 ex56)) ?_
            refine s_do (o_q (encGRow x_55) rfl nle rfl) ?_
            refine s_dol (o_call (w_spec_l05SameRow _ _ _ er58) rfl (.refl _) rfl) a_same trivial ?_
            refine s_do (o_q (.bool (!r_57)) rfl trivial rfl) ?_
            refine w_done ?_
            refine k_seq ?_
            rcases oi hc1 with ⟨c59, hc1⟩ | ⟨c59, hc1⟩
            · refine w_condt rfl c59 ?_
              refine awp_seq ?_
              refine w_reg ?_
              refine s_do (o_mov (.bool false) rfl) ?_
              refine w_done ?_
              refine k_seq ?_
              refine w_ret ?_
              obtain rfl := os hc1
              obtain rfl := os hf
              exact r_flat ⟨trivial, trivial⟩ rfl (.refl _)
            · refine w_condf rfl (bf c59) ?_
              refine w_skip ?_
              refine k_blk ?_
              refine k_seq ?_
              refine w_reg ?_
              refine s_do (o_mov (.int .i64 (i_34 : Int)) rfl) ?_
              refine s_do (o_q (.int .i64 (w64 ((i_34 : Int) + 1))) rfl rfl rfl) ?_
              refine s_do (o_mov (.int .i64 (w64 ((i_34 : Int) + 1))) rfl) ?_
              refine w_done ?_
              exact k_loopn ⟨(i_34 + 1), hc1⟩ (mul hlt46) ⟨[], [], _, _, rfl, rfl, ⟨.refl _, ⟨.refl _, ⟨.of_eq (congrArg (AV.int _) (w64_incr hlt46 hl54)), trivial⟩⟩⟩, .refl _⟩
        · rintro ⟨_, rfl⟩
          refine awp_seq ?_
          refine w_reg ?_
          refine s_do (o_mov (.bool true) rfl) ?_
          refine w_done ?_
          refine k_seq ?_
          refine w_ret ?_
          obtain rfl := os hf
          exact r_flat ⟨trivial, trivial⟩ rfl (.refl _)

/- impl.isList[impl.Row] -/
def c96 : ACode :=
 (.seq (.reg (.q ⟨(some 2), none, .mov (.c (.bool false))⟩
 .done))
 (.seq (.reg (.q ⟨(some 3), none, .mov (.t 0)⟩
 (.q ⟨(some 4), none, .len (.t 3)⟩
 (.q ⟨(some 5), none, .bin .leq (.t 4) (.c (.int .i64 4096))⟩
 (.q ⟨(some 2), none, .mov (.t 5)⟩
 .done)))))
 .ret))
theorem fc96 : fcomp Try.prog Try.f96 = some (c96.erase, [.mov (.t 2)], 6) := by kernel_rfl
def impl_isList_impl_Row (list_1 : (List GRow)) : Option Bool :=
    some (decide ((list_1.length : Int) ≤ 4096))
theorem w_impl_isList_impl_Row (list_1 : (List GRow)) (r : Bool) (hf : impl_isList_impl_Row list_1 = some r) : CallOK Try.prog 96 .flat [(.lst 2 (list_1.map encGRow))] (.bool r) := by
  refine CallOK.of_awp mixed Try.func96 fc96 nle ?_
  rw [argT_eq]
  unfold impl_isList_impl_Row at hf
  unfold c96
  refine (show awp Try.prog false 0 _ (ofL [(0, (.lst 2 (list_1.map encGRow)))]) [] _ from ?_)
  refine awp_seq ?_
  refine w_reg ?_
  refine s_do (o_mov (.bool false) rfl) ?_
  refine w_done ?_
  refine k_seq ?_
  refine awp_seq ?_
  refine w_reg ?_
  refine s_do (o_mov (.lst 2 (list_1.map encGRow)) rfl) ?_
  refine s_dof (o_len (enc := encGRow) rfl) fun hl2 => ?_
  refine s_do (o_q (.bool (decide ((list_1.length : Int) ≤ 4096))) rfl rfl rfl) ?_
  refine s_do (o_mov (.bool (decide ((list_1.length : Int) ≤ 4096))) rfl) ?_
  refine w_done ?_
  refine k_seq ?_
  refine w_ret ?_
  obtain rfl := os hf
  exact r_flat ⟨trivial, trivial⟩ rfl (.refl _)

/- slices.EqualFunc[[]impl.Row,[]impl.Row,impl.Row,impl.Row] -/
def c159 : ACode :=
 (.seq (.reg (.q ⟨(some 6), none, .mov (.c (.bool false))⟩
 .done))
 (.seq (.seq (.reg (.q ⟨(some 10), none, .mov (.t 0)⟩
 (.q ⟨(some 11), none, .len (.t 10)⟩
 (.q ⟨(some 12), none, .mov (.t 1)⟩
 (.q ⟨(some 13), none, .len (.t 12)⟩
 (.q ⟨(some 14), none, .bin .neq (.t 11) (.t 13)⟩
 .done))))))
 (.cond (.t 14) (.seq (.reg (.q ⟨(some 6), none, .mov (.c (.bool false))⟩
 .done))
 .ret)
 .skip))
 (.seq (.seq (.reg (.q ⟨(some 15), none, .mov (.t 0)⟩
 (.q ⟨(some 16), none, .len (.t 15)⟩
 (.q ⟨(some 17), none, .mov (.c (.int .i64 0))⟩
 .done))))
 (.block 0 (.loop (.seq (.reg (.q ⟨(some 18), none, .bin .lss (.t 17) (.t 16)⟩
 .done))
 (.seq (.cond (.t 18) .skip
 (.exit 0))
 (.seq (.block 1 (.seq (.reg (.q ⟨(some 19), none, .mov (.t 17)⟩
 (.q ⟨(some 20), none, .iaddr 2 (.t 15) (.t 17)⟩
 (.q ⟨(some 21), none, .load 2 true (.t 20)⟩
 (.q ⟨(some 8), none, .box 2 (.c (.agg [(.int .i64 0), .nil]))⟩
 (.q ⟨(some 7), none, .mov (.t 19)⟩
 (.q ⟨none, none, .store 2 (.t 8) (.t 21)⟩
 .done)))))))
 (.seq (.reg (.q ⟨(some 22), none, .mov (.t 1)⟩
 (.q ⟨(some 23), none, .mov (.t 7)⟩
 (.q ⟨(some 24), none, .iaddr 2 (.t 22) (.t 23)⟩
 (.q ⟨(some 25), none, .load 2 true (.t 24)⟩
 (.q ⟨(some 9), none, .box 2 (.c (.agg [(.int .i64 0), .nil]))⟩
 (.q ⟨none, none, .store 2 (.t 9) (.t 25)⟩
 .done)))))))
 (.seq (.reg (.q ⟨(some 26), none, .mov (.t 2)⟩
 (.q ⟨(some 27), none, .load 2 true (.t 8)⟩
 (.q ⟨(some 28), none, .load 2 true (.t 9)⟩
 (.q ⟨(some 29), none, .calv (.t 26) [(.t 27), (.t 28)]⟩
 (.q ⟨(some 30), none, .not (.t 29)⟩
 .done))))))
 (.cond (.t 30) (.seq (.reg (.q ⟨(some 6), none, .mov (.c (.bool false))⟩
 .done))
 .ret)
 .skip)))))
 (.reg (.q ⟨(some 31), none, .bin .add (.t 17) (.c (.int .i64 1))⟩
 (.q ⟨(some 17), none, .mov (.t 31)⟩
 .done)))))))))
 (.cut (.seq (.reg (.q ⟨(some 6), none, .mov (.c (.bool true))⟩
 .done))
 .ret)))))
theorem fc159 : fcomp Try.prog Try.f159 = some (c159.erase, [.mov (.t 6)], 32) := by kernel_rfl
def slices_EqualFunc_impl_Row_impl_Row_impl_Row_impl_Row_L1 (s2_2 : (List GRow)) (eq_3 : (GRow → GRow → Option Bool)) : List GRow → Nat → Option (Fl Bool Unit)
  | [], s17_25 =>
    some (.go ())
  | x_41 :: xs, s17_25 =>
    (idx s2_2 (s17_25 : Int)).bind fun x_42 =>
    (eq_3 x_41 x_42).bind fun r_44 =>
    if (!r_44) then
    some (.ret false)
    else
    slices_EqualFunc_impl_Row_impl_Row_impl_Row_impl_Row_L1 s2_2 eq_3 xs (s17_25 + 1)

def slices_EqualFunc_impl_Row_impl_Row_impl_Row_impl_Row (s1_1 : (List GRow)) (s2_2 : (List GRow)) (eq_3 : (GRow → GRow → Option Bool)) : Option Bool :=
    if ((s1_1.length : Int) != (s2_2.length : Int)) then
    some false
    else
    (slices_EqualFunc_impl_Row_impl_Row_impl_Row_impl_Row_L1 s2_2 eq_3 s1_1 0).bind fun q => (match q with
    | .ret r => some r
    | .go _ =>
    some true)
theorem w_slices_EqualFunc_impl_Row_impl_Row_impl_Row_impl_Row (s1_1 : (List GRow)) (s2_2 : (List GRow)) (eq_3 : (GRow → GRow → Option Bool)) (r : Bool) (hf : slices_EqualFunc_impl_Row_impl_Row_impl_Row_impl_Row s1_1 s2_2 eq_3 = some r) (kf_eq_3 : Nat) (cf_eq_3 : List AV) (okf_eq_3 : okFn Try.prog kf_eq_3 = true) (hcf_eq_3 : ∀ h p, closeWs h p cf_eq_3 = some cf_eq_3) (hrf_eq_3 : ∀ f, rens f cf_eq_3 = cf_eq_3) (hpf_eq_3 : ∀ a0 a1 r, eq_3 a0 a1 = some r → CallOK Try.prog kf_eq_3 .flat ([(encGRow a0), (encGRow a1)] ++ cf_eq_3) (.bool r)) : CallOK Try.prog 159 .flat [(.lst 2 (s1_1.map encGRow)), (.lst 2 (s2_2.map encGRow)), (.fn kf_eq_3 cf_eq_3)] (.bool r) := by
  refine CallOK.of_awp mixed Try.func159 fc159 nle ?_
  rw [argT_eq]
  unfold slices_EqualFunc_impl_Row_impl_Row_impl_Row_impl_Row at hf
  unfold c159
  refine (show awp Try.prog false 0 _ (ofL [(0, (.lst 2 (s1_1.map encGRow))), (1, (.lst 2 (s2_2.map encGRow))), (2, (.fn kf_eq_3 cf_eq_3))]) [] _ from ?_)
  refine awp_seq ?_
  refine w_reg ?_
  refine s_do (o_mov (.bool false) rfl) ?_
  refine w_done ?_
  refine k_seq ?_
  refine awp_seq ?_
  refine awp_seq ?_
  refine w_reg ?_
  refine s_do (o_mov (.lst 2 (s1_1.map encGRow)) rfl) ?_
  refine s_dof (o_len (enc := encGRow) rfl) fun hl4 => ?_
  refine s_do (o_mov (.lst 2 (s2_2.map encGRow)) rfl) ?_
  refine s_dof (o_len (enc := encGRow) rfl) fun hl5 => ?_
  refine s_do (o_q (.bool ((s1_1.length : Int) != (s2_2.length : Int))) rfl rfl rfl) ?_
  refine w_done ?_
  refine k_seq ?_
  rcases oi hf with ⟨c6, hf⟩ | ⟨c6, hf⟩
  · refine w_condt rfl c6 ?_
    refine awp_seq ?_
    refine w_reg ?_
    refine s_do (o_mov (.bool false) rfl) ?_
    refine w_done ?_
    refine k_seq ?_
    refine w_ret ?_
    obtain rfl := os hf
    exact r_flat ⟨trivial, trivial⟩ rfl (.refl _)
  · refine w_condf rfl (bf c6) ?_
    refine w_skip ?_
    refine k_seq ?_
    refine awp_seq ?_
    refine awp_seq ?_
    refine w_reg ?_
    refine s_do (o_mov (.lst 2 (s1_1.map encGRow)) rfl) ?_
    refine s_dof (o_len (enc := encGRow) rfl) fun hl7 => ?_
    refine s_do (o_mov (.int .i64 0) rfl) ?_
    refine w_done ?_
    refine k_seq ?_
    obtain ⟨p34, hb1, hf⟩ := ob hf
    refine awp_cutx (X := {q : Unit // p34 = .go q}) (fun q => ([], [])) ?_ ?_
    · refine awp_loop (X := {q : Nat // slices_EqualFunc_impl_Row_impl_Row_impl_Row_impl_Row_L1 s2_2 eq_3 (s1_1.drop q) q = some p34}) (fun q => ([(1, (.lst 2 (s2_2.map encGRow))), (2, (.fn kf_eq_3 cf_eq_3)), (15, (.lst 2 (s1_1.map encGRow))), (16, (.int .i64 (s1_1.length : Int))), (17, (.int .i64 (q.1 : Int)))], [])) (fun q => s1_1.length - q.1) ⟨0, hb1⟩ ⟨[], [], _, _, rfl, rfl, ⟨.refl _, ⟨.of_eq (congrArg (AV.fn _) (hrf_eq_3 _)), ⟨.refl _, ⟨.refl _, ⟨.refl _, trivial⟩⟩⟩⟩⟩, .refl _⟩ ?_
      rintro ⟨s17_25, hc1⟩
      have hc1 : slices_EqualFunc_impl_Row_impl_Row_impl_Row_impl_Row_L1 s2_2 eq_3 (s1_1.drop s17_25) s17_25 = some p34 := hc1
      refine (show awp Try.prog false 0 _ (ofL [(1, (.lst 2 (s2_2.map encGRow))), (2, (.fn kf_eq_3 cf_eq_3)), (15, (.lst 2 (s1_1.map encGRow))), (16, (.int .i64 (s1_1.length : Int))), (17, (.int .i64 (s17_25 : Int)))]) [] _ from ?_)
      rcases dropc s1_1 s17_25 with ⟨hie37, hd40⟩ | ⟨hlt35, x_41, hx36, hd40⟩
      · rw [hd40, slices_EqualFunc_impl_Row_impl_Row_impl_Row_impl_Row_L1.eq_1] at hc1
        have hq39 := dlf hie37
        refine awp_seq ?_
        refine w_reg ?_
        refine s_do (o_q (.bool (decide ((s17_25 : Int) < (s1_1.length : Int)))) rfl rfl rfl) ?_
        refine w_done ?_
        refine k_seq ?_
        refine awp_seq ?_
        refine w_condf rfl hq39 ?_
        refine w_exit ?_
        refine k_seqx ?_
        refine k_loopx ?_
        refine k_blkx ?_
        obtain rfl := os hc1
        exact k_cutn ⟨_, rfl⟩ ⟨[], [], _, _, rfl, rfl, trivial, .refl _⟩
      · rw [hd40, slices_EqualFunc_impl_Row_impl_Row_impl_Row_impl_Row_L1.eq_2] at hc1
        have hq39 := dlt hlt35
        refine awp_seq ?_
        refine w_reg ?_
        refine s_do (o_q (.bool (decide ((s17_25 : Int) < (s1_1.length : Int)))) rfl rfl rfl) ?_
        refine w_done ?_
        refine k_seq ?_
        refine awp_seq ?_
        refine w_condt rfl hq39 ?_
        refine w_skip ?_
        refine k_seq ?_
        refine awp_seq ?_
        refine w_blk ?_
        refine awp_seq ?_
        refine w_reg ?_
        refine s_do (o_mov (.int .i64 (s17_25 : Int)) rfl) ?_
        refine s_do (o_iaddrn (enc := encGRow) rfl rfl hx36) ?_
        refine s_do (o_q (encGRow x_41) rfl nle rfl) ?_
        refine s_do (o_box (j := 0) (c := (.agg [(.int .i64 0), .nil])) rfl trivial rfl rfl) ?_
        refine s_do (o_mov (.int .i64 (s17_25 : Int)) rfl) ?_
        refine s_do0 (o_storebox (v := (.agg [(.int .i64 x_41.Id), (.lst 1 (x_41.Cells.map (encL 3 encGAtom)))])) (y' := (.agg [(.int .i64 x_41.Id), (.lst 1 (x_41.Cells.map (encL 3 encGAtom)))])) rfl rfl rfl trivial ⟨rfl, nle⟩ ⟨⟨rfl, trivial⟩, ⟨⟨rfl, trivial⟩, trivial⟩⟩ rfl) ?_
        refine w_done ?_
        refine k_seq ?_
        refine awp_seq ?_
        refine w_reg ?_
        obtain ⟨x_42, ex43, hc1⟩ := ob hc1
        refine s_do (o_mov (.lst 2 (s2_2.map encGRow)) rfl) ?_
        refine s_do (o_mov (.int .i64 (s17_25 : Int)) rfl) ?_
        refine s_do (o_iaddr (enc := encGRow) rfl rfl (idx0 ex43) (idx1 ex43)) ?_
        refine s_do (o_q (encGRow x_42) rfl nle rfl) ?_
        refine s_do (o_box (j := 1) (c := (.agg [(.int .i64 0), .nil])) rfl trivial rfl rfl) ?_
        refine s_do0 (o_storebox (v := (.agg [(.int .i64 x_42.Id), (.lst 1 (x_42.Cells.map (encL 3 encGAtom)))])) (y' := (.agg [(.int .i64 x_42.Id), (.lst 1 (x_42.Cells.map (encL 3 encGAtom)))])) rfl rfl rfl trivial ⟨rfl, nle⟩ ⟨⟨rfl, trivial⟩, ⟨⟨rfl, trivial⟩, trivial⟩⟩ rfl) ?_
        refine w_done ?_
        refine k_seq ?_
        refine awp_seq ?_
        refine w_reg ?_
        obtain ⟨r_44, er45, hc1⟩ := ob hc1
        refine s_do (o_mov (.fn kf_eq_3 cf_eq_3) rfl) ?_
        refine s_do (o_q (.agg [(.int .i64 x_41.Id), (.lst 1 (x_41.Cells.map (encL 3 encGAtom)))]) rfl nle rfl) ?_
        refine s_do (o_q (.agg [(.int .i64 x_42.Id), (.lst 1 (x_42.Cells.map (encL 3 encGAtom)))]) rfl nle rfl) ?_
        refine s_do (o_calvp (v := (.bool r_44)) rfl okf_eq_3 hcf_eq_3 (hpf_eq_3 _ _ _ er45) rfl (.refl _) rfl) ?_
        refine s_do (o_q (.bool (!r_44)) rfl trivial rfl) ?_
        refine w_done ?_
        refine k_seq ?_
        rcases oi hc1 with ⟨c46, hc1⟩ | ⟨c46, hc1⟩
        · refine w_condt rfl c46 ?_
          refine awp_seq ?_
          refine w_reg ?_
          refine s_do (o_mov (.bool false) rfl) ?_
          refine w_done ?_
          refine k_seq ?_
          refine w_ret ?_
          obtain rfl := os hc1
          obtain rfl := os hf
          exact r_flat ⟨trivial, trivial⟩ rfl (.refl _)
        · refine w_condf rfl (bf c46) ?_
          refine w_skip ?_
          refine k_blk ?_
          refine k_seq ?_
          refine w_reg ?_
          refine s_do (o_q (.int .i64 (w64 ((s17_25 : Int) + 1))) rfl rfl rfl) ?_
          refine s_do (o_mov (.int .i64 (w64 ((s17_25 : Int) + 1))) rfl) ?_
          refine w_done ?_
          exact k_loopn ⟨(s17_25 + 1), hc1⟩ (mul hlt35) ⟨[], [], _, _, rfl, rfl, ⟨.refl _, ⟨.of_eq (congrArg (AV.fn _) (hrf_eq_3 _)), ⟨.refl _, ⟨.refl _, ⟨.of_eq (congrArg (AV.int _) (w64_incr hlt35 hl7)), trivial⟩⟩⟩⟩⟩, .refl _⟩
    · rintro ⟨_, rfl⟩
      refine awp_seq ?_
      refine w_reg ?_
      refine s_do (o_mov (.bool true) rfl) ?_
      refine w_done ?_
      refine k_seq ?_
      refine w_ret ?_
      obtain rfl := os hf
      exact r_flat ⟨trivial, trivial⟩ rfl (.refl _)

/- slices.EqualFunc[[][]impl.Atom,[][]impl.Atom,[]impl.Atom,[]impl.Atom] -/
def c209 : ACode :=
 (.seq (.reg (.q ⟨(some 6), none, .mov (.c (.bool false))⟩
 .done))
 (.seq (.seq (.reg (.q ⟨(some 10), none, .mov (.t 0)⟩
 (.q ⟨(some 11), none, .len (.t 10)⟩
 (.q ⟨(some 12), none, .mov (.t 1)⟩
 (.q ⟨(some 13), none, .len (.t 12)⟩
 (.q ⟨(some 14), none, .bin .neq (.t 11) (.t 13)⟩
 .done))))))
 (.cond (.t 14) (.seq (.reg (.q ⟨(some 6), none, .mov (.c (.bool false))⟩
 .done))
 .ret)
 .skip))
 (.seq (.seq (.reg (.q ⟨(some 15), none, .mov (.t 0)⟩
 (.q ⟨(some 16), none, .len (.t 15)⟩
 (.q ⟨(some 17), none, .mov (.c (.int .i64 0))⟩
 .done))))
 (.block 0 (.loop (.seq (.reg (.q ⟨(some 18), none, .bin .lss (.t 17) (.t 16)⟩
 .done))
 (.seq (.cond (.t 18) .skip
 (.exit 0))
 (.seq (.block 1 (.seq (.reg (.q ⟨(some 19), none, .mov (.t 17)⟩
 (.q ⟨(some 20), none, .iaddr 1 (.t 15) (.t 17)⟩
 (.q ⟨(some 21), none, .load 1 false (.t 20)⟩
 (.q ⟨(some 7), none, .mov (.t 19)⟩
 (.q ⟨(some 8), none, .mov (.t 21)⟩
 .done))))))
 (.seq (.reg (.q ⟨(some 22), none, .mov (.t 1)⟩
 (.q ⟨(some 23), none, .mov (.t 7)⟩
 (.q ⟨(some 24), none, .iaddr 1 (.t 22) (.t 23)⟩
 (.q ⟨(some 25), none, .load 1 false (.t 24)⟩
 (.q ⟨(some 9), none, .mov (.t 25)⟩
 .done))))))
 (.seq (.reg (.q ⟨(some 26), none, .mov (.t 2)⟩
 (.q ⟨(some 27), none, .mov (.t 8)⟩
 (.q ⟨(some 28), none, .mov (.t 9)⟩
 (.q ⟨(some 29), none, .calv (.t 26) [(.t 27), (.t 28)]⟩
 (.q ⟨(some 30), none, .not (.t 29)⟩
 .done))))))
 (.cond (.t 30) (.seq (.reg (.q ⟨(some 6), none, .mov (.c (.bool false))⟩
 .done))
 .ret)
 .skip)))))
 (.reg (.q ⟨(some 31), none, .bin .add (.t 17) (.c (.int .i64 1))⟩
 (.q ⟨(some 17), none, .mov (.t 31)⟩
 .done)))))))))
 (.cut (.seq (.reg (.q ⟨(some 6), none, .mov (.c (.bool true))⟩
 .done))
 .ret)))))
theorem fc209 : fcomp Try.prog Try.f209 = some (c209.erase, [.mov (.t 6)], 32) := by kernel_rfl
def slices_EqualFunc_impl_Atom_impl_Atom_impl_Atom_impl_Atom_L1 (s2_2 : (List (List GAtom))) (eq_3 : ((List GAtom) → (List GAtom) → Option Bool)) : List (List GAtom) → Nat → Option (Fl Bool Unit)
  | [], s17_25 =>
    some (.go ())
  | x_41 :: xs, s17_25 =>
    (idx s2_2 (s17_25 : Int)).bind fun x_42 =>
    (eq_3 x_41 x_42).bind fun r_44 =>
    if (!r_44) then
    some (.ret false)
    else
    slices_EqualFunc_impl_Atom_impl_Atom_impl_Atom_impl_Atom_L1 s2_2 eq_3 xs (s17_25 + 1)

def slices_EqualFunc_impl_Atom_impl_Atom_impl_Atom_impl_Atom (s1_1 : (List (List GAtom))) (s2_2 : (List (List GAtom))) (eq_3 : ((List GAtom) → (List GAtom) → Option Bool)) : Option Bool :=
    if ((s1_1.length : Int) != (s2_2.length : Int)) then
    some false
    else
    (slices_EqualFunc_impl_Atom_impl_Atom_impl_Atom_impl_Atom_L1 s2_2 eq_3 s1_1 0).bind fun q => (match q with
    | .ret r => some r
    | .go _ =>
    some true)
theorem w_slices_EqualFunc_impl_Atom_impl_Atom_impl_Atom_impl_Atom (s1_1 : (List (List GAtom))) (s2_2 : (List (List GAtom))) (eq_3 : ((List GAtom) → (List GAtom) → Option Bool)) (r : Bool) (hf : slices_EqualFunc_impl_Atom_impl_Atom_impl_Atom_impl_Atom s1_1 s2_2 eq_3 = some r) (kf_eq_3 : Nat) (cf_eq_3 : List AV) (okf_eq_3 : okFn Try.prog kf_eq_3 = true) (hcf_eq_3 : ∀ h p, closeWs h p cf_eq_3 = some cf_eq_3) (hrf_eq_3 : ∀ f, rens f cf_eq_3 = cf_eq_3) (hpf_eq_3 : ∀ a0 a1 r, eq_3 a0 a1 = some r → CallOK Try.prog kf_eq_3 .flat ([(.lst 3 (a0.map encGAtom)), (.lst 3 (a1.map encGAtom))] ++ cf_eq_3) (.bool r)) : CallOK Try.prog 209 .flat [(.lst 1 (s1_1.map (encL 3 encGAtom))), (.lst 1 (s2_2.map (encL 3 encGAtom))), (.fn kf_eq_3 cf_eq_3)] (.bool r) := by
  refine CallOK.of_awp mixed Try.func209 fc209 nle ?_
  rw [argT_eq]
  unfold slices_EqualFunc_impl_Atom_impl_Atom_impl_Atom_impl_Atom at hf
  unfold c209
  refine (show awp Try.prog false 0 _ (ofL [(0, (.lst 1 (s1_1.map (encL 3 encGAtom)))), (1, (.lst 1 (s2_2.map (encL 3 encGAtom)))), (2, (.fn kf_eq_3 cf_eq_3))]) [] _ from ?_)
  refine awp_seq ?_
  refine w_reg ?_
  refine s_do (o_mov (.bool false) rfl) ?_
  refine w_done ?_
  refine k_seq ?_
  refine awp_seq ?_
  refine awp_seq ?_
  refine w_reg ?_
  refine s_do (o_mov (.lst 1 (s1_1.map (encL 3 encGAtom))) rfl) ?_
  refine s_dof (o_len (enc := (encL 3 encGAtom)) rfl) fun hl4 => ?_
  refine s_do (o_mov (.lst 1 (s2_2.map (encL 3 encGAtom))) rfl) ?_
  refine s_dof (o_len (enc := (encL 3 encGAtom)) rfl) fun hl5 => ?_
  refine s_do (o_q (.bool ((s1_1.length : Int) != (s2_2.length : Int))) rfl rfl rfl) ?_
  refine w_done ?_
  refine k_seq ?_
  rcases oi hf with ⟨c6, hf⟩ | ⟨c6, hf⟩
  · refine w_condt rfl c6 ?_
    refine awp_seq ?_
    refine w_reg ?_
    refine s_do (o_mov (.bool false) rfl) ?_
    refine w_done ?_
    refine k_seq ?_
    refine w_ret ?_
    obtain rfl := os hf
    exact r_flat ⟨trivial, trivial⟩ rfl (.refl _)
  · refine w_condf rfl (bf c6) ?_
    refine w_skip ?_
    refine k_seq ?_
    refine awp_seq ?_
    refine awp_seq ?_
    refine w_reg ?_
    refine s_do (o_mov (.lst 1 (s1_1.map (encL 3 encGAtom))) rfl) ?_
    refine s_dof (o_len (enc := (encL 3 encGAtom)) rfl) fun hl7 => ?_
    refine s_do (o_mov (.int .i64 0) rfl) ?_
    refine w_done ?_
    refine k_seq ?_
    obtain ⟨p34, hb1, hf⟩ := ob hf
    refine awp_cutx (X := {q : Unit // p34 = .go q}) (fun q => ([], [])) ?_ ?_
    · refine awp_loop (X := {q : Nat // slices_EqualFunc_impl_Atom_impl_Atom_impl_Atom_impl_Atom_L1 s2_2 eq_3 (s1_1.drop q) q = some p34}) (fun q => ([(1, (.lst 1 (s2_2.map (encL 3 encGAtom)))), (2, (.fn kf_eq_3 cf_eq_3)), (15, (.lst 1 (s1_1.map (encL 3 encGAtom)))), (16, (.int .i64 (s1_1.length : Int))), (17, (.int .i64 (q.1 : Int)))], [])) (fun q => s1_1.length - q.1) ⟨0, hb1⟩ ⟨[], [], _, _, rfl, rfl, ⟨.refl _, ⟨.of_eq (congrArg (AV.fn _) (hrf_eq_3 _)), ⟨.refl _, ⟨.refl _, ⟨.refl _, trivial⟩⟩⟩⟩⟩, .refl _⟩ ?_
      rintro ⟨s17_25, hc1⟩
      have hc1 : slices_EqualFunc_impl_Atom_impl_Atom_impl_Atom_impl_Atom_L1 s2_2 eq_3 (s1_1.drop s17_25) s17_25 = some p34 := hc1
      refine (show awp Try.prog false 0 _ (ofL [(1, (.lst 1 (s2_2.map (encL 3 encGAtom)))), (2, (.fn kf_eq_3 cf_eq_3)), (15, (.lst 1 (s1_1.map (encL 3 encGAtom)))), (16, (.int .i64 (s1_1.length : Int))), (17, (.int .i64 (s17_25 : Int)))]) [] _ from ?_)
      rcases dropc s1_1 s17_25 with ⟨hie37, hd40⟩ | ⟨hlt35, x_41, hx36, hd40⟩
      · rw [hd40, slices_EqualFunc_impl_Atom_impl_Atom_impl_Atom_impl_Atom_L1.eq_1] at hc1
        have hq39 := dlf hie37
        refine awp_seq ?_
        refine w_reg ?_
        refine s_do (o_q (.bool (decide ((s17_25 : Int) < (s1_1.length : Int)))) rfl rfl rfl) ?_
        refine w_done ?_
        refine k_seq ?_
        refine awp_seq ?_
        refine w_condf rfl hq39 ?_
        refine w_exit ?_
        refine k_seqx ?_
        refine k_loopx ?_
        refine k_blkx ?_
        obtain rfl := os hc1
        exact k_cutn ⟨_, rfl⟩ ⟨[], [], _, _, rfl, rfl, trivial, .refl _⟩
      · rw [hd40, slices_EqualFunc_impl_Atom_impl_Atom_impl_Atom_impl_Atom_L1.eq_2] at hc1
        have hq39 := dlt hlt35
        refine awp_seq ?_
        refine w_reg ?_
        refine s_do (o_q (.bool (decide ((s17_25 : Int) < (s1_1.length : Int)))) rfl rfl rfl) ?_
        refine w_done ?_
        refine k_seq ?_
        refine awp_seq ?_
        refine w_condt rfl hq39 ?_
        refine w_skip ?_
        refine k_seq ?_
        refine awp_seq ?_
        refine w_blk ?_
        refine awp_seq ?_
        refine w_reg ?_
        refine s_do (o_mov (.int .i64 (s17_25 : Int)) rfl) ?_
        refine s_do (o_iaddrn (enc := (encL 3 encGAtom)) rfl rfl hx36) ?_
        refine s_do (o_q (.lst 3 (x_41.map encGAtom)) rfl ⟨rfl, rfl⟩ rfl) ?_
        refine s_do (o_mov (.int .i64 (s17_25 : Int)) rfl) ?_
        refine s_do (o_mov (.lst 3 (x_41.map encGAtom)) rfl) ?_
        refine w_done ?_
        refine k_seq ?_
        refine awp_seq ?_
        refine w_reg ?_
        obtain ⟨x_42, ex43, hc1⟩ := ob hc1
        refine s_do (o_mov (.lst 1 (s2_2.map (encL 3 encGAtom))) rfl) ?_
        refine s_do (o_mov (.int .i64 (s17_25 : Int)) rfl) ?_
        refine s_do (o_iaddr (enc := (encL 3 encGAtom)) rfl rfl (idx0 ex43) (idx1 ex43)) ?_
        refine s_do (o_q (.lst 3 (x_42.map encGAtom)) rfl ⟨rfl, rfl⟩ rfl) ?_
        refine s_do (o_mov (.lst 3 (x_42.map encGAtom)) rfl) ?_
        refine w_done ?_
        refine k_seq ?_
        refine awp_seq ?_
        refine w_reg ?_
        obtain ⟨r_44, er45, hc1⟩ := ob hc1
        refine s_do (o_mov (.fn kf_eq_3 cf_eq_3) rfl) ?_
        refine s_do (o_mov (.lst 3 (x_41.map encGAtom)) rfl) ?_
        refine s_do (o_mov (.lst 3 (x_42.map encGAtom)) rfl) ?_
        refine s_do (o_calvp (v := (.bool r_44)) rfl okf_eq_3 hcf_eq_3 (hpf_eq_3 _ _ _ er45) rfl (.refl _) rfl) ?_
        refine s_do (o_q (.bool (!r_44)) rfl trivial rfl) ?_
        refine w_done ?_
        refine k_seq ?_
        rcases oi hc1 with ⟨c46, hc1⟩ | ⟨c46, hc1⟩
        · refine w_condt rfl c46 ?_
          refine awp_seq ?_
          refine w_reg ?_
          refine s_do (o_mov (.bool false) rfl) ?_
          refine w_done ?_
          refine k_seq ?_
          refine w_ret ?_
          obtain rfl := os hc1
          obtain rfl := os hf
          exact r_flat ⟨trivial, trivial⟩ rfl (.refl _)
        · refine w_condf rfl (bf c46) ?_
          refine w_skip ?_
          refine k_blk ?_
          refine k_seq ?_
          refine w_reg ?_
          refine s_do (o_q (.int .i64 (w64 ((s17_25 : Int) + 1))) rfl rfl rfl) ?_
          refine s_do (o_mov (.int .i64 (w64 ((s17_25 : Int) + 1))) rfl) ?_
          refine w_done ?_
          exact k_loopn ⟨(s17_25 + 1), hc1⟩ (mul hlt35) ⟨[], [], _, _, rfl, rfl, ⟨.refl _, ⟨.of_eq (congrArg (AV.fn _) (hrf_eq_3 _)), ⟨.refl _, ⟨.refl _, ⟨.of_eq (congrArg (AV.int _) (w64_incr hlt35 hl7)), trivial⟩⟩⟩⟩⟩, .refl _⟩
    · rintro ⟨_, rfl⟩
      refine awp_seq ?_
      refine w_reg ?_
      refine s_do (o_mov (.bool true) rfl) ?_
      refine w_done ?_
      refine k_seq ?_
      refine w_ret ?_
      obtain rfl := os hf
      exact r_flat ⟨trivial, trivial⟩ rfl (.refl _)

/- slices.Equal[[]impl.Atom,impl.Atom] -/
def c210 : ACode :=
 (.seq (.reg (.q ⟨(some 4), none, .mov (.c (.bool false))⟩
 .done))
 (.seq (.seq (.reg (.q ⟨(some 6), none, .mov (.t 0)⟩
 (.q ⟨(some 7), none, .len (.t 6)⟩
 (.q ⟨(some 8), none, .mov (.t 1)⟩
 (.q ⟨(some 9), none, .len (.t 8)⟩
 (.q ⟨(some 10), none, .bin .neq (.t 7) (.t 9)⟩
 .done))))))
 (.cond (.t 10) (.seq (.reg (.q ⟨(some 4), none, .mov (.c (.bool false))⟩
 .done))
 .ret)
 .skip))
 (.seq (.seq (.reg (.q ⟨(some 11), none, .mov (.t 0)⟩
 (.q ⟨(some 12), none, .len (.t 11)⟩
 (.q ⟨(some 13), none, .mov (.c (.int .i64 0))⟩
 .done))))
 (.block 0 (.loop (.seq (.reg (.q ⟨(some 14), none, .bin .lss (.t 13) (.t 12)⟩
 .done))
 (.seq (.cond (.t 14) .skip
 (.exit 0))
 (.seq (.block 1 (.seq (.reg (.q ⟨(some 15), none, .mov (.t 13)⟩
 (.q ⟨(some 5), none, .mov (.t 15)⟩
 .done)))
 (.seq (.reg (.q ⟨(some 16), none, .mov (.t 0)⟩
 (.q ⟨(some 17), none, .mov (.t 5)⟩
 (.q ⟨(some 18), none, .iaddr 3 (.t 16) (.t 17)⟩
 (.q ⟨(some 19), none, .load 3 true (.t 18)⟩
 (.q ⟨(some 20), none, .mov (.t 1)⟩
 (.q ⟨(some 21), none, .mov (.t 5)⟩
 (.q ⟨(some 22), none, .iaddr 3 (.t 20) (.t 21)⟩
 (.q ⟨(some 23), none, .load 3 true (.t 22)⟩
 (.q ⟨(some 24), none, .eqs true [0, 0, 2] (.t 19) (.t 23)⟩
 .done))))))))))
 (.cond (.t 24) (.seq (.reg (.q ⟨(some 4), none, .mov (.c (.bool false))⟩
 .done))
 .ret)
 .skip))))
 (.reg (.q ⟨(some 25), none, .bin .add (.t 13) (.c (.int .i64 1))⟩
 (.q ⟨(some 13), none, .mov (.t 25)⟩
 .done)))))))))
 (.cut (.seq (.reg (.q ⟨(some 4), none, .mov (.c (.bool true))⟩
 .done))
 .ret)))))
theorem fc210 : fcomp Try.prog Try.f210 = some (c210.erase, [.mov (.t 4)], 26) := by kernel_rfl
def slices_Equal_impl_Atom_impl_Atom_L1 (s2_2 : (List GAtom)) : List GAtom → Nat → Option (Fl Bool Unit)
  | [], s13_20 =>
    some (.go ())
  | x_34 :: xs, s13_20 =>
    (idx s2_2 (s13_20 : Int)).bind fun x_35 =>
    if (!(x_34.Kind == x_35.Kind && (x_34.N == x_35.N && (x_34.T == x_35.T && true)))) then
    some (.ret false)
    else
    slices_Equal_impl_Atom_impl_Atom_L1 s2_2 xs (s13_20 + 1)

def slices_Equal_impl_Atom_impl_Atom (s1_1 : (List GAtom)) (s2_2 : (List GAtom)) : Option Bool :=
    if ((s1_1.length : Int) != (s2_2.length : Int)) then
    some false
    else
    (slices_Equal_impl_Atom_impl_Atom_L1 s2_2 s1_1 0).bind fun q => (match q with
    | .ret r => some r
    | .go _ =>
    some true)
theorem w_slices_Equal_impl_Atom_impl_Atom (s1_1 : (List GAtom)) (s2_2 : (List GAtom)) (r : Bool) (hf : slices_Equal_impl_Atom_impl_Atom s1_1 s2_2 = some r) : CallOK Try.prog 210 .flat [(.lst 3 (s1_1.map encGAtom)), (.lst 3 (s2_2.map encGAtom))] (.bool r) := by
  refine CallOK.of_awp mixed Try.func210 fc210 nle ?_
  rw [argT_eq]
  unfold slices_Equal_impl_Atom_impl_Atom at hf
  unfold c210
  refine (show awp Try.prog false 0 _ (ofL [(0, (.lst 3 (s1_1.map encGAtom))), (1, (.lst 3 (s2_2.map encGAtom)))]) [] _ from ?_)
  refine awp_seq ?_
  refine w_reg ?_
  refine s_do (o_mov (.bool false) rfl) ?_
  refine w_done ?_
  refine k_seq ?_
  refine awp_seq ?_
  refine awp_seq ?_
  refine w_reg ?_
  refine s_do (o_mov (.lst 3 (s1_1.map encGAtom)) rfl) ?_
  refine s_dof (o_len (enc := encGAtom) rfl) fun hl3 => ?_
  refine s_do (o_mov (.lst 3 (s2_2.map encGAtom)) rfl) ?_
  refine s_dof (o_len (enc := encGAtom) rfl) fun hl4 => ?_
  refine s_do (o_q (.bool ((s1_1.length : Int) != (s2_2.length : Int))) rfl rfl rfl) ?_
  refine w_done ?_
  refine k_seq ?_
  rcases oi hf with ⟨c5, hf⟩ | ⟨c5, hf⟩
  · refine w_condt rfl c5 ?_
    refine awp_seq ?_
    refine w_reg ?_
    refine s_do (o_mov (.bool false) rfl) ?_
    refine w_done ?_
    refine k_seq ?_
    refine w_ret ?_
    obtain rfl := os hf
    exact r_flat ⟨trivial, trivial⟩ rfl (.refl _)
  · refine w_condf rfl (bf c5) ?_
    refine w_skip ?_
    refine k_seq ?_
    refine awp_seq ?_
    refine awp_seq ?_
    refine w_reg ?_
    refine s_do (o_mov (.lst 3 (s1_1.map encGAtom)) rfl) ?_
    refine s_dof (o_len (enc := encGAtom) rfl) fun hl6 => ?_
    refine s_do (o_mov (.int .i64 0) rfl) ?_
    refine w_done ?_
    refine k_seq ?_
    obtain ⟨p27, hb1, hf⟩ := ob hf
    refine awp_cutx (X := {q : Unit // p27 = .go q}) (fun q => ([], [])) ?_ ?_
    · refine awp_loop (X := {q : Nat // slices_Equal_impl_Atom_impl_Atom_L1 s2_2 (s1_1.drop q) q = some p27}) (fun q => ([(0, (.lst 3 (s1_1.map encGAtom))), (1, (.lst 3 (s2_2.map encGAtom))), (12, (.int .i64 (s1_1.length : Int))), (13, (.int .i64 (q.1 : Int)))], [])) (fun q => s1_1.length - q.1) ⟨0, hb1⟩ ⟨[], [], _, _, rfl, rfl, ⟨.refl _, ⟨.refl _, ⟨.refl _, ⟨.refl _, trivial⟩⟩⟩⟩, .refl _⟩ ?_
      rintro ⟨s13_20, hc1⟩
      have hc1 : slices_Equal_impl_Atom_impl_Atom_L1 s2_2 (s1_1.drop s13_20) s13_20 = some p27 := hc1
      refine (show awp Try.prog false 0 _ (ofL [(0, (.lst 3 (s1_1.map encGAtom))), (1, (.lst 3 (s2_2.map encGAtom))), (12, (.int .i64 (s1_1.length : Int))), (13, (.int .i64 (s13_20 : Int)))]) [] _ from ?_)
      rcases dropc s1_1 s13_20 with ⟨hie30, hd33⟩ | ⟨hlt28, x_34, hx29, hd33⟩
      · rw [hd33, slices_Equal_impl_Atom_impl_Atom_L1.eq_1] at hc1
        have hq32 := dlf hie30
        refine awp_seq ?_
        refine w_reg ?_
        refine s_do (o_q (.bool (decide ((s13_20 : Int) < (s1_1.length : Int)))) rfl rfl rfl) ?_
        refine w_done ?_
        refine k_seq ?_
        refine awp_seq ?_
        refine w_condf rfl hq32 ?_
        refine w_exit ?_
        refine k_seqx ?_
        refine k_loopx ?_
        refine k_blkx ?_
        obtain rfl := os hc1
        exact k_cutn ⟨_, rfl⟩ ⟨[], [], _, _, rfl, rfl, trivial, .refl _⟩
      · rw [hd33, slices_Equal_impl_Atom_impl_Atom_L1.eq_2] at hc1
        have hq32 := dlt hlt28
        refine awp_seq ?_
        refine w_reg ?_
        refine s_do (o_q (.bool (decide ((s13_20 : Int) < (s1_1.length : Int)))) rfl rfl rfl) ?_
        refine w_done ?_
        refine k_seq ?_
        refine awp_seq ?_
        refine w_condt rfl hq32 ?_
        refine w_skip ?_
        refine k_seq ?_
        refine awp_seq ?_
        refine w_blk ?_
        refine awp_seq ?_
        refine w_reg ?_
        refine s_do (o_mov (.int .i64 (s13_20 : Int)) rfl) ?_
        refine s_do (o_mov (.int .i64 (s13_20 : Int)) rfl) ?_
        refine w_done ?_
        refine k_seq ?_
        refine awp_seq ?_
        refine w_reg ?_
        obtain ⟨x_35, ex36, hc1⟩ := ob hc1
        refine s_do (o_mov (.lst 3 (s1_1.map encGAtom)) rfl) ?_
        refine s_do (o_mov (.int .i64 (s13_20 : Int)) rfl) ?_
        refine s_do (o_iaddrn (enc := encGAtom) rfl rfl hx29) ?_
        refine s_do (o_q (encGAtom x_34) rfl nle rfl) ?_
        refine s_do (o_mov (.lst 3 (s2_2.map encGAtom)) rfl) ?_
        refine s_do (o_mov (.int .i64 (s13_20 : Int)) rfl) ?_
        refine s_do (o_iaddr (enc := encGAtom) rfl rfl (idx0 ex36) (idx1 ex36)) ?_
        refine s_do (o_q (encGAtom x_35) rfl nle rfl) ?_
        refine s_do (o_q (.bool (!(x_34.Kind == x_35.Kind && (x_34.N == x_35.N && (x_34.T == x_35.T && true))))) rfl ⟨⟨rfl, rfl⟩, ⟨⟨rfl, rfl⟩, ⟨rfl, trivial⟩⟩⟩ rfl) ?_
        refine w_done ?_
        refine k_seq ?_
        rcases oi hc1 with ⟨c37, hc1⟩ | ⟨c37, hc1⟩
        · refine w_condt rfl c37 ?_
          refine awp_seq ?_
          refine w_reg ?_
          refine s_do (o_mov (.bool false) rfl) ?_
          refine w_done ?_
          refine k_seq ?_
          refine w_ret ?_
          obtain rfl := os hc1
          obtain rfl := os hf
          exact r_flat ⟨trivial, trivial⟩ rfl (.refl _)
        · refine w_condf rfl (bf c37) ?_
          refine w_skip ?_
          refine k_blk ?_
          refine k_seq ?_
          refine w_reg ?_
          refine s_do (o_q (.int .i64 (w64 ((s13_20 : Int) + 1))) rfl rfl rfl) ?_
          refine s_do (o_mov (.int .i64 (w64 ((s13_20 : Int) + 1))) rfl) ?_
          refine w_done ?_
          exact k_loopn ⟨(s13_20 + 1), hc1⟩ (mul hlt28) ⟨[], [], _, _, rfl, rfl, ⟨.refl _, ⟨.refl _, ⟨.refl _, ⟨.of_eq (congrArg (AV.int _) (w64_incr hlt28 hl6)), trivial⟩⟩⟩⟩, .refl _⟩
    · rintro ⟨_, rfl⟩
      refine awp_seq ?_
      refine w_reg ?_
      refine s_do (o_mov (.bool true) rfl) ?_
      refine w_done ?_
      refine k_seq ?_
      refine w_ret ?_
      obtain rfl := os hf
      exact r_flat ⟨trivial, trivial⟩ rfl (.refl _)

/- impl.sameRow -/
def c160 : ACode :=
 (.seq (.reg (.q ⟨(some 2), none, .box 2 (.t 0)⟩
 (.q ⟨(some 3), none, .box 2 (.t 1)⟩
 (.q ⟨(some 4), none, .mov (.c (.bool false))⟩
 .done))))
 (.seq (.reg (.q ⟨(some 5), none, .faddr 0 (.t 2)⟩
 (.q ⟨(some 6), none, .load 1 false (.t 5)⟩
 (.q ⟨(some 7), none, .faddr 0 (.t 3)⟩
 (.q ⟨(some 8), none, .load 1 false (.t 7)⟩
 (.q ⟨(some 9), none, .bin .eql (.t 6) (.t 8)⟩
 (.q ⟨(some 10), none, .mov (.t 9)⟩
 (.q ⟨(some 11), (some (10, true)), .faddr 1 (.t 2)⟩
 (.q ⟨(some 12), (some (10, true)), .load 1 false (.t 11)⟩
 (.q ⟨(some 13), (some (10, true)), .faddr 1 (.t 3)⟩
 (.q ⟨(some 14), (some (10, true)), .load 1 false (.t 13)⟩
 (.q ⟨(some 15), (some (10, true)), .call 209 [(.t 12), (.t 14), (.c (.fn 210 []))]⟩
 (.q ⟨(some 16), none, .pick (.t 10) (.t 15) (.c (.bool false))⟩
 (.q ⟨(some 4), none, .mov (.t 16)⟩
 .done))))))))))))))
 .ret))
theorem fc160 : fcomp Try.prog Try.f160 = some (c160.erase, [.mov (.t 4)], 17) := by kernel_rfl
def impl_sameRow (a_1 : GRow) (b_2 : GRow) : Option Bool :=
    if (a_1.Id == b_2.Id) then
    (slices_EqualFunc_impl_Atom_impl_Atom_impl_Atom_impl_Atom a_1.Cells b_2.Cells slices_Equal_impl_Atom_impl_Atom).bind fun r_4 =>
    some r_4
    else
    some false
theorem w_impl_sameRow (a_1 : GRow) (b_2 : GRow) (r : Bool) (hf : impl_sameRow a_1 b_2 = some r) : CallOK Try.prog 160 .flat [(encGRow a_1), (encGRow b_2)] (.bool r) := by
  refine CallOK.of_awp mixed Try.func160 fc160 nle ?_
  rw [argT_eq]
  unfold impl_sameRow at hf
  unfold c160
  refine (show awp Try.prog false 0 _ (ofL [(0, (encGRow a_1)), (1, (encGRow b_2))]) [] _ from ?_)
  refine awp_seq ?_
  refine w_reg ?_
  refine s_do (o_box (j := 0) (c := (.agg [(.int .i64 a_1.Id), (.lst 1 (a_1.Cells.map (encL 3 encGAtom)))])) rfl trivial rfl rfl) ?_
  refine s_do (o_box (j := 1) (c := (.agg [(.int .i64 b_2.Id), (.lst 1 (b_2.Cells.map (encL 3 encGAtom)))])) rfl trivial rfl rfl) ?_
  refine s_do (o_mov (.bool false) rfl) ?_
  refine w_done ?_
  refine k_seq ?_
  refine awp_seq ?_
  refine w_reg ?_
  rcases oi hf with ⟨c3, hf⟩ | ⟨c3, hf⟩
  · obtain ⟨r_4, er5, hf⟩ := ob hf
    refine s_do (o_q (.ptr 0 0 0) rfl trivial rfl) ?_
    refine s_do (o_q (.int .i64 a_1.Id) rfl nle rfl) ?_
    refine s_do (o_q (.ptr 1 0 0) rfl trivial rfl) ?_
    refine s_do (o_q (.int .i64 b_2.Id) rfl nle rfl) ?_
    refine s_do (o_q (.bool (a_1.Id == b_2.Id)) rfl rfl rfl) ?_
    refine s_do (o_mov (.bool (a_1.Id == b_2.Id)) rfl) ?_
    refine s_lit (s := 10) (b := true) rfl c3 ?_
    refine s_on rfl ?_
    refine s_do (o_q (.ptr 0 0 1) rfl trivial rfl) ?_
    refine s_on rfl ?_
    refine s_do (o_q (.lst 1 (a_1.Cells.map (encL 3 encGAtom))) rfl nle rfl) ?_
    refine s_on rfl ?_
    refine s_do (o_q (.ptr 1 0 1) rfl trivial rfl) ?_
    refine s_on rfl ?_
    refine s_do (o_q (.lst 1 (b_2.Cells.map (encL 3 encGAtom))) rfl nle rfl) ?_
    refine s_on rfl ?_
    refine s_do (o_call (w_slices_EqualFunc_impl_Atom_impl_Atom_impl_Atom_impl_Atom _ _ _ _ er5 210 [] (by kernel_rfl) (fun _ _ => rfl) (fun _ => rfl) (fun a0 a1 r h => w_slices_Equal_impl_Atom_impl_Atom a0 a1 r h)) rfl (.refl _) rfl) ?_
    refine s_do (o_q (.bool r_4) rfl trivial rfl) ?_
    refine s_do (o_mov (.bool r_4) rfl) ?_
    refine w_done ?_
    refine k_seq ?_
    refine w_ret ?_
    obtain rfl := os hf
    exact r_flat ⟨trivial, trivial⟩ rfl (.refl _)
  · refine s_do (o_q (.ptr 0 0 0) rfl trivial rfl) ?_
    refine s_do (o_q (.int .i64 a_1.Id) rfl nle rfl) ?_
    refine s_do (o_q (.ptr 1 0 0) rfl trivial rfl) ?_
    refine s_do (o_q (.int .i64 b_2.Id) rfl nle rfl) ?_
    refine s_do (o_q (.bool (a_1.Id == b_2.Id)) rfl rfl rfl) ?_
    refine s_do (o_mov (.bool (a_1.Id == b_2.Id)) rfl) ?_
    refine s_lit (s := 10) (b := false) rfl (bf c3) ?_
    refine s_off rfl rfl ?_
    refine s_off rfl rfl ?_
    refine s_off rfl rfl ?_
    refine s_off rfl rfl ?_
    refine s_off rfl rfl ?_
    refine s_do (o_q (.bool false) rfl trivial rfl) ?_
    refine s_do (o_mov (.bool false) rfl) ?_
    refine w_done ?_
    refine k_seq ?_
    refine w_ret ?_
    obtain rfl := os hf
    exact r_flat ⟨trivial, trivial⟩ rfl (.refl _)

/- impl.sameRows -/
def c97 : ACode :=
 (.seq (.reg (.q ⟨(some 4), none, .mov (.c (.bool false))⟩
 .done))
 (.seq (.reg (.q ⟨(some 5), none, .mov (.t 0)⟩
 (.q ⟨(some 6), none, .mov (.t 1)⟩
 (.q ⟨(some 7), none, .call 159 [(.t 5), (.t 6), (.c (.fn 160 []))]⟩
 (.q ⟨(some 4), none, .mov (.t 7)⟩
 .done)))))
 .ret))
theorem fc97 : fcomp Try.prog Try.f97 = some (c97.erase, [.mov (.t 4)], 8) := by kernel_rfl
def impl_sameRows (a_1 : (List GRow)) (b_2 : (List GRow)) : Option Bool :=
    (slices_EqualFunc_impl_Row_impl_Row_impl_Row_impl_Row a_1 b_2 impl_sameRow).bind fun r_3 =>
    some r_3
theorem w_impl_sameRows (a_1 : (List GRow)) (b_2 : (List GRow)) (r : Bool) (hf : impl_sameRows a_1 b_2 = some r) : CallOK Try.prog 97 .flat [(.lst 2 (a_1.map encGRow)), (.lst 2 (b_2.map encGRow))] (.bool r) := by
  refine CallOK.of_awp mixed Try.func97 fc97 nle ?_
  rw [argT_eq]
  unfold impl_sameRows at hf
  unfold c97
  refine (show awp Try.prog false 0 _ (ofL [(0, (.lst 2 (a_1.map encGRow))), (1, (.lst 2 (b_2.map encGRow)))]) [] _ from ?_)
  refine awp_seq ?_
  refine w_reg ?_
  refine s_do (o_mov (.bool false) rfl) ?_
  refine w_done ?_
  refine k_seq ?_
  refine awp_seq ?_
  refine w_reg ?_
  obtain ⟨r_3, er4, hf⟩ := ob hf
  refine s_do (o_mov (.lst 2 (a_1.map encGRow)) rfl) ?_
  refine s_do (o_mov (.lst 2 (b_2.map encGRow)) rfl) ?_
  refine s_do (o_call (w_slices_EqualFunc_impl_Row_impl_Row_impl_Row_impl_Row _ _ _ _ er4 160 [] (by kernel_rfl) (fun _ _ => rfl) (fun _ => rfl) (fun a0 a1 r h => w_impl_sameRow a0 a1 r h)) rfl (.refl _) rfl) ?_
  refine s_do (o_mov (.bool r_3) rfl) ?_
  refine w_done ?_
  refine k_seq ?_
  refine w_ret ?_
  obtain rfl := os hf
  exact r_flat ⟨trivial, trivial⟩ rfl (.refl _)

/- impl.SameRows -/
def c28 : ACode :=
 (.seq (.reg (.q ⟨(some 4), none, .mov (.c (.bool false))⟩
 .done))
 (.seq (.reg (.q ⟨(some 5), none, .mov (.t 0)⟩
 (.q ⟨(some 6), none, .call 96 [(.t 5)]⟩
 (.q ⟨(some 7), none, .mov (.t 6)⟩
 (.q ⟨(some 8), (some (7, true)), .mov (.t 1)⟩
 (.q ⟨(some 9), (some (7, true)), .call 96 [(.t 8)]⟩
 (.q ⟨(some 10), none, .pick (.t 7) (.t 9) (.c (.bool false))⟩
 (.q ⟨(some 11), none, .mov (.t 10)⟩
 (.q ⟨(some 12), (some (11, true)), .mov (.t 0)⟩
 (.q ⟨(some 13), (some (11, true)), .mov (.t 1)⟩
 (.q ⟨(some 14), (some (11, true)), .call 97 [(.t 12), (.t 13)]⟩
 (.q ⟨(some 15), none, .pick (.t 11) (.t 14) (.c (.bool false))⟩
 (.q ⟨(some 4), none, .mov (.t 15)⟩
 .done)))))))))))))
 .ret))
theorem fc28 : fcomp Try.prog Try.f28 = some (c28.erase, [.mov (.t 4)], 16) := by kernel_rfl
def impl_SameRows (a_1 : (List GRow)) (b_2 : (List GRow)) : Option Bool :=
    (impl_isList_impl_Row a_1).bind fun r_3 =>
    if r_3 then
    (impl_isList_impl_Row b_2).bind fun r_6 =>
    if r_6 then
    (impl_sameRows a_1 b_2).bind fun r_9 =>
    some r_9
    else
    some false
    else
    some false
theorem w_impl_SameRows (a_1 : (List GRow)) (b_2 : (List GRow)) (r : Bool) (hf : impl_SameRows a_1 b_2 = some r) : CallOK Try.prog 28 .flat [(.lst 2 (a_1.map encGRow)), (.lst 2 (b_2.map encGRow))] (.bool r) := by
  refine CallOK.of_awp mixed Try.func28 fc28 nle ?_
  rw [argT_eq]
  unfold impl_SameRows at hf
  unfold c28
  refine (show awp Try.prog false 0 _ (ofL [(0, (.lst 2 (a_1.map encGRow))), (1, (.lst 2 (b_2.map encGRow)))]) [] _ from ?_)
  refine awp_seq ?_
  refine w_reg ?_
  refine s_do (o_mov (.bool false) rfl) ?_
  refine w_done ?_
  refine k_seq ?_
  refine awp_seq ?_
  refine w_reg ?_
  obtain ⟨r_3, er4, hf⟩ := ob hf
  rcases oi hf with ⟨c5, hf⟩ | ⟨c5, hf⟩
  · obtain ⟨r_6, er7, hf⟩ := ob hf
    rcases oi hf with ⟨c8, hf⟩ | ⟨c8, hf⟩
    · obtain ⟨r_9, er10, hf⟩ := ob hf
      refine s_do (o_mov (.lst 2 (a_1.map encGRow)) rfl) ?_
      refine s_do (o_call (w_impl_isList_impl_Row _ _ er4) rfl (.refl _) rfl) ?_
      refine s_do (o_mov (.bool r_3) rfl) ?_
      refine s_lit (s := 7) (b := true) rfl c5 ?_
      refine s_on rfl ?_
      refine s_do (o_mov (.lst 2 (b_2.map encGRow)) rfl) ?_
      refine s_on rfl ?_
      refine s_do (o_call (w_impl_isList_impl_Row _ _ er7) rfl (.refl _) rfl) ?_
      refine s_do (o_q (.bool r_6) rfl trivial rfl) ?_
      refine s_do (o_mov (.bool r_6) rfl) ?_
      refine s_lit (s := 11) (b := true) rfl c8 ?_
      refine s_on rfl ?_
      refine s_do (o_mov (.lst 2 (a_1.map encGRow)) rfl) ?_
      refine s_on rfl ?_
      refine s_do (o_mov (.lst 2 (b_2.map encGRow)) rfl) ?_
      refine s_on rfl ?_
      refine s_do (o_call (w_impl_sameRows _ _ _ er10) rfl (.refl _) rfl) ?_
      refine s_do (o_q (.bool r_9) rfl trivial rfl) ?_
      refine s_do (o_mov (.bool r_9) rfl) ?_
      refine w_done ?_
      refine k_seq ?_
      refine w_ret ?_
      obtain rfl := os hf
      exact r_flat ⟨trivial, trivial⟩ rfl (.refl _)
    · refine s_do (o_mov (.lst 2 (a_1.map encGRow)) rfl) ?_
      refine s_do (o_call (w_impl_isList_impl_Row _ _ er4) rfl (.refl _) rfl) ?_
      refine s_do (o_mov (.bool r_3) rfl) ?_
      refine s_lit (s := 7) (b := true) rfl c5 ?_
      refine s_on rfl ?_
      refine s_do (o_mov (.lst 2 (b_2.map encGRow)) rfl) ?_
      refine s_on rfl ?_
      refine s_do (o_call (w_impl_isList_impl_Row _ _ er7) rfl (.refl _) rfl) ?_
      refine s_do (o_q (.bool r_6) rfl trivial rfl) ?_
      refine s_do (o_mov (.bool r_6) rfl) ?_
      refine s_lit (s := 11) (b := false) rfl (bf c8) ?_
      refine s_off rfl rfl ?_
      refine s_off rfl rfl ?_
      refine s_off rfl rfl ?_
      refine s_do (o_q (.bool false) rfl trivial rfl) ?_
      refine s_do (o_mov (.bool false) rfl) ?_
      refine w_done ?_
      refine k_seq ?_
      refine w_ret ?_
      obtain rfl := os hf
      exact r_flat ⟨trivial, trivial⟩ rfl (.refl _)
  · refine s_do (o_mov (.lst 2 (a_1.map encGRow)) rfl) ?_
    refine s_do (o_call (w_impl_isList_impl_Row _ _ er4) rfl (.refl _) rfl) ?_
    refine s_do (o_mov (.bool r_3) rfl) ?_
    refine s_lit (s := 7) (b := false) rfl (bf c5) ?_
    refine s_off rfl rfl ?_
    refine s_off rfl rfl ?_
    refine s_do (o_q (.bool false) rfl trivial rfl) ?_
    refine s_do (o_mov (.bool false) rfl) ?_
    refine s_off rfl rfl ?_
    refine s_off rfl rfl ?_
    refine s_off rfl rfl ?_
    refine s_do (o_q (.bool false) rfl trivial rfl) ?_
    refine s_do (o_mov (.bool false) rfl) ?_
    refine w_done ?_
    refine k_seq ?_
    refine w_ret ?_
    obtain rfl := os hf
    exact r_flat ⟨trivial, trivial⟩ rfl (.refl _)

/- laws.eqAtom -/
def c51 : ACode :=
 (.seq (.reg (.q ⟨(some 2), none, .box 3 (.t 0)⟩
 (.q ⟨(some 3), none, .box 3 (.t 1)⟩
 (.q ⟨(some 4), none, .mov (.c (.bool false))⟩
 .done))))
 (.seq (.seq (.reg (.q ⟨(some 5), none, .faddr 0 (.t 2)⟩
 (.q ⟨(some 6), none, .load 1 false (.t 5)⟩
 (.q ⟨(some 7), none, .faddr 0 (.t 3)⟩
 (.q ⟨(some 8), none, .load 1 false (.t 7)⟩
 (.q ⟨(some 9), none, .bin .neq (.t 6) (.t 8)⟩
 .done))))))
 (.cond (.t 9) (.seq (.reg (.q ⟨(some 4), none, .mov (.c (.bool false))⟩
 .done))
 .ret)
 .skip))
 (.seq (.seq (.reg (.q ⟨(some 10), none, .faddr 1 (.t 2)⟩
 (.q ⟨(some 11), none, .load 1 false (.t 10)⟩
 (.q ⟨(some 12), none, .faddr 1 (.t 3)⟩
 (.q ⟨(some 13), none, .load 1 false (.t 12)⟩
 (.q ⟨(some 14), none, .bin .neq (.t 11) (.t 13)⟩
 .done))))))
 (.cond (.t 14) (.seq (.reg (.q ⟨(some 4), none, .mov (.c (.bool false))⟩
 .done))
 .ret)
 .skip))
 (.seq (.seq (.reg (.q ⟨(some 15), none, .faddr 2 (.t 2)⟩
 (.q ⟨(some 16), none, .load 1 false (.t 15)⟩
 (.q ⟨(some 17), none, .faddr 2 (.t 3)⟩
 (.q ⟨(some 18), none, .load 1 false (.t 17)⟩
 (.q ⟨(some 19), none, .bin .neq (.t 16) (.t 18)⟩
 .done))))))
 (.cond (.t 19) (.seq (.reg (.q ⟨(some 4), none, .mov (.c (.bool false))⟩
 .done))
 .ret)
 .skip))
 (.seq (.reg (.q ⟨(some 4), none, .mov (.c (.bool true))⟩
 .done))
 .ret)))))
theorem fc51 : fcomp Try.prog Try.f51 = some (c51.erase, [.mov (.t 4)], 20) := by kernel_rfl
def laws_eqAtom (a_1 : GAtom) (b_2 : GAtom) : Option Bool :=
    if (a_1.Kind != b_2.Kind) then
    some false
    else
    if (a_1.N != b_2.N) then
    some false
    else
    if (!(a_1.T == b_2.T)) then
    some false
    else
    some true
theorem w_laws_eqAtom (a_1 : GAtom) (b_2 : GAtom) (r : Bool) (hf : laws_eqAtom a_1 b_2 = some r) : CallOK Try.prog 51 .flat [(encGAtom a_1), (encGAtom b_2)] (.bool r) := by
  refine CallOK.of_awp mixed Try.func51 fc51 nle ?_
  rw [argT_eq]
  unfold laws_eqAtom at hf
  unfold c51
  refine (show awp Try.prog false 0 _ (ofL [(0, (encGAtom a_1)), (1, (encGAtom b_2))]) [] _ from ?_)
  refine awp_seq ?_
  refine w_reg ?_
  refine s_do (o_box (j := 0) (c := (.agg [(.int .i64 a_1.Kind), (.int .i64 a_1.N), (.str a_1.T)])) rfl trivial rfl rfl) ?_
  refine s_do (o_box (j := 1) (c := (.agg [(.int .i64 b_2.Kind), (.int .i64 b_2.N), (.str b_2.T)])) rfl trivial rfl rfl) ?_
  refine s_do (o_mov (.bool false) rfl) ?_
  refine w_done ?_
  refine k_seq ?_
  refine awp_seq ?_
  refine awp_seq ?_
  refine w_reg ?_
  refine s_do (o_q (.ptr 0 0 0) rfl trivial rfl) ?_
  refine s_do (o_q (.int .i64 a_1.Kind) rfl nle rfl) ?_
  refine s_do (o_q (.ptr 1 0 0) rfl trivial rfl) ?_
  refine s_do (o_q (.int .i64 b_2.Kind) rfl nle rfl) ?_
  refine s_do (o_q (.bool (a_1.Kind != b_2.Kind)) rfl rfl rfl) ?_
  refine w_done ?_
  refine k_seq ?_
  rcases oi hf with ⟨c3, hf⟩ | ⟨c3, hf⟩
  · refine w_condt rfl c3 ?_
    refine awp_seq ?_
    refine w_reg ?_
    refine s_do (o_mov (.bool false) rfl) ?_
    refine w_done ?_
    refine k_seq ?_
    refine w_ret ?_
    obtain rfl := os hf
    exact r_flat ⟨trivial, trivial⟩ rfl (.refl _)
  · refine w_condf rfl (bf c3) ?_
    refine w_skip ?_
    refine k_seq ?_
    refine awp_seq ?_
    refine awp_seq ?_
    refine w_reg ?_
    refine s_do (o_q (.ptr 0 0 1) rfl trivial rfl) ?_
    refine s_do (o_q (.int .i64 a_1.N) rfl nle rfl) ?_
    refine s_do (o_q (.ptr 1 0 1) rfl trivial rfl) ?_
    refine s_do (o_q (.int .i64 b_2.N) rfl nle rfl) ?_
    refine s_do (o_q (.bool (a_1.N != b_2.N)) rfl rfl rfl) ?_
    refine w_done ?_
    refine k_seq ?_
    rcases oi hf with ⟨c4, hf⟩ | ⟨c4, hf⟩
    · refine w_condt rfl c4 ?_
      refine awp_seq ?_
      refine w_reg ?_
      refine s_do (o_mov (.bool false) rfl) ?_
      refine w_done ?_
      refine k_seq ?_
      refine w_ret ?_
      obtain rfl := os hf
      exact r_flat ⟨trivial, trivial⟩ rfl (.refl _)
    · refine w_condf rfl (bf c4) ?_
      refine w_skip ?_
      refine k_seq ?_
      refine awp_seq ?_
      refine awp_seq ?_
      refine w_reg ?_
      refine s_do (o_q (.ptr 0 0 2) rfl trivial rfl) ?_
      refine s_do (o_q (.str a_1.T) rfl nle rfl) ?_
      refine s_do (o_q (.ptr 1 0 2) rfl trivial rfl) ?_
      refine s_do (o_q (.str b_2.T) rfl nle rfl) ?_
      refine s_do (o_q (.bool (!(a_1.T == b_2.T))) rfl trivial rfl) ?_
      refine w_done ?_
      refine k_seq ?_
      rcases oi hf with ⟨c5, hf⟩ | ⟨c5, hf⟩
      · refine w_condt rfl c5 ?_
        refine awp_seq ?_
        refine w_reg ?_
        refine s_do (o_mov (.bool false) rfl) ?_
        refine w_done ?_
        refine k_seq ?_
        refine w_ret ?_
        obtain rfl := os hf
        exact r_flat ⟨trivial, trivial⟩ rfl (.refl _)
      · refine w_condf rfl (bf c5) ?_
        refine w_skip ?_
        refine k_seq ?_
        refine awp_seq ?_
        refine w_reg ?_
        refine s_do (o_mov (.bool true) rfl) ?_
        refine w_done ?_
        refine k_seq ?_
        refine w_ret ?_
        obtain rfl := os hf
        exact r_flat ⟨trivial, trivial⟩ rfl (.refl _)

/- laws.eqAtomS -/
def c72 : ACode :=
 (.seq (.reg (.q ⟨(some 4), none, .mov (.c (.bool false))⟩
 .done))
 (.seq (.seq (.reg (.q ⟨(some 6), none, .mov (.t 0)⟩
 (.q ⟨(some 7), none, .len (.t 6)⟩
 (.q ⟨(some 8), none, .mov (.t 1)⟩
 (.q ⟨(some 9), none, .len (.t 8)⟩
 (.q ⟨(some 10), none, .bin .neq (.t 7) (.t 9)⟩
 .done))))))
 (.cond (.t 10) (.seq (.reg (.q ⟨(some 4), none, .mov (.c (.bool false))⟩
 .done))
 .ret)
 .skip))
 (.seq (.seq (.reg (.q ⟨(some 5), none, .mov (.c (.int .i64 0))⟩
 .done))
 (.block 0 (.loop (.seq (.seq (.reg (.q ⟨(some 11), none, .mov (.t 5)⟩
 (.q ⟨(some 12), none, .mov (.t 0)⟩
 (.q ⟨(some 13), none, .len (.t 12)⟩
 (.q ⟨(some 14), none, .bin .lss (.t 11) (.t 13)⟩
 .done)))))
 (.cond (.t 14) .skip
 (.exit 0)))
 (.seq (.block 1 (.seq (.reg (.q ⟨(some 17), none, .mov (.t 0)⟩
 (.q ⟨(some 18), none, .mov (.t 5)⟩
 (.q ⟨(some 19), none, .iaddr 3 (.t 17) (.t 18)⟩
 (.q ⟨(some 20), none, .load 3 true (.t 19)⟩
 (.q ⟨(some 21), none, .mov (.t 1)⟩
 (.q ⟨(some 22), none, .mov (.t 5)⟩
 (.q ⟨(some 23), none, .iaddr 3 (.t 21) (.t 22)⟩
 (.q ⟨(some 24), none, .load 3 true (.t 23)⟩
 (.l ⟨(some 25), none, .call 51 [(.t 20), (.t 24)]⟩ []
 (.q ⟨(some 26), none, .not (.t 25)⟩
 .done) .non))))))))))
 (.cond (.t 26) (.seq (.reg (.q ⟨(some 4), none, .mov (.c (.bool false))⟩
 .done))
 .ret)
 .skip)))
 (.reg (.q ⟨(some 15), none, .mov (.t 5)⟩
 (.q ⟨(some 16), none, .bin .add (.t 15) (.c (.int .i64 1))⟩
 (.q ⟨(some 5), none, .mov (.t 16)⟩
 .done)))))))))
 (.cut (.seq (.reg (.q ⟨(some 4), none, .mov (.c (.bool true))⟩
 .done))
 .ret)))))
theorem fc72 : fcomp Try.prog Try.f72 = some (c72.erase, [.mov (.t 4)], 27) := by kernel_rfl
def laws_eqAtomS_L1 (b_2 : (List GAtom)) : List GAtom → Nat → Option (Fl Bool Unit)
  | [], i_25 =>
    some (.go ())
  | x_43 :: xs, i_25 =>
    (idx b_2 (i_25 : Int)).bind fun x_46 =>
    (laws_eqAtom x_43 x_46).bind fun r_48 =>
    if (!r_48) then
    some (.ret false)
    else
    laws_eqAtomS_L1 b_2 xs (i_25 + 1)

def laws_eqAtomS (a_1 : (List GAtom)) (b_2 : (List GAtom)) : Option Bool :=
    if ((a_1.length : Int) != (b_2.length : Int)) then
    some false
    else
    (laws_eqAtomS_L1 b_2 a_1 0).bind fun q => (match q with
    | .ret r => some r
    | .go _ =>
    some true)
theorem w_laws_eqAtomS (a_1 : (List GAtom)) (b_2 : (List GAtom)) (r : Bool) (hf : laws_eqAtomS a_1 b_2 = some r) : CallOK Try.prog 72 .flat [(.lst 3 (a_1.map encGAtom)), (.lst 3 (b_2.map encGAtom))] (.bool r) := by
  refine CallOK.of_awp mixed Try.func72 fc72 nle ?_
  rw [argT_eq]
  unfold laws_eqAtomS at hf
  unfold c72
  refine (show awp Try.prog false 0 _ (ofL [(0, (.lst 3 (a_1.map encGAtom))), (1, (.lst 3 (b_2.map encGAtom)))]) [] _ from ?_)
  refine awp_seq ?_
  refine w_reg ?_
  refine s_do (o_mov (.bool false) rfl) ?_
  refine w_done ?_
  refine k_seq ?_
  refine awp_seq ?_
  refine awp_seq ?_
  refine w_reg ?_
  refine s_do (o_mov (.lst 3 (a_1.map encGAtom)) rfl) ?_
  refine s_dof (o_len (enc := encGAtom) rfl) fun hl3 => ?_
  refine s_do (o_mov (.lst 3 (b_2.map encGAtom)) rfl) ?_
  refine s_dof (o_len (enc := encGAtom) rfl) fun hl4 => ?_
  refine s_do (o_q (.bool ((a_1.length : Int) != (b_2.length : Int))) rfl rfl rfl) ?_
  refine w_done ?_
  refine k_seq ?_
  rcases oi hf with ⟨c5, hf⟩ | ⟨c5, hf⟩
  · refine w_condt rfl c5 ?_
    refine awp_seq ?_
    refine w_reg ?_
    refine s_do (o_mov (.bool false) rfl) ?_
    refine w_done ?_
    refine k_seq ?_
    refine w_ret ?_
    obtain rfl := os hf
    exact r_flat ⟨trivial, trivial⟩ rfl (.refl _)
  · refine w_condf rfl (bf c5) ?_
    refine w_skip ?_
    refine k_seq ?_
    refine awp_seq ?_
    refine awp_seq ?_
    refine w_reg ?_
    refine s_do (o_mov (.int .i64 0) rfl) ?_
    refine w_done ?_
    refine k_seq ?_
    obtain ⟨p36, hb1, hf⟩ := ob hf
    refine awp_cutx (X := {q : Unit // p36 = .go q}) (fun q => ([], [])) ?_ ?_
    · refine awp_loop (X := {q : Nat // laws_eqAtomS_L1 b_2 (a_1.drop q) q = some p36}) (fun q => ([(0, (.lst 3 (a_1.map encGAtom))), (1, (.lst 3 (b_2.map encGAtom))), (5, (.int .i64 (q.1 : Int)))], [])) (fun q => a_1.length - q.1) ⟨0, hb1⟩ ⟨[], [], _, _, rfl, rfl, ⟨.refl _, ⟨.refl _, ⟨.refl _, trivial⟩⟩⟩, .refl _⟩ ?_
      rintro ⟨i_25, hc1⟩
      have hc1 : laws_eqAtomS_L1 b_2 (a_1.drop i_25) i_25 = some p36 := hc1
      refine (show awp Try.prog false 0 _ (ofL [(0, (.lst 3 (a_1.map encGAtom))), (1, (.lst 3 (b_2.map encGAtom))), (5, (.int .i64 (i_25 : Int)))]) [] _ from ?_)
      rcases dropc a_1 i_25 with ⟨hie39, hd42⟩ | ⟨hlt37, x_43, hx38, hd42⟩
      · rw [hd42, laws_eqAtomS_L1.eq_1] at hc1
        have hq41 := dlf hie39
        refine awp_seq ?_
        refine awp_seq ?_
        refine w_reg ?_
        refine s_do (o_mov (.int .i64 (i_25 : Int)) rfl) ?_
        refine s_do (o_mov (.lst 3 (a_1.map encGAtom)) rfl) ?_
        refine s_dof (o_len (enc := encGAtom) rfl) fun hl44 => ?_
        refine s_do (o_q (.bool (decide ((i_25 : Int) < (a_1.length : Int)))) rfl rfl rfl) ?_
        refine w_done ?_
        refine k_seq ?_
        refine w_condf rfl hq41 ?_
        refine w_exit ?_
        refine k_seqx ?_
        refine k_loopx ?_
        refine k_blkx ?_
        obtain rfl := os hc1
        exact k_cutn ⟨_, rfl⟩ ⟨[], [], _, _, rfl, rfl, trivial, .refl _⟩
      · rw [hd42, laws_eqAtomS_L1.eq_2] at hc1
        have hq41 := dlt hlt37
        refine awp_seq ?_
        refine awp_seq ?_
        refine w_reg ?_
        refine s_do (o_mov (.int .i64 (i_25 : Int)) rfl) ?_
        refine s_do (o_mov (.lst 3 (a_1.map encGAtom)) rfl) ?_
        refine s_dof (o_len (enc := encGAtom) rfl) fun hl45 => ?_
        refine s_do (o_q (.bool (decide ((i_25 : Int) < (a_1.length : Int)))) rfl rfl rfl) ?_
        refine w_done ?_
        refine k_seq ?_
        refine w_condt rfl hq41 ?_
        refine w_skip ?_
        refine k_seq ?_
        refine awp_seq ?_
        refine w_blk ?_
        refine awp_seq ?_
        refine w_reg ?_
        obtain ⟨x_46, ex47, hc1⟩ := ob hc1
        obtain ⟨r_48, er49, hc1⟩ := ob hc1
        refine s_do (o_mov (.lst 3 (a_1.map encGAtom)) rfl) ?_
        refine s_do (o_mov (.int .i64 (i_25 : Int)) rfl) ?_
        refine s_do (o_iaddrn (enc := encGAtom) rfl rfl hx38) ?_
        refine s_do (o_q (encGAtom x_43) rfl nle rfl) ?_
        refine s_do (o_mov (.lst 3 (b_2.map encGAtom)) rfl) ?_
        refine s_do (o_mov (.int .i64 (i_25 : Int)) rfl) ?_
        refine s_do (o_iaddr (enc := encGAtom) rfl rfl (idx0 ex47) (idx1 ex47)) ?_
        refine s_do (o_q (encGAtom x_46) rfl nle rfl) ?_
        refine s_dol (o_call (w_laws_eqAtom _ _ _ er49) rfl (.refl _) rfl) a_same trivial ?_
        refine s_do (o_q (.bool (!r_48)) rfl trivial rfl) ?_
        refine w_done ?_
        refine k_seq ?_
        rcases oi hc1 with ⟨c50, hc1⟩ | ⟨c50, hc1⟩
        · refine w_condt rfl c50 ?_
          refine awp_seq ?_
          refine w_reg ?_
          refine s_do (o_mov (.bool false) rfl) ?_
          refine w_done ?_
          refine k_seq ?_
          refine w_ret ?_
          obtain rfl := os hc1
          obtain rfl := os hf
          exact r_flat ⟨trivial, trivial⟩ rfl (.refl _)
        · refine w_condf rfl (bf c50) ?_
          refine w_skip ?_
          refine k_blk ?_
          refine k_seq ?_
          refine w_reg ?_
          refine s_do (o_mov (.int .i64 (i_25 : Int)) rfl) ?_
          refine s_do (o_q (.int .i64 (w64 ((i_25 : Int) + 1))) rfl rfl rfl) ?_
          refine s_do (o_mov (.int .i64 (w64 ((i_25 : Int) + 1))) rfl) ?_
          refine w_done ?_
          exact k_loopn ⟨(i_25 + 1), hc1⟩ (mul hlt37) ⟨[], [], _, _, rfl, rfl, ⟨.refl _, ⟨.refl _, ⟨.of_eq (congrArg (AV.int _) (w64_incr hlt37 hl45)), trivial⟩⟩⟩, .refl _⟩
    · rintro ⟨_, rfl⟩
      refine awp_seq ?_
      refine w_reg ?_
      refine s_do (o_mov (.bool true) rfl) ?_
      refine w_done ?_
      refine k_seq ?_
      refine w_ret ?_
      obtain rfl := os hf
      exact r_flat ⟨trivial, trivial⟩ rfl (.refl _)

/- laws.eqAtomSS -/
def c157 : ACode :=
 (.seq (.reg (.q ⟨(some 4), none, .mov (.c (.bool false))⟩
 .done))
 (.seq (.seq (.reg (.q ⟨(some 6), none, .mov (.t 0)⟩
 (.q ⟨(some 7), none, .len (.t 6)⟩
 (.q ⟨(some 8), none, .mov (.t 1)⟩
 (.q ⟨(some 9), none, .len (.t 8)⟩
 (.q ⟨(some 10), none, .bin .neq (.t 7) (.t 9)⟩
 .done))))))
 (.cond (.t 10) (.seq (.reg (.q ⟨(some 4), none, .mov (.c (.bool false))⟩
 .done))
 .ret)
 .skip))
 (.seq (.seq (.reg (.q ⟨(some 5), none, .mov (.c (.int .i64 0))⟩
 .done))
 (.block 0 (.loop (.seq (.seq (.reg (.q ⟨(some 11), none, .mov (.t 5)⟩
 (.q ⟨(some 12), none, .mov (.t 0)⟩
 (.q ⟨(some 13), none, .len (.t 12)⟩
 (.q ⟨(some 14), none, .bin .lss (.t 11) (.t 13)⟩
 .done)))))
 (.cond (.t 14) .skip
 (.exit 0)))
 (.seq (.block 1 (.seq (.reg (.q ⟨(some 17), none, .mov (.t 0)⟩
 (.q ⟨(some 18), none, .mov (.t 5)⟩
 (.q ⟨(some 19), none, .iaddr 1 (.t 17) (.t 18)⟩
 (.q ⟨(some 20), none, .load 1 false (.t 19)⟩
 (.q ⟨(some 21), none, .mov (.t 1)⟩
 (.q ⟨(some 22), none, .mov (.t 5)⟩
 (.q ⟨(some 23), none, .iaddr 1 (.t 21) (.t 22)⟩
 (.q ⟨(some 24), none, .load 1 false (.t 23)⟩
 (.l ⟨(some 25), none, .call 72 [(.t 20), (.t 24)]⟩ []
 (.q ⟨(some 26), none, .not (.t 25)⟩
 .done) .non))))))))))
 (.cond (.t 26) (.seq (.reg (.q ⟨(some 4), none, .mov (.c (.bool false))⟩
 .done))
 .ret)
 .skip)))
 (.reg (.q ⟨(some 15), none, .mov (.t 5)⟩
 (.q ⟨(some 16), none, .bin .add (.t 15) (.c (.int .i64 1))⟩
 (.q ⟨(some 5), none, .mov (.t 16)⟩
 .done)))))))))
 (.cut (.seq (.reg (.q ⟨(some 4), none, .mov (.c (.bool true))⟩
 .done))
 .ret)))))
theorem fc157 : fcomp Try.prog Try.f157 = some (c157.erase, [.mov (.t 4)], 27) := by kernel_rfl
def laws_eqAtomSS_L1 (b_2 : (List (List GAtom))) : List (List GAtom) → Nat → Option (Fl Bool Unit)
  | [], i_25 =>
    some (.go ())
  | x_43 :: xs, i_25 =>
    (idx b_2 (i_25 : Int)).bind fun x_46 =>
    (laws_eqAtomS x_43 x_46).bind fun r_48 =>
    if (!r_48) then
    some (.ret false)
    else
    laws_eqAtomSS_L1 b_2 xs (i_25 + 1)

def laws_eqAtomSS (a_1 : (List (List GAtom))) (b_2 : (List (List GAtom))) : Option Bool :=
    if ((a_1.length : Int) != (b_2.length : Int)) then
    some false
    else
    (laws_eqAtomSS_L1 b_2 a_1 0).bind fun q => (match q with
    | .ret r => some r
    | .go _ =>
    some true)
theorem w_laws_eqAtomSS (a_1 : (List (List GAtom))) (b_2 : (List (List GAtom))) (r : Bool) (hf : laws_eqAtomSS a_1 b_2 = some r) : CallOK Try.prog 157 .flat [(.lst 1 (a_1.map (encL 3 encGAtom))), (.lst 1 (b_2.map (encL 3 encGAtom)))] (.bool r) := by
  refine CallOK.of_awp mixed Try.func157 fc157 nle ?_
  rw [argT_eq]
  unfold laws_eqAtomSS at hf
  unfold c157
  refine (show awp Try.prog false 0 _ (ofL [(0, (.lst 1 (a_1.map (encL 3 encGAtom)))), (1, (.lst 1 (b_2.map (encL 3 encGAtom))))]) [] _ from ?_)
  refine awp_seq ?_
  refine w_reg ?_
  refine s_do (o_mov (.bool false) rfl) ?_
  refine w_done ?_
  refine k_seq ?_
  refine awp_seq ?_
  refine awp_seq ?_
  refine w_reg ?_
  refine s_do (o_mov (.lst 1 (a_1.map (encL 3 encGAtom))) rfl) ?_
  refine s_dof (o_len (enc := (encL 3 encGAtom)) rfl) fun hl3 => ?_
  refine s_do (o_mov (.lst 1 (b_2.map (encL 3 encGAtom))) rfl) ?_
  refine s_dof (o_len (enc := (encL 3 encGAtom)) rfl) fun hl4 => ?_
  refine s_do (o_q (.bool ((a_1.length : Int) != (b_2.length : Int))) rfl rfl rfl) ?_
  refine w_done ?_
  refine k_seq ?_
  rcases oi hf with ⟨c5, hf⟩ | ⟨c5, hf⟩
  · refine w_condt rfl c5 ?_
    refine awp_seq ?_
    refine w_reg ?_
    refine s_do (o_mov (.bool false) rfl) ?_
    refine w_done ?_
    refine k_seq ?_
    refine w_ret ?_
    obtain rfl := os hf
    exact r_flat ⟨trivial, trivial⟩ rfl (.refl _)
  · refine w_condf rfl (bf c5) ?_
    refine w_skip ?_
    refine k_seq ?_
    refine awp_seq ?_
    refine awp_seq ?_
    refine w_reg ?_
    refine s_do (o_mov (.int .i64 0) rfl) ?_
    refine w_done ?_
    refine k_seq ?_
    obtain ⟨p36, hb1, hf⟩ := ob hf
    refine awp_cutx (X := {q : Unit // p36 = .go q}) (fun q => ([], [])) ?_ ?_
    · refine awp_loop (X := {q : Nat // laws_eqAtomSS_L1 b_2 (a_1.drop q) q = some p36}) (fun q => ([(0, (.lst 1 (a_1.map (encL 3 encGAtom)))), (1, (.lst 1 (b_2.map (encL 3 encGAtom)))), (5, (.int .i64 (q.1 : Int)))], [])) (fun q => a_1.length - q.1) ⟨0, hb1⟩ ⟨[], [], _, _, rfl, rfl, ⟨.refl _, ⟨.refl _, ⟨.refl _, trivial⟩⟩⟩, .refl _⟩ ?_
      rintro ⟨i_25, hc1⟩
      have hc1 : laws_eqAtomSS_L1 b_2 (a_1.drop i_25) i_25 = some p36 := hc1
      refine (show awp Try.prog false 0 _ (ofL [(0, (.lst 1 (a_1.map (encL 3 encGAtom)))), (1, (.lst 1 (b_2.map (encL 3 encGAtom)))), (5, (.int .i64 (i_25 : Int)))]) [] _ from ?_)
      rcases dropc a_1 i_25 with ⟨hie39, hd42⟩ | ⟨hlt37, x_43, hx38, hd42⟩
      · rw [hd42, laws_eqAtomSS_L1.eq_1] at hc1
        have hq41 := dlf hie39
        refine awp_seq ?_
        refine awp_seq ?_
        refine w_reg ?_
        refine s_do (o_mov (.int .i64 (i_25 : Int)) rfl) ?_
        refine s_do (o_mov (.lst 1 (a_1.map (encL 3 encGAtom))) rfl) ?_
        refine s_dof (o_len (enc := (encL 3 encGAtom)) rfl) fun hl44 => ?_
        refine s_do (o_q (.bool (decide ((i_25 : Int) < (a_1.length : Int)))) rfl rfl rfl) ?_
        refine w_done ?_
        refine k_seq ?_
        refine w_condf rfl hq41 ?_
        refine w_exit ?_
        refine k_seqx ?_
        refine k_loopx ?_
        refine k_blkx ?_
        obtain rfl := os hc1
        exact k_cutn ⟨_, rfl⟩ ⟨[], [], _, _, rfl, rfl, trivial, .refl _⟩
      · rw [hd42, laws_eqAtomSS_L1.eq_2] at hc1
        have hq41 := dlt hlt37
        refine awp_seq ?_
        refine awp_seq ?_
        refine w_reg ?_
        refine s_do (o_mov (.int .i64 (i_25 : Int)) rfl) ?_
        refine s_do (o_mov (.lst 1 (a_1.map (encL 3 encGAtom))) rfl) ?_
        refine s_dof (o_len (enc := (encL 3 encGAtom)) rfl) fun hl45 => ?_
        refine s_do (o_q (.bool (decide ((i_25 : Int) < (a_1.length : Int)))) rfl rfl rfl) ?_
        refine w_done ?_
        refine k_seq ?_
        refine w_condt rfl hq41 ?_
        refine w_skip ?_
        refine k_seq ?_
        refine awp_seq ?_
        refine w_blk ?_
        refine awp_seq ?_
        refine w_reg ?_
        obtain ⟨x_46, ex47, hc1⟩ := ob hc1
        obtain ⟨r_48, er49, hc1⟩ := ob hc1
        refine s_do (o_mov (.lst 1 (a_1.map (encL 3 encGAtom))) rfl) ?_
        refine s_do (o_mov (.int .i64 (i_25 : Int)) rfl) ?_
        refine s_do (o_iaddrn (enc := (encL 3 encGAtom)) rfl rfl hx38) ?_
        refine s_do (o_q (.lst 3 (x_43.map encGAtom)) rfl ⟨rfl, rfl⟩ rfl) ?_
        refine s_do (o_mov (.lst 1 (b_2.map (encL 3 encGAtom))) rfl) ?_
        refine s_do (o_mov (.int .i64 (i_25 : Int)) rfl) ?_
        refine s_do (o_iaddr (enc := (encL 3 encGAtom)) rfl rfl (idx0 ex47) (idx1 ex47)) ?_
        refine s_do (o_q (.lst 3 (x_46.map encGAtom)) rfl ⟨rfl, rfl⟩ rfl) ?_
        refine s_dol (o_call (w_laws_eqAtomS _ _ _ er49) rfl (.refl _) rfl) a_same trivial ?_
        refine s_do (o_q (.bool (!r_48)) rfl trivial rfl) ?_
        refine w_done ?_
        refine k_seq ?_
        rcases oi hc1 with ⟨c50, hc1⟩ | ⟨c50, hc1⟩
        · refine w_condt rfl c50 ?_
          refine awp_seq ?_
          refine w_reg ?_
          refine s_do (o_mov (.bool false) rfl) ?_
          refine w_done ?_
          refine k_seq ?_
          refine w_ret ?_
          obtain rfl := os hc1
          obtain rfl := os hf
          exact r_flat ⟨trivial, trivial⟩ rfl (.refl _)
        · refine w_condf rfl (bf c50) ?_
          refine w_skip ?_
          refine k_blk ?_
          refine k_seq ?_
          refine w_reg ?_
          refine s_do (o_mov (.int .i64 (i_25 : Int)) rfl) ?_
          refine s_do (o_q (.int .i64 (w64 ((i_25 : Int) + 1))) rfl rfl rfl) ?_
          refine s_do (o_mov (.int .i64 (w64 ((i_25 : Int) + 1))) rfl) ?_
          refine w_done ?_
          exact k_loopn ⟨(i_25 + 1), hc1⟩ (mul hlt37) ⟨[], [], _, _, rfl, rfl, ⟨.refl _, ⟨.refl _, ⟨.of_eq (congrArg (AV.int _) (w64_incr hlt37 hl45)), trivial⟩⟩⟩, .refl _⟩
    · rintro ⟨_, rfl⟩
      refine awp_seq ?_
      refine w_reg ?_
      refine s_do (o_mov (.bool true) rfl) ?_
      refine w_done ?_
      refine k_seq ?_
      refine w_ret ?_
      obtain rfl := os hf
      exact r_flat ⟨trivial, trivial⟩ rfl (.refl _)

/- laws.eqRow -/
def c94 : ACode :=
 (.seq (.reg (.q ⟨(some 2), none, .box 2 (.t 0)⟩
 (.q ⟨(some 3), none, .box 2 (.t 1)⟩
 (.q ⟨(some 4), none, .mov (.c (.bool false))⟩
 .done))))
 (.seq (.seq (.reg (.q ⟨(some 5), none, .faddr 0 (.t 2)⟩
 (.q ⟨(some 6), none, .load 1 false (.t 5)⟩
 (.q ⟨(some 7), none, .faddr 0 (.t 3)⟩
 (.q ⟨(some 8), none, .load 1 false (.t 7)⟩
 (.q ⟨(some 9), none, .bin .neq (.t 6) (.t 8)⟩
 .done))))))
 (.cond (.t 9) (.seq (.reg (.q ⟨(some 4), none, .mov (.c (.bool false))⟩
 .done))
 .ret)
 .skip))
 (.seq (.seq (.reg (.q ⟨(some 10), none, .faddr 1 (.t 2)⟩
 (.q ⟨(some 11), none, .load 1 false (.t 10)⟩
 (.q ⟨(some 12), none, .faddr 1 (.t 3)⟩
 (.q ⟨(some 13), none, .load 1 false (.t 12)⟩
 (.q ⟨(some 14), none, .call 157 [(.t 11), (.t 13)]⟩
 (.q ⟨(some 15), none, .not (.t 14)⟩
 .done)))))))
 (.cond (.t 15) (.seq (.reg (.q ⟨(some 4), none, .mov (.c (.bool false))⟩
 .done))
 .ret)
 .skip))
 (.seq (.reg (.q ⟨(some 4), none, .mov (.c (.bool true))⟩
 .done))
 .ret))))
theorem fc94 : fcomp Try.prog Try.f94 = some (c94.erase, [.mov (.t 4)], 16) := by kernel_rfl
def laws_eqRow (a_1 : GRow) (b_2 : GRow) : Option Bool :=
    if (a_1.Id != b_2.Id) then
    some false
    else
    (laws_eqAtomSS a_1.Cells b_2.Cells).bind fun r_4 =>
    if (!r_4) then
    some false
    else
    some true
theorem w_laws_eqRow (a_1 : GRow) (b_2 : GRow) (r : Bool) (hf : laws_eqRow a_1 b_2 = some r) : CallOK Try.prog 94 .flat [(encGRow a_1), (encGRow b_2)] (.bool r) := by
  refine CallOK.of_awp mixed Try.func94 fc94 nle ?_
  rw [argT_eq]
  unfold laws_eqRow at hf
  unfold c94
  refine (show awp Try.prog false 0 _ (ofL [(0, (encGRow a_1)), (1, (encGRow b_2))]) [] _ from ?_)
  refine awp_seq ?_
  refine w_reg ?_
  refine s_do (o_box (j := 0) (c := (.agg [(.int .i64 a_1.Id), (.lst 1 (a_1.Cells.map (encL 3 encGAtom)))])) rfl trivial rfl rfl) ?_
  refine s_do (o_box (j := 1) (c := (.agg [(.int .i64 b_2.Id), (.lst 1 (b_2.Cells.map (encL 3 encGAtom)))])) rfl trivial rfl rfl) ?_
  refine s_do (o_mov (.bool false) rfl) ?_
  refine w_done ?_
  refine k_seq ?_
  refine awp_seq ?_
  refine awp_seq ?_
  refine w_reg ?_
  refine s_do (o_q (.ptr 0 0 0) rfl trivial rfl) ?_
  refine s_do (o_q (.int .i64 a_1.Id) rfl nle rfl) ?_
  refine s_do (o_q (.ptr 1 0 0) rfl trivial rfl) ?_
  refine s_do (o_q (.int .i64 b_2.Id) rfl nle rfl) ?_
  refine s_do (o_q (.bool (a_1.Id != b_2.Id)) rfl rfl rfl) ?_
  refine w_done ?_
  refine k_seq ?_
  rcases oi hf with ⟨c3, hf⟩ | ⟨c3, hf⟩
  · refine w_condt rfl c3 ?_
    refine awp_seq ?_
    refine w_reg ?_
    refine s_do (o_mov (.bool false) rfl) ?_
    refine w_done ?_
    refine k_seq ?_
    refine w_ret ?_
    obtain rfl := os hf
    exact r_flat ⟨trivial, trivial⟩ rfl (.refl _)
  · refine w_condf rfl (bf c3) ?_
    refine w_skip ?_
    refine k_seq ?_
    refine awp_seq ?_
    refine awp_seq ?_
    refine w_reg ?_
    obtain ⟨r_4, er5, hf⟩ := ob hf
    refine s_do (o_q (.ptr 0 0 1) rfl trivial rfl) ?_
    refine s_do (o_q (.lst 1 (a_1.Cells.map (encL 3 encGAtom))) rfl nle rfl) ?_
    refine s_do (o_q (.ptr 1 0 1) rfl trivial rfl) ?_
    refine s_do (o_q (.lst 1 (b_2.Cells.map (encL 3 encGAtom))) rfl nle rfl) ?_
    refine s_do (o_call (w_laws_eqAtomSS _ _ _ er5) rfl (.refl _) rfl) ?_
    refine s_do (o_q (.bool (!r_4)) rfl trivial rfl) ?_
    refine w_done ?_
    refine k_seq ?_
    rcases oi hf with ⟨c6, hf⟩ | ⟨c6, hf⟩
    · refine w_condt rfl c6 ?_
      refine awp_seq ?_
      refine w_reg ?_
      refine s_do (o_mov (.bool false) rfl) ?_
      refine w_done ?_
      refine k_seq ?_
      refine w_ret ?_
      obtain rfl := os hf
      exact r_flat ⟨trivial, trivial⟩ rfl (.refl _)
    · refine w_condf rfl (bf c6) ?_
      refine w_skip ?_
      refine k_seq ?_
      refine awp_seq ?_
      refine w_reg ?_
      refine s_do (o_mov (.bool true) rfl) ?_
      refine w_done ?_
      refine k_seq ?_
      refine w_ret ?_
      obtain rfl := os hf
      exact r_flat ⟨trivial, trivial⟩ rfl (.refl _)

/- laws.eqRowS -/
def c29 : ACode :=
 (.seq (.reg (.q ⟨(some 4), none, .mov (.c (.bool false))⟩
 .done))
 (.seq (.seq (.reg (.q ⟨(some 6), none, .mov (.t 0)⟩
 (.q ⟨(some 7), none, .len (.t 6)⟩
 (.q ⟨(some 8), none, .mov (.t 1)⟩
 (.q ⟨(some 9), none, .len (.t 8)⟩
 (.q ⟨(some 10), none, .bin .neq (.t 7) (.t 9)⟩
 .done))))))
 (.cond (.t 10) (.seq (.reg (.q ⟨(some 4), none, .mov (.c (.bool false))⟩
 .done))
 .ret)
 .skip))
 (.seq (.seq (.reg (.q ⟨(some 5), none, .mov (.c (.int .i64 0))⟩
 .done))
 (.block 0 (.loop (.seq (.seq (.reg (.q ⟨(some 11), none, .mov (.t 5)⟩
 (.q ⟨(some 12), none, .mov (.t 0)⟩
 (.q ⟨(some 13), none, .len (.t 12)⟩
 (.q ⟨(some 14), none, .bin .lss (.t 11) (.t 13)⟩
 .done)))))
 (.cond (.t 14) .skip
 (.exit 0)))
 (.seq (.block 1 (.seq (.reg (.q ⟨(some 17), none, .mov (.t 0)⟩
 (.q ⟨(some 18), none, .mov (.t 5)⟩
 (.q ⟨(some 19), none, .iaddr 2 (.t 17) (.t 18)⟩
 (.q ⟨(some 20), none, .load 2 true (.t 19)⟩
 (.q ⟨(some 21), none, .mov (.t 1)⟩
 (.q ⟨(some 22), none, .mov (.t 5)⟩
 (.q ⟨(some 23), none, .iaddr 2 (.t 21) (.t 22)⟩
 (.q ⟨(some 24), none, .load 2 true (.t 23)⟩
 (.l ⟨(some 25), none, .call 94 [(.t 20), (.t 24)]⟩ []
 (.q ⟨(some 26), none, .not (.t 25)⟩
 .done) .non))))))))))
 (.cond (.t 26) (.seq (.reg (.q ⟨(some 4), none, .mov (.c (.bool false))⟩
 .done))
 .ret)
 .skip)))
 (.reg (.q ⟨(some 15), none, .mov (.t 5)⟩
 (.q ⟨(some 16), none, .bin .add (.t 15) (.c (.int .i64 1))⟩
 (.q ⟨(some 5), none, .mov (.t 16)⟩
 .done)))))))))
 (.cut (.seq (.reg (.q ⟨(some 4), none, .mov (.c (.bool true))⟩
 .done))
 .ret)))))
theorem fc29 : fcomp Try.prog Try.f29 = some (c29.erase, [.mov (.t 4)], 27) := by kernel_rfl
def laws_eqRowS_L1 (b_2 : (List GRow)) : List GRow → Nat → Option (Fl Bool Unit)
  | [], i_25 =>
    some (.go ())
  | x_43 :: xs, i_25 =>
    (idx b_2 (i_25 : Int)).bind fun x_46 =>
    (laws_eqRow x_43 x_46).bind fun r_48 =>
    if (!r_48) then
    some (.ret false)
    else
    laws_eqRowS_L1 b_2 xs (i_25 + 1)

def laws_eqRowS (a_1 : (List GRow)) (b_2 : (List GRow)) : Option Bool :=
    if ((a_1.length : Int) != (b_2.length : Int)) then
    some false
    else
    (laws_eqRowS_L1 b_2 a_1 0).bind fun q => (match q with
    | .ret r => some r
    | .go _ =>
    some true)
theorem w_laws_eqRowS (a_1 : (List GRow)) (b_2 : (List GRow)) (r : Bool) (hf : laws_eqRowS a_1 b_2 = some r) : CallOK Try.prog 29 .flat [(.lst 2 (a_1.map encGRow)), (.lst 2 (b_2.map encGRow))] (.bool r) := by
  refine CallOK.of_awp mixed Try.func29 fc29 nle ?_
  rw [argT_eq]
  unfold laws_eqRowS at hf
  unfold c29
  refine (show awp Try.prog false 0 _ (ofL [(0, (.lst 2 (a_1.map encGRow))), (1, (.lst 2 (b_2.map encGRow)))]) [] _ from ?_)
  refine awp_seq ?_
  refine w_reg ?_
  refine s_do (o_mov (.bool false) rfl) ?_
  refine w_done ?_
  refine k_seq ?_
  refine awp_seq ?_
  refine awp_seq ?_
  refine w_reg ?_
  refine s_do (o_mov (.lst 2 (a_1.map encGRow)) rfl) ?_
  refine s_dof (o_len (enc := encGRow) rfl) fun hl3 => ?_
  refine s_do (o_mov (.lst 2 (b_2.map encGRow)) rfl) ?_
  refine s_dof (o_len (enc := encGRow) rfl) fun hl4 => ?_
  refine s_do (o_q (.bool ((a_1.length : Int) != (b_2.length : Int))) rfl rfl rfl) ?_
  refine w_done ?_
  refine k_seq ?_
  rcases oi hf with ⟨c5, hf⟩ | ⟨c5, hf⟩
  · refine w_condt rfl c5 ?_
    refine awp_seq ?_
    refine w_reg ?_
    refine s_do (o_mov (.bool false) rfl) ?_
    refine w_done ?_
    refine k_seq ?_
    refine w_ret ?_
    obtain rfl := os hf
    exact r_flat ⟨trivial, trivial⟩ rfl (.refl _)
  · refine w_condf rfl (bf c5) ?_
    refine w_skip ?_
    refine k_seq ?_
    refine awp_seq ?_
    refine awp_seq ?_
    refine w_reg ?_
    refine s_do (o_mov (.int .i64 0) rfl) ?_
    refine w_done ?_
    refine k_seq ?_
    obtain ⟨p36, hb1, hf⟩ := ob hf
    refine awp_cutx (X := {q : Unit // p36 = .go q}) (fun q => ([], [])) ?_ ?_
    · refine awp_loop (X := {q : Nat // laws_eqRowS_L1 b_2 (a_1.drop q) q = some p36}) (fun q => ([(0, (.lst 2 (a_1.map encGRow))), (1, (.lst 2 (b_2.map encGRow))), (5, (.int .i64 (q.1 : Int)))], [])) (fun q => a_1.length - q.1) ⟨0, hb1⟩ ⟨[], [], _, _, rfl, rfl, ⟨.refl _, ⟨.refl _, ⟨.refl _, trivial⟩⟩⟩, .refl _⟩ ?_
      rintro ⟨i_25, hc1⟩
      have hc1 : laws_eqRowS_L1 b_2 (a_1.drop i_25) i_25 = some p36 := hc1
      refine (show awp Try.prog false 0 _ (ofL [(0, (.lst 2 (a_1.map encGRow))), (1, (.lst 2 (b_2.map encGRow))), (5, (.int .i64 (i_25 : Int)))]) [] _ from ?_)
      rcases dropc a_1 i_25 with ⟨hie39, hd42⟩ | ⟨hlt37, x_43, hx38, hd42⟩
      · rw [hd42, laws_eqRowS_L1.eq_1] at hc1
        have hq41 := dlf hie39
        refine awp_seq ?_
        refine awp_seq ?_
        refine w_reg ?_
        refine s_do (o_mov (.int .i64 (i_25 : Int)) rfl) ?_
        refine s_do (o_mov (.lst 2 (a_1.map encGRow)) rfl) ?_
        refine s_dof (o_len (enc := encGRow) rfl) fun hl44 => ?_
        refine s_do (o_q (.bool (decide ((i_25 : Int) < (a_1.length : Int)))) rfl rfl rfl) ?_
        refine w_done ?_
        refine k_seq ?_
        refine w_condf rfl hq41 ?_
        refine w_exit ?_
        refine k_seqx ?_
        refine k_loopx ?_
        refine k_blkx ?_
        obtain rfl := os hc1
        exact k_cutn ⟨_, rfl⟩ ⟨[], [], _, _, rfl, rfl, trivial, .refl _⟩
      · rw [hd42, laws_eqRowS_L1.eq_2] at hc1
        have hq41 := dlt hlt37
        refine awp_seq ?_
        refine awp_seq ?_
        refine w_reg ?_
        refine s_do (o_mov (.int .i64 (i_25 : Int)) rfl) ?_
        refine s_do (o_mov (.lst 2 (a_1.map encGRow)) rfl) ?_
        refine s_dof (o_len (enc := encGRow) rfl) fun hl45 => ?_
        refine s_do (o_q (.bool (decide ((i_25 : Int) < (a_1.length : Int)))) rfl rfl rfl) ?_
        refine w_done ?_
        refine k_seq ?_
        refine w_condt rfl hq41 ?_
        refine w_skip ?_
        refine k_seq ?_
        refine awp_seq ?_
        refine w_blk ?_
        refine awp_seq ?_
        refine w_reg ?_
        obtain ⟨x_46, ex47, hc1⟩ := ob hc1
        obtain ⟨r_48, er49, hc1⟩ := ob hc1
        refine s_do (o_mov (.lst 2 (a_1.map encGRow)) rfl) ?_
        refine s_do (o_mov (.int .i64 (i_25 : Int)) rfl) ?_
        refine s_do (o_iaddrn (enc := encGRow) rfl rfl hx38) ?_
        refine s_do (o_q (encGRow x_43) rfl nle rfl) ?_
        refine s_do (o_mov (.lst 2 (b_2.map encGRow)) rfl) ?_
        refine s_do (o_mov (.int .i64 (i_25 : Int)) rfl) ?_
        refine s_do (o_iaddr (enc := encGRow) rfl rfl (idx0 ex47) (idx1 ex47)) ?_
        refine s_do (o_q (encGRow x_46) rfl nle rfl) ?_
        refine s_dol (o_call (w_laws_eqRow _ _ _ er49) rfl (.refl _) rfl) a_same trivial ?_
        refine s_do (o_q (.bool (!r_48)) rfl trivial rfl) ?_
        refine w_done ?_
        refine k_seq ?_
        rcases oi hc1 with ⟨c50, hc1⟩ | ⟨c50, hc1⟩
        · refine w_condt rfl c50 ?_
          refine awp_seq ?_
          refine w_reg ?_
          refine s_do (o_mov (.bool false) rfl) ?_
          refine w_done ?_
          refine k_seq ?_
          refine w_ret ?_
          obtain rfl := os hc1
          obtain rfl := os hf
          exact r_flat ⟨trivial, trivial⟩ rfl (.refl _)
        · refine w_condf rfl (bf c50) ?_
          refine w_skip ?_
          refine k_blk ?_
          refine k_seq ?_
          refine w_reg ?_
          refine s_do (o_mov (.int .i64 (i_25 : Int)) rfl) ?_
          refine s_do (o_q (.int .i64 (w64 ((i_25 : Int) + 1))) rfl rfl rfl) ?_
          refine s_do (o_mov (.int .i64 (w64 ((i_25 : Int) + 1))) rfl) ?_
          refine w_done ?_
          exact k_loopn ⟨(i_25 + 1), hc1⟩ (mul hlt37) ⟨[], [], _, _, rfl, rfl, ⟨.refl _, ⟨.refl _, ⟨.of_eq (congrArg (AV.int _) (w64_incr hlt37 hl45)), trivial⟩⟩⟩, .refl _⟩
    · rintro ⟨_, rfl⟩
      refine awp_seq ?_
      refine w_reg ?_
      refine s_do (o_mov (.bool true) rfl) ?_
      refine w_done ?_
      refine k_seq ?_
      refine w_ret ?_
      obtain rfl := os hf
      exact r_flat ⟨trivial, trivial⟩ rfl (.refl _)

end Go.R
