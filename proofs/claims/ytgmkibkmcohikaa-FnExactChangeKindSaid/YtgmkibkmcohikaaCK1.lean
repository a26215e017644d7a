/- Walks. -/
import Derived.Test.YtgmkibkmcohikaaCKT
set_option linter.all false
namespace Go.R
open Go Go.Proofs
set_option linter.unusedVariables false
set_option linter.unusedSimpArgs false
/- laws.szAtom -/
def c34 : ACode :=
 (.seq (.reg (.q ⟨(some 2), none, .box 3 (.t 0)⟩
 (.q ⟨(some 4), none, .mov (.c (.int .i64 0))⟩
 .done)))
 (.seq (.reg (.q ⟨(some 5), none, .mov (.t 1)⟩
 (.q ⟨(some 6), none, .faddr 2 (.t 2)⟩
 (.q ⟨(some 7), none, .load 1 false (.t 6)⟩
 (.q ⟨(some 8), none, .lenS (.t 7)⟩
 (.q ⟨(some 9), none, .bin .sub (.t 5) (.t 8)⟩
 (.q ⟨(some 1), none, .mov (.t 9)⟩
 .done)))))))
 (.seq (.seq (.reg (.q ⟨(some 10), none, .mov (.t 1)⟩
 (.q ⟨(some 11), none, .bin .lss (.t 10) (.c (.int .i64 0))⟩
 .done)))
 (.cond (.t 11) (.seq (.reg (.q ⟨(some 4), none, .mov (.c (.int .i64 (-1)))⟩
 .done))
 .ret)
 .skip))
 (.seq (.reg (.q ⟨(some 12), none, .mov (.t 1)⟩
 (.q ⟨(some 4), none, .mov (.t 12)⟩
 .done)))
 .ret))))
theorem fc34 : fcomp Try.prog Try.f34 = some (c34.erase, [.mov (.t 4)], 13) := by kernel_rfl
def laws_szAtom (a_1 : GAtom) (left_2 : Int) : Option Int :=
    if (decide (w64 (left_2 - (a_1.T.length : Int)) < 0)) then
    some (-1)
    else
    some (w64 (left_2 - (a_1.T.length : Int)))
theorem w_laws_szAtom (a_1 : GAtom) (left_2 : Int) (r : Int) (hf : laws_szAtom a_1 left_2 = some r) : CallOK Try.prog 34 .flat [(encGAtom a_1), (.int .i64 left_2)] (.int .i64 r) := by
  refine CallOK.of_awp mixed Try.func34 fc34 nle ?_
  rw [argT_eq]
  unfold laws_szAtom at hf
  unfold c34
  refine (show awp Try.prog false 0 _ (ofL [(0, (encGAtom a_1)), (1, (.int .i64 left_2))]) [] _ from ?_)
  refine awp_seq ?_
  refine w_reg ?_
  refine s_do (o_box (j := 0) (c := (.agg [(.int .i64 a_1.Kind), (.int .i64 a_1.N), (.str a_1.T)])) rfl trivial rfl rfl) ?_
  refine s_do (o_mov (.int .i64 0) rfl) ?_
  refine w_done ?_
  refine k_seq ?_
  refine awp_seq ?_
  refine w_reg ?_
  refine s_do (o_mov (.int .i64 left_2) rfl) ?_
  refine s_do (o_q (.ptr 0 0 2) rfl trivial rfl) ?_
  refine s_do (o_q (.str a_1.T) rfl nle rfl) ?_
  refine s_dof (o_lenS rfl) fun hl3 => ?_
  refine s_do (o_q (.int .i64 (w64 (left_2 - (a_1.T.length : Int)))) rfl rfl rfl) ?_
  refine s_do (o_mov (.int .i64 (w64 (left_2 - (a_1.T.length : Int)))) rfl) ?_
  refine w_done ?_
  refine k_seq ?_
  refine awp_seq ?_
  refine awp_seq ?_
  refine w_reg ?_
  refine s_do (o_mov (.int .i64 (w64 (left_2 - (a_1.T.length : Int)))) rfl) ?_
  refine s_do (o_q (.bool (decide (w64 (left_2 - (a_1.T.length : Int)) < 0))) rfl rfl rfl) ?_
  refine w_done ?_
  refine k_seq ?_
  rcases oi hf with ⟨c4, hf⟩ | ⟨c4, hf⟩
  · refine w_condt rfl c4 ?_
    refine awp_seq ?_
    refine w_reg ?_
    refine s_do (o_mov (.int .i64 (-1)) rfl) ?_
    refine w_done ?_
    refine k_seq ?_
    refine w_ret ?_
    obtain rfl := os hf
    exact r_flat ⟨trivial, trivial⟩ rfl (.refl _)
  · refine w_condf rfl (bf c4) ?_
    refine w_skip ?_
    refine k_seq ?_
    refine awp_seq ?_
    refine w_reg ?_
    refine s_do (o_mov (.int .i64 (w64 (left_2 - (a_1.T.length : Int)))) rfl) ?_
    refine s_do (o_mov (.int .i64 (w64 (left_2 - (a_1.T.length : Int)))) rfl) ?_
    refine w_done ?_
    refine k_seq ?_
    refine w_ret ?_
    obtain rfl := os hf
    exact r_flat ⟨trivial, trivial⟩ rfl (.refl _)

/- laws.szAtomS -/
def c68 : ACode :=
 (.seq (.reg (.q ⟨(some 4), none, .mov (.c (.int .i64 0))⟩
 .done))
 (.seq (.reg (.q ⟨(some 6), none, .mov (.t 1)⟩
 (.q ⟨(some 7), none, .mov (.t 0)⟩
 (.q ⟨(some 8), none, .len (.t 7)⟩
 (.q ⟨(some 9), none, .bin .sub (.t 6) (.t 8)⟩
 (.q ⟨(some 1), none, .mov (.t 9)⟩
 .done))))))
 (.seq (.seq (.reg (.q ⟨(some 10), none, .mov (.t 1)⟩
 (.q ⟨(some 11), none, .bin .lss (.t 10) (.c (.int .i64 0))⟩
 .done)))
 (.cond (.t 11) (.seq (.reg (.q ⟨(some 4), none, .mov (.c (.int .i64 (-1)))⟩
 .done))
 .ret)
 .skip))
 (.seq (.seq (.reg (.q ⟨(some 5), none, .mov (.c (.int .i64 0))⟩
 .done))
 (.block 0 (.loop (.seq (.seq (.reg (.q ⟨(some 12), none, .mov (.t 5)⟩
 (.q ⟨(some 13), none, .mov (.t 0)⟩
 (.q ⟨(some 14), none, .len (.t 13)⟩
 (.q ⟨(some 15), none, .bin .lss (.t 12) (.t 14)⟩
 .done)))))
 (.cond (.t 15) .skip
 (.exit 0)))
 (.seq (.block 1 (.seq (.reg (.q ⟨(some 18), none, .mov (.t 0)⟩
 (.q ⟨(some 19), none, .mov (.t 5)⟩
 (.q ⟨(some 20), none, .iaddr 3 (.t 18) (.t 19)⟩
 (.q ⟨(some 21), none, .load 3 true (.t 20)⟩
 (.q ⟨(some 22), none, .mov (.t 1)⟩
 (.q ⟨(some 23), none, .call 34 [(.t 21), (.t 22)]⟩
 (.q ⟨(some 1), none, .mov (.t 23)⟩
 .done))))))))
 (.seq (.reg (.q ⟨(some 24), none, .mov (.t 1)⟩
 (.q ⟨(some 25), none, .bin .lss (.t 24) (.c (.int .i64 0))⟩
 .done)))
 (.cond (.t 25) (.seq (.reg (.q ⟨(some 4), none, .mov (.c (.int .i64 (-1)))⟩
 .done))
 .ret)
 .skip))))
 (.reg (.q ⟨(some 16), none, .mov (.t 5)⟩
 (.q ⟨(some 17), none, .bin .add (.t 16) (.c (.int .i64 1))⟩
 (.q ⟨(some 5), none, .mov (.t 17)⟩
 .done)))))))))
 (.cut (.seq (.reg (.q ⟨(some 26), none, .mov (.t 1)⟩
 (.q ⟨(some 4), none, .mov (.t 26)⟩
 .done)))
 .ret))))))
theorem fc68 : fcomp Try.prog Try.f68 = some (c68.erase, [.mov (.t 4)], 27) := by kernel_rfl
def laws_szAtomS_L1  : List GAtom → Int → Option (Fl Int Int)
  | [], left_21 =>
    some (.go left_21)
  | x_39 :: xs, left_21 =>
    (laws_szAtom x_39 left_21).bind fun r_42 =>
    if (decide (r_42 < 0)) then
    some (.ret (-1))
    else
    laws_szAtomS_L1 xs r_42 

def laws_szAtomS (a_1 : (List GAtom)) (left_2 : Int) : Option Int :=
    if (decide (w64 (left_2 - (a_1.length : Int)) < 0)) then
    some (-1)
    else
    (laws_szAtomS_L1 a_1 (w64 (left_2 - (a_1.length : Int)))).bind fun q => (match q with
    | .ret r => some r
    | .go left_31 =>
    some left_31)
theorem w_laws_szAtomS (a_1 : (List GAtom)) (left_2 : Int) (r : Int) (hf : laws_szAtomS a_1 left_2 = some r) : CallOK Try.prog 68 .flat [(.lst 3 (a_1.map encGAtom)), (.int .i64 left_2)] (.int .i64 r) := by
  refine CallOK.of_awp mixed Try.func68 fc68 nle ?_
  rw [argT_eq]
  unfold laws_szAtomS at hf
  unfold c68
  refine (show awp Try.prog false 0 _ (ofL [(0, (.lst 3 (a_1.map encGAtom))), (1, (.int .i64 left_2))]) [] _ from ?_)
  refine awp_seq ?_
  refine w_reg ?_
  refine s_do (o_mov (.int .i64 0) rfl) ?_
  refine w_done ?_
  refine k_seq ?_
  refine awp_seq ?_
  refine w_reg ?_
  refine s_do (o_mov (.int .i64 left_2) rfl) ?_
  refine s_do (o_mov (.lst 3 (a_1.map encGAtom)) rfl) ?_
  refine s_dof (o_len (enc := encGAtom) rfl) fun hl3 => ?_
  refine s_do (o_q (.int .i64 (w64 (left_2 - (a_1.length : Int)))) rfl rfl rfl) ?_
  refine s_do (o_mov (.int .i64 (w64 (left_2 - (a_1.length : Int)))) rfl) ?_
  refine w_done ?_
  refine k_seq ?_
  refine awp_seq ?_
  refine awp_seq ?_
  refine w_reg ?_
  refine s_do (o_mov (.int .i64 (w64 (left_2 - (a_1.length : Int)))) rfl) ?_
  refine s_do (o_q (.bool (decide (w64 (left_2 - (a_1.length : Int)) < 0))) rfl rfl rfl) ?_
  refine w_done ?_
  refine k_seq ?_
  rcases oi hf with ⟨c4, hf⟩ | ⟨c4, hf⟩
  · refine w_condt rfl c4 ?_
    refine awp_seq ?_
    refine w_reg ?_
    refine s_do (o_mov (.int .i64 (-1)) rfl) ?_
    refine w_done ?_
    refine k_seq ?_
    refine w_ret ?_
    obtain rfl := os hf
    exact r_flat ⟨trivial, trivial⟩ rfl (.refl _)
  · refine w_condf rfl (bf c4) ?_
    refine w_skip ?_
    refine k_seq ?_
    refine awp_seq ?_
    refine awp_seq ?_
    refine w_reg ?_
    refine s_do (o_mov (.int .i64 0) rfl) ?_
    refine w_done ?_
    refine k_seq ?_
    obtain ⟨p32, hb1, hf⟩ := ob hf
    refine awp_cutx (X := {q : Int // p32 = .go q}) (fun q => ([(1, (.int .i64 q.1))], [])) ?_ ?_
    · refine awp_loop (X := {q : (Int × Nat) // laws_szAtomS_L1 (a_1.drop q.2) q.1 = some p32}) (fun q => ([(0, (.lst 3 (a_1.map encGAtom))), (1, (.int .i64 q.1.1)), (5, (.int .i64 (q.1.2 : Int)))], [])) (fun q => a_1.length - q.1.2) ⟨(w64 (left_2 - (a_1.length : Int)), 0), hb1⟩ ⟨[], [], _, _, rfl, rfl, ⟨.refl _, ⟨.refl _, ⟨.refl _, trivial⟩⟩⟩, .refl _⟩ ?_
      rintro ⟨⟨left_21, i_22⟩, hc1⟩
      have hc1 : laws_szAtomS_L1 (a_1.drop i_22) left_21 = some p32 := hc1
      refine (show awp Try.prog false 0 _ (ofL [(0, (.lst 3 (a_1.map encGAtom))), (1, (.int .i64 left_21)), (5, (.int .i64 (i_22 : Int)))]) [] _ from ?_)
      rcases dropc a_1 i_22 with ⟨hie35, hd38⟩ | ⟨hlt33, x_39, hx34, hd38⟩
      · rw [hd38, laws_szAtomS_L1.eq_1] at hc1
        have hq37 := dlf hie35
        refine awp_seq ?_
        refine awp_seq ?_
        refine w_reg ?_
        refine s_do (o_mov (.int .i64 (i_22 : Int)) rfl) ?_
        refine s_do (o_mov (.lst 3 (a_1.map encGAtom)) rfl) ?_
        refine s_dof (o_len (enc := encGAtom) rfl) fun hl40 => ?_
        refine s_do (o_q (.bool (decide ((i_22 : Int) < (a_1.length : Int)))) rfl rfl rfl) ?_
        refine w_done ?_
        refine k_seq ?_
        refine w_condf rfl hq37 ?_
        refine w_exit ?_
        refine k_seqx ?_
        refine k_loopx ?_
        refine k_blkx ?_
        obtain rfl := os hc1
        exact k_cutn ⟨_, rfl⟩ ⟨[], [], _, _, rfl, rfl, ⟨.refl _, trivial⟩, .refl _⟩
      · rw [hd38, laws_szAtomS_L1.eq_2] at hc1
        have hq37 := dlt hlt33
        refine awp_seq ?_
        refine awp_seq ?_
        refine w_reg ?_
        refine s_do (o_mov (.int .i64 (i_22 : Int)) rfl) ?_
        refine s_do (o_mov (.lst 3 (a_1.map encGAtom)) rfl) ?_
        refine s_dof (o_len (enc := encGAtom) rfl) fun hl41 => ?_
        refine s_do (o_q (.bool (decide ((i_22 : Int) < (a_1.length : Int)))) rfl rfl rfl) ?_
        refine w_done ?_
        refine k_seq ?_
        refine w_condt rfl hq37 ?_
        refine w_skip ?_
        refine k_seq ?_
        refine awp_seq ?_
        refine w_blk ?_
        refine awp_seq ?_
        refine w_reg ?_
        obtain ⟨r_42, er43, hc1⟩ := ob hc1
        refine s_do (o_mov (.lst 3 (a_1.map encGAtom)) rfl) ?_
        refine s_do (o_mov (.int .i64 (i_22 : Int)) rfl) ?_
        refine s_do (o_iaddrn (enc := encGAtom) rfl rfl hx34) ?_
        refine s_do (o_q (encGAtom x_39) rfl nle rfl) ?_
        refine s_do (o_mov (.int .i64 left_21) rfl) ?_
        refine s_do (o_call (w_laws_szAtom _ _ _ er43) rfl (.refl _) rfl) ?_
        refine s_do (o_mov (.int .i64 r_42) rfl) ?_
        refine w_done ?_
        refine k_seq ?_
        refine awp_seq ?_
        refine w_reg ?_
        refine s_do (o_mov (.int .i64 r_42) rfl) ?_
        refine s_do (o_q (.bool (decide (r_42 < 0))) rfl rfl rfl) ?_
        refine w_done ?_
        refine k_seq ?_
        rcases oi hc1 with ⟨c44, hc1⟩ | ⟨c44, hc1⟩
        · refine w_condt rfl c44 ?_
          refine awp_seq ?_
          refine w_reg ?_
          refine s_do (o_mov (.int .i64 (-1)) rfl) ?_
          refine w_done ?_
          refine k_seq ?_
          refine w_ret ?_
          obtain rfl := os hc1
          obtain rfl := os hf
          exact r_flat ⟨trivial, trivial⟩ rfl (.refl _)
        · refine w_condf rfl (bf c44) ?_
          refine w_skip ?_
          refine k_blk ?_
          refine k_seq ?_
          refine w_reg ?_
          refine s_do (o_mov (.int .i64 (i_22 : Int)) rfl) ?_
          refine s_do (o_q (.int .i64 (w64 ((i_22 : Int) + 1))) rfl rfl rfl) ?_
          refine s_do (o_mov (.int .i64 (w64 ((i_22 : Int) + 1))) rfl) ?_
          refine w_done ?_
          exact k_loopn ⟨(r_42, (i_22 + 1)), hc1⟩ (mul hlt33) ⟨[], [], _, _, rfl, rfl, ⟨.refl _, ⟨.refl _, ⟨.of_eq (congrArg (AV.int _) (w64_incr hlt33 hl41)), trivial⟩⟩⟩, .refl _⟩
    · rintro ⟨left_31, rfl⟩
      refine awp_seq ?_
      refine w_reg ?_
      refine s_do (o_mov (.int .i64 left_31) rfl) ?_
      refine s_do (o_mov (.int .i64 left_31) rfl) ?_
      refine w_done ?_
      refine k_seq ?_
      refine w_ret ?_
      obtain rfl := os hf
      exact r_flat ⟨trivial, trivial⟩ rfl (.refl _)

/- laws.szAtomSS -/
def c155 : ACode :=
 (.seq (.reg (.q ⟨(some 4), none, .mov (.c (.int .i64 0))⟩
 .done))
 (.seq (.reg (.q ⟨(some 6), none, .mov (.t 1)⟩
 (.q ⟨(some 7), none, .mov (.t 0)⟩
 (.q ⟨(some 8), none, .len (.t 7)⟩
 (.q ⟨(some 9), none, .bin .sub (.t 6) (.t 8)⟩
 (.q ⟨(some 1), none, .mov (.t 9)⟩
 .done))))))
 (.seq (.seq (.reg (.q ⟨(some 10), none, .mov (.t 1)⟩
 (.q ⟨(some 11), none, .bin .lss (.t 10) (.c (.int .i64 0))⟩
 .done)))
 (.cond (.t 11) (.seq (.reg (.q ⟨(some 4), none, .mov (.c (.int .i64 (-1)))⟩
 .done))
 .ret)
 .skip))
 (.seq (.seq (.reg (.q ⟨(some 5), none, .mov (.c (.int .i64 0))⟩
 .done))
 (.block 0 (.loop (.seq (.seq (.reg (.q ⟨(some 12), none, .mov (.t 5)⟩
 (.q ⟨(some 13), none, .mov (.t 0)⟩
 (.q ⟨(some 14), none, .len (.t 13)⟩
 (.q ⟨(some 15), none, .bin .lss (.t 12) (.t 14)⟩
 .done)))))
 (.cond (.t 15) .skip
 (.exit 0)))
 (.seq (.block 1 (.seq (.reg (.q ⟨(some 18), none, .mov (.t 0)⟩
 (.q ⟨(some 19), none, .mov (.t 5)⟩
 (.q ⟨(some 20), none, .iaddr 1 (.t 18) (.t 19)⟩
 (.q ⟨(some 21), none, .load 1 false (.t 20)⟩
 (.q ⟨(some 22), none, .mov (.t 1)⟩
 (.q ⟨(some 23), none, .call 68 [(.t 21), (.t 22)]⟩
 (.q ⟨(some 1), none, .mov (.t 23)⟩
 .done))))))))
 (.seq (.reg (.q ⟨(some 24), none, .mov (.t 1)⟩
 (.q ⟨(some 25), none, .bin .lss (.t 24) (.c (.int .i64 0))⟩
 .done)))
 (.cond (.t 25) (.seq (.reg (.q ⟨(some 4), none, .mov (.c (.int .i64 (-1)))⟩
 .done))
 .ret)
 .skip))))
 (.reg (.q ⟨(some 16), none, .mov (.t 5)⟩
 (.q ⟨(some 17), none, .bin .add (.t 16) (.c (.int .i64 1))⟩
 (.q ⟨(some 5), none, .mov (.t 17)⟩
 .done)))))))))
 (.cut (.seq (.reg (.q ⟨(some 26), none, .mov (.t 1)⟩
 (.q ⟨(some 4), none, .mov (.t 26)⟩
 .done)))
 .ret))))))
theorem fc155 : fcomp Try.prog Try.f155 = some (c155.erase, [.mov (.t 4)], 27) := by kernel_rfl
def laws_szAtomSS_L1  : List (List GAtom) → Int → Option (Fl Int Int)
  | [], left_21 =>
    some (.go left_21)
  | x_39 :: xs, left_21 =>
    (laws_szAtomS x_39 left_21).bind fun r_42 =>
    if (decide (r_42 < 0)) then
    some (.ret (-1))
    else
    laws_szAtomSS_L1 xs r_42 

def laws_szAtomSS (a_1 : (List (List GAtom))) (left_2 : Int) : Option Int :=
    if (decide (w64 (left_2 - (a_1.length : Int)) < 0)) then
    some (-1)
    else
    (laws_szAtomSS_L1 a_1 (w64 (left_2 - (a_1.length : Int)))).bind fun q => (match q with
    | .ret r => some r
    | .go left_31 =>
    some left_31)
theorem w_laws_szAtomSS (a_1 : (List (List GAtom))) (left_2 : Int) (r : Int) (hf : laws_szAtomSS a_1 left_2 = some r) : CallOK Try.prog 155 .flat [(.lst 1 (a_1.map (encL 3 encGAtom))), (.int .i64 left_2)] (.int .i64 r) := by
  refine CallOK.of_awp mixed Try.func155 fc155 nle ?_
  rw [argT_eq]
  unfold laws_szAtomSS at hf
  unfold c155
  refine (show awp Try.prog false 0 _ (ofL [(0, (.lst 1 (a_1.map (encL 3 encGAtom)))), (1, (.int .i64 left_2))]) [] _ from ?_)
  refine awp_seq ?_
  refine w_reg ?_
  refine s_do (o_mov (.int .i64 0) rfl) ?_
  refine w_done ?_
  refine k_seq ?_
  refine awp_seq ?_
  refine w_reg ?_
  refine s_do (o_mov (.int .i64 left_2) rfl) ?_
  refine s_do (o_mov (.lst 1 (a_1.map (encL 3 encGAtom))) rfl) ?_
  refine s_dof (o_len (enc := (encL 3 encGAtom)) rfl) fun hl3 => ?_
  refine s_do (o_q (.int .i64 (w64 (left_2 - (a_1.length : Int)))) rfl rfl rfl) ?_
  refine s_do (o_mov (.int .i64 (w64 (left_2 - (a_1.length : Int)))) rfl) ?_
  refine w_done ?_
  refine k_seq ?_
  refine awp_seq ?_
  refine awp_seq ?_
  refine w_reg ?_
  refine s_do (o_mov (.int .i64 (w64 (left_2 - (a_1.length : Int)))) rfl) ?_
  refine s_do (o_q (.bool (decide (w64 (left_2 - (a_1.length : Int)) < 0))) rfl rfl rfl) ?_
  refine w_done ?_
  refine k_seq ?_
  rcases oi hf with ⟨c4, hf⟩ | ⟨c4, hf⟩
  · refine w_condt rfl c4 ?_
    refine awp_seq ?_
    refine w_reg ?_
    refine s_do (o_mov (.int .i64 (-1)) rfl) ?_
    refine w_done ?_
    refine k_seq ?_
    refine w_ret ?_
    obtain rfl := os hf
    exact r_flat ⟨trivial, trivial⟩ rfl (.refl _)
  · refine w_condf rfl (bf c4) ?_
    refine w_skip ?_
    refine k_seq ?_
    refine awp_seq ?_
    refine awp_seq ?_
    refine w_reg ?_
    refine s_do (o_mov (.int .i64 0) rfl) ?_
    refine w_done ?_
    refine k_seq ?_
    obtain ⟨p32, hb1, hf⟩ := ob hf
    refine awp_cutx (X := {q : Int // p32 = .go q}) (fun q => ([(1, (.int .i64 q.1))], [])) ?_ ?_
    · refine awp_loop (X := {q : (Int × Nat) // laws_szAtomSS_L1 (a_1.drop q.2) q.1 = some p32}) (fun q => ([(0, (.lst 1 (a_1.map (encL 3 encGAtom)))), (1, (.int .i64 q.1.1)), (5, (.int .i64 (q.1.2 : Int)))], [])) (fun q => a_1.length - q.1.2) ⟨(w64 (left_2 - (a_1.length : Int)), 0), hb1⟩ ⟨[], [], _, _, rfl, rfl, ⟨.refl _, ⟨.refl _, ⟨.refl _, trivial⟩⟩⟩, .refl _⟩ ?_
      rintro ⟨⟨left_21, i_22⟩, hc1⟩
      have hc1 : laws_szAtomSS_L1 (a_1.drop i_22) left_21 = some p32 := hc1
      refine (show awp Try.prog false 0 _ (ofL [(0, (.lst 1 (a_1.map (encL 3 encGAtom)))), (1, (.int .i64 left_21)), (5, (.int .i64 (i_22 : Int)))]) [] _ from ?_)
      rcases dropc a_1 i_22 with ⟨hie35, hd38⟩ | ⟨hlt33, x_39, hx34, hd38⟩
      · rw [hd38, laws_szAtomSS_L1.eq_1] at hc1
        have hq37 := dlf hie35
        refine awp_seq ?_
        refine awp_seq ?_
        refine w_reg ?_
        refine s_do (o_mov (.int .i64 (i_22 : Int)) rfl) ?_
        refine s_do (o_mov (.lst 1 (a_1.map (encL 3 encGAtom))) rfl) ?_
        refine s_dof (o_len (enc := (encL 3 encGAtom)) rfl) fun hl40 => ?_
        refine s_do (o_q (.bool (decide ((i_22 : Int) < (a_1.length : Int)))) rfl rfl rfl) ?_
        refine w_done ?_
        refine k_seq ?_
        refine w_condf rfl hq37 ?_
        refine w_exit ?_
        refine k_seqx ?_
        refine k_loopx ?_
        refine k_blkx ?_
        obtain rfl := os hc1
        exact k_cutn ⟨_, rfl⟩ ⟨[], [], _, _, rfl, rfl, ⟨.refl _, trivial⟩, .refl _⟩
      · rw [hd38, laws_szAtomSS_L1.eq_2] at hc1
        have hq37 := dlt hlt33
        refine awp_seq ?_
        refine awp_seq ?_
        refine w_reg ?_
        refine s_do (o_mov (.int .i64 (i_22 : Int)) rfl) ?_
        refine s_do (o_mov (.lst 1 (a_1.map (encL 3 encGAtom))) rfl) ?_
        refine s_dof (o_len (enc := (encL 3 encGAtom)) rfl) fun hl41 => ?_
        refine s_do (o_q (.bool (decide ((i_22 : Int) < (a_1.length : Int)))) rfl rfl rfl) ?_
        refine w_done ?_
        refine k_seq ?_
        refine w_condt rfl hq37 ?_
        refine w_skip ?_
        refine k_seq ?_
        refine awp_seq ?_
        refine w_blk ?_
        refine awp_seq ?_
        refine w_reg ?_
        obtain ⟨r_42, er43, hc1⟩ := ob hc1
        refine s_do (o_mov (.lst 1 (a_1.map (encL 3 encGAtom))) rfl) ?_
        refine s_do (o_mov (.int .i64 (i_22 : Int)) rfl) ?_
        refine s_do (o_iaddrn (enc := (encL 3 encGAtom)) rfl rfl hx34) ?_
        refine s_do (o_q (.lst 3 (x_39.map encGAtom)) rfl ⟨rfl, rfl⟩ rfl) ?_
        refine s_do (o_mov (.int .i64 left_21) rfl) ?_
        refine s_do (o_call (w_laws_szAtomS _ _ _ er43) rfl (.refl _) rfl) ?_
        refine s_do (o_mov (.int .i64 r_42) rfl) ?_
        refine w_done ?_
        refine k_seq ?_
        refine awp_seq ?_
        refine w_reg ?_
        refine s_do (o_mov (.int .i64 r_42) rfl) ?_
        refine s_do (o_q (.bool (decide (r_42 < 0))) rfl rfl rfl) ?_
        refine w_done ?_
        refine k_seq ?_
        rcases oi hc1 with ⟨c44, hc1⟩ | ⟨c44, hc1⟩
        · refine w_condt rfl c44 ?_
          refine awp_seq ?_
          refine w_reg ?_
          refine s_do (o_mov (.int .i64 (-1)) rfl) ?_
          refine w_done ?_
          refine k_seq ?_
          refine w_ret ?_
          obtain rfl := os hc1
          obtain rfl := os hf
          exact r_flat ⟨trivial, trivial⟩ rfl (.refl _)
        · refine w_condf rfl (bf c44) ?_
          refine w_skip ?_
          refine k_blk ?_
          refine k_seq ?_
          refine w_reg ?_
          refine s_do (o_mov (.int .i64 (i_22 : Int)) rfl) ?_
          refine s_do (o_q (.int .i64 (w64 ((i_22 : Int) + 1))) rfl rfl rfl) ?_
          refine s_do (o_mov (.int .i64 (w64 ((i_22 : Int) + 1))) rfl) ?_
          refine w_done ?_
          exact k_loopn ⟨(r_42, (i_22 + 1)), hc1⟩ (mul hlt33) ⟨[], [], _, _, rfl, rfl, ⟨.refl _, ⟨.refl _, ⟨.of_eq (congrArg (AV.int _) (w64_incr hlt33 hl41)), trivial⟩⟩⟩, .refl _⟩
    · rintro ⟨left_31, rfl⟩
      refine awp_seq ?_
      refine w_reg ?_
      refine s_do (o_mov (.int .i64 left_31) rfl) ?_
      refine s_do (o_mov (.int .i64 left_31) rfl) ?_
      refine w_done ?_
      refine k_seq ?_
      refine w_ret ?_
      obtain rfl := os hf
      exact r_flat ⟨trivial, trivial⟩ rfl (.refl _)

/- laws.szRow -/
def c90 : ACode :=
 (.seq (.reg (.q ⟨(some 2), none, .box 2 (.t 0)⟩
 (.q ⟨(some 4), none, .mov (.c (.int .i64 0))⟩
 .done)))
 (.seq (.reg (.q ⟨(some 5), none, .faddr 1 (.t 2)⟩
 (.q ⟨(some 6), none, .load 1 false (.t 5)⟩
 (.q ⟨(some 7), none, .mov (.t 1)⟩
 (.q ⟨(some 8), none, .call 155 [(.t 6), (.t 7)]⟩
 (.q ⟨(some 1), none, .mov (.t 8)⟩
 .done))))))
 (.seq (.seq (.reg (.q ⟨(some 9), none, .mov (.t 1)⟩
 (.q ⟨(some 10), none, .bin .lss (.t 9) (.c (.int .i64 0))⟩
 .done)))
 (.cond (.t 10) (.seq (.reg (.q ⟨(some 4), none, .mov (.c (.int .i64 (-1)))⟩
 .done))
 .ret)
 .skip))
 (.seq (.reg (.q ⟨(some 11), none, .mov (.t 1)⟩
 (.q ⟨(some 4), none, .mov (.t 11)⟩
 .done)))
 .ret))))
theorem fc90 : fcomp Try.prog Try.f90 = some (c90.erase, [.mov (.t 4)], 12) := by kernel_rfl
def laws_szRow (a_1 : GRow) (left_2 : Int) : Option Int :=
    (laws_szAtomSS a_1.Cells left_2).bind fun r_3 =>
    if (decide (r_3 < 0)) then
    some (-1)
    else
    some r_3
theorem w_laws_szRow (a_1 : GRow) (left_2 : Int) (r : Int) (hf : laws_szRow a_1 left_2 = some r) : CallOK Try.prog 90 .flat [(encGRow a_1), (.int .i64 left_2)] (.int .i64 r) := by
  refine CallOK.of_awp mixed Try.func90 fc90 nle ?_
  rw [argT_eq]
  unfold laws_szRow at hf
  unfold c90
  refine (show awp Try.prog false 0 _ (ofL [(0, (encGRow a_1)), (1, (.int .i64 left_2))]) [] _ from ?_)
  refine awp_seq ?_
  refine w_reg ?_
  refine s_do (o_box (j := 0) (c := (.agg [(.int .i64 a_1.Id), (.lst 1 (a_1.Cells.map (encL 3 encGAtom)))])) rfl trivial rfl rfl) ?_
  refine s_do (o_mov (.int .i64 0) rfl) ?_
  refine w_done ?_
  refine k_seq ?_
  refine awp_seq ?_
  refine w_reg ?_
  obtain ⟨r_3, er4, hf⟩ := ob hf
  refine s_do (o_q (.ptr 0 0 1) rfl trivial rfl) ?_
  refine s_do (o_q (.lst 1 (a_1.Cells.map (encL 3 encGAtom))) rfl nle rfl) ?_
  refine s_do (o_mov (.int .i64 left_2) rfl) ?_
  refine s_do (o_call (w_laws_szAtomSS _ _ _ er4) rfl (.refl _) rfl) ?_
  refine s_do (o_mov (.int .i64 r_3) rfl) ?_
  refine w_done ?_
  refine k_seq ?_
  refine awp_seq ?_
  refine awp_seq ?_
  refine w_reg ?_
  refine s_do (o_mov (.int .i64 r_3) rfl) ?_
  refine s_do (o_q (.bool (decide (r_3 < 0))) rfl rfl rfl) ?_
  refine w_done ?_
  refine k_seq ?_
  rcases oi hf with ⟨c5, hf⟩ | ⟨c5, hf⟩
  · refine w_condt rfl c5 ?_
    refine awp_seq ?_
    refine w_reg ?_
    refine s_do (o_mov (.int .i64 (-1)) rfl) ?_
    refine w_done ?_
    refine k_seq ?_
    refine w_ret ?_
    obtain rfl := os hf
    exact r_flat ⟨trivial, trivial⟩ rfl (.refl _)
  · refine w_condf rfl (bf c5) ?_
    refine w_skip ?_
    refine k_seq ?_
    refine awp_seq ?_
    refine w_reg ?_
    refine s_do (o_mov (.int .i64 r_3) rfl) ?_
    refine s_do (o_mov (.int .i64 r_3) rfl) ?_
    refine w_done ?_
    refine k_seq ?_
    refine w_ret ?_
    obtain rfl := os hf
    exact r_flat ⟨trivial, trivial⟩ rfl (.refl _)

/- laws.szChange -/
def c20 : ACode :=
 (.seq (.reg (.q ⟨(some 2), none, .box 6 (.t 0)⟩
 (.q ⟨(some 4), none, .mov (.c (.int .i64 0))⟩
 .done)))
 (.seq (.reg (.q ⟨(some 5), none, .faddr 2 (.t 2)⟩
 (.q ⟨(some 6), none, .load 2 true (.t 5)⟩
 (.q ⟨(some 7), none, .mov (.t 1)⟩
 (.q ⟨(some 8), none, .call 90 [(.t 6), (.t 7)]⟩
 (.q ⟨(some 1), none, .mov (.t 8)⟩
 .done))))))
 (.seq (.seq (.reg (.q ⟨(some 9), none, .mov (.t 1)⟩
 (.q ⟨(some 10), none, .bin .lss (.t 9) (.c (.int .i64 0))⟩
 .done)))
 (.cond (.t 10) (.seq (.reg (.q ⟨(some 4), none, .mov (.c (.int .i64 (-1)))⟩
 .done))
 .ret)
 .skip))
 (.seq (.reg (.q ⟨(some 11), none, .faddr 4 (.t 2)⟩
 (.q ⟨(some 12), none, .load 2 true (.t 11)⟩
 (.q ⟨(some 13), none, .mov (.t 1)⟩
 (.q ⟨(some 14), none, .call 90 [(.t 12), (.t 13)]⟩
 (.q ⟨(some 1), none, .mov (.t 14)⟩
 .done))))))
 (.seq (.seq (.reg (.q ⟨(some 15), none, .mov (.t 1)⟩
 (.q ⟨(some 16), none, .bin .lss (.t 15) (.c (.int .i64 0))⟩
 .done)))
 (.cond (.t 16) (.seq (.reg (.q ⟨(some 4), none, .mov (.c (.int .i64 (-1)))⟩
 .done))
 .ret)
 .skip))
 (.seq (.reg (.q ⟨(some 17), none, .mov (.t 1)⟩
 (.q ⟨(some 4), none, .mov (.t 17)⟩
 .done)))
 .ret))))))
theorem fc20 : fcomp Try.prog Try.f20 = some (c20.erase, [.mov (.t 4)], 18) := by kernel_rfl
def laws_szChange (a_1 : GChange) (left_2 : Int) : Option Int :=
    (laws_szRow a_1.Old left_2).bind fun r_3 =>
    if (decide (r_3 < 0)) then
    some (-1)
    else
    (laws_szRow a_1.New r_3).bind fun r_6 =>
    if (decide (r_6 < 0)) then
    some (-1)
    else
    some r_6
theorem w_laws_szChange (a_1 : GChange) (left_2 : Int) (r : Int) (hf : laws_szChange a_1 left_2 = some r) : CallOK Try.prog 20 .flat [(encGChange a_1), (.int .i64 left_2)] (.int .i64 r) := by
  refine CallOK.of_awp mixed Try.func20 fc20 nle ?_
  rw [argT_eq]
  unfold laws_szChange at hf
  unfold c20
  refine (show awp Try.prog false 0 _ (ofL [(0, (encGChange a_1)), (1, (.int .i64 left_2))]) [] _ from ?_)
  refine awp_seq ?_
  refine w_reg ?_
  refine s_do (o_box (j := 0) (c := (.agg [(.int .i64 a_1.Table), (.int .i64 a_1.Id), (.int .i64 a_1.Old.Id), (.lst 1 (a_1.Old.Cells.map (encL 3 encGAtom))), (.int .i64 a_1.New.Id), (.lst 1 (a_1.New.Cells.map (encL 3 encGAtom)))])) rfl trivial rfl rfl) ?_
  refine s_do (o_mov (.int .i64 0) rfl) ?_
  refine w_done ?_
  refine k_seq ?_
  refine awp_seq ?_
  refine w_reg ?_
  obtain ⟨r_3, er4, hf⟩ := ob hf
  refine s_do (o_q (.ptr 0 0 2) rfl trivial rfl) ?_
  refine s_do (o_q (.agg [(.int .i64 a_1.Old.Id), (.lst 1 (a_1.Old.Cells.map (encL 3 encGAtom)))]) rfl nle rfl) ?_
  refine s_do (o_mov (.int .i64 left_2) rfl) ?_
  refine s_do (o_call (w_laws_szRow _ _ _ er4) rfl (.refl _) rfl) ?_
  refine s_do (o_mov (.int .i64 r_3) rfl) ?_
  refine w_done ?_
  refine k_seq ?_
  refine awp_seq ?_
  refine awp_seq ?_
  refine w_reg ?_
  refine s_do (o_mov (.int .i64 r_3) rfl) ?_
  refine s_do (o_q (.bool (decide (r_3 < 0))) rfl rfl rfl) ?_
  refine w_done ?_
  refine k_seq ?_
  rcases oi hf with ⟨c5, hf⟩ | ⟨c5, hf⟩
  · refine w_condt rfl c5 ?_
    refine awp_seq ?_
    refine w_reg ?_
    refine s_do (o_mov (.int .i64 (-1)) rfl) ?_
    refine w_done ?_
    refine k_seq ?_
    refine w_ret ?_
    obtain rfl := os hf
    exact r_flat ⟨trivial, trivial⟩ rfl (.refl _)
  · refine w_condf rfl (bf c5) ?_
    refine w_skip ?_
    refine k_seq ?_
    refine awp_seq ?_
    refine w_reg ?_
    obtain ⟨r_6, er7, hf⟩ := ob hf
    refine s_do (o_q (.ptr 0 0 4) rfl trivial rfl) ?_
    refine s_do (o_q (.agg [(.int .i64 a_1.New.Id), (.lst 1 (a_1.New.Cells.map (encL 3 encGAtom)))]) rfl nle rfl) ?_
    refine s_do (o_mov (.int .i64 r_3) rfl) ?_
    refine s_do (o_call (w_laws_szRow _ _ _ er7) rfl (.refl _) rfl) ?_
    refine s_do (o_mov (.int .i64 r_6) rfl) ?_
    refine w_done ?_
    refine k_seq ?_
    refine awp_seq ?_
    refine awp_seq ?_
    refine w_reg ?_
    refine s_do (o_mov (.int .i64 r_6) rfl) ?_
    refine s_do (o_q (.bool (decide (r_6 < 0))) rfl rfl rfl) ?_
    refine w_done ?_
    refine k_seq ?_
    rcases oi hf with ⟨c8, hf⟩ | ⟨c8, hf⟩
    · refine w_condt rfl c8 ?_
      refine awp_seq ?_
      refine w_reg ?_
      refine s_do (o_mov (.int .i64 (-1)) rfl) ?_
      refine w_done ?_
      refine k_seq ?_
      refine w_ret ?_
      obtain rfl := os hf
      exact r_flat ⟨trivial, trivial⟩ rfl (.refl _)
    · refine w_condf rfl (bf c8) ?_
      refine w_skip ?_
      refine k_seq ?_
      refine awp_seq ?_
      refine w_reg ?_
      refine s_do (o_mov (.int .i64 r_6) rfl) ?_
      refine s_do (o_mov (.int .i64 r_6) rfl) ?_
      refine w_done ?_
      refine k_seq ?_
      refine w_ret ?_
      obtain rfl := os hf
      exact r_flat ⟨trivial, trivial⟩ rfl (.refl _)

/- laws.toAtom -/
def c36 : ACode :=
 (.seq (.reg (.q ⟨(some 1), none, .box 3 (.t 0)⟩
 (.q ⟨(some 2), none, .box 3 (.c (.agg [(.int .i64 0), (.int .i64 0), (.str [])]))⟩
 .done)))
 (.seq (.reg (.q ⟨(some 3), none, .box 3 (.c (.agg [(.int .i64 0), (.int .i64 0), (.str [])]))⟩
 .done))
 (.seq (.reg (.q ⟨(some 4), none, .faddr 0 (.t 1)⟩
 (.q ⟨(some 5), none, .load 1 false (.t 4)⟩
 (.q ⟨(some 6), none, .faddr 0 (.t 3)⟩
 (.q ⟨none, none, .store 1 (.t 6) (.t 5)⟩
 .done)))))
 (.seq (.reg (.q ⟨(some 7), none, .faddr 1 (.t 1)⟩
 (.q ⟨(some 8), none, .load 1 false (.t 7)⟩
 (.q ⟨(some 9), none, .faddr 1 (.t 3)⟩
 (.q ⟨none, none, .store 1 (.t 9) (.t 8)⟩
 .done)))))
 (.seq (.reg (.q ⟨(some 10), none, .faddr 2 (.t 1)⟩
 (.q ⟨(some 11), none, .load 1 false (.t 10)⟩
 (.q ⟨(some 12), none, .faddr 2 (.t 3)⟩
 (.q ⟨none, none, .store 1 (.t 12) (.t 11)⟩
 .done)))))
 (.seq (.reg (.q ⟨(some 13), none, .load 3 true (.t 3)⟩
 (.q ⟨none, none, .store 3 (.t 2) (.t 13)⟩
 .done)))
 .ret))))))
theorem fc36 : fcomp Try.prog Try.f36 = some (c36.erase, [.load 3 true (.t 2)], 14) := by kernel_rfl
def laws_toAtom (a_1 : GAtom) : Option GAtom :=
    some a_1
theorem w_laws_toAtom (a_1 : GAtom) (r : GAtom) (hf : laws_toAtom a_1 = some r) : CallOK Try.prog 36 .flat [(encGAtom a_1)] (encGAtom r) := by
  refine CallOK.of_awp mixed Try.func36 fc36 nle ?_
  rw [argT_eq]
  unfold laws_toAtom at hf
  unfold c36
  refine (show awp Try.prog false 0 _ (ofL [(0, (encGAtom a_1))]) [] _ from ?_)
  refine awp_seq ?_
  refine w_reg ?_
  refine s_do (o_box (j := 0) (c := (.agg [(.int .i64 a_1.Kind), (.int .i64 a_1.N), (.str a_1.T)])) rfl trivial rfl rfl) ?_
  refine s_do (o_box (j := 1) (c := (.agg [(.int .i64 0), (.int .i64 0), (.str [])])) rfl trivial rfl rfl) ?_
  refine w_done ?_
  refine k_seq ?_
  refine awp_seq ?_
  refine w_reg ?_
  refine s_do (o_box (j := 2) (c := (.agg [(.int .i64 0), (.int .i64 0), (.str [])])) rfl trivial rfl rfl) ?_
  refine w_done ?_
  refine k_seq ?_
  refine awp_seq ?_
  refine w_reg ?_
  refine s_do (o_q (.ptr 0 0 0) rfl trivial rfl) ?_
  refine s_do (o_q (.int .i64 a_1.Kind) rfl nle rfl) ?_
  refine s_do (o_q (.ptr 2 0 0) rfl trivial rfl) ?_
  refine s_do0 (o_storebox (v := (.int .i64 a_1.Kind)) (y' := (.agg [(.int .i64 a_1.Kind), (.int .i64 0), (.str [])])) rfl rfl rfl trivial ⟨rfl, nle⟩ ⟨⟨rfl, trivial⟩, trivial⟩ rfl) ?_
  refine w_done ?_
  refine k_seq ?_
  refine awp_seq ?_
  refine w_reg ?_
  refine s_do (o_q (.ptr 0 0 1) rfl trivial rfl) ?_
  refine s_do (o_q (.int .i64 a_1.N) rfl nle rfl) ?_
  refine s_do (o_q (.ptr 2 0 1) rfl trivial rfl) ?_
  refine s_do0 (o_storebox (v := (.int .i64 a_1.N)) (y' := (.agg [(.int .i64 a_1.Kind), (.int .i64 a_1.N), (.str [])])) rfl rfl rfl trivial ⟨rfl, nle⟩ ⟨⟨rfl, trivial⟩, trivial⟩ rfl) ?_
  refine w_done ?_
  refine k_seq ?_
  refine awp_seq ?_
  refine w_reg ?_
  refine s_do (o_q (.ptr 0 0 2) rfl trivial rfl) ?_
  refine s_do (o_q (.str a_1.T) rfl nle rfl) ?_
  refine s_do (o_q (.ptr 2 0 2) rfl trivial rfl) ?_
  refine s_do0 (o_storebox (v := (.str a_1.T)) (y' := (.agg [(.int .i64 a_1.Kind), (.int .i64 a_1.N), (.str a_1.T)])) rfl rfl rfl trivial ⟨rfl, nle⟩ ⟨⟨rfl, trivial⟩, trivial⟩ rfl) ?_
  refine w_done ?_
  refine k_seq ?_
  refine awp_seq ?_
  refine w_reg ?_
  refine s_do (o_q (.agg [(.int .i64 a_1.Kind), (.int .i64 a_1.N), (.str a_1.T)]) rfl nle rfl) ?_
  refine s_do0 (o_storebox (v := (.agg [(.int .i64 a_1.Kind), (.int .i64 a_1.N), (.str a_1.T)])) (y' := (.agg [(.int .i64 a_1.Kind), (.int .i64 a_1.N), (.str a_1.T)])) rfl rfl rfl trivial ⟨rfl, nle⟩ ⟨⟨rfl, trivial⟩, ⟨⟨rfl, trivial⟩, ⟨⟨rfl, trivial⟩, trivial⟩⟩⟩ rfl) ?_
  refine w_done ?_
  refine k_seq ?_
  refine w_ret ?_
  obtain rfl := os hf
  exact r_flat ⟨nle, trivial⟩ rfl (.refl _)

/- laws.toAtomS -/
def c70 : ACode :=
 (.seq (.reg (.q ⟨(some 2), none, .mov (.c .nil)⟩
 .done))
 (.seq (.reg (.q ⟨(some 5), none, .mov (.t 0)⟩
 (.q ⟨(some 6), none, .len (.t 5)⟩
 (.q ⟨(some 7), none, .mkslice 3 32 (.agg [(.int .i64 0), (.int .i64 0), (.str [])]) (.t 6) (.t 6)⟩
 (.q ⟨(some 3), none, .mov (.t 7)⟩
 .done)))))
 (.seq (.seq (.reg (.q ⟨(some 4), none, .mov (.c (.int .i64 0))⟩
 .done))
 (.block 0 (.loop (.seq (.seq (.reg (.q ⟨(some 8), none, .mov (.t 4)⟩
 (.q ⟨(some 9), none, .mov (.t 0)⟩
 (.q ⟨(some 10), none, .len (.t 9)⟩
 (.q ⟨(some 11), none, .bin .lss (.t 8) (.t 10)⟩
 .done)))))
 (.cond (.t 11) .skip
 (.exit 0)))
 (.seq (.block 1 (.reg (.q ⟨(some 14), none, .mov (.t 3)⟩
 (.q ⟨(some 15), none, .mov (.t 4)⟩
 (.q ⟨(some 16), none, .mov (.t 0)⟩
 (.q ⟨(some 17), none, .mov (.t 4)⟩
 (.q ⟨(some 18), none, .iaddr 3 (.t 16) (.t 17)⟩
 (.q ⟨(some 19), none, .load 3 true (.t 18)⟩
 (.q ⟨(some 20), none, .call 36 [(.t 19)]⟩
 (.q ⟨(some 21), none, .iaddr 3 (.t 14) (.t 15)⟩
 (.q ⟨none, none, .store 3 (.t 21) (.t 20)⟩
 .done)))))))))))
 (.reg (.q ⟨(some 12), none, .mov (.t 4)⟩
 (.q ⟨(some 13), none, .bin .add (.t 12) (.c (.int .i64 1))⟩
 (.q ⟨(some 4), none, .mov (.t 13)⟩
 .done)))))))))
 (.cut (.seq (.reg (.q ⟨(some 22), none, .mov (.t 3)⟩
 (.q ⟨(some 2), none, .mov (.t 22)⟩
 .done)))
 .ret)))))
theorem fc70 : fcomp Try.prog Try.f70 = some (c70.erase, [.mov (.t 2)], 23) := by kernel_rfl
def laws_toAtomS_L1  : List GAtom → Nat → (List GAtom) → Option (List GAtom)
  | [], i_24, out_25 =>
    some out_25
  | x_44 :: xs, i_24, out_25 =>
    (laws_toAtom x_44).bind fun r_47 =>
    if i_24 < out_25.length then
    (out_25[i_24]?).bind fun x_50 =>
    laws_toAtomS_L1 xs (i_24 + 1) (out_25.set i_24 r_47)
    else none

def laws_toAtomS (a_1 : (List GAtom)) : Option (List GAtom) :=
    if (a_1.length : Int) ≤ 2 ^ 30 then
    (laws_toAtomS_L1 a_1 0 (List.replicate a_1.length (⟨0, 0, []⟩ : GAtom))).bind fun out_36 =>
    some out_36
    else none
theorem w_laws_toAtomS (a_1 : (List GAtom)) (r : (List GAtom)) (hf : laws_toAtomS a_1 = some r) : CallOK Try.prog 70 .fresh [(.lst 3 (a_1.map encGAtom))] (.lst 3 (r.map encGAtom)) := by
  refine CallOK.of_awp mixed Try.func70 fc70 nle ?_
  rw [argT_eq]
  unfold laws_toAtomS at hf
  unfold c70
  refine (show awp Try.prog true 0 _ (ofL [(0, (.lst 3 (a_1.map encGAtom)))]) [] _ from ?_)
  refine awp_seq ?_
  refine w_reg ?_
  refine s_do (o_mov .nil rfl) ?_
  refine w_done ?_
  refine k_seq ?_
  refine awp_seq ?_
  refine w_reg ?_
  obtain ⟨g3, hf⟩ := og hf
  refine s_do (o_mov (.lst 3 (a_1.map encGAtom)) rfl) ?_
  refine s_dof (o_len (enc := encGAtom) rfl) fun hl2 => ?_
  refine s_do (o_mkslice (j := 0) (enc := encGAtom) (m := a_1.length) (⟨0, 0, []⟩ : GAtom) (.refl _) rfl rfl (Int.le_refl _) g3 rfl) ?_
  refine s_do (o_mov (.own 0 0 a_1.length) rfl) ?_
  refine w_done ?_
  refine k_seq ?_
  refine awp_seq ?_
  refine awp_seq ?_
  refine w_reg ?_
  refine s_do (o_mov (.int .i64 0) rfl) ?_
  refine w_done ?_
  refine k_seq ?_
  obtain ⟨out_36, hb1, hf⟩ := ob hf
  refine awp_cut ([(3, (.own 0 0 out_36.length))], [.row 3 (out_36.map encGAtom)]) ?_ ?_
  · refine awp_loop (X := {q : (Nat × (List GAtom)) // laws_toAtomS_L1 (a_1.drop q.1) q.1 q.2 = some out_36}) (fun q => ([(0, (.lst 3 (a_1.map encGAtom))), (3, (.own 0 0 q.1.2.length)), (4, (.int .i64 (q.1.1 : Int)))], [.row 3 (q.1.2.map encGAtom)])) (fun q => a_1.length - q.1.1) ⟨(0, List.replicate a_1.length (⟨0, 0, []⟩ : GAtom)), hb1⟩ ⟨[], [0], _, _, rfl, rfl, ⟨.refl _, ⟨.of_eq (congrArg (AV.own _ 0) (by simp)), ⟨.refl _, trivial⟩⟩⟩, .refl _⟩ ?_
    rintro ⟨⟨i_24, out_25⟩, hc1⟩
    have hc1 : laws_toAtomS_L1 (a_1.drop i_24) i_24 out_25 = some out_36 := hc1
    refine (show awp Try.prog true 0 _ (ofL [(0, (.lst 3 (a_1.map encGAtom))), (3, (.own 0 0 out_25.length)), (4, (.int .i64 (i_24 : Int)))]) [.row 3 (out_25.map encGAtom)] _ from ?_)
    rcases dropc a_1 i_24 with ⟨hie40, hd43⟩ | ⟨hlt38, x_44, hx39, hd43⟩
    · rw [hd43, laws_toAtomS_L1.eq_1] at hc1
      have hq42 := dlf hie40
      refine awp_seq ?_
      refine awp_seq ?_
      refine w_reg ?_
      refine s_do (o_mov (.int .i64 (i_24 : Int)) rfl) ?_
      refine s_do (o_mov (.lst 3 (a_1.map encGAtom)) rfl) ?_
      refine s_dof (o_len (enc := encGAtom) rfl) fun hl45 => ?_
      refine s_do (o_q (.bool (decide ((i_24 : Int) < (a_1.length : Int)))) rfl rfl rfl) ?_
      refine w_done ?_
      refine k_seq ?_
      refine w_condf rfl hq42 ?_
      refine w_exit ?_
      refine k_seqx ?_
      refine k_loopx ?_
      refine k_blkx ?_
      obtain rfl := os hc1
      exact ⟨[], [0], _, _, rfl, rfl, ⟨.refl _, trivial⟩, .refl _⟩
    · rw [hd43, laws_toAtomS_L1.eq_2] at hc1
      have hq42 := dlt hlt38
      refine awp_seq ?_
      refine awp_seq ?_
      refine w_reg ?_
      refine s_do (o_mov (.int .i64 (i_24 : Int)) rfl) ?_
      refine s_do (o_mov (.lst 3 (a_1.map encGAtom)) rfl) ?_
      refine s_dof (o_len (enc := encGAtom) rfl) fun hl46 => ?_
      refine s_do (o_q (.bool (decide ((i_24 : Int) < (a_1.length : Int)))) rfl rfl rfl) ?_
      refine w_done ?_
      refine k_seq ?_
      refine w_condt rfl hq42 ?_
      refine w_skip ?_
      refine k_seq ?_
      refine awp_seq ?_
      refine w_blk ?_
      refine w_reg ?_
      obtain ⟨r_47, er48, hc1⟩ := ob hc1
      obtain ⟨g49, hc1⟩ := og hc1
      obtain ⟨x_50, ex51, hc1⟩ := ob hc1
      refine s_do (o_mov (.own 0 0 out_25.length) rfl) ?_
      refine s_do (o_mov (.int .i64 (i_24 : Int)) rfl) ?_
      refine s_do (o_mov (.lst 3 (a_1.map encGAtom)) rfl) ?_
      refine s_do (o_mov (.int .i64 (i_24 : Int)) rfl) ?_
      refine s_do (o_iaddrn (enc := encGAtom) rfl rfl hx39) ?_
      refine s_do (o_q (encGAtom x_44) rfl nle rfl) ?_
      refine s_do (o_call (w_laws_toAtom _ _ er48) rfl (.refl _) rfl) ?_
      refine s_do (o_iaddrownn rfl rfl g49 rfl rfl) ?_
      refine s_do0 (o_storerow (v' := (encGAtom r_47)) (e' := r_47) rfl rfl ex51 rfl rfl rfl (by decide) (fun _ => by decide) ⟨rfl, nle⟩ (.refl _) rfl) ?_
      refine w_done ?_
      refine k_blk ?_
      refine k_seq ?_
      refine w_reg ?_
      refine s_do (o_mov (.int .i64 (i_24 : Int)) rfl) ?_
      refine s_do (o_q (.int .i64 (w64 ((i_24 : Int) + 1))) rfl rfl rfl) ?_
      refine s_do (o_mov (.int .i64 (w64 ((i_24 : Int) + 1))) rfl) ?_
      refine w_done ?_
      exact k_loopn ⟨((i_24 + 1), out_25.set i_24 r_47), hc1⟩ (mul hlt38) ⟨[], [0], _, _, rfl, rfl, ⟨.refl _, ⟨.of_eq (congrArg (AV.own _ 0) (by simp)), ⟨.of_eq (congrArg (AV.int _) (w64_incr hlt38 hl46)), trivial⟩⟩⟩, .refl _⟩
  · refine awp_seq ?_
    refine w_reg ?_
    refine s_do (o_mov (.own 0 0 out_36.length) rfl) ?_
    refine s_do (o_mov (.own 0 0 out_36.length) rfl) ?_
    refine w_done ?_
    refine k_seq ?_
    refine w_ret ?_
    obtain rfl := os hf
    exact r_fresh ⟨trivial, trivial⟩ rfl (by decide) (.of_eq (congrArg (AV.lst _) (tk (enc := encGAtom) out_36)))

/- laws.toAtomSS -/
def c156 : ACode :=
 (.seq (.reg (.q ⟨(some 2), none, .mov (.c .nil)⟩
 .done))
 (.seq (.reg (.q ⟨(some 5), none, .mov (.t 0)⟩
 (.q ⟨(some 6), none, .len (.t 5)⟩
 (.q ⟨(some 7), none, .mkslice 1 24 .nil (.t 6) (.t 6)⟩
 (.q ⟨(some 3), none, .mov (.t 7)⟩
 .done)))))
 (.seq (.seq (.reg (.q ⟨(some 4), none, .mov (.c (.int .i64 0))⟩
 .done))
 (.block 0 (.loop (.seq (.seq (.reg (.q ⟨(some 8), none, .mov (.t 4)⟩
 (.q ⟨(some 9), none, .mov (.t 0)⟩
 (.q ⟨(some 10), none, .len (.t 9)⟩
 (.q ⟨(some 11), none, .bin .lss (.t 8) (.t 10)⟩
 .done)))))
 (.cond (.t 11) .skip
 (.exit 0)))
 (.seq (.block 1 (.reg (.q ⟨(some 14), none, .mov (.t 3)⟩
 (.q ⟨(some 15), none, .mov (.t 4)⟩
 (.q ⟨(some 16), none, .mov (.t 0)⟩
 (.q ⟨(some 17), none, .mov (.t 4)⟩
 (.q ⟨(some 18), none, .iaddr 1 (.t 16) (.t 17)⟩
 (.q ⟨(some 19), none, .load 1 false (.t 18)⟩
 (.q ⟨(some 20), none, .call 70 [(.t 19)]⟩
 (.q ⟨(some 21), none, .iaddr 1 (.t 14) (.t 15)⟩
 (.q ⟨none, none, .store 1 (.t 21) (.t 20)⟩
 .done)))))))))))
 (.reg (.q ⟨(some 12), none, .mov (.t 4)⟩
 (.q ⟨(some 13), none, .bin .add (.t 12) (.c (.int .i64 1))⟩
 (.q ⟨(some 4), none, .mov (.t 13)⟩
 .done)))))))))
 (.cut (.seq (.reg (.q ⟨(some 22), none, .mov (.t 3)⟩
 (.q ⟨(some 2), none, .mov (.t 22)⟩
 .done)))
 .ret)))))
theorem fc156 : fcomp Try.prog Try.f156 = some (c156.erase, [.mov (.t 2)], 23) := by kernel_rfl
def laws_toAtomSS_L1  : List (List GAtom) → Nat → (List (List GAtom)) → Option (List (List GAtom))
  | [], i_24, out_25 =>
    some out_25
  | x_44 :: xs, i_24, out_25 =>
    (laws_toAtomS x_44).bind fun r_47 =>
    if i_24 < out_25.length then
    (out_25[i_24]?).bind fun x_50 =>
    laws_toAtomSS_L1 xs (i_24 + 1) (out_25.set i_24 r_47)
    else none

def laws_toAtomSS (a_1 : (List (List GAtom))) : Option (List (List GAtom)) :=
    if (a_1.length : Int) ≤ 2 ^ 30 then
    (laws_toAtomSS_L1 a_1 0 (List.replicate a_1.length [])).bind fun out_36 =>
    some out_36
    else none
theorem w_laws_toAtomSS (a_1 : (List (List GAtom))) (r : (List (List GAtom))) (hf : laws_toAtomSS a_1 = some r) : CallOK Try.prog 156 .fresh [(.lst 1 (a_1.map (encL 3 encGAtom)))] (.lst 1 (r.map (encL 3 encGAtom))) := by
  refine CallOK.of_awp mixed Try.func156 fc156 nle ?_
  rw [argT_eq]
  unfold laws_toAtomSS at hf
  unfold c156
  refine (show awp Try.prog true 0 _ (ofL [(0, (.lst 1 (a_1.map (encL 3 encGAtom))))]) [] _ from ?_)
  refine awp_seq ?_
  refine w_reg ?_
  refine s_do (o_mov .nil rfl) ?_
  refine w_done ?_
  refine k_seq ?_
  refine awp_seq ?_
  refine w_reg ?_
  obtain ⟨g3, hf⟩ := og hf
  refine s_do (o_mov (.lst 1 (a_1.map (encL 3 encGAtom))) rfl) ?_
  refine s_dof (o_len (enc := (encL 3 encGAtom)) rfl) fun hl2 => ?_
  refine s_do (o_mkslice (j := 0) (enc := (encL 3 encGAtom)) (m := a_1.length) [] (.nil _) rfl rfl (Int.le_refl _) g3 rfl) ?_
  refine s_do (o_mov (.own 0 0 a_1.length) rfl) ?_
  refine w_done ?_
  refine k_seq ?_
  refine awp_seq ?_
  refine awp_seq ?_
  refine w_reg ?_
  refine s_do (o_mov (.int .i64 0) rfl) ?_
  refine w_done ?_
  refine k_seq ?_
  obtain ⟨out_36, hb1, hf⟩ := ob hf
  refine awp_cut ([(3, (.own 0 0 out_36.length))], [.row 1 (out_36.map (encL 3 encGAtom))]) ?_ ?_
  · refine awp_loop (X := {q : (Nat × (List (List GAtom))) // laws_toAtomSS_L1 (a_1.drop q.1) q.1 q.2 = some out_36}) (fun q => ([(0, (.lst 1 (a_1.map (encL 3 encGAtom)))), (3, (.own 0 0 q.1.2.length)), (4, (.int .i64 (q.1.1 : Int)))], [.row 1 (q.1.2.map (encL 3 encGAtom))])) (fun q => a_1.length - q.1.1) ⟨(0, List.replicate a_1.length []), hb1⟩ ⟨[], [0], _, _, rfl, rfl, ⟨.refl _, ⟨.of_eq (congrArg (AV.own _ 0) (by simp)), ⟨.refl _, trivial⟩⟩⟩, .refl _⟩ ?_
    rintro ⟨⟨i_24, out_25⟩, hc1⟩
    have hc1 : laws_toAtomSS_L1 (a_1.drop i_24) i_24 out_25 = some out_36 := hc1
    refine (show awp Try.prog true 0 _ (ofL [(0, (.lst 1 (a_1.map (encL 3 encGAtom)))), (3, (.own 0 0 out_25.length)), (4, (.int .i64 (i_24 : Int)))]) [.row 1 (out_25.map (encL 3 encGAtom))] _ from ?_)
    rcases dropc a_1 i_24 with ⟨hie40, hd43⟩ | ⟨hlt38, x_44, hx39, hd43⟩
    · rw [hd43, laws_toAtomSS_L1.eq_1] at hc1
      have hq42 := dlf hie40
      refine awp_seq ?_
      refine awp_seq ?_
      refine w_reg ?_
      refine s_do (o_mov (.int .i64 (i_24 : Int)) rfl) ?_
      refine s_do (o_mov (.lst 1 (a_1.map (encL 3 encGAtom))) rfl) ?_
      refine s_dof (o_len (enc := (encL 3 encGAtom)) rfl) fun hl45 => ?_
      refine s_do (o_q (.bool (decide ((i_24 : Int) < (a_1.length : Int)))) rfl rfl rfl) ?_
      refine w_done ?_
      refine k_seq ?_
      refine w_condf rfl hq42 ?_
      refine w_exit ?_
      refine k_seqx ?_
      refine k_loopx ?_
      refine k_blkx ?_
      obtain rfl := os hc1
      exact ⟨[], [0], _, _, rfl, rfl, ⟨.refl _, trivial⟩, .refl _⟩
    · rw [hd43, laws_toAtomSS_L1.eq_2] at hc1
      have hq42 := dlt hlt38
      refine awp_seq ?_
      refine awp_seq ?_
      refine w_reg ?_
      refine s_do (o_mov (.int .i64 (i_24 : Int)) rfl) ?_
      refine s_do (o_mov (.lst 1 (a_1.map (encL 3 encGAtom))) rfl) ?_
      refine s_dof (o_len (enc := (encL 3 encGAtom)) rfl) fun hl46 => ?_
      refine s_do (o_q (.bool (decide ((i_24 : Int) < (a_1.length : Int)))) rfl rfl rfl) ?_
      refine w_done ?_
      refine k_seq ?_
      refine w_condt rfl hq42 ?_
      refine w_skip ?_
      refine k_seq ?_
      refine awp_seq ?_
      refine w_blk ?_
      refine w_reg ?_
      obtain ⟨r_47, er48, hc1⟩ := ob hc1
      obtain ⟨g49, hc1⟩ := og hc1
      obtain ⟨x_50, ex51, hc1⟩ := ob hc1
      refine s_do (o_mov (.own 0 0 out_25.length) rfl) ?_
      refine s_do (o_mov (.int .i64 (i_24 : Int)) rfl) ?_
      refine s_do (o_mov (.lst 1 (a_1.map (encL 3 encGAtom))) rfl) ?_
      refine s_do (o_mov (.int .i64 (i_24 : Int)) rfl) ?_
      refine s_do (o_iaddrn (enc := (encL 3 encGAtom)) rfl rfl hx39) ?_
      refine s_do (o_q (.lst 3 (x_44.map encGAtom)) rfl ⟨rfl, rfl⟩ rfl) ?_
      refine s_do (o_callf (v := (.own 1 0 r_47.length)) (h' := [.row 3 (r_47.map encGAtom)]) (w_laws_toAtomS _ _ er48) rfl (.refl _) (by simp only [openV, openVs, List.length_map, List.nil_append, List.append_nil, List.cons_append]; rfl)) ?_
      refine s_do (o_iaddrownn rfl rfl g49 rfl rfl) ?_
      refine s_do0 (o_storerow (v' := (.lst 3 (r_47.map encGAtom))) (e' := r_47) rfl rfl ex51 rfl rfl (by simp only [tk, tko, List.take_length]) (by decide) (fun _ => by decide) ⟨rfl, rfl, rfl⟩ (.refl _) rfl) ?_
      refine w_done ?_
      refine k_blk ?_
      refine k_seq ?_
      refine w_reg ?_
      refine s_do (o_mov (.int .i64 (i_24 : Int)) rfl) ?_
      refine s_do (o_q (.int .i64 (w64 ((i_24 : Int) + 1))) rfl rfl rfl) ?_
      refine s_do (o_mov (.int .i64 (w64 ((i_24 : Int) + 1))) rfl) ?_
      refine w_done ?_
      exact k_loopn ⟨((i_24 + 1), out_25.set i_24 r_47), hc1⟩ (mul hlt38) ⟨[], [0], _, _, rfl, rfl, ⟨.refl _, ⟨.of_eq (congrArg (AV.own _ 0) (by simp)), ⟨.of_eq (congrArg (AV.int _) (w64_incr hlt38 hl46)), trivial⟩⟩⟩, .refl _⟩
  · refine awp_seq ?_
    refine w_reg ?_
    refine s_do (o_mov (.own 0 0 out_36.length) rfl) ?_
    refine s_do (o_mov (.own 0 0 out_36.length) rfl) ?_
    refine w_done ?_
    refine k_seq ?_
    refine w_ret ?_
    obtain rfl := os hf
    exact r_fresh ⟨trivial, trivial⟩ rfl (by decide) (.of_eq (congrArg (AV.lst _) (tk (enc := (encL 3 encGAtom)) out_36)))

/- laws.toRow -/
def c92 : ACode :=
 (.seq (.reg (.q ⟨(some 1), none, .box 2 (.t 0)⟩
 (.q ⟨(some 2), none, .box 2 (.c (.agg [(.int .i64 0), .nil]))⟩
 .done)))
 (.seq (.reg (.q ⟨(some 3), none, .box 2 (.c (.agg [(.int .i64 0), .nil]))⟩
 .done))
 (.seq (.reg (.q ⟨(some 4), none, .faddr 0 (.t 1)⟩
 (.q ⟨(some 5), none, .load 1 false (.t 4)⟩
 (.q ⟨(some 6), none, .faddr 0 (.t 3)⟩
 (.q ⟨none, none, .store 1 (.t 6) (.t 5)⟩
 .done)))))
 (.seq (.reg (.q ⟨(some 7), none, .faddr 1 (.t 1)⟩
 (.q ⟨(some 8), none, .load 1 false (.t 7)⟩
 (.q ⟨(some 9), none, .call 156 [(.t 8)]⟩
 (.q ⟨(some 10), none, .faddr 1 (.t 3)⟩
 (.q ⟨none, none, .store 1 (.t 10) (.t 9)⟩
 .done))))))
 (.seq (.reg (.q ⟨(some 11), none, .load 2 true (.t 3)⟩
 (.q ⟨none, none, .store 2 (.t 2) (.t 11)⟩
 .done)))
 .ret)))))
theorem fc92 : fcomp Try.prog Try.f92 = some (c92.erase, [.load 2 true (.t 2)], 12) := by kernel_rfl
def laws_toRow (a_1 : GRow) : Option GRow :=
    (laws_toAtomSS a_1.Cells).bind fun r_2 =>
    some (⟨a_1.Id, r_2⟩ : GRow)
theorem w_laws_toRow (a_1 : GRow) (r : GRow) (hf : laws_toRow a_1 = some r) : CallOK Try.prog 92 .fresh [(encGRow a_1)] (encGRow r) := by
  refine CallOK.of_awp mixed Try.func92 fc92 nle ?_
  rw [argT_eq]
  unfold laws_toRow at hf
  unfold c92
  refine (show awp Try.prog true 0 _ (ofL [(0, (encGRow a_1))]) [] _ from ?_)
  refine awp_seq ?_
  refine w_reg ?_
  refine s_do (o_box (j := 0) (c := (.agg [(.int .i64 a_1.Id), (.lst 1 (a_1.Cells.map (encL 3 encGAtom)))])) rfl trivial rfl rfl) ?_
  refine s_do (o_box (j := 1) (c := (.agg [(.int .i64 0), .nil])) rfl trivial rfl rfl) ?_
  refine w_done ?_
  refine k_seq ?_
  refine awp_seq ?_
  refine w_reg ?_
  refine s_do (o_box (j := 2) (c := (.agg [(.int .i64 0), .nil])) rfl trivial rfl rfl) ?_
  refine w_done ?_
  refine k_seq ?_
  refine awp_seq ?_
  refine w_reg ?_
  refine s_do (o_q (.ptr 0 0 0) rfl trivial rfl) ?_
  refine s_do (o_q (.int .i64 a_1.Id) rfl nle rfl) ?_
  refine s_do (o_q (.ptr 2 0 0) rfl trivial rfl) ?_
  refine s_do0 (o_storebox (v := (.int .i64 a_1.Id)) (y' := (.agg [(.int .i64 a_1.Id), .nil])) rfl rfl rfl trivial ⟨rfl, nle⟩ ⟨⟨rfl, trivial⟩, trivial⟩ rfl) ?_
  refine w_done ?_
  refine k_seq ?_
  refine awp_seq ?_
  refine w_reg ?_
  obtain ⟨r_2, er3, hf⟩ := ob hf
  refine s_do (o_q (.ptr 0 0 1) rfl trivial rfl) ?_
  refine s_do (o_q (.lst 1 (a_1.Cells.map (encL 3 encGAtom))) rfl nle rfl) ?_
  refine s_do (o_callf (v := (.own 3 0 r_2.length)) (h' := [.row 1 (r_2.map (encL 3 encGAtom))]) (w_laws_toAtomSS _ _ er3) rfl (.refl _) (by simp only [openV, openVs, List.length_map, List.nil_append, List.append_nil, List.cons_append]; rfl)) ?_
  refine s_do (o_q (.ptr 2 0 1) rfl trivial rfl) ?_
  refine s_do0 (o_storebox (v := (.own 3 0 r_2.length)) (y' := (.agg [(.int .i64 a_1.Id), (.own 3 0 r_2.length)])) rfl rfl rfl trivial ⟨rfl, nle⟩ ⟨⟨rfl, trivial⟩, trivial⟩ rfl) ?_
  refine w_done ?_
  refine k_seq ?_
  refine awp_seq ?_
  refine w_reg ?_
  refine s_do (o_q (.agg [(.int .i64 a_1.Id), (.own 3 0 r_2.length)]) rfl nle rfl) ?_
  refine s_do0 (o_storebox (v := (.agg [(.int .i64 a_1.Id), (.own 3 0 r_2.length)])) (y' := (.agg [(.int .i64 a_1.Id), (.own 3 0 r_2.length)])) rfl rfl rfl trivial ⟨rfl, nle⟩ ⟨⟨rfl, trivial⟩, ⟨⟨rfl, trivial⟩, trivial⟩⟩ rfl) ?_
  refine w_done ?_
  refine k_seq ?_
  refine w_ret ?_
  obtain rfl := os hf
  exact r_fresh ⟨nle, trivial⟩ rfl (by decide) (.agg (.cons (.refl _) (.cons (.of_eq (congrArg (AV.lst _) (tk (enc := (encL 3 encGAtom)) r_2))) .nil)))

/- laws.toChange -/
def c22 : ACode :=
 (.seq (.reg (.q ⟨(some 1), none, .box 6 (.t 0)⟩
 (.q ⟨(some 2), none, .box 6 (.c (.agg [(.int .i64 0), (.int .i64 0), (.int .i64 0), .nil, (.int .i64 0), .nil]))⟩
 .done)))
 (.seq (.reg (.q ⟨(some 3), none, .box 6 (.c (.agg [(.int .i64 0), (.int .i64 0), (.int .i64 0), .nil, (.int .i64 0), .nil]))⟩
 .done))
 (.seq (.reg (.q ⟨(some 4), none, .faddr 0 (.t 1)⟩
 (.q ⟨(some 5), none, .load 1 false (.t 4)⟩
 (.q ⟨(some 6), none, .faddr 0 (.t 3)⟩
 (.q ⟨none, none, .store 1 (.t 6) (.t 5)⟩
 .done)))))
 (.seq (.reg (.q ⟨(some 7), none, .faddr 1 (.t 1)⟩
 (.q ⟨(some 8), none, .load 1 false (.t 7)⟩
 (.q ⟨(some 9), none, .faddr 1 (.t 3)⟩
 (.q ⟨none, none, .store 1 (.t 9) (.t 8)⟩
 .done)))))
 (.seq (.reg (.q ⟨(some 10), none, .faddr 2 (.t 1)⟩
 (.q ⟨(some 11), none, .load 2 true (.t 10)⟩
 (.q ⟨(some 12), none, .call 92 [(.t 11)]⟩
 (.q ⟨(some 13), none, .faddr 2 (.t 3)⟩
 (.q ⟨none, none, .store 2 (.t 13) (.t 12)⟩
 .done))))))
 (.seq (.reg (.q ⟨(some 14), none, .faddr 4 (.t 1)⟩
 (.q ⟨(some 15), none, .load 2 true (.t 14)⟩
 (.q ⟨(some 16), none, .call 92 [(.t 15)]⟩
 (.q ⟨(some 17), none, .faddr 4 (.t 3)⟩
 (.q ⟨none, none, .store 2 (.t 17) (.t 16)⟩
 .done))))))
 (.seq (.reg (.q ⟨(some 18), none, .load 6 true (.t 3)⟩
 (.q ⟨none, none, .store 6 (.t 2) (.t 18)⟩
 .done)))
 .ret)))))))
theorem fc22 : fcomp Try.prog Try.f22 = some (c22.erase, [.load 6 true (.t 2)], 19) := by kernel_rfl
def laws_toChange (a_1 : GChange) : Option GChange :=
    (laws_toRow a_1.Old).bind fun r_2 =>
    (laws_toRow a_1.New).bind fun r_4 =>
    some (⟨a_1.Table, a_1.Id, r_2, r_4⟩ : GChange)
theorem w_laws_toChange (a_1 : GChange) (r : GChange) (hf : laws_toChange a_1 = some r) : CallOK Try.prog 22 .fresh [(encGChange a_1)] (encGChange r) := by
  refine CallOK.of_awp mixed Try.func22 fc22 nle ?_
  rw [argT_eq]
  unfold laws_toChange at hf
  unfold c22
  refine (show awp Try.prog true 0 _ (ofL [(0, (encGChange a_1))]) [] _ from ?_)
  refine awp_seq ?_
  refine w_reg ?_
  refine s_do (o_box (j := 0) (c := (.agg [(.int .i64 a_1.Table), (.int .i64 a_1.Id), (.int .i64 a_1.Old.Id), (.lst 1 (a_1.Old.Cells.map (encL 3 encGAtom))), (.int .i64 a_1.New.Id), (.lst 1 (a_1.New.Cells.map (encL 3 encGAtom)))])) rfl trivial rfl rfl) ?_
  refine s_do (o_box (j := 1) (c := (.agg [(.int .i64 0), (.int .i64 0), (.int .i64 0), .nil, (.int .i64 0), .nil])) rfl trivial rfl rfl) ?_
  refine w_done ?_
  refine k_seq ?_
  refine awp_seq ?_
  refine w_reg ?_
  refine s_do (o_box (j := 2) (c := (.agg [(.int .i64 0), (.int .i64 0), (.int .i64 0), .nil, (.int .i64 0), .nil])) rfl trivial rfl rfl) ?_
  refine w_done ?_
  refine k_seq ?_
  refine awp_seq ?_
  refine w_reg ?_
  refine s_do (o_q (.ptr 0 0 0) rfl trivial rfl) ?_
  refine s_do (o_q (.int .i64 a_1.Table) rfl nle rfl) ?_
  refine s_do (o_q (.ptr 2 0 0) rfl trivial rfl) ?_
  refine s_do0 (o_storebox (v := (.int .i64 a_1.Table)) (y' := (.agg [(.int .i64 a_1.Table), (.int .i64 0), (.int .i64 0), .nil, (.int .i64 0), .nil])) rfl rfl rfl trivial ⟨rfl, nle⟩ ⟨⟨rfl, trivial⟩, trivial⟩ rfl) ?_
  refine w_done ?_
  refine k_seq ?_
  refine awp_seq ?_
  refine w_reg ?_
  refine s_do (o_q (.ptr 0 0 1) rfl trivial rfl) ?_
  refine s_do (o_q (.int .i64 a_1.Id) rfl nle rfl) ?_
  refine s_do (o_q (.ptr 2 0 1) rfl trivial rfl) ?_
  refine s_do0 (o_storebox (v := (.int .i64 a_1.Id)) (y' := (.agg [(.int .i64 a_1.Table), (.int .i64 a_1.Id), (.int .i64 0), .nil, (.int .i64 0), .nil])) rfl rfl rfl trivial ⟨rfl, nle⟩ ⟨⟨rfl, trivial⟩, trivial⟩ rfl) ?_
  refine w_done ?_
  refine k_seq ?_
  refine awp_seq ?_
  refine w_reg ?_
  obtain ⟨r_2, er3, hf⟩ := ob hf
  refine s_do (o_q (.ptr 0 0 2) rfl trivial rfl) ?_
  refine s_do (o_q (.agg [(.int .i64 a_1.Old.Id), (.lst 1 (a_1.Old.Cells.map (encL 3 encGAtom)))]) rfl nle rfl) ?_
  refine s_do (o_callf (v := (.agg [(.int .i64 r_2.Id), (.own 3 0 r_2.Cells.length)])) (h' := [.row 1 (r_2.Cells.map (encL 3 encGAtom))]) (w_laws_toRow _ _ er3) rfl (.refl _) (by simp only [openV, openVs, List.length_map, encGRow_eq, List.nil_append, List.append_nil, List.cons_append]; rfl)) ?_
  refine s_do (o_q (.ptr 2 0 2) rfl trivial rfl) ?_
  refine s_do0 (o_storebox (v := (.agg [(.int .i64 r_2.Id), (.own 3 0 r_2.Cells.length)])) (y' := (.agg [(.int .i64 a_1.Table), (.int .i64 a_1.Id), (.int .i64 r_2.Id), (.own 3 0 r_2.Cells.length), (.int .i64 0), .nil])) rfl rfl rfl trivial ⟨rfl, nle⟩ ⟨⟨rfl, trivial⟩, ⟨⟨rfl, trivial⟩, trivial⟩⟩ rfl) ?_
  refine w_done ?_
  refine k_seq ?_
  refine awp_seq ?_
  refine w_reg ?_
  obtain ⟨r_4, er5, hf⟩ := ob hf
  refine s_do (o_q (.ptr 0 0 4) rfl trivial rfl) ?_
  refine s_do (o_q (.agg [(.int .i64 a_1.New.Id), (.lst 1 (a_1.New.Cells.map (encL 3 encGAtom)))]) rfl nle rfl) ?_
  refine s_do (o_callf (v := (.agg [(.int .i64 r_4.Id), (.own 4 0 r_4.Cells.length)])) (h' := [.row 1 (r_4.Cells.map (encL 3 encGAtom))]) (w_laws_toRow _ _ er5) rfl (.refl _) (by simp only [openV, openVs, List.length_map, encGRow_eq, List.nil_append, List.append_nil, List.cons_append]; rfl)) ?_
  refine s_do (o_q (.ptr 2 0 4) rfl trivial rfl) ?_
  refine s_do0 (o_storebox (v := (.agg [(.int .i64 r_4.Id), (.own 4 0 r_4.Cells.length)])) (y' := (.agg [(.int .i64 a_1.Table), (.int .i64 a_1.Id), (.int .i64 r_2.Id), (.own 3 0 r_2.Cells.length), (.int .i64 r_4.Id), (.own 4 0 r_4.Cells.length)])) rfl rfl rfl trivial ⟨rfl, nle⟩ ⟨⟨rfl, trivial⟩, ⟨⟨rfl, trivial⟩, trivial⟩⟩ rfl) ?_
  refine w_done ?_
  refine k_seq ?_
  refine awp_seq ?_
  refine w_reg ?_
  refine s_do (o_q (.agg [(.int .i64 a_1.Table), (.int .i64 a_1.Id), (.int .i64 r_2.Id), (.own 3 0 r_2.Cells.length), (.int .i64 r_4.Id), (.own 4 0 r_4.Cells.length)]) rfl nle rfl) ?_
  refine s_do0 (o_storebox (v := (.agg [(.int .i64 a_1.Table), (.int .i64 a_1.Id), (.int .i64 r_2.Id), (.own 3 0 r_2.Cells.length), (.int .i64 r_4.Id), (.own 4 0 r_4.Cells.length)])) (y' := (.agg [(.int .i64 a_1.Table), (.int .i64 a_1.Id), (.int .i64 r_2.Id), (.own 3 0 r_2.Cells.length), (.int .i64 r_4.Id), (.own 4 0 r_4.Cells.length)])) rfl rfl rfl trivial ⟨rfl, nle⟩ ⟨⟨rfl, trivial⟩, ⟨⟨rfl, trivial⟩, ⟨⟨rfl, trivial⟩, ⟨⟨rfl, trivial⟩, ⟨⟨rfl, trivial⟩, ⟨⟨rfl, trivial⟩, trivial⟩⟩⟩⟩⟩⟩ rfl) ?_
  refine w_done ?_
  refine k_seq ?_
  refine w_ret ?_
  obtain rfl := os hf
  exact r_fresh ⟨nle, trivial⟩ rfl (by decide) (.agg (.cons (.refl _) (.cons (.refl _) (.cons (.refl _) (.cons (.of_eq (congrArg (AV.lst _) (tk (enc := (encL 3 encGAtom)) r_2.Cells))) (.cons (.refl _) (.cons (.of_eq (congrArg (AV.lst _) (tk (enc := (encL 3 encGAtom)) r_4.Cells))) .nil)))))))

/- spec.l10Kind -/
def c91 : ACode :=
 (.seq (.reg (.q ⟨(some 1), none, .box 6 (.t 0)⟩
 (.q ⟨(some 2), none, .mov (.c (.int .i64 0))⟩
 .done)))
 (.seq (.block 0 (.seq (.reg (.q ⟨(some 4), none, .faddr 2 (.t 1)⟩
 (.q ⟨(some 5), none, .faddr 0 (.t 4)⟩
 (.q ⟨(some 6), none, .load 1 false (.t 5)⟩
 (.q ⟨(some 7), none, .bin .eql (.t 6) (.c (.int .i64 0))⟩
 (.q ⟨(some 8), none, .mov (.t 7)⟩
 (.q ⟨(some 9), (some (8, true)), .faddr 4 (.t 1)⟩
 (.q ⟨(some 10), (some (8, true)), .faddr 0 (.t 9)⟩
 (.q ⟨(some 11), (some (8, true)), .load 1 false (.t 10)⟩
 (.q ⟨(some 12), (some (8, true)), .faddr 1 (.t 1)⟩
 (.q ⟨(some 13), (some (8, true)), .load 1 false (.t 12)⟩
 (.q ⟨(some 14), (some (8, true)), .bin .eql (.t 11) (.t 13)⟩
 (.q ⟨(some 15), none, .pick (.t 8) (.t 14) (.c (.bool false))⟩
 (.q ⟨(some 3), none, .mov (.t 15)⟩
 .done))))))))))))))
 (.cut (.cond (.t 3) (.seq (.reg (.q ⟨(some 2), none, .mov (.c (.int .i64 1))⟩
 .done))
 .ret)
 (.seq (.reg (.q ⟨(some 17), none, .faddr 4 (.t 1)⟩
 (.q ⟨(some 18), none, .faddr 0 (.t 17)⟩
 (.q ⟨(some 19), none, .load 1 false (.t 18)⟩
 (.q ⟨(some 20), none, .bin .eql (.t 19) (.c (.int .i64 0))⟩
 (.q ⟨(some 21), none, .mov (.t 20)⟩
 (.q ⟨(some 22), (some (21, true)), .faddr 2 (.t 1)⟩
 (.q ⟨(some 23), (some (21, true)), .faddr 0 (.t 22)⟩
 (.q ⟨(some 24), (some (21, true)), .load 1 false (.t 23)⟩
 (.q ⟨(some 25), (some (21, true)), .faddr 1 (.t 1)⟩
 (.q ⟨(some 26), (some (21, true)), .load 1 false (.t 25)⟩
 (.q ⟨(some 27), (some (21, true)), .bin .eql (.t 24) (.t 26)⟩
 (.q ⟨(some 28), none, .pick (.t 21) (.t 27) (.c (.bool false))⟩
 (.q ⟨(some 16), none, .mov (.t 28)⟩
 .done))))))))))))))
 (.cut (.cond (.t 16) (.seq (.reg (.q ⟨(some 2), none, .mov (.c (.int .i64 2))⟩
 .done))
 .ret)
 (.seq (.reg (.q ⟨(some 30), none, .faddr 2 (.t 1)⟩
 (.q ⟨(some 31), none, .faddr 0 (.t 30)⟩
 (.q ⟨(some 32), none, .load 1 false (.t 31)⟩
 (.q ⟨(some 33), none, .faddr 1 (.t 1)⟩
 (.q ⟨(some 34), none, .load 1 false (.t 33)⟩
 (.q ⟨(some 35), none, .bin .eql (.t 32) (.t 34)⟩
 (.q ⟨(some 36), none, .mov (.t 35)⟩
 (.q ⟨(some 37), (some (36, true)), .faddr 4 (.t 1)⟩
 (.q ⟨(some 38), (some (36, true)), .faddr 0 (.t 37)⟩
 (.q ⟨(some 39), (some (36, true)), .load 1 false (.t 38)⟩
 (.q ⟨(some 40), (some (36, true)), .faddr 1 (.t 1)⟩
 (.q ⟨(some 41), (some (36, true)), .load 1 false (.t 40)⟩
 (.q ⟨(some 42), (some (36, true)), .bin .eql (.t 39) (.t 41)⟩
 (.q ⟨(some 43), none, .pick (.t 36) (.t 42) (.c (.bool false))⟩
 (.q ⟨(some 29), none, .mov (.t 43)⟩
 .done))))))))))))))))
 (.cut (.cond (.t 29) (.seq (.reg (.q ⟨(some 2), none, .mov (.c (.int .i64 3))⟩
 .done))
 .ret)
 .skip))))))))))
 (.seq (.reg (.q ⟨(some 2), none, .mov (.c (.int .i64 0))⟩
 .done))
 .ret)))
theorem fc91 : fcomp Try.prog Try.f91 = some (c91.erase, [.mov (.t 2)], 44) := by kernel_rfl
def spec_l10Kind (c_1 : GChange) : Option Int :=
    (if (c_1.Old.Id == 0) then
    some (c_1.New.Id == c_1.Id)
    else
    some false).bind fun s3_3 =>
    if s3_3 then
    some 1
    else
    (if (c_1.New.Id == 0) then
    some (c_1.Old.Id == c_1.Id)
    else
    some false).bind fun s16_8 =>
    if s16_8 then
    some 2
    else
    (if (c_1.Old.Id == c_1.Id) then
    some (c_1.New.Id == c_1.Id)
    else
    some false).bind fun s29_13 =>
    if s29_13 then
    some 3
    else
    some 0
theorem w_spec_l10Kind (c_1 : GChange) (r : Int) (hf : spec_l10Kind c_1 = some r) : CallOK Try.prog 91 .flat [(encGChange c_1)] (.int .i64 r) := by
  refine CallOK.of_awp mixed Try.func91 fc91 nle ?_
  rw [argT_eq]
  unfold spec_l10Kind at hf
  unfold c91
  refine (show awp Try.prog false 0 _ (ofL [(0, (encGChange c_1))]) [] _ from ?_)
  refine awp_seq ?_
  refine w_reg ?_
  refine s_do (o_box (j := 0) (c := (.agg [(.int .i64 c_1.Table), (.int .i64 c_1.Id), (.int .i64 c_1.Old.Id), (.lst 1 (c_1.Old.Cells.map (encL 3 encGAtom))), (.int .i64 c_1.New.Id), (.lst 1 (c_1.New.Cells.map (encL 3 encGAtom)))])) rfl trivial rfl rfl) ?_
  refine s_do (o_mov (.int .i64 0) rfl) ?_
  refine w_done ?_
  refine k_seq ?_
  refine awp_seq ?_
  refine w_blk ?_
  refine awp_seq ?_
  obtain ⟨s3_3, hb1, hf⟩ := ob hf
  refine awp_cut ([(1, (.ptr 0 0 0)), (3, (.bool s3_3))], [.box 6 (.agg [(.int .i64 c_1.Table), (.int .i64 c_1.Id), (.int .i64 c_1.Old.Id), (.lst 1 (c_1.Old.Cells.map (encL 3 encGAtom))), (.int .i64 c_1.New.Id), (.lst 1 (c_1.New.Cells.map (encL 3 encGAtom)))])]) ?_ ?_
  · refine w_reg ?_
    rcases oi hb1 with ⟨c5, hb1⟩ | ⟨c5, hb1⟩
    · refine s_do (o_q (.ptr 0 0 2) rfl trivial rfl) ?_
      refine s_do (o_q (.ptr 0 0 2) rfl trivial rfl) ?_
      refine s_do (o_q (.int .i64 c_1.Old.Id) rfl nle rfl) ?_
      refine s_do (o_q (.bool (c_1.Old.Id == 0)) rfl rfl rfl) ?_
      refine s_do (o_mov (.bool (c_1.Old.Id == 0)) rfl) ?_
      refine s_lit (s := 8) (b := true) rfl c5 ?_
      refine s_on rfl ?_
      refine s_do (o_q (.ptr 0 0 4) rfl trivial rfl) ?_
      refine s_on rfl ?_
      refine s_do (o_q (.ptr 0 0 4) rfl trivial rfl) ?_
      refine s_on rfl ?_
      refine s_do (o_q (.int .i64 c_1.New.Id) rfl nle rfl) ?_
      refine s_on rfl ?_
      refine s_do (o_q (.ptr 0 0 1) rfl trivial rfl) ?_
      refine s_on rfl ?_
      refine s_do (o_q (.int .i64 c_1.Id) rfl nle rfl) ?_
      refine s_on rfl ?_
      refine s_do (o_q (.bool (c_1.New.Id == c_1.Id)) rfl rfl rfl) ?_
      refine s_do (o_q (.bool (c_1.New.Id == c_1.Id)) rfl trivial rfl) ?_
      refine s_do (o_mov (.bool (c_1.New.Id == c_1.Id)) rfl) ?_
      refine w_done ?_
      obtain rfl := os hb1
      exact ⟨[], [0], _, _, rfl, rfl, ⟨.refl _, ⟨.refl _, trivial⟩⟩, .refl _⟩
    · refine s_do (o_q (.ptr 0 0 2) rfl trivial rfl) ?_
      refine s_do (o_q (.ptr 0 0 2) rfl trivial rfl) ?_
      refine s_do (o_q (.int .i64 c_1.Old.Id) rfl nle rfl) ?_
      refine s_do (o_q (.bool (c_1.Old.Id == 0)) rfl rfl rfl) ?_
      refine s_do (o_mov (.bool (c_1.Old.Id == 0)) rfl) ?_
      refine s_lit (s := 8) (b := false) rfl (bf c5) ?_
      refine s_off rfl rfl ?_
      refine s_off rfl rfl ?_
      refine s_off rfl rfl ?_
      refine s_off rfl rfl ?_
      refine s_off rfl rfl ?_
      refine s_off rfl rfl ?_
      refine s_do (o_q (.bool false) rfl trivial rfl) ?_
      refine s_do (o_mov (.bool false) rfl) ?_
      refine w_done ?_
      obtain rfl := os hb1
      exact ⟨[], [0], _, _, rfl, rfl, ⟨.refl _, ⟨.refl _, trivial⟩⟩, .refl _⟩
  · rcases oi hf with ⟨c6, hf⟩ | ⟨c6, hf⟩
    · refine w_condt rfl c6 ?_
      refine awp_seq ?_
      refine w_reg ?_
      refine s_do (o_mov (.int .i64 1) rfl) ?_
      refine w_done ?_
      refine k_seq ?_
      refine w_ret ?_
      obtain rfl := os hf
      exact r_flat ⟨trivial, trivial⟩ rfl (.refl _)
    · refine w_condf rfl (bf c6) ?_
      refine awp_seq ?_
      obtain ⟨s16_8, hb1, hf⟩ := ob hf
      refine awp_cut ([(1, (.ptr 0 0 0)), (16, (.bool s16_8))], [.box 6 (.agg [(.int .i64 c_1.Table), (.int .i64 c_1.Id), (.int .i64 c_1.Old.Id), (.lst 1 (c_1.Old.Cells.map (encL 3 encGAtom))), (.int .i64 c_1.New.Id), (.lst 1 (c_1.New.Cells.map (encL 3 encGAtom)))])]) ?_ ?_
      · refine w_reg ?_
        rcases oi hb1 with ⟨c10, hb1⟩ | ⟨c10, hb1⟩
        · refine s_do (o_q (.ptr 0 0 4) rfl trivial rfl) ?_
          refine s_do (o_q (.ptr 0 0 4) rfl trivial rfl) ?_
          refine s_do (o_q (.int .i64 c_1.New.Id) rfl nle rfl) ?_
          refine s_do (o_q (.bool (c_1.New.Id == 0)) rfl rfl rfl) ?_
          refine s_do (o_mov (.bool (c_1.New.Id == 0)) rfl) ?_
          refine s_lit (s := 21) (b := true) rfl c10 ?_
          refine s_on rfl ?_
          refine s_do (o_q (.ptr 0 0 2) rfl trivial rfl) ?_
          refine s_on rfl ?_
          refine s_do (o_q (.ptr 0 0 2) rfl trivial rfl) ?_
          refine s_on rfl ?_
          refine s_do (o_q (.int .i64 c_1.Old.Id) rfl nle rfl) ?_
          refine s_on rfl ?_
          refine s_do (o_q (.ptr 0 0 1) rfl trivial rfl) ?_
          refine s_on rfl ?_
          refine s_do (o_q (.int .i64 c_1.Id) rfl nle rfl) ?_
          refine s_on rfl ?_
          refine s_do (o_q (.bool (c_1.Old.Id == c_1.Id)) rfl rfl rfl) ?_
          refine s_do (o_q (.bool (c_1.Old.Id == c_1.Id)) rfl trivial rfl) ?_
          refine s_do (o_mov (.bool (c_1.Old.Id == c_1.Id)) rfl) ?_
          refine w_done ?_
          obtain rfl := os hb1
          exact ⟨[], [0], _, _, rfl, rfl, ⟨.refl _, ⟨.refl _, trivial⟩⟩, .refl _⟩
        · refine s_do (o_q (.ptr 0 0 4) rfl trivial rfl) ?_
          refine s_do (o_q (.ptr 0 0 4) rfl trivial rfl) ?_
          refine s_do (o_q (.int .i64 c_1.New.Id) rfl nle rfl) ?_
          refine s_do (o_q (.bool (c_1.New.Id == 0)) rfl rfl rfl) ?_
          refine s_do (o_mov (.bool (c_1.New.Id == 0)) rfl) ?_
          refine s_lit (s := 21) (b := false) rfl (bf c10) ?_
          refine s_off rfl rfl ?_
          refine s_off rfl rfl ?_
          refine s_off rfl rfl ?_
          refine s_off rfl rfl ?_
          refine s_off rfl rfl ?_
          refine s_off rfl rfl ?_
          refine s_do (o_q (.bool false) rfl trivial rfl) ?_
          refine s_do (o_mov (.bool false) rfl) ?_
          refine w_done ?_
          obtain rfl := os hb1
          exact ⟨[], [0], _, _, rfl, rfl, ⟨.refl _, ⟨.refl _, trivial⟩⟩, .refl _⟩
      · rcases oi hf with ⟨c11, hf⟩ | ⟨c11, hf⟩
        · refine w_condt rfl c11 ?_
          refine awp_seq ?_
          refine w_reg ?_
          refine s_do (o_mov (.int .i64 2) rfl) ?_
          refine w_done ?_
          refine k_seq ?_
          refine w_ret ?_
          obtain rfl := os hf
          exact r_flat ⟨trivial, trivial⟩ rfl (.refl _)
        · refine w_condf rfl (bf c11) ?_
          refine awp_seq ?_
          obtain ⟨s29_13, hb1, hf⟩ := ob hf
          refine awp_cut ([(29, (.bool s29_13))], []) ?_ ?_
          · refine w_reg ?_
            rcases oi hb1 with ⟨c15, hb1⟩ | ⟨c15, hb1⟩
            · refine s_do (o_q (.ptr 0 0 2) rfl trivial rfl) ?_
              refine s_do (o_q (.ptr 0 0 2) rfl trivial rfl) ?_
              refine s_do (o_q (.int .i64 c_1.Old.Id) rfl nle rfl) ?_
              refine s_do (o_q (.ptr 0 0 1) rfl trivial rfl) ?_
              refine s_do (o_q (.int .i64 c_1.Id) rfl nle rfl) ?_
              refine s_do (o_q (.bool (c_1.Old.Id == c_1.Id)) rfl rfl rfl) ?_
              refine s_do (o_mov (.bool (c_1.Old.Id == c_1.Id)) rfl) ?_
              refine s_lit (s := 36) (b := true) rfl c15 ?_
              refine s_on rfl ?_
              refine s_do (o_q (.ptr 0 0 4) rfl trivial rfl) ?_
              refine s_on rfl ?_
              refine s_do (o_q (.ptr 0 0 4) rfl trivial rfl) ?_
              refine s_on rfl ?_
              refine s_do (o_q (.int .i64 c_1.New.Id) rfl nle rfl) ?_
              refine s_on rfl ?_
              refine s_do (o_q (.ptr 0 0 1) rfl trivial rfl) ?_
              refine s_on rfl ?_
              refine s_do (o_q (.int .i64 c_1.Id) rfl nle rfl) ?_
              refine s_on rfl ?_
              refine s_do (o_q (.bool (c_1.New.Id == c_1.Id)) rfl rfl rfl) ?_
              refine s_do (o_q (.bool (c_1.New.Id == c_1.Id)) rfl trivial rfl) ?_
              refine s_do (o_mov (.bool (c_1.New.Id == c_1.Id)) rfl) ?_
              refine w_done ?_
              obtain rfl := os hb1
              exact ⟨[], [], _, _, rfl, rfl, ⟨.refl _, trivial⟩, .refl _⟩
            · refine s_do (o_q (.ptr 0 0 2) rfl trivial rfl) ?_
              refine s_do (o_q (.ptr 0 0 2) rfl trivial rfl) ?_
              refine s_do (o_q (.int .i64 c_1.Old.Id) rfl nle rfl) ?_
              refine s_do (o_q (.ptr 0 0 1) rfl trivial rfl) ?_
              refine s_do (o_q (.int .i64 c_1.Id) rfl nle rfl) ?_
              refine s_do (o_q (.bool (c_1.Old.Id == c_1.Id)) rfl rfl rfl) ?_
              refine s_do (o_mov (.bool (c_1.Old.Id == c_1.Id)) rfl) ?_
              refine s_lit (s := 36) (b := false) rfl (bf c15) ?_
              refine s_off rfl rfl ?_
              refine s_off rfl rfl ?_
              refine s_off rfl rfl ?_
              refine s_off rfl rfl ?_
              refine s_off rfl rfl ?_
              refine s_off rfl rfl ?_
              refine s_do (o_q (.bool false) rfl trivial rfl) ?_
              refine s_do (o_mov (.bool false) rfl) ?_
              refine w_done ?_
              obtain rfl := os hb1
              exact ⟨[], [], _, _, rfl, rfl, ⟨.refl _, trivial⟩, .refl _⟩
          · rcases oi hf with ⟨c16, hf⟩ | ⟨c16, hf⟩
            · refine w_condt rfl c16 ?_
              refine awp_seq ?_
              refine w_reg ?_
              refine s_do (o_mov (.int .i64 3) rfl) ?_
              refine w_done ?_
              refine k_seq ?_
              refine w_ret ?_
              obtain rfl := os hf
              exact r_flat ⟨trivial, trivial⟩ rfl (.refl _)
            · refine w_condf rfl (bf c16) ?_
              refine w_skip ?_
              refine k_blk ?_
              refine k_seq ?_
              refine awp_seq ?_
              refine w_reg ?_
              refine s_do (o_mov (.int .i64 0) rfl) ?_
              refine w_done ?_
              refine k_seq ?_
              refine w_ret ?_
              obtain rfl := os hf
              exact r_flat ⟨trivial, trivial⟩ rfl (.refl _)

/- spec.ChangeKind -/
def c21 : ACode :=
 (.seq (.reg (.q ⟨(some 1), none, .box 6 (.t 0)⟩
 (.q ⟨(some 2), none, .mov (.c (.int .i64 0))⟩
 (.q ⟨(some 3), none, .mov (.c (.int .i64 0))⟩
 .done))))
 (.seq (.reg (.q ⟨(some 5), none, .load 6 true (.t 1)⟩
 (.q ⟨(some 6), none, .call 91 [(.t 5)]⟩
 (.q ⟨(some 4), none, .mov (.t 6)⟩
 .done))))
 (.seq (.seq (.reg (.q ⟨(some 7), none, .faddr 1 (.t 1)⟩
 (.q ⟨(some 8), none, .load 1 false (.t 7)⟩
 (.q ⟨(some 9), none, .bin .lss (.t 8) (.c (.int .i64 1))⟩
 (.q ⟨(some 10), none, .mov (.t 9)⟩
 (.q ⟨(some 11), (some (10, false)), .mov (.t 4)⟩
 (.q ⟨(some 12), (some (10, false)), .bin .eql (.t 11) (.c (.int .i64 0))⟩
 (.q ⟨(some 13), none, .pick (.t 10) (.c (.bool true)) (.t 12)⟩
 .done))))))))
 (.cut (.cond (.t 13) (.seq (.reg (.q ⟨(some 2), none, .mov (.c (.int .i64 0))⟩
 (.q ⟨(some 3), none, .mov (.c (.int .i64 1))⟩
 .done)))
 .ret)
 .skip)))
 (.seq (.reg (.q ⟨(some 14), none, .mov (.t 4)⟩
 (.q ⟨(some 2), none, .mov (.t 14)⟩
 (.q ⟨(some 3), none, .mov (.c (.int .i64 0))⟩
 .done))))
 .ret))))
theorem fc21 : fcomp Try.prog Try.f21 = some (c21.erase, [.mov (.t 2), .mov (.t 3)], 15) := by kernel_rfl
def spec_ChangeKind (c_1 : GChange) : Option (Int × Int) :=
    (spec_l10Kind c_1).bind fun r_2 =>
    (if (decide (c_1.Id < 1)) then
    some true
    else
    some (r_2 == 0)).bind fun s13_5 =>
    if s13_5 then
    some (0, 1)
    else
    some (r_2, 0)
theorem w_spec_ChangeKind (c_1 : GChange) (r : (Int × Int)) (hf : spec_ChangeKind c_1 = some r) : CallOK Try.prog 21 .flat [(encGChange c_1)] (.tup [(.int .i64 r.1), (.int .i64 r.2)]) := by
  refine CallOK.of_awp mixed Try.func21 fc21 nle ?_
  rw [argT_eq]
  unfold spec_ChangeKind at hf
  unfold c21
  refine (show awp Try.prog false 0 _ (ofL [(0, (encGChange c_1))]) [] _ from ?_)
  refine awp_seq ?_
  refine w_reg ?_
  refine s_do (o_box (j := 0) (c := (.agg [(.int .i64 c_1.Table), (.int .i64 c_1.Id), (.int .i64 c_1.Old.Id), (.lst 1 (c_1.Old.Cells.map (encL 3 encGAtom))), (.int .i64 c_1.New.Id), (.lst 1 (c_1.New.Cells.map (encL 3 encGAtom)))])) rfl trivial rfl rfl) ?_
  refine s_do (o_mov (.int .i64 0) rfl) ?_
  refine s_do (o_mov (.int .i64 0) rfl) ?_
  refine w_done ?_
  refine k_seq ?_
  refine awp_seq ?_
  refine w_reg ?_
  obtain ⟨r_2, er3, hf⟩ := ob hf
  refine s_do (o_q (.agg [(.int .i64 c_1.Table), (.int .i64 c_1.Id), (.int .i64 c_1.Old.Id), (.lst 1 (c_1.Old.Cells.map (encL 3 encGAtom))), (.int .i64 c_1.New.Id), (.lst 1 (c_1.New.Cells.map (encL 3 encGAtom)))]) rfl nle rfl) ?_
  refine s_do (o_call (w_spec_l10Kind _ _ er3) rfl (.refl _) rfl) ?_
  refine s_do (o_mov (.int .i64 r_2) rfl) ?_
  refine w_done ?_
  refine k_seq ?_
  refine awp_seq ?_
  refine awp_seq ?_
  obtain ⟨s13_5, hb1, hf⟩ := ob hf
  refine awp_cut ([(4, (.int .i64 r_2)), (13, (.bool s13_5))], []) ?_ ?_
  · refine w_reg ?_
    rcases oi hb1 with ⟨c7, hb1⟩ | ⟨c7, hb1⟩
    · refine s_do (o_q (.ptr 0 0 1) rfl trivial rfl) ?_
      refine s_do (o_q (.int .i64 c_1.Id) rfl nle rfl) ?_
      refine s_do (o_q (.bool (decide (c_1.Id < 1))) rfl rfl rfl) ?_
      refine s_do (o_mov (.bool (decide (c_1.Id < 1))) rfl) ?_
      refine s_lit (s := 10) (b := true) rfl c7 ?_
      refine s_off rfl rfl ?_
      refine s_off rfl rfl ?_
      refine s_do (o_q (.bool true) rfl trivial rfl) ?_
      refine w_done ?_
      obtain rfl := os hb1
      exact ⟨[], [], _, _, rfl, rfl, ⟨.refl _, ⟨.refl _, trivial⟩⟩, .refl _⟩
    · refine s_do (o_q (.ptr 0 0 1) rfl trivial rfl) ?_
      refine s_do (o_q (.int .i64 c_1.Id) rfl nle rfl) ?_
      refine s_do (o_q (.bool (decide (c_1.Id < 1))) rfl rfl rfl) ?_
      refine s_do (o_mov (.bool (decide (c_1.Id < 1))) rfl) ?_
      refine s_lit (s := 10) (b := false) rfl (bf c7) ?_
      refine s_on rfl ?_
      refine s_do (o_mov (.int .i64 r_2) rfl) ?_
      refine s_on rfl ?_
      refine s_do (o_q (.bool (r_2 == 0)) rfl rfl rfl) ?_
      refine s_do (o_q (.bool (r_2 == 0)) rfl trivial rfl) ?_
      refine w_done ?_
      obtain rfl := os hb1
      exact ⟨[], [], _, _, rfl, rfl, ⟨.refl _, ⟨.refl _, trivial⟩⟩, .refl _⟩
  · rcases oi hf with ⟨c8, hf⟩ | ⟨c8, hf⟩
    · refine w_condt rfl c8 ?_
      refine awp_seq ?_
      refine w_reg ?_
      refine s_do (o_mov (.int .i64 0) rfl) ?_
      refine s_do (o_mov (.int .i64 1) rfl) ?_
      refine w_done ?_
      refine k_seq ?_
      refine w_ret ?_
      obtain rfl := os hf
      exact r_flat ⟨trivial, ⟨trivial, trivial⟩⟩ rfl (.refl _)
    · refine w_condf rfl (bf c8) ?_
      refine w_skip ?_
      refine k_seq ?_
      refine awp_seq ?_
      refine w_reg ?_
      refine s_do (o_mov (.int .i64 r_2) rfl) ?_
      refine s_do (o_mov (.int .i64 r_2) rfl) ?_
      refine s_do (o_mov (.int .i64 0) rfl) ?_
      refine w_done ?_
      refine k_seq ?_
      refine w_ret ?_
      obtain rfl := os hf
      exact r_flat ⟨trivial, ⟨trivial, trivial⟩⟩ rfl (.refl _)

/- impl.kindOf -/
def c93 : ACode :=
 (.seq (.reg (.q ⟨(some 4), none, .box 2 (.t 1)⟩
 (.q ⟨(some 5), none, .box 2 (.t 2)⟩
 (.q ⟨(some 6), none, .mov (.c (.int .i64 0))⟩
 .done))))
 (.seq (.block 0 (.seq (.reg (.q ⟨(some 8), none, .mov (.t 0)⟩
 (.q ⟨(some 9), none, .bin .lss (.t 8) (.c (.int .i64 1))⟩
 (.q ⟨(some 7), none, .mov (.t 9)⟩
 .done))))
 (.cond (.t 7) (.seq (.reg (.q ⟨(some 6), none, .mov (.c (.int .i64 0))⟩
 .done))
 .ret)
 (.seq (.reg (.q ⟨(some 11), none, .faddr 0 (.t 4)⟩
 (.q ⟨(some 12), none, .load 1 false (.t 11)⟩
 (.q ⟨(some 13), none, .bin .eql (.t 12) (.c (.int .i64 0))⟩
 (.q ⟨(some 14), none, .mov (.t 13)⟩
 (.q ⟨(some 15), (some (14, true)), .faddr 0 (.t 5)⟩
 (.q ⟨(some 16), (some (14, true)), .load 1 false (.t 15)⟩
 (.q ⟨(some 17), (some (14, true)), .mov (.t 0)⟩
 (.q ⟨(some 18), (some (14, true)), .bin .eql (.t 16) (.t 17)⟩
 (.q ⟨(some 19), none, .pick (.t 14) (.t 18) (.c (.bool false))⟩
 (.q ⟨(some 10), none, .mov (.t 19)⟩
 .done)))))))))))
 (.cut (.cond (.t 10) (.seq (.reg (.q ⟨(some 6), none, .mov (.c (.int .i64 1))⟩
 .done))
 .ret)
 (.seq (.reg (.q ⟨(some 21), none, .faddr 0 (.t 4)⟩
 (.q ⟨(some 22), none, .load 1 false (.t 21)⟩
 (.q ⟨(some 23), none, .mov (.t 0)⟩
 (.q ⟨(some 24), none, .bin .eql (.t 22) (.t 23)⟩
 (.q ⟨(some 25), none, .mov (.t 24)⟩
 (.q ⟨(some 26), (some (25, true)), .faddr 0 (.t 5)⟩
 (.q ⟨(some 27), (some (25, true)), .load 1 false (.t 26)⟩
 (.q ⟨(some 28), (some (25, true)), .bin .eql (.t 27) (.c (.int .i64 0))⟩
 (.q ⟨(some 29), none, .pick (.t 25) (.t 28) (.c (.bool false))⟩
 (.q ⟨(some 20), none, .mov (.t 29)⟩
 .done)))))))))))
 (.cut (.cond (.t 20) (.seq (.reg (.q ⟨(some 6), none, .mov (.c (.int .i64 2))⟩
 .done))
 .ret)
 (.seq (.reg (.q ⟨(some 31), none, .faddr 0 (.t 4)⟩
 (.q ⟨(some 32), none, .load 1 false (.t 31)⟩
 (.q ⟨(some 33), none, .mov (.t 0)⟩
 (.q ⟨(some 34), none, .bin .eql (.t 32) (.t 33)⟩
 (.q ⟨(some 35), none, .mov (.t 34)⟩
 (.q ⟨(some 36), (some (35, true)), .faddr 0 (.t 5)⟩
 (.q ⟨(some 37), (some (35, true)), .load 1 false (.t 36)⟩
 (.q ⟨(some 38), (some (35, true)), .mov (.t 0)⟩
 (.q ⟨(some 39), (some (35, true)), .bin .eql (.t 37) (.t 38)⟩
 (.q ⟨(some 40), none, .pick (.t 35) (.t 39) (.c (.bool false))⟩
 (.q ⟨(some 30), none, .mov (.t 40)⟩
 .done))))))))))))
 (.cut (.cond (.t 30) (.seq (.reg (.q ⟨(some 6), none, .mov (.c (.int .i64 3))⟩
 .done))
 .ret)
 .skip))))))))))))
 (.seq (.reg (.q ⟨(some 6), none, .mov (.c (.int .i64 0))⟩
 .done))
 .ret)))
theorem fc93 : fcomp Try.prog Try.f93 = some (c93.erase, [.mov (.t 6)], 41) := by kernel_rfl
def impl_kindOf (id_1 : Int) (old_2 : GRow) (now_3 : GRow) : Option Int :=
    if (decide (id_1 < 1)) then
    some 0
    else
    (if (old_2.Id == 0) then
    some (now_3.Id == id_1)
    else
    some false).bind fun s10_6 =>
    if s10_6 then
    some 1
    else
    (if (old_2.Id == id_1) then
    some (now_3.Id == 0)
    else
    some false).bind fun s20_11 =>
    if s20_11 then
    some 2
    else
    (if (old_2.Id == id_1) then
    some (now_3.Id == id_1)
    else
    some false).bind fun s30_16 =>
    if s30_16 then
    some 3
    else
    some 0
theorem w_impl_kindOf (id_1 : Int) (old_2 : GRow) (now_3 : GRow) (r : Int) (hf : impl_kindOf id_1 old_2 now_3 = some r) : CallOK Try.prog 93 .flat [(.int .i64 id_1), (encGRow old_2), (encGRow now_3)] (.int .i64 r) := by
  refine CallOK.of_awp mixed Try.func93 fc93 nle ?_
  rw [argT_eq]
  unfold impl_kindOf at hf
  unfold c93
  refine (show awp Try.prog false 0 _ (ofL [(0, (.int .i64 id_1)), (1, (encGRow old_2)), (2, (encGRow now_3))]) [] _ from ?_)
  refine awp_seq ?_
  refine w_reg ?_
  refine s_do (o_box (j := 0) (c := (.agg [(.int .i64 old_2.Id), (.lst 1 (old_2.Cells.map (encL 3 encGAtom)))])) rfl trivial rfl rfl) ?_
  refine s_do (o_box (j := 1) (c := (.agg [(.int .i64 now_3.Id), (.lst 1 (now_3.Cells.map (encL 3 encGAtom)))])) rfl trivial rfl rfl) ?_
  refine s_do (o_mov (.int .i64 0) rfl) ?_
  refine w_done ?_
  refine k_seq ?_
  refine awp_seq ?_
  refine w_blk ?_
  refine awp_seq ?_
  refine w_reg ?_
  refine s_do (o_mov (.int .i64 id_1) rfl) ?_
  refine s_do (o_q (.bool (decide (id_1 < 1))) rfl rfl rfl) ?_
  refine s_do (o_mov (.bool (decide (id_1 < 1))) rfl) ?_
  refine w_done ?_
  refine k_seq ?_
  rcases oi hf with ⟨c4, hf⟩ | ⟨c4, hf⟩
  · refine w_condt rfl c4 ?_
    refine awp_seq ?_
    refine w_reg ?_
    refine s_do (o_mov (.int .i64 0) rfl) ?_
    refine w_done ?_
    refine k_seq ?_
    refine w_ret ?_
    obtain rfl := os hf
    exact r_flat ⟨trivial, trivial⟩ rfl (.refl _)
  · refine w_condf rfl (bf c4) ?_
    refine awp_seq ?_
    obtain ⟨s10_6, hb1, hf⟩ := ob hf
    refine awp_cut ([(0, (.int .i64 id_1)), (4, (.ptr 0 0 0)), (5, (.ptr 1 0 0)), (10, (.bool s10_6))], [.box 2 (.agg [(.int .i64 old_2.Id), (.lst 1 (old_2.Cells.map (encL 3 encGAtom)))]), .box 2 (.agg [(.int .i64 now_3.Id), (.lst 1 (now_3.Cells.map (encL 3 encGAtom)))])]) ?_ ?_
    · refine w_reg ?_
      rcases oi hb1 with ⟨c8, hb1⟩ | ⟨c8, hb1⟩
      · refine s_do (o_q (.ptr 0 0 0) rfl trivial rfl) ?_
        refine s_do (o_q (.int .i64 old_2.Id) rfl nle rfl) ?_
        refine s_do (o_q (.bool (old_2.Id == 0)) rfl rfl rfl) ?_
        refine s_do (o_mov (.bool (old_2.Id == 0)) rfl) ?_
        refine s_lit (s := 14) (b := true) rfl c8 ?_
        refine s_on rfl ?_
        refine s_do (o_q (.ptr 1 0 0) rfl trivial rfl) ?_
        refine s_on rfl ?_
        refine s_do (o_q (.int .i64 now_3.Id) rfl nle rfl) ?_
        refine s_on rfl ?_
        refine s_do (o_mov (.int .i64 id_1) rfl) ?_
        refine s_on rfl ?_
        refine s_do (o_q (.bool (now_3.Id == id_1)) rfl rfl rfl) ?_
        refine s_do (o_q (.bool (now_3.Id == id_1)) rfl trivial rfl) ?_
        refine s_do (o_mov (.bool (now_3.Id == id_1)) rfl) ?_
        refine w_done ?_
        obtain rfl := os hb1
        exact ⟨[], [0, 1], _, _, rfl, rfl, ⟨.refl _, ⟨.refl _, ⟨.refl _, ⟨.refl _, trivial⟩⟩⟩⟩, .refl _⟩
      · refine s_do (o_q (.ptr 0 0 0) rfl trivial rfl) ?_
        refine s_do (o_q (.int .i64 old_2.Id) rfl nle rfl) ?_
        refine s_do (o_q (.bool (old_2.Id == 0)) rfl rfl rfl) ?_
        refine s_do (o_mov (.bool (old_2.Id == 0)) rfl) ?_
        refine s_lit (s := 14) (b := false) rfl (bf c8) ?_
        refine s_off rfl rfl ?_
        refine s_off rfl rfl ?_
        refine s_off rfl rfl ?_
        refine s_off rfl rfl ?_
        refine s_do (o_q (.bool false) rfl trivial rfl) ?_
        refine s_do (o_mov (.bool false) rfl) ?_
        refine w_done ?_
        obtain rfl := os hb1
        exact ⟨[], [0, 1], _, _, rfl, rfl, ⟨.refl _, ⟨.refl _, ⟨.refl _, ⟨.refl _, trivial⟩⟩⟩⟩, .refl _⟩
    · rcases oi hf with ⟨c9, hf⟩ | ⟨c9, hf⟩
      · refine w_condt rfl c9 ?_
        refine awp_seq ?_
        refine w_reg ?_
        refine s_do (o_mov (.int .i64 1) rfl) ?_
        refine w_done ?_
        refine k_seq ?_
        refine w_ret ?_
        obtain rfl := os hf
        exact r_flat ⟨trivial, trivial⟩ rfl (.refl _)
      · refine w_condf rfl (bf c9) ?_
        refine awp_seq ?_
        obtain ⟨s20_11, hb1, hf⟩ := ob hf
        refine awp_cut ([(0, (.int .i64 id_1)), (4, (.ptr 0 0 0)), (5, (.ptr 1 0 0)), (20, (.bool s20_11))], [.box 2 (.agg [(.int .i64 old_2.Id), (.lst 1 (old_2.Cells.map (encL 3 encGAtom)))]), .box 2 (.agg [(.int .i64 now_3.Id), (.lst 1 (now_3.Cells.map (encL 3 encGAtom)))])]) ?_ ?_
        · refine w_reg ?_
          rcases oi hb1 with ⟨c13, hb1⟩ | ⟨c13, hb1⟩
          · refine s_do (o_q (.ptr 0 0 0) rfl trivial rfl) ?_
            refine s_do (o_q (.int .i64 old_2.Id) rfl nle rfl) ?_
            refine s_do (o_mov (.int .i64 id_1) rfl) ?_
            refine s_do (o_q (.bool (old_2.Id == id_1)) rfl rfl rfl) ?_
            refine s_do (o_mov (.bool (old_2.Id == id_1)) rfl) ?_
            refine s_lit (s := 25) (b := true) rfl c13 ?_
            refine s_on rfl ?_
            refine s_do (o_q (.ptr 1 0 0) rfl trivial rfl) ?_
            refine s_on rfl ?_
            refine s_do (o_q (.int .i64 now_3.Id) rfl nle rfl) ?_
            refine s_on rfl ?_
            refine s_do (o_q (.bool (now_3.Id == 0)) rfl rfl rfl) ?_
            refine s_do (o_q (.bool (now_3.Id == 0)) rfl trivial rfl) ?_
            refine s_do (o_mov (.bool (now_3.Id == 0)) rfl) ?_
            refine w_done ?_
            obtain rfl := os hb1
            exact ⟨[], [0, 1], _, _, rfl, rfl, ⟨.refl _, ⟨.refl _, ⟨.refl _, ⟨.refl _, trivial⟩⟩⟩⟩, .refl _⟩
          · refine s_do (o_q (.ptr 0 0 0) rfl trivial rfl) ?_
            refine s_do (o_q (.int .i64 old_2.Id) rfl nle rfl) ?_
            refine s_do (o_mov (.int .i64 id_1) rfl) ?_
            refine s_do (o_q (.bool (old_2.Id == id_1)) rfl rfl rfl) ?_
            refine s_do (o_mov (.bool (old_2.Id == id_1)) rfl) ?_
            refine s_lit (s := 25) (b := false) rfl (bf c13) ?_
            refine s_off rfl rfl ?_
            refine s_off rfl rfl ?_
            refine s_off rfl rfl ?_
            refine s_do (o_q (.bool false) rfl trivial rfl) ?_
            refine s_do (o_mov (.bool false) rfl) ?_
            refine w_done ?_
            obtain rfl := os hb1
            exact ⟨[], [0, 1], _, _, rfl, rfl, ⟨.refl _, ⟨.refl _, ⟨.refl _, ⟨.refl _, trivial⟩⟩⟩⟩, .refl _⟩
        · rcases oi hf with ⟨c14, hf⟩ | ⟨c14, hf⟩
          · refine w_condt rfl c14 ?_
            refine awp_seq ?_
            refine w_reg ?_
            refine s_do (o_mov (.int .i64 2) rfl) ?_
            refine w_done ?_
            refine k_seq ?_
            refine w_ret ?_
            obtain rfl := os hf
            exact r_flat ⟨trivial, trivial⟩ rfl (.refl _)
          · refine w_condf rfl (bf c14) ?_
            refine awp_seq ?_
            obtain ⟨s30_16, hb1, hf⟩ := ob hf
            refine awp_cut ([(30, (.bool s30_16))], []) ?_ ?_
            · refine w_reg ?_
              rcases oi hb1 with ⟨c18, hb1⟩ | ⟨c18, hb1⟩
              · refine s_do (o_q (.ptr 0 0 0) rfl trivial rfl) ?_
                refine s_do (o_q (.int .i64 old_2.Id) rfl nle rfl) ?_
                refine s_do (o_mov (.int .i64 id_1) rfl) ?_
                refine s_do (o_q (.bool (old_2.Id == id_1)) rfl rfl rfl) ?_
                refine s_do (o_mov (.bool (old_2.Id == id_1)) rfl) ?_
                refine s_lit (s := 35) (b := true) rfl c18 ?_
                refine s_on rfl ?_
                refine s_do (o_q (.ptr 1 0 0) rfl trivial rfl) ?_
                refine s_on rfl ?_
                refine s_do (o_q (.int .i64 now_3.Id) rfl nle rfl) ?_
                refine s_on rfl ?_
                refine s_do (o_mov (.int .i64 id_1) rfl) ?_
                refine s_on rfl ?_
                refine s_do (o_q (.bool (now_3.Id == id_1)) rfl rfl rfl) ?_
                refine s_do (o_q (.bool (now_3.Id == id_1)) rfl trivial rfl) ?_
                refine s_do (o_mov (.bool (now_3.Id == id_1)) rfl) ?_
                refine w_done ?_
                obtain rfl := os hb1
                exact ⟨[], [], _, _, rfl, rfl, ⟨.refl _, trivial⟩, .refl _⟩
              · refine s_do (o_q (.ptr 0 0 0) rfl trivial rfl) ?_
                refine s_do (o_q (.int .i64 old_2.Id) rfl nle rfl) ?_
                refine s_do (o_mov (.int .i64 id_1) rfl) ?_
                refine s_do (o_q (.bool (old_2.Id == id_1)) rfl rfl rfl) ?_
                refine s_do (o_mov (.bool (old_2.Id == id_1)) rfl) ?_
                refine s_lit (s := 35) (b := false) rfl (bf c18) ?_
                refine s_off rfl rfl ?_
                refine s_off rfl rfl ?_
                refine s_off rfl rfl ?_
                refine s_off rfl rfl ?_
                refine s_do (o_q (.bool false) rfl trivial rfl) ?_
                refine s_do (o_mov (.bool false) rfl) ?_
                refine w_done ?_
                obtain rfl := os hb1
                exact ⟨[], [], _, _, rfl, rfl, ⟨.refl _, trivial⟩, .refl _⟩
            · rcases oi hf with ⟨c19, hf⟩ | ⟨c19, hf⟩
              · refine w_condt rfl c19 ?_
                refine awp_seq ?_
                refine w_reg ?_
                refine s_do (o_mov (.int .i64 3) rfl) ?_
                refine w_done ?_
                refine k_seq ?_
                refine w_ret ?_
                obtain rfl := os hf
                exact r_flat ⟨trivial, trivial⟩ rfl (.refl _)
              · refine w_condf rfl (bf c19) ?_
                refine w_skip ?_
                refine k_blk ?_
                refine k_seq ?_
                refine awp_seq ?_
                refine w_reg ?_
                refine s_do (o_mov (.int .i64 0) rfl) ?_
                refine w_done ?_
                refine k_seq ?_
                refine w_ret ?_
                obtain rfl := os hf
                exact r_flat ⟨trivial, trivial⟩ rfl (.refl _)

/- impl.ChangeKind -/
def c23 : ACode :=
 (.seq (.reg (.q ⟨(some 1), none, .box 6 (.t 0)⟩
 (.q ⟨(some 2), none, .mov (.c (.int .i64 0))⟩
 (.q ⟨(some 3), none, .mov (.c (.int .i64 0))⟩
 .done))))
 (.seq (.reg (.q ⟨(some 5), none, .faddr 1 (.t 1)⟩
 (.q ⟨(some 6), none, .load 1 false (.t 5)⟩
 (.q ⟨(some 7), none, .faddr 2 (.t 1)⟩
 (.q ⟨(some 8), none, .load 2 true (.t 7)⟩
 (.q ⟨(some 9), none, .faddr 4 (.t 1)⟩
 (.q ⟨(some 10), none, .load 2 true (.t 9)⟩
 (.q ⟨(some 11), none, .call 93 [(.t 6), (.t 8), (.t 10)]⟩
 (.q ⟨(some 4), none, .mov (.t 11)⟩
 .done)))))))))
 (.seq (.seq (.reg (.q ⟨(some 12), none, .mov (.t 4)⟩
 (.q ⟨(some 13), none, .bin .eql (.t 12) (.c (.int .i64 0))⟩
 .done)))
 (.cond (.t 13) (.seq (.reg (.q ⟨(some 2), none, .mov (.c (.int .i64 0))⟩
 (.q ⟨(some 3), none, .mov (.c (.int .i64 1))⟩
 .done)))
 .ret)
 .skip))
 (.seq (.reg (.q ⟨(some 14), none, .mov (.t 4)⟩
 (.q ⟨(some 2), none, .mov (.t 14)⟩
 (.q ⟨(some 3), none, .mov (.c (.int .i64 0))⟩
 .done))))
 .ret))))
theorem fc23 : fcomp Try.prog Try.f23 = some (c23.erase, [.mov (.t 2), .mov (.t 3)], 15) := by kernel_rfl
def impl_ChangeKind (c_1 : GChange) : Option (Int × Int) :=
    (impl_kindOf c_1.Id c_1.Old c_1.New).bind fun r_2 =>
    if (r_2 == 0) then
    some (0, 1)
    else
    some (r_2, 0)
theorem w_impl_ChangeKind (c_1 : GChange) (r : (Int × Int)) (hf : impl_ChangeKind c_1 = some r) : CallOK Try.prog 23 .flat [(encGChange c_1)] (.tup [(.int .i64 r.1), (.int .i64 r.2)]) := by
  refine CallOK.of_awp mixed Try.func23 fc23 nle ?_
  rw [argT_eq]
  unfold impl_ChangeKind at hf
  unfold c23
  refine (show awp Try.prog false 0 _ (ofL [(0, (encGChange c_1))]) [] _ from ?_)
  refine awp_seq ?_
  refine w_reg ?_
  refine s_do (o_box (j := 0) (c := (.agg [(.int .i64 c_1.Table), (.int .i64 c_1.Id), (.int .i64 c_1.Old.Id), (.lst 1 (c_1.Old.Cells.map (encL 3 encGAtom))), (.int .i64 c_1.New.Id), (.lst 1 (c_1.New.Cells.map (encL 3 encGAtom)))])) rfl trivial rfl rfl) ?_
  refine s_do (o_mov (.int .i64 0) rfl) ?_
  refine s_do (o_mov (.int .i64 0) rfl) ?_
  refine w_done ?_
  refine k_seq ?_
  refine awp_seq ?_
  refine w_reg ?_
  obtain ⟨r_2, er3, hf⟩ := ob hf
  refine s_do (o_q (.ptr 0 0 1) rfl trivial rfl) ?_
  refine s_do (o_q (.int .i64 c_1.Id) rfl nle rfl) ?_
  refine s_do (o_q (.ptr 0 0 2) rfl trivial rfl) ?_
  refine s_do (o_q (.agg [(.int .i64 c_1.Old.Id), (.lst 1 (c_1.Old.Cells.map (encL 3 encGAtom)))]) rfl nle rfl) ?_
  refine s_do (o_q (.ptr 0 0 4) rfl trivial rfl) ?_
  refine s_do (o_q (.agg [(.int .i64 c_1.New.Id), (.lst 1 (c_1.New.Cells.map (encL 3 encGAtom)))]) rfl nle rfl) ?_
  refine s_do (o_call (w_impl_kindOf _ _ _ _ er3) rfl (.refl _) rfl) ?_
  refine s_do (o_mov (.int .i64 r_2) rfl) ?_
  refine w_done ?_
  refine k_seq ?_
  refine awp_seq ?_
  refine awp_seq ?_
  refine w_reg ?_
  refine s_do (o_mov (.int .i64 r_2) rfl) ?_
  refine s_do (o_q (.bool (r_2 == 0)) rfl rfl rfl) ?_
  refine w_done ?_
  refine k_seq ?_
  rcases oi hf with ⟨c4, hf⟩ | ⟨c4, hf⟩
  · refine w_condt rfl c4 ?_
    refine awp_seq ?_
    refine w_reg ?_
    refine s_do (o_mov (.int .i64 0) rfl) ?_
    refine s_do (o_mov (.int .i64 1) rfl) ?_
    refine w_done ?_
    refine k_seq ?_
    refine w_ret ?_
    obtain rfl := os hf
    exact r_flat ⟨trivial, ⟨trivial, trivial⟩⟩ rfl (.refl _)
  · refine w_condf rfl (bf c4) ?_
    refine w_skip ?_
    refine k_seq ?_
    refine awp_seq ?_
    refine w_reg ?_
    refine s_do (o_mov (.int .i64 r_2) rfl) ?_
    refine s_do (o_mov (.int .i64 r_2) rfl) ?_
    refine s_do (o_mov (.int .i64 0) rfl) ?_
    refine w_done ?_
    refine k_seq ?_
    refine w_ret ?_
    obtain rfl := os hf
    exact r_flat ⟨trivial, ⟨trivial, trivial⟩⟩ rfl (.refl _)

/- laws.eqAtom -/
def c51 : ACode :=
 (.seq (.reg (.q ⟨(some 2), none, .box 3 (.t 0)⟩
 (.q ⟨(some 3), none, .box 3 (.t 1)⟩
 (.q ⟨(some 4), none, .mov (.c (.bool false))⟩
 .done))))
 (.seq (.seq (.reg (.q ⟨(some 5), none, .faddr 0 (.t 2)⟩
 (.q ⟨(some 6), none, .load 1 false (.t 5)⟩
 (.q ⟨(some 7), none, .faddr 0 (.t 3)⟩
 (.q ⟨(some 8), none, .load 1 false (.t 7)⟩
 (.q ⟨(some 9), none, .bin .neq (.t 6) (.t 8)⟩
 .done))))))
 (.cond (.t 9) (.seq (.reg (.q ⟨(some 4), none, .mov (.c (.bool false))⟩
 .done))
 .ret)
 .skip))
 (.seq (.seq (.reg (.q ⟨(some 10), none, .faddr 1 (.t 2)⟩
 (.q ⟨(some 11), none, .load 1 false (.t 10)⟩
 (.q ⟨(some 12), none, .faddr 1 (.t 3)⟩
 (.q ⟨(some 13), none, .load 1 false (.t 12)⟩
 (.q ⟨(some 14), none, .bin .neq (.t 11) (.t 13)⟩
 .done))))))
 (.cond (.t 14) (.seq (.reg (.q ⟨(some 4), none, .mov (.c (.bool false))⟩
 .done))
 .ret)
 .skip))
 (.seq (.seq (.reg (.q ⟨(some 15), none, .faddr 2 (.t 2)⟩
 (.q ⟨(some 16), none, .load 1 false (.t 15)⟩
 (.q ⟨(some 17), none, .faddr 2 (.t 3)⟩
 (.q ⟨(some 18), none, .load 1 false (.t 17)⟩
 (.q ⟨(some 19), none, .bin .neq (.t 16) (.t 18)⟩
 .done))))))
 (.cond (.t 19) (.seq (.reg (.q ⟨(some 4), none, .mov (.c (.bool false))⟩
 .done))
 .ret)
 .skip))
 (.seq (.reg (.q ⟨(some 4), none, .mov (.c (.bool true))⟩
 .done))
 .ret)))))
theorem fc51 : fcomp Try.prog Try.f51 = some (c51.erase, [.mov (.t 4)], 20) := by kernel_rfl
def laws_eqAtom (a_1 : GAtom) (b_2 : GAtom) : Option Bool :=
    if (a_1.Kind != b_2.Kind) then
    some false
    else
    if (a_1.N != b_2.N) then
    some false
    else
    if (!(a_1.T == b_2.T)) then
    some false
    else
    some true
theorem w_laws_eqAtom (a_1 : GAtom) (b_2 : GAtom) (r : Bool) (hf : laws_eqAtom a_1 b_2 = some r) : CallOK Try.prog 51 .flat [(encGAtom a_1), (encGAtom b_2)] (.bool r) := by
  refine CallOK.of_awp mixed Try.func51 fc51 nle ?_
  rw [argT_eq]
  unfold laws_eqAtom at hf
  unfold c51
  refine (show awp Try.prog false 0 _ (ofL [(0, (encGAtom a_1)), (1, (encGAtom b_2))]) [] _ from ?_)
  refine awp_seq ?_
  refine w_reg ?_
  refine s_do (o_box (j := 0) (c := (.agg [(.int .i64 a_1.Kind), (.int .i64 a_1.N), (.str a_1.T)])) rfl trivial rfl rfl) ?_
  refine s_do (o_box (j := 1) (c := (.agg [(.int .i64 b_2.Kind), (.int .i64 b_2.N), (.str b_2.T)])) rfl trivial rfl rfl) ?_
  refine s_do (o_mov (.bool false) rfl) ?_
  refine w_done ?_
  refine k_seq ?_
  refine awp_seq ?_
  refine awp_seq ?_
  refine w_reg ?_
  refine s_do (o_q (.ptr 0 0 0) rfl trivial rfl) ?_
  refine s_do (o_q (.int .i64 a_1.Kind) rfl nle rfl) ?_
  refine s_do (o_q (.ptr 1 0 0) rfl trivial rfl) ?_
  refine s_do (o_q (.int .i64 b_2.Kind) rfl nle rfl) ?_
  refine s_do (o_q (.bool (a_1.Kind != b_2.Kind)) rfl rfl rfl) ?_
  refine w_done ?_
  refine k_seq ?_
  rcases oi hf with ⟨c3, hf⟩ | ⟨c3, hf⟩
  · refine w_condt rfl c3 ?_
    refine awp_seq ?_
    refine w_reg ?_
    refine s_do (o_mov (.bool false) rfl) ?_
    refine w_done ?_
    refine k_seq ?_
    refine w_ret ?_
    obtain rfl := os hf
    exact r_flat ⟨trivial, trivial⟩ rfl (.refl _)
  · refine w_condf rfl (bf c3) ?_
    refine w_skip ?_
    refine k_seq ?_
    refine awp_seq ?_
    refine awp_seq ?_
    refine w_reg ?_
    refine s_do (o_q (.ptr 0 0 1) rfl trivial rfl) ?_
    refine s_do (o_q (.int .i64 a_1.N) rfl nle rfl) ?_
    refine s_do (o_q (.ptr 1 0 1) rfl trivial rfl) ?_
    refine s_do (o_q (.int .i64 b_2.N) rfl nle rfl) ?_
    refine s_do (o_q (.bool (a_1.N != b_2.N)) rfl rfl rfl) ?_
    refine w_done ?_
    refine k_seq ?_
    rcases oi hf with ⟨c4, hf⟩ | ⟨c4, hf⟩
    · refine w_condt rfl c4 ?_
      refine awp_seq ?_
      refine w_reg ?_
      refine s_do (o_mov (.bool false) rfl) ?_
      refine w_done ?_
      refine k_seq ?_
      refine w_ret ?_
      obtain rfl := os hf
      exact r_flat ⟨trivial, trivial⟩ rfl (.refl _)
    · refine w_condf rfl (bf c4) ?_
      refine w_skip ?_
      refine k_seq ?_
      refine awp_seq ?_
      refine awp_seq ?_
      refine w_reg ?_
      refine s_do (o_q (.ptr 0 0 2) rfl trivial rfl) ?_
      refine s_do (o_q (.str a_1.T) rfl nle rfl) ?_
      refine s_do (o_q (.ptr 1 0 2) rfl trivial rfl) ?_
      refine s_do (o_q (.str b_2.T) rfl nle rfl) ?_
      refine s_do (o_q (.bool (!(a_1.T == b_2.T))) rfl trivial rfl) ?_
      refine w_done ?_
      refine k_seq ?_
      rcases oi hf with ⟨c5, hf⟩ | ⟨c5, hf⟩
      · refine w_condt rfl c5 ?_
        refine awp_seq ?_
        refine w_reg ?_
        refine s_do (o_mov (.bool false) rfl) ?_
        refine w_done ?_
        refine k_seq ?_
        refine w_ret ?_
        obtain rfl := os hf
        exact r_flat ⟨trivial, trivial⟩ rfl (.refl _)
      · refine w_condf rfl (bf c5) ?_
        refine w_skip ?_
        refine k_seq ?_
        refine awp_seq ?_
        refine w_reg ?_
        refine s_do (o_mov (.bool true) rfl) ?_
        refine w_done ?_
        refine k_seq ?_
        refine w_ret ?_
        obtain rfl := os hf
        exact r_flat ⟨trivial, trivial⟩ rfl (.refl _)

/- laws.eqAtomS -/
def c72 : ACode :=
 (.seq (.reg (.q ⟨(some 4), none, .mov (.c (.bool false))⟩
 .done))
 (.seq (.seq (.reg (.q ⟨(some 6), none, .mov (.t 0)⟩
 (.q ⟨(some 7), none, .len (.t 6)⟩
 (.q ⟨(some 8), none, .mov (.t 1)⟩
 (.q ⟨(some 9), none, .len (.t 8)⟩
 (.q ⟨(some 10), none, .bin .neq (.t 7) (.t 9)⟩
 .done))))))
 (.cond (.t 10) (.seq (.reg (.q ⟨(some 4), none, .mov (.c (.bool false))⟩
 .done))
 .ret)
 .skip))
 (.seq (.seq (.reg (.q ⟨(some 5), none, .mov (.c (.int .i64 0))⟩
 .done))
 (.block 0 (.loop (.seq (.seq (.reg (.q ⟨(some 11), none, .mov (.t 5)⟩
 (.q ⟨(some 12), none, .mov (.t 0)⟩
 (.q ⟨(some 13), none, .len (.t 12)⟩
 (.q ⟨(some 14), none, .bin .lss (.t 11) (.t 13)⟩
 .done)))))
 (.cond (.t 14) .skip
 (.exit 0)))
 (.seq (.block 1 (.seq (.reg (.q ⟨(some 17), none, .mov (.t 0)⟩
 (.q ⟨(some 18), none, .mov (.t 5)⟩
 (.q ⟨(some 19), none, .iaddr 3 (.t 17) (.t 18)⟩
 (.q ⟨(some 20), none, .load 3 true (.t 19)⟩
 (.q ⟨(some 21), none, .mov (.t 1)⟩
 (.q ⟨(some 22), none, .mov (.t 5)⟩
 (.q ⟨(some 23), none, .iaddr 3 (.t 21) (.t 22)⟩
 (.q ⟨(some 24), none, .load 3 true (.t 23)⟩
 (.l ⟨(some 25), none, .call 51 [(.t 20), (.t 24)]⟩ []
 (.q ⟨(some 26), none, .not (.t 25)⟩
 .done) .non))))))))))
 (.cond (.t 26) (.seq (.reg (.q ⟨(some 4), none, .mov (.c (.bool false))⟩
 .done))
 .ret)
 .skip)))
 (.reg (.q ⟨(some 15), none, .mov (.t 5)⟩
 (.q ⟨(some 16), none, .bin .add (.t 15) (.c (.int .i64 1))⟩
 (.q ⟨(some 5), none, .mov (.t 16)⟩
 .done)))))))))
 (.cut (.seq (.reg (.q ⟨(some 4), none, .mov (.c (.bool true))⟩
 .done))
 .ret)))))
theorem fc72 : fcomp Try.prog Try.f72 = some (c72.erase, [.mov (.t 4)], 27) := by kernel_rfl
def laws_eqAtomS_L1 (b_2 : (List GAtom)) : List GAtom → Nat → Option (Fl Bool Unit)
  | [], i_25 =>
    some (.go ())
  | x_43 :: xs, i_25 =>
    (idx b_2 (i_25 : Int)).bind fun x_46 =>
    (laws_eqAtom x_43 x_46).bind fun r_48 =>
    if (!r_48) then
    some (.ret false)
    else
    laws_eqAtomS_L1 b_2 xs (i_25 + 1)

def laws_eqAtomS (a_1 : (List GAtom)) (b_2 : (List GAtom)) : Option Bool :=
    if ((a_1.length : Int) != (b_2.length : Int)) then
    some false
    else
    (laws_eqAtomS_L1 b_2 a_1 0).bind fun q => (match q with
    | .ret r => some r
    | .go _ =>
    some true)
theorem w_laws_eqAtomS (a_1 : (List GAtom)) (b_2 : (List GAtom)) (r : Bool) (hf : laws_eqAtomS a_1 b_2 = some r) : CallOK Try.prog 72 .flat [(.lst 3 (a_1.map encGAtom)), (.lst 3 (b_2.map encGAtom))] (.bool r) := by
  refine CallOK.of_awp mixed Try.func72 fc72 nle ?_
  rw [argT_eq]
  unfold laws_eqAtomS at hf
  unfold c72
  refine (show awp Try.prog false 0 _ (ofL [(0, (.lst 3 (a_1.map encGAtom))), (1, (.lst 3 (b_2.map encGAtom)))]) [] _ from ?_)
  refine awp_seq ?_
  refine w_reg ?_
  refine s_do (o_mov (.bool false) rfl) ?_
  refine w_done ?_
  refine k_seq ?_
  refine awp_seq ?_
  refine awp_seq ?_
  refine w_reg ?_
  refine s_do (o_mov (.lst 3 (a_1.map encGAtom)) rfl) ?_
  refine s_dof (o_len (enc := encGAtom) rfl) fun hl3 => ?_
  refine s_do (o_mov (.lst 3 (b_2.map encGAtom)) rfl) ?_
  refine s_dof (o_len (enc := encGAtom) rfl) fun hl4 => ?_
  refine s_do (o_q (.bool ((a_1.length : Int) != (b_2.length : Int))) rfl rfl rfl) ?_
  refine w_done ?_
  refine k_seq ?_
  rcases oi hf with ⟨c5, hf⟩ | ⟨c5, hf⟩
  · refine w_condt rfl c5 ?_
    refine awp_seq ?_
    refine w_reg ?_
    refine s_do (o_mov (.bool false) rfl) ?_
    refine w_done ?_
    refine k_seq ?_
    refine w_ret ?_
    obtain rfl := os hf
    exact r_flat ⟨trivial, trivial⟩ rfl (.refl _)
  · refine w_condf rfl (bf c5) ?_
    refine w_skip ?_
    refine k_seq ?_
    refine awp_seq ?_
    refine awp_seq ?_
    refine w_reg ?_
    refine s_do (o_mov (.int .i64 0) rfl) ?_
    refine w_done ?_
    refine k_seq ?_
    obtain ⟨p36, hb1, hf⟩ := ob hf
    refine awp_cutx (X := {q : Unit // p36 = .go q}) (fun q => ([], [])) ?_ ?_
    · refine awp_loop (X := {q : Nat // laws_eqAtomS_L1 b_2 (a_1.drop q) q = some p36}) (fun q => ([(0, (.lst 3 (a_1.map encGAtom))), (1, (.lst 3 (b_2.map encGAtom))), (5, (.int .i64 (q.1 : Int)))], [])) (fun q => a_1.length - q.1) ⟨0, hb1⟩ ⟨[], [], _, _, rfl, rfl, ⟨.refl _, ⟨.refl _, ⟨.refl _, trivial⟩⟩⟩, .refl _⟩ ?_
      rintro ⟨i_25, hc1⟩
      have hc1 : laws_eqAtomS_L1 b_2 (a_1.drop i_25) i_25 = some p36 := hc1
      refine (show awp Try.prog false 0 _ (ofL [(0, (.lst 3 (a_1.map encGAtom))), (1, (.lst 3 (b_2.map encGAtom))), (5, (.int .i64 (i_25 : Int)))]) [] _ from ?_)
      rcases dropc a_1 i_25 with ⟨hie39, hd42⟩ | ⟨hlt37, x_43, hx38, hd42⟩
      · rw [hd42, laws_eqAtomS_L1.eq_1] at hc1
        have hq41 := dlf hie39
        refine awp_seq ?_
        refine awp_seq ?_
        refine w_reg ?_
        refine s_do (o_mov (.int .i64 (i_25 : Int)) rfl) ?_
        refine s_do (o_mov (.lst 3 (a_1.map encGAtom)) rfl) ?_
        refine s_dof (o_len (enc := encGAtom) rfl) fun hl44 => ?_
        refine s_do (o_q (.bool (decide ((i_25 : Int) < (a_1.length : Int)))) rfl rfl rfl) ?_
        refine w_done ?_
        refine k_seq ?_
        refine w_condf rfl hq41 ?_
        refine w_exit ?_
        refine k_seqx ?_
        refine k_loopx ?_
        refine k_blkx ?_
        obtain rfl := os hc1
        exact k_cutn ⟨_, rfl⟩ ⟨[], [], _, _, rfl, rfl, trivial, .refl _⟩
      · rw [hd42, laws_eqAtomS_L1.eq_2] at hc1
        have hq41 := dlt hlt37
        refine awp_seq ?_
        refine awp_seq ?_
        refine w_reg ?_
        refine s_do (o_mov (.int .i64 (i_25 : Int)) rfl) ?_
        refine s_do (o_mov (.lst 3 (a_1.map encGAtom)) rfl) ?_
        refine s_dof (o_len (enc := encGAtom) rfl) fun hl45 => ?_
        refine s_do (o_q (.bool (decide ((i_25 : Int) < (a_1.length : Int)))) rfl rfl rfl) ?_
        refine w_done ?_
        refine k_seq ?_
        refine w_condt rfl hq41 ?_
        refine w_skip ?_
        refine k_seq ?_
        refine awp_seq ?_
        refine w_blk ?_
        refine awp_seq ?_
        refine w_reg ?_
        obtain ⟨x_46, ex47, hc1⟩ := ob hc1
        obtain ⟨r_48, er49, hc1⟩ := ob hc1
        refine s_do (o_mov (.lst 3 (a_1.map encGAtom)) rfl) ?_
        refine s_do (o_mov (.int .i64 (i_25 : Int)) rfl) ?_
        refine s_do (o_iaddrn (enc := encGAtom) rfl rfl hx38) ?_
        refine s_do (o_q (encGAtom x_43) rfl nle rfl) ?_
        refine s_do (o_mov (.lst 3 (b_2.map encGAtom)) rfl) ?_
        refine s_do (o_mov (.int .i64 (i_25 : Int)) rfl) ?_
        refine s_do (o_iaddr (enc := encGAtom) rfl rfl (idx0 ex47) (idx1 ex47)) ?_
        refine s_do (o_q (encGAtom x_46) rfl nle rfl) ?_
        refine s_dol (o_call (w_laws_eqAtom _ _ _ er49) rfl (.refl _) rfl) a_same trivial ?_
        refine s_do (o_q (.bool (!r_48)) rfl trivial rfl) ?_
        refine w_done ?_
        refine k_seq ?_
        rcases oi hc1 with ⟨c50, hc1⟩ | ⟨c50, hc1⟩
        · refine w_condt rfl c50 ?_
          refine awp_seq ?_
          refine w_reg ?_
          refine s_do (o_mov (.bool false) rfl) ?_
          refine w_done ?_
          refine k_seq ?_
          refine w_ret ?_
          obtain rfl := os hc1
          obtain rfl := os hf
          exact r_flat ⟨trivial, trivial⟩ rfl (.refl _)
        · refine w_condf rfl (bf c50) ?_
          refine w_skip ?_
          refine k_blk ?_
          refine k_seq ?_
          refine w_reg ?_
          refine s_do (o_mov (.int .i64 (i_25 : Int)) rfl) ?_
          refine s_do (o_q (.int .i64 (w64 ((i_25 : Int) + 1))) rfl rfl rfl) ?_
          refine s_do (o_mov (.int .i64 (w64 ((i_25 : Int) + 1))) rfl) ?_
          refine w_done ?_
          exact k_loopn ⟨(i_25 + 1), hc1⟩ (mul hlt37) ⟨[], [], _, _, rfl, rfl, ⟨.refl _, ⟨.refl _, ⟨.of_eq (congrArg (AV.int _) (w64_incr hlt37 hl45)), trivial⟩⟩⟩, .refl _⟩
    · rintro ⟨_, rfl⟩
      refine awp_seq ?_
      refine w_reg ?_
      refine s_do (o_mov (.bool true) rfl) ?_
      refine w_done ?_
      refine k_seq ?_
      refine w_ret ?_
      obtain rfl := os hf
      exact r_flat ⟨trivial, trivial⟩ rfl (.refl _)

/- laws.eqAtomSS -/
def c157 : ACode :=
 (.seq (.reg (.q ⟨(some 4), none, .mov (.c (.bool false))⟩
 .done))
 (.seq (.seq (.reg (.q ⟨(some 6), none, .mov (.t 0)⟩
 (.q ⟨(some 7), none, .len (.t 6)⟩
 (.q ⟨(some 8), none, .mov (.t 1)⟩
 (.q ⟨(some 9), none, .len (.t 8)⟩
 (.q ⟨(some 10), none, .bin .neq (.t 7) (.t 9)⟩
 .done))))))
 (.cond (.t 10) (.seq (.reg (.q ⟨(some 4), none, .mov (.c (.bool false))⟩
 .done))
 .ret)
 .skip))
 (.seq (.seq (.reg (.q ⟨(some 5), none, .mov (.c (.int .i64 0))⟩
 .done))
 (.block 0 (.loop (.seq (.seq (.reg (.q ⟨(some 11), none, .mov (.t 5)⟩
 (.q ⟨(some 12), none, .mov (.t 0)⟩
 (.q ⟨(some 13), none, .len (.t 12)⟩
 (.q ⟨(some 14), none, .bin .lss (.t 11) (.t 13)⟩
 .done)))))
 (.cond (.t 14) .skip
 (.exit 0)))
 (.seq (.block 1 (.seq (.reg (.q ⟨(some 17), none, .mov (.t 0)⟩
 (.q ⟨(some 18), none, .mov (.t 5)⟩
 (.q ⟨(some 19), none, .iaddr 1 (.t 17) (.t 18)⟩
 (.q ⟨(some 20), none, .load 1 false (.t 19)⟩
 (.q ⟨(some 21), none, .mov (.t 1)⟩
 (.q ⟨(some 22), none, .mov (.t 5)⟩
 (.q ⟨(some 23), none, .iaddr 1 (.t 21) (.t 22)⟩
 (.q ⟨(some 24), none, .load 1 false (.t 23)⟩
 (.l ⟨(some 25), none, .call 72 [(.t 20), (.t 24)]⟩ []
 (.q ⟨(some 26), none, .not (.t 25)⟩
 .done) .non))))))))))
 (.cond (.t 26) (.seq (.reg (.q ⟨(some 4), none, .mov (.c (.bool false))⟩
 .done))
 .ret)
 .skip)))
 (.reg (.q ⟨(some 15), none, .mov (.t 5)⟩
 (.q ⟨(some 16), none, .bin .add (.t 15) (.c (.int .i64 1))⟩
 (.q ⟨(some 5), none, .mov (.t 16)⟩
 .done)))))))))
 (.cut (.seq (.reg (.q ⟨(some 4), none, .mov (.c (.bool true))⟩
 .done))
 .ret)))))
theorem fc157 : fcomp Try.prog Try.f157 = some (c157.erase, [.mov (.t 4)], 27) := by kernel_rfl
def laws_eqAtomSS_L1 (b_2 : (List (List GAtom))) : List (List GAtom) → Nat → Option (Fl Bool Unit)
  | [], i_25 =>
    some (.go ())
  | x_43 :: xs, i_25 =>
    (idx b_2 (i_25 : Int)).bind fun x_46 =>
    (laws_eqAtomS x_43 x_46).bind fun r_48 =>
    if (!r_48) then
    some (.ret false)
    else
    laws_eqAtomSS_L1 b_2 xs (i_25 + 1)

def laws_eqAtomSS (a_1 : (List (List GAtom))) (b_2 : (List (List GAtom))) : Option Bool :=
    if ((a_1.length : Int) != (b_2.length : Int)) then
    some false
    else
    (laws_eqAtomSS_L1 b_2 a_1 0).bind fun q => (match q with
    | .ret r => some r
    | .go _ =>
    some true)
theorem w_laws_eqAtomSS (a_1 : (List (List GAtom))) (b_2 : (List (List GAtom))) (r : Bool) (hf : laws_eqAtomSS a_1 b_2 = some r) : CallOK Try.prog 157 .flat [(.lst 1 (a_1.map (encL 3 encGAtom))), (.lst 1 (b_2.map (encL 3 encGAtom)))] (.bool r) := by
  refine CallOK.of_awp mixed Try.func157 fc157 nle ?_
  rw [argT_eq]
  unfold laws_eqAtomSS at hf
  unfold c157
  refine (show awp Try.prog false 0 _ (ofL [(0, (.lst 1 (a_1.map (encL 3 encGAtom)))), (1, (.lst 1 (b_2.map (encL 3 encGAtom))))]) [] _ from ?_)
  refine awp_seq ?_
  refine w_reg ?_
  refine s_do (o_mov (.bool false) rfl) ?_
  refine w_done ?_
  refine k_seq ?_
  refine awp_seq ?_
  refine awp_seq ?_
  refine w_reg ?_
  refine s_do (o_mov (.lst 1 (a_1.map (encL 3 encGAtom))) rfl) ?_
  refine s_dof (o_len (enc := (encL 3 encGAtom)) rfl) fun hl3 => ?_
  refine s_do (o_mov (.lst 1 (b_2.map (encL 3 encGAtom))) rfl) ?_
  refine s_dof (o_len (enc := (encL 3 encGAtom)) rfl) fun hl4 => ?_
  refine s_do (o_q (.bool ((a_1.length : Int) != (b_2.length : Int))) rfl rfl rfl) ?_
  refine w_done ?_
  refine k_seq ?_
  rcases oi hf with ⟨c5, hf⟩ | ⟨c5, hf⟩
  · refine w_condt rfl c5 ?_
    refine awp_seq ?_
    refine w_reg ?_
    refine s_do (o_mov (.bool false) rfl) ?_
    refine w_done ?_
    refine k_seq ?_
    refine w_ret ?_
    obtain rfl := os hf
    exact r_flat ⟨trivial, trivial⟩ rfl (.refl _)
  · refine w_condf rfl (bf c5) ?_
    refine w_skip ?_
    refine k_seq ?_
    refine awp_seq ?_
    refine awp_seq ?_
    refine w_reg ?_
    refine s_do (o_mov (.int .i64 0) rfl) ?_
    refine w_done ?_
    refine k_seq ?_
    obtain ⟨p36, hb1, hf⟩ := ob hf
    refine awp_cutx (X := {q : Unit // p36 = .go q}) (fun q => ([], [])) ?_ ?_
    · refine awp_loop (X := {q : Nat // laws_eqAtomSS_L1 b_2 (a_1.drop q) q = some p36}) (fun q => ([(0, (.lst 1 (a_1.map (encL 3 encGAtom)))), (1, (.lst 1 (b_2.map (encL 3 encGAtom)))), (5, (.int .i64 (q.1 : Int)))], [])) (fun q => a_1.length - q.1) ⟨0, hb1⟩ ⟨[], [], _, _, rfl, rfl, ⟨.refl _, ⟨.refl _, ⟨.refl _, trivial⟩⟩⟩, .refl _⟩ ?_
      rintro ⟨i_25, hc1⟩
      have hc1 : laws_eqAtomSS_L1 b_2 (a_1.drop i_25) i_25 = some p36 := hc1
      refine (show awp Try.prog false 0 _ (ofL [(0, (.lst 1 (a_1.map (encL 3 encGAtom)))), (1, (.lst 1 (b_2.map (encL 3 encGAtom)))), (5, (.int .i64 (i_25 : Int)))]) [] _ from ?_)
      rcases dropc a_1 i_25 with ⟨hie39, hd42⟩ | ⟨hlt37, x_43, hx38, hd42⟩
      · rw [hd42, laws_eqAtomSS_L1.eq_1] at hc1
        have hq41 := dlf hie39
        refine awp_seq ?_
        refine awp_seq ?_
        refine w_reg ?_
        refine s_do (o_mov (.int .i64 (i_25 : Int)) rfl) ?_
        refine s_do (o_mov (.lst 1 (a_1.map (encL 3 encGAtom))) rfl) ?_
        refine s_dof (o_len (enc := (encL 3 encGAtom)) rfl) fun hl44 => ?_
        refine s_do (o_q (.bool (decide ((i_25 : Int) < (a_1.length : Int)))) rfl rfl rfl) ?_
        refine w_done ?_
        refine k_seq ?_
        refine w_condf rfl hq41 ?_
        refine w_exit ?_
        refine k_seqx ?_
        refine k_loopx ?_
        refine k_blkx ?_
        obtain rfl := os hc1
        exact k_cutn ⟨_, rfl⟩ ⟨[], [], _, _, rfl, rfl, trivial, .refl _⟩
      · rw [hd42, laws_eqAtomSS_L1.eq_2] at hc1
        have hq41 := dlt hlt37
        refine awp_seq ?_
        refine awp_seq ?_
        refine w_reg ?_
        refine s_do (o_mov (.int .i64 (i_25 : Int)) rfl) ?_
        refine s_do (o_mov (.lst 1 (a_1.map (encL 3 encGAtom))) rfl) ?_
        refine s_dof (o_len (enc := (encL 3 encGAtom)) rfl) fun hl45 => ?_
        refine s_do (o_q (.bool (decide ((i_25 : Int) < (a_1.length : Int)))) rfl rfl rfl) ?_
        refine w_done ?_
        refine k_seq ?_
        refine w_condt rfl hq41 ?_
        refine w_skip ?_
        refine k_seq ?_
        refine awp_seq ?_
        refine w_blk ?_
        refine awp_seq ?_
        refine w_reg ?_
        obtain ⟨x_46, ex47, hc1⟩ := ob hc1
        obtain ⟨r_48, er49, hc1⟩ := ob hc1
        refine s_do (o_mov (.lst 1 (a_1.map (encL 3 encGAtom))) rfl) ?_
        refine s_do (o_mov (.int .i64 (i_25 : Int)) rfl) ?_
        refine s_do (o_iaddrn (enc := (encL 3 encGAtom)) rfl rfl hx38) ?_
        refine s_do (o_q (.lst 3 (x_43.map encGAtom)) rfl ⟨rfl, rfl⟩ rfl) ?_
        refine s_do (o_mov (.lst 1 (b_2.map (encL 3 encGAtom))) rfl) ?_
        refine s_do (o_mov (.int .i64 (i_25 : Int)) rfl) ?_
        refine s_do (o_iaddr (enc := (encL 3 encGAtom)) rfl rfl (idx0 ex47) (idx1 ex47)) ?_
        refine s_do (o_q (.lst 3 (x_46.map encGAtom)) rfl ⟨rfl, rfl⟩ rfl) ?_
        refine s_dol (o_call (w_laws_eqAtomS _ _ _ er49) rfl (.refl _) rfl) a_same trivial ?_
        refine s_do (o_q (.bool (!r_48)) rfl trivial rfl) ?_
        refine w_done ?_
        refine k_seq ?_
        rcases oi hc1 with ⟨c50, hc1⟩ | ⟨c50, hc1⟩
        · refine w_condt rfl c50 ?_
          refine awp_seq ?_
          refine w_reg ?_
          refine s_do (o_mov (.bool false) rfl) ?_
          refine w_done ?_
          refine k_seq ?_
          refine w_ret ?_
          obtain rfl := os hc1
          obtain rfl := os hf
          exact r_flat ⟨trivial, trivial⟩ rfl (.refl _)
        · refine w_condf rfl (bf c50) ?_
          refine w_skip ?_
          refine k_blk ?_
          refine k_seq ?_
          refine w_reg ?_
          refine s_do (o_mov (.int .i64 (i_25 : Int)) rfl) ?_
          refine s_do (o_q (.int .i64 (w64 ((i_25 : Int) + 1))) rfl rfl rfl) ?_
          refine s_do (o_mov (.int .i64 (w64 ((i_25 : Int) + 1))) rfl) ?_
          refine w_done ?_
          exact k_loopn ⟨(i_25 + 1), hc1⟩ (mul hlt37) ⟨[], [], _, _, rfl, rfl, ⟨.refl _, ⟨.refl _, ⟨.of_eq (congrArg (AV.int _) (w64_incr hlt37 hl45)), trivial⟩⟩⟩, .refl _⟩
    · rintro ⟨_, rfl⟩
      refine awp_seq ?_
      refine w_reg ?_
      refine s_do (o_mov (.bool true) rfl) ?_
      refine w_done ?_
      refine k_seq ?_
      refine w_ret ?_
      obtain rfl := os hf
      exact r_flat ⟨trivial, trivial⟩ rfl (.refl _)

/- laws.eqRow -/
def c94 : ACode :=
 (.seq (.reg (.q ⟨(some 2), none, .box 2 (.t 0)⟩
 (.q ⟨(some 3), none, .box 2 (.t 1)⟩
 (.q ⟨(some 4), none, .mov (.c (.bool false))⟩
 .done))))
 (.seq (.seq (.reg (.q ⟨(some 5), none, .faddr 0 (.t 2)⟩
 (.q ⟨(some 6), none, .load 1 false (.t 5)⟩
 (.q ⟨(some 7), none, .faddr 0 (.t 3)⟩
 (.q ⟨(some 8), none, .load 1 false (.t 7)⟩
 (.q ⟨(some 9), none, .bin .neq (.t 6) (.t 8)⟩
 .done))))))
 (.cond (.t 9) (.seq (.reg (.q ⟨(some 4), none, .mov (.c (.bool false))⟩
 .done))
 .ret)
 .skip))
 (.seq (.seq (.reg (.q ⟨(some 10), none, .faddr 1 (.t 2)⟩
 (.q ⟨(some 11), none, .load 1 false (.t 10)⟩
 (.q ⟨(some 12), none, .faddr 1 (.t 3)⟩
 (.q ⟨(some 13), none, .load 1 false (.t 12)⟩
 (.q ⟨(some 14), none, .call 157 [(.t 11), (.t 13)]⟩
 (.q ⟨(some 15), none, .not (.t 14)⟩
 .done)))))))
 (.cond (.t 15) (.seq (.reg (.q ⟨(some 4), none, .mov (.c (.bool false))⟩
 .done))
 .ret)
 .skip))
 (.seq (.reg (.q ⟨(some 4), none, .mov (.c (.bool true))⟩
 .done))
 .ret))))
theorem fc94 : fcomp Try.prog Try.f94 = some (c94.erase, [.mov (.t 4)], 16) := by kernel_rfl
def laws_eqRow (a_1 : GRow) (b_2 : GRow) : Option Bool :=
    if (a_1.Id != b_2.Id) then
    some false
    else
    (laws_eqAtomSS a_1.Cells b_2.Cells).bind fun r_4 =>
    if (!r_4) then
    some false
    else
    some true
theorem w_laws_eqRow (a_1 : GRow) (b_2 : GRow) (r : Bool) (hf : laws_eqRow a_1 b_2 = some r) : CallOK Try.prog 94 .flat [(encGRow a_1), (encGRow b_2)] (.bool r) := by
  refine CallOK.of_awp mixed Try.func94 fc94 nle ?_
  rw [argT_eq]
  unfold laws_eqRow at hf
  unfold c94
  refine (show awp Try.prog false 0 _ (ofL [(0, (encGRow a_1)), (1, (encGRow b_2))]) [] _ from ?_)
  refine awp_seq ?_
  refine w_reg ?_
  refine s_do (o_box (j := 0) (c := (.agg [(.int .i64 a_1.Id), (.lst 1 (a_1.Cells.map (encL 3 encGAtom)))])) rfl trivial rfl rfl) ?_
  refine s_do (o_box (j := 1) (c := (.agg [(.int .i64 b_2.Id), (.lst 1 (b_2.Cells.map (encL 3 encGAtom)))])) rfl trivial rfl rfl) ?_
  refine s_do (o_mov (.bool false) rfl) ?_
  refine w_done ?_
  refine k_seq ?_
  refine awp_seq ?_
  refine awp_seq ?_
  refine w_reg ?_
  refine s_do (o_q (.ptr 0 0 0) rfl trivial rfl) ?_
  refine s_do (o_q (.int .i64 a_1.Id) rfl nle rfl) ?_
  refine s_do (o_q (.ptr 1 0 0) rfl trivial rfl) ?_
  refine s_do (o_q (.int .i64 b_2.Id) rfl nle rfl) ?_
  refine s_do (o_q (.bool (a_1.Id != b_2.Id)) rfl rfl rfl) ?_
  refine w_done ?_
  refine k_seq ?_
  rcases oi hf with ⟨c3, hf⟩ | ⟨c3, hf⟩
  · refine w_condt rfl c3 ?_
    refine awp_seq ?_
    refine w_reg ?_
    refine s_do (o_mov (.bool false) rfl) ?_
    refine w_done ?_
    refine k_seq ?_
    refine w_ret ?_
    obtain rfl := os hf
    exact r_flat ⟨trivial, trivial⟩ rfl (.refl _)
  · refine w_condf rfl (bf c3) ?_
    refine w_skip ?_
    refine k_seq ?_
    refine awp_seq ?_
    refine awp_seq ?_
    refine w_reg ?_
    obtain ⟨r_4, er5, hf⟩ := ob hf
    refine s_do (o_q (.ptr 0 0 1) rfl trivial rfl) ?_
    refine s_do (o_q (.lst 1 (a_1.Cells.map (encL 3 encGAtom))) rfl nle rfl) ?_
    refine s_do (o_q (.ptr 1 0 1) rfl trivial rfl) ?_
    refine s_do (o_q (.lst 1 (b_2.Cells.map (encL 3 encGAtom))) rfl nle rfl) ?_
    refine s_do (o_call (w_laws_eqAtomSS _ _ _ er5) rfl (.refl _) rfl) ?_
    refine s_do (o_q (.bool (!r_4)) rfl trivial rfl) ?_
    refine w_done ?_
    refine k_seq ?_
    rcases oi hf with ⟨c6, hf⟩ | ⟨c6, hf⟩
    · refine w_condt rfl c6 ?_
      refine awp_seq ?_
      refine w_reg ?_
      refine s_do (o_mov (.bool false) rfl) ?_
      refine w_done ?_
      refine k_seq ?_
      refine w_ret ?_
      obtain rfl := os hf
      exact r_flat ⟨trivial, trivial⟩ rfl (.refl _)
    · refine w_condf rfl (bf c6) ?_
      refine w_skip ?_
      refine k_seq ?_
      refine awp_seq ?_
      refine w_reg ?_
      refine s_do (o_mov (.bool true) rfl) ?_
      refine w_done ?_
      refine k_seq ?_
      refine w_ret ?_
      obtain rfl := os hf
      exact r_flat ⟨trivial, trivial⟩ rfl (.refl _)

/- laws.eqChange -/
def c24 : ACode :=
 (.seq (.reg (.q ⟨(some 2), none, .box 6 (.t 0)⟩
 (.q ⟨(some 3), none, .box 6 (.t 1)⟩
 (.q ⟨(some 4), none, .mov (.c (.bool false))⟩
 .done))))
 (.seq (.seq (.reg (.q ⟨(some 5), none, .faddr 0 (.t 2)⟩
 (.q ⟨(some 6), none, .load 1 false (.t 5)⟩
 (.q ⟨(some 7), none, .faddr 0 (.t 3)⟩
 (.q ⟨(some 8), none, .load 1 false (.t 7)⟩
 (.q ⟨(some 9), none, .bin .neq (.t 6) (.t 8)⟩
 .done))))))
 (.cond (.t 9) (.seq (.reg (.q ⟨(some 4), none, .mov (.c (.bool false))⟩
 .done))
 .ret)
 .skip))
 (.seq (.seq (.reg (.q ⟨(some 10), none, .faddr 1 (.t 2)⟩
 (.q ⟨(some 11), none, .load 1 false (.t 10)⟩
 (.q ⟨(some 12), none, .faddr 1 (.t 3)⟩
 (.q ⟨(some 13), none, .load 1 false (.t 12)⟩
 (.q ⟨(some 14), none, .bin .neq (.t 11) (.t 13)⟩
 .done))))))
 (.cond (.t 14) (.seq (.reg (.q ⟨(some 4), none, .mov (.c (.bool false))⟩
 .done))
 .ret)
 .skip))
 (.seq (.seq (.reg (.q ⟨(some 15), none, .faddr 2 (.t 2)⟩
 (.q ⟨(some 16), none, .load 2 true (.t 15)⟩
 (.q ⟨(some 17), none, .faddr 2 (.t 3)⟩
 (.q ⟨(some 18), none, .load 2 true (.t 17)⟩
 (.q ⟨(some 19), none, .call 94 [(.t 16), (.t 18)]⟩
 (.q ⟨(some 20), none, .not (.t 19)⟩
 .done)))))))
 (.cond (.t 20) (.seq (.reg (.q ⟨(some 4), none, .mov (.c (.bool false))⟩
 .done))
 .ret)
 .skip))
 (.seq (.seq (.reg (.q ⟨(some 21), none, .faddr 4 (.t 2)⟩
 (.q ⟨(some 22), none, .load 2 true (.t 21)⟩
 (.q ⟨(some 23), none, .faddr 4 (.t 3)⟩
 (.q ⟨(some 24), none, .load 2 true (.t 23)⟩
 (.q ⟨(some 25), none, .call 94 [(.t 22), (.t 24)]⟩
 (.q ⟨(some 26), none, .not (.t 25)⟩
 .done)))))))
 (.cond (.t 26) (.seq (.reg (.q ⟨(some 4), none, .mov (.c (.bool false))⟩
 .done))
 .ret)
 .skip))
 (.seq (.reg (.q ⟨(some 4), none, .mov (.c (.bool true))⟩
 .done))
 .ret))))))
theorem fc24 : fcomp Try.prog Try.f24 = some (c24.erase, [.mov (.t 4)], 27) := by kernel_rfl
def laws_eqChange (a_1 : GChange) (b_2 : GChange) : Option Bool :=
    if (a_1.Table != b_2.Table) then
    some false
    else
    if (a_1.Id != b_2.Id) then
    some false
    else
    (laws_eqRow a_1.Old b_2.Old).bind fun r_5 =>
    if (!r_5) then
    some false
    else
    (laws_eqRow a_1.New b_2.New).bind fun r_8 =>
    if (!r_8) then
    some false
    else
    some true
theorem w_laws_eqChange (a_1 : GChange) (b_2 : GChange) (r : Bool) (hf : laws_eqChange a_1 b_2 = some r) : CallOK Try.prog 24 .flat [(encGChange a_1), (encGChange b_2)] (.bool r) := by
  refine CallOK.of_awp mixed Try.func24 fc24 nle ?_
  rw [argT_eq]
  unfold laws_eqChange at hf
  unfold c24
  refine (show awp Try.prog false 0 _ (ofL [(0, (encGChange a_1)), (1, (encGChange b_2))]) [] _ from ?_)
  refine awp_seq ?_
  refine w_reg ?_
  refine s_do (o_box (j := 0) (c := (.agg [(.int .i64 a_1.Table), (.int .i64 a_1.Id), (.int .i64 a_1.Old.Id), (.lst 1 (a_1.Old.Cells.map (encL 3 encGAtom))), (.int .i64 a_1.New.Id), (.lst 1 (a_1.New.Cells.map (encL 3 encGAtom)))])) rfl trivial rfl rfl) ?_
  refine s_do (o_box (j := 1) (c := (.agg [(.int .i64 b_2.Table), (.int .i64 b_2.Id), (.int .i64 b_2.Old.Id), (.lst 1 (b_2.Old.Cells.map (encL 3 encGAtom))), (.int .i64 b_2.New.Id), (.lst 1 (b_2.New.Cells.map (encL 3 encGAtom)))])) rfl trivial rfl rfl) ?_
  refine s_do (o_mov (.bool false) rfl) ?_
  refine w_done ?_
  refine k_seq ?_
  refine awp_seq ?_
  refine awp_seq ?_
  refine w_reg ?_
  refine s_do (o_q (.ptr 0 0 0) rfl trivial rfl) ?_
  refine s_do (o_q (.int .i64 a_1.Table) rfl nle rfl) ?_
  refine s_do (o_q (.ptr 1 0 0) rfl trivial rfl) ?_
  refine s_do (o_q (.int .i64 b_2.Table) rfl nle rfl) ?_
  refine s_do (o_q (.bool (a_1.Table != b_2.Table)) rfl rfl rfl) ?_
  refine w_done ?_
  refine k_seq ?_
  rcases oi hf with ⟨c3, hf⟩ | ⟨c3, hf⟩
  · refine w_condt rfl c3 ?_
    refine awp_seq ?_
    refine w_reg ?_
    refine s_do (o_mov (.bool false) rfl) ?_
    refine w_done ?_
    refine k_seq ?_
    refine w_ret ?_
    obtain rfl := os hf
    exact r_flat ⟨trivial, trivial⟩ rfl (.refl _)
  · refine w_condf rfl (bf c3) ?_
    refine w_skip ?_
    refine k_seq ?_
    refine awp_seq ?_
    refine awp_seq ?_
    refine w_reg ?_
    refine s_do (o_q (.ptr 0 0 1) rfl trivial rfl) ?_
    refine s_do (o_q (.int .i64 a_1.Id) rfl nle rfl) ?_
    refine s_do (o_q (.ptr 1 0 1) rfl trivial rfl) ?_
    refine s_do (o_q (.int .i64 b_2.Id) rfl nle rfl) ?_
    refine s_do (o_q (.bool (a_1.Id != b_2.Id)) rfl rfl rfl) ?_
    refine w_done ?_
    refine k_seq ?_
    rcases oi hf with ⟨c4, hf⟩ | ⟨c4, hf⟩
    · refine w_condt rfl c4 ?_
      refine awp_seq ?_
      refine w_reg ?_
      refine s_do (o_mov (.bool false) rfl) ?_
      refine w_done ?_
      refine k_seq ?_
      refine w_ret ?_
      obtain rfl := os hf
      exact r_flat ⟨trivial, trivial⟩ rfl (.refl _)
    · refine w_condf rfl (bf c4) ?_
      refine w_skip ?_
      refine k_seq ?_
      refine awp_seq ?_
      refine awp_seq ?_
      refine w_reg ?_
      obtain ⟨r_5, er6, hf⟩ := ob hf
      refine s_do (o_q (.ptr 0 0 2) rfl trivial rfl) ?_
      refine s_do (o_q (.agg [(.int .i64 a_1.Old.Id), (.lst 1 (a_1.Old.Cells.map (encL 3 encGAtom)))]) rfl nle rfl) ?_
      refine s_do (o_q (.ptr 1 0 2) rfl trivial rfl) ?_
      refine s_do (o_q (.agg [(.int .i64 b_2.Old.Id), (.lst 1 (b_2.Old.Cells.map (encL 3 encGAtom)))]) rfl nle rfl) ?_
      refine s_do (o_call (w_laws_eqRow _ _ _ er6) rfl (.refl _) rfl) ?_
      refine s_do (o_q (.bool (!r_5)) rfl trivial rfl) ?_
      refine w_done ?_
      refine k_seq ?_
      rcases oi hf with ⟨c7, hf⟩ | ⟨c7, hf⟩
      · refine w_condt rfl c7 ?_
        refine awp_seq ?_
        refine w_reg ?_
        refine s_do (o_mov (.bool false) rfl) ?_
        refine w_done ?_
        refine k_seq ?_
        refine w_ret ?_
        obtain rfl := os hf
        exact r_flat ⟨trivial, trivial⟩ rfl (.refl _)
      · refine w_condf rfl (bf c7) ?_
        refine w_skip ?_
        refine k_seq ?_
        refine awp_seq ?_
        refine awp_seq ?_
        refine w_reg ?_
        obtain ⟨r_8, er9, hf⟩ := ob hf
        refine s_do (o_q (.ptr 0 0 4) rfl trivial rfl) ?_
        refine s_do (o_q (.agg [(.int .i64 a_1.New.Id), (.lst 1 (a_1.New.Cells.map (encL 3 encGAtom)))]) rfl nle rfl) ?_
        refine s_do (o_q (.ptr 1 0 4) rfl trivial rfl) ?_
        refine s_do (o_q (.agg [(.int .i64 b_2.New.Id), (.lst 1 (b_2.New.Cells.map (encL 3 encGAtom)))]) rfl nle rfl) ?_
        refine s_do (o_call (w_laws_eqRow _ _ _ er9) rfl (.refl _) rfl) ?_
        refine s_do (o_q (.bool (!r_8)) rfl trivial rfl) ?_
        refine w_done ?_
        refine k_seq ?_
        rcases oi hf with ⟨c10, hf⟩ | ⟨c10, hf⟩
        · refine w_condt rfl c10 ?_
          refine awp_seq ?_
          refine w_reg ?_
          refine s_do (o_mov (.bool false) rfl) ?_
          refine w_done ?_
          refine k_seq ?_
          refine w_ret ?_
          obtain rfl := os hf
          exact r_flat ⟨trivial, trivial⟩ rfl (.refl _)
        · refine w_condf rfl (bf c10) ?_
          refine w_skip ?_
          refine k_seq ?_
          refine awp_seq ?_
          refine w_reg ?_
          refine s_do (o_mov (.bool true) rfl) ?_
          refine w_done ?_
          refine k_seq ?_
          refine w_ret ?_
          obtain rfl := os hf
          exact r_flat ⟨trivial, trivial⟩ rfl (.refl _)

/- laws.FnExactChangeKind -/
def c4 : ACode :=
 (.seq (.reg (.q ⟨(some 1), none, .box 6 (.t 0)⟩
 (.q ⟨(some 2), none, .mov (.c (.bool false))⟩
 .done)))
 (.seq (.reg (.q ⟨(some 3), none, .mov (.c (.int .i64 1048576))⟩
 .done))
 (.seq (.reg (.q ⟨(some 9), none, .load 6 true (.t 1)⟩
 (.q ⟨(some 10), none, .mov (.t 3)⟩
 (.q ⟨(some 11), none, .call 20 [(.t 9), (.t 10)]⟩
 (.q ⟨(some 3), none, .mov (.t 11)⟩
 .done)))))
 (.seq (.seq (.reg (.q ⟨(some 12), none, .mov (.t 3)⟩
 (.q ⟨(some 13), none, .bin .lss (.t 12) (.c (.int .i64 0))⟩
 .done)))
 (.cond (.t 13) (.seq (.reg (.q ⟨(some 2), none, .mov (.c (.bool true))⟩
 .done))
 .ret)
 .skip))
 (.seq (.reg (.q ⟨(some 15), none, .load 6 true (.t 1)⟩
 (.q ⟨(some 16), none, .call 22 [(.t 15)]⟩
 (.q ⟨(some 17), none, .call 21 [(.t 16)]⟩
 (.q ⟨(some 14), none, .mov (.t 17)⟩
 (.q ⟨(some 18), none, .extract 0 (.t 14)⟩
 (.q ⟨(some 19), none, .extract 1 (.t 14)⟩
 (.q ⟨(some 4), none, .mov (.t 18)⟩
 (.q ⟨(some 5), none, .mov (.t 19)⟩
 .done)))))))))
 (.seq (.reg (.q ⟨(some 20), none, .load 6 true (.t 1)⟩
 (.q ⟨(some 21), none, .call 22 [(.t 20)]⟩
 (.q ⟨(some 6), none, .box 6 (.c (.agg [(.int .i64 0), (.int .i64 0), (.int .i64 0), .nil, (.int .i64 0), .nil]))⟩
 (.q ⟨none, none, .store 6 (.t 6) (.t 21)⟩
 .done)))))
 (.seq (.reg (.q ⟨(some 23), none, .load 6 true (.t 6)⟩
 (.q ⟨(some 24), none, .call 23 [(.t 23)]⟩
 (.q ⟨(some 22), none, .mov (.t 24)⟩
 (.q ⟨(some 25), none, .extract 0 (.t 22)⟩
 (.q ⟨(some 26), none, .extract 1 (.t 22)⟩
 (.q ⟨(some 7), none, .mov (.t 25)⟩
 (.q ⟨(some 8), none, .mov (.t 26)⟩
 .done))))))))
 (.seq (.seq (.reg (.q ⟨(some 27), none, .mov (.t 7)⟩
 (.q ⟨(some 28), none, .mov (.t 4)⟩
 (.q ⟨(some 29), none, .bin .neq (.t 27) (.t 28)⟩
 (.q ⟨(some 30), none, .mov (.t 29)⟩
 (.q ⟨(some 31), (some (30, false)), .mov (.t 8)⟩
 (.q ⟨(some 32), (some (30, false)), .mov (.t 5)⟩
 (.q ⟨(some 33), (some (30, false)), .bin .neq (.t 31) (.t 32)⟩
 (.q ⟨(some 34), none, .pick (.t 30) (.c (.bool true)) (.t 33)⟩
 .done)))))))))
 (.cut (.cond (.t 34) (.seq (.reg (.q ⟨(some 2), none, .mov (.c (.bool false))⟩
 .done))
 .ret)
 .skip)))
 (.seq (.seq (.reg (.q ⟨(some 35), none, .load 6 true (.t 6)⟩
 (.q ⟨(some 36), none, .load 6 true (.t 1)⟩
 (.l ⟨(some 37), none, .call 22 [(.t 36)]⟩ [⟨(some 35), none, .load 6 true (.t 6)⟩]
 (.l ⟨(some 38), none, .call 24 [(.t 35), (.t 37)]⟩ []
 (.q ⟨(some 39), none, .not (.t 38)⟩
 .done) .non) .non))))
 (.cond (.t 39) (.seq (.reg (.q ⟨(some 2), none, .mov (.c (.bool false))⟩
 .done))
 .ret)
 .skip))
 (.seq (.reg (.q ⟨(some 2), none, .mov (.c (.bool true))⟩
 .done))
 .ret))))))))))
theorem fc4 : fcomp Try.prog Try.f4 = some (c4.erase, [.mov (.t 2)], 40) := by kernel_rfl
def laws_FnExactChangeKind (aC_1 : GChange) : Option Bool :=
    (laws_szChange aC_1 1048576).bind fun r_2 =>
    if (decide (r_2 < 0)) then
    some true
    else
    (laws_toChange aC_1).bind fun r_5 =>
    (spec_ChangeKind r_5).bind fun r_7 =>
    (laws_toChange aC_1).bind fun r_9 =>
    (impl_ChangeKind r_9).bind fun r_11 =>
    (if (r_11.1 != r_7.1) then
    some true
    else
    some (r_11.2 != r_7.2)).bind fun s34_14 =>
    if s34_14 then
    some false
    else
    (laws_toChange aC_1).bind fun r_18 =>
    (laws_eqChange r_9 r_18).bind fun r_20 =>
    if (!r_20) then
    some false
    else
    some true
theorem w_laws_FnExactChangeKind (aC_1 : GChange) (r : Bool) (hf : laws_FnExactChangeKind aC_1 = some r) : CallOK Try.prog 4 .flat [(encGChange aC_1)] (.bool r) := by
  refine CallOK.of_awp mixed Try.func4 fc4 nle ?_
  rw [argT_eq]
  unfold laws_FnExactChangeKind at hf
  unfold c4
  refine (show awp Try.prog false 0 _ (ofL [(0, (encGChange aC_1))]) [] _ from ?_)
  refine awp_seq ?_
  refine w_reg ?_
  refine s_do (o_box (j := 0) (c := (.agg [(.int .i64 aC_1.Table), (.int .i64 aC_1.Id), (.int .i64 aC_1.Old.Id), (.lst 1 (aC_1.Old.Cells.map (encL 3 encGAtom))), (.int .i64 aC_1.New.Id), (.lst 1 (aC_1.New.Cells.map (encL 3 encGAtom)))])) rfl trivial rfl rfl) ?_
  refine s_do (o_mov (.bool false) rfl) ?_
  refine w_done ?_
  refine k_seq ?_
  refine awp_seq ?_
  refine w_reg ?_
  refine s_do (o_mov (.int .i64 1048576) rfl) ?_
  refine w_done ?_
  refine k_seq ?_
  refine awp_seq ?_
  refine w_reg ?_
  obtain ⟨r_2, er3, hf⟩ := ob hf
  refine s_do (o_q (.agg [(.int .i64 aC_1.Table), (.int .i64 aC_1.Id), (.int .i64 aC_1.Old.Id), (.lst 1 (aC_1.Old.Cells.map (encL 3 encGAtom))), (.int .i64 aC_1.New.Id), (.lst 1 (aC_1.New.Cells.map (encL 3 encGAtom)))]) rfl nle rfl) ?_
  refine s_do (o_mov (.int .i64 1048576) rfl) ?_
  refine s_do (o_call (w_laws_szChange _ _ _ er3) rfl (.refl _) rfl) ?_
  refine s_do (o_mov (.int .i64 r_2) rfl) ?_
  refine w_done ?_
  refine k_seq ?_
  refine awp_seq ?_
  refine awp_seq ?_
  refine w_reg ?_
  refine s_do (o_mov (.int .i64 r_2) rfl) ?_
  refine s_do (o_q (.bool (decide (r_2 < 0))) rfl rfl rfl) ?_
  refine w_done ?_
  refine k_seq ?_
  rcases oi hf with ⟨c4, hf⟩ | ⟨c4, hf⟩
  · refine w_condt rfl c4 ?_
    refine awp_seq ?_
    refine w_reg ?_
    refine s_do (o_mov (.bool true) rfl) ?_
    refine w_done ?_
    refine k_seq ?_
    refine w_ret ?_
    obtain rfl := os hf
    exact r_flat ⟨trivial, trivial⟩ rfl (.refl _)
  · refine w_condf rfl (bf c4) ?_
    refine w_skip ?_
    refine k_seq ?_
    refine awp_seq ?_
    refine w_reg ?_
    obtain ⟨r_5, er6, hf⟩ := ob hf
    obtain ⟨r_7, er8, hf⟩ := ob hf
    refine s_do (o_q (.agg [(.int .i64 aC_1.Table), (.int .i64 aC_1.Id), (.int .i64 aC_1.Old.Id), (.lst 1 (aC_1.Old.Cells.map (encL 3 encGAtom))), (.int .i64 aC_1.New.Id), (.lst 1 (aC_1.New.Cells.map (encL 3 encGAtom)))]) rfl nle rfl) ?_
    refine s_do (o_callc (w_laws_toChange _ _ er6) rfl (.refl _) rfl) ?_
    refine s_do (o_call (w_spec_ChangeKind _ _ er8) rfl (.refl _) rfl) ?_
    refine s_do (o_mov (.tup [(.int .i64 r_7.1), (.int .i64 r_7.2)]) rfl) ?_
    refine s_do (o_q (.int .i64 r_7.1) rfl nle rfl) ?_
    refine s_do (o_q (.int .i64 r_7.2) rfl nle rfl) ?_
    refine s_do (o_mov (.int .i64 r_7.1) rfl) ?_
    refine s_do (o_mov (.int .i64 r_7.2) rfl) ?_
    refine w_done ?_
    refine k_seq ?_
    refine awp_seq ?_
    refine w_reg ?_
    obtain ⟨r_9, er10, hf⟩ := ob hf
    refine s_do (o_q (.agg [(.int .i64 aC_1.Table), (.int .i64 aC_1.Id), (.int .i64 aC_1.Old.Id), (.lst 1 (aC_1.Old.Cells.map (encL 3 encGAtom))), (.int .i64 aC_1.New.Id), (.lst 1 (aC_1.New.Cells.map (encL 3 encGAtom)))]) rfl nle rfl) ?_
    refine s_do (o_callc (w_laws_toChange _ _ er10) rfl (.refl _) rfl) ?_
    refine s_do (o_box (j := 1) (c := (.agg [(.int .i64 0), (.int .i64 0), (.int .i64 0), .nil, (.int .i64 0), .nil])) rfl trivial rfl rfl) ?_
    refine s_do0 (o_storebox (v := (.agg [(.int .i64 r_9.Table), (.int .i64 r_9.Id), (.int .i64 r_9.Old.Id), (.lst 1 (r_9.Old.Cells.map (encL 3 encGAtom))), (.int .i64 r_9.New.Id), (.lst 1 (r_9.New.Cells.map (encL 3 encGAtom)))])) (y' := (.agg [(.int .i64 r_9.Table), (.int .i64 r_9.Id), (.int .i64 r_9.Old.Id), (.lst 1 (r_9.Old.Cells.map (encL 3 encGAtom))), (.int .i64 r_9.New.Id), (.lst 1 (r_9.New.Cells.map (encL 3 encGAtom)))])) rfl rfl rfl trivial ⟨rfl, nle⟩ ⟨⟨rfl, trivial⟩, ⟨⟨rfl, trivial⟩, ⟨⟨rfl, trivial⟩, ⟨⟨rfl, trivial⟩, ⟨⟨rfl, trivial⟩, ⟨⟨rfl, trivial⟩, trivial⟩⟩⟩⟩⟩⟩ rfl) ?_
    refine w_done ?_
    refine k_seq ?_
    refine awp_seq ?_
    refine w_reg ?_
    obtain ⟨r_11, er12, hf⟩ := ob hf
    refine s_do (o_q (.agg [(.int .i64 r_9.Table), (.int .i64 r_9.Id), (.int .i64 r_9.Old.Id), (.lst 1 (r_9.Old.Cells.map (encL 3 encGAtom))), (.int .i64 r_9.New.Id), (.lst 1 (r_9.New.Cells.map (encL 3 encGAtom)))]) rfl nle rfl) ?_
    refine s_do (o_call (w_impl_ChangeKind _ _ er12) rfl (.refl _) rfl) ?_
    refine s_do (o_mov (.tup [(.int .i64 r_11.1), (.int .i64 r_11.2)]) rfl) ?_
    refine s_do (o_q (.int .i64 r_11.1) rfl nle rfl) ?_
    refine s_do (o_q (.int .i64 r_11.2) rfl nle rfl) ?_
    refine s_do (o_mov (.int .i64 r_11.1) rfl) ?_
    refine s_do (o_mov (.int .i64 r_11.2) rfl) ?_
    refine w_done ?_
    refine k_seq ?_
    refine awp_seq ?_
    refine awp_seq ?_
    obtain ⟨s34_14, hb1, hf⟩ := ob hf
    refine awp_cut ([(1, (.ptr 0 0 0)), (6, (.ptr 1 0 0)), (34, (.bool s34_14))], [.box 6 (.agg [(.int .i64 aC_1.Table), (.int .i64 aC_1.Id), (.int .i64 aC_1.Old.Id), (.lst 1 (aC_1.Old.Cells.map (encL 3 encGAtom))), (.int .i64 aC_1.New.Id), (.lst 1 (aC_1.New.Cells.map (encL 3 encGAtom)))]), .box 6 (.agg [(.int .i64 r_9.Table), (.int .i64 r_9.Id), (.int .i64 r_9.Old.Id), (.lst 1 (r_9.Old.Cells.map (encL 3 encGAtom))), (.int .i64 r_9.New.Id), (.lst 1 (r_9.New.Cells.map (encL 3 encGAtom)))])]) ?_ ?_
    · refine w_reg ?_
      rcases oi hb1 with ⟨c16, hb1⟩ | ⟨c16, hb1⟩
      · refine s_do (o_mov (.int .i64 r_11.1) rfl) ?_
        refine s_do (o_mov (.int .i64 r_7.1) rfl) ?_
        refine s_do (o_q (.bool (r_11.1 != r_7.1)) rfl rfl rfl) ?_
        refine s_do (o_mov (.bool (r_11.1 != r_7.1)) rfl) ?_
        refine s_lit (s := 30) (b := true) rfl c16 ?_
        refine s_off rfl rfl ?_
        refine s_off rfl rfl ?_
        refine s_off rfl rfl ?_
        refine s_do (o_q (.bool true) rfl trivial rfl) ?_
        refine w_done ?_
        obtain rfl := os hb1
        exact ⟨[], [0, 1], _, _, rfl, rfl, ⟨.refl _, ⟨.refl _, ⟨.refl _, trivial⟩⟩⟩, .refl _⟩
      · refine s_do (o_mov (.int .i64 r_11.1) rfl) ?_
        refine s_do (o_mov (.int .i64 r_7.1) rfl) ?_
        refine s_do (o_q (.bool (r_11.1 != r_7.1)) rfl rfl rfl) ?_
        refine s_do (o_mov (.bool (r_11.1 != r_7.1)) rfl) ?_
        refine s_lit (s := 30) (b := false) rfl (bf c16) ?_
        refine s_on rfl ?_
        refine s_do (o_mov (.int .i64 r_11.2) rfl) ?_
        refine s_on rfl ?_
        refine s_do (o_mov (.int .i64 r_7.2) rfl) ?_
        refine s_on rfl ?_
        refine s_do (o_q (.bool (r_11.2 != r_7.2)) rfl rfl rfl) ?_
        refine s_do (o_q (.bool (r_11.2 != r_7.2)) rfl trivial rfl) ?_
        refine w_done ?_
        obtain rfl := os hb1
        exact ⟨[], [0, 1], _, _, rfl, rfl, ⟨.refl _, ⟨.refl _, ⟨.refl _, trivial⟩⟩⟩, .refl _⟩
    · rcases oi hf with ⟨c17, hf⟩ | ⟨c17, hf⟩
      · refine w_condt rfl c17 ?_
        refine awp_seq ?_
        refine w_reg ?_
        refine s_do (o_mov (.bool false) rfl) ?_
        refine w_done ?_
        refine k_seq ?_
        refine w_ret ?_
        obtain rfl := os hf
        exact r_flat ⟨trivial, trivial⟩ rfl (.refl _)
      · refine w_condf rfl (bf c17) ?_
        refine w_skip ?_
        refine k_seq ?_
        refine awp_seq ?_
        refine awp_seq ?_
        refine w_reg ?_
        obtain ⟨r_18, er19, hf⟩ := ob hf
        obtain ⟨r_20, er21, hf⟩ := ob hf
        refine s_do (o_q (.agg [(.int .i64 r_9.Table), (.int .i64 r_9.Id), (.int .i64 r_9.Old.Id), (.lst 1 (r_9.Old.Cells.map (encL 3 encGAtom))), (.int .i64 r_9.New.Id), (.lst 1 (r_9.New.Cells.map (encL 3 encGAtom)))]) rfl nle rfl) ?_
        refine s_do (o_q (.agg [(.int .i64 aC_1.Table), (.int .i64 aC_1.Id), (.int .i64 aC_1.Old.Id), (.lst 1 (aC_1.Old.Cells.map (encL 3 encGAtom))), (.int .i64 aC_1.New.Id), (.lst 1 (aC_1.New.Cells.map (encL 3 encGAtom)))]) rfl nle rfl) ?_
        refine s_dol (o_callc (w_laws_toChange _ _ er19) rfl (.refl _) rfl) a_same trivial ?_
        refine s_dol (o_call (w_laws_eqChange _ _ _ er21) rfl (.refl _) rfl) a_same trivial ?_
        refine s_do (o_q (.bool (!r_20)) rfl trivial rfl) ?_
        refine w_done ?_
        refine k_seq ?_
        rcases oi hf with ⟨c22, hf⟩ | ⟨c22, hf⟩
        · refine w_condt rfl c22 ?_
          refine awp_seq ?_
          refine w_reg ?_
          refine s_do (o_mov (.bool false) rfl) ?_
          refine w_done ?_
          refine k_seq ?_
          refine w_ret ?_
          obtain rfl := os hf
          exact r_flat ⟨trivial, trivial⟩ rfl (.refl _)
        · refine w_condf rfl (bf c22) ?_
          refine w_skip ?_
          refine k_seq ?_
          refine awp_seq ?_
          refine w_reg ?_
          refine s_do (o_mov (.bool true) rfl) ?_
          refine w_done ?_
          refine k_seq ?_
          refine w_ret ?_
          obtain rfl := os hf
          exact r_flat ⟨trivial, trivial⟩ rfl (.refl _)

end Go.R
