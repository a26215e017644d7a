/- Walks. -/
import Derived.Test.YthneidgpgfgecaaAPU2
set_option linter.all false
namespace Go.R
open Go Go.Proofs
set_option linter.unusedVariables false
set_option linter.unusedSimpArgs false
set_option maxHeartbeats 8000000
/- laws.markAtomSS -/
def c53_h0 : ACode :=
 (.seq (.reg (tm 4 (.c (.int .i64 0)) .done))
 (.seq (.seq (.reg (tm 5 (.c (.int .i64 0)) .done))
 (.block 0 (.loop (.seq (.seq (.reg (tm 6 (.t 5) (tm 7 (.t 0) (tq 8 (.len (.t 7)) (tq 9 (.bin .lss (.t 6) (.t 8)) .done)))))
 (.cond (.t 9) .skip
 (.exit 0)))
 (.seq (.block 1 (.rev (.reg (tm 12 (.t 0) (tm 13 (.t 5) (tq 14 (.iaddr 1 (.t 12) (.t 13)) (tq 15 (.load 1 false (.t 14)) (tm 16 (.t 1) (tq 17 (.call 83 [(.t 15), (.t 16)]) (tm 1 (.t 17) .done))))))))))
 (.reg (tm 10 (.t 5) (tq 11 (.bin .add (.t 10) (.c (.int .i64 1))) (tm 5 (.t 11) .done)))))))))
 (.cut (.seq (.reg (tm 18 (.t 1) (tm 4 (.t 18) .done)))
 .ret))))
theorem fc53_h0 : fcomp Try.prog Try.f53 = some (c53_h0.erase, [.mov (.t 4)], 19) := by kernel_rfl
def laws_markAtomSS_L1  : Nat → Int → Int → (List (List GAtom)) → Option (Int × (List (List GAtom)))
  | 0, _, _, _ => none
  | k + 1, k_58, i_59, a_60 =>
    if (decide (i_59 < (a_60.length : Int))) then
    ((a_60[(0 + i_59.toNat)]?)).bind fun x_76 =>
    if (0 : Int) ≤ i_59 ∧ i_59 < (a_60.length : Int) then
    (laws_markAtomS x_76 k_58).bind fun r_80 =>
    laws_markAtomSS_L1 k r_80.1 (w64 (i_59 + 1)) (a_60.set (0 + i_59.toNat) r_80.2)
    else none
    else
    some (k_58, a_60)

def laws_markAtomSS (a_1 : (List (List GAtom))) (k_2 : Int) : Option (Int × (List (List GAtom))) :=
    (laws_markAtomSS_L1 FUEL k_2 0 a_1).bind fun p72 =>
    (match p72 with
    | (k_70, l_71) =>
    some (k_70, l_71))
theorem w_laws_markAtomSS (a_1 : (List (List GAtom))) (k_2 : Int) (r : (Int × (List (List GAtom)))) (hf : laws_markAtomSS a_1 k_2 = some r) : CallHeap Try.prog ⟨true, true, false⟩ 53 [(.own 0 0 a_1.length), (.int .i64 k_2)] [.row 1 (a_1.map (encL 3 encGAtom))] (.int .i64 r.1) [.row 1 (r.2.map (encL 3 encGAtom))] := by
 refine CallHeap.of_awp mixed Try.func53 fc53_h0 nle ?_; rw [argT_eq]; unfold laws_markAtomSS at hf; unfold c53_h0; refine (show awp Try.prog ⟨true, true, false⟩ 1 _ (ofL [(0, (.own 0 0 a_1.length)), (1, (.int .i64 k_2))]) [.row 1 (a_1.map (encL 3 encGAtom))] _ from ?_); refine awp_seq <| w_reg <| s_mov (.int .i64 0) rfl <| w_done <| k_seq <| awp_seq <| awp_seq <| w_reg <| s_mov (.int .i64 0) rfl <| w_done <| k_seq <| ?_
 obtain ⟨p72, hb1, hf⟩ := ob hf
 refine awp_cut ([(1, (.int .i64 p72.1))], [.row 1 (p72.2.map (encL 3 encGAtom))]) ?_ ?_
 ·refine awp_loop (X := {q : (Nat × Int × Int × (List (List GAtom))) // laws_markAtomSS_L1 q.1 q.2.1 q.2.2.1 q.2.2.2 = some p72}) (fun q => ([(0, (.own 0 0 q.1.2.2.2.length)), (1, (.int .i64 q.1.2.1)), (5, (.int .i64 q.1.2.2.1))], [.row 1 (q.1.2.2.2.map (encL 3 encGAtom))])) (fun q => q.1.1) ⟨(FUEL, k_2, 0, a_1), hb1⟩ ⟨[], [0], _, _, rfl, rfl, ⟨.refl _, ⟨.refl _, ⟨.refl _, trivial⟩⟩⟩, (.refl _)⟩ ?_
  rintro ⟨⟨k, k_58, i_59, a_60⟩, hc1⟩
  have hc1 : laws_markAtomSS_L1 k k_58 i_59 a_60 = some p72 := hc1
  refine (show awp Try.prog ⟨true, true, false⟩ 1 _ (ofL [(0, (.own 0 0 a_60.length)), (1, (.int .i64 k_58)), (5, (.int .i64 i_59))]) [.row 1 (a_60.map (encL 3 encGAtom))] _ from ?_)
  rcases k with _ | k
  ·rw [laws_markAtomSS_L1.eq_1] at hc1
   cases hc1
  ·rw [laws_markAtomSS_L1.eq_2] at hc1; refine awp_seq <| awp_seq <| w_reg <| s_mov (.int .i64 i_59) rfl <| s_mov (.own 0 0 a_60.length) rfl <| s_dof (o_lenown rfl rfl) fun hl73 => s_q (.bool (decide (i_59 < (a_60.length : Int)))) rfl (.of rfl trivial) rfl <| w_done <| k_seq <| ?_
   rcases oi hc1 with ⟨c74, hc1⟩ | ⟨c74, hc1⟩
   ·refine w_condt rfl c74 <| w_skip <| k_seq <| awp_seq <| w_blk <| ?_
    obtain ⟨x_76, ex77, hc1⟩ := ob hc1
    refine w_rev (o := 0) (f := 0) (l' := x_76) (enc' := encGAtom) (el := (.lst 3 (x_76.map encGAtom))) rfl ex77 rfl rfl fun v_78 => ?_; refine w_reg ?_
    obtain ⟨g79, hc1⟩ := og hc1
    obtain ⟨r_80, er81, hc1⟩ := ob hc1
    refine s_mov (.own 0 0 a_60.length) rfl <| s_mov (.int .i64 i_59) rfl <| s_do (o_iaddrown rfl rfl g79.1 g79.2 rfl rfl) <| s_do (o_loadhdr rfl rfl (getset ex77) ⟨rfl, rfl⟩ rfl) <| s_mov (.int .i64 k_58) rfl <| s_do (o_callm (o := 0) (l := a_60) (enc := (encL 3 encGAtom)) (enc' := encGAtom) (l'' := r_80.2) (y := r_80.2) (j := 0) (el := (.hdr v_78 3 (x_76.map encGAtom))) rfl rfl (w_laws_markAtomS _ _ _ er81) rfl rfl ex77 rfl (by decide) rfl) <| s_mov (.int .i64 r_80.1) rfl <| w_done <| k_blk <| k_seq <| w_reg <| s_mov (.int .i64 i_59) rfl <| s_q (.int .i64 (w64 (i_59 + 1))) rfl (.of rfl trivial) rfl <| s_mov (.int .i64 (w64 (i_59 + 1))) rfl <| w_done <| ?_; exact k_loopn ⟨(k, r_80.1, w64 (i_59 + 1), a_60.set (0 + i_59.toNat) r_80.2), hc1⟩ (Nat.lt_succ_self _) ⟨[], [0], _, _, rfl, rfl, ⟨.of_eq (congrArg (AV.own _ 0) (by simp)), ⟨.refl _, ⟨.refl _, trivial⟩⟩⟩, (.refl _)⟩
   ·refine w_condf rfl (bf c74) <| w_exit <| k_seqx <| k_loopx <| k_blkx <| ?_; obtain rfl := os hc1; exact ⟨[], [0], _, _, rfl, rfl, ⟨.refl _, trivial⟩, (.refl _)⟩
 ·obtain ⟨k_70, l_71⟩ := p72
  refine awp_seq <| w_reg <| s_mov (.int .i64 k_70) rfl <| s_mov (.int .i64 k_70) rfl <| w_done <| k_seq <| w_ret <| ?_; obtain rfl := os hf; exact r_heap [] [0] rfl ⟨.of trivial trivial, trivial⟩ rfl (.refl _) (.refl _)

/- laws.markRowS -/
def c15_h0 : ACode :=
 (.seq (.reg (tm 4 (.c (.int .i64 0)) .done))
 (.seq (.seq (.reg (tm 5 (.c (.int .i64 0)) .done))
 (.block 0 (.loop (.seq (.seq (.reg (tm 6 (.t 5) (tm 7 (.t 0) (tq 8 (.len (.t 7)) (tq 9 (.bin .lss (.t 6) (.t 8)) .done)))))
 (.cond (.t 9) .skip
 (.exit 0)))
 (.seq (.block 1 (.seq (.reg (tm 12 (.t 0) (tm 13 (.t 5) (tm 14 (.t 1) (tq 15 (.iaddr 2 (.t 12) (.t 13)) (tq 16 (.faddr 0 (.t 15)) (.q ⟨none, none, .store 1 (.t 16) (.t 14)⟩
 .done)))))))
 (.seq (.reg (tm 17 (.t 1) (tq 18 (.bin .add (.t 17) (.c (.int .i64 1))) (tm 1 (.t 18) .done))))
 (.rev (.reg (tm 19 (.t 0) (tm 20 (.t 5) (tq 21 (.iaddr 2 (.t 19) (.t 20)) (tq 22 (.faddr 1 (.t 21)) (tq 23 (.load 1 false (.t 22)) (tm 24 (.t 1) (tq 25 (.call 53 [(.t 23), (.t 24)]) (tm 1 (.t 25) .done)))))))))))))
 (.reg (tm 10 (.t 5) (tq 11 (.bin .add (.t 10) (.c (.int .i64 1))) (tm 5 (.t 11) .done)))))))))
 (.cut (.seq (.reg (tm 26 (.t 1) (tm 4 (.t 26) .done)))
 .ret))))
theorem fc15_h0 : fcomp Try.prog Try.f15 = some (c15_h0.erase, [.mov (.t 4)], 27) := by kernel_rfl
def laws_markRowS_L1  : Nat → Int → Int → (List GRow) → Option (Int × (List GRow))
  | 0, _, _, _ => none
  | k + 1, k_63, i_64, a_65 =>
    if (decide (i_64 < (a_65.length : Int))) then
    if (0 : Int) ≤ i_64 ∧ i_64 < (a_65.length : Int) then
    (a_65[(0 + i_64.toNat)]?).bind fun x_82 =>
    if (0 : Int) ≤ i_64 ∧ i_64 < (a_65.length : Int) then
    (laws_markAtomSS x_82.Cells (w64 (k_63 + 1))).bind fun r_87 =>
    laws_markRowS_L1 k r_87.1 (w64 (i_64 + 1)) ((a_65.set (0 + i_64.toNat) (⟨k_63, x_82.Cells⟩ : GRow)).set (0 + i_64.toNat) (⟨k_63, r_87.2⟩ : GRow))
    else none
    else none
    else
    some (k_63, a_65)

def laws_markRowS (a_1 : (List GRow)) (k_2 : Int) : Option (Int × (List GRow)) :=
    (laws_markRowS_L1 FUEL k_2 0 a_1).bind fun p78 =>
    (match p78 with
    | (k_76, l_77) =>
    some (k_76, l_77))
theorem w_laws_markRowS (a_1 : (List GRow)) (k_2 : Int) (r : (Int × (List GRow))) (hf : laws_markRowS a_1 k_2 = some r) : CallHeap Try.prog ⟨true, true, false⟩ 15 [(.own 0 0 a_1.length), (.int .i64 k_2)] [.row 2 (a_1.map encGRow)] (.int .i64 r.1) [.row 2 (r.2.map encGRow)] := by
 refine CallHeap.of_awp mixed Try.func15 fc15_h0 nle ?_; rw [argT_eq]; unfold laws_markRowS at hf; unfold c15_h0; refine (show awp Try.prog ⟨true, true, false⟩ 1 _ (ofL [(0, (.own 0 0 a_1.length)), (1, (.int .i64 k_2))]) [.row 2 (a_1.map encGRow)] _ from ?_); refine awp_seq <| w_reg <| s_mov (.int .i64 0) rfl <| w_done <| k_seq <| awp_seq <| awp_seq <| w_reg <| s_mov (.int .i64 0) rfl <| w_done <| k_seq <| ?_
 obtain ⟨p78, hb1, hf⟩ := ob hf
 refine awp_cut ([(1, (.int .i64 p78.1))], [.row 2 (p78.2.map encGRow)]) ?_ ?_
 ·refine awp_loop (X := {q : (Nat × Int × Int × (List GRow)) // laws_markRowS_L1 q.1 q.2.1 q.2.2.1 q.2.2.2 = some p78}) (fun q => ([(0, (.own 0 0 q.1.2.2.2.length)), (1, (.int .i64 q.1.2.1)), (5, (.int .i64 q.1.2.2.1))], [.row 2 (q.1.2.2.2.map encGRow)])) (fun q => q.1.1) ⟨(FUEL, k_2, 0, a_1), hb1⟩ ⟨[], [0], _, _, rfl, rfl, ⟨.refl _, ⟨.refl _, ⟨.refl _, trivial⟩⟩⟩, (.refl _)⟩ ?_
  rintro ⟨⟨k, k_63, i_64, a_65⟩, hc1⟩
  have hc1 : laws_markRowS_L1 k k_63 i_64 a_65 = some p78 := hc1
  refine (show awp Try.prog ⟨true, true, false⟩ 1 _ (ofL [(0, (.own 0 0 a_65.length)), (1, (.int .i64 k_63)), (5, (.int .i64 i_64))]) [.row 2 (a_65.map encGRow)] _ from ?_)
  rcases k with _ | k
  ·rw [laws_markRowS_L1.eq_1] at hc1
   cases hc1
  ·rw [laws_markRowS_L1.eq_2] at hc1; refine awp_seq <| awp_seq <| w_reg <| s_mov (.int .i64 i_64) rfl <| s_mov (.own 0 0 a_65.length) rfl <| s_dof (o_lenown rfl rfl) fun hl79 => s_q (.bool (decide (i_64 < (a_65.length : Int)))) rfl (.of rfl trivial) rfl <| w_done <| k_seq <| ?_
   rcases oi hc1 with ⟨c80, hc1⟩ | ⟨c80, hc1⟩
   ·refine w_condt rfl c80 <| w_skip <| k_seq <| awp_seq <| w_blk <| awp_seq <| w_reg <| ?_
    obtain ⟨g81, hc1⟩ := og hc1
    obtain ⟨x_82, ex83, hc1⟩ := ob hc1
    refine s_mov (.own 0 0 a_65.length) rfl <| s_mov (.int .i64 i_64) rfl <| s_mov (.int .i64 k_63) rfl <| s_do (o_iaddrown rfl rfl g81.1 g81.2 rfl rfl) <| s_q (.ptr 0 (0 + i_64.toNat) 0) rfl (.of trivial trivial) rfl <| ?_; refine s_do0 (o_storerow (v' := (.int .i64 k_63)) (e' := (⟨k_63, x_82.Cells⟩ : GRow)) rfl rfl ex83 rfl rfl rfl (by decide) (fun _ => by decide) ⟨rfl, nle⟩ (.refl _) rfl) ?_; refine w_done <| k_seq <| awp_seq <| w_reg <| s_mov (.int .i64 k_63) rfl <| s_q (.int .i64 (w64 (k_63 + 1))) rfl (.of rfl trivial) rfl <| s_mov (.int .i64 (w64 (k_63 + 1))) rfl <| w_done <| k_seq <| ?_; refine w_rev (o := 0) (f := 1) (l' := x_82.Cells) (enc' := (encL 3 encGAtom)) (el := (.agg [(.int .i64 k_63), (.lst 1 (x_82.Cells.map (encL 3 encGAtom)))])) rfl (setget ex83) rfl rfl fun v_85 => ?_
    refine w_reg ?_
    obtain ⟨g86, hc1⟩ := og hc1
    obtain ⟨r_87, er88, hc1⟩ := ob hc1
    refine s_mov (.own 0 0 a_65.length) rfl <| s_mov (.int .i64 i_64) rfl <| s_do (o_iaddrown rfl rfl g86.1 g86.2 rfl rfl) <| s_q (.ptr 0 (0 + i_64.toNat) 1) rfl (.of trivial trivial) rfl <| s_do (o_loadhdr rfl rfl (getset (setget ex83)) nle rfl) <| s_mov (.int .i64 (w64 (k_63 + 1))) rfl <| s_do (o_callm (o := 0) (l := (a_65.set (0 + i_64.toNat) (⟨k_63, x_82.Cells⟩ : GRow))) (enc := encGRow) (enc' := (encL 3 encGAtom)) (l'' := r_87.2) (y := (⟨k_63, r_87.2⟩ : GRow)) (j := 1) (el := (.agg [(.int .i64 k_63), (.hdr v_85 1 (x_82.Cells.map (encL 3 encGAtom)))])) rfl rfl (w_laws_markAtomSS _ _ _ er88) rfl rfl (setget ex83) rfl (by decide) rfl) <| s_mov (.int .i64 r_87.1) rfl <| w_done <| k_blk <| k_seq <| w_reg <| ?_
    refine s_mov (.int .i64 i_64) rfl <| s_q (.int .i64 (w64 (i_64 + 1))) rfl (.of rfl trivial) rfl <| s_mov (.int .i64 (w64 (i_64 + 1))) rfl <| w_done <| ?_; exact k_loopn ⟨(k, r_87.1, w64 (i_64 + 1), (a_65.set (0 + i_64.toNat) (⟨k_63, x_82.Cells⟩ : GRow)).set (0 + i_64.toNat) (⟨k_63, r_87.2⟩ : GRow)), hc1⟩ (Nat.lt_succ_self _) ⟨[], [0], _, _, rfl, rfl, ⟨.of_eq (congrArg (AV.own _ 0) (by simp)), ⟨.refl _, ⟨.refl _, trivial⟩⟩⟩, (.refl _)⟩
   ·refine w_condf rfl (bf c80) <| w_exit <| k_seqx <| k_loopx <| k_blkx <| ?_; obtain rfl := os hc1; exact ⟨[], [0], _, _, rfl, rfl, ⟨.refl _, trivial⟩, (.refl _)⟩
 ·obtain ⟨k_76, l_77⟩ := p78
  refine awp_seq <| w_reg <| s_mov (.int .i64 k_76) rfl <| s_mov (.int .i64 k_76) rfl <| w_done <| k_seq <| w_ret <| ?_; obtain rfl := os hf; exact r_heap [] [0] rfl ⟨.of trivial trivial, trivial⟩ rfl (.refl _) (.refl _)

/- laws.markUpdateS -/
def c16_h0 : ACode :=
 (.seq (.reg (tm 4 (.c (.int .i64 0)) .done))
 (.seq (.seq (.reg (tm 5 (.c (.int .i64 0)) .done))
 (.block 0 (.loop (.seq (.seq (.reg (tm 6 (.t 5) (tm 7 (.t 0) (tq 8 (.len (.t 7)) (tq 9 (.bin .lss (.t 6) (.t 8)) .done)))))
 (.cond (.t 9) .skip
 (.exit 0)))
 (.seq (.block 1 (.seq (.reg (tm 12 (.t 0) (tm 13 (.t 5) (tm 14 (.t 1) (tq 15 (.iaddr 5 (.t 12) (.t 13)) (tq 16 (.faddr 0 (.t 15)) (.q ⟨none, none, .store 1 (.t 16) (.t 14)⟩
 .done)))))))
 (.seq (.reg (tm 17 (.t 1) (tq 18 (.bin .add (.t 17) (.c (.int .i64 1))) (tm 1 (.t 18) .done))))
 (.seq (.reg (tm 19 (.t 0) (tm 20 (.t 5) (tm 21 (.t 1) (tq 22 (.iaddr 5 (.t 19) (.t 20)) (tq 23 (.faddr 1 (.t 22)) (tq 24 (.faddr 0 (.t 23)) (.q ⟨none, none, .store 1 (.t 24) (.t 21)⟩
 .done))))))))
 (.seq (.reg (tm 25 (.t 1) (tq 26 (.bin .add (.t 25) (.c (.int .i64 1))) (tm 1 (.t 26) .done))))
 (.seq (.rev (.reg (tm 27 (.t 0) (tm 28 (.t 5) (tq 29 (.iaddr 5 (.t 27) (.t 28)) (tq 30 (.faddr 1 (.t 29)) (tq 31 (.faddr 1 (.t 30)) (tq 32 (.load 1 false (.t 31)) (tm 33 (.t 1) (tq 34 (.call 53 [(.t 32), (.t 33)]) (tm 1 (.t 34) .done)))))))))))
 (.seq (.reg (tm 35 (.t 0) (tm 36 (.t 5) (tm 37 (.t 1) (tq 38 (.iaddr 5 (.t 35) (.t 36)) (tq 39 (.faddr 3 (.t 38)) (tq 40 (.faddr 0 (.t 39)) (.q ⟨none, none, .store 1 (.t 40) (.t 37)⟩
 .done))))))))
 (.seq (.reg (tm 41 (.t 1) (tq 42 (.bin .add (.t 41) (.c (.int .i64 1))) (tm 1 (.t 42) .done))))
 (.rev (.reg (tm 43 (.t 0) (tm 44 (.t 5) (tq 45 (.iaddr 5 (.t 43) (.t 44)) (tq 46 (.faddr 3 (.t 45)) (tq 47 (.faddr 1 (.t 46)) (tq 48 (.load 1 false (.t 47)) (tm 49 (.t 1) (tq 50 (.call 53 [(.t 48), (.t 49)]) (tm 1 (.t 50) .done)))))))))))))))))))
 (.reg (tm 10 (.t 5) (tq 11 (.bin .add (.t 10) (.c (.int .i64 1))) (tm 5 (.t 11) .done)))))))))
 (.cut (.seq (.reg (tm 51 (.t 1) (tm 4 (.t 51) .done)))
 .ret))))
theorem fc16_h0 : fcomp Try.prog Try.f16 = some (c16_h0.erase, [.mov (.t 4)], 52) := by kernel_rfl
def laws_markUpdateS_L1  : Nat → Int → Int → (List GUpdate) → Option (Int × (List GUpdate))
  | 0, _, _, _ => none
  | k + 1, k_98, i_99, a_100 =>
    if (decide (i_99 < (a_100.length : Int))) then
    if (0 : Int) ≤ i_99 ∧ i_99 < (a_100.length : Int) then
    (a_100[(0 + i_99.toNat)]?).bind fun x_124 =>
    if (0 : Int) ≤ i_99 ∧ i_99 < (a_100.length : Int) then
    if (0 : Int) ≤ i_99 ∧ i_99 < (a_100.length : Int) then
    (laws_markAtomSS x_124.Old.Cells (w64 ((w64 (k_98 + 1)) + 1))).bind fun r_130 =>
    if (0 : Int) ≤ i_99 ∧ i_99 < (a_100.length : Int) then
    if (0 : Int) ≤ i_99 ∧ i_99 < (a_100.length : Int) then
    (laws_markAtomSS x_124.New.Cells (w64 (r_130.1 + 1))).bind fun r_136 =>
    laws_markUpdateS_L1 k r_136.1 (w64 (i_99 + 1)) (((((a_100.set (0 + i_99.toNat) (⟨k_98, x_124.Old, x_124.New⟩ : GUpdate)).set (0 + i_99.toNat) (⟨k_98, (⟨w64 (k_98 + 1), x_124.Old.Cells⟩ : GRow), x_124.New⟩ : GUpdate)).set (0 + i_99.toNat) (⟨k_98, (⟨w64 (k_98 + 1), r_130.2⟩ : GRow), x_124.New⟩ : GUpdate)).set (0 + i_99.toNat) (⟨k_98, (⟨w64 (k_98 + 1), r_130.2⟩ : GRow), (⟨r_130.1, x_124.New.Cells⟩ : GRow)⟩ : GUpdate)).set (0 + i_99.toNat) (⟨k_98, (⟨w64 (k_98 + 1), r_130.2⟩ : GRow), (⟨r_130.1, r_136.2⟩ : GRow)⟩ : GUpdate))
    else none
    else none
    else none
    else none
    else none
    else
    some (k_98, a_100)

def laws_markUpdateS (a_1 : (List GUpdate)) (k_2 : Int) : Option (Int × (List GUpdate)) :=
    (laws_markUpdateS_L1 FUEL k_2 0 a_1).bind fun p120 =>
    (match p120 with
    | (k_118, l_119) =>
    some (k_118, l_119))
theorem w_laws_markUpdateS (a_1 : (List GUpdate)) (k_2 : Int) (r : (Int × (List GUpdate))) (hf : laws_markUpdateS a_1 k_2 = some r) : CallHeap Try.prog ⟨true, true, false⟩ 16 [(.own 0 0 a_1.length), (.int .i64 k_2)] [.row 5 (a_1.map encGUpdate)] (.int .i64 r.1) [.row 5 (r.2.map encGUpdate)] := by
 refine CallHeap.of_awp mixed Try.func16 fc16_h0 nle ?_; rw [argT_eq]; unfold laws_markUpdateS at hf; unfold c16_h0; refine (show awp Try.prog ⟨true, true, false⟩ 1 _ (ofL [(0, (.own 0 0 a_1.length)), (1, (.int .i64 k_2))]) [.row 5 (a_1.map encGUpdate)] _ from ?_); refine awp_seq <| w_reg <| s_mov (.int .i64 0) rfl <| w_done <| k_seq <| awp_seq <| awp_seq <| w_reg <| s_mov (.int .i64 0) rfl <| w_done <| k_seq <| ?_
 obtain ⟨p120, hb1, hf⟩ := ob hf
 refine awp_cut ([(1, (.int .i64 p120.1))], [.row 5 (p120.2.map encGUpdate)]) ?_ ?_
 ·refine awp_loop (X := {q : (Nat × Int × Int × (List GUpdate)) // laws_markUpdateS_L1 q.1 q.2.1 q.2.2.1 q.2.2.2 = some p120}) (fun q => ([(0, (.own 0 0 q.1.2.2.2.length)), (1, (.int .i64 q.1.2.1)), (5, (.int .i64 q.1.2.2.1))], [.row 5 (q.1.2.2.2.map encGUpdate)])) (fun q => q.1.1) ⟨(FUEL, k_2, 0, a_1), hb1⟩ ⟨[], [0], _, _, rfl, rfl, ⟨.refl _, ⟨.refl _, ⟨.refl _, trivial⟩⟩⟩, (.refl _)⟩ ?_
  rintro ⟨⟨k, k_98, i_99, a_100⟩, hc1⟩
  have hc1 : laws_markUpdateS_L1 k k_98 i_99 a_100 = some p120 := hc1
  refine (show awp Try.prog ⟨true, true, false⟩ 1 _ (ofL [(0, (.own 0 0 a_100.length)), (1, (.int .i64 k_98)), (5, (.int .i64 i_99))]) [.row 5 (a_100.map encGUpdate)] _ from ?_)
  rcases k with _ | k
  ·rw [laws_markUpdateS_L1.eq_1] at hc1
   cases hc1
  ·rw [laws_markUpdateS_L1.eq_2] at hc1; refine awp_seq <| awp_seq <| w_reg <| s_mov (.int .i64 i_99) rfl <| s_mov (.own 0 0 a_100.length) rfl <| s_dof (o_lenown rfl rfl) fun hl121 => s_q (.bool (decide (i_99 < (a_100.length : Int)))) rfl (.of rfl trivial) rfl <| w_done <| k_seq <| ?_
   rcases oi hc1 with ⟨c122, hc1⟩ | ⟨c122, hc1⟩
   ·refine w_condt rfl c122 <| w_skip <| k_seq <| awp_seq <| w_blk <| awp_seq <| w_reg <| ?_
    obtain ⟨g123, hc1⟩ := og hc1
    obtain ⟨x_124, ex125, hc1⟩ := ob hc1
    refine s_mov (.own 0 0 a_100.length) rfl <| s_mov (.int .i64 i_99) rfl <| s_mov (.int .i64 k_98) rfl <| s_do (o_iaddrown rfl rfl g123.1 g123.2 rfl rfl) <| s_q (.ptr 0 (0 + i_99.toNat) 0) rfl (.of trivial trivial) rfl <| ?_; refine s_do0 (o_storerow (v' := (.int .i64 k_98)) (e' := (⟨k_98, x_124.Old, x_124.New⟩ : GUpdate)) rfl rfl ex125 rfl rfl rfl (by decide) (fun _ => by decide) ⟨rfl, nle⟩ (.refl _) rfl) ?_; refine w_done <| k_seq <| awp_seq <| w_reg <| s_mov (.int .i64 k_98) rfl <| s_q (.int .i64 (w64 (k_98 + 1))) rfl (.of rfl trivial) rfl <| s_mov (.int .i64 (w64 (k_98 + 1))) rfl <| w_done <| k_seq <| awp_seq <| w_reg <| ?_
    obtain ⟨g126, hc1⟩ := og hc1
    refine s_mov (.own 0 0 a_100.length) rfl <| s_mov (.int .i64 i_99) rfl <| s_mov (.int .i64 (w64 (k_98 + 1))) rfl <| s_do (o_iaddrown rfl rfl g126.1 g126.2 rfl rfl) <| s_q (.ptr 0 (0 + i_99.toNat) 1) rfl (.of trivial trivial) rfl <| s_q (.ptr 0 (0 + i_99.toNat) 1) rfl (.of trivial trivial) rfl <| ?_; refine s_do0 (o_storerow (v' := (.int .i64 (w64 (k_98 + 1)))) (e' := (⟨k_98, (⟨w64 (k_98 + 1), x_124.Old.Cells⟩ : GRow), x_124.New⟩ : GUpdate)) rfl rfl (setget ex125) rfl rfl rfl (by decide) (fun _ => by decide) ⟨rfl, nle⟩ (.refl _) rfl) ?_; refine w_done <| k_seq <| awp_seq <| w_reg <| s_mov (.int .i64 (w64 (k_98 + 1))) rfl <| s_q (.int .i64 (w64 ((w64 (k_98 + 1)) + 1))) rfl (.of rfl trivial) rfl <| s_mov (.int .i64 (w64 ((w64 (k_98 + 1)) + 1))) rfl <| ?_
    refine w_done <| k_seq <| awp_seq <| ?_; refine w_rev (o := 0) (f := 2) (l' := x_124.Old.Cells) (enc' := (encL 3 encGAtom)) (el := (.agg [(.int .i64 k_98), (.int .i64 (w64 (k_98 + 1))), (.lst 1 (x_124.Old.Cells.map (encL 3 encGAtom))), (.int .i64 x_124.New.Id), (.lst 1 (x_124.New.Cells.map (encL 3 encGAtom)))])) rfl (setget (setget ex125)) rfl rfl fun v_128 => ?_; refine w_reg ?_
    obtain ⟨g129, hc1⟩ := og hc1
    obtain ⟨r_130, er131, hc1⟩ := ob hc1
    refine s_mov (.own 0 0 a_100.length) rfl <| s_mov (.int .i64 i_99) rfl <| s_do (o_iaddrown rfl rfl g129.1 g129.2 rfl rfl) <| s_q (.ptr 0 (0 + i_99.toNat) 1) rfl (.of trivial trivial) rfl <| s_q (.ptr 0 (0 + i_99.toNat) 2) rfl (.of trivial trivial) rfl <| s_do (o_loadhdr rfl rfl (getset (setget (setget ex125))) nle rfl) <| s_mov (.int .i64 (w64 ((w64 (k_98 + 1)) + 1))) rfl <| s_do (o_callm (o := 0) (l := ((a_100.set (0 + i_99.toNat) (⟨k_98, x_124.Old, x_124.New⟩ : GUpdate)).set (0 + i_99.toNat) (⟨k_98, (⟨w64 (k_98 + 1), x_124.Old.Cells⟩ : GRow), x_124.New⟩ : GUpdate))) (enc := encGUpdate) (enc' := (encL 3 encGAtom)) (l'' := r_130.2) (y := (⟨k_98, (⟨w64 (k_98 + 1), r_130.2⟩ : GRow), x_124.New⟩ : GUpdate)) (j := 2) (el := (.agg [(.int .i64 k_98), (.int .i64 (w64 (k_98 + 1))), (.hdr v_128 1 (x_124.Old.Cells.map (encL 3 encGAtom))), (.int .i64 x_124.New.Id), (.lst 1 (x_124.New.Cells.map (encL 3 encGAtom)))])) rfl rfl (w_laws_markAtomSS _ _ _ er131) rfl rfl (setget (setget ex125)) rfl (by decide) rfl) <| ?_
    refine s_mov (.int .i64 r_130.1) rfl <| w_done <| k_seq <| awp_seq <| w_reg <| ?_
    obtain ⟨g132, hc1⟩ := og hc1
    refine s_mov (.own 0 0 a_100.length) rfl <| s_mov (.int .i64 i_99) rfl <| s_mov (.int .i64 r_130.1) rfl <| s_do (o_iaddrown rfl rfl g132.1 g132.2 rfl rfl) <| s_q (.ptr 0 (0 + i_99.toNat) 3) rfl (.of trivial trivial) rfl <| s_q (.ptr 0 (0 + i_99.toNat) 3) rfl (.of trivial trivial) rfl <| ?_; refine s_do0 (o_storerow (v' := (.int .i64 r_130.1)) (e' := (⟨k_98, (⟨w64 (k_98 + 1), r_130.2⟩ : GRow), (⟨r_130.1, x_124.New.Cells⟩ : GRow)⟩ : GUpdate)) rfl rfl (setget (setget (setget ex125))) rfl rfl rfl (by decide) (fun _ => by decide) ⟨rfl, nle⟩ (.refl _) rfl) ?_; refine w_done <| k_seq <| awp_seq <| w_reg <| s_mov (.int .i64 r_130.1) rfl <| s_q (.int .i64 (w64 (r_130.1 + 1))) rfl (.of rfl trivial) rfl <| s_mov (.int .i64 (w64 (r_130.1 + 1))) rfl <| ?_
    refine w_done <| k_seq <| ?_; refine w_rev (o := 0) (f := 4) (l' := x_124.New.Cells) (enc' := (encL 3 encGAtom)) (el := (.agg [(.int .i64 k_98), (.int .i64 (w64 (k_98 + 1))), (.lst 1 (r_130.2.map (encL 3 encGAtom))), (.int .i64 r_130.1), (.lst 1 (x_124.New.Cells.map (encL 3 encGAtom)))])) rfl (setget (setget (setget (setget ex125)))) rfl rfl fun v_134 => ?_; refine w_reg ?_
    obtain ⟨g135, hc1⟩ := og hc1
    obtain ⟨r_136, er137, hc1⟩ := ob hc1
    refine s_mov (.own 0 0 a_100.length) rfl <| s_mov (.int .i64 i_99) rfl <| s_do (o_iaddrown rfl rfl g135.1 g135.2 rfl rfl) <| s_q (.ptr 0 (0 + i_99.toNat) 3) rfl (.of trivial trivial) rfl <| s_q (.ptr 0 (0 + i_99.toNat) 4) rfl (.of trivial trivial) rfl <| s_do (o_loadhdr rfl rfl (getset (setget (setget (setget (setget ex125))))) nle rfl) <| s_mov (.int .i64 (w64 (r_130.1 + 1))) rfl <| s_do (o_callm (o := 0) (l := ((((a_100.set (0 + i_99.toNat) (⟨k_98, x_124.Old, x_124.New⟩ : GUpdate)).set (0 + i_99.toNat) (⟨k_98, (⟨w64 (k_98 + 1), x_124.Old.Cells⟩ : GRow), x_124.New⟩ : GUpdate)).set (0 + i_99.toNat) (⟨k_98, (⟨w64 (k_98 + 1), r_130.2⟩ : GRow), x_124.New⟩ : GUpdate)).set (0 + i_99.toNat) (⟨k_98, (⟨w64 (k_98 + 1), r_130.2⟩ : GRow), (⟨r_130.1, x_124.New.Cells⟩ : GRow)⟩ : GUpdate))) (enc := encGUpdate) (enc' := (encL 3 encGAtom)) (l'' := r_136.2) (y := (⟨k_98, (⟨w64 (k_98 + 1), r_130.2⟩ : GRow), (⟨r_130.1, r_136.2⟩ : GRow)⟩ : GUpdate)) (j := 4) (el := (.agg [(.int .i64 k_98), (.int .i64 (w64 (k_98 + 1))), (.lst 1 (r_130.2.map (encL 3 encGAtom))), (.int .i64 r_130.1), (.hdr v_134 1 (x_124.New.Cells.map (encL 3 encGAtom)))])) rfl rfl (w_laws_markAtomSS _ _ _ er137) rfl rfl (setget (setget (setget (setget ex125)))) rfl (by decide) rfl) <| ?_
    refine s_mov (.int .i64 r_136.1) rfl <| w_done <| k_blk <| k_seq <| w_reg <| s_mov (.int .i64 i_99) rfl <| s_q (.int .i64 (w64 (i_99 + 1))) rfl (.of rfl trivial) rfl <| s_mov (.int .i64 (w64 (i_99 + 1))) rfl <| w_done <| ?_; exact k_loopn ⟨(k, r_136.1, w64 (i_99 + 1), ((((a_100.set (0 + i_99.toNat) (⟨k_98, x_124.Old, x_124.New⟩ : GUpdate)).set (0 + i_99.toNat) (⟨k_98, (⟨w64 (k_98 + 1), x_124.Old.Cells⟩ : GRow), x_124.New⟩ : GUpdate)).set (0 + i_99.toNat) (⟨k_98, (⟨w64 (k_98 + 1), r_130.2⟩ : GRow), x_124.New⟩ : GUpdate)).set (0 + i_99.toNat) (⟨k_98, (⟨w64 (k_98 + 1), r_130.2⟩ : GRow), (⟨r_130.1, x_124.New.Cells⟩ : GRow)⟩ : GUpdate)).set (0 + i_99.toNat) (⟨k_98, (⟨w64 (k_98 + 1), r_130.2⟩ : GRow), (⟨r_130.1, r_136.2⟩ : GRow)⟩ : GUpdate)), hc1⟩ (Nat.lt_succ_self _) ⟨[], [0], _, _, rfl, rfl, ⟨.of_eq (congrArg (AV.own _ 0) (by simp)), ⟨.refl _, ⟨.refl _, trivial⟩⟩⟩, (.refl _)⟩
   ·refine w_condf rfl (bf c122) <| w_exit <| k_seqx <| k_loopx <| k_blkx <| ?_; obtain rfl := os hc1; exact ⟨[], [0], _, _, rfl, rfl, ⟨.refl _, trivial⟩, (.refl _)⟩
 ·obtain ⟨k_118, l_119⟩ := p120
  refine awp_seq <| w_reg <| s_mov (.int .i64 k_118) rfl <| s_mov (.int .i64 k_118) rfl <| w_done <| k_seq <| w_ret <| ?_; obtain rfl := os hf; exact r_heap [] [0] rfl ⟨.of trivial trivial, trivial⟩ rfl (.refl _) (.refl _)

/- laws.heldAtomS -/
def c84 : ACode :=
 (.seq (.reg (tm 4 (.c (.int .i64 0)) .done))
 (.seq (.seq (.reg (tm 5 (.c (.int .i64 0)) .done))
 (.block 0 (.loop (.seq (.seq (.reg (tm 6 (.t 5) (tm 7 (.t 0) (tq 8 (.len (.t 7)) (tq 9 (.bin .lss (.t 6) (.t 8)) .done)))))
 (.cond (.t 9) .skip
 (.exit 0)))
 (.seq (.block 1 (.seq (.seq (.reg (tm 12 (.t 0) (tm 13 (.t 5) (tq 14 (.iaddr 3 (.t 12) (.t 13)) (tq 15 (.faddr 0 (.t 14)) (tq 16 (.load 1 false (.t 15)) (tm 17 (.t 1) (tq 18 (.bin .neq (.t 16) (.t 17)) .done))))))))
 (.cond (.t 18) (.seq (.reg (tq 4 (.mov (.c (.int .i64 (-1)))) .done))
 .ret)
 .skip))
 (.seq (.reg (tm 19 (.t 1) (tq 20 (.bin .add (.t 19) (.c (.int .i64 1))) (tm 1 (.t 20) .done))))
 (.seq (.seq (.reg (tm 21 (.t 0) (tm 22 (.t 5) (tq 23 (.iaddr 3 (.t 21) (.t 22)) (tq 24 (.faddr 1 (.t 23)) (tq 25 (.load 1 false (.t 24)) (tm 26 (.t 1) (tq 27 (.bin .neq (.t 25) (.t 26)) .done))))))))
 (.cond (.t 27) (.seq (.reg (tq 4 (.mov (.c (.int .i64 (-1)))) .done))
 .ret)
 .skip))
 (.seq (.reg (tm 28 (.t 1) (tq 29 (.bin .add (.t 28) (.c (.int .i64 1))) (tm 1 (.t 29) .done))))
 (.seq (.seq (.reg (tm 30 (.t 0) (tm 31 (.t 5) (tq 32 (.iaddr 3 (.t 30) (.t 31)) (tq 33 (.faddr 2 (.t 32)) (tq 34 (.load 1 false (.t 33)) (tm 35 (.t 1) (.l ⟨(some 36), none, .call 105 [(.t 35)]⟩ [⟨(some 34), none, .load 1 false (.t 33)⟩, ⟨(some 33), none, .faddr 2 (.t 32)⟩, ⟨(some 32), none, .iaddr 3 (.t 30) (.t 31)⟩]
 (tq 37 (.bin .neq (.t 34) (.t 36)) .done) .non))))))))
 (.cond (.t 37) (.seq (.reg (tq 4 (.mov (.c (.int .i64 (-1)))) .done))
 .ret)
 .skip))
 (.reg (tm 38 (.t 1) (tq 39 (.bin .add (.t 38) (.c (.int .i64 1))) (tm 1 (.t 39) .done))))))))))
 (.reg (tm 10 (.t 5) (tq 11 (.bin .add (.t 10) (.c (.int .i64 1))) (tm 5 (.t 11) .done)))))))))
 (.cut (.seq (.reg (tm 40 (.t 1) (tm 4 (.t 40) .done)))
 .ret))))
theorem fc84 : fcomp Try.prog Try.f84 = some (c84.erase, [.mov (.t 4)], 41) := by kernel_rfl
def laws_heldAtomS_L1  : List GAtom → Int → Option (Fl Int Int)
  | [], k_31 =>
    some (.go k_31)
  | x_55 :: xs, k_31 =>
    if (x_55.Kind != k_31) then
    some (.ret (-1))
    else
    if (x_55.N != w64 (k_31 + 1)) then
    some (.ret (-1))
    else
    (laws_markText (w64 ((w64 (k_31 + 1)) + 1))).bind fun r_60 =>
    if (!(x_55.T == r_60)) then
    some (.ret (-1))
    else
    laws_heldAtomS_L1 xs (w64 ((w64 ((w64 (k_31 + 1)) + 1)) + 1)) 

def laws_heldAtomS (a_1 : (List GAtom)) (k_2 : Int) : Option Int :=
    (laws_heldAtomS_L1 a_1 k_2).bind fun q => (match q with
    | .ret r => some r
    | .go k_47 =>
    some k_47)
theorem w_laws_heldAtomS (a_1 : (List GAtom)) (k_2 : Int) (r : Int) (hf : laws_heldAtomS a_1 k_2 = some r) : CallOK Try.prog 84 .flat [(.lst 3 (a_1.map encGAtom)), (.int .i64 k_2)] (.int .i64 r) := by
 refine CallOK.of_awp mixed Try.func84 fc84 nle ?_; rw [argT_eq]; unfold laws_heldAtomS at hf; unfold c84; refine (show awp Try.prog false 0 _ (ofL [(0, (.lst 3 (a_1.map encGAtom))), (1, (.int .i64 k_2))]) [] _ from ?_); refine awp_seq <| w_reg <| s_mov (.int .i64 0) rfl <| w_done <| k_seq <| awp_seq <| awp_seq <| w_reg <| s_mov (.int .i64 0) rfl <| w_done <| k_seq <| ?_
 obtain ⟨p48, hb1, hf⟩ := ob hf
 refine awp_cutx (X := {q : Int // p48 = .go q}) (fun q => ([(1, (.int .i64 q.1))], [])) ?_ ?_
 ·refine awp_loop (X := {q : (Int × Nat) // laws_heldAtomS_L1 (a_1.drop q.2) q.1 = some p48}) (fun q => ([(0, (.lst 3 (a_1.map encGAtom))), (1, (.int .i64 q.1.1)), (5, (.int .i64 (q.1.2 : Int)))], [])) (fun q => a_1.length - q.1.2) ⟨(k_2, 0), hb1⟩ ⟨[], [], _, _, rfl, rfl, ⟨.refl _, ⟨.refl _, ⟨.refl _, trivial⟩⟩⟩, (.refl _)⟩ ?_
  rintro ⟨⟨k_31, i_32⟩, hc1⟩
  have hc1 : laws_heldAtomS_L1 (a_1.drop i_32) k_31 = some p48 := hc1
  refine (show awp Try.prog false 0 _ (ofL [(0, (.lst 3 (a_1.map encGAtom))), (1, (.int .i64 k_31)), (5, (.int .i64 (i_32 : Int)))]) [] _ from ?_)
  rcases dropc a_1 i_32 with ⟨hie51, hd54⟩ | ⟨hlt49, x_55, hx50, hd54⟩
  ·rw [hd54, laws_heldAtomS_L1.eq_1] at hc1
   have hq53 := dlf hie51
   refine awp_seq <| awp_seq <| w_reg <| s_mov (.int .i64 (i_32 : Int)) rfl <| s_mov (.lst 3 (a_1.map encGAtom)) rfl <| s_dof (o_len (enc := encGAtom) rfl) fun hl56 => s_q (.bool (decide ((i_32 : Int) < (a_1.length : Int)))) rfl rfl rfl <| w_done <| k_seq <| w_condf rfl hq53 <| w_exit <| k_seqx <| k_loopx <| k_blkx <| ?_; obtain rfl := os hc1; exact k_cutn ⟨_, rfl⟩ ⟨[], [], _, _, rfl, rfl, ⟨.refl _, trivial⟩, (.refl _)⟩
  ·rw [hd54, laws_heldAtomS_L1.eq_2] at hc1
   have hq53 := dlt hlt49
   refine awp_seq <| awp_seq <| w_reg <| s_mov (.int .i64 (i_32 : Int)) rfl <| s_mov (.lst 3 (a_1.map encGAtom)) rfl <| s_dof (o_len (enc := encGAtom) rfl) fun hl57 => s_q (.bool (decide ((i_32 : Int) < (a_1.length : Int)))) rfl rfl rfl <| w_done <| k_seq <| w_condt rfl hq53 <| w_skip <| k_seq <| awp_seq <| w_blk <| awp_seq <| awp_seq <| w_reg <| s_mov (.lst 3 (a_1.map encGAtom)) rfl <| s_mov (.int .i64 (i_32 : Int)) rfl <| s_do (o_iaddrn (enc := encGAtom) rfl rfl hx50) <| s_q (.iptr (encGAtom x_55) 0) rfl trivial rfl <| s_q (.int .i64 x_55.Kind) rfl nle rfl <| s_mov (.int .i64 k_31) rfl <| s_q (.bool (x_55.Kind != k_31)) rfl rfl rfl <| w_done <| k_seq <| ?_
   rcases oi hc1 with ⟨c58, hc1⟩ | ⟨c58, hc1⟩
   ·refine w_condt rfl c58 <| awp_seq <| w_reg <| s_mov (.int .i64 (-1)) rfl <| w_done <| k_seq <| w_ret <| ?_; obtain rfl := os hc1; obtain rfl := os hf; exact r_flat ⟨trivial, trivial⟩ rfl (.refl _)
   ·refine w_condf rfl (bf c58) <| w_skip <| k_seq <| awp_seq <| w_reg <| s_mov (.int .i64 k_31) rfl <| s_q (.int .i64 (w64 (k_31 + 1))) rfl rfl rfl <| s_mov (.int .i64 (w64 (k_31 + 1))) rfl <| w_done <| k_seq <| awp_seq <| awp_seq <| w_reg <| s_mov (.lst 3 (a_1.map encGAtom)) rfl <| s_mov (.int .i64 (i_32 : Int)) rfl <| s_do (o_iaddrn (enc := encGAtom) rfl rfl hx50) <| s_q (.iptr (encGAtom x_55) 1) rfl trivial rfl <| s_q (.int .i64 x_55.N) rfl nle rfl <| s_mov (.int .i64 (w64 (k_31 + 1))) rfl <| s_q (.bool (x_55.N != w64 (k_31 + 1))) rfl rfl rfl <| w_done <| k_seq <| ?_
    rcases oi hc1 with ⟨c59, hc1⟩ | ⟨c59, hc1⟩
    ·refine w_condt rfl c59 <| awp_seq <| w_reg <| s_mov (.int .i64 (-1)) rfl <| w_done <| k_seq <| w_ret <| ?_; obtain rfl := os hc1; obtain rfl := os hf; exact r_flat ⟨trivial, trivial⟩ rfl (.refl _)
    ·refine w_condf rfl (bf c59) <| w_skip <| k_seq <| awp_seq <| w_reg <| s_mov (.int .i64 (w64 (k_31 + 1))) rfl <| s_q (.int .i64 (w64 ((w64 (k_31 + 1)) + 1))) rfl rfl rfl <| s_mov (.int .i64 (w64 ((w64 (k_31 + 1)) + 1))) rfl <| w_done <| k_seq <| awp_seq <| awp_seq <| w_reg <| ?_
     obtain ⟨r_60, er61, hc1⟩ := ob hc1
     refine s_mov (.lst 3 (a_1.map encGAtom)) rfl <| s_mov (.int .i64 (i_32 : Int)) rfl <| s_do (o_iaddrn (enc := encGAtom) rfl rfl hx50) <| s_q (.iptr (encGAtom x_55) 2) rfl trivial rfl <| s_q (.str x_55.T) rfl nle rfl <| s_mov (.int .i64 (w64 ((w64 (k_31 + 1)) + 1))) rfl <| s_dol (o_call (w_laws_markText _ _ er61) rfl (.refl _) rfl) a_same trivial <| s_q (.bool (!(x_55.T == r_60))) rfl trivial rfl <| w_done <| k_seq <| ?_
     rcases oi hc1 with ⟨c62, hc1⟩ | ⟨c62, hc1⟩
     ·refine w_condt rfl c62 <| awp_seq <| w_reg <| s_mov (.int .i64 (-1)) rfl <| w_done <| k_seq <| w_ret <| ?_; obtain rfl := os hc1; obtain rfl := os hf; exact r_flat ⟨trivial, trivial⟩ rfl (.refl _)
     ·refine w_condf rfl (bf c62) <| w_skip <| k_seq <| w_reg <| s_mov (.int .i64 (w64 ((w64 (k_31 + 1)) + 1))) rfl <| s_q (.int .i64 (w64 ((w64 ((w64 (k_31 + 1)) + 1)) + 1))) rfl rfl rfl <| s_mov (.int .i64 (w64 ((w64 ((w64 (k_31 + 1)) + 1)) + 1))) rfl <| w_done <| k_blk <| k_seq <| w_reg <| s_mov (.int .i64 (i_32 : Int)) rfl <| s_q (.int .i64 (w64 ((i_32 : Int) + 1))) rfl rfl rfl <| s_mov (.int .i64 (w64 ((i_32 : Int) + 1))) rfl <| w_done <| ?_; exact k_loopn ⟨(w64 ((w64 ((w64 (k_31 + 1)) + 1)) + 1), (i_32 + 1)), hc1⟩ (mul hlt49) ⟨[], [], _, _, rfl, rfl, ⟨.refl _, ⟨.refl _, ⟨.of_eq (congrArg (AV.int _) (w64_incr hlt49 hl57)), trivial⟩⟩⟩, (.refl _)⟩
 ·rintro ⟨k_47, rfl⟩
  refine awp_seq <| w_reg <| s_mov (.int .i64 k_47) rfl <| s_mov (.int .i64 k_47) rfl <| w_done <| k_seq <| w_ret <| ?_; obtain rfl := os hf; exact r_flat ⟨trivial, trivial⟩ rfl (.refl _)

/- laws.heldAtomSS -/
def c54 : ACode :=
 (.seq (.reg (tm 4 (.c (.int .i64 0)) .done))
 (.seq (.seq (.reg (tm 5 (.c (.int .i64 0)) .done))
 (.block 0 (.loop (.seq (.seq (.reg (tm 6 (.t 5) (tm 7 (.t 0) (tq 8 (.len (.t 7)) (tq 9 (.bin .lss (.t 6) (.t 8)) .done)))))
 (.cond (.t 9) .skip
 (.exit 0)))
 (.seq (.block 1 (.seq (.reg (tm 12 (.t 0) (tm 13 (.t 5) (tq 14 (.iaddr 1 (.t 12) (.t 13)) (tq 15 (.load 1 false (.t 14)) (tm 16 (.t 1) (tq 17 (.call 84 [(.t 15), (.t 16)]) (tm 1 (.t 17) .done))))))))
 (.seq (.reg (tm 18 (.t 1) (tq 19 (.bin .lss (.t 18) (.c (.int .i64 0))) .done)))
 (.cond (.t 19) (.seq (.reg (tq 4 (.mov (.c (.int .i64 (-1)))) .done))
 .ret)
 .skip))))
 (.reg (tm 10 (.t 5) (tq 11 (.bin .add (.t 10) (.c (.int .i64 1))) (tm 5 (.t 11) .done)))))))))
 (.cut (.seq (.reg (tm 20 (.t 1) (tm 4 (.t 20) .done)))
 .ret))))
theorem fc54 : fcomp Try.prog Try.f54 = some (c54.erase, [.mov (.t 4)], 21) := by kernel_rfl
def laws_heldAtomSS_L1  : List (List GAtom) → Int → Option (Fl Int Int)
  | [], k_19 =>
    some (.go k_19)
  | x_37 :: xs, k_19 =>
    (laws_heldAtomS x_37 k_19).bind fun r_40 =>
    if (decide (r_40 < 0)) then
    some (.ret (-1))
    else
    laws_heldAtomSS_L1 xs r_40 

def laws_heldAtomSS (a_1 : (List (List GAtom))) (k_2 : Int) : Option Int :=
    (laws_heldAtomSS_L1 a_1 k_2).bind fun q => (match q with
    | .ret r => some r
    | .go k_29 =>
    some k_29)
theorem w_laws_heldAtomSS (a_1 : (List (List GAtom))) (k_2 : Int) (r : Int) (hf : laws_heldAtomSS a_1 k_2 = some r) : CallOK Try.prog 54 .flat [(.lst 1 (a_1.map (encL 3 encGAtom))), (.int .i64 k_2)] (.int .i64 r) := by
 refine CallOK.of_awp mixed Try.func54 fc54 nle ?_; rw [argT_eq]; unfold laws_heldAtomSS at hf; unfold c54; refine (show awp Try.prog false 0 _ (ofL [(0, (.lst 1 (a_1.map (encL 3 encGAtom)))), (1, (.int .i64 k_2))]) [] _ from ?_); refine awp_seq <| w_reg <| s_mov (.int .i64 0) rfl <| w_done <| k_seq <| awp_seq <| awp_seq <| w_reg <| s_mov (.int .i64 0) rfl <| w_done <| k_seq <| ?_
 obtain ⟨p30, hb1, hf⟩ := ob hf
 refine awp_cutx (X := {q : Int // p30 = .go q}) (fun q => ([(1, (.int .i64 q.1))], [])) ?_ ?_
 ·refine awp_loop (X := {q : (Int × Nat) // laws_heldAtomSS_L1 (a_1.drop q.2) q.1 = some p30}) (fun q => ([(0, (.lst 1 (a_1.map (encL 3 encGAtom)))), (1, (.int .i64 q.1.1)), (5, (.int .i64 (q.1.2 : Int)))], [])) (fun q => a_1.length - q.1.2) ⟨(k_2, 0), hb1⟩ ⟨[], [], _, _, rfl, rfl, ⟨.refl _, ⟨.refl _, ⟨.refl _, trivial⟩⟩⟩, (.refl _)⟩ ?_
  rintro ⟨⟨k_19, i_20⟩, hc1⟩
  have hc1 : laws_heldAtomSS_L1 (a_1.drop i_20) k_19 = some p30 := hc1
  refine (show awp Try.prog false 0 _ (ofL [(0, (.lst 1 (a_1.map (encL 3 encGAtom)))), (1, (.int .i64 k_19)), (5, (.int .i64 (i_20 : Int)))]) [] _ from ?_)
  rcases dropc a_1 i_20 with ⟨hie33, hd36⟩ | ⟨hlt31, x_37, hx32, hd36⟩
  ·rw [hd36, laws_heldAtomSS_L1.eq_1] at hc1
   have hq35 := dlf hie33
   refine awp_seq <| awp_seq <| w_reg <| s_mov (.int .i64 (i_20 : Int)) rfl <| s_mov (.lst 1 (a_1.map (encL 3 encGAtom))) rfl <| s_dof (o_len (enc := (encL 3 encGAtom)) rfl) fun hl38 => s_q (.bool (decide ((i_20 : Int) < (a_1.length : Int)))) rfl rfl rfl <| w_done <| k_seq <| w_condf rfl hq35 <| w_exit <| k_seqx <| k_loopx <| k_blkx <| ?_; obtain rfl := os hc1; exact k_cutn ⟨_, rfl⟩ ⟨[], [], _, _, rfl, rfl, ⟨.refl _, trivial⟩, (.refl _)⟩
  ·rw [hd36, laws_heldAtomSS_L1.eq_2] at hc1
   have hq35 := dlt hlt31
   refine awp_seq <| awp_seq <| w_reg <| s_mov (.int .i64 (i_20 : Int)) rfl <| s_mov (.lst 1 (a_1.map (encL 3 encGAtom))) rfl <| s_dof (o_len (enc := (encL 3 encGAtom)) rfl) fun hl39 => s_q (.bool (decide ((i_20 : Int) < (a_1.length : Int)))) rfl rfl rfl <| w_done <| k_seq <| w_condt rfl hq35 <| w_skip <| k_seq <| awp_seq <| w_blk <| awp_seq <| w_reg <| ?_
   obtain ⟨r_40, er41, hc1⟩ := ob hc1
   refine s_mov (.lst 1 (a_1.map (encL 3 encGAtom))) rfl <| s_mov (.int .i64 (i_20 : Int)) rfl <| s_do (o_iaddrn (enc := (encL 3 encGAtom)) rfl rfl hx32) <| s_q (.lst 3 (x_37.map encGAtom)) rfl ⟨rfl, rfl⟩ rfl <| s_mov (.int .i64 k_19) rfl <| s_do (o_call (w_laws_heldAtomS _ _ _ er41) rfl (.refl _) rfl) <| s_mov (.int .i64 r_40) rfl <| w_done <| k_seq <| awp_seq <| w_reg <| s_mov (.int .i64 r_40) rfl <| s_q (.bool (decide (r_40 < 0))) rfl rfl rfl <| w_done <| k_seq <| ?_
   rcases oi hc1 with ⟨c42, hc1⟩ | ⟨c42, hc1⟩
   ·refine w_condt rfl c42 <| awp_seq <| w_reg <| s_mov (.int .i64 (-1)) rfl <| w_done <| k_seq <| w_ret <| ?_; obtain rfl := os hc1; obtain rfl := os hf; exact r_flat ⟨trivial, trivial⟩ rfl (.refl _)
   ·refine w_condf rfl (bf c42) <| w_skip <| k_blk <| k_seq <| w_reg <| s_mov (.int .i64 (i_20 : Int)) rfl <| s_q (.int .i64 (w64 ((i_20 : Int) + 1))) rfl rfl rfl <| s_mov (.int .i64 (w64 ((i_20 : Int) + 1))) rfl <| w_done <| ?_; exact k_loopn ⟨(r_40, (i_20 + 1)), hc1⟩ (mul hlt31) ⟨[], [], _, _, rfl, rfl, ⟨.refl _, ⟨.refl _, ⟨.of_eq (congrArg (AV.int _) (w64_incr hlt31 hl39)), trivial⟩⟩⟩, (.refl _)⟩
 ·rintro ⟨k_29, rfl⟩
  refine awp_seq <| w_reg <| s_mov (.int .i64 k_29) rfl <| s_mov (.int .i64 k_29) rfl <| w_done <| k_seq <| w_ret <| ?_; obtain rfl := os hf; exact r_flat ⟨trivial, trivial⟩ rfl (.refl _)

/- laws.heldRowS -/
def c17 : ACode :=
 (.seq (.reg (tm 4 (.c (.int .i64 0)) .done))
 (.seq (.seq (.reg (tm 5 (.c (.int .i64 0)) .done))
 (.block 0 (.loop (.seq (.seq (.reg (tm 6 (.t 5) (tm 7 (.t 0) (tq 8 (.len (.t 7)) (tq 9 (.bin .lss (.t 6) (.t 8)) .done)))))
 (.cond (.t 9) .skip
 (.exit 0)))
 (.seq (.block 1 (.seq (.seq (.reg (tm 12 (.t 0) (tm 13 (.t 5) (tq 14 (.iaddr 2 (.t 12) (.t 13)) (tq 15 (.faddr 0 (.t 14)) (tq 16 (.load 1 false (.t 15)) (tm 17 (.t 1) (tq 18 (.bin .neq (.t 16) (.t 17)) .done))))))))
 (.cond (.t 18) (.seq (.reg (tq 4 (.mov (.c (.int .i64 (-1)))) .done))
 .ret)
 .skip))
 (.seq (.reg (tm 19 (.t 1) (tq 20 (.bin .add (.t 19) (.c (.int .i64 1))) (tm 1 (.t 20) .done))))
 (.seq (.reg (tm 21 (.t 0) (tm 22 (.t 5) (tq 23 (.iaddr 2 (.t 21) (.t 22)) (tq 24 (.faddr 1 (.t 23)) (tq 25 (.load 1 false (.t 24)) (tm 26 (.t 1) (tq 27 (.call 54 [(.t 25), (.t 26)]) (tm 1 (.t 27) .done)))))))))
 (.seq (.reg (tm 28 (.t 1) (tq 29 (.bin .lss (.t 28) (.c (.int .i64 0))) .done)))
 (.cond (.t 29) (.seq (.reg (tq 4 (.mov (.c (.int .i64 (-1)))) .done))
 .ret)
 .skip))))))
 (.reg (tm 10 (.t 5) (tq 11 (.bin .add (.t 10) (.c (.int .i64 1))) (tm 5 (.t 11) .done)))))))))
 (.cut (.seq (.reg (tm 30 (.t 1) (tm 4 (.t 30) .done)))
 .ret))))
theorem fc17 : fcomp Try.prog Try.f17 = some (c17.erase, [.mov (.t 4)], 31) := by kernel_rfl
def laws_heldRowS_L1  : List GRow → Int → Option (Fl Int Int)
  | [], k_25 =>
    some (.go k_25)
  | x_46 :: xs, k_25 =>
    if (x_46.Id != k_25) then
    some (.ret (-1))
    else
    (laws_heldAtomSS x_46.Cells (w64 (k_25 + 1))).bind fun r_50 =>
    if (decide (r_50 < 0)) then
    some (.ret (-1))
    else
    laws_heldRowS_L1 xs r_50 

def laws_heldRowS (a_1 : (List GRow)) (k_2 : Int) : Option Int :=
    (laws_heldRowS_L1 a_1 k_2).bind fun q => (match q with
    | .ret r => some r
    | .go k_38 =>
    some k_38)
theorem w_laws_heldRowS (a_1 : (List GRow)) (k_2 : Int) (r : Int) (hf : laws_heldRowS a_1 k_2 = some r) : CallOK Try.prog 17 .flat [(.lst 2 (a_1.map encGRow)), (.int .i64 k_2)] (.int .i64 r) := by
 refine CallOK.of_awp mixed Try.func17 fc17 nle ?_; rw [argT_eq]; unfold laws_heldRowS at hf; unfold c17; refine (show awp Try.prog false 0 _ (ofL [(0, (.lst 2 (a_1.map encGRow))), (1, (.int .i64 k_2))]) [] _ from ?_); refine awp_seq <| w_reg <| s_mov (.int .i64 0) rfl <| w_done <| k_seq <| awp_seq <| awp_seq <| w_reg <| s_mov (.int .i64 0) rfl <| w_done <| k_seq <| ?_
 obtain ⟨p39, hb1, hf⟩ := ob hf
 refine awp_cutx (X := {q : Int // p39 = .go q}) (fun q => ([(1, (.int .i64 q.1))], [])) ?_ ?_
 ·refine awp_loop (X := {q : (Int × Nat) // laws_heldRowS_L1 (a_1.drop q.2) q.1 = some p39}) (fun q => ([(0, (.lst 2 (a_1.map encGRow))), (1, (.int .i64 q.1.1)), (5, (.int .i64 (q.1.2 : Int)))], [])) (fun q => a_1.length - q.1.2) ⟨(k_2, 0), hb1⟩ ⟨[], [], _, _, rfl, rfl, ⟨.refl _, ⟨.refl _, ⟨.refl _, trivial⟩⟩⟩, (.refl _)⟩ ?_
  rintro ⟨⟨k_25, i_26⟩, hc1⟩
  have hc1 : laws_heldRowS_L1 (a_1.drop i_26) k_25 = some p39 := hc1
  refine (show awp Try.prog false 0 _ (ofL [(0, (.lst 2 (a_1.map encGRow))), (1, (.int .i64 k_25)), (5, (.int .i64 (i_26 : Int)))]) [] _ from ?_)
  rcases dropc a_1 i_26 with ⟨hie42, hd45⟩ | ⟨hlt40, x_46, hx41, hd45⟩
  ·rw [hd45, laws_heldRowS_L1.eq_1] at hc1
   have hq44 := dlf hie42
   refine awp_seq <| awp_seq <| w_reg <| s_mov (.int .i64 (i_26 : Int)) rfl <| s_mov (.lst 2 (a_1.map encGRow)) rfl <| s_dof (o_len (enc := encGRow) rfl) fun hl47 => s_q (.bool (decide ((i_26 : Int) < (a_1.length : Int)))) rfl rfl rfl <| w_done <| k_seq <| w_condf rfl hq44 <| w_exit <| k_seqx <| k_loopx <| k_blkx <| ?_; obtain rfl := os hc1; exact k_cutn ⟨_, rfl⟩ ⟨[], [], _, _, rfl, rfl, ⟨.refl _, trivial⟩, (.refl _)⟩
  ·rw [hd45, laws_heldRowS_L1.eq_2] at hc1
   have hq44 := dlt hlt40
   refine awp_seq <| awp_seq <| w_reg <| s_mov (.int .i64 (i_26 : Int)) rfl <| s_mov (.lst 2 (a_1.map encGRow)) rfl <| s_dof (o_len (enc := encGRow) rfl) fun hl48 => s_q (.bool (decide ((i_26 : Int) < (a_1.length : Int)))) rfl rfl rfl <| w_done <| k_seq <| w_condt rfl hq44 <| w_skip <| k_seq <| awp_seq <| w_blk <| awp_seq <| awp_seq <| w_reg <| s_mov (.lst 2 (a_1.map encGRow)) rfl <| s_mov (.int .i64 (i_26 : Int)) rfl <| s_do (o_iaddrn (enc := encGRow) rfl rfl hx41) <| s_q (.iptr (encGRow x_46) 0) rfl trivial rfl <| s_q (.int .i64 x_46.Id) rfl nle rfl <| s_mov (.int .i64 k_25) rfl <| s_q (.bool (x_46.Id != k_25)) rfl rfl rfl <| w_done <| k_seq <| ?_
   rcases oi hc1 with ⟨c49, hc1⟩ | ⟨c49, hc1⟩
   ·refine w_condt rfl c49 <| awp_seq <| w_reg <| s_mov (.int .i64 (-1)) rfl <| w_done <| k_seq <| w_ret <| ?_; obtain rfl := os hc1; obtain rfl := os hf; exact r_flat ⟨trivial, trivial⟩ rfl (.refl _)
   ·refine w_condf rfl (bf c49) <| w_skip <| k_seq <| awp_seq <| w_reg <| s_mov (.int .i64 k_25) rfl <| s_q (.int .i64 (w64 (k_25 + 1))) rfl rfl rfl <| s_mov (.int .i64 (w64 (k_25 + 1))) rfl <| w_done <| k_seq <| awp_seq <| w_reg <| ?_
    obtain ⟨r_50, er51, hc1⟩ := ob hc1
    refine s_mov (.lst 2 (a_1.map encGRow)) rfl <| s_mov (.int .i64 (i_26 : Int)) rfl <| s_do (o_iaddrn (enc := encGRow) rfl rfl hx41) <| s_q (.iptr (encGRow x_46) 1) rfl trivial rfl <| s_q (.lst 1 (x_46.Cells.map (encL 3 encGAtom))) rfl nle rfl <| s_mov (.int .i64 (w64 (k_25 + 1))) rfl <| s_do (o_call (w_laws_heldAtomSS _ _ _ er51) rfl (.refl _) rfl) <| s_mov (.int .i64 r_50) rfl <| w_done <| k_seq <| awp_seq <| w_reg <| s_mov (.int .i64 r_50) rfl <| s_q (.bool (decide (r_50 < 0))) rfl rfl rfl <| w_done <| k_seq <| ?_
    rcases oi hc1 with ⟨c52, hc1⟩ | ⟨c52, hc1⟩
    ·refine w_condt rfl c52 <| awp_seq <| w_reg <| s_mov (.int .i64 (-1)) rfl <| w_done <| k_seq <| w_ret <| ?_; obtain rfl := os hc1; obtain rfl := os hf; exact r_flat ⟨trivial, trivial⟩ rfl (.refl _)
    ·refine w_condf rfl (bf c52) <| w_skip <| k_blk <| k_seq <| w_reg <| s_mov (.int .i64 (i_26 : Int)) rfl <| s_q (.int .i64 (w64 ((i_26 : Int) + 1))) rfl rfl rfl <| s_mov (.int .i64 (w64 ((i_26 : Int) + 1))) rfl <| w_done <| ?_; exact k_loopn ⟨(r_50, (i_26 + 1)), hc1⟩ (mul hlt40) ⟨[], [], _, _, rfl, rfl, ⟨.refl _, ⟨.refl _, ⟨.of_eq (congrArg (AV.int _) (w64_incr hlt40 hl48)), trivial⟩⟩⟩, (.refl _)⟩
 ·rintro ⟨k_38, rfl⟩
  refine awp_seq <| w_reg <| s_mov (.int .i64 k_38) rfl <| s_mov (.int .i64 k_38) rfl <| w_done <| k_seq <| w_ret <| ?_; obtain rfl := os hf; exact r_flat ⟨trivial, trivial⟩ rfl (.refl _)

/- laws.FnExactApplyUpdates -/
def c3 : ACode :=
 (.seq (.reg (tm 4 (.c (.bool false)) .done))
 (.seq (.reg (tm 5 (.c (.int .i64 1048576)) .done))
 (.seq (.reg (tm 17 (.t 0) (tm 18 (.t 5) (tq 19 (.call 7 [(.t 17), (.t 18)]) (tm 5 (.t 19) .done)))))
 (.seq (.seq (.reg (tm 20 (.t 5) (tq 21 (.bin .lss (.t 20) (.c (.int .i64 0))) .done)))
 (.cond (.t 21) (.seq (.reg (tm 4 (.c (.bool true)) .done))
 .ret)
 .skip))
 (.seq (.reg (tm 22 (.t 1) (tm 23 (.t 5) (tq 24 (.call 8 [(.t 22), (.t 23)]) (tm 5 (.t 24) .done)))))
 (.seq (.seq (.reg (tm 25 (.t 5) (tq 26 (.bin .lss (.t 25) (.c (.int .i64 0))) .done)))
 (.cond (.t 26) (.seq (.reg (tm 4 (.c (.bool true)) .done))
 .ret)
 .skip))
 (.seq (.reg (tm 28 (.t 0) (tq 29 (.call 10 [(.t 28)]) (tm 30 (.t 1) (tq 31 (.call 11 [(.t 30)]) (tq 32 (.call 9 [(.t 29), (.t 31)]) (tm 27 (.t 32) (tq 33 (.extract 0 (.t 27)) (tq 34 (.extract 1 (.t 27)) (tm 6 (.t 33) (tm 7 (.t 34) .done)))))))))))
 (.seq (.reg (tm 35 (.t 0) (tq 36 (.call 10 [(.t 35)]) (tm 8 (.t 36) .done))))
 (.seq (.reg (tm 37 (.t 1) (tq 38 (.call 11 [(.t 37)]) (tm 9 (.t 38) .done))))
 (.seq (.reg (tm 40 (.t 8) (tm 41 (.t 9) (tq 42 (.call 12 [(.t 40), (.t 41)]) (tm 39 (.t 42) (tq 43 (.extract 0 (.t 39)) (tq 44 (.extract 1 (.t 39)) (tm 10 (.t 43) (tm 11 (.t 44) .done)))))))))
 (.seq (.seq (.reg (tm 45 (.t 10) (tm 46 (.t 6) (tq 47 (.call 13 [(.t 45), (.t 46)]) (tq 48 (.not (.t 47)) (tm 49 (.t 48) (tg 50 49 false (.mov (.t 11)) (tg 51 49 false (.mov (.t 7)) (tg 52 49 false (.bin .neq (.t 50) (.t 51)) (tq 53 (.pick (.t 49) (.c (.bool true)) (.t 52)) .done))))))))))
 (.cut (.cond (.t 53) (.seq (.reg (tm 4 (.c (.bool false)) .done))
 .ret)
 .skip)))
 (.seq (.seq (.reg (tm 54 (.t 8) (tm 55 (.t 0) (tq 56 (.call 10 [(.t 55)]) (tq 57 (.call 13 [(.t 54), (.t 56)]) (tq 58 (.not (.t 57)) .done))))))
 (.cond (.t 58) (.seq (.reg (tm 4 (.c (.bool false)) .done))
 .ret)
 .skip))
 (.seq (.seq (.reg (tm 59 (.t 9) (tm 60 (.t 1) (tq 61 (.call 11 [(.t 60)]) (tq 62 (.call 14 [(.t 59), (.t 61)]) (tq 63 (.not (.t 62)) .done))))))
 (.cond (.t 63) (.seq (.reg (tm 4 (.c (.bool false)) .done))
 .ret)
 .skip))
 (.seq (.reg (tm 12 (.c (.int .i64 1)) .done))
 (.seq (.reg (tm 64 (.t 8) (tm 65 (.t 12) (tq 66 (.call 15 [(.t 64), (.t 65)]) (tm 12 (.t 66) .done)))))
 (.seq (.reg (tm 67 (.t 9) (tm 68 (.t 12) (tq 69 (.call 16 [(.t 67), (.t 68)]) (tm 12 (.t 69) .done)))))
 (.seq (.seq (.reg (tm 70 (.t 12) (tq 71 (.bin .lss (.t 70) (.c (.int .i64 0))) (tm 72 (.t 71) (tg 73 72 false (.mov (.t 10)) (tg 74 72 false (.mov (.t 6)) (tg 75 72 false (.call 13 [(.t 73), (.t 74)]) (tg 76 72 false (.not (.t 75)) (tq 77 (.pick (.t 72) (.c (.bool true)) (.t 76)) (tm 78 (.t 77) (tg 79 78 false (.mov (.t 11)) (tg 80 78 false (.mov (.t 7)) (tg 81 78 false (.bin .neq (.t 79) (.t 80)) (tq 82 (.pick (.t 78) (.c (.bool true)) (.t 81)) .done))))))))))))))
 (.cut (.cond (.t 82) (.seq (.reg (tm 4 (.c (.bool false)) .done))
 .ret)
 .skip)))
 (.seq (.reg (tm 13 (.c (.int .i64 1)) .done))
 (.seq (.reg (tm 83 (.t 10) (tm 84 (.t 13) (tq 85 (.call 15 [(.t 83), (.t 84)]) (tm 13 (.t 85) .done)))))
 (.seq (.reg (tm 14 (.c (.int .i64 1)) .done))
 (.seq (.reg (tm 86 (.t 10) (tm 87 (.t 14) (tq 88 (.call 17 [(.t 86), (.t 87)]) (tm 14 (.t 88) .done)))))
 (.seq (.seq (.reg (tm 89 (.t 14) (tq 90 (.bin .lss (.t 89) (.c (.int .i64 0))) .done)))
 (.cond (.t 90) (.seq (.reg (tm 4 (.c (.bool false)) .done))
 .ret)
 .skip))
 (.seq (.seq (.reg (tm 91 (.t 14) (tm 92 (.t 13) (tq 93 (.bin .neq (.t 91) (.t 92)) .done))))
 (.cond (.t 93) (.seq (.reg (tm 4 (.c (.bool false)) .done))
 .ret)
 .skip))
 (.seq (.reg (tm 95 (.t 0) (tq 96 (.call 10 [(.t 95)]) (tm 97 (.t 1) (tq 98 (.call 11 [(.t 97)]) (tq 99 (.call 12 [(.t 96), (.t 98)]) (tm 94 (.t 99) (tq 100 (.extract 0 (.t 94)) (tq 101 (.extract 1 (.t 94)) (tm 15 (.t 100) (tm 16 (.t 101) .done)))))))))))
 (.seq (.seq (.reg (tm 102 (.t 15) (tm 103 (.t 6) (tq 104 (.call 13 [(.t 102), (.t 103)]) (tq 105 (.not (.t 104)) (tm 106 (.t 105) (tg 107 106 false (.mov (.t 16)) (tg 108 106 false (.mov (.t 7)) (tg 109 106 false (.bin .neq (.t 107) (.t 108)) (tq 110 (.pick (.t 106) (.c (.bool true)) (.t 109)) .done))))))))))
 (.cut (.cond (.t 110) (.seq (.reg (tm 4 (.c (.bool false)) .done))
 .ret)
 .skip)))
 (.seq (.reg (tm 14 (.c (.int .i64 1)) .done))
 (.seq (.reg (tm 111 (.t 10) (tm 112 (.t 14) (tq 113 (.call 17 [(.t 111), (.t 112)]) (tm 14 (.t 113) .done)))))
 (.seq (.seq (.reg (tm 114 (.t 14) (tq 115 (.bin .lss (.t 114) (.c (.int .i64 0))) .done)))
 (.cond (.t 115) (.seq (.reg (tm 4 (.c (.bool false)) .done))
 .ret)
 .skip))
 (.seq (.seq (.reg (tm 116 (.t 14) (tm 117 (.t 13) (tq 118 (.bin .neq (.t 116) (.t 117)) .done))))
 (.cond (.t 118) (.seq (.reg (tm 4 (.c (.bool false)) .done))
 .ret)
 .skip))
 (.seq (.reg (tm 4 (.c (.bool true)) .done))
 .ret))))))))))))))))))))))))))))))
theorem fc3 : fcomp Try.prog Try.f3 = some (c3.erase, [.mov (.t 4)], 119) := by kernel_rfl
def laws_FnExactApplyUpdates (aRows_1 : (List GRow)) (aList_2 : (List GUpdate)) : Option Bool :=
    (laws_szRowS aRows_1 1048576).bind fun r_3 =>
    if (decide (r_3 < 0)) then
    some true
    else
    (laws_szUpdateS aList_2 r_3).bind fun r_6 =>
    if (decide (r_6 < 0)) then
    some true
    else
    (laws_toRowS aRows_1).bind fun r_9 =>
    (laws_toUpdateS aList_2).bind fun r_11 =>
    (spec_ApplyUpdates r_9 r_11).bind fun r_13 =>
    (laws_toRowS aRows_1).bind fun r_15 =>
    (laws_toUpdateS aList_2).bind fun r_17 =>
    (impl_ApplyUpdates r_15 r_17).bind fun r_19 =>
    (((laws_eqRowS r_19.1 r_13.1).bind fun r_26 =>
    if (!r_26) then
    some true
    else
    some (r_19.2 != r_13.2) : Option Bool)).bind fun s53_24 =>
    if s53_24 then
    some false
    else
    (laws_toRowS aRows_1).bind fun r_30 =>
    (laws_eqRowS r_15 r_30).bind fun r_32 =>
    if (!r_32) then
    some false
    else
    (laws_toUpdateS aList_2).bind fun r_35 =>
    (laws_eqUpdateS r_17 r_35).bind fun r_37 =>
    if (!r_37) then
    some false
    else
    (laws_markRowS r_15 1).bind fun r_40 =>
    (laws_markUpdateS r_17 r_40.1).bind fun r_43 =>
    ((if (decide (r_43.1 < 0)) then
    some true
    else
    (laws_eqRowS r_19.1 r_13.1).bind fun r_52 =>
    some (bif (!r_52) then true else (r_19.2 != r_13.2)) : Option Bool)).bind fun s82_49 =>
    if s82_49 then
    some false
    else
    (laws_markRowS r_19.1 1).bind fun r_55 =>
    (laws_heldRowS r_55.2 1).bind fun r_58 =>
    if (decide (r_58 < 0)) then
    some false
    else
    if (r_58 != r_55.1) then
    some false
    else
    (laws_toRowS aRows_1).bind fun r_62 =>
    (laws_toUpdateS aList_2).bind fun r_64 =>
    (impl_ApplyUpdates r_62 r_64).bind fun r_66 =>
    (((laws_eqRowS r_66.1 r_13.1).bind fun r_73 =>
    if (!r_73) then
    some true
    else
    some (r_66.2 != r_13.2) : Option Bool)).bind fun s110_71 =>
    if s110_71 then
    some false
    else
    (laws_heldRowS r_55.2 1).bind fun r_77 =>
    if (decide (r_77 < 0)) then
    some false
    else
    if (r_77 != r_55.1) then
    some false
    else
    some true
theorem w_laws_FnExactApplyUpdates (aRows_1 : (List GRow)) (aList_2 : (List GUpdate)) (r : Bool) (hf : laws_FnExactApplyUpdates aRows_1 aList_2 = some r) : CallOK Try.prog 3 .flat [(.lst 2 (aRows_1.map encGRow)), (.lst 5 (aList_2.map encGUpdate))] (.bool r) := by
 refine CallOK.of_awp' (md := ⟨true, true, true⟩) (fun _ => rfl) (fun _ => rfl) (fun h => by cases h) mixed Try.func3 fc3 nle ?_; rw [argT_eq]; unfold laws_FnExactApplyUpdates at hf; unfold c3; refine (show awp Try.prog ⟨true, true, true⟩ 0 _ (ofL [(0, (.lst 2 (aRows_1.map encGRow))), (1, (.lst 5 (aList_2.map encGUpdate)))]) [] _ from ?_); refine awp_seq <| w_reg <| s_mov (.bool false) rfl <| w_done <| k_seq <| awp_seq <| w_reg <| s_mov (.int .i64 1048576) rfl <| w_done <| k_seq <| awp_seq <| w_reg <| ?_
 obtain ⟨r_3, er4, hf⟩ := ob hf
 refine s_mov (.lst 2 (aRows_1.map encGRow)) rfl <| s_mov (.int .i64 1048576) rfl <| s_do (o_call (w_laws_szRowS _ _ _ er4) rfl (.refl _) rfl) <| s_mov (.int .i64 r_3) rfl <| w_done <| k_seq <| awp_seq <| awp_seq <| w_reg <| s_mov (.int .i64 r_3) rfl <| s_q (.bool (decide (r_3 < 0))) rfl (.of rfl trivial) rfl <| w_done <| k_seq <| ?_
 rcases oi hf with ⟨c5, hf⟩ | ⟨c5, hf⟩
 ·refine w_condt rfl c5 <| awp_seq <| w_reg <| s_mov (.bool true) rfl <| w_done <| k_seq <| w_ret <| ?_; obtain rfl := os hf; exact r_flat ⟨.of trivial trivial, trivial⟩ rfl (.refl _)
 ·refine w_condf rfl (bf c5) <| w_skip <| k_seq <| awp_seq <| w_reg <| ?_
  obtain ⟨r_6, er7, hf⟩ := ob hf
  refine s_mov (.lst 5 (aList_2.map encGUpdate)) rfl <| s_mov (.int .i64 r_3) rfl <| s_do (o_call (w_laws_szUpdateS _ _ _ er7) rfl (.refl _) rfl) <| s_mov (.int .i64 r_6) rfl <| w_done <| k_seq <| awp_seq <| awp_seq <| w_reg <| s_mov (.int .i64 r_6) rfl <| s_q (.bool (decide (r_6 < 0))) rfl (.of rfl trivial) rfl <| w_done <| k_seq <| ?_
  rcases oi hf with ⟨c8, hf⟩ | ⟨c8, hf⟩
  ·refine w_condt rfl c8 <| awp_seq <| w_reg <| s_mov (.bool true) rfl <| w_done <| k_seq <| w_ret <| ?_; obtain rfl := os hf; exact r_flat ⟨.of trivial trivial, trivial⟩ rfl (.refl _)
  ·refine w_condf rfl (bf c8) <| w_skip <| k_seq <| awp_seq <| w_reg <| ?_
   obtain ⟨r_9, er10, hf⟩ := ob hf
   obtain ⟨r_11, er12, hf⟩ := ob hf
   obtain ⟨r_13, er14, hf⟩ := ob hf
   refine s_mov (.lst 2 (aRows_1.map encGRow)) rfl <| s_do (o_callf (v := (.own 0 0 r_9.length)) (h' := [.row 2 (r_9.map encGRow)]) (w_laws_toRowS _ _ er10) rfl (.refl _) (by simp only [openV, openVs, List.length_map, List.nil_append, List.append_nil, List.cons_append]; rfl)) <| s_mov (.lst 5 (aList_2.map encGUpdate)) rfl <| s_do (o_callf (v := (.own 1 0 r_11.length)) (h' := [.row 5 (r_11.map encGUpdate)]) (w_laws_toUpdateS _ _ er12) rfl (.refl _) (by simp only [openV, openVs, List.length_map, List.nil_append, List.append_nil, List.cons_append]; rfl)) <| s_do (o_callz rfl rfl (w_spec_ApplyUpdates _ _ _ er14) rfl (.cons (.of_eq (congrArg (AV.lst _) (tk (enc := encGRow) r_9))) (.cons (.of_eq (congrArg (AV.lst _) (tk (enc := encGUpdate) r_11))) .nil)) rfl rfl) <| ?_
   refine s_mov (.tup [(.lst 2 (r_13.1.map encGRow)), (.int .i64 r_13.2)]) rfl <| s_q (.lst 2 (r_13.1.map encGRow)) rfl (.of nle trivial) rfl <| s_q (.int .i64 r_13.2) rfl (.of nle trivial) rfl <| s_mov (.lst 2 (r_13.1.map encGRow)) rfl <| s_mov (.int .i64 r_13.2) rfl <| w_done <| k_seq <| awp_seq <| w_reg <| ?_
   obtain ⟨r_15, er16, hf⟩ := ob hf
   refine s_mov (.lst 2 (aRows_1.map encGRow)) rfl <| s_do (o_callf (v := (.own 2 0 r_15.length)) (h' := [.row 2 (r_15.map encGRow)]) (w_laws_toRowS _ _ er16) rfl (.refl _) (by simp only [openV, openVs, List.length_map, List.nil_append, List.append_nil, List.cons_append]; rfl)) <| s_mov (.own 2 0 r_15.length) rfl <| w_done <| k_seq <| awp_seq <| w_reg <| ?_
   obtain ⟨r_17, er18, hf⟩ := ob hf
   refine s_mov (.lst 5 (aList_2.map encGUpdate)) rfl <| s_do (o_callf (v := (.own 3 0 r_17.length)) (h' := [.row 5 (r_17.map encGUpdate)]) (w_laws_toUpdateS _ _ er18) rfl (.refl _) (by simp only [openV, openVs, List.length_map, List.nil_append, List.append_nil, List.cons_append]; rfl)) <| s_mov (.own 3 0 r_17.length) rfl <| w_done <| k_seq <| awp_seq <| w_reg <| ?_
   obtain ⟨r_19, er20, hf⟩ := ob hf
   refine s_mov (.own 2 0 r_15.length) rfl <| s_mov (.own 3 0 r_17.length) rfl <| s_do (o_callf (v := (.tup [(.own 4 0 r_19.1.length), (.int .i64 r_19.2)])) (h' := [.row 2 (r_19.1.map encGRow)]) (w_impl_ApplyUpdates _ _ _ er20) rfl (.cons (.of_eq (congrArg (AV.lst _) (tko r_15))) (.cons (.of_eq (congrArg (AV.lst _) (tko r_17))) .nil)) (by simp only [openV, openVs, List.length_map, List.nil_append, List.append_nil, List.cons_append]; rfl)) <| s_mov (.tup [(.own 4 0 r_19.1.length), (.int .i64 r_19.2)]) rfl <| s_q (.own 4 0 r_19.1.length) rfl (.of nle trivial) rfl <| s_q (.int .i64 r_19.2) rfl (.of nle trivial) rfl <| s_mov (.own 4 0 r_19.1.length) rfl <| s_mov (.int .i64 r_19.2) rfl <| w_done <| k_seq <| awp_seq <| ?_
   refine awp_seq ?_
   obtain ⟨s53_24, hb1, hf⟩ := ob hf
   refine awp_cut ([(0, (.lst 2 (aRows_1.map encGRow))), (1, (.lst 5 (aList_2.map encGUpdate))), (6, (.lst 2 (r_13.1.map encGRow))), (7, (.int .i64 r_13.2)), (8, (.own 0 0 r_15.length)), (9, (.own 1 0 r_17.length)), (10, (.own 2 0 r_19.1.length)), (11, (.int .i64 r_19.2)), (53, (.bool s53_24))], [.row 2 (r_15.map encGRow), .row 5 (r_17.map encGUpdate), .row 2 (r_19.1.map encGRow)]) ?_ ?_
   ·refine w_reg ?_
    obtain ⟨r_26, er27, hb1⟩ := ob hb1
    rcases oi hb1 with ⟨c28, hb1⟩ | ⟨c28, hb1⟩
    ·refine s_mov (.own 4 0 r_19.1.length) rfl <| s_mov (.lst 2 (r_13.1.map encGRow)) rfl <| s_do (o_call (w_laws_eqRowS _ _ _ er27) rfl (.cons (.of_eq (congrArg (AV.lst _) (tko r_19.1))) (.cons (.refl _) .nil)) rfl) <| s_q (.bool (!r_26)) rfl (.of trivial trivial) rfl <| s_mov (.bool (!r_26)) rfl <| s_lit (s := 49) (b := true) rfl c28 <| s_off rfl rfl <| s_off rfl rfl <| s_off rfl rfl <| s_q (.bool true) rfl (.of trivial trivial) rfl <| w_done <| ?_; obtain rfl := os hb1; exact ⟨[], [2, 3, 4], _, _, rfl, rfl, ⟨.refl _, ⟨.refl _, ⟨.refl _, ⟨.refl _, ⟨.refl _, ⟨.refl _, ⟨.refl _, ⟨.refl _, ⟨.refl _, trivial⟩⟩⟩⟩⟩⟩⟩⟩⟩, (.refl _)⟩
    ·refine s_mov (.own 4 0 r_19.1.length) rfl <| s_mov (.lst 2 (r_13.1.map encGRow)) rfl <| s_do (o_call (w_laws_eqRowS _ _ _ er27) rfl (.cons (.of_eq (congrArg (AV.lst _) (tko r_19.1))) (.cons (.refl _) .nil)) rfl) <| s_q (.bool (!r_26)) rfl (.of trivial trivial) rfl <| s_mov (.bool (!r_26)) rfl <| s_lit (s := 49) (b := false) rfl (bf c28) <| s_on rfl <| s_mov (.int .i64 r_19.2) rfl <| s_on rfl <| s_mov (.int .i64 r_13.2) rfl <| s_on rfl <| s_q (.bool (r_19.2 != r_13.2)) rfl (.of rfl trivial) rfl <| s_q (.bool (r_19.2 != r_13.2)) rfl (.of trivial trivial) rfl <| w_done <| ?_; obtain rfl := os hb1; exact ⟨[], [2, 3, 4], _, _, rfl, rfl, ⟨.refl _, ⟨.refl _, ⟨.refl _, ⟨.refl _, ⟨.refl _, ⟨.refl _, ⟨.refl _, ⟨.refl _, ⟨.refl _, trivial⟩⟩⟩⟩⟩⟩⟩⟩⟩, (.refl _)⟩
   ·rcases oi hf with ⟨c29, hf⟩ | ⟨c29, hf⟩
    ·refine w_condt rfl c29 <| awp_seq <| w_reg <| s_mov (.bool false) rfl <| w_done <| k_seq <| w_ret <| ?_; obtain rfl := os hf; exact r_flat ⟨.of trivial trivial, trivial⟩ rfl (.refl _)
    ·refine w_condf rfl (bf c29) <| w_skip <| k_seq <| awp_seq <| awp_seq <| w_reg <| ?_
     obtain ⟨r_30, er31, hf⟩ := ob hf
     obtain ⟨r_32, er33, hf⟩ := ob hf
     refine s_mov (.own 0 0 r_15.length) rfl <| s_mov (.lst 2 (aRows_1.map encGRow)) rfl <| s_do (o_callf (v := (.own 3 0 r_30.length)) (h' := [.row 2 (r_30.map encGRow)]) (w_laws_toRowS _ _ er31) rfl (.refl _) (by simp only [openV, openVs, List.length_map, List.nil_append, List.append_nil, List.cons_append]; rfl)) <| s_do (o_call (w_laws_eqRowS _ _ _ er33) rfl (.cons (.of_eq (congrArg (AV.lst _) (tko r_15))) (.cons (.of_eq (congrArg (AV.lst _) (tko r_30))) .nil)) rfl) <| s_q (.bool (!r_32)) rfl (.of trivial trivial) rfl <| w_done <| k_seq <| ?_
     rcases oi hf with ⟨c34, hf⟩ | ⟨c34, hf⟩
     ·refine w_condt rfl c34 <| awp_seq <| w_reg <| s_mov (.bool false) rfl <| w_done <| k_seq <| w_ret <| ?_; obtain rfl := os hf; exact r_flat ⟨.of trivial trivial, trivial⟩ rfl (.refl _)
     ·refine w_condf rfl (bf c34) <| w_skip <| k_seq <| awp_seq <| awp_seq <| w_reg <| ?_
      obtain ⟨r_35, er36, hf⟩ := ob hf
      obtain ⟨r_37, er38, hf⟩ := ob hf
      refine s_mov (.own 1 0 r_17.length) rfl <| s_mov (.lst 5 (aList_2.map encGUpdate)) rfl <| s_do (o_callf (v := (.own 4 0 r_35.length)) (h' := [.row 5 (r_35.map encGUpdate)]) (w_laws_toUpdateS _ _ er36) rfl (.refl _) (by simp only [openV, openVs, List.length_map, List.nil_append, List.append_nil, List.cons_append]; rfl)) <| s_do (o_call (w_laws_eqUpdateS _ _ _ er38) rfl (.cons (.of_eq (congrArg (AV.lst _) (tko r_17))) (.cons (.of_eq (congrArg (AV.lst _) (tko r_35))) .nil)) rfl) <| s_q (.bool (!r_37)) rfl (.of trivial trivial) rfl <| w_done <| k_seq <| ?_
      rcases oi hf with ⟨c39, hf⟩ | ⟨c39, hf⟩
      ·refine w_condt rfl c39 <| awp_seq <| w_reg <| s_mov (.bool false) rfl <| w_done <| k_seq <| w_ret <| ?_; obtain rfl := os hf; exact r_flat ⟨.of trivial trivial, trivial⟩ rfl (.refl _)
      ·refine w_condf rfl (bf c39) <| w_skip <| k_seq <| awp_seq <| w_reg <| s_mov (.int .i64 1) rfl <| w_done <| k_seq <| awp_seq <| w_reg <| ?_
       obtain ⟨r_40, er41, hf⟩ := ob hf
       refine s_mov (.own 0 0 r_15.length) rfl <| s_mov (.int .i64 1) rfl <| ?_; refine s_dof (o_callhs (v := (.int .i64 r_40.1)) (h2 := [.row 2 (r_40.2.map encGRow), .row 5 (r_17.map encGUpdate), .row 2 (r_19.1.map encGRow), .row 2 (r_30.map encGRow), .row 5 (r_35.map encGUpdate)]) [] [0] (fun _ => rfl) (w_laws_markRowS _ _ _ er41) rfl (.refl _) (.refl _) rfl rfl) fun hl42 => ?_; refine s_mov (.int .i64 r_40.1) rfl <| w_done <| k_seq <| awp_seq <| w_reg <| ?_
       obtain ⟨r_43, er44, hf⟩ := ob hf
       refine s_mov (.own 1 0 r_17.length) rfl <| s_mov (.int .i64 r_40.1) rfl <| ?_; refine s_dof (o_callhs (v := (.int .i64 r_43.1)) (h2 := [.row 2 (r_40.2.map encGRow), .row 5 (r_43.2.map encGUpdate), .row 2 (r_19.1.map encGRow), .row 2 (r_30.map encGRow), .row 5 (r_35.map encGUpdate)]) [] [1] (fun _ => rfl) (w_laws_markUpdateS _ _ _ er44) rfl (.refl _) (.refl _) rfl rfl) fun hl45 => ?_; refine s_mov (.int .i64 r_43.1) rfl <| w_done <| k_seq <| awp_seq <| awp_seq <| ?_
       obtain ⟨s82_49, hb1, hf⟩ := ob hf
       refine awp_cut ([(0, (.lst 2 (aRows_1.map encGRow))), (1, (.lst 5 (aList_2.map encGUpdate))), (6, (.lst 2 (r_13.1.map encGRow))), (7, (.int .i64 r_13.2)), (10, (.own 0 0 r_19.1.length)), (82, (.bool s82_49))], [.row 2 (r_19.1.map encGRow)]) ?_ ?_
       ·refine w_reg <| s_mov (.int .i64 r_43.1) rfl <| s_q (.bool (decide (r_43.1 < 0))) rfl (.of rfl trivial) rfl <| s_mov (.bool (decide (r_43.1 < 0))) rfl <| ?_
        rcases oi hb1 with ⟨c51, hb1⟩ | ⟨c51, hb1⟩
        ·refine s_lit (s := 72) (b := true) rfl c51 <| s_off rfl rfl <| s_off rfl rfl <| s_off rfl rfl <| s_off rfl rfl <| s_q (.bool true) rfl (.of trivial trivial) rfl <| s_mov (.bool true) rfl <| s_off rfl rfl <| s_off rfl rfl <| s_off rfl rfl <| s_q (.bool true) rfl (.of trivial trivial) rfl <| w_done <| ?_; obtain rfl := os hb1; exact ⟨[], [2], _, _, rfl, rfl, ⟨.refl _, ⟨.refl _, ⟨.refl _, ⟨.refl _, ⟨.refl _, ⟨.refl _, trivial⟩⟩⟩⟩⟩⟩, (.refl _)⟩
        ·refine s_lit (s := 72) (b := false) rfl (bf c51) <| s_on rfl <| s_mov (.own 2 0 r_19.1.length) rfl <| s_on rfl <| s_mov (.lst 2 (r_13.1.map encGRow)) rfl <| s_on rfl <| ?_
         obtain ⟨r_52, er53, hb1⟩ := ob hb1
         refine s_do (o_call (w_laws_eqRowS _ _ _ er53) rfl (.cons (.of_eq (congrArg (AV.lst _) (tko r_19.1))) (.cons (.refl _) .nil)) rfl) <| s_on rfl <| s_q (.bool (!r_52)) rfl (.of trivial trivial) rfl <| s_q (.bool (!r_52)) rfl (.of trivial trivial) rfl <| s_mov (.bool (!r_52)) rfl <| ?_; refine s_g (v := (!r_52)) (.int .i64 r_19.2) rfl (fun hv => by (try simp only [gs_on hv]); exact ⟨rfl, .of trivial trivial, rfl⟩) ?_; refine s_g (v := (!r_52)) (.int .i64 r_13.2) rfl (fun hv => by (try simp only [gs_on hv]); exact ⟨rfl, .of trivial trivial, rfl⟩) ?_; refine s_g (v := (!r_52)) (.bool (r_19.2 != r_13.2)) rfl (fun hv => by (try simp only [gs_on hv]); exact ⟨rfl, (.of rfl trivial), rfl⟩) ?_; refine s_pick (x := true) (y := (r_19.2 != r_13.2)) rfl (fun hv => by (try simp only [gs_on hv]); rfl) (fun hv => by (try simp only [gs_on hv]); rfl) ?_
         refine w_done ?_; obtain rfl := os hb1; exact ⟨[], [2], _, _, rfl, rfl, ⟨.refl _, ⟨.refl _, ⟨.refl _, ⟨.refl _, ⟨.refl _, ⟨.refl _, trivial⟩⟩⟩⟩⟩⟩, (.refl _)⟩
       ·rcases oi hf with ⟨c54, hf⟩ | ⟨c54, hf⟩
        ·refine w_condt rfl c54 <| awp_seq <| w_reg <| s_mov (.bool false) rfl <| w_done <| k_seq <| w_ret <| ?_; obtain rfl := os hf; exact r_flat ⟨.of trivial trivial, trivial⟩ rfl (.refl _)
        ·refine w_condf rfl (bf c54) <| w_skip <| k_seq <| awp_seq <| w_reg <| s_mov (.int .i64 1) rfl <| w_done <| k_seq <| awp_seq <| w_reg <| ?_
         obtain ⟨r_55, er56, hf⟩ := ob hf
         refine s_mov (.own 0 0 r_19.1.length) rfl <| s_mov (.int .i64 1) rfl <| ?_; refine s_dof (o_callhs (v := (.int .i64 r_55.1)) (h2 := [.row 2 (r_55.2.map encGRow)]) [] [0] (fun _ => rfl) (w_laws_markRowS _ _ _ er56) rfl (.refl _) (.refl _) rfl rfl) fun hl57 => ?_; refine s_mov (.int .i64 r_55.1) rfl <| w_done <| k_seq <| awp_seq <| w_reg <| s_mov (.int .i64 1) rfl <| w_done <| k_seq <| awp_seq <| w_reg <| ?_
         obtain ⟨r_58, er59, hf⟩ := ob hf
         refine s_mov (.own 0 0 r_19.1.length) rfl <| s_mov (.int .i64 1) rfl <| s_do (o_call (w_laws_heldRowS _ _ _ er59) rfl (.cons (.of_eq (congrArg (AV.lst _) (tkol (hl57 0 _ _ _ _ rfl rfl)))) (.cons (.refl _) .nil)) rfl) <| s_mov (.int .i64 r_58) rfl <| w_done <| k_seq <| awp_seq <| awp_seq <| w_reg <| s_mov (.int .i64 r_58) rfl <| s_q (.bool (decide (r_58 < 0))) rfl (.of rfl trivial) rfl <| w_done <| k_seq <| ?_
         rcases oi hf with ⟨c60, hf⟩ | ⟨c60, hf⟩
         ·refine w_condt rfl c60 <| awp_seq <| w_reg <| s_mov (.bool false) rfl <| w_done <| k_seq <| w_ret <| ?_; obtain rfl := os hf; exact r_flat ⟨.of trivial trivial, trivial⟩ rfl (.refl _)
         ·refine w_condf rfl (bf c60) <| w_skip <| k_seq <| awp_seq <| awp_seq <| w_reg <| s_mov (.int .i64 r_58) rfl <| s_mov (.int .i64 r_55.1) rfl <| s_q (.bool (r_58 != r_55.1)) rfl (.of rfl trivial) rfl <| w_done <| k_seq <| ?_
          rcases oi hf with ⟨c61, hf⟩ | ⟨c61, hf⟩
          ·refine w_condt rfl c61 <| awp_seq <| w_reg <| s_mov (.bool false) rfl <| w_done <| k_seq <| w_ret <| ?_; obtain rfl := os hf; exact r_flat ⟨.of trivial trivial, trivial⟩ rfl (.refl _)
          ·refine w_condf rfl (bf c61) <| w_skip <| k_seq <| awp_seq <| w_reg <| ?_
           obtain ⟨r_62, er63, hf⟩ := ob hf
           obtain ⟨r_64, er65, hf⟩ := ob hf
           obtain ⟨r_66, er67, hf⟩ := ob hf
           refine s_mov (.lst 2 (aRows_1.map encGRow)) rfl <| s_do (o_callf (v := (.own 1 0 r_62.length)) (h' := [.row 2 (r_62.map encGRow)]) (w_laws_toRowS _ _ er63) rfl (.refl _) (by simp only [openV, openVs, List.length_map, List.nil_append, List.append_nil, List.cons_append]; rfl)) <| s_mov (.lst 5 (aList_2.map encGUpdate)) rfl <| s_do (o_callf (v := (.own 2 0 r_64.length)) (h' := [.row 5 (r_64.map encGUpdate)]) (w_laws_toUpdateS _ _ er65) rfl (.refl _) (by simp only [openV, openVs, List.length_map, List.nil_append, List.append_nil, List.cons_append]; rfl)) <| s_do (o_callf (v := (.tup [(.own 3 0 r_66.1.length), (.int .i64 r_66.2)])) (h' := [.row 2 (r_66.1.map encGRow)]) (w_impl_ApplyUpdates _ _ _ er67) rfl (.cons (.of_eq (congrArg (AV.lst _) (tko r_62))) (.cons (.of_eq (congrArg (AV.lst _) (tko r_64))) .nil)) (by simp only [openV, openVs, List.length_map, List.nil_append, List.append_nil, List.cons_append]; rfl)) <| ?_
           refine s_mov (.tup [(.own 3 0 r_66.1.length), (.int .i64 r_66.2)]) rfl <| s_q (.own 3 0 r_66.1.length) rfl (.of nle trivial) rfl <| s_q (.int .i64 r_66.2) rfl (.of nle trivial) rfl <| s_mov (.own 3 0 r_66.1.length) rfl <| s_mov (.int .i64 r_66.2) rfl <| w_done <| k_seq <| awp_seq <| awp_seq <| ?_
           obtain ⟨s110_71, hb1, hf⟩ := ob hf
           refine awp_cut ([(10, (.own 0 0 r_55.2.length)), (13, (.int .i64 r_55.1)), (110, (.bool s110_71))], [.row 2 (r_55.2.map encGRow)]) ?_ ?_
           ·refine w_reg ?_
            obtain ⟨r_73, er74, hb1⟩ := ob hb1
            rcases oi hb1 with ⟨c75, hb1⟩ | ⟨c75, hb1⟩
            ·refine s_mov (.own 3 0 r_66.1.length) rfl <| s_mov (.lst 2 (r_13.1.map encGRow)) rfl <| s_do (o_call (w_laws_eqRowS _ _ _ er74) rfl (.cons (.of_eq (congrArg (AV.lst _) (tko r_66.1))) (.cons (.refl _) .nil)) rfl) <| s_q (.bool (!r_73)) rfl (.of trivial trivial) rfl <| s_mov (.bool (!r_73)) rfl <| s_lit (s := 106) (b := true) rfl c75 <| s_off rfl rfl <| s_off rfl rfl <| s_off rfl rfl <| s_q (.bool true) rfl (.of trivial trivial) rfl <| w_done <| ?_; obtain rfl := os hb1; exact ⟨[], [0], _, _, rfl, rfl, ⟨.of_eq (congrArg (AV.own _ 0) (by have h := (hl57 0 _ _ _ _ rfl rfl); simpa using h.symm)), ⟨.refl _, ⟨.refl _, trivial⟩⟩⟩, (.refl _)⟩
            ·refine s_mov (.own 3 0 r_66.1.length) rfl <| s_mov (.lst 2 (r_13.1.map encGRow)) rfl <| s_do (o_call (w_laws_eqRowS _ _ _ er74) rfl (.cons (.of_eq (congrArg (AV.lst _) (tko r_66.1))) (.cons (.refl _) .nil)) rfl) <| s_q (.bool (!r_73)) rfl (.of trivial trivial) rfl <| s_mov (.bool (!r_73)) rfl <| s_lit (s := 106) (b := false) rfl (bf c75) <| s_on rfl <| s_mov (.int .i64 r_66.2) rfl <| s_on rfl <| s_mov (.int .i64 r_13.2) rfl <| s_on rfl <| s_q (.bool (r_66.2 != r_13.2)) rfl (.of rfl trivial) rfl <| s_q (.bool (r_66.2 != r_13.2)) rfl (.of trivial trivial) rfl <| w_done <| ?_; obtain rfl := os hb1; exact ⟨[], [0], _, _, rfl, rfl, ⟨.of_eq (congrArg (AV.own _ 0) (by have h := (hl57 0 _ _ _ _ rfl rfl); simpa using h.symm)), ⟨.refl _, ⟨.refl _, trivial⟩⟩⟩, (.refl _)⟩
           ·rcases oi hf with ⟨c76, hf⟩ | ⟨c76, hf⟩
            ·refine w_condt rfl c76 <| awp_seq <| w_reg <| s_mov (.bool false) rfl <| w_done <| k_seq <| w_ret <| ?_; obtain rfl := os hf; exact r_flat ⟨.of trivial trivial, trivial⟩ rfl (.refl _)
            ·refine w_condf rfl (bf c76) <| w_skip <| k_seq <| awp_seq <| w_reg <| s_mov (.int .i64 1) rfl <| w_done <| k_seq <| awp_seq <| w_reg <| ?_
             obtain ⟨r_77, er78, hf⟩ := ob hf
             refine s_mov (.own 0 0 r_55.2.length) rfl <| s_mov (.int .i64 1) rfl <| s_do (o_call (w_laws_heldRowS _ _ _ er78) rfl (.cons (.of_eq (congrArg (AV.lst _) (tko r_55.2))) (.cons (.refl _) .nil)) rfl) <| s_mov (.int .i64 r_77) rfl <| w_done <| k_seq <| awp_seq <| awp_seq <| w_reg <| s_mov (.int .i64 r_77) rfl <| s_q (.bool (decide (r_77 < 0))) rfl (.of rfl trivial) rfl <| w_done <| k_seq <| ?_
             rcases oi hf with ⟨c79, hf⟩ | ⟨c79, hf⟩
             ·refine w_condt rfl c79 <| awp_seq <| w_reg <| s_mov (.bool false) rfl <| w_done <| k_seq <| w_ret <| ?_; obtain rfl := os hf; exact r_flat ⟨.of trivial trivial, trivial⟩ rfl (.refl _)
             ·refine w_condf rfl (bf c79) <| w_skip <| k_seq <| awp_seq <| awp_seq <| w_reg <| s_mov (.int .i64 r_77) rfl <| s_mov (.int .i64 r_55.1) rfl <| s_q (.bool (r_77 != r_55.1)) rfl (.of rfl trivial) rfl <| w_done <| k_seq <| ?_
              rcases oi hf with ⟨c80, hf⟩ | ⟨c80, hf⟩
              ·refine w_condt rfl c80 <| awp_seq <| w_reg <| s_mov (.bool false) rfl <| w_done <| k_seq <| w_ret <| ?_; obtain rfl := os hf; exact r_flat ⟨.of trivial trivial, trivial⟩ rfl (.refl _)
              ·refine w_condf rfl (bf c80) <| w_skip <| k_seq <| awp_seq <| w_reg <| s_mov (.bool true) rfl <| w_done <| k_seq <| w_ret <| ?_; obtain rfl := os hf; exact r_flat ⟨.of trivial trivial, trivial⟩ rfl (.refl _)

end Go.R
