/- Walks. -/
import Derived.Test.YtdnjjfoooagphaaMU1
set_option linter.all false
namespace Go.R
open Go Go.Proofs
set_option linter.unusedVariables false
set_option linter.unusedSimpArgs false
set_option maxHeartbeats 8000000
/- (impl.Mut).typeCode -/
def c148 : ACode :=
 (.seq (.reg (tq 2 (.box 3 (.t 0)) (tq 3 (.box 8 (.t 1)) (tm 4 (.c (.int .i64 0)) .done))))
 (.seq (.block 0 (.seq (.reg (tq 6 (.faddr 2 (.t 2)) (tq 7 (.load 1 false (.t 6)) (tq 8 (.len (.t 7)) (tq 9 (.bin .gtr (.t 8) (.c (.int .i64 0))) (tm 10 (.t 9) (tg 11 10 true (.faddr 2 (.t 2)) (tg 12 10 true (.load 1 false (.t 11)) (tg 13 10 true (.iaddr 3 (.t 12) (.c (.int .i64 0))) (tg 14 10 true (.faddr 0 (.t 13)) (tg 15 10 true (.load 1 false (.t 14)) (tg 16 10 true (.faddr 1 (.t 3)) (tg 17 10 true (.load 1 false (.t 16)) (tg 18 10 true (.bin .neq (.t 15) (.t 17)) (tq 19 (.pick (.t 10) (.t 18) (.c (.bool false))) (tm 5 (.t 19) .done))))))))))))))))
 (.cut (.cond (.t 5) (.seq (.reg (tm 4 (.c (.int .i64 9)) .done))
 .ret)
 (.seq (.reg (tq 21 (.faddr 1 (.t 2)) (tq 22 (.load 1 false (.t 21)) (tq 23 (.bin .leq (.t 22) (.c (.int .i64 5))) (tm 24 (.t 23) (tg 25 24 true (.faddr 1 (.t 3)) (tg 26 24 true (.load 1 false (.t 25)) (tg 27 24 true (.bin .neq (.t 26) (.c (.int .i64 1))) (tg 28 24 true (.mov (.t 27)) (tg 29 28 false (.faddr 2 (.t 2)) (tg 30 28 false (.load 1 false (.t 29)) (tg 31 28 false (.len (.t 30)) (tg 32 28 false (.bin .neq (.t 31) (.c (.int .i64 1))) (tg 33 24 true (.pick (.t 28) (.c (.bool true)) (.t 32)) (tq 34 (.pick (.t 24) (.t 33) (.c (.bool false))) (tm 20 (.t 34) .done))))))))))))))))
 (.cut (.cond (.t 20) (.seq (.reg (tm 4 (.c (.int .i64 9)) .done))
 .ret)
 .skip)))))))
 (.seq (.reg (tm 4 (.c (.int .i64 0)) .done))
 .ret)))
theorem fc148 : fcomp Try.prog Try.f148 = some (c148.erase, [.mov (.t 4)], 35) := by kernel_rfl
def impl_Mut_typeCode (m_1 : GMut) (c_2 : GColumn) : Option Int :=
    ((if (decide ((m_1.Value.length : Int) > 0)) then
    (idx m_1.Value 0).bind fun x_11 =>
    some (x_11.Kind != c_2.Kind)
    else
    some false : Option Bool)).bind fun s5_7 =>
    if s5_7 then
    some 9
    else
    ((some () : Option Unit)).bind fun _ =>
    if (bif (decide (m_1.Func ≤ 5)) then (bif (c_2.Kind != 1) then true else ((m_1.Value.length : Int) != 1)) else false) then
    some 9
    else
    some 0
theorem w_impl_Mut_typeCode (m_1 : GMut) (c_2 : GColumn) (r : Int) (hf : impl_Mut_typeCode m_1 c_2 = some r) : CallOK Try.prog 148 .flat [(encGMut m_1), (encGColumn c_2)] (.int .i64 r) := by
 refine CallOK.of_awp mixed Try.func148 fc148 nle ?_; rw [argT_eq]; unfold impl_Mut_typeCode at hf; unfold c148; refine (show awp Try.prog false 0 _ (ofL [(0, (encGMut m_1)), (1, (encGColumn c_2))]) [] _ from ?_); refine awp_seq <| w_reg <| s_do (o_box (j := 0) (c := (.agg [(.str m_1.Column), (.int .i64 m_1.Func), (.lst 3 (m_1.Value.map encGAtom))])) rfl trivial rfl rfl) <| s_do (o_box (j := 1) (c := (.agg [(.str c_2.Name), (.int .i64 c_2.Kind), (.int .i64 c_2.Min), (.int .i64 c_2.Max), (.int .i64 c_2.Low), (.int .i64 c_2.High), (.str c_2.Ref), (.bool c_2.Strong)])) rfl trivial rfl rfl) <| s_mov (.int .i64 0) rfl <| w_done <| k_seq <| awp_seq <| w_blk <| awp_seq <| ?_
 obtain ⟨s5_7, hb1, hf⟩ := ob hf
 refine awp_cut ([(2, (.ptr 0 0 0)), (3, (.ptr 1 0 0)), (5, (.bool s5_7))], [.box 3 (.agg [(.str m_1.Column), (.int .i64 m_1.Func), (.lst 3 (m_1.Value.map encGAtom))]), .box 8 (.agg [(.str c_2.Name), (.int .i64 c_2.Kind), (.int .i64 c_2.Min), (.int .i64 c_2.Max), (.int .i64 c_2.Low), (.int .i64 c_2.High), (.str c_2.Ref), (.bool c_2.Strong)])]) ?_ ?_
 ·refine w_reg <| s_q (.ptr 0 0 2) rfl trivial rfl <| s_q (.lst 3 (m_1.Value.map encGAtom)) rfl nle rfl <| s_dof (o_len (enc := encGAtom) rfl) fun hl9 => s_q (.bool (decide ((m_1.Value.length : Int) > 0))) rfl rfl rfl <| s_mov (.bool (decide ((m_1.Value.length : Int) > 0))) rfl <| ?_
  rcases oi hb1 with ⟨c10, hb1⟩ | ⟨c10, hb1⟩
  ·refine s_lit (s := 10) (b := true) rfl c10 <| s_on rfl <| s_q (.ptr 0 0 2) rfl trivial rfl <| s_on rfl <| s_q (.lst 3 (m_1.Value.map encGAtom)) rfl nle rfl <| s_on rfl <| ?_
   obtain ⟨x_11, ex12, hb1⟩ := ob hb1
   refine s_do (o_iaddr (enc := encGAtom) rfl rfl (idx0 ex12) (idx1 ex12)) <| s_on rfl <| s_q (.iptr (encGAtom x_11) 0) rfl trivial rfl <| s_on rfl <| s_q (.int .i64 x_11.Kind) rfl nle rfl <| s_on rfl <| s_q (.ptr 1 0 1) rfl trivial rfl <| s_on rfl <| s_q (.int .i64 c_2.Kind) rfl nle rfl <| s_on rfl <| s_q (.bool (x_11.Kind != c_2.Kind)) rfl rfl rfl <| s_q (.bool (x_11.Kind != c_2.Kind)) rfl trivial rfl <| s_mov (.bool (x_11.Kind != c_2.Kind)) rfl <| w_done <| ?_; obtain rfl := os hb1; exact ⟨[], [0, 1], _, _, rfl, rfl, ⟨.refl _, ⟨.refl _, ⟨.refl _, trivial⟩⟩⟩, (.refl _)⟩
  ·refine s_lit (s := 10) (b := false) rfl (bf c10) <| s_off rfl rfl <| s_off rfl rfl <| s_off rfl rfl <| s_off rfl rfl <| s_off rfl rfl <| s_off rfl rfl <| s_off rfl rfl <| s_off rfl rfl <| s_q (.bool false) rfl trivial rfl <| s_mov (.bool false) rfl <| w_done <| ?_; obtain rfl := os hb1; exact ⟨[], [0, 1], _, _, rfl, rfl, ⟨.refl _, ⟨.refl _, ⟨.refl _, trivial⟩⟩⟩, (.refl _)⟩
 ·rcases oi hf with ⟨c13, hf⟩ | ⟨c13, hf⟩
  ·refine w_condt rfl c13 <| awp_seq <| w_reg <| s_mov (.int .i64 9) rfl <| w_done <| k_seq <| w_ret <| ?_; obtain rfl := os hf; exact r_flat ⟨trivial, trivial⟩ rfl (.refl _)
  ·refine w_condf rfl (bf c13) <| awp_seq <| ?_
   obtain ⟨p15, hb1, hf⟩ := ob hf
   refine awp_cut ([(20, (.bool (bif (decide (m_1.Func ≤ 5)) then (bif (c_2.Kind != 1) then true else ((m_1.Value.length : Int) != 1)) else false)))], []) ?_ ?_
   ·refine w_reg <| s_q (.ptr 0 0 1) rfl trivial rfl <| s_q (.int .i64 m_1.Func) rfl nle rfl <| s_q (.bool (decide (m_1.Func ≤ 5))) rfl rfl rfl <| s_mov (.bool (decide (m_1.Func ≤ 5))) rfl <| ?_; refine s_g (v := (decide (m_1.Func ≤ 5))) (.ptr 1 0 1) rfl (fun hv => by (try simp only [gs_on hv]); exact ⟨rfl, trivial, rfl⟩) ?_; refine s_g (v := (decide (m_1.Func ≤ 5))) (.int .i64 c_2.Kind) rfl (fun hv => by (try simp only [gs_on hv]); exact ⟨rfl, nle, rfl⟩) ?_; refine s_g (v := (decide (m_1.Func ≤ 5))) (.bool (c_2.Kind != 1)) rfl (fun hv => by (try simp only [gs_on hv]); exact ⟨rfl, rfl, rfl⟩) ?_; refine s_g (v := (decide (m_1.Func ≤ 5))) (.bool (c_2.Kind != 1)) rfl (fun hv => by (try simp only [gs_on hv]); exact ⟨rfl, trivial, rfl⟩) ?_
    refine s_gg (v1 := (decide (m_1.Func ≤ 5))) (b1 := true) (v2 := (c_2.Kind != 1)) (.ptr 0 0 2) rfl (fun hv hw => by (try simp only [gs_on hv, gs_on hw]); exact ⟨rfl, trivial, rfl⟩) ?_; refine s_gg (v1 := (decide (m_1.Func ≤ 5))) (b1 := true) (v2 := (c_2.Kind != 1)) (.lst 3 (m_1.Value.map encGAtom)) rfl (fun hv hw => by (try simp only [gs_on hv, gs_on hw]); exact ⟨rfl, nle, rfl⟩) ?_; refine s_gg (v1 := (decide (m_1.Func ≤ 5))) (b1 := true) (v2 := (c_2.Kind != 1)) (.int .i64 (m_1.Value.length : Int)) rfl (fun hv hw => by (try simp only [gs_on hv, gs_on hw]); exact ⟨rfl, trivial, lenV _ _⟩) ?_; refine s_gg (v1 := (decide (m_1.Func ≤ 5))) (b1 := true) (v2 := (c_2.Kind != 1)) (.bool ((m_1.Value.length : Int) != 1)) rfl (fun hv hw => by (try simp only [gs_on hv, gs_on hw]); exact ⟨rfl, rfl, rfl⟩) ?_
    refine s_gp (v1 := (decide (m_1.Func ≤ 5))) (b1 := true) (v2 := (c_2.Kind != 1)) (x := true) (y := ((m_1.Value.length : Int) != 1)) rfl (fun hv => by (try simp only [gs_on hv]); rfl) (fun hv hw => by (try simp only [gs_on hv, gs_on hw]); rfl) (fun hv hw => by (try simp only [gs_on hv, gs_on hw]); rfl) ?_; refine s_pick (x := (bif (c_2.Kind != 1) then true else ((m_1.Value.length : Int) != 1))) (y := false) rfl (fun hv => by (try simp only [gs_on hv]); rfl) (fun hv => by (try simp only [gs_on hv]); rfl) ?_; refine s_mov (.bool (bif (decide (m_1.Func ≤ 5)) then (bif (c_2.Kind != 1) then true else ((m_1.Value.length : Int) != 1)) else false)) rfl <| w_done <| ?_; obtain rfl := os hb1; exact ⟨[], [], _, _, rfl, rfl, ⟨.refl _, trivial⟩, (.refl _)⟩
   ·rcases oi hf with ⟨c17, hf⟩ | ⟨c17, hf⟩
    ·refine w_condt rfl c17 <| awp_seq <| w_reg <| s_mov (.int .i64 9) rfl <| w_done <| k_seq <| w_ret <| ?_; obtain rfl := os hf; exact r_flat ⟨trivial, trivial⟩ rfl (.refl _)
    ·refine w_condf rfl (bf c17) <| w_skip <| k_blk <| k_seq <| awp_seq <| w_reg <| s_mov (.int .i64 0) rfl <| w_done <| k_seq <| w_ret <| ?_; obtain rfl := os hf; exact r_flat ⟨trivial, trivial⟩ rfl (.refl _)

/- slices.Grow[[]impl.Atom,impl.Atom] -/
def c225_h0 : ACode :=
 (.seq (.reg (tm 4 (.c .nil) .done))
 (.seq (.seq (.reg (tm 5 (.t 1) (tq 6 (.bin .lss (.t 5) (.c (.int .i64 0))) .done)))
 (.cond (.t 6) (.reg (tq 7 (.never) (.q ⟨none, none, .never⟩
 .done)))
 .skip))
 (.cut (.seq (.seq (.reg (tm 8 (.t 1) (tm 9 (.t 0) (tq 10 (.cap (.t 9)) (tm 11 (.t 0) (tq 12 (.len (.t 11)) (tq 13 (.bin .sub (.t 10) (.t 12)) (tq 14 (.bin .sub (.t 8) (.t 13)) (tm 1 (.t 14) .done)))))))))
 (.seq (.reg (tm 15 (.t 1) (tq 16 (.bin .gtr (.t 15) (.c (.int .i64 0))) .done)))
 (.cond (.t 16) (.reg (tm 17 (.t 0) (tm 18 (.t 0) (tq 19 (.cap (.t 18)) (tq 20 (.slice 3 (.t 17) none (some (.t 19))) (tm 21 (.t 1) (tq 22 (.appz 3 32 (.agg [(.int .i64 0), (.int .i64 0), (.str [])]) (.t 20) (.t 21)) (tm 23 (.t 0) (tq 24 (.len (.t 23)) (tq 25 (.slice 3 (.t 22) none (some (.t 24))) (tm 0 (.t 25) .done)))))))))))
 .skip)))
 (.seq (.reg (tm 26 (.t 0) (tm 4 (.t 26) .done)))
 .ret)))))
theorem fc225_h0 : fcomp Try.prog Try.f225 = some (c225_h0.erase, [.mov (.t 4)], 27) := by kernel_rfl
def slices_Grow_impl_Atom_impl_Atom_h0 (n_1 : Int) : Option (List GAtom) :=
    ((if (decide (n_1 < 0)) then
    none
    else
    some () : Option Unit)).bind fun _ =>
    if (decide (w64 (n_1 - (w64 (0 - 0))) > 0)) then
    if 0 < w64 (n_1 - (w64 (0 - 0))) ∧ w64 (n_1 - (w64 (0 - 0))) ≤ 2 ^ 30 then
    if (0 : Int) ≤ 0 ∧ 0 ≤ (((w64 (n_1 - (w64 (0 - 0)))).toNat : Nat) : Int) then
    some ((List.replicate ((w64 (n_1 - (w64 (0 - 0)))).toNat) (⟨0, 0, []⟩ : GAtom)).take 0)
    else none
    else none
    else
    some []
theorem w_slices_Grow_impl_Atom_impl_Atom_h0 (n_1 : Int) (r : (List GAtom)) (hf : slices_Grow_impl_Atom_impl_Atom_h0 n_1 = some r) : CallHeap Try.prog true 225 [.nil, (.int .i64 n_1)] [] (.own 0 0 r.length) [.row 3 (r.map encGAtom)] := by
 refine CallHeap.of_awp mixed Try.func225 fc225_h0 nle ?_; rw [argT_eq]; unfold slices_Grow_impl_Atom_impl_Atom_h0 at hf; unfold c225_h0; refine (show awp Try.prog true 0 _ (ofL [(0, .nil), (1, (.int .i64 n_1))]) [] _ from ?_); refine awp_seq <| w_reg <| s_mov .nil rfl <| w_done <| k_seq <| awp_seq <| ?_
 obtain ⟨p3, hb1, hf⟩ := ob hf
 refine awp_cut ([(0, .nil), (1, (.int .i64 n_1))], []) ?_ ?_
 ·refine awp_seq <| w_reg <| s_mov (.int .i64 n_1) rfl <| s_q (.bool (decide (n_1 < 0))) rfl rfl rfl <| w_done <| k_seq <| ?_
  rcases oi hb1 with ⟨c4, hb1⟩ | ⟨c4, hb1⟩
  ·refine w_condt rfl c4 <| w_reg <| ?_
   cases hb1
  ·refine w_condf rfl (bf c4) <| w_skip <| ?_; obtain rfl := os hb1; exact ⟨[], [], _, _, rfl, rfl, ⟨.refl _, ⟨.refl _, trivial⟩⟩, (.refl _)⟩
 ·refine awp_seq <| awp_seq <| w_reg <| s_mov (.int .i64 n_1) rfl <| s_mov .nil rfl <| s_do (o_cap rfl) <| s_mov .nil rfl <| s_do (o_lennil rfl) <| s_q (.int .i64 (w64 (0 - 0))) rfl rfl rfl <| s_q (.int .i64 (w64 (n_1 - (w64 (0 - 0))))) rfl rfl rfl <| s_mov (.int .i64 (w64 (n_1 - (w64 (0 - 0))))) rfl <| w_done <| k_seq <| awp_seq <| w_reg <| s_mov (.int .i64 (w64 (n_1 - (w64 (0 - 0))))) rfl <| s_q (.bool (decide (w64 (n_1 - (w64 (0 - 0))) > 0))) rfl rfl rfl <| w_done <| k_seq <| ?_
  rcases oi hf with ⟨c5, hf⟩ | ⟨c5, hf⟩
  ·refine w_condt rfl c5 <| w_reg <| ?_
   obtain ⟨g6, hf⟩ := og hf
   obtain ⟨g7, hf⟩ := og hf
   refine s_mov .nil rfl <| s_mov .nil rfl <| s_do (o_cap rfl) <| s_q .nil rfl ⟨⟨Int.le_refl 0, Int.le_refl 0, Int.le_refl 0⟩, trivial⟩ rfl <| s_mov (.int .i64 (w64 (n_1 - (w64 (0 - 0))))) rfl <| s_do (o_appz (j := 0) (enc := encGAtom) (y := (⟨0, 0, []⟩ : GAtom)) rfl rfl (.refl _) g6 rfl) <| s_mov .nil rfl <| s_do (o_lennil rfl) <| s_do (o_slto rfl rfl rfl g7.1 g7.2) <| s_mov (.own 0 0 0) rfl <| w_done <| k_seq <| awp_seq <| w_reg <| s_mov (.own 0 0 0) rfl <| s_mov (.own 0 0 0) rfl <| w_done <| k_seq <| w_ret <| ?_; obtain rfl := os hf; exact r_heap [.trim 4] [1] rfl ⟨trivial, trivial⟩ rfl ((.cons ((LeO.tk (enc := encGAtom) (List.replicate ((w64 (n_1 - (w64 (0 - 0)))).toNat) (⟨0, 0, []⟩ : GAtom)) _)) .nil)) (.of_eq (congrArg (AV.own _ 0) (by simp)))
  ·refine w_condf rfl (bf c5) <| w_skip <| k_seq <| awp_seq <| w_reg <| s_mov .nil rfl <| s_mov .nil rfl <| w_done <| k_seq <| w_ret <| ?_; obtain rfl := os hf; exact r_heap [.nilT 4 3] [0] rfl ⟨trivial, trivial⟩ rfl (.refl _) (.refl _)

/- slices.Concat[[]impl.Atom,impl.Atom] -/
def c152 : ACode :=
 (.seq (.reg (tm 2 (.c .nil) .done))
 (.seq (.reg (tm 3 (.c (.int .i64 0)) .done))
 (.seq (.seq (.reg (tm 9 (.t 0) (tq 10 (.len (.t 9)) (tm 11 (.c (.int .i64 0)) .done))))
 (.block 0 (.loop (.seq (.reg (tq 12 (.bin .lss (.t 11) (.t 10)) .done))
 (.seq (.cond (.t 12) .skip
 (.exit 0))
 (.seq (.block 1 (.seq (.reg (tq 13 (.iaddr 1 (.t 9) (.t 11)) (tq 14 (.load 1 false (.t 13)) (tm 5 (.t 14) .done))))
 (.seq (.reg (tm 15 (.t 3) (tm 16 (.t 5) (tq 17 (.len (.t 16)) (tq 18 (.bin .add (.t 15) (.t 17)) (tm 3 (.t 18) .done))))))
 (.seq (.reg (tm 19 (.t 3) (tq 20 (.bin .lss (.t 19) (.c (.int .i64 0))) .done)))
 (.cond (.t 20) (.reg (tq 21 (.never) (.q ⟨none, none, .never⟩
 .done)))
 .skip)))))
 (.reg (tq 22 (.bin .add (.t 11) (.c (.int .i64 1))) (tm 11 (.t 22) .done)))))))))
 (.cut (.seq (.reg (tm 23 (.t 3) (tq 24 (.call 225 [(.c .nil), (.t 23)]) (tm 6 (.t 24) .done))))
 (.seq (.seq (.reg (tm 25 (.t 0) (tq 26 (.len (.t 25)) (tm 27 (.c (.int .i64 0)) .done))))
 (.block 2 (.loop (.seq (.reg (tq 28 (.bin .lss (.t 27) (.t 26)) .done))
 (.seq (.cond (.t 28) .skip
 (.exit 2))
 (.seq (.block 3 (.seq (.reg (tq 29 (.iaddr 1 (.t 25) (.t 27)) (tq 30 (.load 1 false (.t 29)) (tm 8 (.t 30) .done))))
 (.reg (tm 31 (.t 6) (tm 32 (.t 8) (tq 33 (.append 3 32 (.t 31) (.t 32)) (tm 6 (.t 33) .done)))))))
 (.reg (tq 34 (.bin .add (.t 27) (.c (.int .i64 1))) (tm 27 (.t 34) .done)))))))))
 (.cut (.seq (.reg (tm 35 (.t 6) (tm 2 (.t 35) .done)))
 .ret))))))))
theorem fc152 : fcomp Try.prog Try.f152 = some (c152.erase, [.mov (.t 2)], 36) := by kernel_rfl
def slices_Concat_impl_Atom_impl_Atom_L1  : List (List GAtom) → Int → Option Int
  | [], size_15 =>
    some size_15
  | x_30 :: xs, size_15 =>
    if (decide (w64 (size_15 + (x_30.length : Int)) < 0)) then
    none
    else
    slices_Concat_impl_Atom_impl_Atom_L1 xs (w64 (size_15 + (x_30.length : Int))) 

def slices_Concat_impl_Atom_impl_Atom_L2  : List (List GAtom) → (List GAtom) → Option (List GAtom)
  | [], newslice_47 =>
    some newslice_47
  | x_60 :: xs, newslice_47 =>
    if (newslice_47 ++ x_60).length ≤ 2 ^ 30 then
    slices_Concat_impl_Atom_impl_Atom_L2 xs  (newslice_47 ++ x_60)
    else none

def slices_Concat_impl_Atom_impl_Atom (slices_1 : (List (List GAtom))) : Option (List GAtom) :=
    (slices_Concat_impl_Atom_impl_Atom_L1 slices_1 0).bind fun size_22 =>
    (slices_Grow_impl_Atom_impl_Atom_h0 size_22).bind fun r_33 =>
    (slices_Concat_impl_Atom_impl_Atom_L2 slices_1 r_33).bind fun newslice_52 =>
    some newslice_52
theorem w_slices_Concat_impl_Atom_impl_Atom (slices_1 : (List (List GAtom))) (r : (List GAtom)) (hf : slices_Concat_impl_Atom_impl_Atom slices_1 = some r) : CallOK Try.prog 152 .fresh [(.lst 1 (slices_1.map (encL 3 encGAtom)))] (.lst 3 (r.map encGAtom)) := by
 refine CallOK.of_awp mixed Try.func152 fc152 nle ?_; rw [argT_eq]; unfold slices_Concat_impl_Atom_impl_Atom at hf; unfold c152; refine (show awp Try.prog true 0 _ (ofL [(0, (.lst 1 (slices_1.map (encL 3 encGAtom))))]) [] _ from ?_); refine awp_seq <| w_reg <| s_mov .nil rfl <| w_done <| k_seq <| awp_seq <| w_reg <| s_mov (.int .i64 0) rfl <| w_done <| k_seq <| awp_seq <| awp_seq <| w_reg <| s_mov (.lst 1 (slices_1.map (encL 3 encGAtom))) rfl <| s_dof (o_len (enc := (encL 3 encGAtom)) rfl) fun hl2 => s_mov (.int .i64 0) rfl <| w_done <| k_seq <| ?_
 obtain ⟨size_22, hb1, hf⟩ := ob hf
 refine awp_cut ([(0, (.lst 1 (slices_1.map (encL 3 encGAtom)))), (3, (.int .i64 size_22))], []) ?_ ?_
 ·refine awp_loop (X := {q : (Int × Nat) // slices_Concat_impl_Atom_impl_Atom_L1 (slices_1.drop q.2) q.1 = some size_22}) (fun q => ([(0, (.lst 1 (slices_1.map (encL 3 encGAtom)))), (3, (.int .i64 q.1.1)), (9, (.lst 1 (slices_1.map (encL 3 encGAtom)))), (10, (.int .i64 (slices_1.length : Int))), (11, (.int .i64 (q.1.2 : Int)))], [])) (fun q => slices_1.length - q.1.2) ⟨(0, 0), hb1⟩ ⟨[], [], _, _, rfl, rfl, ⟨.refl _, ⟨.refl _, ⟨.refl _, ⟨.refl _, ⟨.refl _, trivial⟩⟩⟩⟩⟩, (.refl _)⟩ ?_
  rintro ⟨⟨size_15, s11_16⟩, hc1⟩
  have hc1 : slices_Concat_impl_Atom_impl_Atom_L1 (slices_1.drop s11_16) size_15 = some size_22 := hc1
  refine (show awp Try.prog true 0 _ (ofL [(0, (.lst 1 (slices_1.map (encL 3 encGAtom)))), (3, (.int .i64 size_15)), (9, (.lst 1 (slices_1.map (encL 3 encGAtom)))), (10, (.int .i64 (slices_1.length : Int))), (11, (.int .i64 (s11_16 : Int)))]) [] _ from ?_)
  rcases dropc slices_1 s11_16 with ⟨hie26, hd29⟩ | ⟨hlt24, x_30, hx25, hd29⟩
  ·rw [hd29, slices_Concat_impl_Atom_impl_Atom_L1.eq_1] at hc1
   have hq28 := dlf hie26
   refine awp_seq <| w_reg <| s_q (.bool (decide ((s11_16 : Int) < (slices_1.length : Int)))) rfl rfl rfl <| w_done <| k_seq <| awp_seq <| w_condf rfl hq28 <| w_exit <| k_seqx <| k_loopx <| k_blkx <| ?_; obtain rfl := os hc1; exact ⟨[], [], _, _, rfl, rfl, ⟨.refl _, ⟨.refl _, trivial⟩⟩, (.refl _)⟩
  ·rw [hd29, slices_Concat_impl_Atom_impl_Atom_L1.eq_2] at hc1
   have hq28 := dlt hlt24
   refine awp_seq <| w_reg <| s_q (.bool (decide ((s11_16 : Int) < (slices_1.length : Int)))) rfl rfl rfl <| w_done <| k_seq <| awp_seq <| w_condt rfl hq28 <| w_skip <| k_seq <| awp_seq <| w_blk <| awp_seq <| w_reg <| s_do (o_iaddrn (enc := (encL 3 encGAtom)) rfl rfl hx25) <| s_q (.lst 3 (x_30.map encGAtom)) rfl ⟨rfl, rfl⟩ rfl <| s_mov (.lst 3 (x_30.map encGAtom)) rfl <| w_done <| k_seq <| awp_seq <| w_reg <| s_mov (.int .i64 size_15) rfl <| s_mov (.lst 3 (x_30.map encGAtom)) rfl <| s_dof (o_len (enc := encGAtom) rfl) fun hl31 => s_q (.int .i64 (w64 (size_15 + (x_30.length : Int)))) rfl rfl rfl <| s_mov (.int .i64 (w64 (size_15 + (x_30.length : Int)))) rfl <| w_done <| k_seq <| awp_seq <| w_reg <| s_mov (.int .i64 (w64 (size_15 + (x_30.length : Int)))) rfl <| ?_
   refine s_q (.bool (decide (w64 (size_15 + (x_30.length : Int)) < 0))) rfl rfl rfl <| w_done <| k_seq <| ?_
   rcases oi hc1 with ⟨c32, hc1⟩ | ⟨c32, hc1⟩
   ·refine w_condt rfl c32 <| w_reg <| ?_
    cases hc1
   ·refine w_condf rfl (bf c32) <| w_skip <| k_blk <| k_seq <| w_reg <| s_q (.int .i64 (w64 ((s11_16 : Int) + 1))) rfl rfl rfl <| s_mov (.int .i64 (w64 ((s11_16 : Int) + 1))) rfl <| w_done <| ?_; exact k_loopn ⟨(w64 (size_15 + (x_30.length : Int)), (s11_16 + 1)), hc1⟩ (mul hlt24) ⟨[], [], _, _, rfl, rfl, ⟨.refl _, ⟨.refl _, ⟨.refl _, ⟨.refl _, ⟨.of_eq (congrArg (AV.int _) (w64_incr hlt24 hl2)), trivial⟩⟩⟩⟩⟩, (.refl _)⟩
 ·refine awp_seq <| w_reg <| ?_
  obtain ⟨r_33, er34, hf⟩ := ob hf
  refine s_mov (.int .i64 size_22) rfl ?_; refine s_do (o_callh (v := (.own 0 0 r_33.length)) (h2 := [.row 3 (r_33.map encGAtom)]) [] [] (fun _ => rfl) (w_slices_Grow_impl_Atom_impl_Atom_h0 _ _ er34) rfl (.refl _) (.refl _) rfl rfl) ?_; refine s_mov (.own 0 0 r_33.length) rfl <| w_done <| k_seq <| awp_seq <| awp_seq <| w_reg <| s_mov (.lst 1 (slices_1.map (encL 3 encGAtom))) rfl <| s_dof (o_len (enc := (encL 3 encGAtom)) rfl) fun hl35 => s_mov (.int .i64 0) rfl <| w_done <| k_seq <| ?_
  obtain ⟨newslice_52, hb1, hf⟩ := ob hf
  refine awp_cut ([(6, (.own 0 0 newslice_52.length))], [.row 3 (newslice_52.map encGAtom)]) ?_ ?_
  ·refine awp_loop (X := {q : (Nat × (List GAtom)) // slices_Concat_impl_Atom_impl_Atom_L2 (slices_1.drop q.1) q.2 = some newslice_52}) (fun q => ([(6, (.own 0 0 q.1.2.length)), (25, (.lst 1 (slices_1.map (encL 3 encGAtom)))), (26, (.int .i64 (slices_1.length : Int))), (27, (.int .i64 (q.1.1 : Int)))], [.row 3 (q.1.2.map encGAtom)])) (fun q => slices_1.length - q.1.1) ⟨(0, r_33), hb1⟩ ⟨[], [0], _, _, rfl, rfl, ⟨.refl _, ⟨.refl _, ⟨.refl _, ⟨.refl _, trivial⟩⟩⟩⟩, (.refl _)⟩ ?_
   rintro ⟨⟨s27_46, newslice_47⟩, hc1⟩
   have hc1 : slices_Concat_impl_Atom_impl_Atom_L2 (slices_1.drop s27_46) newslice_47 = some newslice_52 := hc1
   refine (show awp Try.prog true 0 _ (ofL [(6, (.own 0 0 newslice_47.length)), (25, (.lst 1 (slices_1.map (encL 3 encGAtom)))), (26, (.int .i64 (slices_1.length : Int))), (27, (.int .i64 (s27_46 : Int)))]) [.row 3 (newslice_47.map encGAtom)] _ from ?_)
   rcases dropc slices_1 s27_46 with ⟨hie56, hd59⟩ | ⟨hlt54, x_60, hx55, hd59⟩
   ·rw [hd59, slices_Concat_impl_Atom_impl_Atom_L2.eq_1] at hc1
    have hq58 := dlf hie56
    refine awp_seq <| w_reg <| s_q (.bool (decide ((s27_46 : Int) < (slices_1.length : Int)))) rfl rfl rfl <| w_done <| k_seq <| awp_seq <| w_condf rfl hq58 <| w_exit <| k_seqx <| k_loopx <| k_blkx <| ?_; obtain rfl := os hc1; exact ⟨[], [0], _, _, rfl, rfl, ⟨.refl _, trivial⟩, (.refl _)⟩
   ·rw [hd59, slices_Concat_impl_Atom_impl_Atom_L2.eq_2] at hc1
    have hq58 := dlt hlt54
    refine awp_seq <| w_reg <| s_q (.bool (decide ((s27_46 : Int) < (slices_1.length : Int)))) rfl rfl rfl <| w_done <| k_seq <| awp_seq <| w_condt rfl hq58 <| w_skip <| k_seq <| awp_seq <| w_blk <| awp_seq <| w_reg <| s_do (o_iaddrn (enc := (encL 3 encGAtom)) rfl rfl hx55) <| s_q (.lst 3 (x_60.map encGAtom)) rfl ⟨rfl, rfl⟩ rfl <| s_mov (.lst 3 (x_60.map encGAtom)) rfl <| w_done <| k_seq <| w_reg <| ?_
    obtain ⟨g61, hc1⟩ := og hc1
    refine s_mov (.own 0 0 newslice_47.length) rfl <| s_mov (.lst 3 (x_60.map encGAtom)) rfl <| ?_
    refine s_do (o_appendd (j := 1) (L := ((newslice_47 ++ x_60).map encGAtom)) (len := (newslice_47 ++ x_60).length) rfl false rfl rfl (fun _ => flm (fun _ => rfl) _) (fun _ _ _ => flm (fun _ => rfl) _) (by decide) (apl (enc := encGAtom) newslice_47 x_60) (by simp <;> omega) g61 rfl rfl) ?_
    refine s_mov (.own 1 0 ((newslice_47 ++ x_60).length)) rfl <| w_done <| k_blk <| k_seq <| w_reg <| s_q (.int .i64 (w64 ((s27_46 : Int) + 1))) rfl rfl rfl <| s_mov (.int .i64 (w64 ((s27_46 : Int) + 1))) rfl <| w_done <| ?_; exact k_loopn ⟨((s27_46 + 1), newslice_47 ++ x_60), hc1⟩ (mul hlt54) ⟨[], [1], _, _, rfl, rfl, ⟨.refl _, ⟨.refl _, ⟨.refl _, ⟨.of_eq (congrArg (AV.int _) (w64_incr hlt54 hl35)), trivial⟩⟩⟩⟩, (.refl _)⟩
  ·refine awp_seq <| w_reg <| s_mov (.own 0 0 newslice_52.length) rfl <| s_mov (.own 0 0 newslice_52.length) rfl <| w_done <| k_seq <| w_ret <| ?_; obtain rfl := os hf; exact r_fresh ⟨trivial, trivial⟩ rfl (by decide) (.of_eq (congrArg (AV.lst _) (tk (enc := encGAtom) newslice_52)))

/- slices.Clone[[]impl.Atom,impl.Atom] -/
def c227 : ACode :=
 (.seq (.reg (tm 2 (.c .nil) .done))
 (.seq (.seq (.reg (tm 3 (.t 0) (tq 4 (.isnil false (.t 3)) .done)))
 (.cond (.t 4) (.seq (.reg (tm 2 (.c .nil) .done))
 .ret)
 .skip))
 (.seq (.reg (tq 5 (.bslice 3 []) (tm 6 (.t 0) (tq 7 (.append 3 32 (.t 5) (.t 6)) (tm 2 (.t 7) .done)))))
 .ret)))
theorem fc227 : fcomp Try.prog Try.f227 = some (c227.erase, [.mov (.t 2)], 8) := by kernel_rfl
def slices_Clone_impl_Atom_impl_Atom (s_1 : (List GAtom)) : Option (List GAtom) :=
    if ([] ++ s_1).length ≤ 2 ^ 30 then
    some ([] ++ s_1)
    else none
theorem w_slices_Clone_impl_Atom_impl_Atom (s_1 : (List GAtom)) (r : (List GAtom)) (hf : slices_Clone_impl_Atom_impl_Atom s_1 = some r) : CallOK Try.prog 227 .fresh [(.lst 3 (s_1.map encGAtom))] (.lst 3 (r.map encGAtom)) := by
 refine CallOK.of_awp mixed Try.func227 fc227 nle ?_; rw [argT_eq]; unfold slices_Clone_impl_Atom_impl_Atom at hf; unfold c227; refine (show awp Try.prog true 0 _ (ofL [(0, (.lst 3 (s_1.map encGAtom)))]) [] _ from ?_); refine awp_seq <| w_reg <| s_mov .nil rfl <| w_done <| k_seq <| awp_seq <| awp_seq <| w_reg <| s_mov (.lst 3 (s_1.map encGAtom)) rfl <| s_isn (l := s_1.map encGAtom) rfl <| ?_
 intro b hb3
 rcases b with _ | _
 ·refine w_done <| k_seq <| w_condf rfl rfl <| w_skip <| k_seq <| awp_seq <| w_reg <| ?_
  obtain ⟨g2, hf⟩ := og hf
  refine s_do (o_bslice (j := 0) (as' := []) rfl (fun _ => by decide) trivial (.refl _) rfl rfl rfl) ?_; refine s_mov (.lst 3 (s_1.map encGAtom)) rfl ?_
  refine s_do (o_appendd (j := 1) (L := (([] ++ s_1).map encGAtom)) (len := ([] ++ s_1).length) rfl false rfl rfl (fun _ => flm (fun _ => rfl) _) (fun _ _ _ => flm (fun _ => rfl) _) (by decide) ((by simp)) (by simp <;> omega) g2 rfl rfl) ?_
  refine s_mov (.own 1 0 (([] ++ s_1).length)) rfl <| w_done <| k_seq <| w_ret <| ?_; obtain rfl := os hf; exact r_fresh ⟨trivial, trivial⟩ rfl (by decide) (.of_eq (congrArg (AV.lst _) (tk (enc := encGAtom) ([] ++ s_1))))
 ·have he4 : s_1 = [] := mapnil (hb3 rfl)
  have hE : (if ([] ++ s_1).length ≤ 2 ^ 30 then some ([] ++ s_1) else none) = (some []) := by simp [he4]
  rw [hE] at hf; refine w_done <| k_seq <| w_condt rfl rfl <| awp_seq <| w_reg <| s_mov .nil rfl <| w_done <| k_seq <| w_ret <| ?_; obtain rfl := os hf; exact r_fresh ⟨trivial, trivial⟩ rfl (by decide) (.nil _)

/- math/bits.Len64 -/
def c293 : ACode :=
 (.seq (.reg (tm 2 (.c (.int .i64 0)) .done))
 (.seq (.seq (.reg (tm 3 (.t 0) (tq 4 (.bin .geq (.t 3) (.c (.int .u64 4294967296))) .done)))
 (.cond (.t 4) (.seq (.reg (tm 5 (.t 0) (tq 6 (.bin .shr (.t 5) (.c (.int .u64 32))) (tm 0 (.t 6) .done))))
 (.reg (tm 2 (.c (.int .i64 32)) .done)))
 .skip))
 (.cut (.seq (.seq (.reg (tm 7 (.t 0) (tq 8 (.bin .geq (.t 7) (.c (.int .u64 65536))) .done)))
 (.cond (.t 8) (.seq (.reg (tm 9 (.t 0) (tq 10 (.bin .shr (.t 9) (.c (.int .u64 16))) (tm 0 (.t 10) .done))))
 (.reg (tm 11 (.t 2) (tq 12 (.bin .add (.t 11) (.c (.int .i64 16))) (tm 2 (.t 12) .done)))))
 .skip))
 (.cut (.seq (.seq (.reg (tm 13 (.t 0) (tq 14 (.bin .geq (.t 13) (.c (.int .u64 256))) .done)))
 (.cond (.t 14) (.seq (.reg (tm 15 (.t 0) (tq 16 (.bin .shr (.t 15) (.c (.int .u64 8))) (tm 0 (.t 16) .done))))
 (.reg (tm 17 (.t 2) (tq 18 (.bin .add (.t 17) (.c (.int .i64 8))) (tm 2 (.t 18) .done)))))
 .skip))
 (.seq (.reg (tm 19 (.t 2) (tm 20 (.t 0) (tq 21 (.convI .u8 (.t 20)) (tq 22 (.idxs (.c (.str [0, 1, 2, 2, 3, 3, 3, 3, 4, 4, 4, 4, 4, 4, 4, 4, 5, 5, 5, 5, 5, 5, 5, 5, 5, 5, 5, 5, 5, 5, 5, 5, 6, 6, 6, 6, 6, 6, 6, 6, 6, 6, 6, 6, 6, 6, 6, 6, 6, 6, 6, 6, 6, 6, 6, 6, 6, 6, 6, 6, 6, 6, 6, 6, 7, 7, 7, 7, 7, 7, 7, 7, 7, 7, 7, 7, 7, 7, 7, 7, 7, 7, 7, 7, 7, 7, 7, 7, 7, 7, 7, 7, 7, 7, 7, 7, 7, 7, 7, 7, 7, 7, 7, 7, 7, 7, 7, 7, 7, 7, 7, 7, 7, 7, 7, 7, 7, 7, 7, 7, 7, 7, 7, 7, 7, 7, 7, 7, 8, 8, 8, 8, 8, 8, 8, 8, 8, 8, 8, 8, 8, 8, 8, 8, 8, 8, 8, 8, 8, 8, 8, 8, 8, 8, 8, 8, 8, 8, 8, 8, 8, 8, 8, 8, 8, 8, 8, 8, 8, 8, 8, 8, 8, 8, 8, 8, 8, 8, 8, 8, 8, 8, 8, 8, 8, 8, 8, 8, 8, 8, 8, 8, 8, 8, 8, 8, 8, 8, 8, 8, 8, 8, 8, 8, 8, 8, 8, 8, 8, 8, 8, 8, 8, 8, 8, 8, 8, 8, 8, 8, 8, 8, 8, 8, 8, 8, 8, 8, 8, 8, 8, 8, 8, 8, 8, 8, 8, 8, 8, 8, 8, 8, 8, 8, 8, 8, 8, 8, 8, 8, 8, 8, 8, 8, 8, 8])) (.t 21)) (tq 23 (.convI .i64 (.t 22)) (tq 24 (.bin .add (.t 19) (.t 23)) (tm 2 (.t 24) .done))))))))
 .ret)))))))
theorem fc293 : fcomp Try.prog Try.f293 = some (c293.erase, [.mov (.t 2)], 25) := by kernel_rfl
def math_bits_Len64 (x_1 : Int) : Option Int :=
    ((if (decide (x_1 ≥ 4294967296)) then
    some (Int.fdiv x_1 (2 ^ (min (Int.toNat 32) (IntKind.bits .u64))), 32)
    else
    some (x_1, 0) : Option (Int × Int))).bind fun p5 =>
    (match p5 with
    | (x_3, n_4) =>
    ((if (decide (x_3 ≥ 65536)) then
    some (Int.fdiv x_3 (2 ^ (min (Int.toNat 16) (IntKind.bits .u64))), w64 (n_4 + 16))
    else
    some (x_3, n_4) : Option (Int × Int))).bind fun p10 =>
    (match p10 with
    | (x_8, n_9) =>
    if (decide (x_8 ≥ 256)) then
    (idx ([0, 1, 2, 2, 3, 3, 3, 3, 4, 4, 4, 4, 4, 4, 4, 4, 5, 5, 5, 5, 5, 5, 5, 5, 5, 5, 5, 5, 5, 5, 5, 5, 6, 6, 6, 6, 6, 6, 6, 6, 6, 6, 6, 6, 6, 6, 6, 6, 6, 6, 6, 6, 6, 6, 6, 6, 6, 6, 6, 6, 6, 6, 6, 6, 7, 7, 7, 7, 7, 7, 7, 7, 7, 7, 7, 7, 7, 7, 7, 7, 7, 7, 7, 7, 7, 7, 7, 7, 7, 7, 7, 7, 7, 7, 7, 7, 7, 7, 7, 7, 7, 7, 7, 7, 7, 7, 7, 7, 7, 7, 7, 7, 7, 7, 7, 7, 7, 7, 7, 7, 7, 7, 7, 7, 7, 7, 7, 7, 8, 8, 8, 8, 8, 8, 8, 8, 8, 8, 8, 8, 8, 8, 8, 8, 8, 8, 8, 8, 8, 8, 8, 8, 8, 8, 8, 8, 8, 8, 8, 8, 8, 8, 8, 8, 8, 8, 8, 8, 8, 8, 8, 8, 8, 8, 8, 8, 8, 8, 8, 8, 8, 8, 8, 8, 8, 8, 8, 8, 8, 8, 8, 8, 8, 8, 8, 8, 8, 8, 8, 8, 8, 8, 8, 8, 8, 8, 8, 8, 8, 8, 8, 8, 8, 8, 8, 8, 8, 8, 8, 8, 8, 8, 8, 8, 8, 8, 8, 8, 8, 8, 8, 8, 8, 8, 8, 8, 8, 8, 8, 8, 8, 8, 8, 8, 8, 8, 8, 8, 8, 8, 8, 8, 8, 8, 8, 8] : Str) (IntKind.u8.wrap (Int.fdiv x_8 (2 ^ (min (Int.toNat 8) (IntKind.bits .u64)))))).bind fun b_13 =>
    some (w64 ((w64 (n_9 + 8)) + (w64 (b_13.toNat : Int))))
    else
    (idx ([0, 1, 2, 2, 3, 3, 3, 3, 4, 4, 4, 4, 4, 4, 4, 4, 5, 5, 5, 5, 5, 5, 5, 5, 5, 5, 5, 5, 5, 5, 5, 5, 6, 6, 6, 6, 6, 6, 6, 6, 6, 6, 6, 6, 6, 6, 6, 6, 6, 6, 6, 6, 6, 6, 6, 6, 6, 6, 6, 6, 6, 6, 6, 6, 7, 7, 7, 7, 7, 7, 7, 7, 7, 7, 7, 7, 7, 7, 7, 7, 7, 7, 7, 7, 7, 7, 7, 7, 7, 7, 7, 7, 7, 7, 7, 7, 7, 7, 7, 7, 7, 7, 7, 7, 7, 7, 7, 7, 7, 7, 7, 7, 7, 7, 7, 7, 7, 7, 7, 7, 7, 7, 7, 7, 7, 7, 7, 7, 8, 8, 8, 8, 8, 8, 8, 8, 8, 8, 8, 8, 8, 8, 8, 8, 8, 8, 8, 8, 8, 8, 8, 8, 8, 8, 8, 8, 8, 8, 8, 8, 8, 8, 8, 8, 8, 8, 8, 8, 8, 8, 8, 8, 8, 8, 8, 8, 8, 8, 8, 8, 8, 8, 8, 8, 8, 8, 8, 8, 8, 8, 8, 8, 8, 8, 8, 8, 8, 8, 8, 8, 8, 8, 8, 8, 8, 8, 8, 8, 8, 8, 8, 8, 8, 8, 8, 8, 8, 8, 8, 8, 8, 8, 8, 8, 8, 8, 8, 8, 8, 8, 8, 8, 8, 8, 8, 8, 8, 8, 8, 8, 8, 8, 8, 8, 8, 8, 8, 8, 8, 8, 8, 8, 8, 8, 8, 8] : Str) (IntKind.u8.wrap x_8)).bind fun b_15 =>
    some (w64 (n_9 + (w64 (b_15.toNat : Int))))))
theorem w_math_bits_Len64 (x_1 : Int) (r : Int) (hf : math_bits_Len64 x_1 = some r) : CallOK Try.prog 293 .flat [(.int .u64 x_1)] (.int .i64 r) := by
 refine CallOK.of_awp mixed Try.func293 fc293 nle ?_; rw [argT_eq]; unfold math_bits_Len64 at hf; unfold c293; refine (show awp Try.prog false 0 _ (ofL [(0, (.int .u64 x_1))]) [] _ from ?_); refine awp_seq <| w_reg <| s_mov (.int .i64 0) rfl <| w_done <| k_seq <| awp_seq <| ?_
 obtain ⟨p5, hb1, hf⟩ := ob hf
 refine awp_cut ([(0, (.int .u64 p5.1)), (2, (.int .i64 p5.2))], []) ?_ ?_
 ·refine awp_seq <| w_reg <| s_mov (.int .u64 x_1) rfl <| s_q (.bool (decide (x_1 ≥ 4294967296))) rfl rfl rfl <| w_done <| k_seq <| ?_
  rcases oi hb1 with ⟨c6, hb1⟩ | ⟨c6, hb1⟩
  ·refine w_condt rfl c6 <| awp_seq <| w_reg <| s_mov (.int .u64 x_1) rfl <| ?_; refine s_do (o_q (.int .u64 (Int.fdiv x_1 (2 ^ (min (Int.toNat 32) (IntKind.bits .u64))))) rfl (show (0:Int) ≤ 32 by decide) rfl) ?_; refine s_mov (.int .u64 (Int.fdiv x_1 (2 ^ (min (Int.toNat 32) (IntKind.bits .u64))))) rfl <| w_done <| k_seq <| w_reg <| s_mov (.int .i64 32) rfl <| w_done <| ?_; obtain rfl := os hb1; exact ⟨[], [], _, _, rfl, rfl, ⟨.refl _, ⟨.refl _, trivial⟩⟩, (.refl _)⟩
  ·refine w_condf rfl (bf c6) <| w_skip <| ?_; obtain rfl := os hb1; exact ⟨[], [], _, _, rfl, rfl, ⟨.refl _, ⟨.refl _, trivial⟩⟩, (.refl _)⟩
 ·obtain ⟨x_3, n_4⟩ := p5
  refine awp_seq ?_
  obtain ⟨p10, hb1, hf⟩ := ob hf
  refine awp_cut ([(0, (.int .u64 p10.1)), (2, (.int .i64 p10.2))], []) ?_ ?_
  ·refine awp_seq <| w_reg <| s_mov (.int .u64 x_3) rfl <| s_q (.bool (decide (x_3 ≥ 65536))) rfl rfl rfl <| w_done <| k_seq <| ?_
   rcases oi hb1 with ⟨c11, hb1⟩ | ⟨c11, hb1⟩
   ·refine w_condt rfl c11 <| awp_seq <| w_reg <| s_mov (.int .u64 x_3) rfl <| ?_; refine s_do (o_q (.int .u64 (Int.fdiv x_3 (2 ^ (min (Int.toNat 16) (IntKind.bits .u64))))) rfl (show (0:Int) ≤ 16 by decide) rfl) ?_; refine s_mov (.int .u64 (Int.fdiv x_3 (2 ^ (min (Int.toNat 16) (IntKind.bits .u64))))) rfl <| w_done <| k_seq <| w_reg <| s_mov (.int .i64 n_4) rfl <| s_q (.int .i64 (w64 (n_4 + 16))) rfl rfl rfl <| s_mov (.int .i64 (w64 (n_4 + 16))) rfl <| w_done <| ?_; obtain rfl := os hb1; exact ⟨[], [], _, _, rfl, rfl, ⟨.refl _, ⟨.refl _, trivial⟩⟩, (.refl _)⟩
   ·refine w_condf rfl (bf c11) <| w_skip <| ?_; obtain rfl := os hb1; exact ⟨[], [], _, _, rfl, rfl, ⟨.refl _, ⟨.refl _, trivial⟩⟩, (.refl _)⟩
  ·obtain ⟨x_8, n_9⟩ := p10
   refine awp_seq <| awp_seq <| w_reg <| s_mov (.int .u64 x_8) rfl <| s_q (.bool (decide (x_8 ≥ 256))) rfl rfl rfl <| w_done <| k_seq <| ?_
   rcases oi hf with ⟨c12, hf⟩ | ⟨c12, hf⟩
   ·refine w_condt rfl c12 <| awp_seq <| w_reg <| s_mov (.int .u64 x_8) rfl <| ?_; refine s_do (o_q (.int .u64 (Int.fdiv x_8 (2 ^ (min (Int.toNat 8) (IntKind.bits .u64))))) rfl (show (0:Int) ≤ 8 by decide) rfl) ?_; refine s_mov (.int .u64 (Int.fdiv x_8 (2 ^ (min (Int.toNat 8) (IntKind.bits .u64))))) rfl <| w_done <| k_seq <| w_reg <| s_mov (.int .i64 n_9) rfl <| s_q (.int .i64 (w64 (n_9 + 8))) rfl rfl rfl <| s_mov (.int .i64 (w64 (n_9 + 8))) rfl <| w_done <| k_seq <| awp_seq <| w_reg <| ?_
    obtain ⟨b_13, eb14, hf⟩ := ob hf
    refine s_mov (.int .i64 (w64 (n_9 + 8))) rfl <| s_mov (.int .u64 (Int.fdiv x_8 (2 ^ (min (Int.toNat 8) (IntKind.bits .u64))))) rfl <| s_q (.int .u8 (IntKind.u8.wrap (Int.fdiv x_8 (2 ^ (min (Int.toNat 8) (IntKind.bits .u64)))))) rfl trivial rfl <| s_do (o_idxs rfl rfl (idx0 eb14) (idx1 eb14)) <| s_q (.int .i64 (w64 (b_13.toNat : Int))) rfl trivial rfl <| s_q (.int .i64 (w64 ((w64 (n_9 + 8)) + (w64 (b_13.toNat : Int))))) rfl rfl rfl <| s_mov (.int .i64 (w64 ((w64 (n_9 + 8)) + (w64 (b_13.toNat : Int))))) rfl <| w_done <| k_seq <| w_ret <| ?_; obtain rfl := os hf; exact r_flat ⟨trivial, trivial⟩ rfl (.refl _)
   ·refine w_condf rfl (bf c12) <| w_skip <| k_seq <| awp_seq <| w_reg <| ?_
    obtain ⟨b_15, eb16, hf⟩ := ob hf
    refine s_mov (.int .i64 n_9) rfl <| s_mov (.int .u64 x_8) rfl <| s_q (.int .u8 (IntKind.u8.wrap x_8)) rfl trivial rfl <| s_do (o_idxs rfl rfl (idx0 eb16) (idx1 eb16)) <| s_q (.int .i64 (w64 (b_15.toNat : Int))) rfl trivial rfl <| s_q (.int .i64 (w64 (n_9 + (w64 (b_15.toNat : Int))))) rfl rfl rfl <| s_mov (.int .i64 (w64 (n_9 + (w64 (b_15.toNat : Int))))) rfl <| w_done <| k_seq <| w_ret <| ?_; obtain rfl := os hf; exact r_flat ⟨trivial, trivial⟩ rfl (.refl _)

/- math/bits.Len -/
def c270 : ACode :=
 (.seq (.reg (tm 2 (.c (.int .i64 0)) .done))
 (.seq (.cond (.c (.bool false)) (.seq (.reg (tm 3 (.t 0) (tq 4 (.convI .u32 (.t 3)) (tq 5 (.call 292 [(.t 4)]) (tm 2 (.t 5) .done)))))
 .ret)
 .skip)
 (.seq (.reg (tm 6 (.t 0) (tq 7 (.call 293 [(.t 6)]) (tm 2 (.t 7) .done))))
 .ret)))
theorem fc270 : fcomp Try.prog Try.f270 = some (c270.erase, [.mov (.t 2)], 8) := by kernel_rfl
def math_bits_Len (x_1 : Int) : Option Int :=
    (math_bits_Len64 x_1).bind fun r_2 =>
    some r_2
theorem w_math_bits_Len (x_1 : Int) (r : Int) (hf : math_bits_Len x_1 = some r) : CallOK Try.prog 270 .flat [(.int .u64 x_1)] (.int .i64 r) := by
  refine CallOK.of_awp mixed Try.func270 fc270 nle ?_
  rw [argT_eq]
  unfold math_bits_Len at hf
  unfold c270
  refine (show awp Try.prog false 0 _ (ofL [(0, (.int .u64 x_1))]) [] _ from ?_)
  refine awp_seq ?_
  refine w_reg ?_
  refine s_do (o_mov (.int .i64 0) rfl) ?_
  refine w_done ?_
  refine k_seq ?_
  refine awp_seq ?_
  refine w_condcf ?_
  refine w_skip ?_
  refine k_seq ?_
  refine awp_seq ?_
  refine w_reg ?_
  obtain ⟨r_2, er3, hf⟩ := ob hf
  refine s_do (o_mov (.int .u64 x_1) rfl) ?_
  refine s_do (o_call (w_math_bits_Len64 _ _ er3) rfl (.refl _) rfl) ?_
  refine s_do (o_mov (.int .i64 r_2) rfl) ?_
  refine w_done ?_
  refine k_seq ?_
  refine w_ret ?_
  obtain rfl := os hf
  exact r_flat ⟨trivial, trivial⟩ rfl (.refl _)

/- slices.insertionSortCmpFunc[impl.Atom] -/
def c296_h0 : ACode :=
 (.seq (.reg (tm 10 (.t 1) (tq 11 (.bin .add (.t 10) (.c (.int .i64 1))) (tm 8 (.t 11) .done))))
 (.block 0 (.loop (.seq (.seq (.reg (tm 12 (.t 8) (tm 13 (.t 2) (tq 14 (.bin .lss (.t 12) (.t 13)) .done))))
 (.cond (.t 14) .skip
 (.exit 0)))
 (.seq (.block 1 (.seq (.reg (tm 17 (.t 8) (tm 9 (.t 17) .done)))
 (.block 2 (.loop (.seq (.seq (.reg (tm 18 (.t 9) (tm 19 (.t 1) (tq 20 (.bin .gtr (.t 18) (.t 19)) (tm 21 (.t 20) (tg 22 21 true (.mov (.t 3)) (tg 23 21 true (.mov (.t 0)) (tg 24 21 true (.mov (.t 9)) (tg 25 21 true (.iaddr 3 (.t 23) (.t 24)) (tg 26 21 true (.load 3 true (.t 25)) (tg 27 21 true (.mov (.t 0)) (tg 28 21 true (.mov (.t 9)) (tg 29 21 true (.bin .sub (.t 28) (.c (.int .i64 1))) (tg 30 21 true (.iaddr 3 (.t 27) (.t 29)) (tg 31 21 true (.load 3 true (.t 30)) (.l ⟨(some 32), (some (21, true)), .calv (.t 22) [(.t 26), (.t 31)]⟩ []
 (tg 33 21 true (.bin .lss (.t 32) (.c (.int .i64 0))) (tq 34 (.pick (.t 21) (.t 33) (.c (.bool false))) .done)) .non))))))))))))))))
 (.cut (.cond (.t 34) .skip
 (.exit 2))))
 (.seq (.block 3 (.reg (tm 37 (.t 0) (tm 38 (.t 9) (tm 39 (.t 0) (tm 40 (.t 9) (tq 41 (.bin .sub (.t 40) (.c (.int .i64 1))) (tm 42 (.t 0) (tm 43 (.t 9) (tq 44 (.bin .sub (.t 43) (.c (.int .i64 1))) (tq 45 (.iaddr 3 (.t 42) (.t 44)) (tq 46 (.load 3 true (.t 45)) (tm 47 (.t 0) (tm 48 (.t 9) (tq 49 (.iaddr 3 (.t 47) (.t 48)) (tq 50 (.load 3 true (.t 49)) (tq 51 (.iaddr 3 (.t 37) (.t 38)) (.l ⟨none, none, .store 3 (.t 51) (.t 46)⟩ []
 (tq 52 (.iaddr 3 (.t 39) (.t 41)) (.l ⟨none, none, .store 3 (.t 52) (.t 50)⟩ []
 .done .non)) .non))))))))))))))))))
 (.reg (tm 35 (.t 9) (tq 36 (.bin .sub (.t 35) (.c (.int .i64 1))) (tm 9 (.t 36) .done))))))))))
 (.cut (.reg (tm 15 (.t 8) (tq 16 (.bin .add (.t 15) (.c (.int .i64 1))) (tm 8 (.t 16) .done))))))))))
theorem fc296_h0 : fcomp Try.prog Try.f296 = some (c296_h0.erase, [], 53) := by kernel_rfl
def slices_insertionSortCmpFunc_impl_Atom_h0_L2 (a_2 : Int) : Nat → Int → (List GAtom) → Option (List GAtom)
  | 0, _, _ => none
  | k + 1, j_864, data_865 =>
    ((if (decide (j_864 > a_2)) then
    if (0 : Int) ≤ j_864 ∧ j_864 < (data_865.length : Int) then
    (data_865[(0 + j_864.toNat)]?).bind fun x_912 =>
    if (0 : Int) ≤ w64 (j_864 - 1) ∧ w64 (j_864 - 1) < (data_865.length : Int) then
    (data_865[(0 + (w64 (j_864 - 1)).toNat)]?).bind fun x_915 =>
    (impl_compareAtoms x_912 x_915).bind fun r_917 =>
    some (decide (r_917 < 0))
    else none
    else none
    else
    some false : Option Bool)).bind fun s34_908 =>
    if s34_908 then
    if (0 : Int) ≤ w64 (j_864 - 1) ∧ w64 (j_864 - 1) < (data_865.length : Int) then
    (data_865[(0 + (w64 (j_864 - 1)).toNat)]?).bind fun x_921 =>
    if (0 : Int) ≤ j_864 ∧ j_864 < (data_865.length : Int) then
    (data_865[(0 + j_864.toNat)]?).bind fun x_924 =>
    if (0 : Int) ≤ j_864 ∧ j_864 < (data_865.length : Int) then
    if (0 : Int) ≤ w64 (j_864 - 1) ∧ w64 (j_864 - 1) < (data_865.length : Int) then
    ((data_865.set (0 + j_864.toNat) x_921)[(0 + (w64 (j_864 - 1)).toNat)]?).bind fun x_928 =>
    slices_insertionSortCmpFunc_impl_Atom_h0_L2 a_2 k (w64 (j_864 - 1)) ((data_865.set (0 + j_864.toNat) x_921).set (0 + (w64 (j_864 - 1)).toNat) x_924)
    else none
    else none
    else none
    else none
    else
    some data_865

def slices_insertionSortCmpFunc_impl_Atom_h0_L1 (b_3 : Int) (a_2 : Int) : Nat → Int → (List GAtom) → Option (List GAtom)
  | 0, _, _ => none
  | k + 1, i_665, data_666 =>
    if (decide (i_665 < b_3)) then
    (slices_insertionSortCmpFunc_impl_Atom_h0_L2 a_2 FUEL i_665 data_666).bind fun data_897 =>
    slices_insertionSortCmpFunc_impl_Atom_h0_L1 b_3 a_2 k (w64 (i_665 + 1)) data_897
    else
    some data_666

def slices_insertionSortCmpFunc_impl_Atom_h0 (data_1 : (List GAtom)) (a_2 : Int) (b_3 : Int) : Option (List GAtom) :=
    slices_insertionSortCmpFunc_impl_Atom_h0_L1 b_3 a_2 FUEL (w64 (a_2 + 1)) data_1
theorem w_slices_insertionSortCmpFunc_impl_Atom_h0 (data_1 : (List GAtom)) (a_2 : Int) (b_3 : Int) (r : (List GAtom)) (hf : slices_insertionSortCmpFunc_impl_Atom_h0 data_1 a_2 b_3 = some r) : CallHeap Try.prog true 296 [(.own 0 0 data_1.length), (.int .i64 a_2), (.int .i64 b_3), (.fn 177 [])] [.row 3 (data_1.map encGAtom)] (.tup []) [.row 3 (r.map encGAtom)] := by
 refine CallHeap.of_awp mixed Try.func296 fc296_h0 nle ?_; rw [argT_eq]; unfold slices_insertionSortCmpFunc_impl_Atom_h0 at hf; unfold c296_h0; refine (show awp Try.prog true 1 _ (ofL [(0, (.own 0 0 data_1.length)), (1, (.int .i64 a_2)), (2, (.int .i64 b_3)), (3, (.fn 177 []))]) [.row 3 (data_1.map encGAtom)] _ from ?_); refine awp_seq <| w_reg <| s_mov (.int .i64 a_2) rfl <| s_q (.int .i64 (w64 (a_2 + 1))) rfl rfl rfl <| s_mov (.int .i64 (w64 (a_2 + 1))) rfl <| w_done <| k_seq <| ?_; refine awp_loop (X := {q : (Nat × Int × (List GAtom)) // slices_insertionSortCmpFunc_impl_Atom_h0_L1 b_3 a_2 q.1 q.2.1 q.2.2 = some r}) (fun q => ([(0, (.own 0 0 q.1.2.2.length)), (1, (.int .i64 a_2)), (2, (.int .i64 b_3)), (3, (.fn 177 [])), (8, (.int .i64 q.1.2.1))], [.row 3 (q.1.2.2.map encGAtom)])) (fun q => q.1.1) ⟨(FUEL, w64 (a_2 + 1), data_1), hf⟩ ⟨[], [0], _, _, rfl, rfl, ⟨.refl _, ⟨.refl _, ⟨.refl _, ⟨.refl _, ⟨.refl _, trivial⟩⟩⟩⟩⟩, (.refl _)⟩ ?_
 rintro ⟨⟨k, i_665, data_666⟩, hc1⟩
 have hc1 : slices_insertionSortCmpFunc_impl_Atom_h0_L1 b_3 a_2 k i_665 data_666 = some r := hc1
 refine (show awp Try.prog true 1 _ (ofL [(0, (.own 0 0 data_666.length)), (1, (.int .i64 a_2)), (2, (.int .i64 b_3)), (3, (.fn 177 [])), (8, (.int .i64 i_665))]) [.row 3 (data_666.map encGAtom)] _ from ?_)
 rcases k with _ | k
 ·rw [slices_insertionSortCmpFunc_impl_Atom_h0_L1.eq_1] at hc1
  cases hc1
 ·rw [slices_insertionSortCmpFunc_impl_Atom_h0_L1.eq_2] at hc1; refine awp_seq <| awp_seq <| w_reg <| s_mov (.int .i64 i_665) rfl <| s_mov (.int .i64 b_3) rfl <| s_q (.bool (decide (i_665 < b_3))) rfl rfl rfl <| w_done <| k_seq <| ?_
  rcases oi hc1 with ⟨c799, hc1⟩ | ⟨c799, hc1⟩
  ·refine w_condt rfl c799 <| w_skip <| k_seq <| awp_seq <| w_blk <| awp_seq <| w_reg <| s_mov (.int .i64 i_665) rfl <| s_mov (.int .i64 i_665) rfl <| w_done <| k_seq <| ?_
   obtain ⟨data_897, hb1, hc1⟩ := ob hc1
   refine awp_cutb ([(0, (.own 0 0 data_897.length)), (1, (.int .i64 a_2)), (2, (.int .i64 b_3)), (3, (.fn 177 [])), (8, (.int .i64 i_665))], [.row 3 (data_897.map encGAtom)]) ?_ ?_
   ·refine awp_loop (X := {q : (Nat × Int × (List GAtom)) // slices_insertionSortCmpFunc_impl_Atom_h0_L2 a_2 q.1 q.2.1 q.2.2 = some data_897}) (fun q => ([(0, (.own 0 0 q.1.2.2.length)), (1, (.int .i64 a_2)), (2, (.int .i64 b_3)), (3, (.fn 177 [])), (8, (.int .i64 i_665)), (9, (.int .i64 q.1.2.1))], [.row 3 (q.1.2.2.map encGAtom)])) (fun q => q.1.1) ⟨(FUEL, i_665, data_666), hb1⟩ ⟨[], [0], _, _, rfl, rfl, ⟨.refl _, ⟨.refl _, ⟨.refl _, ⟨.refl _, ⟨.refl _, ⟨.refl _, trivial⟩⟩⟩⟩⟩⟩, (.refl _)⟩ ?_
    rintro ⟨⟨k, j_864, data_865⟩, hc1⟩
    have hc1 : slices_insertionSortCmpFunc_impl_Atom_h0_L2 a_2 k j_864 data_865 = some data_897 := hc1
    refine (show awp Try.prog true 1 _ (ofL [(0, (.own 0 0 data_865.length)), (1, (.int .i64 a_2)), (2, (.int .i64 b_3)), (3, (.fn 177 [])), (8, (.int .i64 i_665)), (9, (.int .i64 j_864))]) [.row 3 (data_865.map encGAtom)] _ from ?_)
    rcases k with _ | k
    ·rw [slices_insertionSortCmpFunc_impl_Atom_h0_L2.eq_1] at hc1
     cases hc1
    ·rw [slices_insertionSortCmpFunc_impl_Atom_h0_L2.eq_2] at hc1; refine awp_seq <| awp_seq <| ?_
     obtain ⟨s34_908, hb2, hc1⟩ := ob hc1
     refine awp_cut ([(0, (.own 0 0 data_865.length)), (1, (.int .i64 a_2)), (2, (.int .i64 b_3)), (3, (.fn 177 [])), (8, (.int .i64 i_665)), (9, (.int .i64 j_864)), (34, (.bool s34_908))], [.row 3 (data_865.map encGAtom)]) ?_ ?_
     ·refine w_reg <| s_mov (.int .i64 j_864) rfl <| s_mov (.int .i64 a_2) rfl <| s_q (.bool (decide (j_864 > a_2))) rfl rfl rfl <| s_mov (.bool (decide (j_864 > a_2))) rfl <| ?_
      rcases oi hb2 with ⟨c910, hb2⟩ | ⟨c910, hb2⟩
      ·refine s_lit (s := 21) (b := true) rfl c910 <| s_on rfl <| s_mov (.fn 177 []) rfl <| s_on rfl <| s_mov (.own 0 0 data_865.length) rfl <| s_on rfl <| s_mov (.int .i64 j_864) rfl <| s_on rfl <| ?_
       obtain ⟨g911, hb2⟩ := og hb2
       refine s_do (o_iaddrown rfl rfl g911.1 g911.2 rfl rfl) <| s_on rfl <| ?_
       obtain ⟨x_912, ex913, hb2⟩ := ob hb2
       refine s_do (o_loadrow (enc := encGAtom) (v := (encGAtom x_912)) rfl rfl ex913 nle rfl) <| s_on rfl <| s_mov (.own 0 0 data_865.length) rfl <| s_on rfl <| s_mov (.int .i64 j_864) rfl <| s_on rfl <| s_q (.int .i64 (w64 (j_864 - 1))) rfl rfl rfl <| s_on rfl <| ?_
       obtain ⟨g914, hb2⟩ := og hb2
       refine s_do (o_iaddrown rfl rfl g914.1 g914.2 rfl rfl) <| s_on rfl <| ?_
       obtain ⟨x_915, ex916, hb2⟩ := ob hb2
       refine s_do (o_loadrow (enc := encGAtom) (v := (encGAtom x_915)) rfl rfl ex916 nle rfl) <| s_onl rfl <| ?_
       obtain ⟨r_917, er918, hb2⟩ := ob hb2
       refine s_dol (o_calvk (v := (.int .i64 r_917)) rfl (by kernel_rfl) (w_impl_compareAtoms _ _ _ er918) rfl rfl (.refl _) rfl) a_same trivial <| s_on rfl <| s_q (.bool (decide (r_917 < 0))) rfl rfl rfl <| s_q (.bool (decide (r_917 < 0))) rfl trivial rfl <| w_done <| ?_; obtain rfl := os hb2; exact ⟨[], [0], _, _, rfl, rfl, ⟨.refl _, ⟨.refl _, ⟨.refl _, ⟨.refl _, ⟨.refl _, ⟨.refl _, ⟨.refl _, trivial⟩⟩⟩⟩⟩⟩⟩, (.refl _)⟩
      ·refine s_lit (s := 21) (b := false) rfl (bf c910) <| s_off rfl rfl <| s_off rfl rfl <| s_off rfl rfl <| s_off rfl rfl <| s_off rfl rfl <| s_off rfl rfl <| s_off rfl rfl <| s_off rfl rfl <| s_off rfl rfl <| s_off rfl rfl <| s_offl rfl rfl trivial <| s_off rfl rfl <| s_q (.bool false) rfl trivial rfl <| w_done <| ?_; obtain rfl := os hb2; exact ⟨[], [0], _, _, rfl, rfl, ⟨.refl _, ⟨.refl _, ⟨.refl _, ⟨.refl _, ⟨.refl _, ⟨.refl _, ⟨.refl _, trivial⟩⟩⟩⟩⟩⟩⟩, (.refl _)⟩
     ·rcases oi hc1 with ⟨c919, hc1⟩ | ⟨c919, hc1⟩
      ·refine w_condt rfl c919 <| w_skip <| k_seq <| awp_seq <| w_blk <| w_reg <| s_mov (.own 0 0 data_865.length) rfl <| s_mov (.int .i64 j_864) rfl <| s_mov (.own 0 0 data_865.length) rfl <| s_mov (.int .i64 j_864) rfl <| s_q (.int .i64 (w64 (j_864 - 1))) rfl rfl rfl <| s_mov (.own 0 0 data_865.length) rfl <| s_mov (.int .i64 j_864) rfl <| s_q (.int .i64 (w64 (j_864 - 1))) rfl rfl rfl <| ?_
       obtain ⟨g920, hc1⟩ := og hc1
       refine s_do (o_iaddrown rfl rfl g920.1 g920.2 rfl rfl) ?_
       obtain ⟨x_921, ex922, hc1⟩ := ob hc1
       refine s_do (o_loadrow (enc := encGAtom) (v := (encGAtom x_921)) rfl rfl ex922 nle rfl) <| s_mov (.own 0 0 data_865.length) rfl <| s_mov (.int .i64 j_864) rfl <| ?_
       obtain ⟨g923, hc1⟩ := og hc1
       refine s_do (o_iaddrown rfl rfl g923.1 g923.2 rfl rfl) ?_
       obtain ⟨x_924, ex925, hc1⟩ := ob hc1
       refine s_do (o_loadrow (enc := encGAtom) (v := (encGAtom x_924)) rfl rfl ex925 nle rfl) ?_
       obtain ⟨g926, hc1⟩ := og hc1
       refine s_do (o_iaddrown rfl rfl g926.1 g926.2 rfl rfl) ?_; refine s_dol0 (o_storerow (v' := (encGAtom x_921)) (e' := x_921) rfl rfl ex925 rfl rfl rfl (by decide) (fun _ => by decide) ⟨rfl, nle⟩ (.refl _) rfl) trivial trivial ?_
       obtain ⟨g927, hc1⟩ := og hc1
       refine s_do (o_iaddrown rfl rfl g927.1 g927.2 rfl rfl) ?_
       obtain ⟨x_928, ex929, hc1⟩ := ob hc1
       refine s_dol0 (o_storerow (v' := (encGAtom x_924)) (e' := x_924) rfl rfl ex929 rfl rfl rfl (by decide) (fun _ => by decide) ⟨rfl, nle⟩ (.refl _) rfl) trivial trivial ?_; refine w_done <| k_blk <| k_seq <| w_reg <| s_mov (.int .i64 j_864) rfl <| s_q (.int .i64 (w64 (j_864 - 1))) rfl rfl rfl <| s_mov (.int .i64 (w64 (j_864 - 1))) rfl <| w_done <| ?_; exact k_loopn ⟨(k, w64 (j_864 - 1), (data_865.set (0 + j_864.toNat) x_921).set (0 + (w64 (j_864 - 1)).toNat) x_924), hc1⟩ (Nat.lt_succ_self _) ⟨[], [0], _, _, rfl, rfl, ⟨.of_eq (congrArg (AV.own _ 0) (by simp)), ⟨.refl _, ⟨.refl _, ⟨.refl _, ⟨.refl _, ⟨.refl _, trivial⟩⟩⟩⟩⟩⟩, (.refl _)⟩
      ·refine w_condf rfl (bf c919) <| w_exit <| k_seqx <| k_loopx <| k_blkx <| ?_; refine k_blk ?_; obtain rfl := os hc1; exact ⟨[], [0], _, _, rfl, rfl, ⟨.refl _, ⟨.refl _, ⟨.refl _, ⟨.refl _, ⟨.refl _, trivial⟩⟩⟩⟩⟩, (.refl _)⟩
   ·refine w_reg <| s_mov (.int .i64 i_665) rfl <| s_q (.int .i64 (w64 (i_665 + 1))) rfl rfl rfl <| s_mov (.int .i64 (w64 (i_665 + 1))) rfl <| w_done <| ?_; exact k_loopn ⟨(k, w64 (i_665 + 1), data_897), hc1⟩ (Nat.lt_succ_self _) ⟨[], [0], _, _, rfl, rfl, ⟨.refl _, ⟨.refl _, ⟨.refl _, ⟨.refl _, ⟨.refl _, trivial⟩⟩⟩⟩⟩, (.refl _)⟩
  ·refine w_condf rfl (bf c799) <| w_exit <| k_seqx <| k_loopx <| k_blkx <| ?_; obtain rfl := os hc1; exact r_heap [] [0] rfl trivial rfl (.refl _) (.refl _)

/- slices.pdqsortCmpFunc[impl.Atom] -/
def c282_h0 : ACode :=
 (.seq (.reg (tm 10 (.c (.bool true)) .done))
 (.seq (.reg (tm 11 (.c (.bool true)) .done))
 (.block 0 (.loop (.block 1 (.seq (.reg (tm 21 (.t 2) (tm 22 (.t 1) (tq 23 (.bin .sub (.t 21) (.t 22)) (tm 12 (.t 23) .done)))))
 (.seq (.seq (.reg (tm 24 (.t 12) (tq 25 (.bin .leq (.t 24) (.c (.int .i64 12))) .done)))
 (.cond (.t 25) (.seq (.reg (tm 26 (.t 0) (tm 27 (.t 1) (tm 28 (.t 2) (tm 29 (.t 4) (tq 30 (.call 296 [(.t 26), (.t 27), (.t 28), (.t 29)]) .done))))))
 .ret)
 .skip))
 (.seq (.seq (.reg (tm 31 (.t 3) (tq 32 (.bin .eql (.t 31) (.c (.int .i64 0))) .done)))
 (.cond (.t 32) (.seq (.reg (tm 33 (.t 0) (tm 34 (.t 1) (tm 35 (.t 2) (tm 36 (.t 4) (tq 37 (.call 297 [(.t 33), (.t 34), (.t 35), (.t 36)]) .done))))))
 .ret)
 .skip))
 (.seq (.seq (.reg (tm 38 (.t 10) (tq 39 (.not (.t 38)) .done)))
 (.cond (.t 39) (.seq (.reg (tm 40 (.t 0) (tm 41 (.t 1) (tm 42 (.t 2) (tm 43 (.t 4) (tq 44 (.call 298 [(.t 40), (.t 41), (.t 42), (.t 43)]) .done))))))
 (.reg (tm 45 (.t 3) (tq 46 (.bin .sub (.t 45) (.c (.int .i64 1))) (tm 3 (.t 46) .done)))))
 .skip))
 (.seq (.reg (tm 48 (.t 0) (tm 49 (.t 1) (tm 50 (.t 2) (tm 51 (.t 4) (tq 52 (.call 299 [(.t 48), (.t 49), (.t 50), (.t 51)]) (tm 47 (.t 52) (tq 53 (.extract 0 (.t 47)) (tq 54 (.extract 1 (.t 47)) (tm 13 (.t 53) (tm 14 (.t 54) .done)))))))))))
 (.seq (.seq (.reg (tm 55 (.t 14) (tq 56 (.bin .eql (.t 55) (.c (.int .i64 2))) .done)))
 (.cond (.t 56) (.seq (.reg (tm 57 (.t 0) (tm 58 (.t 1) (tm 59 (.t 2) (tm 60 (.t 4) (tq 61 (.call 300 [(.t 57), (.t 58), (.t 59), (.t 60)]) .done))))))
 (.seq (.reg (tm 62 (.t 2) (tq 63 (.bin .sub (.t 62) (.c (.int .i64 1))) (tm 64 (.t 13) (tm 65 (.t 1) (tq 66 (.bin .sub (.t 64) (.t 65)) (tq 67 (.bin .sub (.t 63) (.t 66)) (tm 13 (.t 67) .done))))))))
 (.reg (tm 14 (.c (.int .i64 1)) .done))))
 .skip))
 (.seq (.seq (.reg (tm 68 (.t 10) (tm 69 (.t 68) (tg 70 69 true (.mov (.t 11)) (tq 71 (.pick (.t 69) (.t 70) (.c (.bool false))) (tm 72 (.t 71) (tg 73 72 true (.mov (.t 14)) (tg 74 72 true (.bin .eql (.t 73) (.c (.int .i64 1))) (tq 75 (.pick (.t 72) (.t 74) (.c (.bool false))) .done)))))))))
 (.cond (.t 75) (.seq (.reg (tm 76 (.t 0) (tm 77 (.t 1) (tm 78 (.t 2) (tm 79 (.t 4) (tq 80 (.call 301 [(.t 76), (.t 77), (.t 78), (.t 79)]) .done))))))
 (.cond (.t 80) .ret
 .skip))
 .skip))
 (.seq (.seq (.reg (tm 81 (.t 1) (tq 82 (.bin .gtr (.t 81) (.c (.int .i64 0))) (tm 83 (.t 82) (tg 84 83 true (.mov (.t 4)) (tg 85 83 true (.mov (.t 0)) (tg 86 83 true (.mov (.t 1)) (tg 87 83 true (.bin .sub (.t 86) (.c (.int .i64 1))) (tg 88 83 true (.iaddr 3 (.t 85) (.t 87)) (tg 89 83 true (.load 3 true (.t 88)) (tg 90 83 true (.mov (.t 0)) (tg 91 83 true (.mov (.t 13)) (tg 92 83 true (.iaddr 3 (.t 90) (.t 91)) (tg 93 83 true (.load 3 true (.t 92)) (.l ⟨(some 94), (some (83, true)), .calv (.t 84) [(.t 89), (.t 93)]⟩ []
 (tg 95 83 true (.bin .lss (.t 94) (.c (.int .i64 0))) (tg 96 83 true (.not (.t 95)) (tq 97 (.pick (.t 83) (.t 96) (.c (.bool false))) .done))) .non)))))))))))))))
 (.cond (.t 97) (.seq (.reg (tm 98 (.t 0) (tm 99 (.t 1) (tm 100 (.t 2) (tm 101 (.t 13) (tm 102 (.t 4) (tq 103 (.call 302 [(.t 98), (.t 99), (.t 100), (.t 101), (.t 102)]) (tm 15 (.t 103) .done))))))))
 (.seq (.reg (tm 104 (.t 15) (tm 1 (.t 104) .done)))
 (.exit 1)))
 .skip))
 (.seq (.reg (tm 106 (.t 0) (tm 107 (.t 1) (tm 108 (.t 2) (tm 109 (.t 13) (tm 110 (.t 4) (tq 111 (.call 303 [(.t 106), (.t 107), (.t 108), (.t 109), (.t 110)]) (tm 105 (.t 111) (tq 112 (.extract 0 (.t 105)) (tq 113 (.extract 1 (.t 105)) (tm 16 (.t 112) (tm 17 (.t 113) .done))))))))))))
 (.seq (.reg (tm 114 (.t 17) (tm 11 (.t 114) .done)))
 (.seq (.reg (tm 115 (.t 16) (tm 116 (.t 1) (tq 117 (.bin .sub (.t 115) (.t 116)) (tm 118 (.t 2) (tm 119 (.t 16) (tq 120 (.bin .sub (.t 118) (.t 119)) (tm 18 (.t 117) (tm 19 (.t 120) .done)))))))))
 (.seq (.reg (tm 121 (.t 12) (tq 122 (.bin .quo (.t 121) (.c (.int .i64 8))) (tm 20 (.t 122) .done))))
 (.seq (.reg (tm 123 (.t 18) (tm 124 (.t 19) (tq 125 (.bin .lss (.t 123) (.t 124)) .done))))
 (.cond (.t 125) (.seq (.reg (tm 126 (.t 18) (tm 127 (.t 20) (tq 128 (.bin .geq (.t 126) (.t 127)) (tm 10 (.t 128) .done)))))
 (.seq (.reg (tm 129 (.t 0) (tm 130 (.t 1) (tm 131 (.t 16) (tm 132 (.t 3) (tm 133 (.t 4) (tq 134 (.call 282 [(.t 129), (.t 130), (.t 131), (.t 132), (.t 133)]) .done)))))))
 (.reg (tm 135 (.t 16) (tq 136 (.bin .add (.t 135) (.c (.int .i64 1))) (tm 1 (.t 136) .done))))))
 (.seq (.reg (tm 137 (.t 19) (tm 138 (.t 20) (tq 139 (.bin .geq (.t 137) (.t 138)) (tm 10 (.t 139) .done)))))
 (.seq (.reg (tm 140 (.t 0) (tm 141 (.t 16) (tq 142 (.bin .add (.t 141) (.c (.int .i64 1))) (tm 143 (.t 2) (tm 144 (.t 3) (tm 145 (.t 4) (tq 146 (.call 282 [(.t 140), (.t 142), (.t 143), (.t 144), (.t 145)]) .done))))))))
 (.reg (tm 147 (.t 16) (tm 2 (.t 147) .done))))))))))))))))))))))))
theorem fc282_h0 : fcomp Try.prog Try.f282 = some (c282_h0.erase, [], 148) := by kernel_rfl
def slices_pdqsortCmpFunc_impl_Atom_h0_B_L1 (b_3 : Int) (a_2 : Int) (data_1 : (List GAtom)) : Nat → Option (List GAtom)
  | 0 => none
  | k + 1 =>
    if (decide (w64 (b_3 - a_2) ≤ 12)) then
    (slices_insertionSortCmpFunc_impl_Atom_h0 data_1 a_2 b_3).bind fun r_15 =>
    some r_15
    else
    none

def slices_pdqsortCmpFunc_impl_Atom_h0_B (rec : ((List GAtom) → Int → Int → Int → Option (List GAtom))) (data_1 : (List GAtom)) (a_2 : Int) (b_3 : Int) (limit_4 : Int) : Option (List GAtom) :=
    slices_pdqsortCmpFunc_impl_Atom_h0_B_L1 b_3 a_2 data_1 FUEL 
theorem w_slices_pdqsortCmpFunc_impl_Atom_h0_B (rec : ((List GAtom) → Int → Int → Int → Option (List GAtom))) (hrec : ∀ a0 a1 a2 a3 r, rec a0 a1 a2 a3 = some r → CallHeap Try.prog true 282 [(.own 0 0 a0.length), (.int .i64 a1), (.int .i64 a2), (.int .i64 a3), (.fn 177 [])] [.row 3 (a0.map encGAtom)] (.tup []) [.row 3 (r.map encGAtom)]) (data_1 : (List GAtom)) (a_2 : Int) (b_3 : Int) (limit_4 : Int) (r : (List GAtom)) (hf : slices_pdqsortCmpFunc_impl_Atom_h0_B rec data_1 a_2 b_3 limit_4 = some r) : CallHeap Try.prog true 282 [(.own 0 0 data_1.length), (.int .i64 a_2), (.int .i64 b_3), (.int .i64 limit_4), (.fn 177 [])] [.row 3 (data_1.map encGAtom)] (.tup []) [.row 3 (r.map encGAtom)] := by
 refine CallHeap.of_awp mixed Try.func282 fc282_h0 nle ?_; rw [argT_eq]; unfold slices_pdqsortCmpFunc_impl_Atom_h0_B at hf; unfold c282_h0; refine (show awp Try.prog true 1 _ (ofL [(0, (.own 0 0 data_1.length)), (1, (.int .i64 a_2)), (2, (.int .i64 b_3)), (3, (.int .i64 limit_4)), (4, (.fn 177 []))]) [.row 3 (data_1.map encGAtom)] _ from ?_); refine awp_seq <| w_reg <| s_mov (.bool true) rfl <| w_done <| k_seq <| awp_seq <| w_reg <| s_mov (.bool true) rfl <| w_done <| k_seq <| ?_; refine awp_loop (X := {q : Nat // slices_pdqsortCmpFunc_impl_Atom_h0_B_L1 b_3 a_2 data_1 q = some r}) (fun q => ([(0, (.own 0 0 data_1.length)), (1, (.int .i64 a_2)), (2, (.int .i64 b_3)), (3, (.int .i64 limit_4)), (4, (.fn 177 [])), (10, (.bool true)), (11, (.bool true))], [.row 3 (data_1.map encGAtom)])) (fun q => q.1) ⟨FUEL, hf⟩ ⟨[], [0], _, _, rfl, rfl, ⟨.refl _, ⟨.refl _, ⟨.refl _, ⟨.refl _, ⟨.refl _, ⟨.refl _, ⟨.refl _, trivial⟩⟩⟩⟩⟩⟩⟩, (.refl _)⟩ ?_
 rintro ⟨k, hc1⟩
 have hc1 : slices_pdqsortCmpFunc_impl_Atom_h0_B_L1 b_3 a_2 data_1 k  = some r := hc1
 refine (show awp Try.prog true 1 _ (ofL [(0, (.own 0 0 data_1.length)), (1, (.int .i64 a_2)), (2, (.int .i64 b_3)), (3, (.int .i64 limit_4)), (4, (.fn 177 [])), (10, (.bool true)), (11, (.bool true))]) [.row 3 (data_1.map encGAtom)] _ from ?_)
 rcases k with _ | k
 ·rw [slices_pdqsortCmpFunc_impl_Atom_h0_B_L1.eq_1] at hc1
  cases hc1
 ·rw [slices_pdqsortCmpFunc_impl_Atom_h0_B_L1.eq_2] at hc1; refine w_blk <| awp_seq <| w_reg <| s_mov (.int .i64 b_3) rfl <| s_mov (.int .i64 a_2) rfl <| s_q (.int .i64 (w64 (b_3 - a_2))) rfl rfl rfl <| s_mov (.int .i64 (w64 (b_3 - a_2))) rfl <| w_done <| k_seq <| awp_seq <| awp_seq <| w_reg <| s_mov (.int .i64 (w64 (b_3 - a_2))) rfl <| s_q (.bool (decide (w64 (b_3 - a_2) ≤ 12))) rfl rfl rfl <| w_done <| k_seq <| ?_
  rcases oi hc1 with ⟨c14, hc1⟩ | ⟨c14, hc1⟩
  ·refine w_condt rfl c14 <| awp_seq <| w_reg <| ?_
   obtain ⟨r_15, er16, hc1⟩ := ob hc1
   refine s_mov (.own 0 0 data_1.length) rfl <| s_mov (.int .i64 a_2) rfl <| s_mov (.int .i64 b_3) rfl <| s_mov (.fn 177 []) rfl <| ?_; refine s_dof (o_callhs (v := (.tup [])) (h2 := [.row 3 (r_15.map encGAtom)]) [] [0] (fun _ => rfl) (w_slices_insertionSortCmpFunc_impl_Atom_h0 _ _ _ _ er16) rfl (.refl _) (.refl _) rfl rfl) fun hl17 => ?_; refine w_done <| k_seq <| w_ret <| ?_; obtain rfl := os hc1; exact r_heap [] [0] rfl trivial rfl (.refl _) (.refl _)
  ·cases hc1
def slices_pdqsortCmpFunc_impl_Atom_h0 : Nat → (List GAtom) → Int → Int → Int → Option (List GAtom)
 | 0, _, _, _, _ => none
 | k + 1, data_1, a_2, b_3, limit_4 => slices_pdqsortCmpFunc_impl_Atom_h0_B (slices_pdqsortCmpFunc_impl_Atom_h0 k) data_1 a_2 b_3 limit_4
theorem w_slices_pdqsortCmpFunc_impl_Atom_h0 : ∀ (k : Nat) (data_1 : (List GAtom)) (a_2 : Int) (b_3 : Int) (limit_4 : Int) (r : (List GAtom)), slices_pdqsortCmpFunc_impl_Atom_h0 k data_1 a_2 b_3 limit_4 = some r → CallHeap Try.prog true 282 [(.own 0 0 data_1.length), (.int .i64 a_2), (.int .i64 b_3), (.int .i64 limit_4), (.fn 177 [])] [.row 3 (data_1.map encGAtom)] (.tup []) [.row 3 (r.map encGAtom)]
 | 0, data_1, a_2, b_3, limit_4, r, h => by rw [slices_pdqsortCmpFunc_impl_Atom_h0.eq_1] at h; cases h
 | k + 1, data_1, a_2, b_3, limit_4, r, h => by
  rw [slices_pdqsortCmpFunc_impl_Atom_h0.eq_2] at h; exact w_slices_pdqsortCmpFunc_impl_Atom_h0_B _ (w_slices_pdqsortCmpFunc_impl_Atom_h0 k) data_1 a_2 b_3 limit_4 r h

/- slices.SortFunc[[]impl.Atom,impl.Atom] -/
def c265_h0 : ACode :=
 (.seq (.reg (tm 5 (.t 0) (tq 6 (.len (.t 5)) (tm 4 (.t 6) .done))))
 (.reg (tm 7 (.t 0) (tm 8 (.t 4) (tm 9 (.t 4) (tq 10 (.convI .u64 (.t 9)) (tq 11 (.call 270 [(.t 10)]) (tm 12 (.t 1) (tq 13 (.call 282 [(.t 7), (.c (.int .i64 0)), (.t 8), (.t 11), (.t 12)]) .done)))))))))
theorem fc265_h0 : fcomp Try.prog Try.f265 = some (c265_h0.erase, [], 14) := by kernel_rfl
def slices_SortFunc_impl_Atom_impl_Atom_h0 (x_1 : (List GAtom)) : Option (List GAtom) :=
    (math_bits_Len (IntKind.u64.wrap (x_1.length : Int))).bind fun r_3 =>
    (slices_pdqsortCmpFunc_impl_Atom_h0 FUEL x_1 0 (x_1.length : Int) r_3).bind fun r_5 =>
    some r_5
theorem w_slices_SortFunc_impl_Atom_impl_Atom_h0 (x_1 : (List GAtom)) (r : (List GAtom)) (hf : slices_SortFunc_impl_Atom_impl_Atom_h0 x_1 = some r) : CallHeap Try.prog true 265 [(.own 0 0 x_1.length), (.fn 177 [])] [.row 3 (x_1.map encGAtom)] (.tup []) [.row 3 (r.map encGAtom)] := by
 refine CallHeap.of_awp mixed Try.func265 fc265_h0 nle ?_; rw [argT_eq]; unfold slices_SortFunc_impl_Atom_impl_Atom_h0 at hf; unfold c265_h0; refine (show awp Try.prog true 1 _ (ofL [(0, (.own 0 0 x_1.length)), (1, (.fn 177 []))]) [.row 3 (x_1.map encGAtom)] _ from ?_); refine awp_seq <| w_reg <| s_mov (.own 0 0 x_1.length) rfl <| s_dof (o_lenown rfl rfl) fun hl2 => s_mov (.int .i64 (x_1.length : Int)) rfl <| w_done <| k_seq <| w_reg <| ?_
 obtain ⟨r_3, er4, hf⟩ := ob hf
 obtain ⟨r_5, er6, hf⟩ := ob hf
 refine s_mov (.own 0 0 x_1.length) rfl <| s_mov (.int .i64 (x_1.length : Int)) rfl <| s_mov (.int .i64 (x_1.length : Int)) rfl <| s_q (.int .u64 (IntKind.u64.wrap (x_1.length : Int))) rfl trivial rfl <| s_do (o_call (w_math_bits_Len _ _ er4) rfl (.refl _) rfl) <| s_mov (.fn 177 []) rfl <| ?_; refine s_dof (o_callhs (v := (.tup [])) (h2 := [.row 3 (r_5.map encGAtom)]) [] [0] (fun _ => rfl) (w_slices_pdqsortCmpFunc_impl_Atom_h0 FUEL _ _ _ _ _ er6) rfl (.refl _) (.refl _) rfl rfl) fun hl7 => ?_; refine w_done ?_; obtain rfl := os hf; exact r_heap [] [0] rfl trivial rfl (.refl _) (.refl _)

/- slices.Compact[[]impl.Atom,impl.Atom] -/
def c266_h0 : ACode :=
 (.seq (.reg (tm 2 (.c .nil) .done))
 (.seq (.seq (.reg (tm 6 (.t 0) (tq 7 (.len (.t 6)) (tq 8 (.bin .lss (.t 7) (.c (.int .i64 2))) .done))))
 (.cond (.t 8) (.seq (.reg (tm 9 (.t 0) (tm 2 (.t 9) .done)))
 .ret)
 .skip))
 (.seq (.seq (.reg (tm 3 (.c (.int .i64 1)) .done))
 (.block 0 (.loop (.seq (.seq (.reg (tm 10 (.t 3) (tm 11 (.t 0) (tq 12 (.len (.t 11)) (tq 13 (.bin .lss (.t 10) (.t 12)) .done)))))
 (.cond (.t 13) .skip
 (.exit 0)))
 (.seq (.block 1 (.seq (.reg (tm 16 (.t 0) (tm 17 (.t 3) (tq 18 (.iaddr 3 (.t 16) (.t 17)) (tq 19 (.load 3 true (.t 18)) (tm 20 (.t 0) (tm 21 (.t 3) (tq 22 (.bin .sub (.t 21) (.c (.int .i64 1))) (tq 23 (.iaddr 3 (.t 20) (.t 22)) (tq 24 (.load 3 true (.t 23)) (tq 25 (.eqs false [0, 0, 2] (.t 19) (.t 24)) .done)))))))))))
 (.cond (.t 25) (.seq (.reg (tm 26 (.t 0) (tm 27 (.t 3) (tq 28 (.slice 3 (.t 26) (some (.t 27)) none) (tm 4 (.t 28) .done)))))
 (.seq (.seq (.reg (tm 5 (.c (.int .i64 1)) .done))
 (.block 2 (.loop (.seq (.seq (.reg (tm 29 (.t 5) (tm 30 (.t 4) (tq 31 (.len (.t 30)) (tq 32 (.bin .lss (.t 29) (.t 31)) .done)))))
 (.cond (.t 32) .skip
 (.exit 2)))
 (.seq (.block 3 (.seq (.reg (tm 35 (.t 4) (tm 36 (.t 5) (tq 37 (.iaddr 3 (.t 35) (.t 36)) (tq 38 (.load 3 true (.t 37)) (tm 39 (.t 4) (tm 40 (.t 5) (tq 41 (.bin .sub (.t 40) (.c (.int .i64 1))) (tq 42 (.iaddr 3 (.t 39) (.t 41)) (tq 43 (.load 3 true (.t 42)) (tq 44 (.eqs true [0, 0, 2] (.t 38) (.t 43)) .done)))))))))))
 (.cond (.t 44) (.seq (.reg (tm 45 (.t 0) (tm 46 (.t 3) (tm 47 (.t 4) (tm 48 (.t 5) (tq 49 (.iaddr 3 (.t 47) (.t 48)) (tq 50 (.load 3 true (.t 49)) (tq 51 (.iaddr 3 (.t 45) (.t 46)) (.q ⟨none, none, .store 3 (.t 51) (.t 50)⟩
 .done)))))))))
 (.reg (tm 52 (.t 3) (tq 53 (.bin .add (.t 52) (.c (.int .i64 1))) (tm 3 (.t 53) .done)))))
 .skip)))
 (.reg (tm 33 (.t 5) (tq 34 (.bin .add (.t 33) (.c (.int .i64 1))) (tm 5 (.t 34) .done)))))))))
 (.cut (.seq (.reg (tm 54 (.t 0) (tm 55 (.t 3) (tq 56 (.slice 3 (.t 54) (some (.t 55)) none) (.q ⟨none, none, .clr 3 (.agg [(.int .i64 0), (.int .i64 0), (.str [])]) (.t 56)⟩
 .done)))))
 (.seq (.reg (tm 57 (.t 0) (tm 58 (.t 3) (tq 59 (.slice 3 (.t 57) none (some (.t 58))) (tm 2 (.t 59) .done)))))
 .ret)))))
 .skip)))
 (.reg (tm 14 (.t 3) (tq 15 (.bin .add (.t 14) (.c (.int .i64 1))) (tm 3 (.t 15) .done)))))))))
 (.cut (.seq (.reg (tm 60 (.t 0) (tm 2 (.t 60) .done)))
 .ret)))))
theorem fc266_h0 : fcomp Try.prog Try.f266 = some (c266_h0.erase, [.mov (.t 2)], 61) := by kernel_rfl
def slices_Compact_impl_Atom_impl_Atom_h0_L2 (s_1 : (List GAtom)) (k_235 : Nat) : Nat → Int → Int → (List GAtom) → Option (Int × (List GAtom))
  | 0, _, _, _ => none
  | k + 1, k_439, k2_440, s_441 =>
    if (decide (k2_440 < (((s_1.length - k_235) : Nat) : Int))) then
    if (0 : Int) ≤ k2_440 ∧ k2_440 < (((s_1.length - k_235) : Nat) : Int) then
    (s_441[(k_235 + k2_440.toNat)]?).bind fun x_461 =>
    if (0 : Int) ≤ w64 (k2_440 - 1) ∧ w64 (k2_440 - 1) < (((s_1.length - k_235) : Nat) : Int) then
    (s_441[(k_235 + (w64 (k2_440 - 1)).toNat)]?).bind fun x_464 =>
    if (!(x_461.Kind == x_464.Kind && (x_461.N == x_464.N && (x_461.T == x_464.T && true)))) then
    if (0 : Int) ≤ k2_440 ∧ k2_440 < (((s_1.length - k_235) : Nat) : Int) then
    if (0 : Int) ≤ k_439 ∧ k_439 < (s_441.length : Int) then
    (s_441[(0 + k_439.toNat)]?).bind fun x_469 =>
    slices_Compact_impl_Atom_impl_Atom_h0_L2 s_1 k_235 k (w64 (k_439 + 1)) (w64 (k2_440 + 1)) (s_441.set (0 + k_439.toNat) x_461)
    else none
    else none
    else
    slices_Compact_impl_Atom_impl_Atom_h0_L2 s_1 k_235 k k_439 (w64 (k2_440 + 1)) s_441
    else none
    else none
    else
    some (k_439, s_441)

def slices_Compact_impl_Atom_impl_Atom_h0_L1 (s_1 : (List GAtom)) : List GAtom → Nat → Option (Fl (List GAtom) Unit)
  | [], k_235 =>
    some (.go ())
  | x_359 :: xs, k_235 =>
    if k_235 < s_1.length then
    if (0 : Int) ≤ w64 ((k_235 : Int) - 1) ∧ w64 ((k_235 : Int) - 1) < (s_1.length : Int) then
    (s_1[(0 + (w64 ((k_235 : Int) - 1)).toNat)]?).bind fun x_364 =>
    if (x_359.Kind == x_364.Kind && (x_359.N == x_364.N && (x_359.T == x_364.T && true))) then
    if (0 : Int) ≤ (k_235 : Int) ∧ (k_235 : Int) ≤ (s_1.length : Int) then
    (slices_Compact_impl_Atom_impl_Atom_h0_L2 s_1 k_235 FUEL (k_235 : Int) 1 s_1).bind fun p457 =>
    (match p457 with
    | (k_455, s_456) =>
    if (0 : Int) ≤ k_455 ∧ k_455 ≤ (s_456.length : Int) then
    if (0 : Int) ≤ k_455 ∧ k_455 ≤ (s_456.length : Int) then
    some (.ret ((s_456.take k_455.toNat ++ List.replicate (s_456.length - k_455.toNat) (⟨0, 0, []⟩ : GAtom) ++ s_456.drop (k_455.toNat + (s_456.length - k_455.toNat))).take k_455.toNat))
    else none
    else none)
    else none
    else
    slices_Compact_impl_Atom_impl_Atom_h0_L1 s_1 xs (k_235 + 1)
    else none
    else none

def slices_Compact_impl_Atom_impl_Atom_h0 (s_1 : (List GAtom)) : Option (List GAtom) :=
    if (decide ((s_1.length : Int) < 2)) then
    some s_1
    else
    (slices_Compact_impl_Atom_impl_Atom_h0_L1 s_1 (s_1.drop 1) 1).bind fun q => (match q with
    | .ret r => some r
    | .go _ =>
    some s_1)
theorem w_slices_Compact_impl_Atom_impl_Atom_h0 (s_1 : (List GAtom)) (r : (List GAtom)) (hf : slices_Compact_impl_Atom_impl_Atom_h0 s_1 = some r) : CallHeap Try.prog true 266 [(.own 0 0 s_1.length)] [.row 3 (s_1.map encGAtom)] (.own 1 0 r.length) [.dead, .row 3 (r.map encGAtom)] := by
 refine CallHeap.of_awp mixed Try.func266 fc266_h0 nle ?_; rw [argT_eq]; unfold slices_Compact_impl_Atom_impl_Atom_h0 at hf; unfold c266_h0; refine (show awp Try.prog true 1 _ (ofL [(0, (.own 0 0 s_1.length))]) [.row 3 (s_1.map encGAtom)] _ from ?_); refine awp_seq <| w_reg <| s_mov .nil rfl <| w_done <| k_seq <| awp_seq <| awp_seq <| w_reg <| s_mov (.own 0 0 s_1.length) rfl <| s_dof (o_lenown rfl rfl) fun hl2 => s_q (.bool (decide ((s_1.length : Int) < 2))) rfl rfl rfl <| w_done <| k_seq <| ?_
 rcases oi hf with ⟨c3, hf⟩ | ⟨c3, hf⟩
 ·refine w_condt rfl c3 <| awp_seq <| w_reg <| s_mov (.own 0 0 s_1.length) rfl <| s_mov (.own 0 0 s_1.length) rfl <| w_done <| k_seq <| w_ret <| ?_; obtain rfl := os hf; exact r_heap [.mv 0] [0, 1] rfl ⟨trivial, trivial⟩ rfl (.refl _) (.refl _)
 ·refine w_condf rfl (bf c3) <| w_skip <| k_seq <| awp_seq <| awp_seq <| w_reg <| s_mov (.int .i64 1) rfl <| w_done <| k_seq <| ?_
  obtain ⟨p352, hb1, hf⟩ := ob hf
  refine awp_cutx (X := {q : Unit // p352 = .go q}) (fun q => ([(0, (.own 0 0 s_1.length))], [.row 3 (s_1.map encGAtom)])) ?_ ?_
  ·refine awp_loop (X := {q : Nat // slices_Compact_impl_Atom_impl_Atom_h0_L1 s_1 (s_1.drop q) q = some p352}) (fun q => ([(0, (.own 0 0 s_1.length)), (3, (.int .i64 (q.1 : Int)))], [.row 3 (s_1.map encGAtom)])) (fun q => s_1.length - q.1) ⟨1, hb1⟩ ⟨[], [0], _, _, rfl, rfl, ⟨.refl _, ⟨.refl _, trivial⟩⟩, (.refl _)⟩ ?_
   rintro ⟨k_235, hc1⟩
   have hc1 : slices_Compact_impl_Atom_impl_Atom_h0_L1 s_1 (s_1.drop k_235) k_235 = some p352 := hc1
   refine (show awp Try.prog true 1 _ (ofL [(0, (.own 0 0 s_1.length)), (3, (.int .i64 (k_235 : Int)))]) [.row 3 (s_1.map encGAtom)] _ from ?_)
   rcases dropc s_1 k_235 with ⟨hie355, hd358⟩ | ⟨hlt353, x_359, hx354, hd358⟩
   ·rw [hd358, slices_Compact_impl_Atom_impl_Atom_h0_L1.eq_1] at hc1
    have hq357 := dlf hie355
    refine awp_seq <| awp_seq <| w_reg <| s_mov (.int .i64 (k_235 : Int)) rfl <| s_mov (.own 0 0 s_1.length) rfl <| s_dof (o_lenown rfl rfl) fun hl360 => s_q (.bool (decide ((k_235 : Int) < (s_1.length : Int)))) rfl rfl rfl <| w_done <| k_seq <| w_condf rfl hq357 <| w_exit <| k_seqx <| k_loopx <| k_blkx <| ?_; obtain rfl := os hc1; exact k_cutn ⟨_, rfl⟩ ⟨[], [0], _, _, rfl, rfl, ⟨.refl _, trivial⟩, (.refl _)⟩
   ·rw [hd358, slices_Compact_impl_Atom_impl_Atom_h0_L1.eq_2] at hc1
    have hq357 := dlt hlt353
    refine awp_seq <| awp_seq <| w_reg <| s_mov (.int .i64 (k_235 : Int)) rfl <| s_mov (.own 0 0 s_1.length) rfl <| s_dof (o_lenown rfl rfl) fun hl361 => s_q (.bool (decide ((k_235 : Int) < (s_1.length : Int)))) rfl rfl rfl <| w_done <| k_seq <| w_condt rfl hq357 <| w_skip <| k_seq <| awp_seq <| w_blk <| awp_seq <| w_reg <| ?_
    obtain ⟨g362, hc1⟩ := og hc1
    obtain ⟨g363, hc1⟩ := og hc1
    obtain ⟨x_364, ex365, hc1⟩ := ob hc1
    refine s_mov (.own 0 0 s_1.length) rfl <| s_mov (.int .i64 (k_235 : Int)) rfl <| s_do (o_iaddrownn rfl rfl g362 rfl rfl) <| s_do (o_loadrow (enc := encGAtom) (v := (encGAtom x_359)) rfl rfl hx354 nle rfl) <| s_mov (.own 0 0 s_1.length) rfl <| s_mov (.int .i64 (k_235 : Int)) rfl <| s_q (.int .i64 (w64 ((k_235 : Int) - 1))) rfl rfl rfl <| s_do (o_iaddrown rfl rfl g363.1 g363.2 rfl rfl) <| s_do (o_loadrow (enc := encGAtom) (v := (encGAtom x_364)) rfl rfl ex365 nle rfl) <| s_q (.bool (x_359.Kind == x_364.Kind && (x_359.N == x_364.N && (x_359.T == x_364.T && true)))) rfl ⟨⟨rfl, rfl⟩, ⟨⟨rfl, rfl⟩, ⟨rfl, trivial⟩⟩⟩ rfl <| w_done <| k_seq <| ?_
    rcases oi hc1 with ⟨c366, hc1⟩ | ⟨c366, hc1⟩
    ·refine w_condt rfl c366 <| awp_seq <| w_reg <| ?_
     obtain ⟨g367, hc1⟩ := og hc1
     refine s_mov (.own 0 0 s_1.length) rfl <| s_mov (.int .i64 (k_235 : Int)) rfl <| s_do (o_sldo rfl rfl rfl g367.1 g367.2) <| s_mov (.own 0 k_235 (s_1.length - k_235)) rfl <| w_done <| k_seq <| awp_seq <| awp_seq <| w_reg <| s_mov (.int .i64 1) rfl <| w_done <| k_seq <| ?_
     obtain ⟨p457, hb2, hc1⟩ := ob hc1
     refine awp_cut ([(0, (.own 0 0 p457.2.length)), (3, (.int .i64 p457.1))], [.row 3 (p457.2.map encGAtom)]) ?_ ?_
     ·refine awp_loop (X := {q : (Nat × Int × Int × (List GAtom)) // slices_Compact_impl_Atom_impl_Atom_h0_L2 s_1 k_235 q.1 q.2.1 q.2.2.1 q.2.2.2 = some p457}) (fun q => ([(0, (.own 0 0 q.1.2.2.2.length)), (3, (.int .i64 q.1.2.1)), (4, (.own 0 k_235 (s_1.length - k_235))), (5, (.int .i64 q.1.2.2.1))], [.row 3 (q.1.2.2.2.map encGAtom)])) (fun q => q.1.1) ⟨(FUEL, (k_235 : Int), 1, s_1), hb2⟩ ⟨[], [0], _, _, rfl, rfl, ⟨.refl _, ⟨.refl _, ⟨.refl _, ⟨.refl _, trivial⟩⟩⟩⟩, (.refl _)⟩ ?_
      rintro ⟨⟨k, k_439, k2_440, s_441⟩, hc2⟩
      have hc2 : slices_Compact_impl_Atom_impl_Atom_h0_L2 s_1 k_235 k k_439 k2_440 s_441 = some p457 := hc2
      refine (show awp Try.prog true 1 _ (ofL [(0, (.own 0 0 s_441.length)), (3, (.int .i64 k_439)), (4, (.own 0 k_235 (s_1.length - k_235))), (5, (.int .i64 k2_440))]) [.row 3 (s_441.map encGAtom)] _ from ?_)
      rcases k with _ | k
      ·rw [slices_Compact_impl_Atom_impl_Atom_h0_L2.eq_1] at hc2
       cases hc2
      ·rw [slices_Compact_impl_Atom_impl_Atom_h0_L2.eq_2] at hc2; refine awp_seq <| awp_seq <| w_reg <| s_mov (.int .i64 k2_440) rfl <| s_mov (.own 0 k_235 (s_1.length - k_235)) rfl <| s_dof (o_lenown rfl rfl) fun hl458 => s_q (.bool (decide (k2_440 < (((s_1.length - k_235) : Nat) : Int)))) rfl rfl rfl <| w_done <| k_seq <| ?_
       rcases oi hc2 with ⟨c459, hc2⟩ | ⟨c459, hc2⟩
       ·refine w_condt rfl c459 <| w_skip <| k_seq <| awp_seq <| w_blk <| awp_seq <| w_reg <| ?_
        obtain ⟨g460, hc2⟩ := og hc2
        obtain ⟨x_461, ex462, hc2⟩ := ob hc2
        obtain ⟨g463, hc2⟩ := og hc2
        obtain ⟨x_464, ex465, hc2⟩ := ob hc2
        refine s_mov (.own 0 k_235 (s_1.length - k_235)) rfl <| s_mov (.int .i64 k2_440) rfl <| s_do (o_iaddrown rfl rfl g460.1 g460.2 rfl rfl) <| s_do (o_loadrow (enc := encGAtom) (v := (encGAtom x_461)) rfl rfl ex462 nle rfl) <| s_mov (.own 0 k_235 (s_1.length - k_235)) rfl <| s_mov (.int .i64 k2_440) rfl <| s_q (.int .i64 (w64 (k2_440 - 1))) rfl rfl rfl <| s_do (o_iaddrown rfl rfl g463.1 g463.2 rfl rfl) <| s_do (o_loadrow (enc := encGAtom) (v := (encGAtom x_464)) rfl rfl ex465 nle rfl) <| s_q (.bool (!(x_461.Kind == x_464.Kind && (x_461.N == x_464.N && (x_461.T == x_464.T && true))))) rfl ⟨⟨rfl, rfl⟩, ⟨⟨rfl, rfl⟩, ⟨rfl, trivial⟩⟩⟩ rfl <| w_done <| k_seq <| ?_
        rcases oi hc2 with ⟨c466, hc2⟩ | ⟨c466, hc2⟩
        ·refine w_condt rfl c466 <| awp_seq <| w_reg <| ?_
         obtain ⟨g467, hc2⟩ := og hc2
         obtain ⟨g468, hc2⟩ := og hc2
         obtain ⟨x_469, ex470, hc2⟩ := ob hc2
         refine s_mov (.own 0 0 s_441.length) rfl <| s_mov (.int .i64 k_439) rfl <| s_mov (.own 0 k_235 (s_1.length - k_235)) rfl <| s_mov (.int .i64 k2_440) rfl <| s_do (o_iaddrown rfl rfl g467.1 g467.2 rfl rfl) <| s_do (o_loadrow (enc := encGAtom) (v := (encGAtom x_461)) rfl rfl ex462 nle rfl) <| s_do (o_iaddrown rfl rfl g468.1 g468.2 rfl rfl) <| ?_; refine s_do0 (o_storerow (v' := (encGAtom x_461)) (e' := x_461) rfl rfl ex470 rfl rfl rfl (by decide) (fun _ => by decide) ⟨rfl, nle⟩ (.refl _) rfl) ?_; refine w_done <| k_seq <| w_reg <| s_mov (.int .i64 k_439) rfl <| s_q (.int .i64 (w64 (k_439 + 1))) rfl rfl rfl <| s_mov (.int .i64 (w64 (k_439 + 1))) rfl <| w_done <| k_blk <| k_seq <| w_reg <| s_mov (.int .i64 k2_440) rfl <| s_q (.int .i64 (w64 (k2_440 + 1))) rfl rfl rfl <| ?_
         refine s_mov (.int .i64 (w64 (k2_440 + 1))) rfl <| w_done <| ?_; exact k_loopn ⟨(k, w64 (k_439 + 1), w64 (k2_440 + 1), s_441.set (0 + k_439.toNat) x_461), hc2⟩ (Nat.lt_succ_self _) ⟨[], [0], _, _, rfl, rfl, ⟨.of_eq (congrArg (AV.own _ 0) (by simp)), ⟨.refl _, ⟨.refl _, ⟨.refl _, trivial⟩⟩⟩⟩, (.refl _)⟩
        ·refine w_condf rfl (bf c466) <| w_skip <| k_blk <| k_seq <| w_reg <| s_mov (.int .i64 k2_440) rfl <| s_q (.int .i64 (w64 (k2_440 + 1))) rfl rfl rfl <| s_mov (.int .i64 (w64 (k2_440 + 1))) rfl <| w_done <| ?_; exact k_loopn ⟨(k, k_439, w64 (k2_440 + 1), s_441), hc2⟩ (Nat.lt_succ_self _) ⟨[], [0], _, _, rfl, rfl, ⟨.refl _, ⟨.refl _, ⟨.refl _, ⟨.refl _, trivial⟩⟩⟩⟩, (.refl _)⟩
       ·refine w_condf rfl (bf c459) <| w_exit <| k_seqx <| k_loopx <| k_blkx <| ?_; obtain rfl := os hc2; exact ⟨[], [0], _, _, rfl, rfl, ⟨.refl _, ⟨.refl _, trivial⟩⟩, (.refl _)⟩
     ·obtain ⟨k_455, s_456⟩ := p457
      refine awp_seq <| w_reg <| ?_
      obtain ⟨g471, hc1⟩ := og hc1
      refine s_mov (.own 0 0 s_456.length) rfl <| s_mov (.int .i64 k_455) rfl <| s_do (o_sldo rfl rfl rfl g471.1 g471.2) <| s_do0 (o_clr (enc := encGAtom) (y := (⟨0, 0, []⟩ : GAtom)) rfl rfl (.refl _) rfl) <| w_done <| k_seq <| awp_seq <| w_reg <| ?_
      obtain ⟨g472, hc1⟩ := og hc1
      refine s_mov (.own 0 0 s_456.length) rfl <| s_mov (.int .i64 k_455) rfl <| s_do (o_slto rfl rfl rfl g472.1 g472.2) <| s_mov (.own 0 0 k_455.toNat) rfl <| w_done <| k_seq <| w_ret <| ?_; obtain rfl := os hc1; obtain rfl := os hf; exact r_heap [.trim 2] [0, 1] rfl ⟨trivial, trivial⟩ rfl ((.cons (.refl _) (.cons ((LeO.tk (enc := encGAtom) (s_456.take k_455.toNat ++ List.replicate (s_456.length - k_455.toNat) (⟨0, 0, []⟩ : GAtom) ++ s_456.drop (k_455.toNat + (s_456.length - k_455.toNat))) _)) .nil))) (.of_eq (congrArg (AV.own _ 0) (by simp)))
    ·refine w_condf rfl (bf c366) <| w_skip <| k_blk <| k_seq <| w_reg <| s_mov (.int .i64 (k_235 : Int)) rfl <| s_q (.int .i64 (w64 ((k_235 : Int) + 1))) rfl rfl rfl <| s_mov (.int .i64 (w64 ((k_235 : Int) + 1))) rfl <| w_done <| ?_; exact k_loopn ⟨(k_235 + 1), hc1⟩ (mul hlt353) ⟨[], [0], _, _, rfl, rfl, ⟨.refl _, ⟨.of_eq (congrArg (AV.int _) (w64_incr hlt353 hl361)), trivial⟩⟩, (.refl _)⟩
  ·rintro ⟨_, rfl⟩
   refine awp_seq <| w_reg <| s_mov (.own 0 0 s_1.length) rfl <| s_mov (.own 0 0 s_1.length) rfl <| w_done <| k_seq <| w_ret <| ?_; obtain rfl := os hf; exact r_heap [.mv 0] [0, 1] rfl ⟨trivial, trivial⟩ rfl (.refl _) (.refl _)

/- impl.setOf -/
def c222 : ACode :=
 (.seq (.reg (tm 2 (.c .nil) .done))
 (.seq (.reg (tm 4 (.t 0) (tq 5 (.call 227 [(.t 4)]) (tm 3 (.t 5) .done))))
 (.seq (.reg (tm 6 (.t 3) (tq 7 (.call 265 [(.t 6), (.c (.fn 177 []))]) .done)))
 (.seq (.reg (tm 8 (.t 3) (tq 9 (.call 266 [(.t 8)]) (tm 2 (.t 9) .done))))
 .ret))))
theorem fc222 : fcomp Try.prog Try.f222 = some (c222.erase, [.mov (.t 2)], 10) := by kernel_rfl
def impl_setOf (list_1 : (List GAtom)) : Option (List GAtom) :=
    (slices_Clone_impl_Atom_impl_Atom list_1).bind fun r_2 =>
    (slices_SortFunc_impl_Atom_impl_Atom_h0 r_2).bind fun r_4 =>
    (slices_Compact_impl_Atom_impl_Atom_h0 r_4).bind fun r_7 =>
    some r_7
theorem w_impl_setOf (list_1 : (List GAtom)) (r : (List GAtom)) (hf : impl_setOf list_1 = some r) : CallOK Try.prog 222 .fresh [(.lst 3 (list_1.map encGAtom))] (.lst 3 (r.map encGAtom)) := by
 refine CallOK.of_awp mixed Try.func222 fc222 nle ?_; rw [argT_eq]; unfold impl_setOf at hf; unfold c222; refine (show awp Try.prog true 0 _ (ofL [(0, (.lst 3 (list_1.map encGAtom)))]) [] _ from ?_); refine awp_seq <| w_reg <| s_mov .nil rfl <| w_done <| k_seq <| awp_seq <| w_reg <| ?_
 obtain ⟨r_2, er3, hf⟩ := ob hf
 refine s_mov (.lst 3 (list_1.map encGAtom)) rfl <| s_do (o_callf (v := (.own 0 0 r_2.length)) (h' := [.row 3 (r_2.map encGAtom)]) (w_slices_Clone_impl_Atom_impl_Atom _ _ er3) rfl (.refl _) (by simp only [openV, openVs, List.length_map, List.nil_append, List.append_nil, List.cons_append]; rfl)) <| s_mov (.own 0 0 r_2.length) rfl <| w_done <| k_seq <| awp_seq <| w_reg <| ?_
 obtain ⟨r_4, er5, hf⟩ := ob hf
 refine s_mov (.own 0 0 r_2.length) rfl ?_; refine s_dof (o_callhs (v := (.tup [])) (h2 := [.row 3 (r_4.map encGAtom)]) [] [0] (fun _ => rfl) (w_slices_SortFunc_impl_Atom_impl_Atom_h0 _ _ er5) rfl (.refl _) (.refl _) rfl rfl) fun hl6 => ?_; refine w_done <| k_seq <| awp_seq <| w_reg <| ?_
 obtain ⟨r_7, er8, hf⟩ := ob hf
 refine s_mov (.own 0 0 r_2.length) rfl ?_; refine s_do (o_callh (v := (.own 1 0 r_7.length)) (h2 := [.dead, .row 3 (r_7.map encGAtom)]) [] [0] (fun _ => rfl) (w_slices_Compact_impl_Atom_impl_Atom_h0 _ _ er8) rfl (.cons (.of_eq (congrArg (AV.own _ 0) (by have h := (hl6 0 _ _ _ _ rfl rfl); simpa using h.symm))) .nil) (.refl _) rfl rfl) ?_; refine s_mov (.own 1 0 r_7.length) rfl <| w_done <| k_seq <| w_ret <| ?_; obtain rfl := os hf; exact r_fresh ⟨trivial, trivial⟩ rfl (by decide) (.of_eq (congrArg (AV.lst _) (tk (enc := encGAtom) r_7)))

/- slices.Index[[]impl.Atom,impl.Atom] -/
def c267 : ACode :=
 (.seq (.reg (tq 3 (.box 3 (.t 1)) (tm 4 (.c (.int .i64 0)) .done)))
 (.seq (.seq (.reg (tm 6 (.t 0) (tq 7 (.len (.t 6)) (tm 8 (.c (.int .i64 0)) .done))))
 (.block 0 (.loop (.seq (.reg (tq 9 (.bin .lss (.t 8) (.t 7)) .done))
 (.seq (.cond (.t 9) .skip
 (.exit 0))
 (.seq (.block 1 (.seq (.reg (tm 10 (.t 8) (tm 5 (.t 10) .done)))
 (.seq (.reg (tq 11 (.load 3 true (.t 3)) (tm 12 (.t 0) (tm 13 (.t 5) (tq 14 (.iaddr 3 (.t 12) (.t 13)) (tq 15 (.load 3 true (.t 14)) (tq 16 (.eqs false [0, 0, 2] (.t 11) (.t 15)) .done)))))))
 (.cond (.t 16) (.seq (.reg (tm 17 (.t 5) (tm 4 (.t 17) .done)))
 .ret)
 .skip))))
 (.reg (tq 18 (.bin .add (.t 8) (.c (.int .i64 1))) (tm 8 (.t 18) .done)))))))))
 (.cut (.seq (.reg (tq 4 (.mov (.c (.int .i64 (-1)))) .done))
 .ret))))
theorem fc267 : fcomp Try.prog Try.f267 = some (c267.erase, [.mov (.t 4)], 19) := by kernel_rfl
def slices_Index_impl_Atom_impl_Atom_L1 (v_2 : GAtom) : List GAtom → Nat → Option (Fl Int Unit)
  | [], s8_13 =>
    some (.go ())
  | x_25 :: xs, s8_13 =>
    if (v_2.Kind == x_25.Kind && (v_2.N == x_25.N && (v_2.T == x_25.T && true))) then
    some (.ret (s8_13 : Int))
    else
    slices_Index_impl_Atom_impl_Atom_L1 v_2 xs (s8_13 + 1)

def slices_Index_impl_Atom_impl_Atom (s_1 : (List GAtom)) (v_2 : GAtom) : Option Int :=
    (slices_Index_impl_Atom_impl_Atom_L1 v_2 s_1 0).bind fun q => (match q with
    | .ret r => some r
    | .go _ =>
    some (-1))
theorem w_slices_Index_impl_Atom_impl_Atom (s_1 : (List GAtom)) (v_2 : GAtom) (r : Int) (hf : slices_Index_impl_Atom_impl_Atom s_1 v_2 = some r) : CallOK Try.prog 267 .flat [(.lst 3 (s_1.map encGAtom)), (encGAtom v_2)] (.int .i64 r) := by
 refine CallOK.of_awp mixed Try.func267 fc267 nle ?_; rw [argT_eq]; unfold slices_Index_impl_Atom_impl_Atom at hf; unfold c267; refine (show awp Try.prog false 0 _ (ofL [(0, (.lst 3 (s_1.map encGAtom))), (1, (encGAtom v_2))]) [] _ from ?_); refine awp_seq <| w_reg <| s_do (o_box (j := 0) (c := (.agg [(.int .i64 v_2.Kind), (.int .i64 v_2.N), (.str v_2.T)])) rfl trivial rfl rfl) <| s_mov (.int .i64 0) rfl <| w_done <| k_seq <| awp_seq <| awp_seq <| w_reg <| s_mov (.lst 3 (s_1.map encGAtom)) rfl <| s_dof (o_len (enc := encGAtom) rfl) fun hl3 => s_mov (.int .i64 0) rfl <| w_done <| k_seq <| ?_
 obtain ⟨p18, hb1, hf⟩ := ob hf
 refine awp_cutx (X := {q : Unit // p18 = .go q}) (fun q => ([], [])) ?_ ?_
 ·refine awp_loop (X := {q : Nat // slices_Index_impl_Atom_impl_Atom_L1 v_2 (s_1.drop q) q = some p18}) (fun q => ([(0, (.lst 3 (s_1.map encGAtom))), (3, (.ptr 0 0 0)), (7, (.int .i64 (s_1.length : Int))), (8, (.int .i64 (q.1 : Int)))], [.box 3 (.agg [(.int .i64 v_2.Kind), (.int .i64 v_2.N), (.str v_2.T)])])) (fun q => s_1.length - q.1) ⟨0, hb1⟩ ⟨[], [0], _, _, rfl, rfl, ⟨.refl _, ⟨.refl _, ⟨.refl _, ⟨.refl _, trivial⟩⟩⟩⟩, (.refl _)⟩ ?_
  rintro ⟨s8_13, hc1⟩
  have hc1 : slices_Index_impl_Atom_impl_Atom_L1 v_2 (s_1.drop s8_13) s8_13 = some p18 := hc1
  refine (show awp Try.prog false 0 _ (ofL [(0, (.lst 3 (s_1.map encGAtom))), (3, (.ptr 0 0 0)), (7, (.int .i64 (s_1.length : Int))), (8, (.int .i64 (s8_13 : Int)))]) [.box 3 (.agg [(.int .i64 v_2.Kind), (.int .i64 v_2.N), (.str v_2.T)])] _ from ?_)
  rcases dropc s_1 s8_13 with ⟨hie21, hd24⟩ | ⟨hlt19, x_25, hx20, hd24⟩
  ·rw [hd24, slices_Index_impl_Atom_impl_Atom_L1.eq_1] at hc1
   have hq23 := dlf hie21
   refine awp_seq <| w_reg <| s_q (.bool (decide ((s8_13 : Int) < (s_1.length : Int)))) rfl rfl rfl <| w_done <| k_seq <| awp_seq <| w_condf rfl hq23 <| w_exit <| k_seqx <| k_loopx <| k_blkx <| ?_; obtain rfl := os hc1; exact k_cutn ⟨_, rfl⟩ ⟨[], [], _, _, rfl, rfl, trivial, (.refl _)⟩
  ·rw [hd24, slices_Index_impl_Atom_impl_Atom_L1.eq_2] at hc1
   have hq23 := dlt hlt19
   refine awp_seq <| w_reg <| s_q (.bool (decide ((s8_13 : Int) < (s_1.length : Int)))) rfl rfl rfl <| w_done <| k_seq <| awp_seq <| w_condt rfl hq23 <| w_skip <| k_seq <| awp_seq <| w_blk <| awp_seq <| w_reg <| s_mov (.int .i64 (s8_13 : Int)) rfl <| s_mov (.int .i64 (s8_13 : Int)) rfl <| w_done <| k_seq <| awp_seq <| w_reg <| s_q (.agg [(.int .i64 v_2.Kind), (.int .i64 v_2.N), (.str v_2.T)]) rfl nle rfl <| s_mov (.lst 3 (s_1.map encGAtom)) rfl <| s_mov (.int .i64 (s8_13 : Int)) rfl <| s_do (o_iaddrn (enc := encGAtom) rfl rfl hx20) <| s_q (encGAtom x_25) rfl nle rfl <| s_q (.bool (v_2.Kind == x_25.Kind && (v_2.N == x_25.N && (v_2.T == x_25.T && true)))) rfl ⟨⟨rfl, rfl⟩, ⟨⟨rfl, rfl⟩, ⟨rfl, trivial⟩⟩⟩ rfl <| ?_
   refine w_done <| k_seq <| ?_
   rcases oi hc1 with ⟨c26, hc1⟩ | ⟨c26, hc1⟩
   ·refine w_condt rfl c26 <| awp_seq <| w_reg <| s_mov (.int .i64 (s8_13 : Int)) rfl <| s_mov (.int .i64 (s8_13 : Int)) rfl <| w_done <| k_seq <| w_ret <| ?_; obtain rfl := os hc1; obtain rfl := os hf; exact r_flat ⟨trivial, trivial⟩ rfl (.refl _)
   ·refine w_condf rfl (bf c26) <| w_skip <| k_blk <| k_seq <| w_reg <| s_q (.int .i64 (w64 ((s8_13 : Int) + 1))) rfl rfl rfl <| s_mov (.int .i64 (w64 ((s8_13 : Int) + 1))) rfl <| w_done <| ?_; exact k_loopn ⟨(s8_13 + 1), hc1⟩ (mul hlt19) ⟨[], [0], _, _, rfl, rfl, ⟨.refl _, ⟨.refl _, ⟨.refl _, ⟨.of_eq (congrArg (AV.int _) (w64_incr hlt19 hl3)), trivial⟩⟩⟩⟩, (.refl _)⟩
 ·rintro ⟨_, rfl⟩
  refine awp_seq <| w_reg <| s_mov (.int .i64 (-1)) rfl <| w_done <| k_seq <| w_ret <| ?_; obtain rfl := os hf; exact r_flat ⟨trivial, trivial⟩ rfl (.refl _)

/- slices.Contains[[]impl.Atom,impl.Atom] -/
def c229 : ACode :=
 (.seq (.reg (tq 3 (.box 3 (.t 1)) (tm 4 (.c (.bool false)) .done)))
 (.seq (.reg (tm 5 (.t 0) (tq 6 (.load 3 true (.t 3)) (tq 7 (.call 267 [(.t 5), (.t 6)]) (tq 8 (.bin .geq (.t 7) (.c (.int .i64 0))) (tm 4 (.t 8) .done))))))
 .ret))
theorem fc229 : fcomp Try.prog Try.f229 = some (c229.erase, [.mov (.t 4)], 9) := by kernel_rfl
def slices_Contains_impl_Atom_impl_Atom (s_1 : (List GAtom)) (v_2 : GAtom) : Option Bool :=
    (slices_Index_impl_Atom_impl_Atom s_1 v_2).bind fun r_3 =>
    some (decide (r_3 ≥ 0))
theorem w_slices_Contains_impl_Atom_impl_Atom (s_1 : (List GAtom)) (v_2 : GAtom) (r : Bool) (hf : slices_Contains_impl_Atom_impl_Atom s_1 v_2 = some r) : CallOK Try.prog 229 .flat [(.lst 3 (s_1.map encGAtom)), (encGAtom v_2)] (.bool r) := by
  refine CallOK.of_awp mixed Try.func229 fc229 nle ?_
  rw [argT_eq]
  unfold slices_Contains_impl_Atom_impl_Atom at hf
  unfold c229
  refine (show awp Try.prog false 0 _ (ofL [(0, (.lst 3 (s_1.map encGAtom))), (1, (encGAtom v_2))]) [] _ from ?_)
  refine awp_seq ?_
  refine w_reg ?_
  refine s_do (o_box (j := 0) (c := (.agg [(.int .i64 v_2.Kind), (.int .i64 v_2.N), (.str v_2.T)])) rfl trivial rfl rfl) ?_
  refine s_do (o_mov (.bool false) rfl) ?_
  refine w_done ?_
  refine k_seq ?_
  refine awp_seq ?_
  refine w_reg ?_
  obtain ⟨r_3, er4, hf⟩ := ob hf
  refine s_do (o_mov (.lst 3 (s_1.map encGAtom)) rfl) ?_
  refine s_do (o_q (.agg [(.int .i64 v_2.Kind), (.int .i64 v_2.N), (.str v_2.T)]) rfl nle rfl) ?_
  refine s_do (o_call (w_slices_Index_impl_Atom_impl_Atom _ _ _ er4) rfl (.refl _) rfl) ?_
  refine s_do (o_q (.bool (decide (r_3 ≥ 0))) rfl rfl rfl) ?_
  refine s_do (o_mov (.bool (decide (r_3 ≥ 0))) rfl) ?_
  refine w_done ?_
  refine k_seq ?_
  refine w_ret ?_
  obtain rfl := os hf
  exact r_flat ⟨trivial, trivial⟩ rfl (.refl _)

/- impl.less$1 -/
def c228 : ACode :=
 (.seq (.reg (tq 2 (.box 3 (.t 0)) (tm 3 (.c (.bool false)) .done)))
 (.seq (.reg (tq 4 (.load 1 false (.t 1)) (tq 5 (.load 3 true (.t 2)) (tq 6 (.call 229 [(.t 4), (.t 5)]) (tm 3 (.t 6) .done)))))
 .ret))
theorem fc228 : fcomp Try.prog Try.f228 = some (c228.erase, [.mov (.t 3)], 7) := by kernel_rfl
def impl_less_1 (own_1 : GAtom) (cap_2 : (List GAtom)) : Option Bool :=
    (slices_Contains_impl_Atom_impl_Atom cap_2 own_1).bind fun r_3 =>
    some r_3
theorem w_impl_less_1 (own_1 : GAtom) (cap_2 : (List GAtom)) (r : Bool) (hf : impl_less_1 own_1 cap_2 = some r) : CallOK Try.prog 228 .flat [(encGAtom own_1), (.iptr (.lst 3 (cap_2.map encGAtom)) 0)] (.bool r) := by
  refine CallOK.of_awp mixed Try.func228 fc228 nle ?_
  rw [argT_eq]
  unfold impl_less_1 at hf
  unfold c228
  refine (show awp Try.prog false 0 _ (ofL [(0, (encGAtom own_1)), (1, (.iptr (.lst 3 (cap_2.map encGAtom)) 0))]) [] _ from ?_)
  refine awp_seq ?_
  refine w_reg ?_
  refine s_do (o_box (j := 0) (c := (.agg [(.int .i64 own_1.Kind), (.int .i64 own_1.N), (.str own_1.T)])) rfl trivial rfl rfl) ?_
  refine s_do (o_mov (.bool false) rfl) ?_
  refine w_done ?_
  refine k_seq ?_
  refine awp_seq ?_
  refine w_reg ?_
  obtain ⟨r_3, er4, hf⟩ := ob hf
  refine s_do (o_q (.lst 3 (cap_2.map encGAtom)) rfl ⟨rfl, rfl⟩ rfl) ?_
  refine s_do (o_q (.agg [(.int .i64 own_1.Kind), (.int .i64 own_1.N), (.str own_1.T)]) rfl nle rfl) ?_
  refine s_do (o_call (w_slices_Contains_impl_Atom_impl_Atom _ _ _ er4) rfl (.refl _) rfl) ?_
  refine s_do (o_mov (.bool r_3) rfl) ?_
  refine w_done ?_
  refine k_seq ?_
  refine w_ret ?_
  obtain rfl := os hf
  exact r_flat ⟨trivial, trivial⟩ rfl (.refl _)

/- slices.DeleteFunc[[]impl.Atom,impl.Atom] -/
def c226_h0 : ACode :=
 (.seq (.reg (tm 4 (.c .nil) .done))
 (.seq (.reg (tm 8 (.t 0) (tm 9 (.t 1) (tq 10 (.call 262 [(.t 8), (.t 9)]) (tm 5 (.t 10) .done)))))
 (.seq (.seq (.reg (tm 11 (.t 5) (tq 12 (.bin .eql (.t 11) (.c (.int .i64 (-1)))) .done)))
 (.cond (.t 12) (.seq (.reg (tm 13 (.t 0) (tm 4 (.t 13) .done)))
 .ret)
 .skip))
 (.seq (.seq (.reg (tm 14 (.t 5) (tq 15 (.bin .add (.t 14) (.c (.int .i64 1))) (tm 6 (.t 15) .done))))
 (.block 0 (.loop (.seq (.seq (.reg (tm 16 (.t 6) (tm 17 (.t 0) (tq 18 (.len (.t 17)) (tq 19 (.bin .lss (.t 16) (.t 18)) .done)))))
 (.cond (.t 19) .skip
 (.exit 0)))
 (.seq (.block 1 (.seq (.reg (tm 22 (.t 0) (tm 23 (.t 6) (tq 24 (.iaddr 3 (.t 22) (.t 23)) (tq 25 (.load 3 true (.t 24)) (tq 7 (.box 3 (.c (.agg [(.int .i64 0), (.int .i64 0), (.str [])]))) (.q ⟨none, none, .store 3 (.t 7) (.t 25)⟩
 .done)))))))
 (.seq (.reg (tm 26 (.t 1) (tq 27 (.load 3 true (.t 7)) (tq 28 (.calv (.t 26) [(.t 27)]) (tq 29 (.not (.t 28)) .done)))))
 (.cond (.t 29) (.seq (.reg (tm 30 (.t 0) (tm 31 (.t 5) (tq 32 (.load 3 true (.t 7)) (tq 33 (.iaddr 3 (.t 30) (.t 31)) (.q ⟨none, none, .store 3 (.t 33) (.t 32)⟩
 .done))))))
 (.reg (tm 34 (.t 5) (tq 35 (.bin .add (.t 34) (.c (.int .i64 1))) (tm 5 (.t 35) .done)))))
 .skip))))
 (.reg (tm 20 (.t 6) (tq 21 (.bin .add (.t 20) (.c (.int .i64 1))) (tm 6 (.t 21) .done)))))))))
 (.cut (.seq (.reg (tm 36 (.t 0) (tm 37 (.t 5) (tq 38 (.slice 3 (.t 36) (some (.t 37)) none) (.q ⟨none, none, .clr 3 (.agg [(.int .i64 0), (.int .i64 0), (.str [])]) (.t 38)⟩
 .done)))))
 (.seq (.reg (tm 39 (.t 0) (tm 40 (.t 5) (tq 41 (.slice 3 (.t 39) none (some (.t 40))) (tm 4 (.t 41) .done)))))
 .ret)))))))
theorem fc226_h0 : fcomp Try.prog Try.f226 = some (c226_h0.erase, [.mov (.t 4)], 42) := by kernel_rfl
def slices_DeleteFunc_impl_Atom_impl_Atom_h0_L1 (c_2 : (List GAtom)) : Nat → Int → Int → (List GAtom) → Option (Int × (List GAtom))
  | 0, _, _, _ => none
  | k + 1, i_71, j_72, s_73 =>
    if (decide (j_72 < (s_73.length : Int))) then
    if (0 : Int) ≤ j_72 ∧ j_72 < (s_73.length : Int) then
    (s_73[(0 + j_72.toNat)]?).bind fun x_91 =>
    (impl_less_1 x_91 c_2).bind fun r_93 =>
    if (!r_93) then
    if (0 : Int) ≤ i_71 ∧ i_71 < (s_73.length : Int) then
    (s_73[(0 + i_71.toNat)]?).bind fun x_97 =>
    slices_DeleteFunc_impl_Atom_impl_Atom_h0_L1 c_2 k (w64 (i_71 + 1)) (w64 (j_72 + 1)) (s_73.set (0 + i_71.toNat) x_91)
    else none
    else
    slices_DeleteFunc_impl_Atom_impl_Atom_h0_L1 c_2 k i_71 (w64 (j_72 + 1)) s_73
    else none
    else
    some (i_71, s_73)

def slices_DeleteFunc_impl_Atom_impl_Atom_h0 (s_1 : (List GAtom)) (c_2 : (List GAtom)) : Option ((List GAtom) × (List GAtom)) :=
    (slices_IndexFunc_impl_Atom_impl_Atom s_1 (fun a0 => impl_less_1 a0 c_2)).bind fun r_3 =>
    if (r_3 == (-1)) then
    some (s_1, c_2)
    else
    (slices_DeleteFunc_impl_Atom_impl_Atom_h0_L1 c_2 FUEL r_3 (w64 (r_3 + 1)) s_1).bind fun p87 =>
    (match p87 with
    | (i_85, s_86) =>
    if (0 : Int) ≤ i_85 ∧ i_85 ≤ (s_86.length : Int) then
    if (0 : Int) ≤ i_85 ∧ i_85 ≤ (s_86.length : Int) then
    some ((s_86.take i_85.toNat ++ List.replicate (s_86.length - i_85.toNat) (⟨0, 0, []⟩ : GAtom) ++ s_86.drop (i_85.toNat + (s_86.length - i_85.toNat))).take i_85.toNat, c_2)
    else none
    else none)
theorem w_slices_DeleteFunc_impl_Atom_impl_Atom_h0 (s_1 : (List GAtom)) (c_2 : (List GAtom)) (r : ((List GAtom) × (List GAtom))) (hf : slices_DeleteFunc_impl_Atom_impl_Atom_h0 s_1 c_2 = some r) : CallHeap Try.prog true 226 [(.own 0 0 s_1.length), (.fn 228 [(.ptr 1 0 0)])] [.row 3 (s_1.map encGAtom), .box 1 (.lst 3 (c_2.map encGAtom))] (.own 2 0 r.1.length) [.dead, .box 1 (.lst 3 (r.2.map encGAtom)), .row 3 (r.1.map encGAtom)] := by
 refine CallHeap.of_awp mixed Try.func226 fc226_h0 nle ?_; rw [argT_eq]; unfold slices_DeleteFunc_impl_Atom_impl_Atom_h0 at hf; unfold c226_h0; refine (show awp Try.prog true 2 _ (ofL [(0, (.own 0 0 s_1.length)), (1, (.fn 228 [(.ptr 1 0 0)]))]) [.row 3 (s_1.map encGAtom), .box 1 (.lst 3 (c_2.map encGAtom))] _ from ?_); refine awp_seq <| w_reg <| s_mov .nil rfl <| w_done <| k_seq <| awp_seq <| w_reg <| ?_
 obtain ⟨r_3, er4, hf⟩ := ob hf
 refine s_mov (.own 0 0 s_1.length) rfl <| s_mov (.fn 228 [(.ptr 1 0 0)]) rfl <| ?_; refine s_do (o_call (w_slices_IndexFunc_impl_Atom_impl_Atom _ _ _ er4 228 [(.iptr (.lst 3 (c_2.map encGAtom)) 0)] (by kernel_rfl) (fun _ _ => rfl) (fun _ => rfl) (fun a0 r h => w_impl_less_1 a0 c_2 r h)) rfl (.cons (.of_eq (congrArg (AV.lst _) (tko s_1))) (.cons (.refl _) .nil)) rfl) ?_; refine s_mov (.int .i64 r_3) rfl <| w_done <| k_seq <| awp_seq <| awp_seq <| w_reg <| s_mov (.int .i64 r_3) rfl <| s_q (.bool (r_3 == (-1))) rfl rfl rfl <| w_done <| k_seq <| ?_
 rcases oi hf with ⟨c5, hf⟩ | ⟨c5, hf⟩
 ·refine w_condt rfl c5 <| awp_seq <| w_reg <| s_mov (.own 0 0 s_1.length) rfl <| s_mov (.own 0 0 s_1.length) rfl <| w_done <| k_seq <| w_ret <| ?_; obtain rfl := os hf; exact r_heap [.mv 0] [0, 1, 2] rfl ⟨trivial, trivial⟩ rfl (.refl _) (.refl _)
 ·refine w_condf rfl (bf c5) <| w_skip <| k_seq <| awp_seq <| awp_seq <| w_reg <| s_mov (.int .i64 r_3) rfl <| s_q (.int .i64 (w64 (r_3 + 1))) rfl rfl rfl <| s_mov (.int .i64 (w64 (r_3 + 1))) rfl <| w_done <| k_seq <| ?_
  obtain ⟨p87, hb1, hf⟩ := ob hf
  refine awp_cut ([(0, (.own 0 0 p87.2.length)), (5, (.int .i64 p87.1))], [.row 3 (p87.2.map encGAtom), .box 1 (.lst 3 (c_2.map encGAtom))]) ?_ ?_
  ·refine awp_loop (X := {q : (Nat × Int × Int × (List GAtom)) // slices_DeleteFunc_impl_Atom_impl_Atom_h0_L1 c_2 q.1 q.2.1 q.2.2.1 q.2.2.2 = some p87}) (fun q => ([(0, (.own 0 0 q.1.2.2.2.length)), (1, (.fn 228 [(.ptr 1 0 0)])), (5, (.int .i64 q.1.2.1)), (6, (.int .i64 q.1.2.2.1))], [.row 3 (q.1.2.2.2.map encGAtom), .box 1 (.lst 3 (c_2.map encGAtom))])) (fun q => q.1.1) ⟨(FUEL, r_3, w64 (r_3 + 1), s_1), hb1⟩ ⟨[], [0, 1], _, _, rfl, rfl, ⟨.refl _, ⟨.refl _, ⟨.refl _, ⟨.refl _, trivial⟩⟩⟩⟩, (.refl _)⟩ ?_
   rintro ⟨⟨k, i_71, j_72, s_73⟩, hc1⟩
   have hc1 : slices_DeleteFunc_impl_Atom_impl_Atom_h0_L1 c_2 k i_71 j_72 s_73 = some p87 := hc1
   refine (show awp Try.prog true 2 _ (ofL [(0, (.own 0 0 s_73.length)), (1, (.fn 228 [(.ptr 1 0 0)])), (5, (.int .i64 i_71)), (6, (.int .i64 j_72))]) [.row 3 (s_73.map encGAtom), .box 1 (.lst 3 (c_2.map encGAtom))] _ from ?_)
   rcases k with _ | k
   ·rw [slices_DeleteFunc_impl_Atom_impl_Atom_h0_L1.eq_1] at hc1
    cases hc1
   ·rw [slices_DeleteFunc_impl_Atom_impl_Atom_h0_L1.eq_2] at hc1; refine awp_seq <| awp_seq <| w_reg <| s_mov (.int .i64 j_72) rfl <| s_mov (.own 0 0 s_73.length) rfl <| s_dof (o_lenown rfl rfl) fun hl88 => s_q (.bool (decide (j_72 < (s_73.length : Int)))) rfl rfl rfl <| w_done <| k_seq <| ?_
    rcases oi hc1 with ⟨c89, hc1⟩ | ⟨c89, hc1⟩
    ·refine w_condt rfl c89 <| w_skip <| k_seq <| awp_seq <| w_blk <| awp_seq <| w_reg <| ?_
     obtain ⟨g90, hc1⟩ := og hc1
     obtain ⟨x_91, ex92, hc1⟩ := ob hc1
     refine s_mov (.own 0 0 s_73.length) rfl <| s_mov (.int .i64 j_72) rfl <| s_do (o_iaddrown rfl rfl g90.1 g90.2 rfl rfl) <| s_do (o_loadrow (enc := encGAtom) (v := (encGAtom x_91)) rfl rfl ex92 nle rfl) <| s_do (o_box (j := 2) (c := (.agg [(.int .i64 0), (.int .i64 0), (.str [])])) rfl trivial rfl rfl) <| s_do0 (o_storebox (v := (.agg [(.int .i64 x_91.Kind), (.int .i64 x_91.N), (.str x_91.T)])) (y' := (.agg [(.int .i64 x_91.Kind), (.int .i64 x_91.N), (.str x_91.T)])) rfl rfl rfl trivial ⟨rfl, nle⟩ ⟨⟨rfl, trivial⟩, ⟨⟨rfl, trivial⟩, ⟨⟨rfl, trivial⟩, trivial⟩⟩⟩ rfl) <| w_done <| k_seq <| awp_seq <| w_reg <| ?_
     obtain ⟨r_93, er94, hc1⟩ := ob hc1
     refine s_mov (.fn 228 [(.ptr 1 0 0)]) rfl <| s_q (.agg [(.int .i64 x_91.Kind), (.int .i64 x_91.N), (.str x_91.T)]) rfl nle rfl <| s_do (o_calvk (v := (.bool r_93)) rfl (by kernel_rfl) (w_impl_less_1 _ _ _ er94) rfl rfl (.refl _) rfl) <| s_q (.bool (!r_93)) rfl trivial rfl <| w_done <| k_seq <| ?_
     rcases oi hc1 with ⟨c95, hc1⟩ | ⟨c95, hc1⟩
     ·refine w_condt rfl c95 <| awp_seq <| w_reg <| ?_
      obtain ⟨g96, hc1⟩ := og hc1
      obtain ⟨x_97, ex98, hc1⟩ := ob hc1
      refine s_mov (.own 0 0 s_73.length) rfl <| s_mov (.int .i64 i_71) rfl <| s_q (.agg [(.int .i64 x_91.Kind), (.int .i64 x_91.N), (.str x_91.T)]) rfl nle rfl <| s_do (o_iaddrown rfl rfl g96.1 g96.2 rfl rfl) <| ?_; refine s_do0 (o_storerow (v' := (.agg [(.int .i64 x_91.Kind), (.int .i64 x_91.N), (.str x_91.T)])) (e' := x_91) rfl rfl ex98 rfl rfl rfl (by decide) (fun _ => by decide) ⟨rfl, nle⟩ (.refl _) rfl) ?_; refine w_done <| k_seq <| w_reg <| s_mov (.int .i64 i_71) rfl <| s_q (.int .i64 (w64 (i_71 + 1))) rfl rfl rfl <| s_mov (.int .i64 (w64 (i_71 + 1))) rfl <| w_done <| k_blk <| k_seq <| w_reg <| s_mov (.int .i64 j_72) rfl <| s_q (.int .i64 (w64 (j_72 + 1))) rfl rfl rfl <| s_mov (.int .i64 (w64 (j_72 + 1))) rfl <| w_done <| ?_
      exact k_loopn ⟨(k, w64 (i_71 + 1), w64 (j_72 + 1), s_73.set (0 + i_71.toNat) x_91), hc1⟩ (Nat.lt_succ_self _) ⟨[], [0, 1], _, _, rfl, rfl, ⟨.of_eq (congrArg (AV.own _ 0) (by simp)), ⟨.refl _, ⟨.refl _, ⟨.refl _, trivial⟩⟩⟩⟩, (.refl _)⟩
     ·refine w_condf rfl (bf c95) <| w_skip <| k_blk <| k_seq <| w_reg <| s_mov (.int .i64 j_72) rfl <| s_q (.int .i64 (w64 (j_72 + 1))) rfl rfl rfl <| s_mov (.int .i64 (w64 (j_72 + 1))) rfl <| w_done <| ?_; exact k_loopn ⟨(k, i_71, w64 (j_72 + 1), s_73), hc1⟩ (Nat.lt_succ_self _) ⟨[], [0, 1], _, _, rfl, rfl, ⟨.refl _, ⟨.refl _, ⟨.refl _, ⟨.refl _, trivial⟩⟩⟩⟩, (.refl _)⟩
    ·refine w_condf rfl (bf c89) <| w_exit <| k_seqx <| k_loopx <| k_blkx <| ?_; obtain rfl := os hc1; exact ⟨[], [0, 1], _, _, rfl, rfl, ⟨.refl _, ⟨.refl _, trivial⟩⟩, (.refl _)⟩
  ·obtain ⟨i_85, s_86⟩ := p87
   refine awp_seq <| w_reg <| ?_
   obtain ⟨g99, hf⟩ := og hf
   refine s_mov (.own 0 0 s_86.length) rfl <| s_mov (.int .i64 i_85) rfl <| s_do (o_sldo rfl rfl rfl g99.1 g99.2) <| s_do0 (o_clr (enc := encGAtom) (y := (⟨0, 0, []⟩ : GAtom)) rfl rfl (.refl _) rfl) <| w_done <| k_seq <| awp_seq <| w_reg <| ?_
   obtain ⟨g100, hf⟩ := og hf
   refine s_mov (.own 0 0 s_86.length) rfl <| s_mov (.int .i64 i_85) rfl <| s_do (o_slto rfl rfl rfl g100.1 g100.2) <| s_mov (.own 0 0 i_85.toNat) rfl <| w_done <| k_seq <| w_ret <| ?_; obtain rfl := os hf; exact r_heap [.trim 4] [0, 1, 2] rfl ⟨trivial, trivial⟩ rfl ((.cons (.refl _) (.cons (.refl _) (.cons ((LeO.tk (enc := encGAtom) (s_86.take i_85.toNat ++ List.replicate (s_86.length - i_85.toNat) (⟨0, 0, []⟩ : GAtom) ++ s_86.drop (i_85.toNat + (s_86.length - i_85.toNat))) _)) .nil)))) (.of_eq (congrArg (AV.own _ 0) (by simp)))

/- impl.less -/
def c153 : ACode :=
 (.seq (.reg (tq 3 (.box 1 (.t 1)) (tm 4 (.c .nil) .done)))
 (.seq (.reg (tm 5 (.t 0) (tq 6 (.call 227 [(.t 5)]) (tq 7 (.mkfn 228 [(.t 3)]) (tq 8 (.call 226 [(.t 6), (.t 7)]) (tm 4 (.t 8) .done))))))
 .ret))
theorem fc153 : fcomp Try.prog Try.f153 = some (c153.erase, [.mov (.t 4)], 9) := by kernel_rfl
def impl_less (a_1 : (List GAtom)) (b_2 : (List GAtom)) : Option (List GAtom) :=
    (slices_Clone_impl_Atom_impl_Atom a_1).bind fun r_3 =>
    (slices_DeleteFunc_impl_Atom_impl_Atom_h0 r_3 b_2).bind fun r_5 =>
    some r_5.1
theorem w_impl_less (a_1 : (List GAtom)) (b_2 : (List GAtom)) (r : (List GAtom)) (hf : impl_less a_1 b_2 = some r) : CallOK Try.prog 153 .fresh [(.lst 3 (a_1.map encGAtom)), (.lst 3 (b_2.map encGAtom))] (.lst 3 (r.map encGAtom)) := by
 refine CallOK.of_awp mixed Try.func153 fc153 nle ?_; rw [argT_eq]; unfold impl_less at hf; unfold c153; refine (show awp Try.prog true 0 _ (ofL [(0, (.lst 3 (a_1.map encGAtom))), (1, (.lst 3 (b_2.map encGAtom)))]) [] _ from ?_); refine awp_seq <| w_reg <| s_do (o_box (j := 0) (c := (.lst 3 (b_2.map encGAtom))) rfl trivial rfl rfl) <| s_mov .nil rfl <| w_done <| k_seq <| awp_seq <| w_reg <| ?_
 obtain ⟨r_3, er4, hf⟩ := ob hf
 obtain ⟨r_5, er6, hf⟩ := ob hf
 refine s_mov (.lst 3 (a_1.map encGAtom)) rfl <| s_do (o_callf (v := (.own 1 0 r_3.length)) (h' := [.row 3 (r_3.map encGAtom)]) (w_slices_Clone_impl_Atom_impl_Atom _ _ er4) rfl (.refl _) (by simp only [openV, openVs, List.length_map, List.nil_append, List.append_nil, List.cons_append]; rfl)) <| s_q (.fn 228 [(.ptr 0 0 0)]) rfl trivial rfl <| ?_; refine s_do (o_callh (v := (.own 2 0 r_5.1.length)) (h2 := [.box 1 (.lst 3 (r_5.2.map encGAtom)), .dead, .row 3 (r_5.1.map encGAtom)]) [] [1, 0] (fun _ => rfl) (w_slices_DeleteFunc_impl_Atom_impl_Atom_h0 _ _ _ er6) rfl (.refl _) (.refl _) rfl rfl) ?_; refine s_mov (.own 2 0 r_5.1.length) rfl <| w_done <| k_seq <| w_ret <| ?_; obtain rfl := os hf; exact r_fresh ⟨trivial, trivial⟩ rfl (by decide) (.of_eq (congrArg (AV.lst _) (tk (enc := encGAtom) r_5.1)))

/- impl.reckon -/
def c223 : ACode :=
 (.seq (.reg (tm 6 (.c (.int .i64 0)) (tm 7 (.c (.int .i64 0)) .done)))
 (.seq (.seq (.reg (tm 9 (.t 2) (tq 10 (.bin .eql (.t 9) (.c (.int .i64 0))) (tm 11 (.t 10) (tg 12 11 true (.mov (.t 0)) (tg 13 11 true (.bin .geq (.t 12) (.c (.int .i64 4))) (tq 14 (.pick (.t 11) (.t 13) (.c (.bool false))) .done)))))))
 (.cut (.cond (.t 14) (.seq (.reg (tm 6 (.c (.int .i64 0)) (tm 7 (.c (.int .i64 4)) .done)))
 .ret)
 .skip)))
 (.seq (.reg (tm 8 (.c (.int .i64 0)) .done))
 (.seq (.seq (.reg (tm 15 (.t 0) .done))
 (.block 0 (.seq (.reg (tq 17 (.bin .eql (.t 15) (.c (.int .i64 1))) (tm 16 (.t 17) .done)))
 (.cond (.t 16) (.reg (tm 18 (.t 1) (tm 19 (.t 2) (tq 20 (.bin .add (.t 18) (.t 19)) (tm 8 (.t 20) .done)))))
 (.seq (.reg (tq 22 (.bin .eql (.t 15) (.c (.int .i64 2))) (tm 21 (.t 22) .done)))
 (.cond (.t 21) (.reg (tm 23 (.t 1) (tm 24 (.t 2) (tq 25 (.bin .sub (.t 23) (.t 24)) (tm 8 (.t 25) .done)))))
 (.seq (.reg (tq 27 (.bin .eql (.t 15) (.c (.int .i64 3))) (tm 26 (.t 27) .done)))
 (.cond (.t 26) (.reg (tm 28 (.t 1) (tm 29 (.t 2) (tq 30 (.bin .mul (.t 28) (.t 29)) (tm 8 (.t 30) .done)))))
 (.seq (.reg (tq 32 (.bin .eql (.t 15) (.c (.int .i64 4))) (tm 31 (.t 32) .done)))
 (.cond (.t 31) (.reg (tm 33 (.t 1) (tm 34 (.t 2) (tq 35 (.bin .quo (.t 33) (.t 34)) (tm 8 (.t 35) .done)))))
 (.seq (.reg (tq 37 (.bin .eql (.t 15) (.c (.int .i64 5))) (tm 36 (.t 37) .done)))
 (.cond (.t 36) (.reg (tm 38 (.t 1) (tm 39 (.t 2) (tq 40 (.bin .rem (.t 38) (.t 39)) (tm 8 (.t 40) .done)))))
 .skip))))))))))))
 (.cut (.seq (.seq (.reg (tm 41 (.t 8) (tq 42 (.call 218 [(.t 41)]) (tq 43 (.not (.t 42)) .done))))
 (.cond (.t 43) (.seq (.reg (tm 6 (.c (.int .i64 0)) (tm 7 (.c (.int .i64 4)) .done)))
 .ret)
 .skip))
 (.seq (.reg (tm 44 (.t 8) (tm 6 (.t 44) (tm 7 (.c (.int .i64 0)) .done))))
 .ret)))))))
theorem fc223 : fcomp Try.prog Try.f223 = some (c223.erase, [.mov (.t 6), .mov (.t 7)], 45) := by kernel_rfl
def impl_reckon (f_1 : Int) (a_2 : Int) (b_3 : Int) : Option (Int × Int) :=
    ((if (b_3 == 0) then
    some (decide (f_1 ≥ 4))
    else
    some false : Option Bool)).bind fun s14_5 =>
    if s14_5 then
    some (0, 4)
    else
    ((if (f_1 == 1) then
    some (w64 (a_2 + b_3))
    else
    if (f_1 == 2) then
    some (w64 (a_2 - b_3))
    else
    if (f_1 == 3) then
    some (w64 (a_2 * b_3))
    else
    if (f_1 == 4) then
    if b_3 ≠ 0 then
    some (w64 (a_2.tdiv b_3))
    else none
    else
    if (f_1 == 5) then
    if b_3 ≠ 0 then
    some (a_2.tmod b_3)
    else none
    else
    some 0 : Option Int)).bind fun out_16 =>
    (impl_isNumber out_16).bind fun r_25 =>
    if (!r_25) then
    some (0, 4)
    else
    some (out_16, 0)
theorem w_impl_reckon (f_1 : Int) (a_2 : Int) (b_3 : Int) (r : (Int × Int)) (hf : impl_reckon f_1 a_2 b_3 = some r) : CallOK Try.prog 223 .flat [(.int .i64 f_1), (.int .i64 a_2), (.int .i64 b_3)] (.tup [(.int .i64 r.1), (.int .i64 r.2)]) := by
 refine CallOK.of_awp mixed Try.func223 fc223 nle ?_; rw [argT_eq]; unfold impl_reckon at hf; unfold c223; refine (show awp Try.prog false 0 _ (ofL [(0, (.int .i64 f_1)), (1, (.int .i64 a_2)), (2, (.int .i64 b_3))]) [] _ from ?_); refine awp_seq <| w_reg <| s_mov (.int .i64 0) rfl <| s_mov (.int .i64 0) rfl <| w_done <| k_seq <| awp_seq <| awp_seq <| ?_
 obtain ⟨s14_5, hb1, hf⟩ := ob hf
 refine awp_cut ([(0, (.int .i64 f_1)), (1, (.int .i64 a_2)), (2, (.int .i64 b_3)), (14, (.bool s14_5))], []) ?_ ?_
 ·refine w_reg ?_
  rcases oi hb1 with ⟨c7, hb1⟩ | ⟨c7, hb1⟩
  ·refine s_mov (.int .i64 b_3) rfl <| s_q (.bool (b_3 == 0)) rfl rfl rfl <| s_mov (.bool (b_3 == 0)) rfl <| s_lit (s := 11) (b := true) rfl c7 <| s_on rfl <| s_mov (.int .i64 f_1) rfl <| s_on rfl <| s_q (.bool (decide (f_1 ≥ 4))) rfl rfl rfl <| s_q (.bool (decide (f_1 ≥ 4))) rfl trivial rfl <| w_done <| ?_; obtain rfl := os hb1; exact ⟨[], [], _, _, rfl, rfl, ⟨.refl _, ⟨.refl _, ⟨.refl _, ⟨.refl _, trivial⟩⟩⟩⟩, (.refl _)⟩
  ·refine s_mov (.int .i64 b_3) rfl <| s_q (.bool (b_3 == 0)) rfl rfl rfl <| s_mov (.bool (b_3 == 0)) rfl <| s_lit (s := 11) (b := false) rfl (bf c7) <| s_off rfl rfl <| s_off rfl rfl <| s_q (.bool false) rfl trivial rfl <| w_done <| ?_; obtain rfl := os hb1; exact ⟨[], [], _, _, rfl, rfl, ⟨.refl _, ⟨.refl _, ⟨.refl _, ⟨.refl _, trivial⟩⟩⟩⟩, (.refl _)⟩
 ·rcases oi hf with ⟨c8, hf⟩ | ⟨c8, hf⟩
  ·refine w_condt rfl c8 <| awp_seq <| w_reg <| s_mov (.int .i64 0) rfl <| s_mov (.int .i64 4) rfl <| w_done <| k_seq <| w_ret <| ?_; obtain rfl := os hf; exact r_flat ⟨trivial, ⟨trivial, trivial⟩⟩ rfl (.refl _)
  ·refine w_condf rfl (bf c8) <| w_skip <| k_seq <| awp_seq <| w_reg <| s_mov (.int .i64 0) rfl <| w_done <| k_seq <| awp_seq <| ?_
   obtain ⟨out_16, hb1, hf⟩ := ob hf
   refine awp_cut ([(8, (.int .i64 out_16))], []) ?_ ?_
   ·refine awp_seq <| w_reg <| s_mov (.int .i64 f_1) rfl <| w_done <| k_seq <| w_blk <| awp_seq <| w_reg <| s_q (.bool (f_1 == 1)) rfl rfl rfl <| s_mov (.bool (f_1 == 1)) rfl <| w_done <| k_seq <| ?_
    rcases oi hb1 with ⟨c18, hb1⟩ | ⟨c18, hb1⟩
    ·refine w_condt rfl c18 <| w_reg <| s_mov (.int .i64 a_2) rfl <| s_mov (.int .i64 b_3) rfl <| s_q (.int .i64 (w64 (a_2 + b_3))) rfl rfl rfl <| s_mov (.int .i64 (w64 (a_2 + b_3))) rfl <| w_done <| k_blk <| ?_; obtain rfl := os hb1; exact ⟨[], [], _, _, rfl, rfl, ⟨.refl _, trivial⟩, (.refl _)⟩
    ·refine w_condf rfl (bf c18) <| awp_seq <| w_reg <| s_q (.bool (f_1 == 2)) rfl rfl rfl <| s_mov (.bool (f_1 == 2)) rfl <| w_done <| k_seq <| ?_
     rcases oi hb1 with ⟨c19, hb1⟩ | ⟨c19, hb1⟩
     ·refine w_condt rfl c19 <| w_reg <| s_mov (.int .i64 a_2) rfl <| s_mov (.int .i64 b_3) rfl <| s_q (.int .i64 (w64 (a_2 - b_3))) rfl rfl rfl <| s_mov (.int .i64 (w64 (a_2 - b_3))) rfl <| w_done <| k_blk <| ?_; obtain rfl := os hb1; exact ⟨[], [], _, _, rfl, rfl, ⟨.refl _, trivial⟩, (.refl _)⟩
     ·refine w_condf rfl (bf c19) <| awp_seq <| w_reg <| s_q (.bool (f_1 == 3)) rfl rfl rfl <| s_mov (.bool (f_1 == 3)) rfl <| w_done <| k_seq <| ?_
      rcases oi hb1 with ⟨c20, hb1⟩ | ⟨c20, hb1⟩
      ·refine w_condt rfl c20 <| w_reg <| s_mov (.int .i64 a_2) rfl <| s_mov (.int .i64 b_3) rfl <| s_q (.int .i64 (w64 (a_2 * b_3))) rfl rfl rfl <| s_mov (.int .i64 (w64 (a_2 * b_3))) rfl <| w_done <| k_blk <| ?_; obtain rfl := os hb1; exact ⟨[], [], _, _, rfl, rfl, ⟨.refl _, trivial⟩, (.refl _)⟩
      ·refine w_condf rfl (bf c20) <| awp_seq <| w_reg <| s_q (.bool (f_1 == 4)) rfl rfl rfl <| s_mov (.bool (f_1 == 4)) rfl <| w_done <| k_seq <| ?_
       rcases oi hb1 with ⟨c21, hb1⟩ | ⟨c21, hb1⟩
       ·refine w_condt rfl c21 <| w_reg <| ?_
        obtain ⟨g22, hb1⟩ := og hb1
        refine s_mov (.int .i64 a_2) rfl <| s_mov (.int .i64 b_3) rfl <| s_q (.int .i64 (w64 (a_2.tdiv b_3))) rfl ⟨rfl, g22⟩ rfl <| s_mov (.int .i64 (w64 (a_2.tdiv b_3))) rfl <| w_done <| k_blk <| ?_; obtain rfl := os hb1; exact ⟨[], [], _, _, rfl, rfl, ⟨.refl _, trivial⟩, (.refl _)⟩
       ·refine w_condf rfl (bf c21) <| awp_seq <| w_reg <| s_q (.bool (f_1 == 5)) rfl rfl rfl <| s_mov (.bool (f_1 == 5)) rfl <| w_done <| k_seq <| ?_
        rcases oi hb1 with ⟨c23, hb1⟩ | ⟨c23, hb1⟩
        ·refine w_condt rfl c23 <| w_reg <| ?_
         obtain ⟨g24, hb1⟩ := og hb1
         refine s_mov (.int .i64 a_2) rfl <| s_mov (.int .i64 b_3) rfl <| s_q (.int .i64 (a_2.tmod b_3)) rfl ⟨rfl, g24⟩ rfl <| s_mov (.int .i64 (a_2.tmod b_3)) rfl <| w_done <| k_blk <| ?_; obtain rfl := os hb1; exact ⟨[], [], _, _, rfl, rfl, ⟨.refl _, trivial⟩, (.refl _)⟩
        ·refine w_condf rfl (bf c23) <| w_skip <| k_blk <| ?_; obtain rfl := os hb1; exact ⟨[], [], _, _, rfl, rfl, ⟨.refl _, trivial⟩, (.refl _)⟩
   ·refine awp_seq <| awp_seq <| w_reg <| ?_
    obtain ⟨r_25, er26, hf⟩ := ob hf
    refine s_mov (.int .i64 out_16) rfl <| s_do (o_call (w_impl_isNumber _ _ er26) rfl (.refl _) rfl) <| s_q (.bool (!r_25)) rfl trivial rfl <| w_done <| k_seq <| ?_
    rcases oi hf with ⟨c27, hf⟩ | ⟨c27, hf⟩
    ·refine w_condt rfl c27 <| awp_seq <| w_reg <| s_mov (.int .i64 0) rfl <| s_mov (.int .i64 4) rfl <| w_done <| k_seq <| w_ret <| ?_; obtain rfl := os hf; exact r_flat ⟨trivial, ⟨trivial, trivial⟩⟩ rfl (.refl _)
    ·refine w_condf rfl (bf c27) <| w_skip <| k_seq <| awp_seq <| w_reg <| s_mov (.int .i64 out_16) rfl <| s_mov (.int .i64 out_16) rfl <| s_mov (.int .i64 0) rfl <| w_done <| k_seq <| w_ret <| ?_; obtain rfl := os hf; exact r_flat ⟨trivial, ⟨trivial, trivial⟩⟩ rfl (.refl _)

/- impl.mutate -/
def c149 : ACode :=
 (.seq (.reg (tq 3 (.box 8 (.t 0)) (tq 5 (.box 3 (.t 2)) (tm 6 (.c .nil) (tm 7 (.c (.int .i64 0)) .done)))))
 (.seq (.reg (tq 14 (.bslice 3 []) (tm 8 (.t 14) .done)))
 (.seq (.seq (.reg (tq 15 (.faddr 1 (.t 5)) (tq 16 (.load 1 false (.t 15)) .done)))
 (.block 0 (.seq (.reg (tq 48 (.bin .eql (.t 16) (.c (.int .i64 6))) (tm 47 (.t 48) .done)))
 (.cond (.t 47) (.reg (tm 49 (.t 1) (tq 50 (.faddr 2 (.t 5)) (tq 51 (.load 1 false (.t 50)) (tq 52 (.bslice 1 [(.t 49), (.t 51)]) (tq 53 (.call 152 [(.t 52)]) (tq 54 (.call 222 [(.t 53)]) (tm 8 (.t 54) .done))))))))
 (.seq (.reg (tq 56 (.bin .eql (.t 16) (.c (.int .i64 7))) (tm 55 (.t 56) .done)))
 (.cond (.t 55) (.reg (tm 57 (.t 1) (tq 58 (.faddr 2 (.t 5)) (tq 59 (.load 1 false (.t 58)) (tq 60 (.call 153 [(.t 57), (.t 59)]) (tm 8 (.t 60) .done))))))
 (.seq (.seq (.reg (tm 17 (.t 1) (tq 18 (.len (.t 17)) (tm 19 (.c (.int .i64 0)) .done))))
 (.block 1 (.loop (.seq (.reg (tq 20 (.bin .lss (.t 19) (.t 18)) .done))
 (.seq (.cond (.t 20) .skip
 (.exit 1))
 (.seq (.block 2 (.seq (.reg (tq 21 (.iaddr 3 (.t 17) (.t 19)) (tq 22 (.load 3 true (.t 21)) (tq 10 (.box 3 (.c (.agg [(.int .i64 0), (.int .i64 0), (.str [])]))) (.q ⟨none, none, .store 3 (.t 10) (.t 22)⟩
 .done)))))
 (.seq (.reg (tq 24 (.faddr 1 (.t 5)) (tq 25 (.load 1 false (.t 24)) (tq 26 (.faddr 1 (.t 10)) (tq 27 (.load 1 false (.t 26)) (tq 28 (.faddr 2 (.t 5)) (tq 29 (.load 1 false (.t 28)) (tq 30 (.iaddr 3 (.t 29) (.c (.int .i64 0))) (tq 31 (.faddr 1 (.t 30)) (tq 32 (.load 1 false (.t 31)) (.l ⟨(some 33), none, .call 223 [(.t 25), (.t 27), (.t 32)]⟩ []
 (tm 23 (.t 33) (tq 34 (.extract 0 (.t 23)) (tq 35 (.extract 1 (.t 23)) (tm 11 (.t 34) (tm 12 (.t 35) .done))))) .non)))))))))))
 (.seq (.seq (.reg (tm 36 (.t 12) (tq 37 (.bin .neq (.t 36) (.c (.int .i64 0))) .done)))
 (.cond (.t 37) (.seq (.reg (tm 38 (.t 12) (tm 6 (.c .nil) (tm 7 (.t 38) .done))))
 .ret)
 .skip))
 (.reg (tm 39 (.t 8) (tm 40 (.t 11) (tq 41 (.build [(.int .i64 0), (.int .i64 0), (.str [])] [(0, 1, (.c (.int .i64 1))), (1, 1, (.t 40))]) (tq 42 (.bslice 3 [(.t 41)]) (tq 43 (.append 3 32 (.t 39) (.t 42)) (tm 8 (.t 43) .done)))))))))))
 (.reg (tq 44 (.bin .add (.t 19) (.c (.int .i64 1))) (tm 19 (.t 44) .done)))))))))
 (.cut (.reg (tm 45 (.t 8) (tq 46 (.call 222 [(.t 45)]) (tm 8 (.t 46) .done))))))))))))
 (.cut (.seq (.seq (.reg (tq 61 (.load 8 true (.t 3)) (tm 62 (.t 8) (tq 63 (.call 146 [(.t 61), (.t 62)]) (tm 13 (.t 63) .done)))))
 (.seq (.reg (tm 64 (.t 13) (tq 65 (.bin .neq (.t 64) (.c (.int .i64 0))) .done)))
 (.cond (.t 65) (.seq (.reg (tm 66 (.t 13) (tm 6 (.c .nil) (tm 7 (.t 66) .done))))
 .ret)
 .skip)))
 (.seq (.reg (tm 67 (.t 8) (tm 6 (.t 67) (tm 7 (.c (.int .i64 0)) .done))))
 .ret))))))
theorem fc149 : fcomp Try.prog Try.f149 = some (c149.erase, [.mov (.t 6), .mov (.t 7)], 68) := by kernel_rfl
def impl_mutate_L1 (m_3 : GMut) : List GAtom → (List GAtom) → Option (Fl ((List GAtom) × Int) (List GAtom))
  | [], out_93 =>
    some (.go out_93)
  | x_111 :: xs, out_93 =>
    (idx m_3.Value 0).bind fun x_112 =>
    (impl_reckon m_3.Func x_111.N x_112.N).bind fun r_114 =>
    if (r_114.2 != 0) then
    some (.ret ([], r_114.2))
    else
    if (out_93 ++ [(⟨1, r_114.1, []⟩ : GAtom)]).length ≤ 2 ^ 30 then
    impl_mutate_L1 m_3 xs  (out_93 ++ [(⟨1, r_114.1, []⟩ : GAtom)])
    else none

def impl_mutate (c_1 : GColumn) (d_2 : (List GAtom)) (m_3 : GMut) : Option ((List GAtom) × Int) :=
    ((if (m_3.Func == 6) then
    (slices_Concat_impl_Atom_impl_Atom [d_2, m_3.Value]).bind fun r_64 =>
    (impl_setOf r_64).bind fun r_66 =>
    some (.go r_66)
    else
    if (m_3.Func == 7) then
    (impl_less d_2 m_3.Value).bind fun r_69 =>
    some (.go r_69)
    else
    (impl_mutate_L1 m_3 d_2 []).bind fun q => (match q with
    | .ret r => some (.ret r)
    | .go out_103 =>
    (impl_setOf out_103).bind fun r_118 =>
    some (.go r_118)) : Option (Fl ((List GAtom) × Int) (List GAtom)))).bind fun q => (match q with
    | .ret r => some r
    | .go out_61 =>
    (impl_Column_fits c_1 out_61).bind fun r_120 =>
    if (r_120 != 0) then
    some ([], r_120)
    else
    some (out_61, 0))
theorem w_impl_mutate (c_1 : GColumn) (d_2 : (List GAtom)) (m_3 : GMut) (r : ((List GAtom) × Int)) (hf : impl_mutate c_1 d_2 m_3 = some r) : CallOK Try.prog 149 .weak [(encGColumn c_1), (.lst 3 (d_2.map encGAtom)), (encGMut m_3)] (.tup [(.lst 3 (r.1.map encGAtom)), (.int .i64 r.2)]) := by
 refine CallOK.of_awp mixed Try.func149 fc149 nle ?_; rw [argT_eq]; unfold impl_mutate at hf; unfold c149; refine (show awp Try.prog false 0 _ (ofL [(0, (encGColumn c_1)), (1, (.lst 3 (d_2.map encGAtom))), (2, (encGMut m_3))]) [] _ from ?_); refine awp_seq <| w_reg <| s_do (o_box (j := 0) (c := (.agg [(.str c_1.Name), (.int .i64 c_1.Kind), (.int .i64 c_1.Min), (.int .i64 c_1.Max), (.int .i64 c_1.Low), (.int .i64 c_1.High), (.str c_1.Ref), (.bool c_1.Strong)])) rfl trivial rfl rfl) <| s_do (o_box (j := 1) (c := (.agg [(.str m_3.Column), (.int .i64 m_3.Func), (.lst 3 (m_3.Value.map encGAtom))])) rfl trivial rfl rfl) <| s_mov .nil rfl <| s_mov (.int .i64 0) rfl <| w_done <| k_seq <| awp_seq <| w_reg <| ?_; refine s_do (o_bslice (j := 2) (as' := []) rfl (fun _ => by decide) trivial (.refl _) rfl rfl rfl) ?_
 refine s_mov (.own 2 0 0) rfl <| w_done <| k_seq <| awp_seq <| ?_
 obtain ⟨p62, hb1, hf⟩ := ob hf
 refine awp_cutx (X := {q : (List GAtom) // p62 = .go q}) (fun q => ([(3, (.ptr 0 0 0)), (8, (.lst 3 (q.1.map encGAtom)))], [.box 8 (.agg [(.str c_1.Name), (.int .i64 c_1.Kind), (.int .i64 c_1.Min), (.int .i64 c_1.Max), (.int .i64 c_1.Low), (.int .i64 c_1.High), (.str c_1.Ref), (.bool c_1.Strong)])])) ?_ ?_
 ·refine awp_seq <| w_reg <| s_q (.ptr 1 0 1) rfl trivial rfl <| s_q (.int .i64 m_3.Func) rfl nle rfl <| w_done <| k_seq <| w_blk <| awp_seq <| w_reg <| s_q (.bool (m_3.Func == 6)) rfl rfl rfl <| s_mov (.bool (m_3.Func == 6)) rfl <| w_done <| k_seq <| ?_
  rcases oi hb1 with ⟨c63, hb1⟩ | ⟨c63, hb1⟩
  ·refine w_condt rfl c63 <| w_reg <| ?_
   obtain ⟨r_64, er65, hb1⟩ := ob hb1
   obtain ⟨r_66, er67, hb1⟩ := ob hb1
   refine s_mov (.lst 3 (d_2.map encGAtom)) rfl <| s_q (.ptr 1 0 2) rfl trivial rfl <| s_q (.lst 3 (m_3.Value.map encGAtom)) rfl nle rfl <| ?_; refine s_do (o_bslice (j := 3) (as' := [(.lst 3 (d_2.map encGAtom)), (.lst 3 (m_3.Value.map encGAtom))]) rfl (fun _ => by decide) ⟨rfl, ⟨rfl, trivial⟩⟩ (.refl _) rfl rfl rfl) ?_; refine s_do (o_callc rfl (w_slices_Concat_impl_Atom_impl_Atom _ _ er65) rfl (.cons (.of_eq (congrArg (AV.lst _) (by rfl))) .nil) rfl) <| s_do (o_callc rfl (w_impl_setOf _ _ er67) rfl (.refl _) rfl) <| s_mov (.lst 3 (r_66.map encGAtom)) rfl <| w_done <| k_blk <| ?_; obtain rfl := os hb1; exact k_cutn ⟨_, rfl⟩ ⟨[], [0], _, _, rfl, rfl, ⟨.refl _, ⟨.refl _, trivial⟩⟩, (.refl _)⟩
  ·refine w_condf rfl (bf c63) <| awp_seq <| w_reg <| s_q (.bool (m_3.Func == 7)) rfl rfl rfl <| s_mov (.bool (m_3.Func == 7)) rfl <| w_done <| k_seq <| ?_
   rcases oi hb1 with ⟨c68, hb1⟩ | ⟨c68, hb1⟩
   ·refine w_condt rfl c68 <| w_reg <| ?_
    obtain ⟨r_69, er70, hb1⟩ := ob hb1
    refine s_mov (.lst 3 (d_2.map encGAtom)) rfl <| s_q (.ptr 1 0 2) rfl trivial rfl <| s_q (.lst 3 (m_3.Value.map encGAtom)) rfl nle rfl <| s_do (o_callc rfl (w_impl_less _ _ _ er70) rfl (.refl _) rfl) <| s_mov (.lst 3 (r_69.map encGAtom)) rfl <| w_done <| k_blk <| ?_; obtain rfl := os hb1; exact k_cutn ⟨_, rfl⟩ ⟨[], [0], _, _, rfl, rfl, ⟨.refl _, ⟨.refl _, trivial⟩⟩, (.refl _)⟩
   ·refine w_condf rfl (bf c68) <| awp_seq <| awp_seq <| w_reg <| s_mov (.lst 3 (d_2.map encGAtom)) rfl <| s_dof (o_len (enc := encGAtom) rfl) fun hl71 => s_mov (.int .i64 0) rfl <| w_done <| k_seq <| ?_
    obtain ⟨p104, hb2, hb1⟩ := ob hb1
    refine awp_cutx (X := {q : (List GAtom) // p104 = .go q}) (fun q => ([(3, (.ptr 0 0 0)), (8, (.own 1 0 q.1.length))], [.box 8 (.agg [(.str c_1.Name), (.int .i64 c_1.Kind), (.int .i64 c_1.Min), (.int .i64 c_1.Max), (.int .i64 c_1.Low), (.int .i64 c_1.High), (.str c_1.Ref), (.bool c_1.Strong)]), .row 3 (q.1.map encGAtom)])) ?_ ?_
    ·refine awp_loop (X := {q : (Nat × (List GAtom)) // impl_mutate_L1 m_3 (d_2.drop q.1) q.2 = some p104}) (fun q => ([(3, (.ptr 0 0 0)), (5, (.ptr 1 0 0)), (8, (.own 2 0 q.1.2.length)), (17, (.lst 3 (d_2.map encGAtom))), (18, (.int .i64 (d_2.length : Int))), (19, (.int .i64 (q.1.1 : Int)))], [.box 8 (.agg [(.str c_1.Name), (.int .i64 c_1.Kind), (.int .i64 c_1.Min), (.int .i64 c_1.Max), (.int .i64 c_1.Low), (.int .i64 c_1.High), (.str c_1.Ref), (.bool c_1.Strong)]), .box 3 (.agg [(.str m_3.Column), (.int .i64 m_3.Func), (.lst 3 (m_3.Value.map encGAtom))]), .row 3 (q.1.2.map encGAtom)])) (fun q => d_2.length - q.1.1) ⟨(0, []), hb2⟩ ⟨[], [0, 1, 2], _, _, rfl, rfl, ⟨.refl _, ⟨.refl _, ⟨.of_eq (congrArg (AV.own _ 0) (by simp)), ⟨.refl _, ⟨.refl _, ⟨.refl _, trivial⟩⟩⟩⟩⟩⟩, (.refl _)⟩ ?_
     rintro ⟨⟨s19_92, out_93⟩, hc2⟩
     have hc2 : impl_mutate_L1 m_3 (d_2.drop s19_92) out_93 = some p104 := hc2
     refine (show awp Try.prog false 0 _ (ofL [(3, (.ptr 0 0 0)), (5, (.ptr 1 0 0)), (8, (.own 2 0 out_93.length)), (17, (.lst 3 (d_2.map encGAtom))), (18, (.int .i64 (d_2.length : Int))), (19, (.int .i64 (s19_92 : Int)))]) [.box 8 (.agg [(.str c_1.Name), (.int .i64 c_1.Kind), (.int .i64 c_1.Min), (.int .i64 c_1.Max), (.int .i64 c_1.Low), (.int .i64 c_1.High), (.str c_1.Ref), (.bool c_1.Strong)]), .box 3 (.agg [(.str m_3.Column), (.int .i64 m_3.Func), (.lst 3 (m_3.Value.map encGAtom))]), .row 3 (out_93.map encGAtom)] _ from ?_)
     rcases dropc d_2 s19_92 with ⟨hie107, hd110⟩ | ⟨hlt105, x_111, hx106, hd110⟩
     ·rw [hd110, impl_mutate_L1.eq_1] at hc2
      have hq109 := dlf hie107
      refine awp_seq <| w_reg <| s_q (.bool (decide ((s19_92 : Int) < (d_2.length : Int)))) rfl rfl rfl <| w_done <| k_seq <| awp_seq <| w_condf rfl hq109 <| w_exit <| k_seqx <| k_loopx <| k_blkx <| ?_; obtain rfl := os hc2; exact k_cutn ⟨_, rfl⟩ ⟨[], [0, 2], _, _, rfl, rfl, ⟨.refl _, ⟨.refl _, trivial⟩⟩, (.refl _)⟩
     ·rw [hd110, impl_mutate_L1.eq_2] at hc2
      have hq109 := dlt hlt105
      refine awp_seq <| w_reg <| s_q (.bool (decide ((s19_92 : Int) < (d_2.length : Int)))) rfl rfl rfl <| w_done <| k_seq <| awp_seq <| w_condt rfl hq109 <| w_skip <| k_seq <| awp_seq <| w_blk <| awp_seq <| w_reg <| s_do (o_iaddrn (enc := encGAtom) rfl rfl hx106) <| s_q (encGAtom x_111) rfl nle rfl <| s_do (o_box (j := 3) (c := (.agg [(.int .i64 0), (.int .i64 0), (.str [])])) rfl trivial rfl rfl) <| s_do0 (o_storebox (v := (.agg [(.int .i64 x_111.Kind), (.int .i64 x_111.N), (.str x_111.T)])) (y' := (.agg [(.int .i64 x_111.Kind), (.int .i64 x_111.N), (.str x_111.T)])) rfl rfl rfl trivial ⟨rfl, nle⟩ ⟨⟨rfl, trivial⟩, ⟨⟨rfl, trivial⟩, ⟨⟨rfl, trivial⟩, trivial⟩⟩⟩ rfl) <| w_done <| k_seq <| awp_seq <| w_reg <| s_q (.ptr 1 0 1) rfl trivial rfl <| ?_
      refine s_q (.int .i64 m_3.Func) rfl nle rfl <| s_q (.ptr 3 0 1) rfl trivial rfl <| s_q (.int .i64 x_111.N) rfl nle rfl <| s_q (.ptr 1 0 2) rfl trivial rfl <| s_q (.lst 3 (m_3.Value.map encGAtom)) rfl nle rfl <| ?_
      obtain ⟨x_112, ex113, hc2⟩ := ob hc2
      refine s_do (o_iaddr (enc := encGAtom) rfl rfl (idx0 ex113) (idx1 ex113)) <| s_q (.iptr (encGAtom x_112) 1) rfl trivial rfl <| s_q (.int .i64 x_112.N) rfl nle rfl <| ?_
      obtain ⟨r_114, er115, hc2⟩ := ob hc2
      refine s_dol (o_call (w_impl_reckon _ _ _ _ er115) rfl (.refl _) rfl) a_same trivial <| s_mov (.tup [(.int .i64 r_114.1), (.int .i64 r_114.2)]) rfl <| s_q (.int .i64 r_114.1) rfl nle rfl <| s_q (.int .i64 r_114.2) rfl nle rfl <| s_mov (.int .i64 r_114.1) rfl <| s_mov (.int .i64 r_114.2) rfl <| w_done <| k_seq <| awp_seq <| awp_seq <| w_reg <| s_mov (.int .i64 r_114.2) rfl <| s_q (.bool (r_114.2 != 0)) rfl rfl rfl <| w_done <| k_seq <| ?_
      rcases oi hc2 with ⟨c116, hc2⟩ | ⟨c116, hc2⟩
      ·refine w_condt rfl c116 <| awp_seq <| w_reg <| s_mov (.int .i64 r_114.2) rfl <| s_mov .nil rfl <| s_mov (.int .i64 r_114.2) rfl <| w_done <| k_seq <| w_ret <| ?_; obtain rfl := os hc2; obtain rfl := os hb1; obtain rfl := os hf; exact r_weak ⟨trivial, ⟨trivial, trivial⟩⟩ rfl (.tup (.cons (.nil _) (.cons (.refl _) .nil)))
      ·refine w_condf rfl (bf c116) <| w_skip <| k_seq <| w_reg <| ?_
       obtain ⟨g117, hc2⟩ := og hc2
       refine s_mov (.own 2 0 out_93.length) rfl <| s_mov (.int .i64 r_114.1) rfl <| s_q (.agg [(.int .i64 1), (.int .i64 r_114.1), (.str [])]) rfl ⟨⟨rfl, nle, trivial⟩, ⟨⟨rfl, nle, trivial⟩, trivial⟩⟩ rfl <| ?_; refine s_do (o_bslice (j := 4) (as' := [(encGAtom (⟨1, r_114.1, []⟩ : GAtom))]) rfl (fun _ => by decide) ⟨rfl, trivial⟩ (.refl _) rfl rfl rfl) ?_
       refine s_do (o_appendw (j := 5) (L := ((out_93 ++ [(⟨1, r_114.1, []⟩ : GAtom)]).map encGAtom)) (len := (out_93 ++ [(⟨1, r_114.1, []⟩ : GAtom)]).length) rfl rfl (apoc (enc := encGAtom) out_93 [(⟨1, r_114.1, []⟩ : GAtom)] _ (by rfl)) (by simp <;> omega) g117 rfl rfl) ?_
       refine s_mov (.own 5 0 ((out_93 ++ [(⟨1, r_114.1, []⟩ : GAtom)]).length)) rfl <| w_done <| k_blk <| k_seq <| w_reg <| s_q (.int .i64 (w64 ((s19_92 : Int) + 1))) rfl rfl rfl <| s_mov (.int .i64 (w64 ((s19_92 : Int) + 1))) rfl <| w_done <| ?_; exact k_loopn ⟨((s19_92 + 1), out_93 ++ [(⟨1, r_114.1, []⟩ : GAtom)]), hc2⟩ (mul hlt105) ⟨[], [0, 1, 5], _, _, rfl, rfl, ⟨.refl _, ⟨.refl _, ⟨.refl _, ⟨.refl _, ⟨.refl _, ⟨.of_eq (congrArg (AV.int _) (w64_incr hlt105 hl71)), trivial⟩⟩⟩⟩⟩⟩, (.refl _)⟩
    ·rintro ⟨out_103, rfl⟩
     refine w_reg ?_
     obtain ⟨r_118, er119, hb1⟩ := ob hb1
     refine s_mov (.own 1 0 out_103.length) rfl <| s_do (o_callc rfl (w_impl_setOf _ _ er119) rfl (.cons (.of_eq (congrArg (AV.lst _) (tko out_103))) .nil) rfl) <| s_mov (.lst 3 (r_118.map encGAtom)) rfl <| w_done <| k_blk <| ?_; obtain rfl := os hb1; exact k_cutn ⟨_, rfl⟩ ⟨[], [0], _, _, rfl, rfl, ⟨.refl _, ⟨.refl _, trivial⟩⟩, (.refl _)⟩
 ·rintro ⟨out_61, rfl⟩
  refine awp_seq <| awp_seq <| w_reg <| ?_
  obtain ⟨r_120, er121, hf⟩ := ob hf
  refine s_q (.agg [(.str c_1.Name), (.int .i64 c_1.Kind), (.int .i64 c_1.Min), (.int .i64 c_1.Max), (.int .i64 c_1.Low), (.int .i64 c_1.High), (.str c_1.Ref), (.bool c_1.Strong)]) rfl nle rfl <| s_mov (.lst 3 (out_61.map encGAtom)) rfl <| s_do (o_call (w_impl_Column_fits _ _ _ er121) rfl (.refl _) rfl) <| s_mov (.int .i64 r_120) rfl <| w_done <| k_seq <| awp_seq <| w_reg <| s_mov (.int .i64 r_120) rfl <| s_q (.bool (r_120 != 0)) rfl rfl rfl <| w_done <| k_seq <| ?_
  rcases oi hf with ⟨c122, hf⟩ | ⟨c122, hf⟩
  ·refine w_condt rfl c122 <| awp_seq <| w_reg <| s_mov (.int .i64 r_120) rfl <| s_mov .nil rfl <| s_mov (.int .i64 r_120) rfl <| w_done <| k_seq <| w_ret <| ?_; obtain rfl := os hf; exact r_weak ⟨trivial, ⟨trivial, trivial⟩⟩ rfl (.tup (.cons (.nil _) (.cons (.refl _) .nil)))
  ·refine w_condf rfl (bf c122) <| w_skip <| k_seq <| awp_seq <| w_reg <| s_mov (.lst 3 (out_61.map encGAtom)) rfl <| s_mov (.lst 3 (out_61.map encGAtom)) rfl <| s_mov (.int .i64 0) rfl <| w_done <| k_seq <| w_ret <| ?_; obtain rfl := os hf; exact r_weak ⟨trivial, ⟨trivial, trivial⟩⟩ rfl (.refl _)

/- impl.Mutate -/
def c59 : ACode :=
 (.seq (.reg (tq 3 (.box 8 (.t 0)) (tq 5 (.box 3 (.t 2)) (tm 6 (.c .nil) (tm 7 (.c (.int .i64 0)) .done)))))
 (.seq (.block 0 (.seq (.reg (tm 10 (.t 1) (tq 11 (.call 84 [(.t 10)]) (tq 12 (.not (.t 11)) (tm 9 (.t 12) .done)))))
 (.cond (.t 9) (.seq (.reg (tm 6 (.c .nil) (tm 7 (.c (.int .i64 2)) .done)))
 .ret)
 (.seq (.reg (tq 14 (.load 8 true (.t 3)) (tq 15 (.call 145 [(.t 14)]) (tq 16 (.not (.t 15)) (tm 17 (.t 16) (tg 18 17 false (.mov (.t 1)) (tg 19 17 false (.call 85 [(.t 18)]) (tg 20 17 false (.not (.t 19)) (tq 21 (.pick (.t 17) (.c (.bool true)) (.t 20)) (tm 22 (.t 21) (tg 23 22 false (.load 8 true (.t 3)) (tg 24 22 false (.mov (.t 1)) (tg 25 22 false (.call 146 [(.t 23), (.t 24)]) (tg 26 22 false (.bin .neq (.t 25) (.c (.int .i64 0))) (tq 27 (.pick (.t 22) (.c (.bool true)) (.t 26)) (tm 28 (.t 27) (tg 29 28 false (.load 3 true (.t 5)) (tg 30 28 false (.call 147 [(.t 29)]) (tg 31 28 false (.not (.t 30)) (tq 32 (.pick (.t 28) (.c (.bool true)) (.t 31)) (tm 13 (.t 32) .done)))))))))))))))))))))
 (.cut (.cond (.t 13) (.seq (.reg (tm 6 (.c .nil) (tm 7 (.c (.int .i64 1)) .done)))
 .ret)
 .skip))))))
 (.seq (.seq (.reg (tq 33 (.load 3 true (.t 5)) (tq 34 (.load 8 true (.t 3)) (tq 35 (.call 148 [(.t 33), (.t 34)]) (tm 8 (.t 35) .done)))))
 (.seq (.reg (tm 36 (.t 8) (tq 37 (.bin .neq (.t 36) (.c (.int .i64 0))) .done)))
 (.cond (.t 37) (.seq (.reg (tm 38 (.t 8) (tm 6 (.c .nil) (tm 7 (.t 38) .done))))
 .ret)
 .skip)))
 (.seq (.reg (tq 39 (.load 8 true (.t 3)) (tm 40 (.t 1) (tq 41 (.load 3 true (.t 5)) (tq 42 (.call 149 [(.t 39), (.t 40), (.t 41)]) (tq 43 (.extract 0 (.t 42)) (tq 44 (.extract 1 (.t 42)) (tm 6 (.t 43) (tm 7 (.t 44) .done)))))))))
 .ret))))
theorem fc59 : fcomp Try.prog Try.f59 = some (c59.erase, [.mov (.t 6), .mov (.t 7)], 45) := by kernel_rfl
def impl_Mutate (c_1 : GColumn) (d_2 : (List GAtom)) (m_3 : GMut) : Option ((List GAtom) × Int) :=
    (impl_isList_impl_Atom d_2).bind fun r_4 =>
    if (!r_4) then
    some ([], 2)
    else
    (((impl_ColumnOK c_1).bind fun r_20 =>
    if (!r_20) then
    some true
    else
    (impl_DatumOK d_2).bind fun r_23 =>
    if (!r_23) then
    some true
    else
    (impl_Column_fits c_1 d_2).bind fun r_26 =>
    if (r_26 != 0) then
    some true
    else
    (impl_mutOK m_3).bind fun r_29 =>
    some (!r_29) : Option Bool)).bind fun s13_18 =>
    if s13_18 then
    some ([], 1)
    else
    (impl_Mut_typeCode m_3 c_1).bind fun r_32 =>
    if (r_32 != 0) then
    some ([], r_32)
    else
    (impl_mutate c_1 d_2 m_3).bind fun r_35 =>
    some (r_35.1, r_35.2)
theorem w_impl_Mutate (c_1 : GColumn) (d_2 : (List GAtom)) (m_3 : GMut) (r : ((List GAtom) × Int)) (hf : impl_Mutate c_1 d_2 m_3 = some r) : CallOK Try.prog 59 .weak [(encGColumn c_1), (.lst 3 (d_2.map encGAtom)), (encGMut m_3)] (.tup [(.lst 3 (r.1.map encGAtom)), (.int .i64 r.2)]) := by
 refine CallOK.of_awp mixed Try.func59 fc59 nle ?_; rw [argT_eq]; unfold impl_Mutate at hf; unfold c59; refine (show awp Try.prog false 0 _ (ofL [(0, (encGColumn c_1)), (1, (.lst 3 (d_2.map encGAtom))), (2, (encGMut m_3))]) [] _ from ?_); refine awp_seq <| w_reg <| s_do (o_box (j := 0) (c := (.agg [(.str c_1.Name), (.int .i64 c_1.Kind), (.int .i64 c_1.Min), (.int .i64 c_1.Max), (.int .i64 c_1.Low), (.int .i64 c_1.High), (.str c_1.Ref), (.bool c_1.Strong)])) rfl trivial rfl rfl) <| s_do (o_box (j := 1) (c := (.agg [(.str m_3.Column), (.int .i64 m_3.Func), (.lst 3 (m_3.Value.map encGAtom))])) rfl trivial rfl rfl) <| s_mov .nil rfl <| s_mov (.int .i64 0) rfl <| w_done <| k_seq <| awp_seq <| w_blk <| awp_seq <| w_reg <| ?_
 obtain ⟨r_4, er5, hf⟩ := ob hf
 refine s_mov (.lst 3 (d_2.map encGAtom)) rfl <| s_do (o_call (w_impl_isList_impl_Atom _ _ er5) rfl (.refl _) rfl) <| s_q (.bool (!r_4)) rfl trivial rfl <| s_mov (.bool (!r_4)) rfl <| w_done <| k_seq <| ?_
 rcases oi hf with ⟨c6, hf⟩ | ⟨c6, hf⟩
 ·refine w_condt rfl c6 <| awp_seq <| w_reg <| s_mov .nil rfl <| s_mov (.int .i64 2) rfl <| w_done <| k_seq <| w_ret <| ?_; obtain rfl := os hf; exact r_weak ⟨trivial, ⟨trivial, trivial⟩⟩ rfl (.tup (.cons (.nil _) (.cons (.refl _) .nil)))
 ·refine w_condf rfl (bf c6) <| awp_seq <| ?_
  obtain ⟨s13_18, hb1, hf⟩ := ob hf
  refine awp_cut ([(1, (.lst 3 (d_2.map encGAtom))), (3, (.ptr 0 0 0)), (5, (.ptr 1 0 0)), (13, (.bool s13_18))], [.box 8 (.agg [(.str c_1.Name), (.int .i64 c_1.Kind), (.int .i64 c_1.Min), (.int .i64 c_1.Max), (.int .i64 c_1.Low), (.int .i64 c_1.High), (.str c_1.Ref), (.bool c_1.Strong)]), .box 3 (.agg [(.str m_3.Column), (.int .i64 m_3.Func), (.lst 3 (m_3.Value.map encGAtom))])]) ?_ ?_
  ·refine w_reg <| s_q (.agg [(.str c_1.Name), (.int .i64 c_1.Kind), (.int .i64 c_1.Min), (.int .i64 c_1.Max), (.int .i64 c_1.Low), (.int .i64 c_1.High), (.str c_1.Ref), (.bool c_1.Strong)]) rfl nle rfl <| ?_
   obtain ⟨r_20, er21, hb1⟩ := ob hb1
   refine s_do (o_call (w_impl_ColumnOK _ _ er21) rfl (.refl _) rfl) <| s_q (.bool (!r_20)) rfl trivial rfl <| s_mov (.bool (!r_20)) rfl <| ?_
   rcases oi hb1 with ⟨c22, hb1⟩ | ⟨c22, hb1⟩
   ·refine s_lit (s := 17) (b := true) rfl c22 <| s_off rfl rfl <| s_off rfl rfl <| s_off rfl rfl <| s_q (.bool true) rfl trivial rfl <| s_mov (.bool true) rfl <| s_off rfl rfl <| s_off rfl rfl <| s_off rfl rfl <| s_off rfl rfl <| s_q (.bool true) rfl trivial rfl <| s_mov (.bool true) rfl <| s_off rfl rfl <| s_off rfl rfl <| s_off rfl rfl <| s_q (.bool true) rfl trivial rfl <| s_mov (.bool true) rfl <| w_done <| ?_; obtain rfl := os hb1; exact ⟨[], [0, 1], _, _, rfl, rfl, ⟨.refl _, ⟨.refl _, ⟨.refl _, ⟨.refl _, trivial⟩⟩⟩⟩, (.refl _)⟩
   ·refine s_lit (s := 17) (b := false) rfl (bf c22) <| s_on rfl <| s_mov (.lst 3 (d_2.map encGAtom)) rfl <| s_on rfl <| ?_
    obtain ⟨r_23, er24, hb1⟩ := ob hb1
    refine s_do (o_call (w_impl_DatumOK _ _ er24) rfl (.refl _) rfl) <| s_on rfl <| s_q (.bool (!r_23)) rfl trivial rfl <| s_q (.bool (!r_23)) rfl trivial rfl <| s_mov (.bool (!r_23)) rfl <| ?_
    rcases oi hb1 with ⟨c25, hb1⟩ | ⟨c25, hb1⟩
    ·refine s_lit (s := 22) (b := true) rfl c25 <| s_off rfl rfl <| s_off rfl rfl <| s_off rfl rfl <| s_off rfl rfl <| s_q (.bool true) rfl trivial rfl <| s_mov (.bool true) rfl <| s_off rfl rfl <| s_off rfl rfl <| s_off rfl rfl <| s_q (.bool true) rfl trivial rfl <| s_mov (.bool true) rfl <| w_done <| ?_; obtain rfl := os hb1; exact ⟨[], [0, 1], _, _, rfl, rfl, ⟨.refl _, ⟨.refl _, ⟨.refl _, ⟨.refl _, trivial⟩⟩⟩⟩, (.refl _)⟩
    ·refine s_lit (s := 22) (b := false) rfl (bf c25) <| s_on rfl <| s_q (.agg [(.str c_1.Name), (.int .i64 c_1.Kind), (.int .i64 c_1.Min), (.int .i64 c_1.Max), (.int .i64 c_1.Low), (.int .i64 c_1.High), (.str c_1.Ref), (.bool c_1.Strong)]) rfl nle rfl <| s_on rfl <| s_mov (.lst 3 (d_2.map encGAtom)) rfl <| s_on rfl <| ?_
     obtain ⟨r_26, er27, hb1⟩ := ob hb1
     refine s_do (o_call (w_impl_Column_fits _ _ _ er27) rfl (.refl _) rfl) <| s_on rfl <| s_q (.bool (r_26 != 0)) rfl rfl rfl <| s_q (.bool (r_26 != 0)) rfl trivial rfl <| s_mov (.bool (r_26 != 0)) rfl <| ?_
     rcases oi hb1 with ⟨c28, hb1⟩ | ⟨c28, hb1⟩
     ·refine s_lit (s := 28) (b := true) rfl c28 <| s_off rfl rfl <| s_off rfl rfl <| s_off rfl rfl <| s_q (.bool true) rfl trivial rfl <| s_mov (.bool true) rfl <| w_done <| ?_; obtain rfl := os hb1; exact ⟨[], [0, 1], _, _, rfl, rfl, ⟨.refl _, ⟨.refl _, ⟨.refl _, ⟨.refl _, trivial⟩⟩⟩⟩, (.refl _)⟩
     ·refine s_lit (s := 28) (b := false) rfl (bf c28) <| s_on rfl <| s_q (.agg [(.str m_3.Column), (.int .i64 m_3.Func), (.lst 3 (m_3.Value.map encGAtom))]) rfl nle rfl <| s_on rfl <| ?_
      obtain ⟨r_29, er30, hb1⟩ := ob hb1
      refine s_do (o_call (w_impl_mutOK _ _ er30) rfl (.refl _) rfl) <| s_on rfl <| s_q (.bool (!r_29)) rfl trivial rfl <| s_q (.bool (!r_29)) rfl trivial rfl <| s_mov (.bool (!r_29)) rfl <| w_done <| ?_; obtain rfl := os hb1; exact ⟨[], [0, 1], _, _, rfl, rfl, ⟨.refl _, ⟨.refl _, ⟨.refl _, ⟨.refl _, trivial⟩⟩⟩⟩, (.refl _)⟩
  ·rcases oi hf with ⟨c31, hf⟩ | ⟨c31, hf⟩
   ·refine w_condt rfl c31 <| awp_seq <| w_reg <| s_mov .nil rfl <| s_mov (.int .i64 1) rfl <| w_done <| k_seq <| w_ret <| ?_; obtain rfl := os hf; exact r_weak ⟨trivial, ⟨trivial, trivial⟩⟩ rfl (.tup (.cons (.nil _) (.cons (.refl _) .nil)))
   ·refine w_condf rfl (bf c31) <| w_skip <| k_blk <| k_seq <| awp_seq <| awp_seq <| w_reg <| ?_
    obtain ⟨r_32, er33, hf⟩ := ob hf
    refine s_q (.agg [(.str m_3.Column), (.int .i64 m_3.Func), (.lst 3 (m_3.Value.map encGAtom))]) rfl nle rfl <| s_q (.agg [(.str c_1.Name), (.int .i64 c_1.Kind), (.int .i64 c_1.Min), (.int .i64 c_1.Max), (.int .i64 c_1.Low), (.int .i64 c_1.High), (.str c_1.Ref), (.bool c_1.Strong)]) rfl nle rfl <| s_do (o_call (w_impl_Mut_typeCode _ _ _ er33) rfl (.refl _) rfl) <| s_mov (.int .i64 r_32) rfl <| w_done <| k_seq <| awp_seq <| w_reg <| s_mov (.int .i64 r_32) rfl <| s_q (.bool (r_32 != 0)) rfl rfl rfl <| w_done <| k_seq <| ?_
    rcases oi hf with ⟨c34, hf⟩ | ⟨c34, hf⟩
    ·refine w_condt rfl c34 <| awp_seq <| w_reg <| s_mov (.int .i64 r_32) rfl <| s_mov .nil rfl <| s_mov (.int .i64 r_32) rfl <| w_done <| k_seq <| w_ret <| ?_; obtain rfl := os hf; exact r_weak ⟨trivial, ⟨trivial, trivial⟩⟩ rfl (.tup (.cons (.nil _) (.cons (.refl _) .nil)))
    ·refine w_condf rfl (bf c34) <| w_skip <| k_seq <| awp_seq <| w_reg <| ?_
     obtain ⟨r_35, er36, hf⟩ := ob hf
     refine s_q (.agg [(.str c_1.Name), (.int .i64 c_1.Kind), (.int .i64 c_1.Min), (.int .i64 c_1.Max), (.int .i64 c_1.Low), (.int .i64 c_1.High), (.str c_1.Ref), (.bool c_1.Strong)]) rfl nle rfl <| s_mov (.lst 3 (d_2.map encGAtom)) rfl <| s_q (.agg [(.str m_3.Column), (.int .i64 m_3.Func), (.lst 3 (m_3.Value.map encGAtom))]) rfl nle rfl <| s_do (o_callw rfl (w_impl_mutate _ _ _ _ er36) rfl (.refl _) rfl rfl) <| s_q (.lst 3 (r_35.1.map encGAtom)) rfl nle rfl <| s_q (.int .i64 r_35.2) rfl nle rfl <| s_mov (.lst 3 (r_35.1.map encGAtom)) rfl <| s_mov (.int .i64 r_35.2) rfl <| w_done <| k_seq <| w_ret <| ?_; obtain rfl := os hf; exact r_weak ⟨trivial, ⟨trivial, trivial⟩⟩ rfl (.refl _)

/- impl.areAlike -/
def c224 : ACode :=
 (.seq (.reg (tm 4 (.c (.bool false)) .done))
 (.seq (.reg (tm 5 (.t 0) (tq 6 (.len (.t 5)) (tq 7 (.bin .eql (.t 6) (.c (.int .i64 0))) (tm 8 (.t 7) (tg 9 8 false (.mov (.t 1)) (tg 10 8 false (.len (.t 9)) (tg 11 8 false (.bin .eql (.t 10) (.c (.int .i64 0))) (tq 12 (.pick (.t 8) (.c (.bool true)) (.t 11)) (tm 13 (.t 12) (tg 14 13 false (.mov (.t 0)) (tg 15 13 false (.iaddr 3 (.t 14) (.c (.int .i64 0))) (tg 16 13 false (.faddr 0 (.t 15)) (tg 17 13 false (.load 1 false (.t 16)) (tg 18 13 false (.mov (.t 1)) (tg 19 13 false (.iaddr 3 (.t 18) (.c (.int .i64 0))) (tg 20 13 false (.faddr 0 (.t 19)) (tg 21 13 false (.load 1 false (.t 20)) (tg 22 13 false (.bin .eql (.t 17) (.t 21)) (tq 23 (.pick (.t 13) (.c (.bool true)) (.t 22)) (tm 4 (.t 23) .done)))))))))))))))))))))
 .ret))
theorem fc224 : fcomp Try.prog Try.f224 = some (c224.erase, [.mov (.t 4)], 24) := by kernel_rfl
def impl_areAlike (a_1 : (List GAtom)) (b_2 : (List GAtom)) : Option Bool :=
    if (bif ((a_1.length : Int) == 0) then true else ((b_2.length : Int) == 0)) then
    some true
    else
    (idx a_1 0).bind fun x_6 =>
    (idx b_2 0).bind fun x_8 =>
    some (x_6.Kind == x_8.Kind)
theorem w_impl_areAlike (a_1 : (List GAtom)) (b_2 : (List GAtom)) (r : Bool) (hf : impl_areAlike a_1 b_2 = some r) : CallOK Try.prog 224 .flat [(.lst 3 (a_1.map encGAtom)), (.lst 3 (b_2.map encGAtom))] (.bool r) := by
 refine CallOK.of_awp mixed Try.func224 fc224 nle ?_; rw [argT_eq]; unfold impl_areAlike at hf; unfold c224; refine (show awp Try.prog false 0 _ (ofL [(0, (.lst 3 (a_1.map encGAtom))), (1, (.lst 3 (b_2.map encGAtom)))]) [] _ from ?_); refine awp_seq <| w_reg <| s_mov (.bool false) rfl <| w_done <| k_seq <| awp_seq <| w_reg <| s_mov (.lst 3 (a_1.map encGAtom)) rfl <| s_dof (o_len (enc := encGAtom) rfl) fun hl3 => s_q (.bool ((a_1.length : Int) == 0)) rfl rfl rfl <| s_mov (.bool ((a_1.length : Int) == 0)) rfl <| ?_; refine s_g (v := ((a_1.length : Int) == 0)) (.lst 3 (b_2.map encGAtom)) rfl (fun hv => by (try simp only [gs_on hv]); exact ⟨rfl, trivial, rfl⟩) ?_; refine s_g (v := ((a_1.length : Int) == 0)) (.int .i64 (b_2.length : Int)) rfl (fun hv => by (try simp only [gs_on hv]); exact ⟨rfl, trivial, lenV _ _⟩) ?_
 refine s_g (v := ((a_1.length : Int) == 0)) (.bool ((b_2.length : Int) == 0)) rfl (fun hv => by (try simp only [gs_on hv]); exact ⟨rfl, rfl, rfl⟩) ?_; refine s_pick (x := true) (y := ((b_2.length : Int) == 0)) rfl (fun hv => by (try simp only [gs_on hv]); rfl) (fun hv => by (try simp only [gs_on hv]); rfl) ?_; refine s_mov (.bool (bif ((a_1.length : Int) == 0) then true else ((b_2.length : Int) == 0))) rfl ?_
 rcases oi hf with ⟨c5, hf⟩ | ⟨c5, hf⟩
 ·refine s_lit (s := 13) (b := true) rfl c5 <| s_off rfl rfl <| s_off rfl rfl <| s_off rfl rfl <| s_off rfl rfl <| s_off rfl rfl <| s_off rfl rfl <| s_off rfl rfl <| s_off rfl rfl <| s_off rfl rfl <| s_q (.bool true) rfl trivial rfl <| s_mov (.bool true) rfl <| w_done <| k_seq <| w_ret <| ?_; obtain rfl := os hf; exact r_flat ⟨trivial, trivial⟩ rfl (.refl _)
 ·refine s_lit (s := 13) (b := false) rfl (bf c5) <| s_on rfl <| s_mov (.lst 3 (a_1.map encGAtom)) rfl <| s_on rfl <| ?_
  obtain ⟨x_6, ex7, hf⟩ := ob hf
  refine s_do (o_iaddr (enc := encGAtom) rfl rfl (idx0 ex7) (idx1 ex7)) <| s_on rfl <| s_q (.iptr (encGAtom x_6) 0) rfl trivial rfl <| s_on rfl <| s_q (.int .i64 x_6.Kind) rfl nle rfl <| s_on rfl <| s_mov (.lst 3 (b_2.map encGAtom)) rfl <| s_on rfl <| ?_
  obtain ⟨x_8, ex9, hf⟩ := ob hf
  refine s_do (o_iaddr (enc := encGAtom) rfl rfl (idx0 ex9) (idx1 ex9)) <| s_on rfl <| s_q (.iptr (encGAtom x_8) 0) rfl trivial rfl <| s_on rfl <| s_q (.int .i64 x_8.Kind) rfl nle rfl <| s_on rfl <| s_q (.bool (x_6.Kind == x_8.Kind)) rfl rfl rfl <| s_q (.bool (x_6.Kind == x_8.Kind)) rfl trivial rfl <| s_mov (.bool (x_6.Kind == x_8.Kind)) rfl <| w_done <| k_seq <| w_ret <| ?_; obtain rfl := os hf; exact r_flat ⟨trivial, trivial⟩ rfl (.refl _)

/- impl.datumsCode -/
def c150 : ACode :=
 (.seq (.reg (tm 4 (.c (.int .i64 0)) .done))
 (.seq (.block 0 (.seq (.reg (tm 6 (.t 0) (tq 7 (.call 84 [(.t 6)]) (tq 8 (.not (.t 7)) (tm 9 (.t 8) (tg 10 9 false (.mov (.t 1)) (tg 11 9 false (.call 84 [(.t 10)]) (tg 12 9 false (.not (.t 11)) (tq 13 (.pick (.t 9) (.c (.bool true)) (.t 12)) (tm 5 (.t 13) .done))))))))))
 (.cut (.cond (.t 5) (.seq (.reg (tm 4 (.c (.int .i64 2)) .done))
 .ret)
 (.seq (.reg (tm 15 (.t 0) (tq 16 (.call 85 [(.t 15)]) (tq 17 (.not (.t 16)) (tm 18 (.t 17) (tg 19 18 false (.mov (.t 1)) (tg 20 18 false (.call 85 [(.t 19)]) (tg 21 18 false (.not (.t 20)) (tq 22 (.pick (.t 18) (.c (.bool true)) (.t 21)) (tm 14 (.t 22) .done))))))))))
 (.cut (.cond (.t 14) (.seq (.reg (tm 4 (.c (.int .i64 1)) .done))
 .ret)
 (.seq (.reg (tm 24 (.t 0) (tm 25 (.t 1) (tq 26 (.call 224 [(.t 24), (.t 25)]) (tq 27 (.not (.t 26)) (tm 23 (.t 27) .done))))))
 (.cond (.t 23) (.seq (.reg (tm 4 (.c (.int .i64 9)) .done))
 .ret)
 .skip)))))))))
 (.seq (.reg (tm 4 (.c (.int .i64 0)) .done))
 .ret)))
theorem fc150 : fcomp Try.prog Try.f150 = some (c150.erase, [.mov (.t 4)], 28) := by kernel_rfl
def impl_datumsCode (a_1 : (List GAtom)) (b_2 : (List GAtom)) : Option Int :=
    (((impl_isList_impl_Atom a_1).bind fun r_10 =>
    if (!r_10) then
    some true
    else
    (impl_isList_impl_Atom b_2).bind fun r_13 =>
    some (!r_13) : Option Bool)).bind fun s5_8 =>
    if s5_8 then
    some 2
    else
    (((impl_DatumOK a_1).bind fun r_23 =>
    if (!r_23) then
    some true
    else
    (impl_DatumOK b_2).bind fun r_26 =>
    some (!r_26) : Option Bool)).bind fun s14_21 =>
    if s14_21 then
    some 1
    else
    (impl_areAlike a_1 b_2).bind fun r_29 =>
    if (!r_29) then
    some 9
    else
    some 0
theorem w_impl_datumsCode (a_1 : (List GAtom)) (b_2 : (List GAtom)) (r : Int) (hf : impl_datumsCode a_1 b_2 = some r) : CallOK Try.prog 150 .flat [(.lst 3 (a_1.map encGAtom)), (.lst 3 (b_2.map encGAtom))] (.int .i64 r) := by
 refine CallOK.of_awp mixed Try.func150 fc150 nle ?_; rw [argT_eq]; unfold impl_datumsCode at hf; unfold c150; refine (show awp Try.prog false 0 _ (ofL [(0, (.lst 3 (a_1.map encGAtom))), (1, (.lst 3 (b_2.map encGAtom)))]) [] _ from ?_); refine awp_seq <| w_reg <| s_mov (.int .i64 0) rfl <| w_done <| k_seq <| awp_seq <| w_blk <| awp_seq <| ?_
 obtain ⟨s5_8, hb1, hf⟩ := ob hf
 refine awp_cut ([(0, (.lst 3 (a_1.map encGAtom))), (1, (.lst 3 (b_2.map encGAtom))), (5, (.bool s5_8))], []) ?_ ?_
 ·refine w_reg ?_
  obtain ⟨r_10, er11, hb1⟩ := ob hb1
  rcases oi hb1 with ⟨c12, hb1⟩ | ⟨c12, hb1⟩
  ·refine s_mov (.lst 3 (a_1.map encGAtom)) rfl <| s_do (o_call (w_impl_isList_impl_Atom _ _ er11) rfl (.refl _) rfl) <| s_q (.bool (!r_10)) rfl trivial rfl <| s_mov (.bool (!r_10)) rfl <| s_lit (s := 9) (b := true) rfl c12 <| s_off rfl rfl <| s_off rfl rfl <| s_off rfl rfl <| s_q (.bool true) rfl trivial rfl <| s_mov (.bool true) rfl <| w_done <| ?_; obtain rfl := os hb1; exact ⟨[], [], _, _, rfl, rfl, ⟨.refl _, ⟨.refl _, ⟨.refl _, trivial⟩⟩⟩, (.refl _)⟩
  ·obtain ⟨r_13, er14, hb1⟩ := ob hb1
   refine s_mov (.lst 3 (a_1.map encGAtom)) rfl <| s_do (o_call (w_impl_isList_impl_Atom _ _ er11) rfl (.refl _) rfl) <| s_q (.bool (!r_10)) rfl trivial rfl <| s_mov (.bool (!r_10)) rfl <| s_lit (s := 9) (b := false) rfl (bf c12) <| s_on rfl <| s_mov (.lst 3 (b_2.map encGAtom)) rfl <| s_on rfl <| s_do (o_call (w_impl_isList_impl_Atom _ _ er14) rfl (.refl _) rfl) <| s_on rfl <| s_q (.bool (!r_13)) rfl trivial rfl <| s_q (.bool (!r_13)) rfl trivial rfl <| s_mov (.bool (!r_13)) rfl <| w_done <| ?_; obtain rfl := os hb1; exact ⟨[], [], _, _, rfl, rfl, ⟨.refl _, ⟨.refl _, ⟨.refl _, trivial⟩⟩⟩, (.refl _)⟩
 ·rcases oi hf with ⟨c15, hf⟩ | ⟨c15, hf⟩
  ·refine w_condt rfl c15 <| awp_seq <| w_reg <| s_mov (.int .i64 2) rfl <| w_done <| k_seq <| w_ret <| ?_; obtain rfl := os hf; exact r_flat ⟨trivial, trivial⟩ rfl (.refl _)
  ·refine w_condf rfl (bf c15) <| awp_seq <| ?_
   obtain ⟨s14_21, hb1, hf⟩ := ob hf
   refine awp_cut ([(0, (.lst 3 (a_1.map encGAtom))), (1, (.lst 3 (b_2.map encGAtom))), (14, (.bool s14_21))], []) ?_ ?_
   ·refine w_reg ?_
    obtain ⟨r_23, er24, hb1⟩ := ob hb1
    rcases oi hb1 with ⟨c25, hb1⟩ | ⟨c25, hb1⟩
    ·refine s_mov (.lst 3 (a_1.map encGAtom)) rfl <| s_do (o_call (w_impl_DatumOK _ _ er24) rfl (.refl _) rfl) <| s_q (.bool (!r_23)) rfl trivial rfl <| s_mov (.bool (!r_23)) rfl <| s_lit (s := 18) (b := true) rfl c25 <| s_off rfl rfl <| s_off rfl rfl <| s_off rfl rfl <| s_q (.bool true) rfl trivial rfl <| s_mov (.bool true) rfl <| w_done <| ?_; obtain rfl := os hb1; exact ⟨[], [], _, _, rfl, rfl, ⟨.refl _, ⟨.refl _, ⟨.refl _, trivial⟩⟩⟩, (.refl _)⟩
    ·obtain ⟨r_26, er27, hb1⟩ := ob hb1
     refine s_mov (.lst 3 (a_1.map encGAtom)) rfl <| s_do (o_call (w_impl_DatumOK _ _ er24) rfl (.refl _) rfl) <| s_q (.bool (!r_23)) rfl trivial rfl <| s_mov (.bool (!r_23)) rfl <| s_lit (s := 18) (b := false) rfl (bf c25) <| s_on rfl <| s_mov (.lst 3 (b_2.map encGAtom)) rfl <| s_on rfl <| s_do (o_call (w_impl_DatumOK _ _ er27) rfl (.refl _) rfl) <| s_on rfl <| s_q (.bool (!r_26)) rfl trivial rfl <| s_q (.bool (!r_26)) rfl trivial rfl <| s_mov (.bool (!r_26)) rfl <| w_done <| ?_; obtain rfl := os hb1; exact ⟨[], [], _, _, rfl, rfl, ⟨.refl _, ⟨.refl _, ⟨.refl _, trivial⟩⟩⟩, (.refl _)⟩
   ·rcases oi hf with ⟨c28, hf⟩ | ⟨c28, hf⟩
    ·refine w_condt rfl c28 <| awp_seq <| w_reg <| s_mov (.int .i64 1) rfl <| w_done <| k_seq <| w_ret <| ?_; obtain rfl := os hf; exact r_flat ⟨trivial, trivial⟩ rfl (.refl _)
    ·refine w_condf rfl (bf c28) <| awp_seq <| w_reg <| ?_
     obtain ⟨r_29, er30, hf⟩ := ob hf
     refine s_mov (.lst 3 (a_1.map encGAtom)) rfl <| s_mov (.lst 3 (b_2.map encGAtom)) rfl <| s_do (o_call (w_impl_areAlike _ _ _ er30) rfl (.refl _) rfl) <| s_q (.bool (!r_29)) rfl trivial rfl <| s_mov (.bool (!r_29)) rfl <| w_done <| k_seq <| ?_
     rcases oi hf with ⟨c31, hf⟩ | ⟨c31, hf⟩
     ·refine w_condt rfl c31 <| awp_seq <| w_reg <| s_mov (.int .i64 9) rfl <| w_done <| k_seq <| w_ret <| ?_; obtain rfl := os hf; exact r_flat ⟨trivial, trivial⟩ rfl (.refl _)
     ·refine w_condf rfl (bf c31) <| w_skip <| k_blk <| k_seq <| awp_seq <| w_reg <| s_mov (.int .i64 0) rfl <| w_done <| k_seq <| w_ret <| ?_; obtain rfl := os hf; exact r_flat ⟨trivial, trivial⟩ rfl (.refl _)

/- impl.datumOf -/
def c151 : ACode :=
 (.seq (.reg (tm 2 (.c .nil) (tm 3 (.c (.int .i64 0)) .done)))
 (.seq (.seq (.reg (tm 7 (.t 0) (tq 8 (.len (.t 7)) (tm 9 (.c (.int .i64 0)) .done))))
 (.block 0 (.loop (.seq (.reg (tq 10 (.bin .lss (.t 9) (.t 8)) .done))
 (.seq (.cond (.t 10) .skip
 (.exit 0))
 (.seq (.block 1 (.seq (.reg (tq 11 (.iaddr 3 (.t 7) (.t 9)) (tq 12 (.load 3 true (.t 11)) (tq 5 (.box 3 (.c (.agg [(.int .i64 0), (.int .i64 0), (.str [])]))) (.q ⟨none, none, .store 3 (.t 5) (.t 12)⟩
 .done)))))
 (.block 2 (.seq (.reg (tq 14 (.load 3 true (.t 5)) (tq 15 (.call 176 [(.t 14)]) (tq 16 (.not (.t 15)) (tm 13 (.t 16) .done)))))
 (.cond (.t 13) (.seq (.reg (tm 2 (.c .nil) (tm 3 (.c (.int .i64 1)) .done)))
 .ret)
 (.seq (.reg (tq 18 (.faddr 0 (.t 5)) (tq 19 (.load 1 false (.t 18)) (tm 20 (.t 0) (tq 21 (.iaddr 3 (.t 20) (.c (.int .i64 0))) (tq 22 (.faddr 0 (.t 21)) (tq 23 (.load 1 false (.t 22)) (tq 24 (.bin .neq (.t 19) (.t 23)) (tm 17 (.t 24) .done)))))))))
 (.cond (.t 17) (.seq (.reg (tm 2 (.c .nil) (tm 3 (.c (.int .i64 9)) .done)))
 .ret)
 .skip)))))))
 (.reg (tq 25 (.bin .add (.t 9) (.c (.int .i64 1))) (tm 9 (.t 25) .done)))))))))
 (.cut (.seq (.reg (tm 26 (.t 0) (tq 27 (.call 222 [(.t 26)]) (tm 6 (.t 27) .done))))
 (.seq (.seq (.reg (tm 28 (.t 6) (tq 29 (.len (.t 28)) (tq 30 (.bin .gtr (.t 29) (.c (.int .i64 8))) .done))))
 (.cond (.t 30) (.seq (.reg (tm 2 (.c .nil) (tm 3 (.c (.int .i64 6)) .done)))
 .ret)
 .skip))
 (.seq (.reg (tm 31 (.t 6) (tm 2 (.t 31) (tm 3 (.c (.int .i64 0)) .done))))
 .ret))))))
theorem fc151 : fcomp Try.prog Try.f151 = some (c151.erase, [.mov (.t 2), .mov (.t 3)], 32) := by kernel_rfl
def impl_datumOf_L1 (list_1 : (List GAtom)) : List GAtom → Option (Fl ((List GAtom) × Int) Unit)
  | [] =>
    some (.go ())
  | x_39 :: xs =>
    (impl_AtomOK x_39).bind fun r_40 =>
    if (!r_40) then
    some (.ret ([], 1))
    else
    (idx list_1 0).bind fun x_43 =>
    if (x_39.Kind != x_43.Kind) then
    some (.ret ([], 9))
    else
    impl_datumOf_L1 list_1 xs 

def impl_datumOf (list_1 : (List GAtom)) : Option ((List GAtom) × Int) :=
    (impl_datumOf_L1 list_1 list_1 ).bind fun q => (match q with
    | .ret r => some r
    | .go _ =>
    (impl_setOf list_1).bind fun r_46 =>
    if (decide ((r_46.length : Int) > 8)) then
    some ([], 6)
    else
    some (r_46, 0))
theorem w_impl_datumOf (list_1 : (List GAtom)) (r : ((List GAtom) × Int)) (hf : impl_datumOf list_1 = some r) : CallOK Try.prog 151 .fresh [(.lst 3 (list_1.map encGAtom))] (.tup [(.lst 3 (r.1.map encGAtom)), (.int .i64 r.2)]) := by
 refine CallOK.of_awp mixed Try.func151 fc151 nle ?_; rw [argT_eq]; unfold impl_datumOf at hf; unfold c151; refine (show awp Try.prog true 0 _ (ofL [(0, (.lst 3 (list_1.map encGAtom)))]) [] _ from ?_); refine awp_seq <| w_reg <| s_mov .nil rfl <| s_mov (.int .i64 0) rfl <| w_done <| k_seq <| awp_seq <| awp_seq <| w_reg <| s_mov (.lst 3 (list_1.map encGAtom)) rfl <| s_dof (o_len (enc := encGAtom) rfl) fun hl2 => s_mov (.int .i64 0) rfl <| w_done <| k_seq <| ?_
 obtain ⟨p32, hb1, hf⟩ := ob hf
 refine awp_cutx (X := {q : Unit // p32 = .go q}) (fun q => ([(0, (.lst 3 (list_1.map encGAtom)))], [])) ?_ ?_
 ·refine awp_loop (X := {q : Nat // impl_datumOf_L1 list_1 (list_1.drop q)  = some p32}) (fun q => ([(0, (.lst 3 (list_1.map encGAtom))), (7, (.lst 3 (list_1.map encGAtom))), (8, (.int .i64 (list_1.length : Int))), (9, (.int .i64 (q.1 : Int)))], [])) (fun q => list_1.length - q.1) ⟨0, hb1⟩ ⟨[], [], _, _, rfl, rfl, ⟨.refl _, ⟨.refl _, ⟨.refl _, ⟨.refl _, trivial⟩⟩⟩⟩, (.refl _)⟩ ?_
  rintro ⟨s9_22, hc1⟩
  have hc1 : impl_datumOf_L1 list_1 (list_1.drop s9_22)  = some p32 := hc1
  refine (show awp Try.prog true 0 _ (ofL [(0, (.lst 3 (list_1.map encGAtom))), (7, (.lst 3 (list_1.map encGAtom))), (8, (.int .i64 (list_1.length : Int))), (9, (.int .i64 (s9_22 : Int)))]) [] _ from ?_)
  rcases dropc list_1 s9_22 with ⟨hie35, hd38⟩ | ⟨hlt33, x_39, hx34, hd38⟩
  ·rw [hd38, impl_datumOf_L1.eq_1] at hc1
   have hq37 := dlf hie35
   refine awp_seq <| w_reg <| s_q (.bool (decide ((s9_22 : Int) < (list_1.length : Int)))) rfl rfl rfl <| w_done <| k_seq <| awp_seq <| w_condf rfl hq37 <| w_exit <| k_seqx <| k_loopx <| k_blkx <| ?_; obtain rfl := os hc1; exact k_cutn ⟨_, rfl⟩ ⟨[], [], _, _, rfl, rfl, ⟨.refl _, trivial⟩, (.refl _)⟩
  ·rw [hd38, impl_datumOf_L1.eq_2] at hc1
   have hq37 := dlt hlt33
   refine awp_seq <| w_reg <| s_q (.bool (decide ((s9_22 : Int) < (list_1.length : Int)))) rfl rfl rfl <| w_done <| k_seq <| awp_seq <| w_condt rfl hq37 <| w_skip <| k_seq <| awp_seq <| w_blk <| awp_seq <| w_reg <| s_do (o_iaddrn (enc := encGAtom) rfl rfl hx34) <| s_q (encGAtom x_39) rfl nle rfl <| s_do (o_box (j := 0) (c := (.agg [(.int .i64 0), (.int .i64 0), (.str [])])) rfl trivial rfl rfl) <| s_do0 (o_storebox (v := (.agg [(.int .i64 x_39.Kind), (.int .i64 x_39.N), (.str x_39.T)])) (y' := (.agg [(.int .i64 x_39.Kind), (.int .i64 x_39.N), (.str x_39.T)])) rfl rfl rfl trivial ⟨rfl, nle⟩ ⟨⟨rfl, trivial⟩, ⟨⟨rfl, trivial⟩, ⟨⟨rfl, trivial⟩, trivial⟩⟩⟩ rfl) <| w_done <| k_seq <| w_blk <| awp_seq <| w_reg <| ?_
   obtain ⟨r_40, er41, hc1⟩ := ob hc1
   refine s_q (.agg [(.int .i64 x_39.Kind), (.int .i64 x_39.N), (.str x_39.T)]) rfl nle rfl <| s_do (o_call (w_impl_AtomOK _ _ er41) rfl (.refl _) rfl) <| s_q (.bool (!r_40)) rfl trivial rfl <| s_mov (.bool (!r_40)) rfl <| w_done <| k_seq <| ?_
   rcases oi hc1 with ⟨c42, hc1⟩ | ⟨c42, hc1⟩
   ·refine w_condt rfl c42 <| awp_seq <| w_reg <| s_mov .nil rfl <| s_mov (.int .i64 1) rfl <| w_done <| k_seq <| w_ret <| ?_; obtain rfl := os hc1; obtain rfl := os hf; exact r_fresh ⟨trivial, ⟨trivial, trivial⟩⟩ rfl (by decide) (.tup (.cons (.nil _) (.cons (.refl _) .nil)))
   ·refine w_condf rfl (bf c42) <| awp_seq <| w_reg <| ?_
    obtain ⟨x_43, ex44, hc1⟩ := ob hc1
    refine s_q (.ptr 0 0 0) rfl trivial rfl <| s_q (.int .i64 x_39.Kind) rfl nle rfl <| s_mov (.lst 3 (list_1.map encGAtom)) rfl <| s_do (o_iaddr (enc := encGAtom) rfl rfl (idx0 ex44) (idx1 ex44)) <| s_q (.iptr (encGAtom x_43) 0) rfl trivial rfl <| s_q (.int .i64 x_43.Kind) rfl nle rfl <| s_q (.bool (x_39.Kind != x_43.Kind)) rfl rfl rfl <| s_mov (.bool (x_39.Kind != x_43.Kind)) rfl <| w_done <| k_seq <| ?_
    rcases oi hc1 with ⟨c45, hc1⟩ | ⟨c45, hc1⟩
    ·refine w_condt rfl c45 <| awp_seq <| w_reg <| s_mov .nil rfl <| s_mov (.int .i64 9) rfl <| w_done <| k_seq <| w_ret <| ?_; obtain rfl := os hc1; obtain rfl := os hf; exact r_fresh ⟨trivial, ⟨trivial, trivial⟩⟩ rfl (by decide) (.tup (.cons (.nil _) (.cons (.refl _) .nil)))
    ·refine w_condf rfl (bf c45) <| w_skip <| k_blk <| k_blk <| k_seq <| w_reg <| s_q (.int .i64 (w64 ((s9_22 : Int) + 1))) rfl rfl rfl <| s_mov (.int .i64 (w64 ((s9_22 : Int) + 1))) rfl <| w_done <| ?_; exact k_loopn ⟨(s9_22 + 1), hc1⟩ (mul hlt33) ⟨[], [], _, _, rfl, rfl, ⟨.refl _, ⟨.refl _, ⟨.refl _, ⟨.of_eq (congrArg (AV.int _) (w64_incr hlt33 hl2)), trivial⟩⟩⟩⟩, (.refl _)⟩
 ·rintro ⟨_, rfl⟩
  refine awp_seq <| w_reg <| ?_
  obtain ⟨r_46, er47, hf⟩ := ob hf
  refine s_mov (.lst 3 (list_1.map encGAtom)) rfl <| s_do (o_callf (v := (.own 0 0 r_46.length)) (h' := [.row 3 (r_46.map encGAtom)]) (w_impl_setOf _ _ er47) rfl (.refl _) (by simp only [openV, openVs, List.length_map, List.nil_append, List.append_nil, List.cons_append]; rfl)) <| s_mov (.own 0 0 r_46.length) rfl <| w_done <| k_seq <| awp_seq <| awp_seq <| w_reg <| s_mov (.own 0 0 r_46.length) rfl <| s_dof (o_lenown rfl rfl) fun hl48 => s_q (.bool (decide ((r_46.length : Int) > 8))) rfl rfl rfl <| w_done <| k_seq <| ?_
  rcases oi hf with ⟨c49, hf⟩ | ⟨c49, hf⟩
  ·refine w_condt rfl c49 <| awp_seq <| w_reg <| s_mov .nil rfl <| s_mov (.int .i64 6) rfl <| w_done <| k_seq <| w_ret <| ?_; obtain rfl := os hf; exact r_fresh ⟨trivial, ⟨trivial, trivial⟩⟩ rfl (by decide) (.tup (.cons (.nil _) (.cons (.refl _) .nil)))
  ·refine w_condf rfl (bf c49) <| w_skip <| k_seq <| awp_seq <| w_reg <| s_mov (.own 0 0 r_46.length) rfl <| s_mov (.own 0 0 r_46.length) rfl <| s_mov (.int .i64 0) rfl <| w_done <| k_seq <| w_ret <| ?_; obtain rfl := os hf; exact r_fresh ⟨trivial, ⟨trivial, trivial⟩⟩ rfl (by decide) (.tup (.cons (.of_eq (congrArg (AV.lst _) (tk (enc := encGAtom) r_46))) (.cons (.refl _) .nil)))

/- impl.DatumJoin -/
def c60 : ACode :=
 (.seq (.reg (tm 4 (.c .nil) (tm 5 (.c (.int .i64 0)) .done)))
 (.seq (.seq (.reg (tm 7 (.t 0) (tm 8 (.t 1) (tq 9 (.call 150 [(.t 7), (.t 8)]) (tm 6 (.t 9) .done)))))
 (.seq (.reg (tm 10 (.t 6) (tq 11 (.bin .neq (.t 10) (.c (.int .i64 0))) .done)))
 (.cond (.t 11) (.seq (.reg (tm 12 (.t 6) (tm 4 (.c .nil) (tm 5 (.t 12) .done))))
 .ret)
 .skip)))
 (.seq (.reg (tm 13 (.t 0) (tm 14 (.t 1) (tq 15 (.bslice 1 [(.t 13), (.t 14)]) (tq 16 (.call 152 [(.t 15)]) (tq 17 (.call 151 [(.t 16)]) (tq 18 (.extract 0 (.t 17)) (tq 19 (.extract 1 (.t 17)) (tm 4 (.t 18) (tm 5 (.t 19) .done))))))))))
 .ret)))
theorem fc60 : fcomp Try.prog Try.f60 = some (c60.erase, [.mov (.t 4), .mov (.t 5)], 20) := by kernel_rfl
def impl_DatumJoin (a_1 : (List GAtom)) (b_2 : (List GAtom)) : Option ((List GAtom) × Int) :=
    (impl_datumsCode a_1 b_2).bind fun r_3 =>
    if (r_3 != 0) then
    some ([], r_3)
    else
    (slices_Concat_impl_Atom_impl_Atom [a_1, b_2]).bind fun r_6 =>
    (impl_datumOf r_6).bind fun r_8 =>
    some (r_8.1, r_8.2)
theorem w_impl_DatumJoin (a_1 : (List GAtom)) (b_2 : (List GAtom)) (r : ((List GAtom) × Int)) (hf : impl_DatumJoin a_1 b_2 = some r) : CallOK Try.prog 60 .weak [(.lst 3 (a_1.map encGAtom)), (.lst 3 (b_2.map encGAtom))] (.tup [(.lst 3 (r.1.map encGAtom)), (.int .i64 r.2)]) := by
 refine CallOK.of_awp mixed Try.func60 fc60 nle ?_; rw [argT_eq]; unfold impl_DatumJoin at hf; unfold c60; refine (show awp Try.prog false 0 _ (ofL [(0, (.lst 3 (a_1.map encGAtom))), (1, (.lst 3 (b_2.map encGAtom)))]) [] _ from ?_); refine awp_seq <| w_reg <| s_mov .nil rfl <| s_mov (.int .i64 0) rfl <| w_done <| k_seq <| awp_seq <| awp_seq <| w_reg <| ?_
 obtain ⟨r_3, er4, hf⟩ := ob hf
 refine s_mov (.lst 3 (a_1.map encGAtom)) rfl <| s_mov (.lst 3 (b_2.map encGAtom)) rfl <| s_do (o_call (w_impl_datumsCode _ _ _ er4) rfl (.refl _) rfl) <| s_mov (.int .i64 r_3) rfl <| w_done <| k_seq <| awp_seq <| w_reg <| s_mov (.int .i64 r_3) rfl <| s_q (.bool (r_3 != 0)) rfl rfl rfl <| w_done <| k_seq <| ?_
 rcases oi hf with ⟨c5, hf⟩ | ⟨c5, hf⟩
 ·refine w_condt rfl c5 <| awp_seq <| w_reg <| s_mov (.int .i64 r_3) rfl <| s_mov .nil rfl <| s_mov (.int .i64 r_3) rfl <| w_done <| k_seq <| w_ret <| ?_; obtain rfl := os hf; exact r_weak ⟨trivial, ⟨trivial, trivial⟩⟩ rfl (.tup (.cons (.nil _) (.cons (.refl _) .nil)))
 ·refine w_condf rfl (bf c5) <| w_skip <| k_seq <| awp_seq <| w_reg <| ?_
  obtain ⟨r_6, er7, hf⟩ := ob hf
  obtain ⟨r_8, er9, hf⟩ := ob hf
  refine s_mov (.lst 3 (a_1.map encGAtom)) rfl <| s_mov (.lst 3 (b_2.map encGAtom)) rfl <| ?_; refine s_do (o_bslice (j := 0) (as' := [(.lst 3 (a_1.map encGAtom)), (.lst 3 (b_2.map encGAtom))]) rfl (fun _ => by decide) ⟨rfl, ⟨rfl, trivial⟩⟩ (.refl _) rfl rfl rfl) ?_; refine s_do (o_callc rfl (w_slices_Concat_impl_Atom_impl_Atom _ _ er7) rfl (.cons (.of_eq (congrArg (AV.lst _) (by rfl))) .nil) rfl) <| s_do (o_callc rfl (w_impl_datumOf _ _ er9) rfl (.refl _) rfl) <| s_q (.lst 3 (r_8.1.map encGAtom)) rfl nle rfl <| s_q (.int .i64 r_8.2) rfl nle rfl <| s_mov (.lst 3 (r_8.1.map encGAtom)) rfl <| s_mov (.int .i64 r_8.2) rfl <| w_done <| k_seq <| w_ret <| ?_; obtain rfl := os hf; exact r_weak ⟨trivial, ⟨trivial, trivial⟩⟩ rfl (.refl _)

/- impl.DatumLess -/
def c61 : ACode :=
 (.seq (.reg (tm 4 (.c .nil) (tm 5 (.c (.int .i64 0)) .done)))
 (.seq (.seq (.reg (tm 7 (.t 0) (tm 8 (.t 1) (tq 9 (.call 150 [(.t 7), (.t 8)]) (tm 6 (.t 9) .done)))))
 (.seq (.reg (tm 10 (.t 6) (tq 11 (.bin .neq (.t 10) (.c (.int .i64 0))) .done)))
 (.cond (.t 11) (.seq (.reg (tm 12 (.t 6) (tm 4 (.c .nil) (tm 5 (.t 12) .done))))
 .ret)
 .skip)))
 (.seq (.reg (tm 13 (.t 0) (tm 14 (.t 1) (tq 15 (.call 153 [(.t 13), (.t 14)]) (tm 4 (.t 15) (tm 5 (.c (.int .i64 0)) .done))))))
 .ret)))
theorem fc61 : fcomp Try.prog Try.f61 = some (c61.erase, [.mov (.t 4), .mov (.t 5)], 16) := by kernel_rfl
def impl_DatumLess (a_1 : (List GAtom)) (b_2 : (List GAtom)) : Option ((List GAtom) × Int) :=
    (impl_datumsCode a_1 b_2).bind fun r_3 =>
    if (r_3 != 0) then
    some ([], r_3)
    else
    (impl_less a_1 b_2).bind fun r_6 =>
    some (r_6, 0)
theorem w_impl_DatumLess (a_1 : (List GAtom)) (b_2 : (List GAtom)) (r : ((List GAtom) × Int)) (hf : impl_DatumLess a_1 b_2 = some r) : CallOK Try.prog 61 .fresh [(.lst 3 (a_1.map encGAtom)), (.lst 3 (b_2.map encGAtom))] (.tup [(.lst 3 (r.1.map encGAtom)), (.int .i64 r.2)]) := by
 refine CallOK.of_awp mixed Try.func61 fc61 nle ?_; rw [argT_eq]; unfold impl_DatumLess at hf; unfold c61; refine (show awp Try.prog true 0 _ (ofL [(0, (.lst 3 (a_1.map encGAtom))), (1, (.lst 3 (b_2.map encGAtom)))]) [] _ from ?_); refine awp_seq <| w_reg <| s_mov .nil rfl <| s_mov (.int .i64 0) rfl <| w_done <| k_seq <| awp_seq <| awp_seq <| w_reg <| ?_
 obtain ⟨r_3, er4, hf⟩ := ob hf
 refine s_mov (.lst 3 (a_1.map encGAtom)) rfl <| s_mov (.lst 3 (b_2.map encGAtom)) rfl <| s_do (o_call (w_impl_datumsCode _ _ _ er4) rfl (.refl _) rfl) <| s_mov (.int .i64 r_3) rfl <| w_done <| k_seq <| awp_seq <| w_reg <| s_mov (.int .i64 r_3) rfl <| s_q (.bool (r_3 != 0)) rfl rfl rfl <| w_done <| k_seq <| ?_
 rcases oi hf with ⟨c5, hf⟩ | ⟨c5, hf⟩
 ·refine w_condt rfl c5 <| awp_seq <| w_reg <| s_mov (.int .i64 r_3) rfl <| s_mov .nil rfl <| s_mov (.int .i64 r_3) rfl <| w_done <| k_seq <| w_ret <| ?_; obtain rfl := os hf; exact r_fresh ⟨trivial, ⟨trivial, trivial⟩⟩ rfl (by decide) (.tup (.cons (.nil _) (.cons (.refl _) .nil)))
 ·refine w_condf rfl (bf c5) <| w_skip <| k_seq <| awp_seq <| w_reg <| ?_
  obtain ⟨r_6, er7, hf⟩ := ob hf
  refine s_mov (.lst 3 (a_1.map encGAtom)) rfl <| s_mov (.lst 3 (b_2.map encGAtom)) rfl <| s_do (o_callf (v := (.own 0 0 r_6.length)) (h' := [.row 3 (r_6.map encGAtom)]) (w_impl_less _ _ _ er7) rfl (.refl _) (by simp only [openV, openVs, List.length_map, List.nil_append, List.append_nil, List.cons_append]; rfl)) <| s_mov (.own 0 0 r_6.length) rfl <| s_mov (.int .i64 0) rfl <| w_done <| k_seq <| w_ret <| ?_; obtain rfl := os hf; exact r_fresh ⟨trivial, ⟨trivial, trivial⟩⟩ rfl (by decide) (.tup (.cons (.of_eq (congrArg (AV.lst _) (tk (enc := encGAtom) r_6))) (.cons (.refl _) .nil)))

/- laws.at -/
def c26 : ACode :=
 (.seq (.reg (tm 6 (.c (.int .i64 0)) .done))
 (.seq (.seq (.reg (tm 7 (.t 2) (tq 8 (.bin .leq (.t 7) (.c (.int .i64 1))) .done)))
 (.cond (.t 8) (.seq (.reg (tm 6 (.c (.int .i64 0)) .done))
 .ret)
 .skip))
 (.seq (.seq (.reg (tm 9 (.t 0) (tq 10 (.len (.t 9)) (tq 11 (.bin .eql (.t 10) (.c (.int .i64 0))) .done))))
 (.cond (.t 11) (.seq (.reg (tm 12 (.t 1) (tq 13 (.bin .mul (.t 12) (.c (.int .i64 7))) (tm 14 (.t 2) (tq 15 (.bin .rem (.t 13) (.t 14)) (tm 6 (.t 15) .done))))))
 .ret)
 .skip))
 (.seq (.reg (tm 16 (.t 0) (tm 17 (.t 1) (tm 18 (.t 0) (tq 19 (.len (.t 18)) (tq 20 (.bin .rem (.t 17) (.t 19)) (tq 21 (.iaddr 1 (.t 16) (.t 20)) (tq 22 (.load 1 false (.t 21)) (tq 23 (.convI .i64 (.t 22)) (tq 24 (.bin .mul (.t 23) (.c (.int .i64 31))) (tm 25 (.t 0) (tm 26 (.t 1) (tq 27 (.bin .add (.t 26) (.c (.int .i64 1))) (tm 28 (.t 0) (tq 29 (.len (.t 28)) (tq 30 (.bin .rem (.t 27) (.t 29)) (tq 31 (.iaddr 1 (.t 25) (.t 30)) (tq 32 (.load 1 false (.t 31)) (tq 33 (.convI .i64 (.t 32)) (tq 34 (.bin .add (.t 24) (.t 33)) (tm 35 (.t 1) (tm 36 (.t 0) (tq 37 (.len (.t 36)) (tq 38 (.bin .quo (.t 35) (.t 37)) (tq 39 (.bin .add (.t 34) (.t 38)) (tm 40 (.t 2) (tq 41 (.bin .rem (.t 39) (.t 40)) (tm 6 (.t 41) .done))))))))))))))))))))))))))))
 .ret))))
theorem fc26 : fcomp Try.prog Try.f26 = some (c26.erase, [.mov (.t 6)], 42) := by kernel_rfl
def laws_at (more_1 : (List Int)) (i_2 : Int) (n_3 : Int) : Option Int :=
    if (decide (n_3 ≤ 1)) then
    some 0
    else
    if ((more_1.length : Int) == 0) then
    if n_3 ≠ 0 then
    some ((w64 (i_2 * 7)).tmod n_3)
    else none
    else
    if (more_1.length : Int) ≠ 0 then
    (idx more_1 (i_2.tmod (more_1.length : Int))).bind fun x_10 =>
    if (more_1.length : Int) ≠ 0 then
    (idx more_1 ((w64 (i_2 + 1)).tmod (more_1.length : Int))).bind fun x_14 =>
    if (more_1.length : Int) ≠ 0 then
    if n_3 ≠ 0 then
    some ((w64 ((w64 ((w64 ((w64 x_10) * 31)) + (w64 x_14))) + (w64 (i_2.tdiv (more_1.length : Int))))).tmod n_3)
    else none
    else none
    else none
    else none
theorem w_laws_at (more_1 : (List Int)) (i_2 : Int) (n_3 : Int) (r : Int) (hf : laws_at more_1 i_2 n_3 = some r) : CallOK Try.prog 26 .flat [(.lst 1 (more_1.map enc_u8)), (.int .i64 i_2), (.int .i64 n_3)] (.int .i64 r) := by
 refine CallOK.of_awp mixed Try.func26 fc26 nle ?_; rw [argT_eq]; unfold laws_at at hf; unfold c26; refine (show awp Try.prog false 0 _ (ofL [(0, (.lst 1 (more_1.map enc_u8))), (1, (.int .i64 i_2)), (2, (.int .i64 n_3))]) [] _ from ?_); refine awp_seq <| w_reg <| s_mov (.int .i64 0) rfl <| w_done <| k_seq <| awp_seq <| awp_seq <| w_reg <| s_mov (.int .i64 n_3) rfl <| s_q (.bool (decide (n_3 ≤ 1))) rfl rfl rfl <| w_done <| k_seq <| ?_
 rcases oi hf with ⟨c4, hf⟩ | ⟨c4, hf⟩
 ·refine w_condt rfl c4 <| awp_seq <| w_reg <| s_mov (.int .i64 0) rfl <| w_done <| k_seq <| w_ret <| ?_; obtain rfl := os hf; exact r_flat ⟨trivial, trivial⟩ rfl (.refl _)
 ·refine w_condf rfl (bf c4) <| w_skip <| k_seq <| awp_seq <| awp_seq <| w_reg <| s_mov (.lst 1 (more_1.map enc_u8)) rfl <| s_dof (o_len (enc := enc_u8) rfl) fun hl5 => s_q (.bool ((more_1.length : Int) == 0)) rfl rfl rfl <| w_done <| k_seq <| ?_
  rcases oi hf with ⟨c6, hf⟩ | ⟨c6, hf⟩
  ·refine w_condt rfl c6 <| awp_seq <| w_reg <| ?_
   obtain ⟨g7, hf⟩ := og hf
   refine s_mov (.int .i64 i_2) rfl <| s_q (.int .i64 (w64 (i_2 * 7))) rfl rfl rfl <| s_mov (.int .i64 n_3) rfl <| s_q (.int .i64 ((w64 (i_2 * 7)).tmod n_3)) rfl ⟨rfl, g7⟩ rfl <| s_mov (.int .i64 ((w64 (i_2 * 7)).tmod n_3)) rfl <| w_done <| k_seq <| w_ret <| ?_; obtain rfl := os hf; exact r_flat ⟨trivial, trivial⟩ rfl (.refl _)
  ·refine w_condf rfl (bf c6) <| w_skip <| k_seq <| awp_seq <| w_reg <| s_mov (.lst 1 (more_1.map enc_u8)) rfl <| s_mov (.int .i64 i_2) rfl <| s_mov (.lst 1 (more_1.map enc_u8)) rfl <| s_dof (o_len (enc := enc_u8) rfl) fun hl8 => ?_
   obtain ⟨g9, hf⟩ := og hf
   refine s_q (.int .i64 (i_2.tmod (more_1.length : Int))) rfl ⟨rfl, g9⟩ rfl ?_
   obtain ⟨x_10, ex11, hf⟩ := ob hf
   refine s_do (o_iaddr (enc := enc_u8) rfl rfl (idx0 ex11) (idx1 ex11)) <| s_q (.int .u8 x_10) rfl ⟨rfl, rfl⟩ rfl <| s_q (.int .i64 (w64 x_10)) rfl trivial rfl <| s_q (.int .i64 (w64 ((w64 x_10) * 31))) rfl rfl rfl <| s_mov (.lst 1 (more_1.map enc_u8)) rfl <| s_mov (.int .i64 i_2) rfl <| s_q (.int .i64 (w64 (i_2 + 1))) rfl rfl rfl <| s_mov (.lst 1 (more_1.map enc_u8)) rfl <| s_dof (o_len (enc := enc_u8) rfl) fun hl12 => ?_
   obtain ⟨g13, hf⟩ := og hf
   refine s_q (.int .i64 ((w64 (i_2 + 1)).tmod (more_1.length : Int))) rfl ⟨rfl, g13⟩ rfl ?_
   obtain ⟨x_14, ex15, hf⟩ := ob hf
   refine s_do (o_iaddr (enc := enc_u8) rfl rfl (idx0 ex15) (idx1 ex15)) <| s_q (.int .u8 x_14) rfl ⟨rfl, rfl⟩ rfl <| s_q (.int .i64 (w64 x_14)) rfl trivial rfl <| s_q (.int .i64 (w64 ((w64 ((w64 x_10) * 31)) + (w64 x_14)))) rfl rfl rfl <| s_mov (.int .i64 i_2) rfl <| s_mov (.lst 1 (more_1.map enc_u8)) rfl <| s_dof (o_len (enc := enc_u8) rfl) fun hl16 => ?_
   obtain ⟨g17, hf⟩ := og hf
   refine s_q (.int .i64 (w64 (i_2.tdiv (more_1.length : Int)))) rfl ⟨rfl, g17⟩ rfl <| s_q (.int .i64 (w64 ((w64 ((w64 ((w64 x_10) * 31)) + (w64 x_14))) + (w64 (i_2.tdiv (more_1.length : Int)))))) rfl rfl rfl <| s_mov (.int .i64 n_3) rfl <| ?_
   obtain ⟨g18, hf⟩ := og hf
   refine s_q (.int .i64 ((w64 ((w64 ((w64 ((w64 x_10) * 31)) + (w64 x_14))) + (w64 (i_2.tdiv (more_1.length : Int))))).tmod n_3)) rfl ⟨rfl, g18⟩ rfl <| s_mov (.int .i64 ((w64 ((w64 ((w64 ((w64 x_10) * 31)) + (w64 x_14))) + (w64 (i_2.tdiv (more_1.length : Int))))).tmod n_3)) rfl <| w_done <| k_seq <| w_ret <| ?_; obtain rfl := os hf; exact r_flat ⟨trivial, trivial⟩ rfl (.refl _)

/- laws.sameDatum -/
def c62 : ACode :=
 (.seq (.reg (tm 4 (.c (.bool false)) .done))
 (.seq (.seq (.reg (tm 6 (.t 0) (tq 7 (.len (.t 6)) (tm 8 (.t 1) (tq 9 (.len (.t 8)) (tq 10 (.bin .neq (.t 7) (.t 9)) .done))))))
 (.cond (.t 10) (.seq (.reg (tm 4 (.c (.bool false)) .done))
 .ret)
 .skip))
 (.seq (.seq (.reg (tm 5 (.c (.int .i64 0)) .done))
 (.block 0 (.loop (.seq (.seq (.reg (tm 11 (.t 5) (tm 12 (.t 0) (tq 13 (.len (.t 12)) (tq 14 (.bin .lss (.t 11) (.t 13)) .done)))))
 (.cond (.t 14) .skip
 (.exit 0)))
 (.seq (.block 1 (.seq (.reg (tm 17 (.t 0) (tm 18 (.t 5) (tq 19 (.iaddr 3 (.t 17) (.t 18)) (tq 20 (.load 3 true (.t 19)) (tm 21 (.t 1) (tm 22 (.t 5) (tq 23 (.iaddr 3 (.t 21) (.t 22)) (tq 24 (.load 3 true (.t 23)) (tq 25 (.eqs true [0, 0, 2] (.t 20) (.t 24)) .done))))))))))
 (.cond (.t 25) (.seq (.reg (tm 4 (.c (.bool false)) .done))
 .ret)
 .skip)))
 (.reg (tm 15 (.t 5) (tq 16 (.bin .add (.t 15) (.c (.int .i64 1))) (tm 5 (.t 16) .done)))))))))
 (.cut (.seq (.reg (tm 4 (.c (.bool true)) .done))
 .ret)))))
theorem fc62 : fcomp Try.prog Try.f62 = some (c62.erase, [.mov (.t 4)], 26) := by kernel_rfl
def laws_sameDatum_L1 (b_2 : (List GAtom)) : List GAtom → Nat → Option (Fl Bool Unit)
  | [], i_21 =>
    some (.go ())
  | x_37 :: xs, i_21 =>
    (idx b_2 (i_21 : Int)).bind fun x_40 =>
    if (!(x_37.Kind == x_40.Kind && (x_37.N == x_40.N && (x_37.T == x_40.T && true)))) then
    some (.ret false)
    else
    laws_sameDatum_L1 b_2 xs (i_21 + 1)

def laws_sameDatum (a_1 : (List GAtom)) (b_2 : (List GAtom)) : Option Bool :=
    if ((a_1.length : Int) != (b_2.length : Int)) then
    some false
    else
    (laws_sameDatum_L1 b_2 a_1 0).bind fun q => (match q with
    | .ret r => some r
    | .go _ =>
    some true)
theorem w_laws_sameDatum (a_1 : (List GAtom)) (b_2 : (List GAtom)) (r : Bool) (hf : laws_sameDatum a_1 b_2 = some r) : CallOK Try.prog 62 .flat [(.lst 3 (a_1.map encGAtom)), (.lst 3 (b_2.map encGAtom))] (.bool r) := by
 refine CallOK.of_awp mixed Try.func62 fc62 nle ?_; rw [argT_eq]; unfold laws_sameDatum at hf; unfold c62; refine (show awp Try.prog false 0 _ (ofL [(0, (.lst 3 (a_1.map encGAtom))), (1, (.lst 3 (b_2.map encGAtom)))]) [] _ from ?_); refine awp_seq <| w_reg <| s_mov (.bool false) rfl <| w_done <| k_seq <| awp_seq <| awp_seq <| w_reg <| s_mov (.lst 3 (a_1.map encGAtom)) rfl <| s_dof (o_len (enc := encGAtom) rfl) fun hl3 => s_mov (.lst 3 (b_2.map encGAtom)) rfl <| s_dof (o_len (enc := encGAtom) rfl) fun hl4 => s_q (.bool ((a_1.length : Int) != (b_2.length : Int))) rfl rfl rfl <| w_done <| k_seq <| ?_
 rcases oi hf with ⟨c5, hf⟩ | ⟨c5, hf⟩
 ·refine w_condt rfl c5 <| awp_seq <| w_reg <| s_mov (.bool false) rfl <| w_done <| k_seq <| w_ret <| ?_; obtain rfl := os hf; exact r_flat ⟨trivial, trivial⟩ rfl (.refl _)
 ·refine w_condf rfl (bf c5) <| w_skip <| k_seq <| awp_seq <| awp_seq <| w_reg <| s_mov (.int .i64 0) rfl <| w_done <| k_seq <| ?_
  obtain ⟨p30, hb1, hf⟩ := ob hf
  refine awp_cutx (X := {q : Unit // p30 = .go q}) (fun q => ([], [])) ?_ ?_
  ·refine awp_loop (X := {q : Nat // laws_sameDatum_L1 b_2 (a_1.drop q) q = some p30}) (fun q => ([(0, (.lst 3 (a_1.map encGAtom))), (1, (.lst 3 (b_2.map encGAtom))), (5, (.int .i64 (q.1 : Int)))], [])) (fun q => a_1.length - q.1) ⟨0, hb1⟩ ⟨[], [], _, _, rfl, rfl, ⟨.refl _, ⟨.refl _, ⟨.refl _, trivial⟩⟩⟩, (.refl _)⟩ ?_
   rintro ⟨i_21, hc1⟩
   have hc1 : laws_sameDatum_L1 b_2 (a_1.drop i_21) i_21 = some p30 := hc1
   refine (show awp Try.prog false 0 _ (ofL [(0, (.lst 3 (a_1.map encGAtom))), (1, (.lst 3 (b_2.map encGAtom))), (5, (.int .i64 (i_21 : Int)))]) [] _ from ?_)
   rcases dropc a_1 i_21 with ⟨hie33, hd36⟩ | ⟨hlt31, x_37, hx32, hd36⟩
   ·rw [hd36, laws_sameDatum_L1.eq_1] at hc1
    have hq35 := dlf hie33
    refine awp_seq <| awp_seq <| w_reg <| s_mov (.int .i64 (i_21 : Int)) rfl <| s_mov (.lst 3 (a_1.map encGAtom)) rfl <| s_dof (o_len (enc := encGAtom) rfl) fun hl38 => s_q (.bool (decide ((i_21 : Int) < (a_1.length : Int)))) rfl rfl rfl <| w_done <| k_seq <| w_condf rfl hq35 <| w_exit <| k_seqx <| k_loopx <| k_blkx <| ?_; obtain rfl := os hc1; exact k_cutn ⟨_, rfl⟩ ⟨[], [], _, _, rfl, rfl, trivial, (.refl _)⟩
   ·rw [hd36, laws_sameDatum_L1.eq_2] at hc1
    have hq35 := dlt hlt31
    refine awp_seq <| awp_seq <| w_reg <| s_mov (.int .i64 (i_21 : Int)) rfl <| s_mov (.lst 3 (a_1.map encGAtom)) rfl <| s_dof (o_len (enc := encGAtom) rfl) fun hl39 => s_q (.bool (decide ((i_21 : Int) < (a_1.length : Int)))) rfl rfl rfl <| w_done <| k_seq <| w_condt rfl hq35 <| w_skip <| k_seq <| awp_seq <| w_blk <| awp_seq <| w_reg <| ?_
    obtain ⟨x_40, ex41, hc1⟩ := ob hc1
    refine s_mov (.lst 3 (a_1.map encGAtom)) rfl <| s_mov (.int .i64 (i_21 : Int)) rfl <| s_do (o_iaddrn (enc := encGAtom) rfl rfl hx32) <| s_q (encGAtom x_37) rfl nle rfl <| s_mov (.lst 3 (b_2.map encGAtom)) rfl <| s_mov (.int .i64 (i_21 : Int)) rfl <| s_do (o_iaddr (enc := encGAtom) rfl rfl (idx0 ex41) (idx1 ex41)) <| s_q (encGAtom x_40) rfl nle rfl <| s_q (.bool (!(x_37.Kind == x_40.Kind && (x_37.N == x_40.N && (x_37.T == x_40.T && true))))) rfl ⟨⟨rfl, rfl⟩, ⟨⟨rfl, rfl⟩, ⟨rfl, trivial⟩⟩⟩ rfl <| w_done <| k_seq <| ?_
    rcases oi hc1 with ⟨c42, hc1⟩ | ⟨c42, hc1⟩
    ·refine w_condt rfl c42 <| awp_seq <| w_reg <| s_mov (.bool false) rfl <| w_done <| k_seq <| w_ret <| ?_; obtain rfl := os hc1; obtain rfl := os hf; exact r_flat ⟨trivial, trivial⟩ rfl (.refl _)
    ·refine w_condf rfl (bf c42) <| w_skip <| k_blk <| k_seq <| w_reg <| s_mov (.int .i64 (i_21 : Int)) rfl <| s_q (.int .i64 (w64 ((i_21 : Int) + 1))) rfl rfl rfl <| s_mov (.int .i64 (w64 ((i_21 : Int) + 1))) rfl <| w_done <| ?_; exact k_loopn ⟨(i_21 + 1), hc1⟩ (mul hlt31) ⟨[], [], _, _, rfl, rfl, ⟨.refl _, ⟨.refl _, ⟨.of_eq (congrArg (AV.int _) (w64_incr hlt31 hl39)), trivial⟩⟩⟩, (.refl _)⟩
  ·rintro ⟨_, rfl⟩
   refine awp_seq <| w_reg <| s_mov (.bool true) rfl <| w_done <| k_seq <| w_ret <| ?_; obtain rfl := os hf; exact r_flat ⟨trivial, trivial⟩ rfl (.refl _)

end Go.R
