/- Walks. -/
import Derived.Test.YtgmkibkmcohikaaFF1
set_option linter.all false
namespace Go.R
open Go Go.Proofs
set_option linter.unusedVariables false
set_option linter.unusedSimpArgs false
set_option maxHeartbeats 8000000
/- impl.copyJson -/
def c103 : ACode :=
 (.seq (.reg (.q ⟨(some 1), none, .box 5 (.t 0)⟩
 (.q ⟨(some 2), none, .box 5 (.c (.agg [(.int .i64 0), (.int .i64 0), (.str []), .nil, .nil]))⟩
 .done)))
 (.seq (.reg (.q ⟨(some 6), none, .faddr 3 (.t 1)⟩
 (.q ⟨(some 7), none, .load 1 false (.t 6)⟩
 (.q ⟨(some 8), none, .call 166 [(.t 7)]⟩
 (.q ⟨(some 9), none, .faddr 3 (.t 1)⟩
 (.q ⟨none, none, .store 1 (.t 9) (.t 8)⟩
 .done))))))
 (.seq (.reg (.q ⟨(some 10), none, .bslice 5 []⟩
 (.q ⟨(some 3), none, .mov (.t 10)⟩
 .done)))
 (.seq (.seq (.reg (.q ⟨(some 11), none, .faddr 4 (.t 1)⟩
 (.q ⟨(some 12), none, .load 1 false (.t 11)⟩
 (.q ⟨(some 13), none, .len (.t 12)⟩
 (.q ⟨(some 14), none, .mov (.c (.int .i64 0))⟩
 .done)))))
 (.block 0 (.loop (.seq (.reg (.q ⟨(some 15), none, .bin .lss (.t 14) (.t 13)⟩
 .done))
 (.seq (.cond (.t 15) .skip
 (.exit 0))
 (.seq (.block 1 (.seq (.reg (.q ⟨(some 16), none, .iaddr 5 (.t 12) (.t 14)⟩
 (.q ⟨(some 17), none, .load 5 true (.t 16)⟩
 (.q ⟨(some 5), none, .box 5 (.c (.agg [(.int .i64 0), (.int .i64 0), (.str []), .nil, .nil]))⟩
 (.q ⟨none, none, .store 5 (.t 5) (.t 17)⟩
 .done)))))
 (.reg (.q ⟨(some 18), none, .mov (.t 3)⟩
 (.q ⟨(some 19), none, .load 5 true (.t 5)⟩
 (.q ⟨(some 20), none, .call 103 [(.t 19)]⟩
 (.q ⟨(some 21), none, .bslice 5 [(.t 20)]⟩
 (.q ⟨(some 22), none, .append 5 80 (.t 18) (.t 21)⟩
 (.q ⟨(some 3), none, .mov (.t 22)⟩
 .done)))))))))
 (.reg (.q ⟨(some 23), none, .bin .add (.t 14) (.c (.int .i64 1))⟩
 (.q ⟨(some 14), none, .mov (.t 23)⟩
 .done)))))))))
 (.cut (.seq (.seq (.reg (.q ⟨(some 24), none, .faddr 4 (.t 1)⟩
 (.q ⟨none, none, .store 1 (.t 24) (.c .nil)⟩
 .done)))
 (.seq (.reg (.q ⟨(some 25), none, .mov (.t 3)⟩
 (.q ⟨(some 26), none, .len (.t 25)⟩
 (.q ⟨(some 27), none, .bin .gtr (.t 26) (.c (.int .i64 0))⟩
 .done))))
 (.cond (.t 27) (.reg (.q ⟨(some 28), none, .mov (.t 3)⟩
 (.q ⟨(some 29), none, .faddr 4 (.t 1)⟩
 (.q ⟨none, none, .store 1 (.t 29) (.t 28)⟩
 .done))))
 .skip)))
 (.seq (.reg (.q ⟨(some 30), none, .load 5 true (.t 1)⟩
 (.q ⟨none, none, .store 5 (.t 2) (.t 30)⟩
 .done)))
 .ret)))))))
theorem fc103 : fcomp Try.prog Try.f103 = some (c103.erase, [.load 5 true (.t 2)], 31) := by kernel_rfl
def impl_copyJson_B_L1 (rec : (GJson → Option GJson)) : List GJson → (List GJson) → Option (List GJson)
  | [], items_20 =>
    some items_20
  | x_35 :: xs, items_20 =>
    (rec x_35).bind fun r_36 =>
    if (items_20 ++ [r_36]).length ≤ 2 ^ 30 then
    impl_copyJson_B_L1 rec xs  (items_20 ++ [r_36])
    else none

def impl_copyJson_B (rec : (GJson → Option GJson)) (j_1 : GJson) : Option GJson :=
    (slices_Clone_string_string j_1.Keys).bind fun r_2 =>
    (impl_copyJson_B_L1 rec j_1.Items []).bind fun items_27 =>
    if (decide ((items_27.length : Int) > 0)) then
    some (⟨j_1.Kind, j_1.N, j_1.T, r_2, items_27⟩ : GJson)
    else
    some (⟨j_1.Kind, j_1.N, j_1.T, r_2, []⟩ : GJson)
theorem w_impl_copyJson_B (rec : (GJson → Option GJson)) (hrec : ∀ a0 r, rec a0 = some r → CallOK Try.prog 103 .fresh [(encGJson a0)] (encGJson r)) (j_1 : GJson) (r : GJson) (hf : impl_copyJson_B rec j_1 = some r) : CallOK Try.prog 103 .fresh [(encGJson j_1)] (encGJson r) := by
  refine CallOK.of_awp mixed Try.func103 fc103 nle ?_
  rw [argT_eq]
  rw [encGJson_eq j_1]
  unfold impl_copyJson_B at hf
  unfold c103
  refine (show awp Try.prog true 0 _ (ofL [(0, (.agg [(.int .i64 j_1.Kind), (.int .i64 j_1.N), (.str j_1.T), (.lst 1 (j_1.Keys.map AV.str)), (.lst 5 (j_1.Items.map encGJson))]))]) [] _ from ?_)
  refine awp_seq ?_
  refine w_reg ?_
  refine s_do (o_box (j := 0) (c := (.agg [(.int .i64 j_1.Kind), (.int .i64 j_1.N), (.str j_1.T), (.lst 1 (j_1.Keys.map AV.str)), (.lst 5 (j_1.Items.map encGJson))])) rfl trivial rfl rfl) ?_
  refine s_do (o_box (j := 1) (c := (.agg [(.int .i64 0), (.int .i64 0), (.str []), .nil, .nil])) rfl trivial rfl rfl) ?_
  refine w_done ?_
  refine k_seq ?_
  refine awp_seq ?_
  refine w_reg ?_
  obtain ⟨r_2, er3, hf⟩ := ob hf
  refine s_do (o_q (.ptr 0 0 3) rfl trivial rfl) ?_
  refine s_do (o_q (.lst 1 (j_1.Keys.map AV.str)) rfl nle rfl) ?_
  refine s_do (o_callf (v := (.own 2 0 r_2.length)) (h' := [.row 1 (r_2.map AV.str)]) (w_slices_Clone_string_string _ _ er3) rfl (.refl _) (by simp only [openV, openVs, List.length_map, List.nil_append, List.append_nil, List.cons_append]; rfl)) ?_
  refine s_do (o_q (.ptr 0 0 3) rfl trivial rfl) ?_
  refine s_do0 (o_storebox (v := (.own 2 0 r_2.length)) (y' := (.agg [(.int .i64 j_1.Kind), (.int .i64 j_1.N), (.str j_1.T), (.own 2 0 r_2.length), (.lst 5 (j_1.Items.map encGJson))])) rfl rfl rfl trivial ⟨rfl, nle⟩ ⟨⟨rfl, trivial⟩, trivial⟩ rfl) ?_
  refine w_done ?_
  refine k_seq ?_
  refine awp_seq ?_
  refine w_reg ?_
  refine s_do (o_bslice (j := 3) (as' := []) rfl (fun _ => by decide) trivial (.refl _) rfl rfl rfl) ?_
  refine s_do (o_mov (.own 3 0 0) rfl) ?_
  refine w_done ?_
  refine k_seq ?_
  refine awp_seq ?_
  refine awp_seq ?_
  refine w_reg ?_
  refine s_do (o_q (.ptr 0 0 4) rfl trivial rfl) ?_
  refine s_do (o_q (.lst 5 (j_1.Items.map encGJson)) rfl nle rfl) ?_
  refine s_dof (o_len (enc := encGJson) rfl) fun hl4 => ?_
  refine s_do (o_mov (.int .i64 0) rfl) ?_
  refine w_done ?_
  refine k_seq ?_
  obtain ⟨items_27, hb1, hf⟩ := ob hf
  refine awp_cut ([(1, (.ptr 0 0 0)), (2, (.ptr 1 0 0)), (3, (.own 2 0 items_27.length))], [.box 5 (.agg [(.int .i64 j_1.Kind), (.int .i64 j_1.N), (.str j_1.T), (.own 3 0 r_2.length), (.lst 5 (j_1.Items.map encGJson))]), .box 5 (.agg [(.int .i64 0), (.int .i64 0), (.str []), .nil, .nil]), .row 5 (items_27.map encGJson), .row 1 (r_2.map AV.str)]) ?_ ?_
  · refine awp_loop (X := {q : (Nat × (List GJson)) // impl_copyJson_B_L1 rec (j_1.Items.drop q.1) q.2 = some items_27}) (fun q => ([(1, (.ptr 0 0 0)), (2, (.ptr 1 0 0)), (3, (.own 2 0 q.1.2.length)), (12, (.lst 5 (j_1.Items.map encGJson))), (13, (.int .i64 (j_1.Items.length : Int))), (14, (.int .i64 (q.1.1 : Int)))], [.box 5 (.agg [(.int .i64 j_1.Kind), (.int .i64 j_1.N), (.str j_1.T), (.own 3 0 r_2.length), (.lst 5 (j_1.Items.map encGJson))]), .box 5 (.agg [(.int .i64 0), (.int .i64 0), (.str []), .nil, .nil]), .row 5 (q.1.2.map encGJson), .row 1 (r_2.map AV.str)])) (fun q => j_1.Items.length - q.1.1) ⟨(0, []), hb1⟩ ⟨[], [0, 1, 3, 2], _, _, rfl, rfl, ⟨.refl _, ⟨.refl _, ⟨.of_eq (congrArg (AV.own _ 0) (by simp)), ⟨.refl _, ⟨.refl _, ⟨.refl _, trivial⟩⟩⟩⟩⟩⟩, (.refl _)⟩ ?_
    rintro ⟨⟨s14_19, items_20⟩, hc1⟩
    have hc1 : impl_copyJson_B_L1 rec (j_1.Items.drop s14_19) items_20 = some items_27 := hc1
    refine (show awp Try.prog true 0 _ (ofL [(1, (.ptr 0 0 0)), (2, (.ptr 1 0 0)), (3, (.own 2 0 items_20.length)), (12, (.lst 5 (j_1.Items.map encGJson))), (13, (.int .i64 (j_1.Items.length : Int))), (14, (.int .i64 (s14_19 : Int)))]) [.box 5 (.agg [(.int .i64 j_1.Kind), (.int .i64 j_1.N), (.str j_1.T), (.own 3 0 r_2.length), (.lst 5 (j_1.Items.map encGJson))]), .box 5 (.agg [(.int .i64 0), (.int .i64 0), (.str []), .nil, .nil]), .row 5 (items_20.map encGJson), .row 1 (r_2.map AV.str)] _ from ?_)
    rcases dropc j_1.Items s14_19 with ⟨hie31, hd34⟩ | ⟨hlt29, x_35, hx30, hd34⟩
    · rw [hd34, impl_copyJson_B_L1.eq_1] at hc1
      have hq33 := dlf hie31
      refine awp_seq ?_
      refine w_reg ?_
      refine s_do (o_q (.bool (decide ((s14_19 : Int) < (j_1.Items.length : Int)))) rfl rfl rfl) ?_
      refine w_done ?_
      refine k_seq ?_
      refine awp_seq ?_
      refine w_condf rfl hq33 ?_
      refine w_exit ?_
      refine k_seqx ?_
      refine k_loopx ?_
      refine k_blkx ?_
      obtain rfl := os hc1
      exact ⟨[], [0, 1, 2, 3], _, _, rfl, rfl, ⟨.refl _, ⟨.refl _, ⟨.refl _, trivial⟩⟩⟩, (.refl _)⟩
    · rw [hd34, impl_copyJson_B_L1.eq_2] at hc1
      have hq33 := dlt hlt29
      refine awp_seq ?_
      refine w_reg ?_
      refine s_do (o_q (.bool (decide ((s14_19 : Int) < (j_1.Items.length : Int)))) rfl rfl rfl) ?_
      refine w_done ?_
      refine k_seq ?_
      refine awp_seq ?_
      refine w_condt rfl hq33 ?_
      refine w_skip ?_
      refine k_seq ?_
      refine awp_seq ?_
      refine w_blk ?_
      refine awp_seq ?_
      refine w_reg ?_
      refine s_do (o_iaddrn (enc := encGJson) rfl rfl hx30) ?_
      refine s_do (o_loadeq (v := (.agg [(.int .i64 x_35.Kind), (.int .i64 x_35.N), (.str x_35.T), (.lst 1 (x_35.Keys.map AV.str)), (.lst 5 (x_35.Items.map encGJson))])) rfl (encGJson_eq _) nle rfl) ?_
      refine s_do (o_box (j := 4) (c := (.agg [(.int .i64 0), (.int .i64 0), (.str []), .nil, .nil])) rfl trivial rfl rfl) ?_
      refine s_do0 (o_storebox (v := (.agg [(.int .i64 x_35.Kind), (.int .i64 x_35.N), (.str x_35.T), (.lst 1 (x_35.Keys.map AV.str)), (.lst 5 (x_35.Items.map encGJson))])) (y' := (.agg [(.int .i64 x_35.Kind), (.int .i64 x_35.N), (.str x_35.T), (.lst 1 (x_35.Keys.map AV.str)), (.lst 5 (x_35.Items.map encGJson))])) rfl rfl rfl trivial ⟨rfl, nle⟩ ⟨⟨rfl, trivial⟩, ⟨⟨rfl, trivial⟩, ⟨⟨rfl, trivial⟩, ⟨⟨rfl, trivial⟩, ⟨⟨rfl, trivial⟩, trivial⟩⟩⟩⟩⟩ rfl) ?_
      refine w_done ?_
      refine k_seq ?_
      refine w_reg ?_
      obtain ⟨r_36, er37, hc1⟩ := ob hc1
      obtain ⟨g38, hc1⟩ := og hc1
      refine s_do (o_mov (.own 2 0 items_20.length) rfl) ?_
      refine s_do (o_q (.agg [(.int .i64 x_35.Kind), (.int .i64 x_35.N), (.str x_35.T), (.lst 1 (x_35.Keys.map AV.str)), (.lst 5 (x_35.Items.map encGJson))]) rfl nle rfl) ?_
      refine s_do (o_callf (v := (.agg [(.int .i64 r_36.Kind), (.int .i64 r_36.N), (.str r_36.T), (.own 5 0 r_36.Keys.length), (.own 6 0 r_36.Items.length)])) (h' := [.row 1 (r_36.Keys.map AV.str), .row 5 (r_36.Items.map encGJson)]) (hrec _ _ er37) rfl (.cons (.of_eq (encGJson_eq x_35).symm) .nil) (by simp only [openV, openVs, List.length_map, encGJson_eq, List.nil_append, List.append_nil, List.cons_append]; rfl)) ?_
      refine s_do (o_bslice (j := 7) (as' := [(encGJson r_36)]) rfl (fun _ => by decide) ⟨rfl, trivial⟩ (.cons (leJ (x := r_36) (.agg (.cons (.refl _) (.cons (.refl _) (.cons (.refl _) (.cons (.of_eq (congrArg (AV.lst _) (tk (enc := AV.str) r_36.Keys))) (.cons (.of_eq (congrArg (AV.lst _) (tk (enc := encGJson) r_36.Items))) .nil))))))) .nil) rfl rfl rfl) ?_
      refine s_do (o_appendd (j := 8) (L := ((items_20 ++ [r_36]).map encGJson)) (len := (items_20 ++ [r_36]).length) true rfl rfl (fun h => Bool.noConfusion h) (fun _ _ h => (ownl (show AV.own _ _ _ = AV.lst _ _ from h)).elim) (by decide) (apo (enc := encGJson) items_20 [r_36]) (by simp <;> omega) g38 rfl rfl) ?_
      refine s_do (o_mov (.own 8 0 ((items_20 ++ [r_36]).length)) rfl) ?_
      refine w_done ?_
      refine k_blk ?_
      refine k_seq ?_
      refine w_reg ?_
      refine s_do (o_q (.int .i64 (w64 ((s14_19 : Int) + 1))) rfl rfl rfl) ?_
      refine s_do (o_mov (.int .i64 (w64 ((s14_19 : Int) + 1))) rfl) ?_
      refine w_done ?_
      exact k_loopn ⟨((s14_19 + 1), items_20 ++ [r_36]), hc1⟩ (mul hlt29) ⟨[], [0, 1, 8, 3], _, _, rfl, rfl, ⟨.refl _, ⟨.refl _, ⟨.refl _, ⟨.refl _, ⟨.refl _, ⟨.of_eq (congrArg (AV.int _) (w64_incr hlt29 hl4)), trivial⟩⟩⟩⟩⟩⟩, (.refl _)⟩
  · refine awp_seq ?_
    refine awp_seq ?_
    refine w_reg ?_
    refine s_do (o_q (.ptr 0 0 4) rfl trivial rfl) ?_
    refine s_do0 (o_storebox (v := .nil) (y' := (.agg [(.int .i64 j_1.Kind), (.int .i64 j_1.N), (.str j_1.T), (.own 3 0 r_2.length), .nil])) rfl rfl rfl trivial ⟨rfl, nle⟩ ⟨⟨rfl, trivial⟩, trivial⟩ rfl) ?_
    refine w_done ?_
    refine k_seq ?_
    refine awp_seq ?_
    refine w_reg ?_
    refine s_do (o_mov (.own 2 0 items_27.length) rfl) ?_
    refine s_dof (o_lenown rfl rfl) fun hl39 => ?_
    refine s_do (o_q (.bool (decide ((items_27.length : Int) > 0))) rfl rfl rfl) ?_
    refine w_done ?_
    refine k_seq ?_
    rcases oi hf with ⟨c40, hf⟩ | ⟨c40, hf⟩
    · refine w_condt rfl c40 ?_
      refine w_reg ?_
      refine s_do (o_mov (.own 2 0 items_27.length) rfl) ?_
      refine s_do (o_q (.ptr 0 0 4) rfl trivial rfl) ?_
      refine s_do0 (o_storebox (v := (.own 2 0 items_27.length)) (y' := (.agg [(.int .i64 j_1.Kind), (.int .i64 j_1.N), (.str j_1.T), (.own 3 0 r_2.length), (.own 2 0 items_27.length)])) rfl rfl rfl trivial ⟨rfl, nle⟩ ⟨⟨rfl, trivial⟩, trivial⟩ rfl) ?_
      refine w_done ?_
      refine k_seq ?_
      refine awp_seq ?_
      refine w_reg ?_
      refine s_do (o_q (.agg [(.int .i64 j_1.Kind), (.int .i64 j_1.N), (.str j_1.T), (.own 3 0 r_2.length), (.own 2 0 items_27.length)]) rfl nle rfl) ?_
      refine s_do0 (o_storebox (v := (.agg [(.int .i64 j_1.Kind), (.int .i64 j_1.N), (.str j_1.T), (.own 3 0 r_2.length), (.own 2 0 items_27.length)])) (y' := (.agg [(.int .i64 j_1.Kind), (.int .i64 j_1.N), (.str j_1.T), (.own 3 0 r_2.length), (.own 2 0 items_27.length)])) rfl rfl rfl trivial ⟨rfl, nle⟩ ⟨⟨rfl, trivial⟩, ⟨⟨rfl, trivial⟩, ⟨⟨rfl, trivial⟩, ⟨⟨rfl, trivial⟩, ⟨⟨rfl, trivial⟩, trivial⟩⟩⟩⟩⟩ rfl) ?_
      refine w_done ?_
      refine k_seq ?_
      refine w_ret ?_
      obtain rfl := os hf
      exact r_fresh ⟨nle, trivial⟩ rfl (by decide) (leJ (x := (⟨j_1.Kind, j_1.N, j_1.T, r_2, items_27⟩ : GJson)) (.agg (.cons (.refl _) (.cons (.refl _) (.cons (.refl _) (.cons (.of_eq (congrArg (AV.lst _) (tk (enc := AV.str) r_2))) (.cons (.of_eq (congrArg (AV.lst _) (tk (enc := encGJson) items_27))) .nil)))))))
    · refine w_condf rfl (bf c40) ?_
      refine w_skip ?_
      refine k_seq ?_
      refine awp_seq ?_
      refine w_reg ?_
      refine s_do (o_q (.agg [(.int .i64 j_1.Kind), (.int .i64 j_1.N), (.str j_1.T), (.own 3 0 r_2.length), .nil]) rfl nle rfl) ?_
      refine s_do0 (o_storebox (v := (.agg [(.int .i64 j_1.Kind), (.int .i64 j_1.N), (.str j_1.T), (.own 3 0 r_2.length), .nil])) (y' := (.agg [(.int .i64 j_1.Kind), (.int .i64 j_1.N), (.str j_1.T), (.own 3 0 r_2.length), .nil])) rfl rfl rfl trivial ⟨rfl, nle⟩ ⟨⟨rfl, trivial⟩, ⟨⟨rfl, trivial⟩, ⟨⟨rfl, trivial⟩, ⟨⟨rfl, trivial⟩, ⟨⟨rfl, trivial⟩, trivial⟩⟩⟩⟩⟩ rfl) ?_
      refine w_done ?_
      refine k_seq ?_
      refine w_ret ?_
      obtain rfl := os hf
      exact r_fresh ⟨nle, trivial⟩ rfl (by decide) (leJ (x := (⟨j_1.Kind, j_1.N, j_1.T, r_2, []⟩ : GJson)) (.agg (.cons (.refl _) (.cons (.refl _) (.cons (.refl _) (.cons (.of_eq (congrArg (AV.lst _) (tk (enc := AV.str) r_2))) (.cons (.nil _) .nil)))))))
def impl_copyJson : Nat → GJson → Option GJson
  | 0, _ => none
  | k + 1, j_1 => impl_copyJson_B (impl_copyJson k) j_1
theorem w_impl_copyJson : ∀ (k : Nat) (j_1 : GJson) (r : GJson), impl_copyJson k j_1 = some r → CallOK Try.prog 103 .fresh [(encGJson j_1)] (encGJson r)
  | 0, j_1, r, h => by rw [impl_copyJson.eq_1] at h; cases h
  | k + 1, j_1, r, h => by
    rw [impl_copyJson.eq_2] at h
    exact w_impl_copyJson_B _ (w_impl_copyJson k) j_1 r h

/- impl.FieldOf -/
def c31 : ACode :=
 (.seq (.reg (.q ⟨(some 2), none, .box 5 (.t 0)⟩
 (.q ⟨(some 4), none, .box 5 (.c (.agg [(.int .i64 0), (.int .i64 0), (.str []), .nil, .nil]))⟩
 (.q ⟨(some 5), none, .mov (.c (.int .i64 0))⟩
 .done))))
 (.seq (.block 0 (.seq (.reg (.q ⟨(some 9), none, .mov (.t 1)⟩
 (.q ⟨(some 10), none, .call 100 [(.t 9)]⟩
 (.q ⟨(some 11), none, .not (.t 10)⟩
 (.q ⟨(some 8), none, .mov (.t 11)⟩
 .done)))))
 (.cond (.t 8) (.seq (.reg (.q ⟨(some 12), none, .build [(.int .i64 0), (.int .i64 0), (.str []), .nil, .nil] []⟩
 (.q ⟨none, none, .store 5 (.t 4) (.t 12)⟩
 (.q ⟨(some 5), none, .mov (.c (.int .i64 2))⟩
 .done))))
 .ret)
 (.seq (.reg (.q ⟨(some 14), none, .load 5 true (.t 2)⟩
 (.q ⟨(some 15), none, .call 101 [(.t 14)]⟩
 (.q ⟨(some 16), none, .not (.t 15)⟩
 (.q ⟨(some 13), none, .mov (.t 16)⟩
 .done)))))
 (.cond (.t 13) (.seq (.reg (.q ⟨(some 17), none, .build [(.int .i64 0), (.int .i64 0), (.str []), .nil, .nil] []⟩
 (.q ⟨none, none, .store 5 (.t 4) (.t 17)⟩
 (.q ⟨(some 5), none, .mov (.c (.int .i64 1))⟩
 .done))))
 .ret)
 (.seq (.reg (.q ⟨(some 19), none, .faddr 0 (.t 2)⟩
 (.q ⟨(some 20), none, .load 1 false (.t 19)⟩
 (.q ⟨(some 21), none, .bin .neq (.t 20) (.c (.int .i64 5))⟩
 (.q ⟨(some 18), none, .mov (.t 21)⟩
 .done)))))
 (.cond (.t 18) (.seq (.reg (.q ⟨(some 22), none, .build [(.int .i64 0), (.int .i64 0), (.str []), .nil, .nil] []⟩
 (.q ⟨none, none, .store 5 (.t 4) (.t 22)⟩
 (.q ⟨(some 5), none, .mov (.c (.int .i64 9))⟩
 .done))))
 .ret)
 .skip)))))))
 (.seq (.reg (.q ⟨(some 24), none, .load 5 true (.t 2)⟩
 (.q ⟨(some 25), none, .mov (.t 1)⟩
 (.q ⟨(some 26), none, .call 102 [(.t 24), (.t 25)]⟩
 (.q ⟨(some 23), none, .mov (.t 26)⟩
 (.q ⟨(some 27), none, .extract 0 (.t 23)⟩
 (.q ⟨(some 28), none, .extract 1 (.t 23)⟩
 (.q ⟨(some 6), none, .box 5 (.c (.agg [(.int .i64 0), (.int .i64 0), (.str []), .nil, .nil]))⟩
 (.q ⟨none, none, .store 5 (.t 6) (.t 27)⟩
 (.q ⟨(some 7), none, .mov (.t 28)⟩
 .done))))))))))
 (.seq (.seq (.reg (.q ⟨(some 29), none, .mov (.t 7)⟩
 (.q ⟨(some 30), none, .not (.t 29)⟩
 .done)))
 (.cond (.t 30) (.seq (.reg (.q ⟨(some 31), none, .build [(.int .i64 0), (.int .i64 0), (.str []), .nil, .nil] []⟩
 (.q ⟨none, none, .store 5 (.t 4) (.t 31)⟩
 (.q ⟨(some 5), none, .mov (.c (.int .i64 5))⟩
 .done))))
 .ret)
 .skip))
 (.seq (.reg (.q ⟨(some 32), none, .load 5 true (.t 6)⟩
 (.q ⟨(some 33), none, .call 103 [(.t 32)]⟩
 (.q ⟨none, none, .store 5 (.t 4) (.t 33)⟩
 (.q ⟨(some 5), none, .mov (.c (.int .i64 0))⟩
 .done)))))
 .ret)))))
theorem fc31 : fcomp Try.prog Try.f31 = some (c31.erase, [.load 5 true (.t 4), .mov (.t 5)], 34) := by kernel_rfl
def impl_FieldOf (j_1 : GJson) (name_2 : Str) : Option (GJson × Int) :=
    (impl_isText name_2).bind fun r_3 =>
    if (!r_3) then
    some ((⟨0, 0, [], [], []⟩ : GJson), 2)
    else
    (impl_JsonOK j_1).bind fun r_6 =>
    if (!r_6) then
    some ((⟨0, 0, [], [], []⟩ : GJson), 1)
    else
    if (j_1.Kind != 5) then
    some ((⟨0, 0, [], [], []⟩ : GJson), 9)
    else
    (impl_Json_field j_1 name_2).bind fun r_10 =>
    if (!r_10.2) then
    some ((⟨0, 0, [], [], []⟩ : GJson), 5)
    else
    (impl_copyJson FUEL r_10.1).bind fun r_13 =>
    some (r_13, 0)
theorem w_impl_FieldOf (j_1 : GJson) (name_2 : Str) (r : (GJson × Int)) (hf : impl_FieldOf j_1 name_2 = some r) : CallOK Try.prog 31 .fresh [(encGJson j_1), (.str name_2)] (.tup [(encGJson r.1), (.int .i64 r.2)]) := by
  refine CallOK.of_awp mixed Try.func31 fc31 nle ?_
  rw [argT_eq]
  rw [encGJson_eq j_1]
  unfold impl_FieldOf at hf
  unfold c31
  refine (show awp Try.prog true 0 _ (ofL [(0, (.agg [(.int .i64 j_1.Kind), (.int .i64 j_1.N), (.str j_1.T), (.lst 1 (j_1.Keys.map AV.str)), (.lst 5 (j_1.Items.map encGJson))])), (1, (.str name_2))]) [] _ from ?_)
  refine awp_seq ?_
  refine w_reg ?_
  refine s_do (o_box (j := 0) (c := (.agg [(.int .i64 j_1.Kind), (.int .i64 j_1.N), (.str j_1.T), (.lst 1 (j_1.Keys.map AV.str)), (.lst 5 (j_1.Items.map encGJson))])) rfl trivial rfl rfl) ?_
  refine s_do (o_box (j := 1) (c := (.agg [(.int .i64 0), (.int .i64 0), (.str []), .nil, .nil])) rfl trivial rfl rfl) ?_
  refine s_do (o_mov (.int .i64 0) rfl) ?_
  refine w_done ?_
  refine k_seq ?_
  refine awp_seq ?_
  refine w_blk ?_
  refine awp_seq ?_
  refine w_reg ?_
  obtain ⟨r_3, er4, hf⟩ := ob hf
  refine s_do (o_mov (.str name_2) rfl) ?_
  refine s_do (o_call (w_impl_isText _ _ er4) rfl (.refl _) rfl) ?_
  refine s_do (o_q (.bool (!r_3)) rfl trivial rfl) ?_
  refine s_do (o_mov (.bool (!r_3)) rfl) ?_
  refine w_done ?_
  refine k_seq ?_
  rcases oi hf with ⟨c5, hf⟩ | ⟨c5, hf⟩
  · refine w_condt rfl c5 ?_
    refine awp_seq ?_
    refine w_reg ?_
    refine s_do (o_q (.agg [(.int .i64 0), (.int .i64 0), (.str []), .nil, .nil]) rfl trivial rfl) ?_
    refine s_do0 (o_storebox (v := (.agg [(.int .i64 0), (.int .i64 0), (.str []), .nil, .nil])) (y' := (.agg [(.int .i64 0), (.int .i64 0), (.str []), .nil, .nil])) rfl rfl rfl trivial ⟨rfl, nle⟩ ⟨⟨rfl, trivial⟩, ⟨⟨rfl, trivial⟩, ⟨⟨rfl, trivial⟩, ⟨⟨rfl, trivial⟩, ⟨⟨rfl, trivial⟩, trivial⟩⟩⟩⟩⟩ rfl) ?_
    refine s_do (o_mov (.int .i64 2) rfl) ?_
    refine w_done ?_
    refine k_seq ?_
    refine w_ret ?_
    obtain rfl := os hf
    exact r_fresh ⟨nle, ⟨trivial, trivial⟩⟩ rfl (by decide) (.tup (.cons (leJ (x := (⟨0, 0, [], [], []⟩ : GJson)) (.agg (.cons (.refl _) (.cons (.refl _) (.cons (.refl _) (.cons (.nil _) (.cons (.nil _) .nil))))))) (.cons (.refl _) .nil)))
  · refine w_condf rfl (bf c5) ?_
    refine awp_seq ?_
    refine w_reg ?_
    obtain ⟨r_6, er7, hf⟩ := ob hf
    refine s_do (o_q (.agg [(.int .i64 j_1.Kind), (.int .i64 j_1.N), (.str j_1.T), (.lst 1 (j_1.Keys.map AV.str)), (.lst 5 (j_1.Items.map encGJson))]) rfl nle rfl) ?_
    refine s_do (o_call (w_impl_JsonOK _ _ er7) rfl (.cons (.of_eq (encGJson_eq j_1).symm) .nil) rfl) ?_
    refine s_do (o_q (.bool (!r_6)) rfl trivial rfl) ?_
    refine s_do (o_mov (.bool (!r_6)) rfl) ?_
    refine w_done ?_
    refine k_seq ?_
    rcases oi hf with ⟨c8, hf⟩ | ⟨c8, hf⟩
    · refine w_condt rfl c8 ?_
      refine awp_seq ?_
      refine w_reg ?_
      refine s_do (o_q (.agg [(.int .i64 0), (.int .i64 0), (.str []), .nil, .nil]) rfl trivial rfl) ?_
      refine s_do0 (o_storebox (v := (.agg [(.int .i64 0), (.int .i64 0), (.str []), .nil, .nil])) (y' := (.agg [(.int .i64 0), (.int .i64 0), (.str []), .nil, .nil])) rfl rfl rfl trivial ⟨rfl, nle⟩ ⟨⟨rfl, trivial⟩, ⟨⟨rfl, trivial⟩, ⟨⟨rfl, trivial⟩, ⟨⟨rfl, trivial⟩, ⟨⟨rfl, trivial⟩, trivial⟩⟩⟩⟩⟩ rfl) ?_
      refine s_do (o_mov (.int .i64 1) rfl) ?_
      refine w_done ?_
      refine k_seq ?_
      refine w_ret ?_
      obtain rfl := os hf
      exact r_fresh ⟨nle, ⟨trivial, trivial⟩⟩ rfl (by decide) (.tup (.cons (leJ (x := (⟨0, 0, [], [], []⟩ : GJson)) (.agg (.cons (.refl _) (.cons (.refl _) (.cons (.refl _) (.cons (.nil _) (.cons (.nil _) .nil))))))) (.cons (.refl _) .nil)))
    · refine w_condf rfl (bf c8) ?_
      refine awp_seq ?_
      refine w_reg ?_
      refine s_do (o_q (.ptr 0 0 0) rfl trivial rfl) ?_
      refine s_do (o_q (.int .i64 j_1.Kind) rfl nle rfl) ?_
      refine s_do (o_q (.bool (j_1.Kind != 5)) rfl rfl rfl) ?_
      refine s_do (o_mov (.bool (j_1.Kind != 5)) rfl) ?_
      refine w_done ?_
      refine k_seq ?_
      rcases oi hf with ⟨c9, hf⟩ | ⟨c9, hf⟩
      · refine w_condt rfl c9 ?_
        refine awp_seq ?_
        refine w_reg ?_
        refine s_do (o_q (.agg [(.int .i64 0), (.int .i64 0), (.str []), .nil, .nil]) rfl trivial rfl) ?_
        refine s_do0 (o_storebox (v := (.agg [(.int .i64 0), (.int .i64 0), (.str []), .nil, .nil])) (y' := (.agg [(.int .i64 0), (.int .i64 0), (.str []), .nil, .nil])) rfl rfl rfl trivial ⟨rfl, nle⟩ ⟨⟨rfl, trivial⟩, ⟨⟨rfl, trivial⟩, ⟨⟨rfl, trivial⟩, ⟨⟨rfl, trivial⟩, ⟨⟨rfl, trivial⟩, trivial⟩⟩⟩⟩⟩ rfl) ?_
        refine s_do (o_mov (.int .i64 9) rfl) ?_
        refine w_done ?_
        refine k_seq ?_
        refine w_ret ?_
        obtain rfl := os hf
        exact r_fresh ⟨nle, ⟨trivial, trivial⟩⟩ rfl (by decide) (.tup (.cons (leJ (x := (⟨0, 0, [], [], []⟩ : GJson)) (.agg (.cons (.refl _) (.cons (.refl _) (.cons (.refl _) (.cons (.nil _) (.cons (.nil _) .nil))))))) (.cons (.refl _) .nil)))
      · refine w_condf rfl (bf c9) ?_
        refine w_skip ?_
        refine k_blk ?_
        refine k_seq ?_
        refine awp_seq ?_
        refine w_reg ?_
        obtain ⟨r_10, er11, hf⟩ := ob hf
        refine s_do (o_q (.agg [(.int .i64 j_1.Kind), (.int .i64 j_1.N), (.str j_1.T), (.lst 1 (j_1.Keys.map AV.str)), (.lst 5 (j_1.Items.map encGJson))]) rfl nle rfl) ?_
        refine s_do (o_mov (.str name_2) rfl) ?_
        refine s_do (o_callw (v := (.tup [(.agg [(.int .i64 r_10.1.Kind), (.int .i64 r_10.1.N), (.str r_10.1.T), (.lst 1 (r_10.1.Keys.map AV.str)), (.lst 5 (r_10.1.Items.map encGJson))]), (.bool r_10.2)])) (w_impl_Json_field _ _ _ er11) rfl (.cons (.of_eq (encGJson_eq j_1).symm) (.cons (.refl _) .nil)) (by simp only [encGJson_eq]) rfl) ?_
        refine s_do (o_mov (.tup [(.agg [(.int .i64 r_10.1.Kind), (.int .i64 r_10.1.N), (.str r_10.1.T), (.lst 1 (r_10.1.Keys.map AV.str)), (.lst 5 (r_10.1.Items.map encGJson))]), (.bool r_10.2)]) rfl) ?_
        refine s_do (o_q (.agg [(.int .i64 r_10.1.Kind), (.int .i64 r_10.1.N), (.str r_10.1.T), (.lst 1 (r_10.1.Keys.map AV.str)), (.lst 5 (r_10.1.Items.map encGJson))]) rfl nle rfl) ?_
        refine s_do (o_q (.bool r_10.2) rfl nle rfl) ?_
        refine s_do (o_box (j := 2) (c := (.agg [(.int .i64 0), (.int .i64 0), (.str []), .nil, .nil])) rfl trivial rfl rfl) ?_
        refine s_do0 (o_storebox (v := (.agg [(.int .i64 r_10.1.Kind), (.int .i64 r_10.1.N), (.str r_10.1.T), (.lst 1 (r_10.1.Keys.map AV.str)), (.lst 5 (r_10.1.Items.map encGJson))])) (y' := (.agg [(.int .i64 r_10.1.Kind), (.int .i64 r_10.1.N), (.str r_10.1.T), (.lst 1 (r_10.1.Keys.map AV.str)), (.lst 5 (r_10.1.Items.map encGJson))])) rfl rfl rfl trivial ⟨rfl, nle⟩ ⟨⟨rfl, trivial⟩, ⟨⟨rfl, trivial⟩, ⟨⟨rfl, trivial⟩, ⟨⟨rfl, trivial⟩, ⟨⟨rfl, trivial⟩, trivial⟩⟩⟩⟩⟩ rfl) ?_
        refine s_do (o_mov (.bool r_10.2) rfl) ?_
        refine w_done ?_
        refine k_seq ?_
        refine awp_seq ?_
        refine awp_seq ?_
        refine w_reg ?_
        refine s_do (o_mov (.bool r_10.2) rfl) ?_
        refine s_do (o_q (.bool (!r_10.2)) rfl trivial rfl) ?_
        refine w_done ?_
        refine k_seq ?_
        rcases oi hf with ⟨c12, hf⟩ | ⟨c12, hf⟩
        · refine w_condt rfl c12 ?_
          refine awp_seq ?_
          refine w_reg ?_
          refine s_do (o_q (.agg [(.int .i64 0), (.int .i64 0), (.str []), .nil, .nil]) rfl trivial rfl) ?_
          refine s_do0 (o_storebox (v := (.agg [(.int .i64 0), (.int .i64 0), (.str []), .nil, .nil])) (y' := (.agg [(.int .i64 0), (.int .i64 0), (.str []), .nil, .nil])) rfl rfl rfl trivial ⟨rfl, nle⟩ ⟨⟨rfl, trivial⟩, ⟨⟨rfl, trivial⟩, ⟨⟨rfl, trivial⟩, ⟨⟨rfl, trivial⟩, ⟨⟨rfl, trivial⟩, trivial⟩⟩⟩⟩⟩ rfl) ?_
          refine s_do (o_mov (.int .i64 5) rfl) ?_
          refine w_done ?_
          refine k_seq ?_
          refine w_ret ?_
          obtain rfl := os hf
          exact r_fresh ⟨nle, ⟨trivial, trivial⟩⟩ rfl (by decide) (.tup (.cons (leJ (x := (⟨0, 0, [], [], []⟩ : GJson)) (.agg (.cons (.refl _) (.cons (.refl _) (.cons (.refl _) (.cons (.nil _) (.cons (.nil _) .nil))))))) (.cons (.refl _) .nil)))
        · refine w_condf rfl (bf c12) ?_
          refine w_skip ?_
          refine k_seq ?_
          refine awp_seq ?_
          refine w_reg ?_
          obtain ⟨r_13, er14, hf⟩ := ob hf
          refine s_do (o_q (.agg [(.int .i64 r_10.1.Kind), (.int .i64 r_10.1.N), (.str r_10.1.T), (.lst 1 (r_10.1.Keys.map AV.str)), (.lst 5 (r_10.1.Items.map encGJson))]) rfl nle rfl) ?_
          refine s_do (o_callf (v := (.agg [(.int .i64 r_13.Kind), (.int .i64 r_13.N), (.str r_13.T), (.own 3 0 r_13.Keys.length), (.own 4 0 r_13.Items.length)])) (h' := [.row 1 (r_13.Keys.map AV.str), .row 5 (r_13.Items.map encGJson)]) (w_impl_copyJson FUEL _ _ er14) rfl (.cons (.of_eq (encGJson_eq r_10.1).symm) .nil) (by simp only [openV, openVs, List.length_map, encGJson_eq, List.nil_append, List.append_nil, List.cons_append]; rfl)) ?_
          refine s_do0 (o_storebox (v := (.agg [(.int .i64 r_13.Kind), (.int .i64 r_13.N), (.str r_13.T), (.own 3 0 r_13.Keys.length), (.own 4 0 r_13.Items.length)])) (y' := (.agg [(.int .i64 r_13.Kind), (.int .i64 r_13.N), (.str r_13.T), (.own 3 0 r_13.Keys.length), (.own 4 0 r_13.Items.length)])) rfl rfl rfl trivial ⟨rfl, nle⟩ ⟨⟨rfl, trivial⟩, ⟨⟨rfl, trivial⟩, ⟨⟨rfl, trivial⟩, ⟨⟨rfl, trivial⟩, ⟨⟨rfl, trivial⟩, trivial⟩⟩⟩⟩⟩ rfl) ?_
          refine s_do (o_mov (.int .i64 0) rfl) ?_
          refine w_done ?_
          refine k_seq ?_
          refine w_ret ?_
          obtain rfl := os hf
          exact r_fresh ⟨nle, ⟨trivial, trivial⟩⟩ rfl (by decide) (.tup (.cons (leJ (x := r_13) (.agg (.cons (.refl _) (.cons (.refl _) (.cons (.refl _) (.cons (.of_eq (congrArg (AV.lst _) (tk (enc := AV.str) r_13.Keys))) (.cons (.of_eq (congrArg (AV.lst _) (tk (enc := encGJson) r_13.Items))) .nil))))))) (.cons (.refl _) .nil)))

/- laws.sameTexts -/
def c104 : ACode :=
 (.seq (.reg (.q ⟨(some 4), none, .mov (.c (.bool false))⟩
 .done))
 (.seq (.seq (.reg (.q ⟨(some 6), none, .mov (.t 0)⟩
 (.q ⟨(some 7), none, .len (.t 6)⟩
 (.q ⟨(some 8), none, .mov (.t 1)⟩
 (.q ⟨(some 9), none, .len (.t 8)⟩
 (.q ⟨(some 10), none, .bin .neq (.t 7) (.t 9)⟩
 .done))))))
 (.cond (.t 10) (.seq (.reg (.q ⟨(some 4), none, .mov (.c (.bool false))⟩
 .done))
 .ret)
 .skip))
 (.seq (.seq (.reg (.q ⟨(some 5), none, .mov (.c (.int .i64 0))⟩
 .done))
 (.block 0 (.loop (.seq (.seq (.reg (.q ⟨(some 11), none, .mov (.t 5)⟩
 (.q ⟨(some 12), none, .mov (.t 0)⟩
 (.q ⟨(some 13), none, .len (.t 12)⟩
 (.q ⟨(some 14), none, .bin .lss (.t 11) (.t 13)⟩
 .done)))))
 (.cond (.t 14) .skip
 (.exit 0)))
 (.seq (.block 1 (.seq (.reg (.q ⟨(some 17), none, .mov (.t 0)⟩
 (.q ⟨(some 18), none, .mov (.t 5)⟩
 (.q ⟨(some 19), none, .iaddr 1 (.t 17) (.t 18)⟩
 (.q ⟨(some 20), none, .load 1 false (.t 19)⟩
 (.q ⟨(some 21), none, .mov (.t 1)⟩
 (.q ⟨(some 22), none, .mov (.t 5)⟩
 (.q ⟨(some 23), none, .iaddr 1 (.t 21) (.t 22)⟩
 (.q ⟨(some 24), none, .load 1 false (.t 23)⟩
 (.q ⟨(some 25), none, .bin .neq (.t 20) (.t 24)⟩
 .done))))))))))
 (.cond (.t 25) (.seq (.reg (.q ⟨(some 4), none, .mov (.c (.bool false))⟩
 .done))
 .ret)
 .skip)))
 (.reg (.q ⟨(some 15), none, .mov (.t 5)⟩
 (.q ⟨(some 16), none, .bin .add (.t 15) (.c (.int .i64 1))⟩
 (.q ⟨(some 5), none, .mov (.t 16)⟩
 .done)))))))))
 (.cut (.seq (.reg (.q ⟨(some 4), none, .mov (.c (.bool true))⟩
 .done))
 .ret)))))
theorem fc104 : fcomp Try.prog Try.f104 = some (c104.erase, [.mov (.t 4)], 26) := by kernel_rfl
def laws_sameTexts_L1 (b_2 : (List Str)) : List Str → Nat → Option (Fl Bool Unit)
  | [], i_21 =>
    some (.go ())
  | x_37 :: xs, i_21 =>
    (idx b_2 (i_21 : Int)).bind fun x_40 =>
    if (!(x_37 == x_40)) then
    some (.ret false)
    else
    laws_sameTexts_L1 b_2 xs (i_21 + 1)

def laws_sameTexts (a_1 : (List Str)) (b_2 : (List Str)) : Option Bool :=
    if ((a_1.length : Int) != (b_2.length : Int)) then
    some false
    else
    (laws_sameTexts_L1 b_2 a_1 0).bind fun q => (match q with
    | .ret r => some r
    | .go _ =>
    some true)
theorem w_laws_sameTexts (a_1 : (List Str)) (b_2 : (List Str)) (r : Bool) (hf : laws_sameTexts a_1 b_2 = some r) : CallOK Try.prog 104 .flat [(.lst 1 (a_1.map AV.str)), (.lst 1 (b_2.map AV.str))] (.bool r) := by
  refine CallOK.of_awp mixed Try.func104 fc104 nle ?_
  rw [argT_eq]
  unfold laws_sameTexts at hf
  unfold c104
  refine (show awp Try.prog false 0 _ (ofL [(0, (.lst 1 (a_1.map AV.str))), (1, (.lst 1 (b_2.map AV.str)))]) [] _ from ?_)
  refine awp_seq ?_
  refine w_reg ?_
  refine s_do (o_mov (.bool false) rfl) ?_
  refine w_done ?_
  refine k_seq ?_
  refine awp_seq ?_
  refine awp_seq ?_
  refine w_reg ?_
  refine s_do (o_mov (.lst 1 (a_1.map AV.str)) rfl) ?_
  refine s_dof (o_len (enc := AV.str) rfl) fun hl3 => ?_
  refine s_do (o_mov (.lst 1 (b_2.map AV.str)) rfl) ?_
  refine s_dof (o_len (enc := AV.str) rfl) fun hl4 => ?_
  refine s_do (o_q (.bool ((a_1.length : Int) != (b_2.length : Int))) rfl rfl rfl) ?_
  refine w_done ?_
  refine k_seq ?_
  rcases oi hf with ⟨c5, hf⟩ | ⟨c5, hf⟩
  · refine w_condt rfl c5 ?_
    refine awp_seq ?_
    refine w_reg ?_
    refine s_do (o_mov (.bool false) rfl) ?_
    refine w_done ?_
    refine k_seq ?_
    refine w_ret ?_
    obtain rfl := os hf
    exact r_flat ⟨trivial, trivial⟩ rfl (.refl _)
  · refine w_condf rfl (bf c5) ?_
    refine w_skip ?_
    refine k_seq ?_
    refine awp_seq ?_
    refine awp_seq ?_
    refine w_reg ?_
    refine s_do (o_mov (.int .i64 0) rfl) ?_
    refine w_done ?_
    refine k_seq ?_
    obtain ⟨p30, hb1, hf⟩ := ob hf
    refine awp_cutx (X := {q : Unit // p30 = .go q}) (fun q => ([], [])) ?_ ?_
    · refine awp_loop (X := {q : Nat // laws_sameTexts_L1 b_2 (a_1.drop q) q = some p30}) (fun q => ([(0, (.lst 1 (a_1.map AV.str))), (1, (.lst 1 (b_2.map AV.str))), (5, (.int .i64 (q.1 : Int)))], [])) (fun q => a_1.length - q.1) ⟨0, hb1⟩ ⟨[], [], _, _, rfl, rfl, ⟨.refl _, ⟨.refl _, ⟨.refl _, trivial⟩⟩⟩, (.refl _)⟩ ?_
      rintro ⟨i_21, hc1⟩
      have hc1 : laws_sameTexts_L1 b_2 (a_1.drop i_21) i_21 = some p30 := hc1
      refine (show awp Try.prog false 0 _ (ofL [(0, (.lst 1 (a_1.map AV.str))), (1, (.lst 1 (b_2.map AV.str))), (5, (.int .i64 (i_21 : Int)))]) [] _ from ?_)
      rcases dropc a_1 i_21 with ⟨hie33, hd36⟩ | ⟨hlt31, x_37, hx32, hd36⟩
      · rw [hd36, laws_sameTexts_L1.eq_1] at hc1
        have hq35 := dlf hie33
        refine awp_seq ?_
        refine awp_seq ?_
        refine w_reg ?_
        refine s_do (o_mov (.int .i64 (i_21 : Int)) rfl) ?_
        refine s_do (o_mov (.lst 1 (a_1.map AV.str)) rfl) ?_
        refine s_dof (o_len (enc := AV.str) rfl) fun hl38 => ?_
        refine s_do (o_q (.bool (decide ((i_21 : Int) < (a_1.length : Int)))) rfl rfl rfl) ?_
        refine w_done ?_
        refine k_seq ?_
        refine w_condf rfl hq35 ?_
        refine w_exit ?_
        refine k_seqx ?_
        refine k_loopx ?_
        refine k_blkx ?_
        obtain rfl := os hc1
        exact k_cutn ⟨_, rfl⟩ ⟨[], [], _, _, rfl, rfl, trivial, (.refl _)⟩
      · rw [hd36, laws_sameTexts_L1.eq_2] at hc1
        have hq35 := dlt hlt31
        refine awp_seq ?_
        refine awp_seq ?_
        refine w_reg ?_
        refine s_do (o_mov (.int .i64 (i_21 : Int)) rfl) ?_
        refine s_do (o_mov (.lst 1 (a_1.map AV.str)) rfl) ?_
        refine s_dof (o_len (enc := AV.str) rfl) fun hl39 => ?_
        refine s_do (o_q (.bool (decide ((i_21 : Int) < (a_1.length : Int)))) rfl rfl rfl) ?_
        refine w_done ?_
        refine k_seq ?_
        refine w_condt rfl hq35 ?_
        refine w_skip ?_
        refine k_seq ?_
        refine awp_seq ?_
        refine w_blk ?_
        refine awp_seq ?_
        refine w_reg ?_
        obtain ⟨x_40, ex41, hc1⟩ := ob hc1
        refine s_do (o_mov (.lst 1 (a_1.map AV.str)) rfl) ?_
        refine s_do (o_mov (.int .i64 (i_21 : Int)) rfl) ?_
        refine s_do (o_iaddrn (enc := AV.str) rfl rfl hx32) ?_
        refine s_do (o_q (.str x_37) rfl ⟨rfl, rfl⟩ rfl) ?_
        refine s_do (o_mov (.lst 1 (b_2.map AV.str)) rfl) ?_
        refine s_do (o_mov (.int .i64 (i_21 : Int)) rfl) ?_
        refine s_do (o_iaddr (enc := AV.str) rfl rfl (idx0 ex41) (idx1 ex41)) ?_
        refine s_do (o_q (.str x_40) rfl ⟨rfl, rfl⟩ rfl) ?_
        refine s_do (o_q (.bool (!(x_37 == x_40))) rfl trivial rfl) ?_
        refine w_done ?_
        refine k_seq ?_
        rcases oi hc1 with ⟨c42, hc1⟩ | ⟨c42, hc1⟩
        · refine w_condt rfl c42 ?_
          refine awp_seq ?_
          refine w_reg ?_
          refine s_do (o_mov (.bool false) rfl) ?_
          refine w_done ?_
          refine k_seq ?_
          refine w_ret ?_
          obtain rfl := os hc1
          obtain rfl := os hf
          exact r_flat ⟨trivial, trivial⟩ rfl (.refl _)
        · refine w_condf rfl (bf c42) ?_
          refine w_skip ?_
          refine k_blk ?_
          refine k_seq ?_
          refine w_reg ?_
          refine s_do (o_mov (.int .i64 (i_21 : Int)) rfl) ?_
          refine s_do (o_q (.int .i64 (w64 ((i_21 : Int) + 1))) rfl rfl rfl) ?_
          refine s_do (o_mov (.int .i64 (w64 ((i_21 : Int) + 1))) rfl) ?_
          refine w_done ?_
          exact k_loopn ⟨(i_21 + 1), hc1⟩ (mul hlt31) ⟨[], [], _, _, rfl, rfl, ⟨.refl _, ⟨.refl _, ⟨.of_eq (congrArg (AV.int _) (w64_incr hlt31 hl39)), trivial⟩⟩⟩, (.refl _)⟩
    · rintro ⟨_, rfl⟩
      refine awp_seq ?_
      refine w_reg ?_
      refine s_do (o_mov (.bool true) rfl) ?_
      refine w_done ?_
      refine k_seq ?_
      refine w_ret ?_
      obtain rfl := os hf
      exact r_flat ⟨trivial, trivial⟩ rfl (.refl _)

/- laws.sameJson -/
def c32 : ACode :=
 (.seq (.reg (.q ⟨(some 2), none, .box 5 (.t 0)⟩
 (.q ⟨(some 3), none, .box 5 (.t 1)⟩
 (.q ⟨(some 4), none, .mov (.c (.bool false))⟩
 .done))))
 (.seq (.seq (.reg (.q ⟨(some 6), none, .faddr 0 (.t 2)⟩
 (.q ⟨(some 7), none, .load 1 false (.t 6)⟩
 (.q ⟨(some 8), none, .faddr 0 (.t 3)⟩
 (.q ⟨(some 9), none, .load 1 false (.t 8)⟩
 (.q ⟨(some 10), none, .bin .neq (.t 7) (.t 9)⟩
 (.q ⟨(some 11), none, .mov (.t 10)⟩
 (.q ⟨(some 12), (some (11, false)), .faddr 1 (.t 2)⟩
 (.q ⟨(some 13), (some (11, false)), .load 1 false (.t 12)⟩
 (.q ⟨(some 14), (some (11, false)), .faddr 1 (.t 3)⟩
 (.q ⟨(some 15), (some (11, false)), .load 1 false (.t 14)⟩
 (.q ⟨(some 16), (some (11, false)), .bin .neq (.t 13) (.t 15)⟩
 (.q ⟨(some 17), none, .pick (.t 11) (.c (.bool true)) (.t 16)⟩
 (.q ⟨(some 18), none, .mov (.t 17)⟩
 (.q ⟨(some 19), (some (18, false)), .faddr 2 (.t 2)⟩
 (.q ⟨(some 20), (some (18, false)), .load 1 false (.t 19)⟩
 (.q ⟨(some 21), (some (18, false)), .faddr 2 (.t 3)⟩
 (.q ⟨(some 22), (some (18, false)), .load 1 false (.t 21)⟩
 (.q ⟨(some 23), (some (18, false)), .bin .neq (.t 20) (.t 22)⟩
 (.q ⟨(some 24), none, .pick (.t 18) (.c (.bool true)) (.t 23)⟩
 (.q ⟨(some 25), none, .mov (.t 24)⟩
 (.q ⟨(some 26), (some (25, false)), .faddr 3 (.t 2)⟩
 (.q ⟨(some 27), (some (25, false)), .load 1 false (.t 26)⟩
 (.q ⟨(some 28), (some (25, false)), .faddr 3 (.t 3)⟩
 (.q ⟨(some 29), (some (25, false)), .load 1 false (.t 28)⟩
 (.q ⟨(some 30), (some (25, false)), .call 104 [(.t 27), (.t 29)]⟩
 (.q ⟨(some 31), (some (25, false)), .not (.t 30)⟩
 (.q ⟨(some 32), none, .pick (.t 25) (.c (.bool true)) (.t 31)⟩
 (.q ⟨(some 33), none, .mov (.t 32)⟩
 (.q ⟨(some 34), (some (33, false)), .faddr 4 (.t 2)⟩
 (.q ⟨(some 35), (some (33, false)), .load 1 false (.t 34)⟩
 (.q ⟨(some 36), (some (33, false)), .len (.t 35)⟩
 (.q ⟨(some 37), (some (33, false)), .faddr 4 (.t 3)⟩
 (.q ⟨(some 38), (some (33, false)), .load 1 false (.t 37)⟩
 (.q ⟨(some 39), (some (33, false)), .len (.t 38)⟩
 (.q ⟨(some 40), (some (33, false)), .bin .neq (.t 36) (.t 39)⟩
 (.q ⟨(some 41), none, .pick (.t 33) (.c (.bool true)) (.t 40)⟩
 .done)))))))))))))))))))))))))))))))))))))
 (.cut (.cond (.t 41) (.seq (.reg (.q ⟨(some 4), none, .mov (.c (.bool false))⟩
 .done))
 .ret)
 .skip)))
 (.seq (.seq (.reg (.q ⟨(some 5), none, .mov (.c (.int .i64 0))⟩
 .done))
 (.block 0 (.loop (.seq (.seq (.reg (.q ⟨(some 42), none, .mov (.t 5)⟩
 (.q ⟨(some 43), none, .faddr 4 (.t 2)⟩
 (.q ⟨(some 44), none, .load 1 false (.t 43)⟩
 (.q ⟨(some 45), none, .len (.t 44)⟩
 (.q ⟨(some 46), none, .bin .lss (.t 42) (.t 45)⟩
 .done))))))
 (.cond (.t 46) .skip
 (.exit 0)))
 (.seq (.block 1 (.seq (.reg (.q ⟨(some 49), none, .faddr 4 (.t 2)⟩
 (.q ⟨(some 50), none, .load 1 false (.t 49)⟩
 (.q ⟨(some 51), none, .mov (.t 5)⟩
 (.q ⟨(some 52), none, .iaddr 5 (.t 50) (.t 51)⟩
 (.q ⟨(some 53), none, .load 5 true (.t 52)⟩
 (.q ⟨(some 54), none, .faddr 4 (.t 3)⟩
 (.q ⟨(some 55), none, .load 1 false (.t 54)⟩
 (.q ⟨(some 56), none, .mov (.t 5)⟩
 (.q ⟨(some 57), none, .iaddr 5 (.t 55) (.t 56)⟩
 (.q ⟨(some 58), none, .load 5 true (.t 57)⟩
 (.l ⟨(some 59), none, .call 32 [(.t 53), (.t 58)]⟩ []
 (.q ⟨(some 60), none, .not (.t 59)⟩
 .done) .non))))))))))))
 (.cond (.t 60) (.seq (.reg (.q ⟨(some 4), none, .mov (.c (.bool false))⟩
 .done))
 .ret)
 .skip)))
 (.reg (.q ⟨(some 47), none, .mov (.t 5)⟩
 (.q ⟨(some 48), none, .bin .add (.t 47) (.c (.int .i64 1))⟩
 (.q ⟨(some 5), none, .mov (.t 48)⟩
 .done)))))))))
 (.cut (.seq (.reg (.q ⟨(some 4), none, .mov (.c (.bool true))⟩
 .done))
 .ret)))))
theorem fc32 : fcomp Try.prog Try.f32 = some (c32.erase, [.mov (.t 4)], 61) := by kernel_rfl
def laws_sameJson_B_L1 (b_2 : GJson) (rec : (GJson → GJson → Option Bool)) : List GJson → Nat → Option (Fl Bool Unit)
  | [], i_41 =>
    some (.go ())
  | x_59 :: xs, i_41 =>
    (idx b_2.Items (i_41 : Int)).bind fun x_62 =>
    (rec x_59 x_62).bind fun r_64 =>
    if (!r_64) then
    some (.ret false)
    else
    laws_sameJson_B_L1 b_2 rec xs (i_41 + 1)

def laws_sameJson_B (rec : (GJson → GJson → Option Bool)) (a_1 : GJson) (b_2 : GJson) : Option Bool :=
    ((if (a_1.Kind != b_2.Kind) then
    some true
    else
    if (a_1.N != b_2.N) then
    some true
    else
    if (!(a_1.T == b_2.T)) then
    some true
    else
    (laws_sameTexts a_1.Keys b_2.Keys).bind fun r_16 =>
    if (!r_16) then
    some true
    else
    some ((a_1.Items.length : Int) != (b_2.Items.length : Int)) : Option Bool)).bind fun s41_11 =>
    if s41_11 then
    some false
    else
    (laws_sameJson_B_L1 b_2 rec a_1.Items 0).bind fun q => (match q with
    | .ret r => some r
    | .go _ =>
    some true)
theorem w_laws_sameJson_B (rec : (GJson → GJson → Option Bool)) (hrec : ∀ a0 a1 r, rec a0 a1 = some r → CallOK Try.prog 32 .flat [(encGJson a0), (encGJson a1)] (.bool r)) (a_1 : GJson) (b_2 : GJson) (r : Bool) (hf : laws_sameJson_B rec a_1 b_2 = some r) : CallOK Try.prog 32 .flat [(encGJson a_1), (encGJson b_2)] (.bool r) := by
  refine CallOK.of_awp mixed Try.func32 fc32 nle ?_
  rw [argT_eq]
  rw [encGJson_eq a_1, encGJson_eq b_2]
  unfold laws_sameJson_B at hf
  unfold c32
  refine (show awp Try.prog false 0 _ (ofL [(0, (.agg [(.int .i64 a_1.Kind), (.int .i64 a_1.N), (.str a_1.T), (.lst 1 (a_1.Keys.map AV.str)), (.lst 5 (a_1.Items.map encGJson))])), (1, (.agg [(.int .i64 b_2.Kind), (.int .i64 b_2.N), (.str b_2.T), (.lst 1 (b_2.Keys.map AV.str)), (.lst 5 (b_2.Items.map encGJson))]))]) [] _ from ?_)
  refine awp_seq ?_
  refine w_reg ?_
  refine s_do (o_box (j := 0) (c := (.agg [(.int .i64 a_1.Kind), (.int .i64 a_1.N), (.str a_1.T), (.lst 1 (a_1.Keys.map AV.str)), (.lst 5 (a_1.Items.map encGJson))])) rfl trivial rfl rfl) ?_
  refine s_do (o_box (j := 1) (c := (.agg [(.int .i64 b_2.Kind), (.int .i64 b_2.N), (.str b_2.T), (.lst 1 (b_2.Keys.map AV.str)), (.lst 5 (b_2.Items.map encGJson))])) rfl trivial rfl rfl) ?_
  refine s_do (o_mov (.bool false) rfl) ?_
  refine w_done ?_
  refine k_seq ?_
  refine awp_seq ?_
  refine awp_seq ?_
  obtain ⟨s41_11, hb1, hf⟩ := ob hf
  refine awp_cut ([(2, (.ptr 0 0 0)), (3, (.ptr 1 0 0)), (41, (.bool s41_11))], [.box 5 (.agg [(.int .i64 a_1.Kind), (.int .i64 a_1.N), (.str a_1.T), (.lst 1 (a_1.Keys.map AV.str)), (.lst 5 (a_1.Items.map encGJson))]), .box 5 (.agg [(.int .i64 b_2.Kind), (.int .i64 b_2.N), (.str b_2.T), (.lst 1 (b_2.Keys.map AV.str)), (.lst 5 (b_2.Items.map encGJson))])]) ?_ ?_
  · refine w_reg ?_
    refine s_do (o_q (.ptr 0 0 0) rfl trivial rfl) ?_
    refine s_do (o_q (.int .i64 a_1.Kind) rfl nle rfl) ?_
    refine s_do (o_q (.ptr 1 0 0) rfl trivial rfl) ?_
    refine s_do (o_q (.int .i64 b_2.Kind) rfl nle rfl) ?_
    refine s_do (o_q (.bool (a_1.Kind != b_2.Kind)) rfl rfl rfl) ?_
    refine s_do (o_mov (.bool (a_1.Kind != b_2.Kind)) rfl) ?_
    rcases oi hb1 with ⟨c13, hb1⟩ | ⟨c13, hb1⟩
    · refine s_lit (s := 11) (b := true) rfl c13 ?_
      refine s_off rfl rfl ?_
      refine s_off rfl rfl ?_
      refine s_off rfl rfl ?_
      refine s_off rfl rfl ?_
      refine s_off rfl rfl ?_
      refine s_do (o_q (.bool true) rfl trivial rfl) ?_
      refine s_do (o_mov (.bool true) rfl) ?_
      refine s_off rfl rfl ?_
      refine s_off rfl rfl ?_
      refine s_off rfl rfl ?_
      refine s_off rfl rfl ?_
      refine s_off rfl rfl ?_
      refine s_do (o_q (.bool true) rfl trivial rfl) ?_
      refine s_do (o_mov (.bool true) rfl) ?_
      refine s_off rfl rfl ?_
      refine s_off rfl rfl ?_
      refine s_off rfl rfl ?_
      refine s_off rfl rfl ?_
      refine s_off rfl rfl ?_
      refine s_off rfl rfl ?_
      refine s_do (o_q (.bool true) rfl trivial rfl) ?_
      refine s_do (o_mov (.bool true) rfl) ?_
      refine s_off rfl rfl ?_
      refine s_off rfl rfl ?_
      refine s_off rfl rfl ?_
      refine s_off rfl rfl ?_
      refine s_off rfl rfl ?_
      refine s_off rfl rfl ?_
      refine s_off rfl rfl ?_
      refine s_do (o_q (.bool true) rfl trivial rfl) ?_
      refine w_done ?_
      obtain rfl := os hb1
      exact ⟨[], [0, 1], _, _, rfl, rfl, ⟨.refl _, ⟨.refl _, ⟨.refl _, trivial⟩⟩⟩, (.refl _)⟩
    · refine s_lit (s := 11) (b := false) rfl (bf c13) ?_
      refine s_on rfl ?_
      refine s_do (o_q (.ptr 0 0 1) rfl trivial rfl) ?_
      refine s_on rfl ?_
      refine s_do (o_q (.int .i64 a_1.N) rfl nle rfl) ?_
      refine s_on rfl ?_
      refine s_do (o_q (.ptr 1 0 1) rfl trivial rfl) ?_
      refine s_on rfl ?_
      refine s_do (o_q (.int .i64 b_2.N) rfl nle rfl) ?_
      refine s_on rfl ?_
      refine s_do (o_q (.bool (a_1.N != b_2.N)) rfl rfl rfl) ?_
      refine s_do (o_q (.bool (a_1.N != b_2.N)) rfl trivial rfl) ?_
      refine s_do (o_mov (.bool (a_1.N != b_2.N)) rfl) ?_
      rcases oi hb1 with ⟨c14, hb1⟩ | ⟨c14, hb1⟩
      · refine s_lit (s := 18) (b := true) rfl c14 ?_
        refine s_off rfl rfl ?_
        refine s_off rfl rfl ?_
        refine s_off rfl rfl ?_
        refine s_off rfl rfl ?_
        refine s_off rfl rfl ?_
        refine s_do (o_q (.bool true) rfl trivial rfl) ?_
        refine s_do (o_mov (.bool true) rfl) ?_
        refine s_off rfl rfl ?_
        refine s_off rfl rfl ?_
        refine s_off rfl rfl ?_
        refine s_off rfl rfl ?_
        refine s_off rfl rfl ?_
        refine s_off rfl rfl ?_
        refine s_do (o_q (.bool true) rfl trivial rfl) ?_
        refine s_do (o_mov (.bool true) rfl) ?_
        refine s_off rfl rfl ?_
        refine s_off rfl rfl ?_
        refine s_off rfl rfl ?_
        refine s_off rfl rfl ?_
        refine s_off rfl rfl ?_
        refine s_off rfl rfl ?_
        refine s_off rfl rfl ?_
        refine s_do (o_q (.bool true) rfl trivial rfl) ?_
        refine w_done ?_
        obtain rfl := os hb1
        exact ⟨[], [0, 1], _, _, rfl, rfl, ⟨.refl _, ⟨.refl _, ⟨.refl _, trivial⟩⟩⟩, (.refl _)⟩
      · refine s_lit (s := 18) (b := false) rfl (bf c14) ?_
        refine s_on rfl ?_
        refine s_do (o_q (.ptr 0 0 2) rfl trivial rfl) ?_
        refine s_on rfl ?_
        refine s_do (o_q (.str a_1.T) rfl nle rfl) ?_
        refine s_on rfl ?_
        refine s_do (o_q (.ptr 1 0 2) rfl trivial rfl) ?_
        refine s_on rfl ?_
        refine s_do (o_q (.str b_2.T) rfl nle rfl) ?_
        refine s_on rfl ?_
        refine s_do (o_q (.bool (!(a_1.T == b_2.T))) rfl trivial rfl) ?_
        refine s_do (o_q (.bool (!(a_1.T == b_2.T))) rfl trivial rfl) ?_
        refine s_do (o_mov (.bool (!(a_1.T == b_2.T))) rfl) ?_
        rcases oi hb1 with ⟨c15, hb1⟩ | ⟨c15, hb1⟩
        · refine s_lit (s := 25) (b := true) rfl c15 ?_
          refine s_off rfl rfl ?_
          refine s_off rfl rfl ?_
          refine s_off rfl rfl ?_
          refine s_off rfl rfl ?_
          refine s_off rfl rfl ?_
          refine s_off rfl rfl ?_
          refine s_do (o_q (.bool true) rfl trivial rfl) ?_
          refine s_do (o_mov (.bool true) rfl) ?_
          refine s_off rfl rfl ?_
          refine s_off rfl rfl ?_
          refine s_off rfl rfl ?_
          refine s_off rfl rfl ?_
          refine s_off rfl rfl ?_
          refine s_off rfl rfl ?_
          refine s_off rfl rfl ?_
          refine s_do (o_q (.bool true) rfl trivial rfl) ?_
          refine w_done ?_
          obtain rfl := os hb1
          exact ⟨[], [0, 1], _, _, rfl, rfl, ⟨.refl _, ⟨.refl _, ⟨.refl _, trivial⟩⟩⟩, (.refl _)⟩
        · refine s_lit (s := 25) (b := false) rfl (bf c15) ?_
          refine s_on rfl ?_
          refine s_do (o_q (.ptr 0 0 3) rfl trivial rfl) ?_
          refine s_on rfl ?_
          refine s_do (o_q (.lst 1 (a_1.Keys.map AV.str)) rfl nle rfl) ?_
          refine s_on rfl ?_
          refine s_do (o_q (.ptr 1 0 3) rfl trivial rfl) ?_
          refine s_on rfl ?_
          refine s_do (o_q (.lst 1 (b_2.Keys.map AV.str)) rfl nle rfl) ?_
          refine s_on rfl ?_
          obtain ⟨r_16, er17, hb1⟩ := ob hb1
          refine s_do (o_call (w_laws_sameTexts _ _ _ er17) rfl (.refl _) rfl) ?_
          refine s_on rfl ?_
          refine s_do (o_q (.bool (!r_16)) rfl trivial rfl) ?_
          refine s_do (o_q (.bool (!r_16)) rfl trivial rfl) ?_
          refine s_do (o_mov (.bool (!r_16)) rfl) ?_
          rcases oi hb1 with ⟨c18, hb1⟩ | ⟨c18, hb1⟩
          · refine s_lit (s := 33) (b := true) rfl c18 ?_
            refine s_off rfl rfl ?_
            refine s_off rfl rfl ?_
            refine s_off rfl rfl ?_
            refine s_off rfl rfl ?_
            refine s_off rfl rfl ?_
            refine s_off rfl rfl ?_
            refine s_off rfl rfl ?_
            refine s_do (o_q (.bool true) rfl trivial rfl) ?_
            refine w_done ?_
            obtain rfl := os hb1
            exact ⟨[], [0, 1], _, _, rfl, rfl, ⟨.refl _, ⟨.refl _, ⟨.refl _, trivial⟩⟩⟩, (.refl _)⟩
          · refine s_lit (s := 33) (b := false) rfl (bf c18) ?_
            refine s_on rfl ?_
            refine s_do (o_q (.ptr 0 0 4) rfl trivial rfl) ?_
            refine s_on rfl ?_
            refine s_do (o_q (.lst 5 (a_1.Items.map encGJson)) rfl nle rfl) ?_
            refine s_on rfl ?_
            refine s_dof (o_len (enc := encGJson) rfl) fun hl19 => ?_
            refine s_on rfl ?_
            refine s_do (o_q (.ptr 1 0 4) rfl trivial rfl) ?_
            refine s_on rfl ?_
            refine s_do (o_q (.lst 5 (b_2.Items.map encGJson)) rfl nle rfl) ?_
            refine s_on rfl ?_
            refine s_dof (o_len (enc := encGJson) rfl) fun hl20 => ?_
            refine s_on rfl ?_
            refine s_do (o_q (.bool ((a_1.Items.length : Int) != (b_2.Items.length : Int))) rfl rfl rfl) ?_
            refine s_do (o_q (.bool ((a_1.Items.length : Int) != (b_2.Items.length : Int))) rfl trivial rfl) ?_
            refine w_done ?_
            obtain rfl := os hb1
            exact ⟨[], [0, 1], _, _, rfl, rfl, ⟨.refl _, ⟨.refl _, ⟨.refl _, trivial⟩⟩⟩, (.refl _)⟩
  · rcases oi hf with ⟨c21, hf⟩ | ⟨c21, hf⟩
    · refine w_condt rfl c21 ?_
      refine awp_seq ?_
      refine w_reg ?_
      refine s_do (o_mov (.bool false) rfl) ?_
      refine w_done ?_
      refine k_seq ?_
      refine w_ret ?_
      obtain rfl := os hf
      exact r_flat ⟨trivial, trivial⟩ rfl (.refl _)
    · refine w_condf rfl (bf c21) ?_
      refine w_skip ?_
      refine k_seq ?_
      refine awp_seq ?_
      refine awp_seq ?_
      refine w_reg ?_
      refine s_do (o_mov (.int .i64 0) rfl) ?_
      refine w_done ?_
      refine k_seq ?_
      obtain ⟨p52, hb1, hf⟩ := ob hf
      refine awp_cutx (X := {q : Unit // p52 = .go q}) (fun q => ([], [])) ?_ ?_
      · refine awp_loop (X := {q : Nat // laws_sameJson_B_L1 b_2 rec (a_1.Items.drop q) q = some p52}) (fun q => ([(2, (.ptr 0 0 0)), (3, (.ptr 1 0 0)), (5, (.int .i64 (q.1 : Int)))], [.box 5 (.agg [(.int .i64 a_1.Kind), (.int .i64 a_1.N), (.str a_1.T), (.lst 1 (a_1.Keys.map AV.str)), (.lst 5 (a_1.Items.map encGJson))]), .box 5 (.agg [(.int .i64 b_2.Kind), (.int .i64 b_2.N), (.str b_2.T), (.lst 1 (b_2.Keys.map AV.str)), (.lst 5 (b_2.Items.map encGJson))])])) (fun q => a_1.Items.length - q.1) ⟨0, hb1⟩ ⟨[], [0, 1], _, _, rfl, rfl, ⟨.refl _, ⟨.refl _, ⟨.refl _, trivial⟩⟩⟩, (.refl _)⟩ ?_
        rintro ⟨i_41, hc1⟩
        have hc1 : laws_sameJson_B_L1 b_2 rec (a_1.Items.drop i_41) i_41 = some p52 := hc1
        refine (show awp Try.prog false 0 _ (ofL [(2, (.ptr 0 0 0)), (3, (.ptr 1 0 0)), (5, (.int .i64 (i_41 : Int)))]) [.box 5 (.agg [(.int .i64 a_1.Kind), (.int .i64 a_1.N), (.str a_1.T), (.lst 1 (a_1.Keys.map AV.str)), (.lst 5 (a_1.Items.map encGJson))]), .box 5 (.agg [(.int .i64 b_2.Kind), (.int .i64 b_2.N), (.str b_2.T), (.lst 1 (b_2.Keys.map AV.str)), (.lst 5 (b_2.Items.map encGJson))])] _ from ?_)
        rcases dropc a_1.Items i_41 with ⟨hie55, hd58⟩ | ⟨hlt53, x_59, hx54, hd58⟩
        · rw [hd58, laws_sameJson_B_L1.eq_1] at hc1
          have hq57 := dlf hie55
          refine awp_seq ?_
          refine awp_seq ?_
          refine w_reg ?_
          refine s_do (o_mov (.int .i64 (i_41 : Int)) rfl) ?_
          refine s_do (o_q (.ptr 0 0 4) rfl trivial rfl) ?_
          refine s_do (o_q (.lst 5 (a_1.Items.map encGJson)) rfl nle rfl) ?_
          refine s_dof (o_len (enc := encGJson) rfl) fun hl60 => ?_
          refine s_do (o_q (.bool (decide ((i_41 : Int) < (a_1.Items.length : Int)))) rfl rfl rfl) ?_
          refine w_done ?_
          refine k_seq ?_
          refine w_condf rfl hq57 ?_
          refine w_exit ?_
          refine k_seqx ?_
          refine k_loopx ?_
          refine k_blkx ?_
          obtain rfl := os hc1
          exact k_cutn ⟨_, rfl⟩ ⟨[], [], _, _, rfl, rfl, trivial, (.refl _)⟩
        · rw [hd58, laws_sameJson_B_L1.eq_2] at hc1
          have hq57 := dlt hlt53
          refine awp_seq ?_
          refine awp_seq ?_
          refine w_reg ?_
          refine s_do (o_mov (.int .i64 (i_41 : Int)) rfl) ?_
          refine s_do (o_q (.ptr 0 0 4) rfl trivial rfl) ?_
          refine s_do (o_q (.lst 5 (a_1.Items.map encGJson)) rfl nle rfl) ?_
          refine s_dof (o_len (enc := encGJson) rfl) fun hl61 => ?_
          refine s_do (o_q (.bool (decide ((i_41 : Int) < (a_1.Items.length : Int)))) rfl rfl rfl) ?_
          refine w_done ?_
          refine k_seq ?_
          refine w_condt rfl hq57 ?_
          refine w_skip ?_
          refine k_seq ?_
          refine awp_seq ?_
          refine w_blk ?_
          refine awp_seq ?_
          refine w_reg ?_
          obtain ⟨x_62, ex63, hc1⟩ := ob hc1
          obtain ⟨r_64, er65, hc1⟩ := ob hc1
          refine s_do (o_q (.ptr 0 0 4) rfl trivial rfl) ?_
          refine s_do (o_q (.lst 5 (a_1.Items.map encGJson)) rfl nle rfl) ?_
          refine s_do (o_mov (.int .i64 (i_41 : Int)) rfl) ?_
          refine s_do (o_iaddrn (enc := encGJson) rfl rfl hx54) ?_
          refine s_do (o_loadeq (v := (.agg [(.int .i64 x_59.Kind), (.int .i64 x_59.N), (.str x_59.T), (.lst 1 (x_59.Keys.map AV.str)), (.lst 5 (x_59.Items.map encGJson))])) rfl (encGJson_eq _) nle rfl) ?_
          refine s_do (o_q (.ptr 1 0 4) rfl trivial rfl) ?_
          refine s_do (o_q (.lst 5 (b_2.Items.map encGJson)) rfl nle rfl) ?_
          refine s_do (o_mov (.int .i64 (i_41 : Int)) rfl) ?_
          refine s_do (o_iaddr (enc := encGJson) rfl rfl (idx0 ex63) (idx1 ex63)) ?_
          refine s_do (o_loadeq (v := (.agg [(.int .i64 x_62.Kind), (.int .i64 x_62.N), (.str x_62.T), (.lst 1 (x_62.Keys.map AV.str)), (.lst 5 (x_62.Items.map encGJson))])) rfl (encGJson_eq _) nle rfl) ?_
          refine s_dol (o_call (hrec _ _ _ er65) rfl (.cons (.of_eq (encGJson_eq x_59).symm) (.cons (.of_eq (encGJson_eq x_62).symm) .nil)) rfl) a_same trivial ?_
          refine s_do (o_q (.bool (!r_64)) rfl trivial rfl) ?_
          refine w_done ?_
          refine k_seq ?_
          rcases oi hc1 with ⟨c66, hc1⟩ | ⟨c66, hc1⟩
          · refine w_condt rfl c66 ?_
            refine awp_seq ?_
            refine w_reg ?_
            refine s_do (o_mov (.bool false) rfl) ?_
            refine w_done ?_
            refine k_seq ?_
            refine w_ret ?_
            obtain rfl := os hc1
            obtain rfl := os hf
            exact r_flat ⟨trivial, trivial⟩ rfl (.refl _)
          · refine w_condf rfl (bf c66) ?_
            refine w_skip ?_
            refine k_blk ?_
            refine k_seq ?_
            refine w_reg ?_
            refine s_do (o_mov (.int .i64 (i_41 : Int)) rfl) ?_
            refine s_do (o_q (.int .i64 (w64 ((i_41 : Int) + 1))) rfl rfl rfl) ?_
            refine s_do (o_mov (.int .i64 (w64 ((i_41 : Int) + 1))) rfl) ?_
            refine w_done ?_
            exact k_loopn ⟨(i_41 + 1), hc1⟩ (mul hlt53) ⟨[], [0, 1], _, _, rfl, rfl, ⟨.refl _, ⟨.refl _, ⟨.of_eq (congrArg (AV.int _) (w64_incr hlt53 hl61)), trivial⟩⟩⟩, (.refl _)⟩
      · rintro ⟨_, rfl⟩
        refine awp_seq ?_
        refine w_reg ?_
        refine s_do (o_mov (.bool true) rfl) ?_
        refine w_done ?_
        refine k_seq ?_
        refine w_ret ?_
        obtain rfl := os hf
        exact r_flat ⟨trivial, trivial⟩ rfl (.refl _)
def laws_sameJson : Nat → GJson → GJson → Option Bool
  | 0, _, _ => none
  | k + 1, a_1, b_2 => laws_sameJson_B (laws_sameJson k) a_1 b_2
theorem w_laws_sameJson : ∀ (k : Nat) (a_1 : GJson) (b_2 : GJson) (r : Bool), laws_sameJson k a_1 b_2 = some r → CallOK Try.prog 32 .flat [(encGJson a_1), (encGJson b_2)] (.bool r)
  | 0, a_1, b_2, r, h => by rw [laws_sameJson.eq_1] at h; cases h
  | k + 1, a_1, b_2, r, h => by
    rw [laws_sameJson.eq_2] at h
    exact w_laws_sameJson_B _ (w_laws_sameJson k) a_1 b_2 r h

/- slices.Equal[[]string,string] -/
def c167 : ACode :=
 (.seq (.reg (.q ⟨(some 4), none, .mov (.c (.bool false))⟩
 .done))
 (.seq (.seq (.reg (.q ⟨(some 6), none, .mov (.t 0)⟩
 (.q ⟨(some 7), none, .len (.t 6)⟩
 (.q ⟨(some 8), none, .mov (.t 1)⟩
 (.q ⟨(some 9), none, .len (.t 8)⟩
 (.q ⟨(some 10), none, .bin .neq (.t 7) (.t 9)⟩
 .done))))))
 (.cond (.t 10) (.seq (.reg (.q ⟨(some 4), none, .mov (.c (.bool false))⟩
 .done))
 .ret)
 .skip))
 (.seq (.seq (.reg (.q ⟨(some 11), none, .mov (.t 0)⟩
 (.q ⟨(some 12), none, .len (.t 11)⟩
 (.q ⟨(some 13), none, .mov (.c (.int .i64 0))⟩
 .done))))
 (.block 0 (.loop (.seq (.reg (.q ⟨(some 14), none, .bin .lss (.t 13) (.t 12)⟩
 .done))
 (.seq (.cond (.t 14) .skip
 (.exit 0))
 (.seq (.block 1 (.seq (.reg (.q ⟨(some 15), none, .mov (.t 13)⟩
 (.q ⟨(some 5), none, .mov (.t 15)⟩
 .done)))
 (.seq (.reg (.q ⟨(some 16), none, .mov (.t 0)⟩
 (.q ⟨(some 17), none, .mov (.t 5)⟩
 (.q ⟨(some 18), none, .iaddr 1 (.t 16) (.t 17)⟩
 (.q ⟨(some 19), none, .load 1 false (.t 18)⟩
 (.q ⟨(some 20), none, .mov (.t 1)⟩
 (.q ⟨(some 21), none, .mov (.t 5)⟩
 (.q ⟨(some 22), none, .iaddr 1 (.t 20) (.t 21)⟩
 (.q ⟨(some 23), none, .load 1 false (.t 22)⟩
 (.q ⟨(some 24), none, .bin .neq (.t 19) (.t 23)⟩
 .done))))))))))
 (.cond (.t 24) (.seq (.reg (.q ⟨(some 4), none, .mov (.c (.bool false))⟩
 .done))
 .ret)
 .skip))))
 (.reg (.q ⟨(some 25), none, .bin .add (.t 13) (.c (.int .i64 1))⟩
 (.q ⟨(some 13), none, .mov (.t 25)⟩
 .done)))))))))
 (.cut (.seq (.reg (.q ⟨(some 4), none, .mov (.c (.bool true))⟩
 .done))
 .ret)))))
theorem fc167 : fcomp Try.prog Try.f167 = some (c167.erase, [.mov (.t 4)], 26) := by kernel_rfl
def slices_Equal_string_string_L1 (s2_2 : (List Str)) : List Str → Nat → Option (Fl Bool Unit)
  | [], s13_20 =>
    some (.go ())
  | x_34 :: xs, s13_20 =>
    (idx s2_2 (s13_20 : Int)).bind fun x_35 =>
    if (!(x_34 == x_35)) then
    some (.ret false)
    else
    slices_Equal_string_string_L1 s2_2 xs (s13_20 + 1)

def slices_Equal_string_string (s1_1 : (List Str)) (s2_2 : (List Str)) : Option Bool :=
    if ((s1_1.length : Int) != (s2_2.length : Int)) then
    some false
    else
    (slices_Equal_string_string_L1 s2_2 s1_1 0).bind fun q => (match q with
    | .ret r => some r
    | .go _ =>
    some true)
theorem w_slices_Equal_string_string (s1_1 : (List Str)) (s2_2 : (List Str)) (r : Bool) (hf : slices_Equal_string_string s1_1 s2_2 = some r) : CallOK Try.prog 167 .flat [(.lst 1 (s1_1.map AV.str)), (.lst 1 (s2_2.map AV.str))] (.bool r) := by
  refine CallOK.of_awp mixed Try.func167 fc167 nle ?_
  rw [argT_eq]
  unfold slices_Equal_string_string at hf
  unfold c167
  refine (show awp Try.prog false 0 _ (ofL [(0, (.lst 1 (s1_1.map AV.str))), (1, (.lst 1 (s2_2.map AV.str)))]) [] _ from ?_)
  refine awp_seq ?_
  refine w_reg ?_
  refine s_do (o_mov (.bool false) rfl) ?_
  refine w_done ?_
  refine k_seq ?_
  refine awp_seq ?_
  refine awp_seq ?_
  refine w_reg ?_
  refine s_do (o_mov (.lst 1 (s1_1.map AV.str)) rfl) ?_
  refine s_dof (o_len (enc := AV.str) rfl) fun hl3 => ?_
  refine s_do (o_mov (.lst 1 (s2_2.map AV.str)) rfl) ?_
  refine s_dof (o_len (enc := AV.str) rfl) fun hl4 => ?_
  refine s_do (o_q (.bool ((s1_1.length : Int) != (s2_2.length : Int))) rfl rfl rfl) ?_
  refine w_done ?_
  refine k_seq ?_
  rcases oi hf with ⟨c5, hf⟩ | ⟨c5, hf⟩
  · refine w_condt rfl c5 ?_
    refine awp_seq ?_
    refine w_reg ?_
    refine s_do (o_mov (.bool false) rfl) ?_
    refine w_done ?_
    refine k_seq ?_
    refine w_ret ?_
    obtain rfl := os hf
    exact r_flat ⟨trivial, trivial⟩ rfl (.refl _)
  · refine w_condf rfl (bf c5) ?_
    refine w_skip ?_
    refine k_seq ?_
    refine awp_seq ?_
    refine awp_seq ?_
    refine w_reg ?_
    refine s_do (o_mov (.lst 1 (s1_1.map AV.str)) rfl) ?_
    refine s_dof (o_len (enc := AV.str) rfl) fun hl6 => ?_
    refine s_do (o_mov (.int .i64 0) rfl) ?_
    refine w_done ?_
    refine k_seq ?_
    obtain ⟨p27, hb1, hf⟩ := ob hf
    refine awp_cutx (X := {q : Unit // p27 = .go q}) (fun q => ([], [])) ?_ ?_
    · refine awp_loop (X := {q : Nat // slices_Equal_string_string_L1 s2_2 (s1_1.drop q) q = some p27}) (fun q => ([(0, (.lst 1 (s1_1.map AV.str))), (1, (.lst 1 (s2_2.map AV.str))), (12, (.int .i64 (s1_1.length : Int))), (13, (.int .i64 (q.1 : Int)))], [])) (fun q => s1_1.length - q.1) ⟨0, hb1⟩ ⟨[], [], _, _, rfl, rfl, ⟨.refl _, ⟨.refl _, ⟨.refl _, ⟨.refl _, trivial⟩⟩⟩⟩, (.refl _)⟩ ?_
      rintro ⟨s13_20, hc1⟩
      have hc1 : slices_Equal_string_string_L1 s2_2 (s1_1.drop s13_20) s13_20 = some p27 := hc1
      refine (show awp Try.prog false 0 _ (ofL [(0, (.lst 1 (s1_1.map AV.str))), (1, (.lst 1 (s2_2.map AV.str))), (12, (.int .i64 (s1_1.length : Int))), (13, (.int .i64 (s13_20 : Int)))]) [] _ from ?_)
      rcases dropc s1_1 s13_20 with ⟨hie30, hd33⟩ | ⟨hlt28, x_34, hx29, hd33⟩
      · rw [hd33, slices_Equal_string_string_L1.eq_1] at hc1
        have hq32 := dlf hie30
        refine awp_seq ?_
        refine w_reg ?_
        refine s_do (o_q (.bool (decide ((s13_20 : Int) < (s1_1.length : Int)))) rfl rfl rfl) ?_
        refine w_done ?_
        refine k_seq ?_
        refine awp_seq ?_
        refine w_condf rfl hq32 ?_
        refine w_exit ?_
        refine k_seqx ?_
        refine k_loopx ?_
        refine k_blkx ?_
        obtain rfl := os hc1
        exact k_cutn ⟨_, rfl⟩ ⟨[], [], _, _, rfl, rfl, trivial, (.refl _)⟩
      · rw [hd33, slices_Equal_string_string_L1.eq_2] at hc1
        have hq32 := dlt hlt28
        refine awp_seq ?_
        refine w_reg ?_
        refine s_do (o_q (.bool (decide ((s13_20 : Int) < (s1_1.length : Int)))) rfl rfl rfl) ?_
        refine w_done ?_
        refine k_seq ?_
        refine awp_seq ?_
        refine w_condt rfl hq32 ?_
        refine w_skip ?_
        refine k_seq ?_
        refine awp_seq ?_
        refine w_blk ?_
        refine awp_seq ?_
        refine w_reg ?_
        refine s_do (o_mov (.int .i64 (s13_20 : Int)) rfl) ?_
        refine s_do (o_mov (.int .i64 (s13_20 : Int)) rfl) ?_
        refine w_done ?_
        refine k_seq ?_
        refine awp_seq ?_
        refine w_reg ?_
        obtain ⟨x_35, ex36, hc1⟩ := ob hc1
        refine s_do (o_mov (.lst 1 (s1_1.map AV.str)) rfl) ?_
        refine s_do (o_mov (.int .i64 (s13_20 : Int)) rfl) ?_
        refine s_do (o_iaddrn (enc := AV.str) rfl rfl hx29) ?_
        refine s_do (o_q (.str x_34) rfl ⟨rfl, rfl⟩ rfl) ?_
        refine s_do (o_mov (.lst 1 (s2_2.map AV.str)) rfl) ?_
        refine s_do (o_mov (.int .i64 (s13_20 : Int)) rfl) ?_
        refine s_do (o_iaddr (enc := AV.str) rfl rfl (idx0 ex36) (idx1 ex36)) ?_
        refine s_do (o_q (.str x_35) rfl ⟨rfl, rfl⟩ rfl) ?_
        refine s_do (o_q (.bool (!(x_34 == x_35))) rfl trivial rfl) ?_
        refine w_done ?_
        refine k_seq ?_
        rcases oi hc1 with ⟨c37, hc1⟩ | ⟨c37, hc1⟩
        · refine w_condt rfl c37 ?_
          refine awp_seq ?_
          refine w_reg ?_
          refine s_do (o_mov (.bool false) rfl) ?_
          refine w_done ?_
          refine k_seq ?_
          refine w_ret ?_
          obtain rfl := os hc1
          obtain rfl := os hf
          exact r_flat ⟨trivial, trivial⟩ rfl (.refl _)
        · refine w_condf rfl (bf c37) ?_
          refine w_skip ?_
          refine k_blk ?_
          refine k_seq ?_
          refine w_reg ?_
          refine s_do (o_q (.int .i64 (w64 ((s13_20 : Int) + 1))) rfl rfl rfl) ?_
          refine s_do (o_mov (.int .i64 (w64 ((s13_20 : Int) + 1))) rfl) ?_
          refine w_done ?_
          exact k_loopn ⟨(s13_20 + 1), hc1⟩ (mul hlt28) ⟨[], [], _, _, rfl, rfl, ⟨.refl _, ⟨.refl _, ⟨.refl _, ⟨.of_eq (congrArg (AV.int _) (w64_incr hlt28 hl6)), trivial⟩⟩⟩⟩, (.refl _)⟩
    · rintro ⟨_, rfl⟩
      refine awp_seq ?_
      refine w_reg ?_
      refine s_do (o_mov (.bool true) rfl) ?_
      refine w_done ?_
      refine k_seq ?_
      refine w_ret ?_
      obtain rfl := os hf
      exact r_flat ⟨trivial, trivial⟩ rfl (.refl _)

/- slices.EqualFunc[[]impl.Json,[]impl.Json,impl.Json,impl.Json] -/
def c168 : ACode :=
 (.seq (.reg (.q ⟨(some 6), none, .mov (.c (.bool false))⟩
 .done))
 (.seq (.seq (.reg (.q ⟨(some 10), none, .mov (.t 0)⟩
 (.q ⟨(some 11), none, .len (.t 10)⟩
 (.q ⟨(some 12), none, .mov (.t 1)⟩
 (.q ⟨(some 13), none, .len (.t 12)⟩
 (.q ⟨(some 14), none, .bin .neq (.t 11) (.t 13)⟩
 .done))))))
 (.cond (.t 14) (.seq (.reg (.q ⟨(some 6), none, .mov (.c (.bool false))⟩
 .done))
 .ret)
 .skip))
 (.seq (.seq (.reg (.q ⟨(some 15), none, .mov (.t 0)⟩
 (.q ⟨(some 16), none, .len (.t 15)⟩
 (.q ⟨(some 17), none, .mov (.c (.int .i64 0))⟩
 .done))))
 (.block 0 (.loop (.seq (.reg (.q ⟨(some 18), none, .bin .lss (.t 17) (.t 16)⟩
 .done))
 (.seq (.cond (.t 18) .skip
 (.exit 0))
 (.seq (.block 1 (.seq (.reg (.q ⟨(some 19), none, .mov (.t 17)⟩
 (.q ⟨(some 20), none, .iaddr 5 (.t 15) (.t 17)⟩
 (.q ⟨(some 21), none, .load 5 true (.t 20)⟩
 (.q ⟨(some 8), none, .box 5 (.c (.agg [(.int .i64 0), (.int .i64 0), (.str []), .nil, .nil]))⟩
 (.q ⟨(some 7), none, .mov (.t 19)⟩
 (.q ⟨none, none, .store 5 (.t 8) (.t 21)⟩
 .done)))))))
 (.seq (.reg (.q ⟨(some 22), none, .mov (.t 1)⟩
 (.q ⟨(some 23), none, .mov (.t 7)⟩
 (.q ⟨(some 24), none, .iaddr 5 (.t 22) (.t 23)⟩
 (.q ⟨(some 25), none, .load 5 true (.t 24)⟩
 (.q ⟨(some 9), none, .box 5 (.c (.agg [(.int .i64 0), (.int .i64 0), (.str []), .nil, .nil]))⟩
 (.q ⟨none, none, .store 5 (.t 9) (.t 25)⟩
 .done)))))))
 (.seq (.reg (.q ⟨(some 26), none, .mov (.t 2)⟩
 (.q ⟨(some 27), none, .load 5 true (.t 8)⟩
 (.q ⟨(some 28), none, .load 5 true (.t 9)⟩
 (.q ⟨(some 29), none, .calv (.t 26) [(.t 27), (.t 28)]⟩
 (.q ⟨(some 30), none, .not (.t 29)⟩
 .done))))))
 (.cond (.t 30) (.seq (.reg (.q ⟨(some 6), none, .mov (.c (.bool false))⟩
 .done))
 .ret)
 .skip)))))
 (.reg (.q ⟨(some 31), none, .bin .add (.t 17) (.c (.int .i64 1))⟩
 (.q ⟨(some 17), none, .mov (.t 31)⟩
 .done)))))))))
 (.cut (.seq (.reg (.q ⟨(some 6), none, .mov (.c (.bool true))⟩
 .done))
 .ret)))))
theorem fc168 : fcomp Try.prog Try.f168 = some (c168.erase, [.mov (.t 6)], 32) := by kernel_rfl
def slices_EqualFunc_impl_Json_impl_Json_impl_Json_impl_Json_L1 (s2_2 : (List GJson)) (eq_3 : (GJson → GJson → Option Bool)) : List GJson → Nat → Option (Fl Bool Unit)
  | [], s17_25 =>
    some (.go ())
  | x_41 :: xs, s17_25 =>
    (idx s2_2 (s17_25 : Int)).bind fun x_42 =>
    (eq_3 x_41 x_42).bind fun r_44 =>
    if (!r_44) then
    some (.ret false)
    else
    slices_EqualFunc_impl_Json_impl_Json_impl_Json_impl_Json_L1 s2_2 eq_3 xs (s17_25 + 1)

def slices_EqualFunc_impl_Json_impl_Json_impl_Json_impl_Json (s1_1 : (List GJson)) (s2_2 : (List GJson)) (eq_3 : (GJson → GJson → Option Bool)) : Option Bool :=
    if ((s1_1.length : Int) != (s2_2.length : Int)) then
    some false
    else
    (slices_EqualFunc_impl_Json_impl_Json_impl_Json_impl_Json_L1 s2_2 eq_3 s1_1 0).bind fun q => (match q with
    | .ret r => some r
    | .go _ =>
    some true)
theorem w_slices_EqualFunc_impl_Json_impl_Json_impl_Json_impl_Json (s1_1 : (List GJson)) (s2_2 : (List GJson)) (eq_3 : (GJson → GJson → Option Bool)) (r : Bool) (hf : slices_EqualFunc_impl_Json_impl_Json_impl_Json_impl_Json s1_1 s2_2 eq_3 = some r) (kf_eq_3 : Nat) (cf_eq_3 : List AV) (okf_eq_3 : okFn Try.prog kf_eq_3 = true) (hcf_eq_3 : ∀ h p, closeWs h p cf_eq_3 = some cf_eq_3) (hrf_eq_3 : ∀ f, rens f cf_eq_3 = cf_eq_3) (hpf_eq_3 : ∀ a0 a1 r, eq_3 a0 a1 = some r → CallOK Try.prog kf_eq_3 .flat ([(encGJson a0), (encGJson a1)] ++ cf_eq_3) (.bool r)) : CallOK Try.prog 168 .flat [(.lst 5 (s1_1.map encGJson)), (.lst 5 (s2_2.map encGJson)), (.fn kf_eq_3 cf_eq_3)] (.bool r) := by
  refine CallOK.of_awp mixed Try.func168 fc168 nle ?_
  rw [argT_eq]
  unfold slices_EqualFunc_impl_Json_impl_Json_impl_Json_impl_Json at hf
  unfold c168
  refine (show awp Try.prog false 0 _ (ofL [(0, (.lst 5 (s1_1.map encGJson))), (1, (.lst 5 (s2_2.map encGJson))), (2, (.fn kf_eq_3 cf_eq_3))]) [] _ from ?_)
  refine awp_seq ?_
  refine w_reg ?_
  refine s_do (o_mov (.bool false) rfl) ?_
  refine w_done ?_
  refine k_seq ?_
  refine awp_seq ?_
  refine awp_seq ?_
  refine w_reg ?_
  refine s_do (o_mov (.lst 5 (s1_1.map encGJson)) rfl) ?_
  refine s_dof (o_len (enc := encGJson) rfl) fun hl4 => ?_
  refine s_do (o_mov (.lst 5 (s2_2.map encGJson)) rfl) ?_
  refine s_dof (o_len (enc := encGJson) rfl) fun hl5 => ?_
  refine s_do (o_q (.bool ((s1_1.length : Int) != (s2_2.length : Int))) rfl rfl rfl) ?_
  refine w_done ?_
  refine k_seq ?_
  rcases oi hf with ⟨c6, hf⟩ | ⟨c6, hf⟩
  · refine w_condt rfl c6 ?_
    refine awp_seq ?_
    refine w_reg ?_
    refine s_do (o_mov (.bool false) rfl) ?_
    refine w_done ?_
    refine k_seq ?_
    refine w_ret ?_
    obtain rfl := os hf
    exact r_flat ⟨trivial, trivial⟩ rfl (.refl _)
  · refine w_condf rfl (bf c6) ?_
    refine w_skip ?_
    refine k_seq ?_
    refine awp_seq ?_
    refine awp_seq ?_
    refine w_reg ?_
    refine s_do (o_mov (.lst 5 (s1_1.map encGJson)) rfl) ?_
    refine s_dof (o_len (enc := encGJson) rfl) fun hl7 => ?_
    refine s_do (o_mov (.int .i64 0) rfl) ?_
    refine w_done ?_
    refine k_seq ?_
    obtain ⟨p34, hb1, hf⟩ := ob hf
    refine awp_cutx (X := {q : Unit // p34 = .go q}) (fun q => ([], [])) ?_ ?_
    · refine awp_loop (X := {q : Nat // slices_EqualFunc_impl_Json_impl_Json_impl_Json_impl_Json_L1 s2_2 eq_3 (s1_1.drop q) q = some p34}) (fun q => ([(1, (.lst 5 (s2_2.map encGJson))), (2, (.fn kf_eq_3 cf_eq_3)), (15, (.lst 5 (s1_1.map encGJson))), (16, (.int .i64 (s1_1.length : Int))), (17, (.int .i64 (q.1 : Int)))], [])) (fun q => s1_1.length - q.1) ⟨0, hb1⟩ ⟨[], [], _, _, rfl, rfl, ⟨.refl _, ⟨.of_eq (congrArg (AV.fn _) (hrf_eq_3 _)), ⟨.refl _, ⟨.refl _, ⟨.refl _, trivial⟩⟩⟩⟩⟩, (.refl _)⟩ ?_
      rintro ⟨s17_25, hc1⟩
      have hc1 : slices_EqualFunc_impl_Json_impl_Json_impl_Json_impl_Json_L1 s2_2 eq_3 (s1_1.drop s17_25) s17_25 = some p34 := hc1
      refine (show awp Try.prog false 0 _ (ofL [(1, (.lst 5 (s2_2.map encGJson))), (2, (.fn kf_eq_3 cf_eq_3)), (15, (.lst 5 (s1_1.map encGJson))), (16, (.int .i64 (s1_1.length : Int))), (17, (.int .i64 (s17_25 : Int)))]) [] _ from ?_)
      rcases dropc s1_1 s17_25 with ⟨hie37, hd40⟩ | ⟨hlt35, x_41, hx36, hd40⟩
      · rw [hd40, slices_EqualFunc_impl_Json_impl_Json_impl_Json_impl_Json_L1.eq_1] at hc1
        have hq39 := dlf hie37
        refine awp_seq ?_
        refine w_reg ?_
        refine s_do (o_q (.bool (decide ((s17_25 : Int) < (s1_1.length : Int)))) rfl rfl rfl) ?_
        refine w_done ?_
        refine k_seq ?_
        refine awp_seq ?_
        refine w_condf rfl hq39 ?_
        refine w_exit ?_
        refine k_seqx ?_
        refine k_loopx ?_
        refine k_blkx ?_
        obtain rfl := os hc1
        exact k_cutn ⟨_, rfl⟩ ⟨[], [], _, _, rfl, rfl, trivial, (.refl _)⟩
      · rw [hd40, slices_EqualFunc_impl_Json_impl_Json_impl_Json_impl_Json_L1.eq_2] at hc1
        have hq39 := dlt hlt35
        refine awp_seq ?_
        refine w_reg ?_
        refine s_do (o_q (.bool (decide ((s17_25 : Int) < (s1_1.length : Int)))) rfl rfl rfl) ?_
        refine w_done ?_
        refine k_seq ?_
        refine awp_seq ?_
        refine w_condt rfl hq39 ?_
        refine w_skip ?_
        refine k_seq ?_
        refine awp_seq ?_
        refine w_blk ?_
        refine awp_seq ?_
        refine w_reg ?_
        refine s_do (o_mov (.int .i64 (s17_25 : Int)) rfl) ?_
        refine s_do (o_iaddrn (enc := encGJson) rfl rfl hx36) ?_
        refine s_do (o_loadeq (v := (.agg [(.int .i64 x_41.Kind), (.int .i64 x_41.N), (.str x_41.T), (.lst 1 (x_41.Keys.map AV.str)), (.lst 5 (x_41.Items.map encGJson))])) rfl (encGJson_eq _) nle rfl) ?_
        refine s_do (o_box (j := 0) (c := (.agg [(.int .i64 0), (.int .i64 0), (.str []), .nil, .nil])) rfl trivial rfl rfl) ?_
        refine s_do (o_mov (.int .i64 (s17_25 : Int)) rfl) ?_
        refine s_do0 (o_storebox (v := (.agg [(.int .i64 x_41.Kind), (.int .i64 x_41.N), (.str x_41.T), (.lst 1 (x_41.Keys.map AV.str)), (.lst 5 (x_41.Items.map encGJson))])) (y' := (.agg [(.int .i64 x_41.Kind), (.int .i64 x_41.N), (.str x_41.T), (.lst 1 (x_41.Keys.map AV.str)), (.lst 5 (x_41.Items.map encGJson))])) rfl rfl rfl trivial ⟨rfl, nle⟩ ⟨⟨rfl, trivial⟩, ⟨⟨rfl, trivial⟩, ⟨⟨rfl, trivial⟩, ⟨⟨rfl, trivial⟩, ⟨⟨rfl, trivial⟩, trivial⟩⟩⟩⟩⟩ rfl) ?_
        refine w_done ?_
        refine k_seq ?_
        refine awp_seq ?_
        refine w_reg ?_
        obtain ⟨x_42, ex43, hc1⟩ := ob hc1
        refine s_do (o_mov (.lst 5 (s2_2.map encGJson)) rfl) ?_
        refine s_do (o_mov (.int .i64 (s17_25 : Int)) rfl) ?_
        refine s_do (o_iaddr (enc := encGJson) rfl rfl (idx0 ex43) (idx1 ex43)) ?_
        refine s_do (o_loadeq (v := (.agg [(.int .i64 x_42.Kind), (.int .i64 x_42.N), (.str x_42.T), (.lst 1 (x_42.Keys.map AV.str)), (.lst 5 (x_42.Items.map encGJson))])) rfl (encGJson_eq _) nle rfl) ?_
        refine s_do (o_box (j := 1) (c := (.agg [(.int .i64 0), (.int .i64 0), (.str []), .nil, .nil])) rfl trivial rfl rfl) ?_
        refine s_do0 (o_storebox (v := (.agg [(.int .i64 x_42.Kind), (.int .i64 x_42.N), (.str x_42.T), (.lst 1 (x_42.Keys.map AV.str)), (.lst 5 (x_42.Items.map encGJson))])) (y' := (.agg [(.int .i64 x_42.Kind), (.int .i64 x_42.N), (.str x_42.T), (.lst 1 (x_42.Keys.map AV.str)), (.lst 5 (x_42.Items.map encGJson))])) rfl rfl rfl trivial ⟨rfl, nle⟩ ⟨⟨rfl, trivial⟩, ⟨⟨rfl, trivial⟩, ⟨⟨rfl, trivial⟩, ⟨⟨rfl, trivial⟩, ⟨⟨rfl, trivial⟩, trivial⟩⟩⟩⟩⟩ rfl) ?_
        refine w_done ?_
        refine k_seq ?_
        refine awp_seq ?_
        refine w_reg ?_
        obtain ⟨r_44, er45, hc1⟩ := ob hc1
        refine s_do (o_mov (.fn kf_eq_3 cf_eq_3) rfl) ?_
        refine s_do (o_q (.agg [(.int .i64 x_41.Kind), (.int .i64 x_41.N), (.str x_41.T), (.lst 1 (x_41.Keys.map AV.str)), (.lst 5 (x_41.Items.map encGJson))]) rfl nle rfl) ?_
        refine s_do (o_q (.agg [(.int .i64 x_42.Kind), (.int .i64 x_42.N), (.str x_42.T), (.lst 1 (x_42.Keys.map AV.str)), (.lst 5 (x_42.Items.map encGJson))]) rfl nle rfl) ?_
        refine s_do (o_calvp (v := (.bool r_44)) rfl okf_eq_3 hcf_eq_3 (hpf_eq_3 _ _ _ er45) rfl (.cons (.of_eq (encGJson_eq x_41).symm) (.cons (.of_eq (encGJson_eq x_42).symm) .nil)) rfl) ?_
        refine s_do (o_q (.bool (!r_44)) rfl trivial rfl) ?_
        refine w_done ?_
        refine k_seq ?_
        rcases oi hc1 with ⟨c46, hc1⟩ | ⟨c46, hc1⟩
        · refine w_condt rfl c46 ?_
          refine awp_seq ?_
          refine w_reg ?_
          refine s_do (o_mov (.bool false) rfl) ?_
          refine w_done ?_
          refine k_seq ?_
          refine w_ret ?_
          obtain rfl := os hc1
          obtain rfl := os hf
          exact r_flat ⟨trivial, trivial⟩ rfl (.refl _)
        · refine w_condf rfl (bf c46) ?_
          refine w_skip ?_
          refine k_blk ?_
          refine k_seq ?_
          refine w_reg ?_
          refine s_do (o_q (.int .i64 (w64 ((s17_25 : Int) + 1))) rfl rfl rfl) ?_
          refine s_do (o_mov (.int .i64 (w64 ((s17_25 : Int) + 1))) rfl) ?_
          refine w_done ?_
          exact k_loopn ⟨(s17_25 + 1), hc1⟩ (mul hlt35) ⟨[], [], _, _, rfl, rfl, ⟨.refl _, ⟨.of_eq (congrArg (AV.fn _) (hrf_eq_3 _)), ⟨.refl _, ⟨.refl _, ⟨.of_eq (congrArg (AV.int _) (w64_incr hlt35 hl7)), trivial⟩⟩⟩⟩⟩, (.refl _)⟩
    · rintro ⟨_, rfl⟩
      refine awp_seq ?_
      refine w_reg ?_
      refine s_do (o_mov (.bool true) rfl) ?_
      refine w_done ?_
      refine k_seq ?_
      refine w_ret ?_
      obtain rfl := os hf
      exact r_flat ⟨trivial, trivial⟩ rfl (.refl _)

/- (impl.Json).same -/
def c105 : ACode :=
 (.seq (.reg (.q ⟨(some 2), none, .box 5 (.t 0)⟩
 (.q ⟨(some 3), none, .box 5 (.t 1)⟩
 (.q ⟨(some 4), none, .mov (.c (.bool false))⟩
 .done))))
 (.seq (.reg (.q ⟨(some 5), none, .faddr 0 (.t 2)⟩
 (.q ⟨(some 6), none, .load 1 false (.t 5)⟩
 (.q ⟨(some 7), none, .faddr 0 (.t 3)⟩
 (.q ⟨(some 8), none, .load 1 false (.t 7)⟩
 (.q ⟨(some 9), none, .bin .eql (.t 6) (.t 8)⟩
 (.q ⟨(some 10), none, .mov (.t 9)⟩
 (.q ⟨(some 11), (some (10, true)), .faddr 1 (.t 2)⟩
 (.q ⟨(some 12), (some (10, true)), .load 1 false (.t 11)⟩
 (.q ⟨(some 13), (some (10, true)), .faddr 1 (.t 3)⟩
 (.q ⟨(some 14), (some (10, true)), .load 1 false (.t 13)⟩
 (.q ⟨(some 15), (some (10, true)), .bin .eql (.t 12) (.t 14)⟩
 (.q ⟨(some 16), none, .pick (.t 10) (.t 15) (.c (.bool false))⟩
 (.q ⟨(some 17), none, .mov (.t 16)⟩
 (.q ⟨(some 18), (some (17, true)), .faddr 2 (.t 2)⟩
 (.q ⟨(some 19), (some (17, true)), .load 1 false (.t 18)⟩
 (.q ⟨(some 20), (some (17, true)), .faddr 2 (.t 3)⟩
 (.q ⟨(some 21), (some (17, true)), .load 1 false (.t 20)⟩
 (.q ⟨(some 22), (some (17, true)), .bin .eql (.t 19) (.t 21)⟩
 (.q ⟨(some 23), none, .pick (.t 17) (.t 22) (.c (.bool false))⟩
 (.q ⟨(some 24), none, .mov (.t 23)⟩
 (.q ⟨(some 25), (some (24, true)), .faddr 3 (.t 2)⟩
 (.q ⟨(some 26), (some (24, true)), .load 1 false (.t 25)⟩
 (.q ⟨(some 27), (some (24, true)), .faddr 3 (.t 3)⟩
 (.q ⟨(some 28), (some (24, true)), .load 1 false (.t 27)⟩
 (.q ⟨(some 29), (some (24, true)), .call 167 [(.t 26), (.t 28)]⟩
 (.q ⟨(some 30), none, .pick (.t 24) (.t 29) (.c (.bool false))⟩
 (.q ⟨(some 31), none, .mov (.t 30)⟩
 (.q ⟨(some 32), (some (31, true)), .faddr 4 (.t 2)⟩
 (.q ⟨(some 33), (some (31, true)), .load 1 false (.t 32)⟩
 (.q ⟨(some 34), (some (31, true)), .faddr 4 (.t 3)⟩
 (.q ⟨(some 35), (some (31, true)), .load 1 false (.t 34)⟩
 (.q ⟨(some 36), (some (31, true)), .call 168 [(.t 33), (.t 35), (.c (.fn 105 []))]⟩
 (.q ⟨(some 37), none, .pick (.t 31) (.t 36) (.c (.bool false))⟩
 (.q ⟨(some 4), none, .mov (.t 37)⟩
 .done)))))))))))))))))))))))))))))))))))
 .ret))
theorem fc105 : fcomp Try.prog Try.f105 = some (c105.erase, [.mov (.t 4)], 38) := by kernel_rfl
def impl_Json_same_B (rec : (GJson → GJson → Option Bool)) (j_1 : GJson) (k_2 : GJson) : Option Bool :=
    if (j_1.Kind == k_2.Kind) then
    if (j_1.N == k_2.N) then
    if (j_1.T == k_2.T) then
    (slices_Equal_string_string j_1.Keys k_2.Keys).bind fun r_6 =>
    if r_6 then
    (slices_EqualFunc_impl_Json_impl_Json_impl_Json_impl_Json j_1.Items k_2.Items rec).bind fun r_9 =>
    some r_9
    else
    some false
    else
    some false
    else
    some false
    else
    some false
theorem w_impl_Json_same_B (rec : (GJson → GJson → Option Bool)) (hrec : ∀ a0 a1 r, rec a0 a1 = some r → CallOK Try.prog 105 .flat [(encGJson a0), (encGJson a1)] (.bool r)) (j_1 : GJson) (k_2 : GJson) (r : Bool) (hf : impl_Json_same_B rec j_1 k_2 = some r) : CallOK Try.prog 105 .flat [(encGJson j_1), (encGJson k_2)] (.bool r) := by
  refine CallOK.of_awp mixed Try.func105 fc105 nle ?_
  rw [argT_eq]
  rw [encGJson_eq j_1, encGJson_eq k_2]
  unfold impl_Json_same_B at hf
  unfold c105
  refine (show awp Try.prog false 0 _ (ofL [(0, (.agg [(.int .i64 j_1.Kind), (.int .i64 j_1.N), (.str j_1.T), (.lst 1 (j_1.Keys.map AV.str)), (.lst 5 (j_1.Items.map encGJson))])), (1, (.agg [(.int .i64 k_2.Kind), (.int .i64 k_2.N), (.str k_2.T), (.lst 1 (k_2.Keys.map AV.str)), (.lst 5 (k_2.Items.map encGJson))]))]) [] _ from ?_)
  refine awp_seq ?_
  refine w_reg ?_
  refine s_do (o_box (j := 0) (c := (.agg [(.int .i64 j_1.Kind), (.int .i64 j_1.N), (.str j_1.T), (.lst 1 (j_1.Keys.map AV.str)), (.lst 5 (j_1.Items.map encGJson))])) rfl trivial rfl rfl) ?_
  refine s_do (o_box (j := 1) (c := (.agg [(.int .i64 k_2.Kind), (.int .i64 k_2.N), (.str k_2.T), (.lst 1 (k_2.Keys.map AV.str)), (.lst 5 (k_2.Items.map encGJson))])) rfl trivial rfl rfl) ?_
  refine s_do (o_mov (.bool false) rfl) ?_
  refine w_done ?_
  refine k_seq ?_
  refine awp_seq ?_
  refine w_reg ?_
  refine s_do (o_q (.ptr 0 0 0) rfl trivial rfl) ?_
  refine s_do (o_q (.int .i64 j_1.Kind) rfl nle rfl) ?_
  refine s_do (o_q (.ptr 1 0 0) rfl trivial rfl) ?_
  refine s_do (o_q (.int .i64 k_2.Kind) rfl nle rfl) ?_
  refine s_do (o_q (.bool (j_1.Kind == k_2.Kind)) rfl rfl rfl) ?_
  refine s_do (o_mov (.bool (j_1.Kind == k_2.Kind)) rfl) ?_
  rcases oi hf with ⟨c3, hf⟩ | ⟨c3, hf⟩
  · refine s_lit (s := 10) (b := true) rfl c3 ?_
    refine s_on rfl ?_
    refine s_do (o_q (.ptr 0 0 1) rfl trivial rfl) ?_
    refine s_on rfl ?_
    refine s_do (o_q (.int .i64 j_1.N) rfl nle rfl) ?_
    refine s_on rfl ?_
    refine s_do (o_q (.ptr 1 0 1) rfl trivial rfl) ?_
    refine s_on rfl ?_
    refine s_do (o_q (.int .i64 k_2.N) rfl nle rfl) ?_
    refine s_on rfl ?_
    refine s_do (o_q (.bool (j_1.N == k_2.N)) rfl rfl rfl) ?_
    refine s_do (o_q (.bool (j_1.N == k_2.N)) rfl trivial rfl) ?_
    refine s_do (o_mov (.bool (j_1.N == k_2.N)) rfl) ?_
    rcases oi hf with ⟨c4, hf⟩ | ⟨c4, hf⟩
    · refine s_lit (s := 17) (b := true) rfl c4 ?_
      refine s_on rfl ?_
      refine s_do (o_q (.ptr 0 0 2) rfl trivial rfl) ?_
      refine s_on rfl ?_
      refine s_do (o_q (.str j_1.T) rfl nle rfl) ?_
      refine s_on rfl ?_
      refine s_do (o_q (.ptr 1 0 2) rfl trivial rfl) ?_
      refine s_on rfl ?_
      refine s_do (o_q (.str k_2.T) rfl nle rfl) ?_
      refine s_on rfl ?_
      refine s_do (o_q (.bool (j_1.T == k_2.T)) rfl trivial rfl) ?_
      refine s_do (o_q (.bool (j_1.T == k_2.T)) rfl trivial rfl) ?_
      refine s_do (o_mov (.bool (j_1.T == k_2.T)) rfl) ?_
      rcases oi hf with ⟨c5, hf⟩ | ⟨c5, hf⟩
      · refine s_lit (s := 24) (b := true) rfl c5 ?_
        refine s_on rfl ?_
        refine s_do (o_q (.ptr 0 0 3) rfl trivial rfl) ?_
        refine s_on rfl ?_
        refine s_do (o_q (.lst 1 (j_1.Keys.map AV.str)) rfl nle rfl) ?_
        refine s_on rfl ?_
        refine s_do (o_q (.ptr 1 0 3) rfl trivial rfl) ?_
        refine s_on rfl ?_
        refine s_do (o_q (.lst 1 (k_2.Keys.map AV.str)) rfl nle rfl) ?_
        refine s_on rfl ?_
        obtain ⟨r_6, er7, hf⟩ := ob hf
        refine s_do (o_call (w_slices_Equal_string_string _ _ _ er7) rfl (.refl _) rfl) ?_
        refine s_do (o_q (.bool r_6) rfl trivial rfl) ?_
        refine s_do (o_mov (.bool r_6) rfl) ?_
        rcases oi hf with ⟨c8, hf⟩ | ⟨c8, hf⟩
        · refine s_lit (s := 31) (b := true) rfl c8 ?_
          refine s_on rfl ?_
          refine s_do (o_q (.ptr 0 0 4) rfl trivial rfl) ?_
          refine s_on rfl ?_
          refine s_do (o_q (.lst 5 (j_1.Items.map encGJson)) rfl nle rfl) ?_
          refine s_on rfl ?_
          refine s_do (o_q (.ptr 1 0 4) rfl trivial rfl) ?_
          refine s_on rfl ?_
          refine s_do (o_q (.lst 5 (k_2.Items.map encGJson)) rfl nle rfl) ?_
          refine s_on rfl ?_
          obtain ⟨r_9, er10, hf⟩ := ob hf
          refine s_do (o_call (w_slices_EqualFunc_impl_Json_impl_Json_impl_Json_impl_Json _ _ _ _ er10 105 [] (by kernel_rfl) (fun _ _ => rfl) (fun _ => rfl) (fun a0 a1 r h => hrec a0 a1 r h)) rfl (.refl _) rfl) ?_
          refine s_do (o_q (.bool r_9) rfl trivial rfl) ?_
          refine s_do (o_mov (.bool r_9) rfl) ?_
          refine w_done ?_
          refine k_seq ?_
          refine w_ret ?_
          obtain rfl := os hf
          exact r_flat ⟨trivial, trivial⟩ rfl (.refl _)
        · refine s_lit (s := 31) (b := false) rfl (bf c8) ?_
          refine s_off rfl rfl ?_
          refine s_off rfl rfl ?_
          refine s_off rfl rfl ?_
          refine s_off rfl rfl ?_
          refine s_off rfl rfl ?_
          refine s_do (o_q (.bool false) rfl trivial rfl) ?_
          refine s_do (o_mov (.bool false) rfl) ?_
          refine w_done ?_
          refine k_seq ?_
          refine w_ret ?_
          obtain rfl := os hf
          exact r_flat ⟨trivial, trivial⟩ rfl (.refl _)
      · refine s_lit (s := 24) (b := false) rfl (bf c5) ?_
        refine s_off rfl rfl ?_
        refine s_off rfl rfl ?_
        refine s_off rfl rfl ?_
        refine s_off rfl rfl ?_
        refine s_off rfl rfl ?_
        refine s_do (o_q (.bool false) rfl trivial rfl) ?_
        refine s_do (o_mov (.bool false) rfl) ?_
        refine s_off rfl rfl ?_
        refine s_off rfl rfl ?_
        refine s_off rfl rfl ?_
        refine s_off rfl rfl ?_
        refine s_off rfl rfl ?_
        refine s_do (o_q (.bool false) rfl trivial rfl) ?_
        refine s_do (o_mov (.bool false) rfl) ?_
        refine w_done ?_
        refine k_seq ?_
        refine w_ret ?_
        obtain rfl := os hf
        exact r_flat ⟨trivial, trivial⟩ rfl (.refl _)
    · refine s_lit (s := 17) (b := false) rfl (bf c4) ?_
      refine s_off rfl rfl ?_
      refine s_off rfl rfl ?_
      refine s_off rfl rfl ?_
      refine s_off rfl rfl ?_
      refine s_off rfl rfl ?_
      refine s_do (o_q (.bool false) rfl trivial rfl) ?_
      refine s_do (o_mov (.bool false) rfl) ?_
      refine s_off rfl rfl ?_
      refine s_off rfl rfl ?_
      refine s_off rfl rfl ?_
      refine s_off rfl rfl ?_
      refine s_off rfl rfl ?_
      refine s_do (o_q (.bool false) rfl trivial rfl) ?_
      refine s_do (o_mov (.bool false) rfl) ?_
      refine s_off rfl rfl ?_
      refine s_off rfl rfl ?_
      refine s_off rfl rfl ?_
      refine s_off rfl rfl ?_
      refine s_off rfl rfl ?_
      refine s_do (o_q (.bool false) rfl trivial rfl) ?_
      refine s_do (o_mov (.bool false) rfl) ?_
      refine w_done ?_
      refine k_seq ?_
      refine w_ret ?_
      obtain rfl := os hf
      exact r_flat ⟨trivial, trivial⟩ rfl (.refl _)
  · refine s_lit (s := 10) (b := false) rfl (bf c3) ?_
    refine s_off rfl rfl ?_
    refine s_off rfl rfl ?_
    refine s_off rfl rfl ?_
    refine s_off rfl rfl ?_
    refine s_off rfl rfl ?_
    refine s_do (o_q (.bool false) rfl trivial rfl) ?_
    refine s_do (o_mov (.bool false) rfl) ?_
    refine s_off rfl rfl ?_
    refine s_off rfl rfl ?_
    refine s_off rfl rfl ?_
    refine s_off rfl rfl ?_
    refine s_off rfl rfl ?_
    refine s_do (o_q (.bool false) rfl trivial rfl) ?_
    refine s_do (o_mov (.bool false) rfl) ?_
    refine s_off rfl rfl ?_
    refine s_off rfl rfl ?_
    refine s_off rfl rfl ?_
    refine s_off rfl rfl ?_
    refine s_off rfl rfl ?_
    refine s_do (o_q (.bool false) rfl trivial rfl) ?_
    refine s_do (o_mov (.bool false) rfl) ?_
    refine s_off rfl rfl ?_
    refine s_off rfl rfl ?_
    refine s_off rfl rfl ?_
    refine s_off rfl rfl ?_
    refine s_off rfl rfl ?_
    refine s_do (o_q (.bool false) rfl trivial rfl) ?_
    refine s_do (o_mov (.bool false) rfl) ?_
    refine w_done ?_
    refine k_seq ?_
    refine w_ret ?_
    obtain rfl := os hf
    exact r_flat ⟨trivial, trivial⟩ rfl (.refl _)
def impl_Json_same : Nat → GJson → GJson → Option Bool
  | 0, _, _ => none
  | k + 1, j_1, k_2 => impl_Json_same_B (impl_Json_same k) j_1 k_2
theorem w_impl_Json_same : ∀ (k : Nat) (j_1 : GJson) (k_2 : GJson) (r : Bool), impl_Json_same k j_1 k_2 = some r → CallOK Try.prog 105 .flat [(encGJson j_1), (encGJson k_2)] (.bool r)
  | 0, j_1, k_2, r, h => by rw [impl_Json_same.eq_1] at h; cases h
  | k + 1, j_1, k_2, r, h => by
    rw [impl_Json_same.eq_2] at h
    exact w_impl_Json_same_B _ (w_impl_Json_same k) j_1 k_2 r h

/- impl.SameJson -/
def c33 : ACode :=
 (.seq (.reg (.q ⟨(some 2), none, .box 5 (.t 0)⟩
 (.q ⟨(some 3), none, .box 5 (.t 1)⟩
 (.q ⟨(some 4), none, .mov (.c (.bool false))⟩
 .done))))
 (.seq (.reg (.q ⟨(some 5), none, .load 5 true (.t 2)⟩
 (.q ⟨(some 6), none, .call 101 [(.t 5)]⟩
 (.q ⟨(some 7), none, .mov (.t 6)⟩
 (.q ⟨(some 8), (some (7, true)), .load 5 true (.t 3)⟩
 (.q ⟨(some 9), (some (7, true)), .call 101 [(.t 8)]⟩
 (.q ⟨(some 10), none, .pick (.t 7) (.t 9) (.c (.bool false))⟩
 (.q ⟨(some 11), none, .mov (.t 10)⟩
 (.q ⟨(some 12), (some (11, true)), .load 5 true (.t 2)⟩
 (.q ⟨(some 13), (some (11, true)), .load 5 true (.t 3)⟩
 (.q ⟨(some 14), (some (11, true)), .call 105 [(.t 12), (.t 13)]⟩
 (.q ⟨(some 15), none, .pick (.t 11) (.t 14) (.c (.bool false))⟩
 (.q ⟨(some 4), none, .mov (.t 15)⟩
 .done)))))))))))))
 .ret))
theorem fc33 : fcomp Try.prog Try.f33 = some (c33.erase, [.mov (.t 4)], 16) := by kernel_rfl
def impl_SameJson (a_1 : GJson) (b_2 : GJson) : Option Bool :=
    (impl_JsonOK a_1).bind fun r_3 =>
    if r_3 then
    (impl_JsonOK b_2).bind fun r_6 =>
    if r_6 then
    (impl_Json_same FUEL a_1 b_2).bind fun r_9 =>
    some r_9
    else
    some false
    else
    some false
theorem w_impl_SameJson (a_1 : GJson) (b_2 : GJson) (r : Bool) (hf : impl_SameJson a_1 b_2 = some r) : CallOK Try.prog 33 .flat [(encGJson a_1), (encGJson b_2)] (.bool r) := by
  refine CallOK.of_awp mixed Try.func33 fc33 nle ?_
  rw [argT_eq]
  rw [encGJson_eq a_1, encGJson_eq b_2]
  unfold impl_SameJson at hf
  unfold c33
  refine (show awp Try.prog false 0 _ (ofL [(0, (.agg [(.int .i64 a_1.Kind), (.int .i64 a_1.N), (.str a_1.T), (.lst 1 (a_1.Keys.map AV.str)), (.lst 5 (a_1.Items.map encGJson))])), (1, (.agg [(.int .i64 b_2.Kind), (.int .i64 b_2.N), (.str b_2.T), (.lst 1 (b_2.Keys.map AV.str)), (.lst 5 (b_2.Items.map encGJson))]))]) [] _ from ?_)
  refine awp_seq ?_
  refine w_reg ?_
  refine s_do (o_box (j := 0) (c := (.agg [(.int .i64 a_1.Kind), (.int .i64 a_1.N), (.str a_1.T), (.lst 1 (a_1.Keys.map AV.str)), (.lst 5 (a_1.Items.map encGJson))])) rfl trivial rfl rfl) ?_
  refine s_do (o_box (j := 1) (c := (.agg [(.int .i64 b_2.Kind), (.int .i64 b_2.N), (.str b_2.T), (.lst 1 (b_2.Keys.map AV.str)), (.lst 5 (b_2.Items.map encGJson))])) rfl trivial rfl rfl) ?_
  refine s_do (o_mov (.bool false) rfl) ?_
  refine w_done ?_
  refine k_seq ?_
  refine awp_seq ?_
  refine w_reg ?_
  obtain ⟨r_3, er4, hf⟩ := ob hf
  rcases oi hf with ⟨c5, hf⟩ | ⟨c5, hf⟩
  · obtain ⟨r_6, er7, hf⟩ := ob hf
    rcases oi hf with ⟨c8, hf⟩ | ⟨c8, hf⟩
    · obtain ⟨r_9, er10, hf⟩ := ob hf
      refine s_do (o_q (.agg [(.int .i64 a_1.Kind), (.int .i64 a_1.N), (.str a_1.T), (.lst 1 (a_1.Keys.map AV.str)), (.lst 5 (a_1.Items.map encGJson))]) rfl nle rfl) ?_
      refine s_do (o_call (w_impl_JsonOK _ _ er4) rfl (.cons (.of_eq (encGJson_eq a_1).symm) .nil) rfl) ?_
      refine s_do (o_mov (.bool r_3) rfl) ?_
      refine s_lit (s := 7) (b := true) rfl c5 ?_
      refine s_on rfl ?_
      refine s_do (o_q (.agg [(.int .i64 b_2.Kind), (.int .i64 b_2.N), (.str b_2.T), (.lst 1 (b_2.Keys.map AV.str)), (.lst 5 (b_2.Items.map encGJson))]) rfl nle rfl) ?_
      refine s_on rfl ?_
      refine s_do (o_call (w_impl_JsonOK _ _ er7) rfl (.cons (.of_eq (encGJson_eq b_2).symm) .nil) rfl) ?_
      refine s_do (o_q (.bool r_6) rfl trivial rfl) ?_
      refine s_do (o_mov (.bool r_6) rfl) ?_
      refine s_lit (s := 11) (b := true) rfl c8 ?_
      refine s_on rfl ?_
      refine s_do (o_q (.agg [(.int .i64 a_1.Kind), (.int .i64 a_1.N), (.str a_1.T), (.lst 1 (a_1.Keys.map AV.str)), (.lst 5 (a_1.Items.map encGJson))]) rfl nle rfl) ?_
      refine s_on rfl ?_
      refine s_do (o_q (.agg [(.int .i64 b_2.Kind), (.int .i64 b_2.N), (.str b_2.T), (.lst 1 (b_2.Keys.map AV.str)), (.lst 5 (b_2.Items.map encGJson))]) rfl nle rfl) ?_
      refine s_on rfl ?_
      refine s_do (o_call (w_impl_Json_same FUEL _ _ _ er10) rfl (.cons (.of_eq (encGJson_eq a_1).symm) (.cons (.of_eq (encGJson_eq b_2).symm) .nil)) rfl) ?_
      refine s_do (o_q (.bool r_9) rfl trivial rfl) ?_
      refine s_do (o_mov (.bool r_9) rfl) ?_
      refine w_done ?_
      refine k_seq ?_
      refine w_ret ?_
      obtain rfl := os hf
      exact r_flat ⟨trivial, trivial⟩ rfl (.refl _)
    · refine s_do (o_q (.agg [(.int .i64 a_1.Kind), (.int .i64 a_1.N), (.str a_1.T), (.lst 1 (a_1.Keys.map AV.str)), (.lst 5 (a_1.Items.map encGJson))]) rfl nle rfl) ?_
      refine s_do (o_call (w_impl_JsonOK _ _ er4) rfl (.cons (.of_eq (encGJson_eq a_1).symm) .nil) rfl) ?_
      refine s_do (o_mov (.bool r_3) rfl) ?_
      refine s_lit (s := 7) (b := true) rfl c5 ?_
      refine s_on rfl ?_
      refine s_do (o_q (.agg [(.int .i64 b_2.Kind), (.int .i64 b_2.N), (.str b_2.T), (.lst 1 (b_2.Keys.map AV.str)), (.lst 5 (b_2.Items.map encGJson))]) rfl nle rfl) ?_
      refine s_on rfl ?_
      refine s_do (o_call (w_impl_JsonOK _ _ er7) rfl (.cons (.of_eq (encGJson_eq b_2).symm) .nil) rfl) ?_
      refine s_do (o_q (.bool r_6) rfl trivial rfl) ?_
      refine s_do (o_mov (.bool r_6) rfl) ?_
      refine s_lit (s := 11) (b := false) rfl (bf c8) ?_
      refine s_off rfl rfl ?_
      refine s_off rfl rfl ?_
      refine s_off rfl rfl ?_
      refine s_do (o_q (.bool false) rfl trivial rfl) ?_
      refine s_do (o_mov (.bool false) rfl) ?_
      refine w_done ?_
      refine k_seq ?_
      refine w_ret ?_
      obtain rfl := os hf
      exact r_flat ⟨trivial, trivial⟩ rfl (.refl _)
  · refine s_do (o_q (.agg [(.int .i64 a_1.Kind), (.int .i64 a_1.N), (.str a_1.T), (.lst 1 (a_1.Keys.map AV.str)), (.lst 5 (a_1.Items.map encGJson))]) rfl nle rfl) ?_
    refine s_do (o_call (w_impl_JsonOK _ _ er4) rfl (.cons (.of_eq (encGJson_eq a_1).symm) .nil) rfl) ?_
    refine s_do (o_mov (.bool r_3) rfl) ?_
    refine s_lit (s := 7) (b := false) rfl (bf c5) ?_
    refine s_off rfl rfl ?_
    refine s_off rfl rfl ?_
    refine s_do (o_q (.bool false) rfl trivial rfl) ?_
    refine s_do (o_mov (.bool false) rfl) ?_
    refine s_off rfl rfl ?_
    refine s_off rfl rfl ?_
    refine s_off rfl rfl ?_
    refine s_do (o_q (.bool false) rfl trivial rfl) ?_
    refine s_do (o_mov (.bool false) rfl) ?_
    refine w_done ?_
    refine k_seq ?_
    refine w_ret ?_
    obtain rfl := os hf
    exact r_flat ⟨trivial, trivial⟩ rfl (.refl _)

/- laws.FnFields -/
def c6 : ACode :=
 (.seq (.reg (.q ⟨(some 4), none, .mov (.c (.bool false))⟩
 .done))
 (.seq (.seq (.reg (.q ⟨(some 16), none, .mov (.t 0)⟩
 (.q ⟨(some 17), none, .len (.t 16)⟩
 (.q ⟨(some 18), none, .bin .gtr (.t 17) (.c (.int .i64 1048576))⟩
 (.q ⟨(some 19), none, .mov (.t 18)⟩
 (.q ⟨(some 20), (some (19, false)), .mov (.t 1)⟩
 (.q ⟨(some 21), (some (19, false)), .len (.t 20)⟩
 (.q ⟨(some 22), (some (19, false)), .bin .gtr (.t 21) (.c (.int .i64 1048576))⟩
 (.q ⟨(some 23), none, .pick (.t 19) (.c (.bool true)) (.t 22)⟩
 .done)))))))))
 (.cut (.cond (.t 23) (.seq (.reg (.q ⟨(some 4), none, .mov (.c (.bool true))⟩
 .done))
 .ret)
 .skip)))
 (.seq (.reg (.q ⟨(some 24), none, .mov (.t 0)⟩
 (.q ⟨(some 25), none, .call 30 [(.t 24)]⟩
 (.q ⟨(some 5), none, .box 5 (.c (.agg [(.int .i64 0), (.int .i64 0), (.str []), .nil, .nil]))⟩
 (.q ⟨none, none, .store 5 (.t 5) (.t 25)⟩
 .done)))))
 (.seq (.reg (.q ⟨(some 26), none, .mov (.t 1)⟩
 (.q ⟨(some 27), none, .call 30 [(.t 26)]⟩
 (.q ⟨(some 6), none, .box 5 (.c (.agg [(.int .i64 0), (.int .i64 0), (.str []), .nil, .nil]))⟩
 (.q ⟨none, none, .store 5 (.t 6) (.t 27)⟩
 .done)))))
 (.seq (.reg (.q ⟨(some 28), none, .bslice 1 [(.c (.str [102, 105, 114, 115, 116])), (.c (.str [115, 101, 99, 111, 110, 100]))]⟩
 (.q ⟨(some 29), none, .load 5 true (.t 5)⟩
 (.q ⟨(some 30), none, .load 5 true (.t 6)⟩
 (.q ⟨(some 31), none, .bslice 5 [(.t 29), (.t 30)]⟩
 (.q ⟨(some 32), none, .build [(.int .i64 0), (.int .i64 0), (.str []), .nil, .nil] [(0, 1, (.c (.int .i64 5))), (3, 1, (.t 28)), (4, 1, (.t 31))]⟩
 (.q ⟨(some 7), none, .box 5 (.c (.agg [(.int .i64 0), (.int .i64 0), (.str []), .nil, .nil]))⟩
 (.q ⟨none, none, .store 5 (.t 7) (.t 32)⟩
 .done))))))))
 (.seq (.reg (.q ⟨(some 34), none, .load 5 true (.t 7)⟩
 (.q ⟨(some 35), none, .call 31 [(.t 34), (.c (.str [102, 105, 114, 115, 116]))]⟩
 (.q ⟨(some 33), none, .mov (.t 35)⟩
 (.q ⟨(some 36), none, .extract 0 (.t 33)⟩
 (.q ⟨(some 37), none, .extract 1 (.t 33)⟩
 (.q ⟨(some 8), none, .box 5 (.c (.agg [(.int .i64 0), (.int .i64 0), (.str []), .nil, .nil]))⟩
 (.q ⟨none, none, .store 5 (.t 8) (.t 36)⟩
 (.q ⟨(some 9), none, .mov (.t 37)⟩
 .done)))))))))
 (.seq (.reg (.q ⟨(some 39), none, .load 5 true (.t 7)⟩
 (.q ⟨(some 40), none, .call 31 [(.t 39), (.c (.str [115, 101, 99, 111, 110, 100]))]⟩
 (.q ⟨(some 38), none, .mov (.t 40)⟩
 (.q ⟨(some 41), none, .extract 0 (.t 38)⟩
 (.q ⟨(some 42), none, .extract 1 (.t 38)⟩
 (.q ⟨(some 10), none, .box 5 (.c (.agg [(.int .i64 0), (.int .i64 0), (.str []), .nil, .nil]))⟩
 (.q ⟨none, none, .store 5 (.t 10) (.t 41)⟩
 (.q ⟨(some 11), none, .mov (.t 42)⟩
 .done)))))))))
 (.seq (.reg (.q ⟨(some 44), none, .load 5 true (.t 7)⟩
 (.q ⟨(some 45), none, .call 31 [(.t 44), (.c (.str [116, 104, 105, 114, 100]))]⟩
 (.q ⟨(some 43), none, .mov (.t 45)⟩
 (.q ⟨(some 46), none, .extract 0 (.t 43)⟩
 (.q ⟨(some 47), none, .extract 1 (.t 43)⟩
 (.q ⟨(some 12), none, .box 5 (.c (.agg [(.int .i64 0), (.int .i64 0), (.str []), .nil, .nil]))⟩
 (.q ⟨none, none, .store 5 (.t 12) (.t 46)⟩
 (.q ⟨(some 13), none, .mov (.t 47)⟩
 .done)))))))))
 (.seq (.reg (.q ⟨(some 49), none, .build [(.int .i64 0), (.int .i64 0), (.str []), .nil, .nil] [(0, 1, (.c (.int .i64 4)))]⟩
 (.q ⟨(some 50), none, .call 31 [(.t 49), (.c (.str [102, 105, 114, 115, 116]))]⟩
 (.q ⟨(some 48), none, .mov (.t 50)⟩
 (.q ⟨(some 51), none, .extract 0 (.t 48)⟩
 (.q ⟨(some 52), none, .extract 1 (.t 48)⟩
 (.q ⟨(some 14), none, .box 5 (.c (.agg [(.int .i64 0), (.int .i64 0), (.str []), .nil, .nil]))⟩
 (.q ⟨none, none, .store 5 (.t 14) (.t 51)⟩
 (.q ⟨(some 15), none, .mov (.t 52)⟩
 .done)))))))))
 (.seq (.reg (.q ⟨(some 53), none, .mov (.t 9)⟩
 (.q ⟨(some 54), none, .bin .eql (.t 53) (.c (.int .i64 0))⟩
 (.q ⟨(some 55), none, .mov (.t 54)⟩
 (.q ⟨(some 56), (some (55, true)), .load 5 true (.t 8)⟩
 (.q ⟨(some 57), (some (55, true)), .load 5 true (.t 5)⟩
 (.l ⟨(some 58), (some (55, true)), .call 32 [(.t 56), (.t 57)]⟩ []
 (.q ⟨(some 59), none, .pick (.t 55) (.t 58) (.c (.bool false))⟩
 (.q ⟨(some 60), none, .mov (.t 59)⟩
 (.q ⟨(some 61), (some (60, true)), .mov (.t 11)⟩
 (.q ⟨(some 62), (some (60, true)), .bin .eql (.t 61) (.c (.int .i64 0))⟩
 (.q ⟨(some 63), none, .pick (.t 60) (.t 62) (.c (.bool false))⟩
 (.q ⟨(some 64), none, .mov (.t 63)⟩
 (.q ⟨(some 65), (some (64, true)), .load 5 true (.t 10)⟩
 (.q ⟨(some 66), (some (64, true)), .load 5 true (.t 6)⟩
 (.l ⟨(some 67), (some (64, true)), .call 32 [(.t 65), (.t 66)]⟩ []
 (.q ⟨(some 68), none, .pick (.t 64) (.t 67) (.c (.bool false))⟩
 (.q ⟨(some 69), none, .mov (.t 68)⟩
 (.q ⟨(some 70), (some (69, true)), .mov (.t 13)⟩
 (.q ⟨(some 71), (some (69, true)), .bin .eql (.t 70) (.c (.int .i64 5))⟩
 (.q ⟨(some 72), none, .pick (.t 69) (.t 71) (.c (.bool false))⟩
 (.q ⟨(some 73), none, .mov (.t 72)⟩
 (.q ⟨(some 74), (some (73, true)), .mov (.t 15)⟩
 (.q ⟨(some 75), (some (73, true)), .bin .eql (.t 74) (.c (.int .i64 9))⟩
 (.q ⟨(some 76), none, .pick (.t 73) (.t 75) (.c (.bool false))⟩
 (.q ⟨(some 77), none, .mov (.t 76)⟩
 (.q ⟨(some 78), (some (77, true)), .load 5 true (.t 5)⟩
 (.q ⟨(some 79), (some (77, true)), .load 5 true (.t 6)⟩
 (.q ⟨(some 81), (some (77, true)), .load 5 true (.t 5)⟩
 (.q ⟨(some 82), (some (77, true)), .load 5 true (.t 6)⟩
 (.l ⟨(some 80), (some (77, true)), .call 33 [(.t 78), (.t 79)]⟩ [⟨(some 82), (some (77, true)), .load 5 true (.t 6)⟩, ⟨(some 81), (some (77, true)), .load 5 true (.t 5)⟩]
 (.l ⟨(some 83), (some (77, true)), .call 32 [(.t 81), (.t 82)]⟩ []
 (.q ⟨(some 84), (some (77, true)), .eqB false (.t 80) (.t 83)⟩
 (.q ⟨(some 85), none, .pick (.t 77) (.t 84) (.c (.bool false))⟩
 (.q ⟨(some 4), none, .mov (.t 85)⟩
 .done))) .non) .non))))))))))))))) .non))))))))) .non)))))))
 .ret))))))))))
theorem fc6 : fcomp Try.prog Try.f6 = some (c6.erase, [.mov (.t 4)], 86) := by kernel_rfl
def laws_FnFields (code_1 : (List Int)) (more_2 : (List Int)) : Option Bool :=
    ((if (decide ((code_1.length : Int) > 1048576)) then
    some true
    else
    some (decide ((more_2.length : Int) > 1048576)) : Option Bool)).bind fun s23_6 =>
    if s23_6 then
    some true
    else
    (spec_JsonDrawn code_1).bind fun r_12 =>
    (spec_JsonDrawn more_2).bind fun r_14 =>
    (impl_FieldOf (⟨5, 0, [], [[102, 105, 114, 115, 116], [115, 101, 99, 111, 110, 100]], [r_12, r_14]⟩ : GJson) [102, 105, 114, 115, 116]).bind fun r_16 =>
    (impl_FieldOf (⟨5, 0, [], [[102, 105, 114, 115, 116], [115, 101, 99, 111, 110, 100]], [r_12, r_14]⟩ : GJson) [115, 101, 99, 111, 110, 100]).bind fun r_18 =>
    (impl_FieldOf (⟨5, 0, [], [[102, 105, 114, 115, 116], [115, 101, 99, 111, 110, 100]], [r_12, r_14]⟩ : GJson) [116, 104, 105, 114, 100]).bind fun r_20 =>
    (impl_FieldOf (⟨4, 0, [], [], []⟩ : GJson) [102, 105, 114, 115, 116]).bind fun r_22 =>
    if (r_16.2 == 0) then
    (laws_sameJson FUEL r_16.1 r_12).bind fun r_25 =>
    if r_25 then
    if (r_18.2 == 0) then
    (laws_sameJson FUEL r_18.1 r_14).bind fun r_29 =>
    if r_29 then
    if (r_20.2 == 5) then
    if (r_22.2 == 9) then
    (impl_SameJson r_12 r_14).bind fun r_34 =>
    (laws_sameJson FUEL r_12 r_14).bind fun r_36 =>
    some (r_34 == r_36)
    else
    some false
    else
    some false
    else
    some false
    else
    some false
    else
    some false
    else
    some false
theorem w_laws_FnFields (code_1 : (List Int)) (more_2 : (List Int)) (r : Bool) (hf : laws_FnFields code_1 more_2 = some r) : CallOK Try.prog 6 .flat [(.lst 1 (code_1.map enc_u8)), (.lst 1 (more_2.map enc_u8))] (.bool r) := by
  refine CallOK.of_awp mixed Try.func6 fc6 nle ?_
  rw [argT_eq]
  unfold laws_FnFields at hf
  unfold c6
  refine (show awp Try.prog false 0 _ (ofL [(0, (.lst 1 (code_1.map enc_u8))), (1, (.lst 1 (more_2.map enc_u8)))]) [] _ from ?_)
  refine awp_seq ?_
  refine w_reg ?_
  refine s_do (o_mov (.bool false) rfl) ?_
  refine w_done ?_
  refine k_seq ?_
  refine awp_seq ?_
  refine awp_seq ?_
  obtain ⟨s23_6, hb1, hf⟩ := ob hf
  refine awp_cut ([(0, (.lst 1 (code_1.map enc_u8))), (1, (.lst 1 (more_2.map enc_u8))), (23, (.bool s23_6))], []) ?_ ?_
  · refine w_reg ?_
    rcases oi hb1 with ⟨c9, hb1⟩ | ⟨c9, hb1⟩
    · refine s_do (o_mov (.lst 1 (code_1.map enc_u8)) rfl) ?_
      refine s_dof (o_len (enc := enc_u8) rfl) fun hl8 => ?_
      refine s_do (o_q (.bool (decide ((code_1.length : Int) > 1048576))) rfl rfl rfl) ?_
      refine s_do (o_mov (.bool (decide ((code_1.length : Int) > 1048576))) rfl) ?_
      refine s_lit (s := 19) (b := true) rfl c9 ?_
      refine s_off rfl rfl ?_
      refine s_off rfl rfl ?_
      refine s_off rfl rfl ?_
      refine s_do (o_q (.bool true) rfl trivial rfl) ?_
      refine w_done ?_
      obtain rfl := os hb1
      exact ⟨[], [], _, _, rfl, rfl, ⟨.refl _, ⟨.refl _, ⟨.refl _, trivial⟩⟩⟩, (.refl _)⟩
    · refine s_do (o_mov (.lst 1 (code_1.map enc_u8)) rfl) ?_
      refine s_dof (o_len (enc := enc_u8) rfl) fun hl8 => ?_
      refine s_do (o_q (.bool (decide ((code_1.length : Int) > 1048576))) rfl rfl rfl) ?_
      refine s_do (o_mov (.bool (decide ((code_1.length : Int) > 1048576))) rfl) ?_
      refine s_lit (s := 19) (b := false) rfl (bf c9) ?_
      refine s_on rfl ?_
      refine s_do (o_mov (.lst 1 (more_2.map enc_u8)) rfl) ?_
      refine s_on rfl ?_
      refine s_dof (o_len (enc := enc_u8) rfl) fun hl10 => ?_
      refine s_on rfl ?_
      refine s_do (o_q (.bool (decide ((more_2.length : Int) > 1048576))) rfl rfl rfl) ?_
      refine s_do (o_q (.bool (decide ((more_2.length : Int) > 1048576))) rfl trivial rfl) ?_
      refine w_done ?_
      obtain rfl := os hb1
      exact ⟨[], [], _, _, rfl, rfl, ⟨.refl _, ⟨.refl _, ⟨.refl _, trivial⟩⟩⟩, (.refl _)⟩
  · rcases oi hf with ⟨c11, hf⟩ | ⟨c11, hf⟩
    · refine w_condt rfl c11 ?_
      refine awp_seq ?_
      refine w_reg ?_
      refine s_do (o_mov (.bool true) rfl) ?_
      refine w_done ?_
      refine k_seq ?_
      refine w_ret ?_
      obtain rfl := os hf
      exact r_flat ⟨trivial, trivial⟩ rfl (.refl _)
    · refine w_condf rfl (bf c11) ?_
      refine w_skip ?_
      refine k_seq ?_
      refine awp_seq ?_
      refine w_reg ?_
      obtain ⟨r_12, er13, hf⟩ := ob hf
      refine s_do (o_mov (.lst 1 (code_1.map enc_u8)) rfl) ?_
      refine s_do (o_callc (v := (.agg [(.int .i64 r_12.Kind), (.int .i64 r_12.N), (.str r_12.T), (.lst 1 (r_12.Keys.map AV.str)), (.lst 5 (r_12.Items.map encGJson))])) (w_spec_JsonDrawn _ _ er13) rfl (.refl _) (by simp only [encGJson_eq])) ?_
      refine s_do (o_box (j := 0) (c := (.agg [(.int .i64 0), (.int .i64 0), (.str []), .nil, .nil])) rfl trivial rfl rfl) ?_
      refine s_do0 (o_storebox (v := (.agg [(.int .i64 r_12.Kind), (.int .i64 r_12.N), (.str r_12.T), (.lst 1 (r_12.Keys.map AV.str)), (.lst 5 (r_12.Items.map encGJson))])) (y' := (.agg [(.int .i64 r_12.Kind), (.int .i64 r_12.N), (.str r_12.T), (.lst 1 (r_12.Keys.map AV.str)), (.lst 5 (r_12.Items.map encGJson))])) rfl rfl rfl trivial ⟨rfl, nle⟩ ⟨⟨rfl, trivial⟩, ⟨⟨rfl, trivial⟩, ⟨⟨rfl, trivial⟩, ⟨⟨rfl, trivial⟩, ⟨⟨rfl, trivial⟩, trivial⟩⟩⟩⟩⟩ rfl) ?_
      refine w_done ?_
      refine k_seq ?_
      refine awp_seq ?_
      refine w_reg ?_
      obtain ⟨r_14, er15, hf⟩ := ob hf
      refine s_do (o_mov (.lst 1 (more_2.map enc_u8)) rfl) ?_
      refine s_do (o_callc (v := (.agg [(.int .i64 r_14.Kind), (.int .i64 r_14.N), (.str r_14.T), (.lst 1 (r_14.Keys.map AV.str)), (.lst 5 (r_14.Items.map encGJson))])) (w_spec_JsonDrawn _ _ er15) rfl (.refl _) (by simp only [encGJson_eq])) ?_
      refine s_do (o_box (j := 1) (c := (.agg [(.int .i64 0), (.int .i64 0), (.str []), .nil, .nil])) rfl trivial rfl rfl) ?_
      refine s_do0 (o_storebox (v := (.agg [(.int .i64 r_14.Kind), (.int .i64 r_14.N), (.str r_14.T), (.lst 1 (r_14.Keys.map AV.str)), (.lst 5 (r_14.Items.map encGJson))])) (y' := (.agg [(.int .i64 r_14.Kind), (.int .i64 r_14.N), (.str r_14.T), (.lst 1 (r_14.Keys.map AV.str)), (.lst 5 (r_14.Items.map encGJson))])) rfl rfl rfl trivial ⟨rfl, nle⟩ ⟨⟨rfl, trivial⟩, ⟨⟨rfl, trivial⟩, ⟨⟨rfl, trivial⟩, ⟨⟨rfl, trivial⟩, ⟨⟨rfl, trivial⟩, trivial⟩⟩⟩⟩⟩ rfl) ?_
      refine w_done ?_
      refine k_seq ?_
      refine awp_seq ?_
      refine w_reg ?_
      refine s_do (o_bslice (j := 2) (as' := [(.str [102, 105, 114, 115, 116]), (.str [115, 101, 99, 111, 110, 100])]) rfl (fun _ => by decide) ⟨rfl, ⟨rfl, trivial⟩⟩ (.refl _) rfl rfl rfl) ?_
      refine s_do (o_q (.agg [(.int .i64 r_12.Kind), (.int .i64 r_12.N), (.str r_12.T), (.lst 1 (r_12.Keys.map AV.str)), (.lst 5 (r_12.Items.map encGJson))]) rfl nle rfl) ?_
      refine s_do (o_q (.agg [(.int .i64 r_14.Kind), (.int .i64 r_14.N), (.str r_14.T), (.lst 1 (r_14.Keys.map AV.str)), (.lst 5 (r_14.Items.map encGJson))]) rfl nle rfl) ?_
      refine s_do (o_bslice (j := 3) (as' := [(encGJson r_12), (encGJson r_14)]) rfl (fun _ => by decide) ⟨rfl, ⟨rfl, trivial⟩⟩ (.cons (.of_eq (encGJson_eq r_12).symm) (.cons (.of_eq (encGJson_eq r_14).symm) .nil)) rfl rfl rfl) ?_
      refine s_do (o_q (.agg [(.int .i64 5), (.int .i64 0), (.str []), (.own 2 0 2), (.own 3 0 2)]) rfl ⟨⟨rfl, nle, trivial⟩, ⟨⟨rfl, nle, trivial⟩, ⟨⟨rfl, nle, trivial⟩, trivial⟩⟩⟩ rfl) ?_
      refine s_do (o_box (j := 4) (c := (.agg [(.int .i64 0), (.int .i64 0), (.str []), .nil, .nil])) rfl trivial rfl rfl) ?_
      refine s_do0 (o_storebox (v := (.agg [(.int .i64 5), (.int .i64 0), (.str []), (.own 2 0 2), (.own 3 0 2)])) (y' := (.agg [(.int .i64 5), (.int .i64 0), (.str []), (.own 2 0 2), (.own 3 0 2)])) rfl rfl rfl trivial ⟨rfl, nle⟩ ⟨⟨rfl, trivial⟩, ⟨⟨rfl, trivial⟩, ⟨⟨rfl, trivial⟩, ⟨⟨rfl, trivial⟩, ⟨⟨rfl, trivial⟩, trivial⟩⟩⟩⟩⟩ rfl) ?_
      refine w_done ?_
      refine k_seq ?_
      refine awp_seq ?_
      refine w_reg ?_
      obtain ⟨r_16, er17, hf⟩ := ob hf
      refine s_do (o_q (.agg [(.int .i64 5), (.int .i64 0), (.str []), (.own 2 0 2), (.own 3 0 2)]) rfl nle rfl) ?_
      refine s_do (o_callc (v := (.tup [(.agg [(.int .i64 r_16.1.Kind), (.int .i64 r_16.1.N), (.str r_16.1.T), (.lst 1 (r_16.1.Keys.map AV.str)), (.lst 5 (r_16.1.Items.map encGJson))]), (.int .i64 r_16.2)])) (w_impl_FieldOf _ _ _ er17) rfl (.cons (.of_eq (encGJson_eq (⟨5, 0, [], [[102, 105, 114, 115, 116], [115, 101, 99, 111, 110, 100]], [r_12, r_14]⟩ : GJson)).symm) (.cons (.refl _) .nil)) (by simp only [encGJson_eq])) ?_
      refine s_do (o_mov (.tup [(.agg [(.int .i64 r_16.1.Kind), (.int .i64 r_16.1.N), (.str r_16.1.T), (.lst 1 (r_16.1.Keys.map AV.str)), (.lst 5 (r_16.1.Items.map encGJson))]), (.int .i64 r_16.2)]) rfl) ?_
      refine s_do (o_q (.agg [(.int .i64 r_16.1.Kind), (.int .i64 r_16.1.N), (.str r_16.1.T), (.lst 1 (r_16.1.Keys.map AV.str)), (.lst 5 (r_16.1.Items.map encGJson))]) rfl nle rfl) ?_
      refine s_do (o_q (.int .i64 r_16.2) rfl nle rfl) ?_
      refine s_do (o_box (j := 5) (c := (.agg [(.int .i64 0), (.int .i64 0), (.str []), .nil, .nil])) rfl trivial rfl rfl) ?_
      refine s_do0 (o_storebox (v := (.agg [(.int .i64 r_16.1.Kind), (.int .i64 r_16.1.N), (.str r_16.1.T), (.lst 1 (r_16.1.Keys.map AV.str)), (.lst 5 (r_16.1.Items.map encGJson))])) (y' := (.agg [(.int .i64 r_16.1.Kind), (.int .i64 r_16.1.N), (.str r_16.1.T), (.lst 1 (r_16.1.Keys.map AV.str)), (.lst 5 (r_16.1.Items.map encGJson))])) rfl rfl rfl trivial ⟨rfl, nle⟩ ⟨⟨rfl, trivial⟩, ⟨⟨rfl, trivial⟩, ⟨⟨rfl, trivial⟩, ⟨⟨rfl, trivial⟩, ⟨⟨rfl, trivial⟩, trivial⟩⟩⟩⟩⟩ rfl) ?_
      refine s_do (o_mov (.int .i64 r_16.2) rfl) ?_
      refine w_done ?_
      refine k_seq ?_
      refine awp_seq ?_
      refine w_reg ?_
      obtain ⟨r_18, er19, hf⟩ := ob hf
      refine s_do (o_q (.agg [(.int .i64 5), (.int .i64 0), (.str []), (.own 2 0 2), (.own 3 0 2)]) rfl nle rfl) ?_
      refine s_do (o_callc (v := (.tup [(.agg [(.int .i64 r_18.1.Kind), (.int .i64 r_18.1.N), (.str r_18.1.T), (.lst 1 (r_18.1.Keys.map AV.str)), (.lst 5 (r_18.1.Items.map encGJson))]), (.int .i64 r_18.2)])) (w_impl_FieldOf _ _ _ er19) rfl (.cons (.of_eq (encGJson_eq (⟨5, 0, [], [[102, 105, 114, 115, 116], [115, 101, 99, 111, 110, 100]], [r_12, r_14]⟩ : GJson)).symm) (.cons (.refl _) .nil)) (by simp only [encGJson_eq])) ?_
      refine s_do (o_mov (.tup [(.agg [(.int .i64 r_18.1.Kind), (.int .i64 r_18.1.N), (.str r_18.1.T), (.lst 1 (r_18.1.Keys.map AV.str)), (.lst 5 (r_18.1.Items.map encGJson))]), (.int .i64 r_18.2)]) rfl) ?_
      refine s_do (o_q (.agg [(.int .i64 r_18.1.Kind), (.int .i64 r_18.1.N), (.str r_18.1.T), (.lst 1 (r_18.1.Keys.map AV.str)), (.lst 5 (r_18.1.Items.map encGJson))]) rfl nle rfl) ?_
      refine s_do (o_q (.int .i64 r_18.2) rfl nle rfl) ?_
      refine s_do (o_box (j := 6) (c := (.agg [(.int .i64 0), (.int .i64 0), (.str []), .nil, .nil])) rfl trivial rfl rfl) ?_
      refine s_do0 (o_storebox (v := (.agg [(.int .i64 r_18.1.Kind), (.int .i64 r_18.1.N), (.str r_18.1.T), (.lst 1 (r_18.1.Keys.map AV.str)), (.lst 5 (r_18.1.Items.map encGJson))])) (y' := (.agg [(.int .i64 r_18.1.Kind), (.int .i64 r_18.1.N), (.str r_18.1.T), (.lst 1 (r_18.1.Keys.map AV.str)), (.lst 5 (r_18.1.Items.map encGJson))])) rfl rfl rfl trivial ⟨rfl, nle⟩ ⟨⟨rfl, trivial⟩, ⟨⟨rfl, trivial⟩, ⟨⟨rfl, trivial⟩, ⟨⟨rfl, trivial⟩, ⟨⟨rfl, trivial⟩, trivial⟩⟩⟩⟩⟩ rfl) ?_
      refine s_do (o_mov (.int .i64 r_18.2) rfl) ?_
      refine w_done ?_
      refine k_seq ?_
      refine awp_seq ?_
      refine w_reg ?_
      obtain ⟨r_20, er21, hf⟩ := ob hf
      refine s_do (o_q (.agg [(.int .i64 5), (.int .i64 0), (.str []), (.own 2 0 2), (.own 3 0 2)]) rfl nle rfl) ?_
      refine s_do (o_callc (v := (.tup [(.agg [(.int .i64 r_20.1.Kind), (.int .i64 r_20.1.N), (.str r_20.1.T), (.lst 1 (r_20.1.Keys.map AV.str)), (.lst 5 (r_20.1.Items.map encGJson))]), (.int .i64 r_20.2)])) (w_impl_FieldOf _ _ _ er21) rfl (.cons (.of_eq (encGJson_eq (⟨5, 0, [], [[102, 105, 114, 115, 116], [115, 101, 99, 111, 110, 100]], [r_12, r_14]⟩ : GJson)).symm) (.cons (.refl _) .nil)) (by simp only [encGJson_eq])) ?_
      refine s_do (o_mov (.tup [(.agg [(.int .i64 r_20.1.Kind), (.int .i64 r_20.1.N), (.str r_20.1.T), (.lst 1 (r_20.1.Keys.map AV.str)), (.lst 5 (r_20.1.Items.map encGJson))]), (.int .i64 r_20.2)]) rfl) ?_
      refine s_do (o_q (.agg [(.int .i64 r_20.1.Kind), (.int .i64 r_20.1.N), (.str r_20.1.T), (.lst 1 (r_20.1.Keys.map AV.str)), (.lst 5 (r_20.1.Items.map encGJson))]) rfl nle rfl) ?_
      refine s_do (o_q (.int .i64 r_20.2) rfl nle rfl) ?_
      refine s_do (o_box (j := 7) (c := (.agg [(.int .i64 0), (.int .i64 0), (.str []), .nil, .nil])) rfl trivial rfl rfl) ?_
      refine s_do0 (o_storebox (v := (.agg [(.int .i64 r_20.1.Kind), (.int .i64 r_20.1.N), (.str r_20.1.T), (.lst 1 (r_20.1.Keys.map AV.str)), (.lst 5 (r_20.1.Items.map encGJson))])) (y' := (.agg [(.int .i64 r_20.1.Kind), (.int .i64 r_20.1.N), (.str r_20.1.T), (.lst 1 (r_20.1.Keys.map AV.str)), (.lst 5 (r_20.1.Items.map encGJson))])) rfl rfl rfl trivial ⟨rfl, nle⟩ ⟨⟨rfl, trivial⟩, ⟨⟨rfl, trivial⟩, ⟨⟨rfl, trivial⟩, ⟨⟨rfl, trivial⟩, ⟨⟨rfl, trivial⟩, trivial⟩⟩⟩⟩⟩ rfl) ?_
      refine s_do (o_mov (.int .i64 r_20.2) rfl) ?_
      refine w_done ?_
      refine k_seq ?_
      refine awp_seq ?_
      refine w_reg ?_
      obtain ⟨r_22, er23, hf⟩ := ob hf
      refine s_do (o_q (.agg [(.int .i64 4), (.int .i64 0), (.str []), .nil, .nil]) rfl ⟨⟨rfl, nle, trivial⟩, trivial⟩ rfl) ?_
      refine s_do (o_callc (v := (.tup [(.agg [(.int .i64 r_22.1.Kind), (.int .i64 r_22.1.N), (.str r_22.1.T), (.lst 1 (r_22.1.Keys.map AV.str)), (.lst 5 (r_22.1.Items.map encGJson))]), (.int .i64 r_22.2)])) (w_impl_FieldOf _ _ _ er23) rfl (.cons (leJ (x := (⟨4, 0, [], [], []⟩ : GJson)) (.agg (.cons (.refl _) (.cons (.refl _) (.cons (.refl _) (.cons (.nil _) (.cons (.nil _) .nil))))))) (.cons (.refl _) .nil)) (by simp only [encGJson_eq])) ?_
      refine s_do (o_mov (.tup [(.agg [(.int .i64 r_22.1.Kind), (.int .i64 r_22.1.N), (.str r_22.1.T), (.lst 1 (r_22.1.Keys.map AV.str)), (.lst 5 (r_22.1.Items.map encGJson))]), (.int .i64 r_22.2)]) rfl) ?_
      refine s_do (o_q (.agg [(.int .i64 r_22.1.Kind), (.int .i64 r_22.1.N), (.str r_22.1.T), (.lst 1 (r_22.1.Keys.map AV.str)), (.lst 5 (r_22.1.Items.map encGJson))]) rfl nle rfl) ?_
      refine s_do (o_q (.int .i64 r_22.2) rfl nle rfl) ?_
      refine s_do (o_box (j := 8) (c := (.agg [(.int .i64 0), (.int .i64 0), (.str []), .nil, .nil])) rfl trivial rfl rfl) ?_
      refine s_do0 (o_storebox (v := (.agg [(.int .i64 r_22.1.Kind), (.int .i64 r_22.1.N), (.str r_22.1.T), (.lst 1 (r_22.1.Keys.map AV.str)), (.lst 5 (r_22.1.Items.map encGJson))])) (y' := (.agg [(.int .i64 r_22.1.Kind), (.int .i64 r_22.1.N), (.str r_22.1.T), (.lst 1 (r_22.1.Keys.map AV.str)), (.lst 5 (r_22.1.Items.map encGJson))])) rfl rfl rfl trivial ⟨rfl, nle⟩ ⟨⟨rfl, trivial⟩, ⟨⟨rfl, trivial⟩, ⟨⟨rfl, trivial⟩, ⟨⟨rfl, trivial⟩, ⟨⟨rfl, trivial⟩, trivial⟩⟩⟩⟩⟩ rfl) ?_
      refine s_do (o_mov (.int .i64 r_22.2) rfl) ?_
      refine w_done ?_
      refine k_seq ?_
      refine awp_seq ?_
      refine w_reg ?_
      refine s_do (o_mov (.int .i64 r_16.2) rfl) ?_
      refine s_do (o_q (.bool (r_16.2 == 0)) rfl rfl rfl) ?_
      refine s_do (o_mov (.bool (r_16.2 == 0)) rfl) ?_
      rcases oi hf with ⟨c24, hf⟩ | ⟨c24, hf⟩
      · refine s_lit (s := 55) (b := true) rfl c24 ?_
        refine s_on rfl ?_
        refine s_do (o_q (.agg [(.int .i64 r_16.1.Kind), (.int .i64 r_16.1.N), (.str r_16.1.T), (.lst 1 (r_16.1.Keys.map AV.str)), (.lst 5 (r_16.1.Items.map encGJson))]) rfl nle rfl) ?_
        refine s_on rfl ?_
        refine s_do (o_q (.agg [(.int .i64 r_12.Kind), (.int .i64 r_12.N), (.str r_12.T), (.lst 1 (r_12.Keys.map AV.str)), (.lst 5 (r_12.Items.map encGJson))]) rfl nle rfl) ?_
        refine s_onl rfl ?_
        obtain ⟨r_25, er26, hf⟩ := ob hf
        refine s_dol (o_call (w_laws_sameJson FUEL _ _ _ er26) rfl (.cons (.of_eq (encGJson_eq r_16.1).symm) (.cons (.of_eq (encGJson_eq r_12).symm) .nil)) rfl) a_same trivial ?_
        refine s_do (o_q (.bool r_25) rfl trivial rfl) ?_
        refine s_do (o_mov (.bool r_25) rfl) ?_
        rcases oi hf with ⟨c27, hf⟩ | ⟨c27, hf⟩
        · refine s_lit (s := 60) (b := true) rfl c27 ?_
          refine s_on rfl ?_
          refine s_do (o_mov (.int .i64 r_18.2) rfl) ?_
          refine s_on rfl ?_
          refine s_do (o_q (.bool (r_18.2 == 0)) rfl rfl rfl) ?_
          refine s_do (o_q (.bool (r_18.2 == 0)) rfl trivial rfl) ?_
          refine s_do (o_mov (.bool (r_18.2 == 0)) rfl) ?_
          rcases oi hf with ⟨c28, hf⟩ | ⟨c28, hf⟩
          · refine s_lit (s := 64) (b := true) rfl c28 ?_
            refine s_on rfl ?_
            refine s_do (o_q (.agg [(.int .i64 r_18.1.Kind), (.int .i64 r_18.1.N), (.str r_18.1.T), (.lst 1 (r_18.1.Keys.map AV.str)), (.lst 5 (r_18.1.Items.map encGJson))]) rfl nle rfl) ?_
            refine s_on rfl ?_
            refine s_do (o_q (.agg [(.int .i64 r_14.Kind), (.int .i64 r_14.N), (.str r_14.T), (.lst 1 (r_14.Keys.map AV.str)), (.lst 5 (r_14.Items.map encGJson))]) rfl nle rfl) ?_
            refine s_onl rfl ?_
            obtain ⟨r_29, er30, hf⟩ := ob hf
            refine s_dol (o_call (w_laws_sameJson FUEL _ _ _ er30) rfl (.cons (.of_eq (encGJson_eq r_18.1).symm) (.cons (.of_eq (encGJson_eq r_14).symm) .nil)) rfl) a_same trivial ?_
            refine s_do (o_q (.bool r_29) rfl trivial rfl) ?_
            refine s_do (o_mov (.bool r_29) rfl) ?_
            rcases oi hf with ⟨c31, hf⟩ | ⟨c31, hf⟩
            · refine s_lit (s := 69) (b := true) rfl c31 ?_
              refine s_on rfl ?_
              refine s_do (o_mov (.int .i64 r_20.2) rfl) ?_
              refine s_on rfl ?_
              refine s_do (o_q (.bool (r_20.2 == 5)) rfl rfl rfl) ?_
              refine s_do (o_q (.bool (r_20.2 == 5)) rfl trivial rfl) ?_
              refine s_do (o_mov (.bool (r_20.2 == 5)) rfl) ?_
              rcases oi hf with ⟨c32, hf⟩ | ⟨c32, hf⟩
              · refine s_lit (s := 73) (b := true) rfl c32 ?_
                refine s_on rfl ?_
                refine s_do (o_mov (.int .i64 r_22.2) rfl) ?_
                refine s_on rfl ?_
                refine s_do (o_q (.bool (r_22.2 == 9)) rfl rfl rfl) ?_
                refine s_do (o_q (.bool (r_22.2 == 9)) rfl trivial rfl) ?_
                refine s_do (o_mov (.bool (r_22.2 == 9)) rfl) ?_
                rcases oi hf with ⟨c33, hf⟩ | ⟨c33, hf⟩
                · refine s_lit (s := 77) (b := true) rfl c33 ?_
                  refine s_on rfl ?_
                  refine s_do (o_q (.agg [(.int .i64 r_12.Kind), (.int .i64 r_12.N), (.str r_12.T), (.lst 1 (r_12.Keys.map AV.str)), (.lst 5 (r_12.Items.map encGJson))]) rfl nle rfl) ?_
                  refine s_on rfl ?_
                  refine s_do (o_q (.agg [(.int .i64 r_14.Kind), (.int .i64 r_14.N), (.str r_14.T), (.lst 1 (r_14.Keys.map AV.str)), (.lst 5 (r_14.Items.map encGJson))]) rfl nle rfl) ?_
                  refine s_on rfl ?_
                  refine s_do (o_q (.agg [(.int .i64 r_12.Kind), (.int .i64 r_12.N), (.str r_12.T), (.lst 1 (r_12.Keys.map AV.str)), (.lst 5 (r_12.Items.map encGJson))]) rfl nle rfl) ?_
                  refine s_on rfl ?_
                  refine s_do (o_q (.agg [(.int .i64 r_14.Kind), (.int .i64 r_14.N), (.str r_14.T), (.lst 1 (r_14.Keys.map AV.str)), (.lst 5 (r_14.Items.map encGJson))]) rfl nle rfl) ?_
                  refine s_onl rfl ?_
                  obtain ⟨r_34, er35, hf⟩ := ob hf
                  refine s_dol (o_call (w_impl_SameJson _ _ _ er35) rfl (.cons (.of_eq (encGJson_eq r_12).symm) (.cons (.of_eq (encGJson_eq r_14).symm) .nil)) rfl) a_same trivial ?_
                  refine s_onl rfl ?_
                  obtain ⟨r_36, er37, hf⟩ := ob hf
                  refine s_dol (o_call (w_laws_sameJson FUEL _ _ _ er37) rfl (.cons (.of_eq (encGJson_eq r_12).symm) (.cons (.of_eq (encGJson_eq r_14).symm) .nil)) rfl) a_same trivial ?_
                  refine s_on rfl ?_
                  refine s_do (o_q (.bool (r_34 == r_36)) rfl trivial rfl) ?_
                  refine s_do (o_q (.bool (r_34 == r_36)) rfl trivial rfl) ?_
                  refine s_do (o_mov (.bool (r_34 == r_36)) rfl) ?_
                  refine w_done ?_
                  refine k_seq ?_
                  refine w_ret ?_
                  obtain rfl := os hf
                  exact r_flat ⟨trivial, trivial⟩ rfl (.refl _)
                · refine s_lit (s := 77) (b := false) rfl (bf c33) ?_
                  refine s_off rfl rfl ?_
                  refine s_off rfl rfl ?_
                  refine s_off rfl rfl ?_
                  refine s_off rfl rfl ?_
                  refine s_offl rfl rfl trivial ?_
                  refine s_offl rfl rfl trivial ?_
                  refine s_off rfl rfl ?_
                  refine s_do (o_q (.bool false) rfl trivial rfl) ?_
                  refine s_do (o_mov (.bool false) rfl) ?_
                  refine w_done ?_
                  refine k_seq ?_
                  refine w_ret ?_
                  obtain rfl := os hf
                  exact r_flat ⟨trivial, trivial⟩ rfl (.refl _)
              · refine s_lit (s := 73) (b := false) rfl (bf c32) ?_
                refine s_off rfl rfl ?_
                refine s_off rfl rfl ?_
                refine s_do (o_q (.bool false) rfl trivial rfl) ?_
                refine s_do (o_mov (.bool false) rfl) ?_
                refine s_off rfl rfl ?_
                refine s_off rfl rfl ?_
                refine s_off rfl rfl ?_
                refine s_off rfl rfl ?_
                refine s_offl rfl rfl trivial ?_
                refine s_offl rfl rfl trivial ?_
                refine s_off rfl rfl ?_
                refine s_do (o_q (.bool false) rfl trivial rfl) ?_
                refine s_do (o_mov (.bool false) rfl) ?_
                refine w_done ?_
                refine k_seq ?_
                refine w_ret ?_
                obtain rfl := os hf
                exact r_flat ⟨trivial, trivial⟩ rfl (.refl _)
            · refine s_lit (s := 69) (b := false) rfl (bf c31) ?_
              refine s_off rfl rfl ?_
              refine s_off rfl rfl ?_
              refine s_do (o_q (.bool false) rfl trivial rfl) ?_
              refine s_do (o_mov (.bool false) rfl) ?_
              refine s_off rfl rfl ?_
              refine s_off rfl rfl ?_
              refine s_do (o_q (.bool false) rfl trivial rfl) ?_
              refine s_do (o_mov (.bool false) rfl) ?_
              refine s_off rfl rfl ?_
              refine s_off rfl rfl ?_
              refine s_off rfl rfl ?_
              refine s_off rfl rfl ?_
              refine s_offl rfl rfl trivial ?_
              refine s_offl rfl rfl trivial ?_
              refine s_off rfl rfl ?_
              refine s_do (o_q (.bool false) rfl trivial rfl) ?_
              refine s_do (o_mov (.bool false) rfl) ?_
              refine w_done ?_
              refine k_seq ?_
              refine w_ret ?_
              obtain rfl := os hf
              exact r_flat ⟨trivial, trivial⟩ rfl (.refl _)
          · refine s_lit (s := 64) (b := false) rfl (bf c28) ?_
            refine s_off rfl rfl ?_
            refine s_off rfl rfl ?_
            refine s_offl rfl rfl trivial ?_
            refine s_do (o_q (.bool false) rfl trivial rfl) ?_
            refine s_do (o_mov (.bool false) rfl) ?_
            refine s_off rfl rfl ?_
            refine s_off rfl rfl ?_
            refine s_do (o_q (.bool false) rfl trivial rfl) ?_
            refine s_do (o_mov (.bool false) rfl) ?_
            refine s_off rfl rfl ?_
            refine s_off rfl rfl ?_
            refine s_do (o_q (.bool false) rfl trivial rfl) ?_
            refine s_do (o_mov (.bool false) rfl) ?_
            refine s_off rfl rfl ?_
            refine s_off rfl rfl ?_
            refine s_off rfl rfl ?_
            refine s_off rfl rfl ?_
            refine s_offl rfl rfl trivial ?_
            refine s_offl rfl rfl trivial ?_
            refine s_off rfl rfl ?_
            refine s_do (o_q (.bool false) rfl trivial rfl) ?_
            refine s_do (o_mov (.bool false) rfl) ?_
            refine w_done ?_
            refine k_seq ?_
            refine w_ret ?_
            obtain rfl := os hf
            exact r_flat ⟨trivial, trivial⟩ rfl (.refl _)
        · refine s_lit (s := 60) (b := false) rfl (bf c27) ?_
          refine s_off rfl rfl ?_
          refine s_off rfl rfl ?_
          refine s_do (o_q (.bool false) rfl trivial rfl) ?_
          refine s_do (o_mov (.bool false) rfl) ?_
          refine s_off rfl rfl ?_
          refine s_off rfl rfl ?_
          refine s_offl rfl rfl trivial ?_
          refine s_do (o_q (.bool false) rfl trivial rfl) ?_
          refine s_do (o_mov (.bool false) rfl) ?_
          refine s_off rfl rfl ?_
          refine s_off rfl rfl ?_
          refine s_do (o_q (.bool false) rfl trivial rfl) ?_
          refine s_do (o_mov (.bool false) rfl) ?_
          refine s_off rfl rfl ?_
          refine s_off rfl rfl ?_
          refine s_do (o_q (.bool false) rfl trivial rfl) ?_
          refine s_do (o_mov (.bool false) rfl) ?_
          refine s_off rfl rfl ?_
          refine s_off rfl rfl ?_
          refine s_off rfl rfl ?_
          refine s_off rfl rfl ?_
          refine s_offl rfl rfl trivial ?_
          refine s_offl rfl rfl trivial ?_
          refine s_off rfl rfl ?_
          refine s_do (o_q (.bool false) rfl trivial rfl) ?_
          refine s_do (o_mov (.bool false) rfl) ?_
          refine w_done ?_
          refine k_seq ?_
          refine w_ret ?_
          obtain rfl := os hf
          exact r_flat ⟨trivial, trivial⟩ rfl (.refl _)
      · refine s_lit (s := 55) (b := false) rfl (bf c24) ?_
        refine s_off rfl rfl ?_
        refine s_off rfl rfl ?_
        refine s_offl rfl rfl trivial ?_
        refine s_do (o_q (.bool false) rfl trivial rfl) ?_
        refine s_do (o_mov (.bool false) rfl) ?_
        refine s_off rfl rfl ?_
        refine s_off rfl rfl ?_
        refine s_do (o_q (.bool false) rfl trivial rfl) ?_
        refine s_do (o_mov (.bool false) rfl) ?_
        refine s_off rfl rfl ?_
        refine s_off rfl rfl ?_
        refine s_offl rfl rfl trivial ?_
        refine s_do (o_q (.bool false) rfl trivial rfl) ?_
        refine s_do (o_mov (.bool false) rfl) ?_
        refine s_off rfl rfl ?_
        refine s_off rfl rfl ?_
        refine s_do (o_q (.bool false) rfl trivial rfl) ?_
        refine s_do (o_mov (.bool false) rfl) ?_
        refine s_off rfl rfl ?_
        refine s_off rfl rfl ?_
        refine s_do (o_q (.bool false) rfl trivial rfl) ?_
        refine s_do (o_mov (.bool false) rfl) ?_
        refine s_off rfl rfl ?_
        refine s_off rfl rfl ?_
        refine s_off rfl rfl ?_
        refine s_off rfl rfl ?_
        refine s_offl rfl rfl trivial ?_
        refine s_offl rfl rfl trivial ?_
        refine s_off rfl rfl ?_
        refine s_do (o_q (.bool false) rfl trivial rfl) ?_
        refine s_do (o_mov (.bool false) rfl) ?_
        refine w_done ?_
        refine k_seq ?_
        refine w_ret ?_
        obtain rfl := os hf
        exact r_flat ⟨trivial, trivial⟩ rfl (.refl _)

end Go.R
