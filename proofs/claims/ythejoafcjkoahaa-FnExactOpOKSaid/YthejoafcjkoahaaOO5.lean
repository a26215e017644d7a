/- Walks. -/
import Derived.Test.YthejoafcjkoahaaOO4
set_option linter.all false
namespace Go.R
open Go Go.Proofs
set_option linter.unusedVariables false
set_option linter.unusedSimpArgs false
set_option maxHeartbeats 8000000
/- impl.setsOK$1 -/
def c82 : ACode :=
 (.seq (.reg (.q ⟨(some 1), none, .box 3 (.t 0)⟩
 (.q ⟨(some 2), none, .mov (.c (.bool false))⟩
 .done)))
 (.seq (.reg (.q ⟨(some 3), none, .load 3 true (.t 1)⟩
 (.q ⟨(some 4), none, .call 83 [(.t 3)]⟩
 (.q ⟨(some 5), none, .not (.t 4)⟩
 (.q ⟨(some 2), none, .mov (.t 5)⟩
 .done)))))
 .ret))
theorem fc82 : fcomp Try.prog Try.f82 = some (c82.erase, [.mov (.t 2)], 6) := by kernel_rfl
def impl_setsOK_1 (x_1 : GSet) : Option Bool :=
    (impl_setOK x_1).bind fun r_2 =>
    some (!r_2)
theorem w_impl_setsOK_1 (x_1 : GSet) (r : Bool) (hf : impl_setsOK_1 x_1 = some r) : CallOK Try.prog 82 .flat [(encGSet x_1)] (.bool r) := by
  refine CallOK.of_awp mixed Try.func82 fc82 nle ?_
  rw [argT_eq]
  unfold impl_setsOK_1 at hf
  unfold c82
  refine (show awp Try.prog false 0 _ (ofL [(0, (encGSet x_1))]) [] _ from ?_)
  refine awp_seq ?_
  refine w_reg ?_
  refine s_do (o_box (j := 0) (c := (.agg [(.str x_1.Column), (.lst 3 (x_1.Value.map encGAtom)), (.lst 1 (x_1.Names.map AV.str))])) rfl trivial rfl rfl) ?_
  refine s_do (o_mov (.bool false) rfl) ?_
  refine w_done ?_
  refine k_seq ?_
  refine awp_seq ?_
  refine w_reg ?_
  obtain ⟨r_2, er3, hf⟩ := ob hf
  refine s_do (o_q (.agg [(.str x_1.Column), (.lst 3 (x_1.Value.map encGAtom)), (.lst 1 (x_1.Names.map AV.str))]) rfl nle rfl) ?_
  refine s_do (o_call (w_impl_setOK _ _ er3) rfl (.refl _) rfl) ?_
  refine s_do (o_q (.bool (!r_2)) rfl trivial rfl) ?_
  refine s_do (o_mov (.bool (!r_2)) rfl) ?_
  refine w_done ?_
  refine k_seq ?_
  refine w_ret ?_
  obtain rfl := os hf
  exact r_flat ⟨trivial, trivial⟩ rfl (.refl _)

/- impl.setsOK -/
def c40 : ACode :=
 (.seq (.reg (.q ⟨(some 2), none, .mov (.c (.bool false))⟩
 .done))
 (.seq (.reg (.q ⟨(some 3), none, .mov (.t 0)⟩
 (.q ⟨(some 4), none, .len (.t 3)⟩
 (.q ⟨(some 5), none, .bin .leq (.t 4) (.c (.int .i64 6))⟩
 (.q ⟨(some 6), none, .mov (.t 5)⟩
 (.q ⟨(some 7), (some (6, true)), .mov (.t 0)⟩
 (.q ⟨(some 8), (some (6, true)), .call 81 [(.t 7), (.c (.fn 82 []))]⟩
 (.q ⟨(some 9), (some (6, true)), .not (.t 8)⟩
 (.q ⟨(some 10), none, .pick (.t 6) (.t 9) (.c (.bool false))⟩
 (.q ⟨(some 2), none, .mov (.t 10)⟩
 .done))))))))))
 .ret))
theorem fc40 : fcomp Try.prog Try.f40 = some (c40.erase, [.mov (.t 2)], 11) := by kernel_rfl
def impl_setsOK (list_1 : (List GSet)) : Option Bool :=
    if (decide ((list_1.length : Int) ≤ 6)) then
    (slices_ContainsFunc_impl_Set_impl_Set list_1 impl_setsOK_1).bind fun r_4 =>
    some (!r_4)
    else
    some false
theorem w_impl_setsOK (list_1 : (List GSet)) (r : Bool) (hf : impl_setsOK list_1 = some r) : CallOK Try.prog 40 .flat [(.lst 3 (list_1.map encGSet))] (.bool r) := by
  refine CallOK.of_awp mixed Try.func40 fc40 nle ?_
  rw [argT_eq]
  unfold impl_setsOK at hf
  unfold c40
  refine (show awp Try.prog false 0 _ (ofL [(0, (.lst 3 (list_1.map encGSet)))]) [] _ from ?_)
  refine awp_seq ?_
  refine w_reg ?_
  refine s_do (o_mov (.bool false) rfl) ?_
  refine w_done ?_
  refine k_seq ?_
  refine awp_seq ?_
  refine w_reg ?_
  rcases oi hf with ⟨c3, hf⟩ | ⟨c3, hf⟩
  · obtain ⟨r_4, er5, hf⟩ := ob hf
    refine s_do (o_mov (.lst 3 (list_1.map encGSet)) rfl) ?_
    refine s_dof (o_len (enc := encGSet) rfl) fun hl2 => ?_
    refine s_do (o_q (.bool (decide ((list_1.length : Int) ≤ 6))) rfl rfl rfl) ?_
    refine s_do (o_mov (.bool (decide ((list_1.length : Int) ≤ 6))) rfl) ?_
    refine s_lit (s := 6) (b := true) rfl c3 ?_
    refine s_on rfl ?_
    refine s_do (o_mov (.lst 3 (list_1.map encGSet)) rfl) ?_
    refine s_on rfl ?_
    refine s_do (o_call (w_slices_ContainsFunc_impl_Set_impl_Set _ _ _ er5 82 [] (by kernel_rfl) (fun _ _ => rfl) (fun _ => rfl) (fun a0 r h => w_impl_setsOK_1 a0 r h)) rfl (.refl _) rfl) ?_
    refine s_on rfl ?_
    refine s_do (o_q (.bool (!r_4)) rfl trivial rfl) ?_
    refine s_do (o_q (.bool (!r_4)) rfl trivial rfl) ?_
    refine s_do (o_mov (.bool (!r_4)) rfl) ?_
    refine w_done ?_
    refine k_seq ?_
    refine w_ret ?_
    obtain rfl := os hf
    exact r_flat ⟨trivial, trivial⟩ rfl (.refl _)
  · refine s_do (o_mov (.lst 3 (list_1.map encGSet)) rfl) ?_
    refine s_dof (o_len (enc := encGSet) rfl) fun hl2 => ?_
    refine s_do (o_q (.bool (decide ((list_1.length : Int) ≤ 6))) rfl rfl rfl) ?_
    refine s_do (o_mov (.bool (decide ((list_1.length : Int) ≤ 6))) rfl) ?_
    refine s_lit (s := 6) (b := false) rfl (bf c3) ?_
    refine s_off rfl rfl ?_
    refine s_off rfl rfl ?_
    refine s_off rfl rfl ?_
    refine s_do (o_q (.bool false) rfl trivial rfl) ?_
    refine s_do (o_mov (.bool false) rfl) ?_
    refine w_done ?_
    refine k_seq ?_
    refine w_ret ?_
    obtain rfl := os hf
    exact r_flat ⟨trivial, trivial⟩ rfl (.refl _)

/- impl.OpOK -/
def c10 : ACode :=
 (.seq (.reg (.q ⟨(some 1), none, .box 8 (.t 0)⟩
 (.q ⟨(some 2), none, .mov (.c (.bool false))⟩
 .done)))
 (.seq (.reg (.q ⟨(some 3), none, .load 8 true (.t 1)⟩
 (.q ⟨(some 4), none, .call 36 [(.t 3)]⟩
 (.q ⟨(some 5), none, .mov (.t 4)⟩
 (.q ⟨(some 6), (some (5, true)), .faddr 1 (.t 1)⟩
 (.q ⟨(some 7), (some (5, true)), .load 1 false (.t 6)⟩
 (.q ⟨(some 8), (some (5, true)), .faddr 2 (.t 1)⟩
 (.q ⟨(some 9), (some (5, true)), .load 1 false (.t 8)⟩
 (.q ⟨(some 10), (some (5, true)), .bslice 1 [(.t 7), (.t 9)]⟩
 (.q ⟨(some 11), (some (5, true)), .call 37 [(.t 10)]⟩
 (.q ⟨(some 12), none, .pick (.t 5) (.t 11) (.c (.bool false))⟩
 (.q ⟨(some 13), none, .mov (.t 12)⟩
 (.q ⟨(some 14), (some (13, true)), .faddr 6 (.t 1)⟩
 (.q ⟨(some 15), (some (13, true)), .load 1 false (.t 14)⟩
 (.q ⟨(some 16), (some (13, true)), .len (.t 15)⟩
 (.q ⟨(some 17), (some (13, true)), .bin .leq (.t 16) (.c (.int .i64 6))⟩
 (.q ⟨(some 18), none, .pick (.t 13) (.t 17) (.c (.bool false))⟩
 (.q ⟨(some 19), none, .mov (.t 18)⟩
 (.q ⟨(some 20), (some (19, true)), .faddr 6 (.t 1)⟩
 (.q ⟨(some 21), (some (19, true)), .load 1 false (.t 20)⟩
 (.q ⟨(some 22), (some (19, true)), .call 37 [(.t 21)]⟩
 (.q ⟨(some 23), none, .pick (.t 19) (.t 22) (.c (.bool false))⟩
 (.q ⟨(some 24), none, .mov (.t 23)⟩
 (.q ⟨(some 25), (some (24, true)), .faddr 3 (.t 1)⟩
 (.q ⟨(some 26), (some (24, true)), .load 1 false (.t 25)⟩
 (.q ⟨(some 27), (some (24, true)), .call 38 [(.t 26)]⟩
 (.q ⟨(some 28), none, .pick (.t 24) (.t 27) (.c (.bool false))⟩
 (.q ⟨(some 29), none, .mov (.t 28)⟩
 (.q ⟨(some 30), (some (29, true)), .faddr 5 (.t 1)⟩
 (.q ⟨(some 31), (some (29, true)), .load 1 false (.t 30)⟩
 (.q ⟨(some 32), (some (29, true)), .call 39 [(.t 31)]⟩
 (.q ⟨(some 33), none, .pick (.t 29) (.t 32) (.c (.bool false))⟩
 (.q ⟨(some 34), none, .mov (.t 33)⟩
 (.q ⟨(some 35), (some (34, true)), .faddr 4 (.t 1)⟩
 (.q ⟨(some 36), (some (34, true)), .load 1 false (.t 35)⟩
 (.q ⟨(some 37), (some (34, true)), .call 40 [(.t 36)]⟩
 (.q ⟨(some 38), none, .pick (.t 34) (.t 37) (.c (.bool false))⟩
 (.q ⟨(some 2), none, .mov (.t 38)⟩
 .done))))))))))))))))))))))))))))))))))))))
 .ret))
theorem fc10 : fcomp Try.prog Try.f10 = some (c10.erase, [.mov (.t 2)], 39) := by kernel_rfl
def impl_OpOK (o_1 : GOp) : Option Bool :=
    (impl_Op_isUnused o_1).bind fun r_2 =>
    if r_2 then
    (impl_areShort [o_1.Table, o_1.Name]).bind fun r_5 =>
    if r_5 then
    if (decide ((o_1.Columns.length : Int) ≤ 6)) then
    (impl_areShort o_1.Columns).bind fun r_10 =>
    if r_10 then
    (impl_condsOK o_1.Where).bind fun r_13 =>
    if r_13 then
    (impl_mutsOK o_1.Muts).bind fun r_16 =>
    if r_16 then
    (impl_setsOK o_1.Row).bind fun r_19 =>
    some r_19
    else
    some false
    else
    some false
    else
    some false
    else
    some false
    else
    some false
    else
    some false
theorem w_impl_OpOK (o_1 : GOp) (r : Bool) (hf : impl_OpOK o_1 = some r) : CallOK Try.prog 10 .flat [(encGOp o_1)] (.bool r) := by
 refine CallOK.of_awp mixed Try.func10 fc10 nle ?_; rw [argT_eq]; unfold impl_OpOK at hf; unfold c10; refine (show awp Try.prog false 0 _ (ofL [(0, (encGOp o_1))]) [] _ from ?_); refine awp_seq ?_; refine w_reg ?_; refine s_do (o_box (j := 0) (c := (.agg [(.int .i64 o_1.Kind), (.str o_1.Table), (.str o_1.Name), (.lst 3 (o_1.Where.map encGCond)), (.lst 3 (o_1.Row.map encGSet)), (.lst 3 (o_1.Muts.map encGMut)), (.lst 1 (o_1.Columns.map AV.str)), (.bool o_1.Until)])) rfl trivial rfl rfl) ?_; refine s_do (o_mov (.bool false) rfl) ?_; refine w_done ?_; refine k_seq ?_; refine awp_seq ?_; refine w_reg ?_
 refine s_do (o_q (.agg [(.int .i64 o_1.Kind), (.str o_1.Table), (.str o_1.Name), (.lst 3 (o_1.Where.map encGCond)), (.lst 3 (o_1.Row.map encGSet)), (.lst 3 (o_1.Muts.map encGMut)), (.lst 1 (o_1.Columns.map AV.str)), (.bool o_1.Until)]) rfl nle rfl) ?_
 obtain ⟨r_2, er3, hf⟩ := ob hf
 refine s_do (o_call (w_impl_Op_isUnused _ _ er3) rfl (.refl _) rfl) ?_; refine s_do (o_mov (.bool r_2) rfl) ?_
 rcases oi hf with ⟨c4, hf⟩ | ⟨c4, hf⟩
 ·refine s_lit (s := 5) (b := true) rfl c4 ?_; refine s_on rfl ?_; refine s_do (o_q (.ptr 0 0 1) rfl trivial rfl) ?_; refine s_on rfl ?_; refine s_do (o_q (.str o_1.Table) rfl nle rfl) ?_; refine s_on rfl ?_; refine s_do (o_q (.ptr 0 0 2) rfl trivial rfl) ?_; refine s_on rfl ?_; refine s_do (o_q (.str o_1.Name) rfl nle rfl) ?_; refine s_on rfl ?_; refine s_do (o_bslice (j := 1) (as' := [(.str o_1.Table), (.str o_1.Name)]) rfl (fun _ => by decide) ⟨rfl, ⟨rfl, trivial⟩⟩ (.refl _) rfl rfl rfl) ?_; refine s_on rfl ?_
  obtain ⟨r_5, er6, hf⟩ := ob hf
  refine s_do (o_call (w_impl_areShort _ _ er6) rfl (.cons (.of_eq (congrArg (AV.lst _) (tko [o_1.Table, o_1.Name]))) .nil) rfl) ?_; refine s_do (o_q (.bool r_5) rfl trivial rfl) ?_; refine s_do (o_mov (.bool r_5) rfl) ?_
  rcases oi hf with ⟨c7, hf⟩ | ⟨c7, hf⟩
  ·refine s_lit (s := 13) (b := true) rfl c7 ?_; refine s_on rfl ?_; refine s_do (o_q (.ptr 0 0 6) rfl trivial rfl) ?_; refine s_on rfl ?_; refine s_do (o_q (.lst 1 (o_1.Columns.map AV.str)) rfl nle rfl) ?_; refine s_on rfl ?_; refine s_dof (o_len (enc := AV.str) rfl) fun hl8 => ?_; refine s_on rfl ?_; refine s_do (o_q (.bool (decide ((o_1.Columns.length : Int) ≤ 6))) rfl rfl rfl) ?_; refine s_do (o_q (.bool (decide ((o_1.Columns.length : Int) ≤ 6))) rfl trivial rfl) ?_; refine s_do (o_mov (.bool (decide ((o_1.Columns.length : Int) ≤ 6))) rfl) ?_
   rcases oi hf with ⟨c9, hf⟩ | ⟨c9, hf⟩
   ·refine s_lit (s := 19) (b := true) rfl c9 ?_; refine s_on rfl ?_; refine s_do (o_q (.ptr 0 0 6) rfl trivial rfl) ?_; refine s_on rfl ?_; refine s_do (o_q (.lst 1 (o_1.Columns.map AV.str)) rfl nle rfl) ?_; refine s_on rfl ?_
    obtain ⟨r_10, er11, hf⟩ := ob hf
    refine s_do (o_call (w_impl_areShort _ _ er11) rfl (.refl _) rfl) ?_; refine s_do (o_q (.bool r_10) rfl trivial rfl) ?_; refine s_do (o_mov (.bool r_10) rfl) ?_
    rcases oi hf with ⟨c12, hf⟩ | ⟨c12, hf⟩
    ·refine s_lit (s := 24) (b := true) rfl c12 ?_; refine s_on rfl ?_; refine s_do (o_q (.ptr 0 0 3) rfl trivial rfl) ?_; refine s_on rfl ?_; refine s_do (o_q (.lst 3 (o_1.Where.map encGCond)) rfl nle rfl) ?_; refine s_on rfl ?_
     obtain ⟨r_13, er14, hf⟩ := ob hf
     refine s_do (o_call (w_impl_condsOK _ _ er14) rfl (.refl _) rfl) ?_; refine s_do (o_q (.bool r_13) rfl trivial rfl) ?_; refine s_do (o_mov (.bool r_13) rfl) ?_
     rcases oi hf with ⟨c15, hf⟩ | ⟨c15, hf⟩
     ·refine s_lit (s := 29) (b := true) rfl c15 ?_; refine s_on rfl ?_; refine s_do (o_q (.ptr 0 0 5) rfl trivial rfl) ?_; refine s_on rfl ?_; refine s_do (o_q (.lst 3 (o_1.Muts.map encGMut)) rfl nle rfl) ?_; refine s_on rfl ?_
      obtain ⟨r_16, er17, hf⟩ := ob hf
      refine s_do (o_call (w_impl_mutsOK _ _ er17) rfl (.refl _) rfl) ?_; refine s_do (o_q (.bool r_16) rfl trivial rfl) ?_; refine s_do (o_mov (.bool r_16) rfl) ?_
      rcases oi hf with ⟨c18, hf⟩ | ⟨c18, hf⟩
      ·refine s_lit (s := 34) (b := true) rfl c18 ?_; refine s_on rfl ?_; refine s_do (o_q (.ptr 0 0 4) rfl trivial rfl) ?_; refine s_on rfl ?_; refine s_do (o_q (.lst 3 (o_1.Row.map encGSet)) rfl nle rfl) ?_; refine s_on rfl ?_
       obtain ⟨r_19, er20, hf⟩ := ob hf
       refine s_do (o_call (w_impl_setsOK _ _ er20) rfl (.refl _) rfl) ?_; refine s_do (o_q (.bool r_19) rfl trivial rfl) ?_; refine s_do (o_mov (.bool r_19) rfl) ?_; refine w_done ?_; refine k_seq ?_; refine w_ret ?_; obtain rfl := os hf; exact r_flat ⟨trivial, trivial⟩ rfl (.refl _)
      ·refine s_lit (s := 34) (b := false) rfl (bf c18) ?_; refine s_off rfl rfl ?_; refine s_off rfl rfl ?_; refine s_off rfl rfl ?_; refine s_do (o_q (.bool false) rfl trivial rfl) ?_; refine s_do (o_mov (.bool false) rfl) ?_; refine w_done ?_; refine k_seq ?_; refine w_ret ?_; obtain rfl := os hf; exact r_flat ⟨trivial, trivial⟩ rfl (.refl _)
     ·refine s_lit (s := 29) (b := false) rfl (bf c15) ?_; refine s_off rfl rfl ?_; refine s_off rfl rfl ?_; refine s_off rfl rfl ?_; refine s_do (o_q (.bool false) rfl trivial rfl) ?_; refine s_do (o_mov (.bool false) rfl) ?_; refine s_off rfl rfl ?_; refine s_off rfl rfl ?_; refine s_off rfl rfl ?_; refine s_do (o_q (.bool false) rfl trivial rfl) ?_; refine s_do (o_mov (.bool false) rfl) ?_; refine w_done ?_; refine k_seq ?_; refine w_ret ?_; obtain rfl := os hf; exact r_flat ⟨trivial, trivial⟩ rfl (.refl _)
    ·refine s_lit (s := 24) (b := false) rfl (bf c12) ?_; refine s_off rfl rfl ?_; refine s_off rfl rfl ?_; refine s_off rfl rfl ?_; refine s_do (o_q (.bool false) rfl trivial rfl) ?_; refine s_do (o_mov (.bool false) rfl) ?_; refine s_off rfl rfl ?_; refine s_off rfl rfl ?_; refine s_off rfl rfl ?_; refine s_do (o_q (.bool false) rfl trivial rfl) ?_; refine s_do (o_mov (.bool false) rfl) ?_; refine s_off rfl rfl ?_; refine s_off rfl rfl ?_; refine s_off rfl rfl ?_; refine s_do (o_q (.bool false) rfl trivial rfl) ?_; refine s_do (o_mov (.bool false) rfl) ?_; refine w_done ?_; refine k_seq ?_; refine w_ret ?_
     obtain rfl := os hf; exact r_flat ⟨trivial, trivial⟩ rfl (.refl _)
   ·refine s_lit (s := 19) (b := false) rfl (bf c9) ?_; refine s_off rfl rfl ?_; refine s_off rfl rfl ?_; refine s_off rfl rfl ?_; refine s_do (o_q (.bool false) rfl trivial rfl) ?_; refine s_do (o_mov (.bool false) rfl) ?_; refine s_off rfl rfl ?_; refine s_off rfl rfl ?_; refine s_off rfl rfl ?_; refine s_do (o_q (.bool false) rfl trivial rfl) ?_; refine s_do (o_mov (.bool false) rfl) ?_; refine s_off rfl rfl ?_; refine s_off rfl rfl ?_; refine s_off rfl rfl ?_; refine s_do (o_q (.bool false) rfl trivial rfl) ?_; refine s_do (o_mov (.bool false) rfl) ?_; refine s_off rfl rfl ?_; refine s_off rfl rfl ?_
    refine s_off rfl rfl ?_; refine s_do (o_q (.bool false) rfl trivial rfl) ?_; refine s_do (o_mov (.bool false) rfl) ?_; refine w_done ?_; refine k_seq ?_; refine w_ret ?_; obtain rfl := os hf; exact r_flat ⟨trivial, trivial⟩ rfl (.refl _)
  ·refine s_lit (s := 13) (b := false) rfl (bf c7) ?_; refine s_off rfl rfl ?_; refine s_off rfl rfl ?_; refine s_off rfl rfl ?_; refine s_off rfl rfl ?_; refine s_do (o_q (.bool false) rfl trivial rfl) ?_; refine s_do (o_mov (.bool false) rfl) ?_; refine s_off rfl rfl ?_; refine s_off rfl rfl ?_; refine s_off rfl rfl ?_; refine s_do (o_q (.bool false) rfl trivial rfl) ?_; refine s_do (o_mov (.bool false) rfl) ?_; refine s_off rfl rfl ?_; refine s_off rfl rfl ?_; refine s_off rfl rfl ?_; refine s_do (o_q (.bool false) rfl trivial rfl) ?_; refine s_do (o_mov (.bool false) rfl) ?_; refine s_off rfl rfl ?_
   refine s_off rfl rfl ?_; refine s_off rfl rfl ?_; refine s_do (o_q (.bool false) rfl trivial rfl) ?_; refine s_do (o_mov (.bool false) rfl) ?_; refine s_off rfl rfl ?_; refine s_off rfl rfl ?_; refine s_off rfl rfl ?_; refine s_do (o_q (.bool false) rfl trivial rfl) ?_; refine s_do (o_mov (.bool false) rfl) ?_; refine w_done ?_; refine k_seq ?_; refine w_ret ?_; obtain rfl := os hf; exact r_flat ⟨trivial, trivial⟩ rfl (.refl _)
 ·refine s_lit (s := 5) (b := false) rfl (bf c4) ?_; refine s_off rfl rfl ?_; refine s_off rfl rfl ?_; refine s_off rfl rfl ?_; refine s_off rfl rfl ?_; refine s_off rfl rfl ?_; refine s_off rfl rfl ?_; refine s_do (o_q (.bool false) rfl trivial rfl) ?_; refine s_do (o_mov (.bool false) rfl) ?_; refine s_off rfl rfl ?_; refine s_off rfl rfl ?_; refine s_off rfl rfl ?_; refine s_off rfl rfl ?_; refine s_do (o_q (.bool false) rfl trivial rfl) ?_; refine s_do (o_mov (.bool false) rfl) ?_; refine s_off rfl rfl ?_; refine s_off rfl rfl ?_; refine s_off rfl rfl ?_; refine s_do (o_q (.bool false) rfl trivial rfl) ?_
  refine s_do (o_mov (.bool false) rfl) ?_; refine s_off rfl rfl ?_; refine s_off rfl rfl ?_; refine s_off rfl rfl ?_; refine s_do (o_q (.bool false) rfl trivial rfl) ?_; refine s_do (o_mov (.bool false) rfl) ?_; refine s_off rfl rfl ?_; refine s_off rfl rfl ?_; refine s_off rfl rfl ?_; refine s_do (o_q (.bool false) rfl trivial rfl) ?_; refine s_do (o_mov (.bool false) rfl) ?_; refine s_off rfl rfl ?_; refine s_off rfl rfl ?_; refine s_off rfl rfl ?_; refine s_do (o_q (.bool false) rfl trivial rfl) ?_; refine s_do (o_mov (.bool false) rfl) ?_; refine w_done ?_; refine k_seq ?_; refine w_ret ?_; obtain rfl := os hf
  exact r_flat ⟨trivial, trivial⟩ rfl (.refl _)

/- laws.eqAtom -/
def c131 : ACode :=
 (.seq (.reg (.q ⟨(some 2), none, .box 3 (.t 0)⟩
 (.q ⟨(some 3), none, .box 3 (.t 1)⟩
 (.q ⟨(some 4), none, .mov (.c (.bool false))⟩
 .done))))
 (.seq (.seq (.reg (.q ⟨(some 5), none, .faddr 0 (.t 2)⟩
 (.q ⟨(some 6), none, .load 1 false (.t 5)⟩
 (.q ⟨(some 7), none, .faddr 0 (.t 3)⟩
 (.q ⟨(some 8), none, .load 1 false (.t 7)⟩
 (.q ⟨(some 9), none, .bin .neq (.t 6) (.t 8)⟩
 .done))))))
 (.cond (.t 9) (.seq (.reg (.q ⟨(some 4), none, .mov (.c (.bool false))⟩
 .done))
 .ret)
 .skip))
 (.seq (.seq (.reg (.q ⟨(some 10), none, .faddr 1 (.t 2)⟩
 (.q ⟨(some 11), none, .load 1 false (.t 10)⟩
 (.q ⟨(some 12), none, .faddr 1 (.t 3)⟩
 (.q ⟨(some 13), none, .load 1 false (.t 12)⟩
 (.q ⟨(some 14), none, .bin .neq (.t 11) (.t 13)⟩
 .done))))))
 (.cond (.t 14) (.seq (.reg (.q ⟨(some 4), none, .mov (.c (.bool false))⟩
 .done))
 .ret)
 .skip))
 (.seq (.seq (.reg (.q ⟨(some 15), none, .faddr 2 (.t 2)⟩
 (.q ⟨(some 16), none, .load 1 false (.t 15)⟩
 (.q ⟨(some 17), none, .faddr 2 (.t 3)⟩
 (.q ⟨(some 18), none, .load 1 false (.t 17)⟩
 (.q ⟨(some 19), none, .bin .neq (.t 16) (.t 18)⟩
 .done))))))
 (.cond (.t 19) (.seq (.reg (.q ⟨(some 4), none, .mov (.c (.bool false))⟩
 .done))
 .ret)
 .skip))
 (.seq (.reg (.q ⟨(some 4), none, .mov (.c (.bool true))⟩
 .done))
 .ret)))))
theorem fc131 : fcomp Try.prog Try.f131 = some (c131.erase, [.mov (.t 4)], 20) := by kernel_rfl
def laws_eqAtom (a_1 : GAtom) (b_2 : GAtom) : Option Bool :=
    if (a_1.Kind != b_2.Kind) then
    some false
    else
    if (a_1.N != b_2.N) then
    some false
    else
    if (!(a_1.T == b_2.T)) then
    some false
    else
    some true
theorem w_laws_eqAtom (a_1 : GAtom) (b_2 : GAtom) (r : Bool) (hf : laws_eqAtom a_1 b_2 = some r) : CallOK Try.prog 131 .flat [(encGAtom a_1), (encGAtom b_2)] (.bool r) := by
  refine CallOK.of_awp mixed Try.func131 fc131 nle ?_
  rw [argT_eq]
  unfold laws_eqAtom at hf
  unfold c131
  refine (show awp Try.prog false 0 _ (ofL [(0, (encGAtom a_1)), (1, (encGAtom b_2))]) [] _ from ?_)
  refine awp_seq ?_
  refine w_reg ?_
  refine s_do (o_box (j := 0) (c := (.agg [(.int .i64 a_1.Kind), (.int .i64 a_1.N), (.str a_1.T)])) rfl trivial rfl rfl) ?_
  refine s_do (o_box (j := 1) (c := (.agg [(.int .i64 b_2.Kind), (.int .i64 b_2.N), (.str b_2.T)])) rfl trivial rfl rfl) ?_
  refine s_do (o_mov (.bool false) rfl) ?_
  refine w_done ?_
  refine k_seq ?_
  refine awp_seq ?_
  refine awp_seq ?_
  refine w_reg ?_
  refine s_do (o_q (.ptr 0 0 0) rfl trivial rfl) ?_
  refine s_do (o_q (.int .i64 a_1.Kind) rfl nle rfl) ?_
  refine s_do (o_q (.ptr 1 0 0) rfl trivial rfl) ?_
  refine s_do (o_q (.int .i64 b_2.Kind) rfl nle rfl) ?_
  refine s_do (o_q (.bool (a_1.Kind != b_2.Kind)) rfl rfl rfl) ?_
  refine w_done ?_
  refine k_seq ?_
  rcases oi hf with ⟨c3, hf⟩ | ⟨c3, hf⟩
  · refine w_condt rfl c3 ?_
    refine awp_seq ?_
    refine w_reg ?_
    refine s_do (o_mov (.bool false) rfl) ?_
    refine w_done ?_
    refine k_seq ?_
    refine w_ret ?_
    obtain rfl := os hf
    exact r_flat ⟨trivial, trivial⟩ rfl (.refl _)
  · refine w_condf rfl (bf c3) ?_
    refine w_skip ?_
    refine k_seq ?_
    refine awp_seq ?_
    refine awp_seq ?_
    refine w_reg ?_
    refine s_do (o_q (.ptr 0 0 1) rfl trivial rfl) ?_
    refine s_do (o_q (.int .i64 a_1.N) rfl nle rfl) ?_
    refine s_do (o_q (.ptr 1 0 1) rfl trivial rfl) ?_
    refine s_do (o_q (.int .i64 b_2.N) rfl nle rfl) ?_
    refine s_do (o_q (.bool (a_1.N != b_2.N)) rfl rfl rfl) ?_
    refine w_done ?_
    refine k_seq ?_
    rcases oi hf with ⟨c4, hf⟩ | ⟨c4, hf⟩
    · refine w_condt rfl c4 ?_
      refine awp_seq ?_
      refine w_reg ?_
      refine s_do (o_mov (.bool false) rfl) ?_
      refine w_done ?_
      refine k_seq ?_
      refine w_ret ?_
      obtain rfl := os hf
      exact r_flat ⟨trivial, trivial⟩ rfl (.refl _)
    · refine w_condf rfl (bf c4) ?_
      refine w_skip ?_
      refine k_seq ?_
      refine awp_seq ?_
      refine awp_seq ?_
      refine w_reg ?_
      refine s_do (o_q (.ptr 0 0 2) rfl trivial rfl) ?_
      refine s_do (o_q (.str a_1.T) rfl nle rfl) ?_
      refine s_do (o_q (.ptr 1 0 2) rfl trivial rfl) ?_
      refine s_do (o_q (.str b_2.T) rfl nle rfl) ?_
      refine s_do (o_q (.bool (!(a_1.T == b_2.T))) rfl trivial rfl) ?_
      refine w_done ?_
      refine k_seq ?_
      rcases oi hf with ⟨c5, hf⟩ | ⟨c5, hf⟩
      · refine w_condt rfl c5 ?_
        refine awp_seq ?_
        refine w_reg ?_
        refine s_do (o_mov (.bool false) rfl) ?_
        refine w_done ?_
        refine k_seq ?_
        refine w_ret ?_
        obtain rfl := os hf
        exact r_flat ⟨trivial, trivial⟩ rfl (.refl _)
      · refine w_condf rfl (bf c5) ?_
        refine w_skip ?_
        refine k_seq ?_
        refine awp_seq ?_
        refine w_reg ?_
        refine s_do (o_mov (.bool true) rfl) ?_
        refine w_done ?_
        refine k_seq ?_
        refine w_ret ?_
        obtain rfl := os hf
        exact r_flat ⟨trivial, trivial⟩ rfl (.refl _)

/- laws.eqAtomS -/
def c118 : ACode :=
 (.seq (.reg (.q ⟨(some 4), none, .mov (.c (.bool false))⟩
 .done))
 (.seq (.seq (.reg (.q ⟨(some 6), none, .mov (.t 0)⟩
 (.q ⟨(some 7), none, .len (.t 6)⟩
 (.q ⟨(some 8), none, .mov (.t 1)⟩
 (.q ⟨(some 9), none, .len (.t 8)⟩
 (.q ⟨(some 10), none, .bin .neq (.t 7) (.t 9)⟩
 .done))))))
 (.cond (.t 10) (.seq (.reg (.q ⟨(some 4), none, .mov (.c (.bool false))⟩
 .done))
 .ret)
 .skip))
 (.seq (.seq (.reg (.q ⟨(some 5), none, .mov (.c (.int .i64 0))⟩
 .done))
 (.block 0 (.loop (.seq (.seq (.reg (.q ⟨(some 11), none, .mov (.t 5)⟩
 (.q ⟨(some 12), none, .mov (.t 0)⟩
 (.q ⟨(some 13), none, .len (.t 12)⟩
 (.q ⟨(some 14), none, .bin .lss (.t 11) (.t 13)⟩
 .done)))))
 (.cond (.t 14) .skip
 (.exit 0)))
 (.seq (.block 1 (.seq (.reg (.q ⟨(some 17), none, .mov (.t 0)⟩
 (.q ⟨(some 18), none, .mov (.t 5)⟩
 (.q ⟨(some 19), none, .iaddr 3 (.t 17) (.t 18)⟩
 (.q ⟨(some 20), none, .load 3 true (.t 19)⟩
 (.q ⟨(some 21), none, .mov (.t 1)⟩
 (.q ⟨(some 22), none, .mov (.t 5)⟩
 (.q ⟨(some 23), none, .iaddr 3 (.t 21) (.t 22)⟩
 (.q ⟨(some 24), none, .load 3 true (.t 23)⟩
 (.l ⟨(some 25), none, .call 131 [(.t 20), (.t 24)]⟩ []
 (.q ⟨(some 26), none, .not (.t 25)⟩
 .done) .non))))))))))
 (.cond (.t 26) (.seq (.reg (.q ⟨(some 4), none, .mov (.c (.bool false))⟩
 .done))
 .ret)
 .skip)))
 (.reg (.q ⟨(some 15), none, .mov (.t 5)⟩
 (.q ⟨(some 16), none, .bin .add (.t 15) (.c (.int .i64 1))⟩
 (.q ⟨(some 5), none, .mov (.t 16)⟩
 .done)))))))))
 (.cut (.seq (.reg (.q ⟨(some 4), none, .mov (.c (.bool true))⟩
 .done))
 .ret)))))
theorem fc118 : fcomp Try.prog Try.f118 = some (c118.erase, [.mov (.t 4)], 27) := by kernel_rfl
def laws_eqAtomS_L1 (b_2 : (List GAtom)) : List GAtom → Nat → Option (Fl Bool Unit)
  | [], i_25 =>
    some (.go ())
  | x_43 :: xs, i_25 =>
    (idx b_2 (i_25 : Int)).bind fun x_46 =>
    (laws_eqAtom x_43 x_46).bind fun r_48 =>
    if (!r_48) then
    some (.ret false)
    else
    laws_eqAtomS_L1 b_2 xs (i_25 + 1)

def laws_eqAtomS (a_1 : (List GAtom)) (b_2 : (List GAtom)) : Option Bool :=
    if ((a_1.length : Int) != (b_2.length : Int)) then
    some false
    else
    (laws_eqAtomS_L1 b_2 a_1 0).bind fun q => (match q with
    | .ret r => some r
    | .go _ =>
    some true)
theorem w_laws_eqAtomS (a_1 : (List GAtom)) (b_2 : (List GAtom)) (r : Bool) (hf : laws_eqAtomS a_1 b_2 = some r) : CallOK Try.prog 118 .flat [(.lst 3 (a_1.map encGAtom)), (.lst 3 (b_2.map encGAtom))] (.bool r) := by
 refine CallOK.of_awp mixed Try.func118 fc118 nle ?_; rw [argT_eq]; unfold laws_eqAtomS at hf; unfold c118; refine (show awp Try.prog false 0 _ (ofL [(0, (.lst 3 (a_1.map encGAtom))), (1, (.lst 3 (b_2.map encGAtom)))]) [] _ from ?_); refine awp_seq ?_; refine w_reg ?_; refine s_do (o_mov (.bool false) rfl) ?_; refine w_done ?_; refine k_seq ?_; refine awp_seq ?_; refine awp_seq ?_; refine w_reg ?_; refine s_do (o_mov (.lst 3 (a_1.map encGAtom)) rfl) ?_; refine s_dof (o_len (enc := encGAtom) rfl) fun hl3 => ?_; refine s_do (o_mov (.lst 3 (b_2.map encGAtom)) rfl) ?_; refine s_dof (o_len (enc := encGAtom) rfl) fun hl4 => ?_
 refine s_do (o_q (.bool ((a_1.length : Int) != (b_2.length : Int))) rfl rfl rfl) ?_; refine w_done ?_; refine k_seq ?_
 rcases oi hf with ⟨c5, hf⟩ | ⟨c5, hf⟩
 ·refine w_condt rfl c5 ?_; refine awp_seq ?_; refine w_reg ?_; refine s_do (o_mov (.bool false) rfl) ?_; refine w_done ?_; refine k_seq ?_; refine w_ret ?_; obtain rfl := os hf; exact r_flat ⟨trivial, trivial⟩ rfl (.refl _)
 ·refine w_condf rfl (bf c5) ?_; refine w_skip ?_; refine k_seq ?_; refine awp_seq ?_; refine awp_seq ?_; refine w_reg ?_; refine s_do (o_mov (.int .i64 0) rfl) ?_; refine w_done ?_; refine k_seq ?_
  obtain ⟨p36, hb1, hf⟩ := ob hf
  refine awp_cutx (X := {q : Unit // p36 = .go q}) (fun q => ([], [])) ?_ ?_
  ·refine awp_loop (X := {q : Nat // laws_eqAtomS_L1 b_2 (a_1.drop q) q = some p36}) (fun q => ([(0, (.lst 3 (a_1.map encGAtom))), (1, (.lst 3 (b_2.map encGAtom))), (5, (.int .i64 (q.1 : Int)))], [])) (fun q => a_1.length - q.1) ⟨0, hb1⟩ ⟨[], [], _, _, rfl, rfl, ⟨.refl _, ⟨.refl _, ⟨.refl _, trivial⟩⟩⟩, (.refl _)⟩ ?_
   rintro ⟨i_25, hc1⟩
   have hc1 : laws_eqAtomS_L1 b_2 (a_1.drop i_25) i_25 = some p36 := hc1
   refine (show awp Try.prog false 0 _ (ofL [(0, (.lst 3 (a_1.map encGAtom))), (1, (.lst 3 (b_2.map encGAtom))), (5, (.int .i64 (i_25 : Int)))]) [] _ from ?_)
   rcases dropc a_1 i_25 with ⟨hie39, hd42⟩ | ⟨hlt37, x_43, hx38, hd42⟩
   ·rw [hd42, laws_eqAtomS_L1.eq_1] at hc1
    have hq41 := dlf hie39
    refine awp_seq ?_; refine awp_seq ?_; refine w_reg ?_; refine s_do (o_mov (.int .i64 (i_25 : Int)) rfl) ?_; refine s_do (o_mov (.lst 3 (a_1.map encGAtom)) rfl) ?_; refine s_dof (o_len (enc := encGAtom) rfl) fun hl44 => ?_; refine s_do (o_q (.bool (decide ((i_25 : Int) < (a_1.length : Int)))) rfl rfl rfl) ?_; refine w_done ?_; refine k_seq ?_; refine w_condf rfl hq41 ?_; refine w_exit ?_; refine k_seqx ?_; refine k_loopx ?_; refine k_blkx ?_; obtain rfl := os hc1; exact k_cutn ⟨_, rfl⟩ ⟨[], [], _, _, rfl, rfl, trivial, (.refl _)⟩
   ·rw [hd42, laws_eqAtomS_L1.eq_2] at hc1
    have hq41 := dlt hlt37
    refine awp_seq ?_; refine awp_seq ?_; refine w_reg ?_; refine s_do (o_mov (.int .i64 (i_25 : Int)) rfl) ?_; refine s_do (o_mov (.lst 3 (a_1.map encGAtom)) rfl) ?_; refine s_dof (o_len (enc := encGAtom) rfl) fun hl45 => ?_; refine s_do (o_q (.bool (decide ((i_25 : Int) < (a_1.length : Int)))) rfl rfl rfl) ?_; refine w_done ?_; refine k_seq ?_; refine w_condt rfl hq41 ?_; refine w_skip ?_; refine k_seq ?_; refine awp_seq ?_; refine w_blk ?_; refine awp_seq ?_; refine w_reg ?_
    obtain ⟨x_46, ex47, hc1⟩ := ob hc1
    obtain ⟨r_48, er49, hc1⟩ := ob hc1
    refine s_do (o_mov (.lst 3 (a_1.map encGAtom)) rfl) ?_; refine s_do (o_mov (.int .i64 (i_25 : Int)) rfl) ?_; refine s_do (o_iaddrn (enc := encGAtom) rfl rfl hx38) ?_; refine s_do (o_q (encGAtom x_43) rfl nle rfl) ?_; refine s_do (o_mov (.lst 3 (b_2.map encGAtom)) rfl) ?_; refine s_do (o_mov (.int .i64 (i_25 : Int)) rfl) ?_; refine s_do (o_iaddr (enc := encGAtom) rfl rfl (idx0 ex47) (idx1 ex47)) ?_; refine s_do (o_q (encGAtom x_46) rfl nle rfl) ?_; refine s_dol (o_call (w_laws_eqAtom _ _ _ er49) rfl (.refl _) rfl) a_same trivial ?_; refine s_do (o_q (.bool (!r_48)) rfl trivial rfl) ?_; refine w_done ?_
    refine k_seq ?_
    rcases oi hc1 with ⟨c50, hc1⟩ | ⟨c50, hc1⟩
    ·refine w_condt rfl c50 ?_; refine awp_seq ?_; refine w_reg ?_; refine s_do (o_mov (.bool false) rfl) ?_; refine w_done ?_; refine k_seq ?_; refine w_ret ?_; obtain rfl := os hc1; obtain rfl := os hf; exact r_flat ⟨trivial, trivial⟩ rfl (.refl _)
    ·refine w_condf rfl (bf c50) ?_; refine w_skip ?_; refine k_blk ?_; refine k_seq ?_; refine w_reg ?_; refine s_do (o_mov (.int .i64 (i_25 : Int)) rfl) ?_; refine s_do (o_q (.int .i64 (w64 ((i_25 : Int) + 1))) rfl rfl rfl) ?_; refine s_do (o_mov (.int .i64 (w64 ((i_25 : Int) + 1))) rfl) ?_; refine w_done ?_; exact k_loopn ⟨(i_25 + 1), hc1⟩ (mul hlt37) ⟨[], [], _, _, rfl, rfl, ⟨.refl _, ⟨.refl _, ⟨.of_eq (congrArg (AV.int _) (w64_incr hlt37 hl45)), trivial⟩⟩⟩, (.refl _)⟩
  ·rintro ⟨_, rfl⟩
   refine awp_seq ?_; refine w_reg ?_; refine s_do (o_mov (.bool true) rfl) ?_; refine w_done ?_; refine k_seq ?_; refine w_ret ?_; obtain rfl := os hf; exact r_flat ⟨trivial, trivial⟩ rfl (.refl _)

/- laws.eqCond -/
def c84 : ACode :=
 (.seq (.reg (.q ⟨(some 2), none, .box 3 (.t 0)⟩
 (.q ⟨(some 3), none, .box 3 (.t 1)⟩
 (.q ⟨(some 4), none, .mov (.c (.bool false))⟩
 .done))))
 (.seq (.seq (.reg (.q ⟨(some 5), none, .faddr 0 (.t 2)⟩
 (.q ⟨(some 6), none, .load 1 false (.t 5)⟩
 (.q ⟨(some 7), none, .faddr 0 (.t 3)⟩
 (.q ⟨(some 8), none, .load 1 false (.t 7)⟩
 (.q ⟨(some 9), none, .bin .neq (.t 6) (.t 8)⟩
 .done))))))
 (.cond (.t 9) (.seq (.reg (.q ⟨(some 4), none, .mov (.c (.bool false))⟩
 .done))
 .ret)
 .skip))
 (.seq (.seq (.reg (.q ⟨(some 10), none, .faddr 1 (.t 2)⟩
 (.q ⟨(some 11), none, .load 1 false (.t 10)⟩
 (.q ⟨(some 12), none, .faddr 1 (.t 3)⟩
 (.q ⟨(some 13), none, .load 1 false (.t 12)⟩
 (.q ⟨(some 14), none, .bin .neq (.t 11) (.t 13)⟩
 .done))))))
 (.cond (.t 14) (.seq (.reg (.q ⟨(some 4), none, .mov (.c (.bool false))⟩
 .done))
 .ret)
 .skip))
 (.seq (.seq (.reg (.q ⟨(some 15), none, .faddr 2 (.t 2)⟩
 (.q ⟨(some 16), none, .load 1 false (.t 15)⟩
 (.q ⟨(some 17), none, .faddr 2 (.t 3)⟩
 (.q ⟨(some 18), none, .load 1 false (.t 17)⟩
 (.q ⟨(some 19), none, .call 118 [(.t 16), (.t 18)]⟩
 (.q ⟨(some 20), none, .not (.t 19)⟩
 .done)))))))
 (.cond (.t 20) (.seq (.reg (.q ⟨(some 4), none, .mov (.c (.bool false))⟩
 .done))
 .ret)
 .skip))
 (.seq (.reg (.q ⟨(some 4), none, .mov (.c (.bool true))⟩
 .done))
 .ret)))))
theorem fc84 : fcomp Try.prog Try.f84 = some (c84.erase, [.mov (.t 4)], 21) := by kernel_rfl
def laws_eqCond (a_1 : GCond) (b_2 : GCond) : Option Bool :=
    if (!(a_1.Column == b_2.Column)) then
    some false
    else
    if (a_1.Func != b_2.Func) then
    some false
    else
    (laws_eqAtomS a_1.Value b_2.Value).bind fun r_5 =>
    if (!r_5) then
    some false
    else
    some true
theorem w_laws_eqCond (a_1 : GCond) (b_2 : GCond) (r : Bool) (hf : laws_eqCond a_1 b_2 = some r) : CallOK Try.prog 84 .flat [(encGCond a_1), (encGCond b_2)] (.bool r) := by
  refine CallOK.of_awp mixed Try.func84 fc84 nle ?_
  rw [argT_eq]
  unfold laws_eqCond at hf
  unfold c84
  refine (show awp Try.prog false 0 _ (ofL [(0, (encGCond a_1)), (1, (encGCond b_2))]) [] _ from ?_)
  refine awp_seq ?_
  refine w_reg ?_
  refine s_do (o_box (j := 0) (c := (.agg [(.str a_1.Column), (.int .i64 a_1.Func), (.lst 3 (a_1.Value.map encGAtom))])) rfl trivial rfl rfl) ?_
  refine s_do (o_box (j := 1) (c := (.agg [(.str b_2.Column), (.int .i64 b_2.Func), (.lst 3 (b_2.Value.map encGAtom))])) rfl trivial rfl rfl) ?_
  refine s_do (o_mov (.bool false) rfl) ?_
  refine w_done ?_
  refine k_seq ?_
  refine awp_seq ?_
  refine awp_seq ?_
  refine w_reg ?_
  refine s_do (o_q (.ptr 0 0 0) rfl trivial rfl) ?_
  refine s_do (o_q (.str a_1.Column) rfl nle rfl) ?_
  refine s_do (o_q (.ptr 1 0 0) rfl trivial rfl) ?_
  refine s_do (o_q (.str b_2.Column) rfl nle rfl) ?_
  refine s_do (o_q (.bool (!(a_1.Column == b_2.Column))) rfl trivial rfl) ?_
  refine w_done ?_
  refine k_seq ?_
  rcases oi hf with ⟨c3, hf⟩ | ⟨c3, hf⟩
  · refine w_condt rfl c3 ?_
    refine awp_seq ?_
    refine w_reg ?_
    refine s_do (o_mov (.bool false) rfl) ?_
    refine w_done ?_
    refine k_seq ?_
    refine w_ret ?_
    obtain rfl := os hf
    exact r_flat ⟨trivial, trivial⟩ rfl (.refl _)
  · refine w_condf rfl (bf c3) ?_
    refine w_skip ?_
    refine k_seq ?_
    refine awp_seq ?_
    refine awp_seq ?_
    refine w_reg ?_
    refine s_do (o_q (.ptr 0 0 1) rfl trivial rfl) ?_
    refine s_do (o_q (.int .i64 a_1.Func) rfl nle rfl) ?_
    refine s_do (o_q (.ptr 1 0 1) rfl trivial rfl) ?_
    refine s_do (o_q (.int .i64 b_2.Func) rfl nle rfl) ?_
    refine s_do (o_q (.bool (a_1.Func != b_2.Func)) rfl rfl rfl) ?_
    refine w_done ?_
    refine k_seq ?_
    rcases oi hf with ⟨c4, hf⟩ | ⟨c4, hf⟩
    · refine w_condt rfl c4 ?_
      refine awp_seq ?_
      refine w_reg ?_
      refine s_do (o_mov (.bool false) rfl) ?_
      refine w_done ?_
      refine k_seq ?_
      refine w_ret ?_
      obtain rfl := os hf
      exact r_flat ⟨trivial, trivial⟩ rfl (.refl _)
    · refine w_condf rfl (bf c4) ?_
      refine w_skip ?_
      refine k_seq ?_
      refine awp_seq ?_
      refine awp_seq ?_
      refine w_reg ?_
      obtain ⟨r_5, er6, hf⟩ := ob hf
      refine s_do (o_q (.ptr 0 0 2) rfl trivial rfl) ?_
      refine s_do (o_q (.lst 3 (a_1.Value.map encGAtom)) rfl nle rfl) ?_
      refine s_do (o_q (.ptr 1 0 2) rfl trivial rfl) ?_
      refine s_do (o_q (.lst 3 (b_2.Value.map encGAtom)) rfl nle rfl) ?_
      refine s_do (o_call (w_laws_eqAtomS _ _ _ er6) rfl (.refl _) rfl) ?_
      refine s_do (o_q (.bool (!r_5)) rfl trivial rfl) ?_
      refine w_done ?_
      refine k_seq ?_
      rcases oi hf with ⟨c7, hf⟩ | ⟨c7, hf⟩
      · refine w_condt rfl c7 ?_
        refine awp_seq ?_
        refine w_reg ?_
        refine s_do (o_mov (.bool false) rfl) ?_
        refine w_done ?_
        refine k_seq ?_
        refine w_ret ?_
        obtain rfl := os hf
        exact r_flat ⟨trivial, trivial⟩ rfl (.refl _)
      · refine w_condf rfl (bf c7) ?_
        refine w_skip ?_
        refine k_seq ?_
        refine awp_seq ?_
        refine w_reg ?_
        refine s_do (o_mov (.bool true) rfl) ?_
        refine w_done ?_
        refine k_seq ?_
        refine w_ret ?_
        obtain rfl := os hf
        exact r_flat ⟨trivial, trivial⟩ rfl (.refl _)

/- laws.eqCondS -/
def c41 : ACode :=
 (.seq (.reg (.q ⟨(some 4), none, .mov (.c (.bool false))⟩
 .done))
 (.seq (.seq (.reg (.q ⟨(some 6), none, .mov (.t 0)⟩
 (.q ⟨(some 7), none, .len (.t 6)⟩
 (.q ⟨(some 8), none, .mov (.t 1)⟩
 (.q ⟨(some 9), none, .len (.t 8)⟩
 (.q ⟨(some 10), none, .bin .neq (.t 7) (.t 9)⟩
 .done))))))
 (.cond (.t 10) (.seq (.reg (.q ⟨(some 4), none, .mov (.c (.bool false))⟩
 .done))
 .ret)
 .skip))
 (.seq (.seq (.reg (.q ⟨(some 5), none, .mov (.c (.int .i64 0))⟩
 .done))
 (.block 0 (.loop (.seq (.seq (.reg (.q ⟨(some 11), none, .mov (.t 5)⟩
 (.q ⟨(some 12), none, .mov (.t 0)⟩
 (.q ⟨(some 13), none, .len (.t 12)⟩
 (.q ⟨(some 14), none, .bin .lss (.t 11) (.t 13)⟩
 .done)))))
 (.cond (.t 14) .skip
 (.exit 0)))
 (.seq (.block 1 (.seq (.reg (.q ⟨(some 17), none, .mov (.t 0)⟩
 (.q ⟨(some 18), none, .mov (.t 5)⟩
 (.q ⟨(some 19), none, .iaddr 3 (.t 17) (.t 18)⟩
 (.q ⟨(some 20), none, .load 3 true (.t 19)⟩
 (.q ⟨(some 21), none, .mov (.t 1)⟩
 (.q ⟨(some 22), none, .mov (.t 5)⟩
 (.q ⟨(some 23), none, .iaddr 3 (.t 21) (.t 22)⟩
 (.q ⟨(some 24), none, .load 3 true (.t 23)⟩
 (.l ⟨(some 25), none, .call 84 [(.t 20), (.t 24)]⟩ []
 (.q ⟨(some 26), none, .not (.t 25)⟩
 .done) .non))))))))))
 (.cond (.t 26) (.seq (.reg (.q ⟨(some 4), none, .mov (.c (.bool false))⟩
 .done))
 .ret)
 .skip)))
 (.reg (.q ⟨(some 15), none, .mov (.t 5)⟩
 (.q ⟨(some 16), none, .bin .add (.t 15) (.c (.int .i64 1))⟩
 (.q ⟨(some 5), none, .mov (.t 16)⟩
 .done)))))))))
 (.cut (.seq (.reg (.q ⟨(some 4), none, .mov (.c (.bool true))⟩
 .done))
 .ret)))))
theorem fc41 : fcomp Try.prog Try.f41 = some (c41.erase, [.mov (.t 4)], 27) := by kernel_rfl
def laws_eqCondS_L1 (b_2 : (List GCond)) : List GCond → Nat → Option (Fl Bool Unit)
  | [], i_25 =>
    some (.go ())
  | x_43 :: xs, i_25 =>
    (idx b_2 (i_25 : Int)).bind fun x_46 =>
    (laws_eqCond x_43 x_46).bind fun r_48 =>
    if (!r_48) then
    some (.ret false)
    else
    laws_eqCondS_L1 b_2 xs (i_25 + 1)

def laws_eqCondS (a_1 : (List GCond)) (b_2 : (List GCond)) : Option Bool :=
    if ((a_1.length : Int) != (b_2.length : Int)) then
    some false
    else
    (laws_eqCondS_L1 b_2 a_1 0).bind fun q => (match q with
    | .ret r => some r
    | .go _ =>
    some true)
theorem w_laws_eqCondS (a_1 : (List GCond)) (b_2 : (List GCond)) (r : Bool) (hf : laws_eqCondS a_1 b_2 = some r) : CallOK Try.prog 41 .flat [(.lst 3 (a_1.map encGCond)), (.lst 3 (b_2.map encGCond))] (.bool r) := by
 refine CallOK.of_awp mixed Try.func41 fc41 nle ?_; rw [argT_eq]; unfold laws_eqCondS at hf; unfold c41; refine (show awp Try.prog false 0 _ (ofL [(0, (.lst 3 (a_1.map encGCond))), (1, (.lst 3 (b_2.map encGCond)))]) [] _ from ?_); refine awp_seq ?_; refine w_reg ?_; refine s_do (o_mov (.bool false) rfl) ?_; refine w_done ?_; refine k_seq ?_; refine awp_seq ?_; refine awp_seq ?_; refine w_reg ?_; refine s_do (o_mov (.lst 3 (a_1.map encGCond)) rfl) ?_; refine s_dof (o_len (enc := encGCond) rfl) fun hl3 => ?_; refine s_do (o_mov (.lst 3 (b_2.map encGCond)) rfl) ?_; refine s_dof (o_len (enc := encGCond) rfl) fun hl4 => ?_
 refine s_do (o_q (.bool ((a_1.length : Int) != (b_2.length : Int))) rfl rfl rfl) ?_; refine w_done ?_; refine k_seq ?_
 rcases oi hf with ⟨c5, hf⟩ | ⟨c5, hf⟩
 ·refine w_condt rfl c5 ?_; refine awp_seq ?_; refine w_reg ?_; refine s_do (o_mov (.bool false) rfl) ?_; refine w_done ?_; refine k_seq ?_; refine w_ret ?_; obtain rfl := os hf; exact r_flat ⟨trivial, trivial⟩ rfl (.refl _)
 ·refine w_condf rfl (bf c5) ?_; refine w_skip ?_; refine k_seq ?_; refine awp_seq ?_; refine awp_seq ?_; refine w_reg ?_; refine s_do (o_mov (.int .i64 0) rfl) ?_; refine w_done ?_; refine k_seq ?_
  obtain ⟨p36, hb1, hf⟩ := ob hf
  refine awp_cutx (X := {q : Unit // p36 = .go q}) (fun q => ([], [])) ?_ ?_
  ·refine awp_loop (X := {q : Nat // laws_eqCondS_L1 b_2 (a_1.drop q) q = some p36}) (fun q => ([(0, (.lst 3 (a_1.map encGCond))), (1, (.lst 3 (b_2.map encGCond))), (5, (.int .i64 (q.1 : Int)))], [])) (fun q => a_1.length - q.1) ⟨0, hb1⟩ ⟨[], [], _, _, rfl, rfl, ⟨.refl _, ⟨.refl _, ⟨.refl _, trivial⟩⟩⟩, (.refl _)⟩ ?_
   rintro ⟨i_25, hc1⟩
   have hc1 : laws_eqCondS_L1 b_2 (a_1.drop i_25) i_25 = some p36 := hc1
   refine (show awp Try.prog false 0 _ (ofL [(0, (.lst 3 (a_1.map encGCond))), (1, (.lst 3 (b_2.map encGCond))), (5, (.int .i64 (i_25 : Int)))]) [] _ from ?_)
   rcases dropc a_1 i_25 with ⟨hie39, hd42⟩ | ⟨hlt37, x_43, hx38, hd42⟩
   ·rw [hd42, laws_eqCondS_L1.eq_1] at hc1
    have hq41 := dlf hie39
    refine awp_seq ?_; refine awp_seq ?_; refine w_reg ?_; refine s_do (o_mov (.int .i64 (i_25 : Int)) rfl) ?_; refine s_do (o_mov (.lst 3 (a_1.map encGCond)) rfl) ?_; refine s_dof (o_len (enc := encGCond) rfl) fun hl44 => ?_; refine s_do (o_q (.bool (decide ((i_25 : Int) < (a_1.length : Int)))) rfl rfl rfl) ?_; refine w_done ?_; refine k_seq ?_; refine w_condf rfl hq41 ?_; refine w_exit ?_; refine k_seqx ?_; refine k_loopx ?_; refine k_blkx ?_; obtain rfl := os hc1; exact k_cutn ⟨_, rfl⟩ ⟨[], [], _, _, rfl, rfl, trivial, (.refl _)⟩
   ·rw [hd42, laws_eqCondS_L1.eq_2] at hc1
    have hq41 := dlt hlt37
    refine awp_seq ?_; refine awp_seq ?_; refine w_reg ?_; refine s_do (o_mov (.int .i64 (i_25 : Int)) rfl) ?_; refine s_do (o_mov (.lst 3 (a_1.map encGCond)) rfl) ?_; refine s_dof (o_len (enc := encGCond) rfl) fun hl45 => ?_; refine s_do (o_q (.bool (decide ((i_25 : Int) < (a_1.length : Int)))) rfl rfl rfl) ?_; refine w_done ?_; refine k_seq ?_; refine w_condt rfl hq41 ?_; refine w_skip ?_; refine k_seq ?_; refine awp_seq ?_; refine w_blk ?_; refine awp_seq ?_; refine w_reg ?_
    obtain ⟨x_46, ex47, hc1⟩ := ob hc1
    obtain ⟨r_48, er49, hc1⟩ := ob hc1
    refine s_do (o_mov (.lst 3 (a_1.map encGCond)) rfl) ?_; refine s_do (o_mov (.int .i64 (i_25 : Int)) rfl) ?_; refine s_do (o_iaddrn (enc := encGCond) rfl rfl hx38) ?_; refine s_do (o_q (encGCond x_43) rfl nle rfl) ?_; refine s_do (o_mov (.lst 3 (b_2.map encGCond)) rfl) ?_; refine s_do (o_mov (.int .i64 (i_25 : Int)) rfl) ?_; refine s_do (o_iaddr (enc := encGCond) rfl rfl (idx0 ex47) (idx1 ex47)) ?_; refine s_do (o_q (encGCond x_46) rfl nle rfl) ?_; refine s_dol (o_call (w_laws_eqCond _ _ _ er49) rfl (.refl _) rfl) a_same trivial ?_; refine s_do (o_q (.bool (!r_48)) rfl trivial rfl) ?_; refine w_done ?_
    refine k_seq ?_
    rcases oi hc1 with ⟨c50, hc1⟩ | ⟨c50, hc1⟩
    ·refine w_condt rfl c50 ?_; refine awp_seq ?_; refine w_reg ?_; refine s_do (o_mov (.bool false) rfl) ?_; refine w_done ?_; refine k_seq ?_; refine w_ret ?_; obtain rfl := os hc1; obtain rfl := os hf; exact r_flat ⟨trivial, trivial⟩ rfl (.refl _)
    ·refine w_condf rfl (bf c50) ?_; refine w_skip ?_; refine k_blk ?_; refine k_seq ?_; refine w_reg ?_; refine s_do (o_mov (.int .i64 (i_25 : Int)) rfl) ?_; refine s_do (o_q (.int .i64 (w64 ((i_25 : Int) + 1))) rfl rfl rfl) ?_; refine s_do (o_mov (.int .i64 (w64 ((i_25 : Int) + 1))) rfl) ?_; refine w_done ?_; exact k_loopn ⟨(i_25 + 1), hc1⟩ (mul hlt37) ⟨[], [], _, _, rfl, rfl, ⟨.refl _, ⟨.refl _, ⟨.of_eq (congrArg (AV.int _) (w64_incr hlt37 hl45)), trivial⟩⟩⟩, (.refl _)⟩
  ·rintro ⟨_, rfl⟩
   refine awp_seq ?_; refine w_reg ?_; refine s_do (o_mov (.bool true) rfl) ?_; refine w_done ?_; refine k_seq ?_; refine w_ret ?_; obtain rfl := os hf; exact r_flat ⟨trivial, trivial⟩ rfl (.refl _)

/- laws.eqStringS -/
def c44 : ACode :=
 (.seq (.reg (.q ⟨(some 4), none, .mov (.c (.bool false))⟩
 .done))
 (.seq (.seq (.reg (.q ⟨(some 6), none, .mov (.t 0)⟩
 (.q ⟨(some 7), none, .len (.t 6)⟩
 (.q ⟨(some 8), none, .mov (.t 1)⟩
 (.q ⟨(some 9), none, .len (.t 8)⟩
 (.q ⟨(some 10), none, .bin .neq (.t 7) (.t 9)⟩
 .done))))))
 (.cond (.t 10) (.seq (.reg (.q ⟨(some 4), none, .mov (.c (.bool false))⟩
 .done))
 .ret)
 .skip))
 (.seq (.seq (.reg (.q ⟨(some 5), none, .mov (.c (.int .i64 0))⟩
 .done))
 (.block 0 (.loop (.seq (.seq (.reg (.q ⟨(some 11), none, .mov (.t 5)⟩
 (.q ⟨(some 12), none, .mov (.t 0)⟩
 (.q ⟨(some 13), none, .len (.t 12)⟩
 (.q ⟨(some 14), none, .bin .lss (.t 11) (.t 13)⟩
 .done)))))
 (.cond (.t 14) .skip
 (.exit 0)))
 (.seq (.block 1 (.seq (.reg (.q ⟨(some 17), none, .mov (.t 0)⟩
 (.q ⟨(some 18), none, .mov (.t 5)⟩
 (.q ⟨(some 19), none, .iaddr 1 (.t 17) (.t 18)⟩
 (.q ⟨(some 20), none, .load 1 false (.t 19)⟩
 (.q ⟨(some 21), none, .mov (.t 1)⟩
 (.q ⟨(some 22), none, .mov (.t 5)⟩
 (.q ⟨(some 23), none, .iaddr 1 (.t 21) (.t 22)⟩
 (.q ⟨(some 24), none, .load 1 false (.t 23)⟩
 (.q ⟨(some 25), none, .bin .neq (.t 20) (.t 24)⟩
 .done))))))))))
 (.cond (.t 25) (.seq (.reg (.q ⟨(some 4), none, .mov (.c (.bool false))⟩
 .done))
 .ret)
 .skip)))
 (.reg (.q ⟨(some 15), none, .mov (.t 5)⟩
 (.q ⟨(some 16), none, .bin .add (.t 15) (.c (.int .i64 1))⟩
 (.q ⟨(some 5), none, .mov (.t 16)⟩
 .done)))))))))
 (.cut (.seq (.reg (.q ⟨(some 4), none, .mov (.c (.bool true))⟩
 .done))
 .ret)))))
theorem fc44 : fcomp Try.prog Try.f44 = some (c44.erase, [.mov (.t 4)], 26) := by kernel_rfl
def laws_eqStringS_L1 (b_2 : (List Str)) : List Str → Nat → Option (Fl Bool Unit)
  | [], i_21 =>
    some (.go ())
  | x_37 :: xs, i_21 =>
    (idx b_2 (i_21 : Int)).bind fun x_40 =>
    if (!(x_37 == x_40)) then
    some (.ret false)
    else
    laws_eqStringS_L1 b_2 xs (i_21 + 1)

def laws_eqStringS (a_1 : (List Str)) (b_2 : (List Str)) : Option Bool :=
    if ((a_1.length : Int) != (b_2.length : Int)) then
    some false
    else
    (laws_eqStringS_L1 b_2 a_1 0).bind fun q => (match q with
    | .ret r => some r
    | .go _ =>
    some true)
theorem w_laws_eqStringS (a_1 : (List Str)) (b_2 : (List Str)) (r : Bool) (hf : laws_eqStringS a_1 b_2 = some r) : CallOK Try.prog 44 .flat [(.lst 1 (a_1.map AV.str)), (.lst 1 (b_2.map AV.str))] (.bool r) := by
 refine CallOK.of_awp mixed Try.func44 fc44 nle ?_; rw [argT_eq]; unfold laws_eqStringS at hf; unfold c44; refine (show awp Try.prog false 0 _ (ofL [(0, (.lst 1 (a_1.map AV.str))), (1, (.lst 1 (b_2.map AV.str)))]) [] _ from ?_); refine awp_seq ?_; refine w_reg ?_; refine s_do (o_mov (.bool false) rfl) ?_; refine w_done ?_; refine k_seq ?_; refine awp_seq ?_; refine awp_seq ?_; refine w_reg ?_; refine s_do (o_mov (.lst 1 (a_1.map AV.str)) rfl) ?_; refine s_dof (o_len (enc := AV.str) rfl) fun hl3 => ?_; refine s_do (o_mov (.lst 1 (b_2.map AV.str)) rfl) ?_; refine s_dof (o_len (enc := AV.str) rfl) fun hl4 => ?_
 refine s_do (o_q (.bool ((a_1.length : Int) != (b_2.length : Int))) rfl rfl rfl) ?_; refine w_done ?_; refine k_seq ?_
 rcases oi hf with ⟨c5, hf⟩ | ⟨c5, hf⟩
 ·refine w_condt rfl c5 ?_; refine awp_seq ?_; refine w_reg ?_; refine s_do (o_mov (.bool false) rfl) ?_; refine w_done ?_; refine k_seq ?_; refine w_ret ?_; obtain rfl := os hf; exact r_flat ⟨trivial, trivial⟩ rfl (.refl _)
 ·refine w_condf rfl (bf c5) ?_; refine w_skip ?_; refine k_seq ?_; refine awp_seq ?_; refine awp_seq ?_; refine w_reg ?_; refine s_do (o_mov (.int .i64 0) rfl) ?_; refine w_done ?_; refine k_seq ?_
  obtain ⟨p30, hb1, hf⟩ := ob hf
  refine awp_cutx (X := {q : Unit // p30 = .go q}) (fun q => ([], [])) ?_ ?_
  ·refine awp_loop (X := {q : Nat // laws_eqStringS_L1 b_2 (a_1.drop q) q = some p30}) (fun q => ([(0, (.lst 1 (a_1.map AV.str))), (1, (.lst 1 (b_2.map AV.str))), (5, (.int .i64 (q.1 : Int)))], [])) (fun q => a_1.length - q.1) ⟨0, hb1⟩ ⟨[], [], _, _, rfl, rfl, ⟨.refl _, ⟨.refl _, ⟨.refl _, trivial⟩⟩⟩, (.refl _)⟩ ?_
   rintro ⟨i_21, hc1⟩
   have hc1 : laws_eqStringS_L1 b_2 (a_1.drop i_21) i_21 = some p30 := hc1
   refine (show awp Try.prog false 0 _ (ofL [(0, (.lst 1 (a_1.map AV.str))), (1, (.lst 1 (b_2.map AV.str))), (5, (.int .i64 (i_21 : Int)))]) [] _ from ?_)
   rcases dropc a_1 i_21 with ⟨hie33, hd36⟩ | ⟨hlt31, x_37, hx32, hd36⟩
   ·rw [hd36, laws_eqStringS_L1.eq_1] at hc1
    have hq35 := dlf hie33
    refine awp_seq ?_; refine awp_seq ?_; refine w_reg ?_; refine s_do (o_mov (.int .i64 (i_21 : Int)) rfl) ?_; refine s_do (o_mov (.lst 1 (a_1.map AV.str)) rfl) ?_; refine s_dof (o_len (enc := AV.str) rfl) fun hl38 => ?_; refine s_do (o_q (.bool (decide ((i_21 : Int) < (a_1.length : Int)))) rfl rfl rfl) ?_; refine w_done ?_; refine k_seq ?_; refine w_condf rfl hq35 ?_; refine w_exit ?_; refine k_seqx ?_; refine k_loopx ?_; refine k_blkx ?_; obtain rfl := os hc1; exact k_cutn ⟨_, rfl⟩ ⟨[], [], _, _, rfl, rfl, trivial, (.refl _)⟩
   ·rw [hd36, laws_eqStringS_L1.eq_2] at hc1
    have hq35 := dlt hlt31
    refine awp_seq ?_; refine awp_seq ?_; refine w_reg ?_; refine s_do (o_mov (.int .i64 (i_21 : Int)) rfl) ?_; refine s_do (o_mov (.lst 1 (a_1.map AV.str)) rfl) ?_; refine s_dof (o_len (enc := AV.str) rfl) fun hl39 => ?_; refine s_do (o_q (.bool (decide ((i_21 : Int) < (a_1.length : Int)))) rfl rfl rfl) ?_; refine w_done ?_; refine k_seq ?_; refine w_condt rfl hq35 ?_; refine w_skip ?_; refine k_seq ?_; refine awp_seq ?_; refine w_blk ?_; refine awp_seq ?_; refine w_reg ?_
    obtain ⟨x_40, ex41, hc1⟩ := ob hc1
    refine s_do (o_mov (.lst 1 (a_1.map AV.str)) rfl) ?_; refine s_do (o_mov (.int .i64 (i_21 : Int)) rfl) ?_; refine s_do (o_iaddrn (enc := AV.str) rfl rfl hx32) ?_; refine s_do (o_q (.str x_37) rfl ⟨rfl, rfl⟩ rfl) ?_; refine s_do (o_mov (.lst 1 (b_2.map AV.str)) rfl) ?_; refine s_do (o_mov (.int .i64 (i_21 : Int)) rfl) ?_; refine s_do (o_iaddr (enc := AV.str) rfl rfl (idx0 ex41) (idx1 ex41)) ?_; refine s_do (o_q (.str x_40) rfl ⟨rfl, rfl⟩ rfl) ?_; refine s_do (o_q (.bool (!(x_37 == x_40))) rfl trivial rfl) ?_; refine w_done ?_; refine k_seq ?_
    rcases oi hc1 with ⟨c42, hc1⟩ | ⟨c42, hc1⟩
    ·refine w_condt rfl c42 ?_; refine awp_seq ?_; refine w_reg ?_; refine s_do (o_mov (.bool false) rfl) ?_; refine w_done ?_; refine k_seq ?_; refine w_ret ?_; obtain rfl := os hc1; obtain rfl := os hf; exact r_flat ⟨trivial, trivial⟩ rfl (.refl _)
    ·refine w_condf rfl (bf c42) ?_; refine w_skip ?_; refine k_blk ?_; refine k_seq ?_; refine w_reg ?_; refine s_do (o_mov (.int .i64 (i_21 : Int)) rfl) ?_; refine s_do (o_q (.int .i64 (w64 ((i_21 : Int) + 1))) rfl rfl rfl) ?_; refine s_do (o_mov (.int .i64 (w64 ((i_21 : Int) + 1))) rfl) ?_; refine w_done ?_; exact k_loopn ⟨(i_21 + 1), hc1⟩ (mul hlt31) ⟨[], [], _, _, rfl, rfl, ⟨.refl _, ⟨.refl _, ⟨.of_eq (congrArg (AV.int _) (w64_incr hlt31 hl39)), trivial⟩⟩⟩, (.refl _)⟩
  ·rintro ⟨_, rfl⟩
   refine awp_seq ?_; refine w_reg ?_; refine s_do (o_mov (.bool true) rfl) ?_; refine w_done ?_; refine k_seq ?_; refine w_ret ?_; obtain rfl := os hf; exact r_flat ⟨trivial, trivial⟩ rfl (.refl _)

/- laws.eqSet -/
def c85 : ACode :=
 (.seq (.reg (.q ⟨(some 2), none, .box 3 (.t 0)⟩
 (.q ⟨(some 3), none, .box 3 (.t 1)⟩
 (.q ⟨(some 4), none, .mov (.c (.bool false))⟩
 .done))))
 (.seq (.seq (.reg (.q ⟨(some 5), none, .faddr 0 (.t 2)⟩
 (.q ⟨(some 6), none, .load 1 false (.t 5)⟩
 (.q ⟨(some 7), none, .faddr 0 (.t 3)⟩
 (.q ⟨(some 8), none, .load 1 false (.t 7)⟩
 (.q ⟨(some 9), none, .bin .neq (.t 6) (.t 8)⟩
 .done))))))
 (.cond (.t 9) (.seq (.reg (.q ⟨(some 4), none, .mov (.c (.bool false))⟩
 .done))
 .ret)
 .skip))
 (.seq (.seq (.reg (.q ⟨(some 10), none, .faddr 1 (.t 2)⟩
 (.q ⟨(some 11), none, .load 1 false (.t 10)⟩
 (.q ⟨(some 12), none, .faddr 1 (.t 3)⟩
 (.q ⟨(some 13), none, .load 1 false (.t 12)⟩
 (.q ⟨(some 14), none, .call 118 [(.t 11), (.t 13)]⟩
 (.q ⟨(some 15), none, .not (.t 14)⟩
 .done)))))))
 (.cond (.t 15) (.seq (.reg (.q ⟨(some 4), none, .mov (.c (.bool false))⟩
 .done))
 .ret)
 .skip))
 (.seq (.seq (.reg (.q ⟨(some 16), none, .faddr 2 (.t 2)⟩
 (.q ⟨(some 17), none, .load 1 false (.t 16)⟩
 (.q ⟨(some 18), none, .faddr 2 (.t 3)⟩
 (.q ⟨(some 19), none, .load 1 false (.t 18)⟩
 (.q ⟨(some 20), none, .call 44 [(.t 17), (.t 19)]⟩
 (.q ⟨(some 21), none, .not (.t 20)⟩
 .done)))))))
 (.cond (.t 21) (.seq (.reg (.q ⟨(some 4), none, .mov (.c (.bool false))⟩
 .done))
 .ret)
 .skip))
 (.seq (.reg (.q ⟨(some 4), none, .mov (.c (.bool true))⟩
 .done))
 .ret)))))
theorem fc85 : fcomp Try.prog Try.f85 = some (c85.erase, [.mov (.t 4)], 22) := by kernel_rfl
def laws_eqSet (a_1 : GSet) (b_2 : GSet) : Option Bool :=
    if (!(a_1.Column == b_2.Column)) then
    some false
    else
    (laws_eqAtomS a_1.Value b_2.Value).bind fun r_4 =>
    if (!r_4) then
    some false
    else
    (laws_eqStringS a_1.Names b_2.Names).bind fun r_7 =>
    if (!r_7) then
    some false
    else
    some true
theorem w_laws_eqSet (a_1 : GSet) (b_2 : GSet) (r : Bool) (hf : laws_eqSet a_1 b_2 = some r) : CallOK Try.prog 85 .flat [(encGSet a_1), (encGSet b_2)] (.bool r) := by
  refine CallOK.of_awp mixed Try.func85 fc85 nle ?_
  rw [argT_eq]
  unfold laws_eqSet at hf
  unfold c85
  refine (show awp Try.prog false 0 _ (ofL [(0, (encGSet a_1)), (1, (encGSet b_2))]) [] _ from ?_)
  refine awp_seq ?_
  refine w_reg ?_
  refine s_do (o_box (j := 0) (c := (.agg [(.str a_1.Column), (.lst 3 (a_1.Value.map encGAtom)), (.lst 1 (a_1.Names.map AV.str))])) rfl trivial rfl rfl) ?_
  refine s_do (o_box (j := 1) (c := (.agg [(.str b_2.Column), (.lst 3 (b_2.Value.map encGAtom)), (.lst 1 (b_2.Names.map AV.str))])) rfl trivial rfl rfl) ?_
  refine s_do (o_mov (.bool false) rfl) ?_
  refine w_done ?_
  refine k_seq ?_
  refine awp_seq ?_
  refine awp_seq ?_
  refine w_reg ?_
  refine s_do (o_q (.ptr 0 0 0) rfl trivial rfl) ?_
  refine s_do (o_q (.str a_1.Column) rfl nle rfl) ?_
  refine s_do (o_q (.ptr 1 0 0) rfl trivial rfl) ?_
  refine s_do (o_q (.str b_2.Column) rfl nle rfl) ?_
  refine s_do (o_q (.bool (!(a_1.Column == b_2.Column))) rfl trivial rfl) ?_
  refine w_done ?_
  refine k_seq ?_
  rcases oi hf with ⟨c3, hf⟩ | ⟨c3, hf⟩
  · refine w_condt rfl c3 ?_
    refine awp_seq ?_
    refine w_reg ?_
    refine s_do (o_mov (.bool false) rfl) ?_
    refine w_done ?_
    refine k_seq ?_
    refine w_ret ?_
    obtain rfl := os hf
    exact r_flat ⟨trivial, trivial⟩ rfl (.refl _)
  · refine w_condf rfl (bf c3) ?_
    refine w_skip ?_
    refine k_seq ?_
    refine awp_seq ?_
    refine awp_seq ?_
    refine w_reg ?_
    obtain ⟨r_4, er5, hf⟩ := ob hf
    refine s_do (o_q (.ptr 0 0 1) rfl trivial rfl) ?_
    refine s_do (o_q (.lst 3 (a_1.Value.map encGAtom)) rfl nle rfl) ?_
    refine s_do (o_q (.ptr 1 0 1) rfl trivial rfl) ?_
    refine s_do (o_q (.lst 3 (b_2.Value.map encGAtom)) rfl nle rfl) ?_
    refine s_do (o_call (w_laws_eqAtomS _ _ _ er5) rfl (.refl _) rfl) ?_
    refine s_do (o_q (.bool (!r_4)) rfl trivial rfl) ?_
    refine w_done ?_
    refine k_seq ?_
    rcases oi hf with ⟨c6, hf⟩ | ⟨c6, hf⟩
    · refine w_condt rfl c6 ?_
      refine awp_seq ?_
      refine w_reg ?_
      refine s_do (o_mov (.bool false) rfl) ?_
      refine w_done ?_
      refine k_seq ?_
      refine w_ret ?_
      obtain rfl := os hf
      exact r_flat ⟨trivial, trivial⟩ rfl (.refl _)
    · refine w_condf rfl (bf c6) ?_
      refine w_skip ?_
      refine k_seq ?_
      refine awp_seq ?_
      refine awp_seq ?_
      refine w_reg ?_
      obtain ⟨r_7, er8, hf⟩ := ob hf
      refine s_do (o_q (.ptr 0 0 2) rfl trivial rfl) ?_
      refine s_do (o_q (.lst 1 (a_1.Names.map AV.str)) rfl nle rfl) ?_
      refine s_do (o_q (.ptr 1 0 2) rfl trivial rfl) ?_
      refine s_do (o_q (.lst 1 (b_2.Names.map AV.str)) rfl nle rfl) ?_
      refine s_do (o_call (w_laws_eqStringS _ _ _ er8) rfl (.refl _) rfl) ?_
      refine s_do (o_q (.bool (!r_7)) rfl trivial rfl) ?_
      refine w_done ?_
      refine k_seq ?_
      rcases oi hf with ⟨c9, hf⟩ | ⟨c9, hf⟩
      · refine w_condt rfl c9 ?_
        refine awp_seq ?_
        refine w_reg ?_
        refine s_do (o_mov (.bool false) rfl) ?_
        refine w_done ?_
        refine k_seq ?_
        refine w_ret ?_
        obtain rfl := os hf
        exact r_flat ⟨trivial, trivial⟩ rfl (.refl _)
      · refine w_condf rfl (bf c9) ?_
        refine w_skip ?_
        refine k_seq ?_
        refine awp_seq ?_
        refine w_reg ?_
        refine s_do (o_mov (.bool true) rfl) ?_
        refine w_done ?_
        refine k_seq ?_
        refine w_ret ?_
        obtain rfl := os hf
        exact r_flat ⟨trivial, trivial⟩ rfl (.refl _)

/- laws.eqSetS -/
def c42 : ACode :=
 (.seq (.reg (.q ⟨(some 4), none, .mov (.c (.bool false))⟩
 .done))
 (.seq (.seq (.reg (.q ⟨(some 6), none, .mov (.t 0)⟩
 (.q ⟨(some 7), none, .len (.t 6)⟩
 (.q ⟨(some 8), none, .mov (.t 1)⟩
 (.q ⟨(some 9), none, .len (.t 8)⟩
 (.q ⟨(some 10), none, .bin .neq (.t 7) (.t 9)⟩
 .done))))))
 (.cond (.t 10) (.seq (.reg (.q ⟨(some 4), none, .mov (.c (.bool false))⟩
 .done))
 .ret)
 .skip))
 (.seq (.seq (.reg (.q ⟨(some 5), none, .mov (.c (.int .i64 0))⟩
 .done))
 (.block 0 (.loop (.seq (.seq (.reg (.q ⟨(some 11), none, .mov (.t 5)⟩
 (.q ⟨(some 12), none, .mov (.t 0)⟩
 (.q ⟨(some 13), none, .len (.t 12)⟩
 (.q ⟨(some 14), none, .bin .lss (.t 11) (.t 13)⟩
 .done)))))
 (.cond (.t 14) .skip
 (.exit 0)))
 (.seq (.block 1 (.seq (.reg (.q ⟨(some 17), none, .mov (.t 0)⟩
 (.q ⟨(some 18), none, .mov (.t 5)⟩
 (.q ⟨(some 19), none, .iaddr 3 (.t 17) (.t 18)⟩
 (.q ⟨(some 20), none, .load 3 true (.t 19)⟩
 (.q ⟨(some 21), none, .mov (.t 1)⟩
 (.q ⟨(some 22), none, .mov (.t 5)⟩
 (.q ⟨(some 23), none, .iaddr 3 (.t 21) (.t 22)⟩
 (.q ⟨(some 24), none, .load 3 true (.t 23)⟩
 (.l ⟨(some 25), none, .call 85 [(.t 20), (.t 24)]⟩ []
 (.q ⟨(some 26), none, .not (.t 25)⟩
 .done) .non))))))))))
 (.cond (.t 26) (.seq (.reg (.q ⟨(some 4), none, .mov (.c (.bool false))⟩
 .done))
 .ret)
 .skip)))
 (.reg (.q ⟨(some 15), none, .mov (.t 5)⟩
 (.q ⟨(some 16), none, .bin .add (.t 15) (.c (.int .i64 1))⟩
 (.q ⟨(some 5), none, .mov (.t 16)⟩
 .done)))))))))
 (.cut (.seq (.reg (.q ⟨(some 4), none, .mov (.c (.bool true))⟩
 .done))
 .ret)))))
theorem fc42 : fcomp Try.prog Try.f42 = some (c42.erase, [.mov (.t 4)], 27) := by kernel_rfl
def laws_eqSetS_L1 (b_2 : (List GSet)) : List GSet → Nat → Option (Fl Bool Unit)
  | [], i_25 =>
    some (.go ())
  | x_43 :: xs, i_25 =>
    (idx b_2 (i_25 : Int)).bind fun x_46 =>
    (laws_eqSet x_43 x_46).bind fun r_48 =>
    if (!r_48) then
    some (.ret false)
    else
    laws_eqSetS_L1 b_2 xs (i_25 + 1)

def laws_eqSetS (a_1 : (List GSet)) (b_2 : (List GSet)) : Option Bool :=
    if ((a_1.length : Int) != (b_2.length : Int)) then
    some false
    else
    (laws_eqSetS_L1 b_2 a_1 0).bind fun q => (match q with
    | .ret r => some r
    | .go _ =>
    some true)
theorem w_laws_eqSetS (a_1 : (List GSet)) (b_2 : (List GSet)) (r : Bool) (hf : laws_eqSetS a_1 b_2 = some r) : CallOK Try.prog 42 .flat [(.lst 3 (a_1.map encGSet)), (.lst 3 (b_2.map encGSet))] (.bool r) := by
 refine CallOK.of_awp mixed Try.func42 fc42 nle ?_; rw [argT_eq]; unfold laws_eqSetS at hf; unfold c42; refine (show awp Try.prog false 0 _ (ofL [(0, (.lst 3 (a_1.map encGSet))), (1, (.lst 3 (b_2.map encGSet)))]) [] _ from ?_); refine awp_seq ?_; refine w_reg ?_; refine s_do (o_mov (.bool false) rfl) ?_; refine w_done ?_; refine k_seq ?_; refine awp_seq ?_; refine awp_seq ?_; refine w_reg ?_; refine s_do (o_mov (.lst 3 (a_1.map encGSet)) rfl) ?_; refine s_dof (o_len (enc := encGSet) rfl) fun hl3 => ?_; refine s_do (o_mov (.lst 3 (b_2.map encGSet)) rfl) ?_; refine s_dof (o_len (enc := encGSet) rfl) fun hl4 => ?_
 refine s_do (o_q (.bool ((a_1.length : Int) != (b_2.length : Int))) rfl rfl rfl) ?_; refine w_done ?_; refine k_seq ?_
 rcases oi hf with ⟨c5, hf⟩ | ⟨c5, hf⟩
 ·refine w_condt rfl c5 ?_; refine awp_seq ?_; refine w_reg ?_; refine s_do (o_mov (.bool false) rfl) ?_; refine w_done ?_; refine k_seq ?_; refine w_ret ?_; obtain rfl := os hf; exact r_flat ⟨trivial, trivial⟩ rfl (.refl _)
 ·refine w_condf rfl (bf c5) ?_; refine w_skip ?_; refine k_seq ?_; refine awp_seq ?_; refine awp_seq ?_; refine w_reg ?_; refine s_do (o_mov (.int .i64 0) rfl) ?_; refine w_done ?_; refine k_seq ?_
  obtain ⟨p36, hb1, hf⟩ := ob hf
  refine awp_cutx (X := {q : Unit // p36 = .go q}) (fun q => ([], [])) ?_ ?_
  ·refine awp_loop (X := {q : Nat // laws_eqSetS_L1 b_2 (a_1.drop q) q = some p36}) (fun q => ([(0, (.lst 3 (a_1.map encGSet))), (1, (.lst 3 (b_2.map encGSet))), (5, (.int .i64 (q.1 : Int)))], [])) (fun q => a_1.length - q.1) ⟨0, hb1⟩ ⟨[], [], _, _, rfl, rfl, ⟨.refl _, ⟨.refl _, ⟨.refl _, trivial⟩⟩⟩, (.refl _)⟩ ?_
   rintro ⟨i_25, hc1⟩
   have hc1 : laws_eqSetS_L1 b_2 (a_1.drop i_25) i_25 = some p36 := hc1
   refine (show awp Try.prog false 0 _ (ofL [(0, (.lst 3 (a_1.map encGSet))), (1, (.lst 3 (b_2.map encGSet))), (5, (.int .i64 (i_25 : Int)))]) [] _ from ?_)
   rcases dropc a_1 i_25 with ⟨hie39, hd42⟩ | ⟨hlt37, x_43, hx38, hd42⟩
   ·rw [hd42, laws_eqSetS_L1.eq_1] at hc1
    have hq41 := dlf hie39
    refine awp_seq ?_; refine awp_seq ?_; refine w_reg ?_; refine s_do (o_mov (.int .i64 (i_25 : Int)) rfl) ?_; refine s_do (o_mov (.lst 3 (a_1.map encGSet)) rfl) ?_; refine s_dof (o_len (enc := encGSet) rfl) fun hl44 => ?_; refine s_do (o_q (.bool (decide ((i_25 : Int) < (a_1.length : Int)))) rfl rfl rfl) ?_; refine w_done ?_; refine k_seq ?_; refine w_condf rfl hq41 ?_; refine w_exit ?_; refine k_seqx ?_; refine k_loopx ?_; refine k_blkx ?_; obtain rfl := os hc1; exact k_cutn ⟨_, rfl⟩ ⟨[], [], _, _, rfl, rfl, trivial, (.refl _)⟩
   ·rw [hd42, laws_eqSetS_L1.eq_2] at hc1
    have hq41 := dlt hlt37
    refine awp_seq ?_; refine awp_seq ?_; refine w_reg ?_; refine s_do (o_mov (.int .i64 (i_25 : Int)) rfl) ?_; refine s_do (o_mov (.lst 3 (a_1.map encGSet)) rfl) ?_; refine s_dof (o_len (enc := encGSet) rfl) fun hl45 => ?_; refine s_do (o_q (.bool (decide ((i_25 : Int) < (a_1.length : Int)))) rfl rfl rfl) ?_; refine w_done ?_; refine k_seq ?_; refine w_condt rfl hq41 ?_; refine w_skip ?_; refine k_seq ?_; refine awp_seq ?_; refine w_blk ?_; refine awp_seq ?_; refine w_reg ?_
    obtain ⟨x_46, ex47, hc1⟩ := ob hc1
    obtain ⟨r_48, er49, hc1⟩ := ob hc1
    refine s_do (o_mov (.lst 3 (a_1.map encGSet)) rfl) ?_; refine s_do (o_mov (.int .i64 (i_25 : Int)) rfl) ?_; refine s_do (o_iaddrn (enc := encGSet) rfl rfl hx38) ?_; refine s_do (o_q (encGSet x_43) rfl nle rfl) ?_; refine s_do (o_mov (.lst 3 (b_2.map encGSet)) rfl) ?_; refine s_do (o_mov (.int .i64 (i_25 : Int)) rfl) ?_; refine s_do (o_iaddr (enc := encGSet) rfl rfl (idx0 ex47) (idx1 ex47)) ?_; refine s_do (o_q (encGSet x_46) rfl nle rfl) ?_; refine s_dol (o_call (w_laws_eqSet _ _ _ er49) rfl (.refl _) rfl) a_same trivial ?_; refine s_do (o_q (.bool (!r_48)) rfl trivial rfl) ?_; refine w_done ?_
    refine k_seq ?_
    rcases oi hc1 with ⟨c50, hc1⟩ | ⟨c50, hc1⟩
    ·refine w_condt rfl c50 ?_; refine awp_seq ?_; refine w_reg ?_; refine s_do (o_mov (.bool false) rfl) ?_; refine w_done ?_; refine k_seq ?_; refine w_ret ?_; obtain rfl := os hc1; obtain rfl := os hf; exact r_flat ⟨trivial, trivial⟩ rfl (.refl _)
    ·refine w_condf rfl (bf c50) ?_; refine w_skip ?_; refine k_blk ?_; refine k_seq ?_; refine w_reg ?_; refine s_do (o_mov (.int .i64 (i_25 : Int)) rfl) ?_; refine s_do (o_q (.int .i64 (w64 ((i_25 : Int) + 1))) rfl rfl rfl) ?_; refine s_do (o_mov (.int .i64 (w64 ((i_25 : Int) + 1))) rfl) ?_; refine w_done ?_; exact k_loopn ⟨(i_25 + 1), hc1⟩ (mul hlt37) ⟨[], [], _, _, rfl, rfl, ⟨.refl _, ⟨.refl _, ⟨.of_eq (congrArg (AV.int _) (w64_incr hlt37 hl45)), trivial⟩⟩⟩, (.refl _)⟩
  ·rintro ⟨_, rfl⟩
   refine awp_seq ?_; refine w_reg ?_; refine s_do (o_mov (.bool true) rfl) ?_; refine w_done ?_; refine k_seq ?_; refine w_ret ?_; obtain rfl := os hf; exact r_flat ⟨trivial, trivial⟩ rfl (.refl _)

/- laws.eqMut -/
def c86 : ACode :=
 (.seq (.reg (.q ⟨(some 2), none, .box 3 (.t 0)⟩
 (.q ⟨(some 3), none, .box 3 (.t 1)⟩
 (.q ⟨(some 4), none, .mov (.c (.bool false))⟩
 .done))))
 (.seq (.seq (.reg (.q ⟨(some 5), none, .faddr 0 (.t 2)⟩
 (.q ⟨(some 6), none, .load 1 false (.t 5)⟩
 (.q ⟨(some 7), none, .faddr 0 (.t 3)⟩
 (.q ⟨(some 8), none, .load 1 false (.t 7)⟩
 (.q ⟨(some 9), none, .bin .neq (.t 6) (.t 8)⟩
 .done))))))
 (.cond (.t 9) (.seq (.reg (.q ⟨(some 4), none, .mov (.c (.bool false))⟩
 .done))
 .ret)
 .skip))
 (.seq (.seq (.reg (.q ⟨(some 10), none, .faddr 1 (.t 2)⟩
 (.q ⟨(some 11), none, .load 1 false (.t 10)⟩
 (.q ⟨(some 12), none, .faddr 1 (.t 3)⟩
 (.q ⟨(some 13), none, .load 1 false (.t 12)⟩
 (.q ⟨(some 14), none, .bin .neq (.t 11) (.t 13)⟩
 .done))))))
 (.cond (.t 14) (.seq (.reg (.q ⟨(some 4), none, .mov (.c (.bool false))⟩
 .done))
 .ret)
 .skip))
 (.seq (.seq (.reg (.q ⟨(some 15), none, .faddr 2 (.t 2)⟩
 (.q ⟨(some 16), none, .load 1 false (.t 15)⟩
 (.q ⟨(some 17), none, .faddr 2 (.t 3)⟩
 (.q ⟨(some 18), none, .load 1 false (.t 17)⟩
 (.q ⟨(some 19), none, .call 118 [(.t 16), (.t 18)]⟩
 (.q ⟨(some 20), none, .not (.t 19)⟩
 .done)))))))
 (.cond (.t 20) (.seq (.reg (.q ⟨(some 4), none, .mov (.c (.bool false))⟩
 .done))
 .ret)
 .skip))
 (.seq (.reg (.q ⟨(some 4), none, .mov (.c (.bool true))⟩
 .done))
 .ret)))))
theorem fc86 : fcomp Try.prog Try.f86 = some (c86.erase, [.mov (.t 4)], 21) := by kernel_rfl
def laws_eqMut (a_1 : GMut) (b_2 : GMut) : Option Bool :=
    if (!(a_1.Column == b_2.Column)) then
    some false
    else
    if (a_1.Func != b_2.Func) then
    some false
    else
    (laws_eqAtomS a_1.Value b_2.Value).bind fun r_5 =>
    if (!r_5) then
    some false
    else
    some true
theorem w_laws_eqMut (a_1 : GMut) (b_2 : GMut) (r : Bool) (hf : laws_eqMut a_1 b_2 = some r) : CallOK Try.prog 86 .flat [(encGMut a_1), (encGMut b_2)] (.bool r) := by
  refine CallOK.of_awp mixed Try.func86 fc86 nle ?_
  rw [argT_eq]
  unfold laws_eqMut at hf
  unfold c86
  refine (show awp Try.prog false 0 _ (ofL [(0, (encGMut a_1)), (1, (encGMut b_2))]) [] _ from ?_)
  refine awp_seq ?_
  refine w_reg ?_
  refine s_do (o_box (j := 0) (c := (.agg [(.str a_1.Column), (.int .i64 a_1.Func), (.lst 3 (a_1.Value.map encGAtom))])) rfl trivial rfl rfl) ?_
  refine s_do (o_box (j := 1) (c := (.agg [(.str b_2.Column), (.int .i64 b_2.Func), (.lst 3 (b_2.Value.map encGAtom))])) rfl trivial rfl rfl) ?_
  refine s_do (o_mov (.bool false) rfl) ?_
  refine w_done ?_
  refine k_seq ?_
  refine awp_seq ?_
  refine awp_seq ?_
  refine w_reg ?_
  refine s_do (o_q (.ptr 0 0 0) rfl trivial rfl) ?_
  refine s_do (o_q (.str a_1.Column) rfl nle rfl) ?_
  refine s_do (o_q (.ptr 1 0 0) rfl trivial rfl) ?_
  refine s_do (o_q (.str b_2.Column) rfl nle rfl) ?_
  refine s_do (o_q (.bool (!(a_1.Column == b_2.Column))) rfl trivial rfl) ?_
  refine w_done ?_
  refine k_seq ?_
  rcases oi hf with ⟨c3, hf⟩ | ⟨c3, hf⟩
  · refine w_condt rfl c3 ?_
    refine awp_seq ?_
    refine w_reg ?_
    refine s_do (o_mov (.bool false) rfl) ?_
    refine w_done ?_
    refine k_seq ?_
    refine w_ret ?_
    obtain rfl := os hf
    exact r_flat ⟨trivial, trivial⟩ rfl (.refl _)
  · refine w_condf rfl (bf c3) ?_
    refine w_skip ?_
    refine k_seq ?_
    refine awp_seq ?_
    refine awp_seq ?_
    refine w_reg ?_
    refine s_do (o_q (.ptr 0 0 1) rfl trivial rfl) ?_
    refine s_do (o_q (.int .i64 a_1.Func) rfl nle rfl) ?_
    refine s_do (o_q (.ptr 1 0 1) rfl trivial rfl) ?_
    refine s_do (o_q (.int .i64 b_2.Func) rfl nle rfl) ?_
    refine s_do (o_q (.bool (a_1.Func != b_2.Func)) rfl rfl rfl) ?_
    refine w_done ?_
    refine k_seq ?_
    rcases oi hf with ⟨c4, hf⟩ | ⟨c4, hf⟩
    · refine w_condt rfl c4 ?_
      refine awp_seq ?_
      refine w_reg ?_
      refine s_do (o_mov (.bool false) rfl) ?_
      refine w_done ?_
      refine k_seq ?_
      refine w_ret ?_
      obtain rfl := os hf
      exact r_flat ⟨trivial, trivial⟩ rfl (.refl _)
    · refine w_condf rfl (bf c4) ?_
      refine w_skip ?_
      refine k_seq ?_
      refine awp_seq ?_
      refine awp_seq ?_
      refine w_reg ?_
      obtain ⟨r_5, er6, hf⟩ := ob hf
      refine s_do (o_q (.ptr 0 0 2) rfl trivial rfl) ?_
      refine s_do (o_q (.lst 3 (a_1.Value.map encGAtom)) rfl nle rfl) ?_
      refine s_do (o_q (.ptr 1 0 2) rfl trivial rfl) ?_
      refine s_do (o_q (.lst 3 (b_2.Value.map encGAtom)) rfl nle rfl) ?_
      refine s_do (o_call (w_laws_eqAtomS _ _ _ er6) rfl (.refl _) rfl) ?_
      refine s_do (o_q (.bool (!r_5)) rfl trivial rfl) ?_
      refine w_done ?_
      refine k_seq ?_
      rcases oi hf with ⟨c7, hf⟩ | ⟨c7, hf⟩
      · refine w_condt rfl c7 ?_
        refine awp_seq ?_
        refine w_reg ?_
        refine s_do (o_mov (.bool false) rfl) ?_
        refine w_done ?_
        refine k_seq ?_
        refine w_ret ?_
        obtain rfl := os hf
        exact r_flat ⟨trivial, trivial⟩ rfl (.refl _)
      · refine w_condf rfl (bf c7) ?_
        refine w_skip ?_
        refine k_seq ?_
        refine awp_seq ?_
        refine w_reg ?_
        refine s_do (o_mov (.bool true) rfl) ?_
        refine w_done ?_
        refine k_seq ?_
        refine w_ret ?_
        obtain rfl := os hf
        exact r_flat ⟨trivial, trivial⟩ rfl (.refl _)

/- laws.eqMutS -/
def c43 : ACode :=
 (.seq (.reg (.q ⟨(some 4), none, .mov (.c (.bool false))⟩
 .done))
 (.seq (.seq (.reg (.q ⟨(some 6), none, .mov (.t 0)⟩
 (.q ⟨(some 7), none, .len (.t 6)⟩
 (.q ⟨(some 8), none, .mov (.t 1)⟩
 (.q ⟨(some 9), none, .len (.t 8)⟩
 (.q ⟨(some 10), none, .bin .neq (.t 7) (.t 9)⟩
 .done))))))
 (.cond (.t 10) (.seq (.reg (.q ⟨(some 4), none, .mov (.c (.bool false))⟩
 .done))
 .ret)
 .skip))
 (.seq (.seq (.reg (.q ⟨(some 5), none, .mov (.c (.int .i64 0))⟩
 .done))
 (.block 0 (.loop (.seq (.seq (.reg (.q ⟨(some 11), none, .mov (.t 5)⟩
 (.q ⟨(some 12), none, .mov (.t 0)⟩
 (.q ⟨(some 13), none, .len (.t 12)⟩
 (.q ⟨(some 14), none, .bin .lss (.t 11) (.t 13)⟩
 .done)))))
 (.cond (.t 14) .skip
 (.exit 0)))
 (.seq (.block 1 (.seq (.reg (.q ⟨(some 17), none, .mov (.t 0)⟩
 (.q ⟨(some 18), none, .mov (.t 5)⟩
 (.q ⟨(some 19), none, .iaddr 3 (.t 17) (.t 18)⟩
 (.q ⟨(some 20), none, .load 3 true (.t 19)⟩
 (.q ⟨(some 21), none, .mov (.t 1)⟩
 (.q ⟨(some 22), none, .mov (.t 5)⟩
 (.q ⟨(some 23), none, .iaddr 3 (.t 21) (.t 22)⟩
 (.q ⟨(some 24), none, .load 3 true (.t 23)⟩
 (.l ⟨(some 25), none, .call 86 [(.t 20), (.t 24)]⟩ []
 (.q ⟨(some 26), none, .not (.t 25)⟩
 .done) .non))))))))))
 (.cond (.t 26) (.seq (.reg (.q ⟨(some 4), none, .mov (.c (.bool false))⟩
 .done))
 .ret)
 .skip)))
 (.reg (.q ⟨(some 15), none, .mov (.t 5)⟩
 (.q ⟨(some 16), none, .bin .add (.t 15) (.c (.int .i64 1))⟩
 (.q ⟨(some 5), none, .mov (.t 16)⟩
 .done)))))))))
 (.cut (.seq (.reg (.q ⟨(some 4), none, .mov (.c (.bool true))⟩
 .done))
 .ret)))))
theorem fc43 : fcomp Try.prog Try.f43 = some (c43.erase, [.mov (.t 4)], 27) := by kernel_rfl
def laws_eqMutS_L1 (b_2 : (List GMut)) : List GMut → Nat → Option (Fl Bool Unit)
  | [], i_25 =>
    some (.go ())
  | x_43 :: xs, i_25 =>
    (idx b_2 (i_25 : Int)).bind fun x_46 =>
    (laws_eqMut x_43 x_46).bind fun r_48 =>
    if (!r_48) then
    some (.ret false)
    else
    laws_eqMutS_L1 b_2 xs (i_25 + 1)

def laws_eqMutS (a_1 : (List GMut)) (b_2 : (List GMut)) : Option Bool :=
    if ((a_1.length : Int) != (b_2.length : Int)) then
    some false
    else
    (laws_eqMutS_L1 b_2 a_1 0).bind fun q => (match q with
    | .ret r => some r
    | .go _ =>
    some true)
theorem w_laws_eqMutS (a_1 : (List GMut)) (b_2 : (List GMut)) (r : Bool) (hf : laws_eqMutS a_1 b_2 = some r) : CallOK Try.prog 43 .flat [(.lst 3 (a_1.map encGMut)), (.lst 3 (b_2.map encGMut))] (.bool r) := by
 refine CallOK.of_awp mixed Try.func43 fc43 nle ?_; rw [argT_eq]; unfold laws_eqMutS at hf; unfold c43; refine (show awp Try.prog false 0 _ (ofL [(0, (.lst 3 (a_1.map encGMut))), (1, (.lst 3 (b_2.map encGMut)))]) [] _ from ?_); refine awp_seq ?_; refine w_reg ?_; refine s_do (o_mov (.bool false) rfl) ?_; refine w_done ?_; refine k_seq ?_; refine awp_seq ?_; refine awp_seq ?_; refine w_reg ?_; refine s_do (o_mov (.lst 3 (a_1.map encGMut)) rfl) ?_; refine s_dof (o_len (enc := encGMut) rfl) fun hl3 => ?_; refine s_do (o_mov (.lst 3 (b_2.map encGMut)) rfl) ?_; refine s_dof (o_len (enc := encGMut) rfl) fun hl4 => ?_
 refine s_do (o_q (.bool ((a_1.length : Int) != (b_2.length : Int))) rfl rfl rfl) ?_; refine w_done ?_; refine k_seq ?_
 rcases oi hf with ⟨c5, hf⟩ | ⟨c5, hf⟩
 ·refine w_condt rfl c5 ?_; refine awp_seq ?_; refine w_reg ?_; refine s_do (o_mov (.bool false) rfl) ?_; refine w_done ?_; refine k_seq ?_; refine w_ret ?_; obtain rfl := os hf; exact r_flat ⟨trivial, trivial⟩ rfl (.refl _)
 ·refine w_condf rfl (bf c5) ?_; refine w_skip ?_; refine k_seq ?_; refine awp_seq ?_; refine awp_seq ?_; refine w_reg ?_; refine s_do (o_mov (.int .i64 0) rfl) ?_; refine w_done ?_; refine k_seq ?_
  obtain ⟨p36, hb1, hf⟩ := ob hf
  refine awp_cutx (X := {q : Unit // p36 = .go q}) (fun q => ([], [])) ?_ ?_
  ·refine awp_loop (X := {q : Nat // laws_eqMutS_L1 b_2 (a_1.drop q) q = some p36}) (fun q => ([(0, (.lst 3 (a_1.map encGMut))), (1, (.lst 3 (b_2.map encGMut))), (5, (.int .i64 (q.1 : Int)))], [])) (fun q => a_1.length - q.1) ⟨0, hb1⟩ ⟨[], [], _, _, rfl, rfl, ⟨.refl _, ⟨.refl _, ⟨.refl _, trivial⟩⟩⟩, (.refl _)⟩ ?_
   rintro ⟨i_25, hc1⟩
   have hc1 : laws_eqMutS_L1 b_2 (a_1.drop i_25) i_25 = some p36 := hc1
   refine (show awp Try.prog false 0 _ (ofL [(0, (.lst 3 (a_1.map encGMut))), (1, (.lst 3 (b_2.map encGMut))), (5, (.int .i64 (i_25 : Int)))]) [] _ from ?_)
   rcases dropc a_1 i_25 with ⟨hie39, hd42⟩ | ⟨hlt37, x_43, hx38, hd42⟩
   ·rw [hd42, laws_eqMutS_L1.eq_1] at hc1
    have hq41 := dlf hie39
    refine awp_seq ?_; refine awp_seq ?_; refine w_reg ?_; refine s_do (o_mov (.int .i64 (i_25 : Int)) rfl) ?_; refine s_do (o_mov (.lst 3 (a_1.map encGMut)) rfl) ?_; refine s_dof (o_len (enc := encGMut) rfl) fun hl44 => ?_; refine s_do (o_q (.bool (decide ((i_25 : Int) < (a_1.length : Int)))) rfl rfl rfl) ?_; refine w_done ?_; refine k_seq ?_; refine w_condf rfl hq41 ?_; refine w_exit ?_; refine k_seqx ?_; refine k_loopx ?_; refine k_blkx ?_; obtain rfl := os hc1; exact k_cutn ⟨_, rfl⟩ ⟨[], [], _, _, rfl, rfl, trivial, (.refl _)⟩
   ·rw [hd42, laws_eqMutS_L1.eq_2] at hc1
    have hq41 := dlt hlt37
    refine awp_seq ?_; refine awp_seq ?_; refine w_reg ?_; refine s_do (o_mov (.int .i64 (i_25 : Int)) rfl) ?_; refine s_do (o_mov (.lst 3 (a_1.map encGMut)) rfl) ?_; refine s_dof (o_len (enc := encGMut) rfl) fun hl45 => ?_; refine s_do (o_q (.bool (decide ((i_25 : Int) < (a_1.length : Int)))) rfl rfl rfl) ?_; refine w_done ?_; refine k_seq ?_; refine w_condt rfl hq41 ?_; refine w_skip ?_; refine k_seq ?_; refine awp_seq ?_; refine w_blk ?_; refine awp_seq ?_; refine w_reg ?_
    obtain ⟨x_46, ex47, hc1⟩ := ob hc1
    obtain ⟨r_48, er49, hc1⟩ := ob hc1
    refine s_do (o_mov (.lst 3 (a_1.map encGMut)) rfl) ?_; refine s_do (o_mov (.int .i64 (i_25 : Int)) rfl) ?_; refine s_do (o_iaddrn (enc := encGMut) rfl rfl hx38) ?_; refine s_do (o_q (encGMut x_43) rfl nle rfl) ?_; refine s_do (o_mov (.lst 3 (b_2.map encGMut)) rfl) ?_; refine s_do (o_mov (.int .i64 (i_25 : Int)) rfl) ?_; refine s_do (o_iaddr (enc := encGMut) rfl rfl (idx0 ex47) (idx1 ex47)) ?_; refine s_do (o_q (encGMut x_46) rfl nle rfl) ?_; refine s_dol (o_call (w_laws_eqMut _ _ _ er49) rfl (.refl _) rfl) a_same trivial ?_; refine s_do (o_q (.bool (!r_48)) rfl trivial rfl) ?_; refine w_done ?_
    refine k_seq ?_
    rcases oi hc1 with ⟨c50, hc1⟩ | ⟨c50, hc1⟩
    ·refine w_condt rfl c50 ?_; refine awp_seq ?_; refine w_reg ?_; refine s_do (o_mov (.bool false) rfl) ?_; refine w_done ?_; refine k_seq ?_; refine w_ret ?_; obtain rfl := os hc1; obtain rfl := os hf; exact r_flat ⟨trivial, trivial⟩ rfl (.refl _)
    ·refine w_condf rfl (bf c50) ?_; refine w_skip ?_; refine k_blk ?_; refine k_seq ?_; refine w_reg ?_; refine s_do (o_mov (.int .i64 (i_25 : Int)) rfl) ?_; refine s_do (o_q (.int .i64 (w64 ((i_25 : Int) + 1))) rfl rfl rfl) ?_; refine s_do (o_mov (.int .i64 (w64 ((i_25 : Int) + 1))) rfl) ?_; refine w_done ?_; exact k_loopn ⟨(i_25 + 1), hc1⟩ (mul hlt37) ⟨[], [], _, _, rfl, rfl, ⟨.refl _, ⟨.refl _, ⟨.of_eq (congrArg (AV.int _) (w64_incr hlt37 hl45)), trivial⟩⟩⟩, (.refl _)⟩
  ·rintro ⟨_, rfl⟩
   refine awp_seq ?_; refine w_reg ?_; refine s_do (o_mov (.bool true) rfl) ?_; refine w_done ?_; refine k_seq ?_; refine w_ret ?_; obtain rfl := os hf; exact r_flat ⟨trivial, trivial⟩ rfl (.refl _)

/- laws.eqOp -/
def c11 : ACode :=
 (.seq (.reg (.q ⟨(some 2), none, .box 8 (.t 0)⟩
 (.q ⟨(some 3), none, .box 8 (.t 1)⟩
 (.q ⟨(some 4), none, .mov (.c (.bool false))⟩
 .done))))
 (.seq (.seq (.reg (.q ⟨(some 5), none, .faddr 0 (.t 2)⟩
 (.q ⟨(some 6), none, .load 1 false (.t 5)⟩
 (.q ⟨(some 7), none, .faddr 0 (.t 3)⟩
 (.q ⟨(some 8), none, .load 1 false (.t 7)⟩
 (.q ⟨(some 9), none, .bin .neq (.t 6) (.t 8)⟩
 .done))))))
 (.cond (.t 9) (.seq (.reg (.q ⟨(some 4), none, .mov (.c (.bool false))⟩
 .done))
 .ret)
 .skip))
 (.seq (.seq (.reg (.q ⟨(some 10), none, .faddr 1 (.t 2)⟩
 (.q ⟨(some 11), none, .load 1 false (.t 10)⟩
 (.q ⟨(some 12), none, .faddr 1 (.t 3)⟩
 (.q ⟨(some 13), none, .load 1 false (.t 12)⟩
 (.q ⟨(some 14), none, .bin .neq (.t 11) (.t 13)⟩
 .done))))))
 (.cond (.t 14) (.seq (.reg (.q ⟨(some 4), none, .mov (.c (.bool false))⟩
 .done))
 .ret)
 .skip))
 (.seq (.seq (.reg (.q ⟨(some 15), none, .faddr 2 (.t 2)⟩
 (.q ⟨(some 16), none, .load 1 false (.t 15)⟩
 (.q ⟨(some 17), none, .faddr 2 (.t 3)⟩
 (.q ⟨(some 18), none, .load 1 false (.t 17)⟩
 (.q ⟨(some 19), none, .bin .neq (.t 16) (.t 18)⟩
 .done))))))
 (.cond (.t 19) (.seq (.reg (.q ⟨(some 4), none, .mov (.c (.bool false))⟩
 .done))
 .ret)
 .skip))
 (.seq (.seq (.reg (.q ⟨(some 20), none, .faddr 3 (.t 2)⟩
 (.q ⟨(some 21), none, .load 1 false (.t 20)⟩
 (.q ⟨(some 22), none, .faddr 3 (.t 3)⟩
 (.q ⟨(some 23), none, .load 1 false (.t 22)⟩
 (.q ⟨(some 24), none, .call 41 [(.t 21), (.t 23)]⟩
 (.q ⟨(some 25), none, .not (.t 24)⟩
 .done)))))))
 (.cond (.t 25) (.seq (.reg (.q ⟨(some 4), none, .mov (.c (.bool false))⟩
 .done))
 .ret)
 .skip))
 (.seq (.seq (.reg (.q ⟨(some 26), none, .faddr 4 (.t 2)⟩
 (.q ⟨(some 27), none, .load 1 false (.t 26)⟩
 (.q ⟨(some 28), none, .faddr 4 (.t 3)⟩
 (.q ⟨(some 29), none, .load 1 false (.t 28)⟩
 (.q ⟨(some 30), none, .call 42 [(.t 27), (.t 29)]⟩
 (.q ⟨(some 31), none, .not (.t 30)⟩
 .done)))))))
 (.cond (.t 31) (.seq (.reg (.q ⟨(some 4), none, .mov (.c (.bool false))⟩
 .done))
 .ret)
 .skip))
 (.seq (.seq (.reg (.q ⟨(some 32), none, .faddr 5 (.t 2)⟩
 (.q ⟨(some 33), none, .load 1 false (.t 32)⟩
 (.q ⟨(some 34), none, .faddr 5 (.t 3)⟩
 (.q ⟨(some 35), none, .load 1 false (.t 34)⟩
 (.q ⟨(some 36), none, .call 43 [(.t 33), (.t 35)]⟩
 (.q ⟨(some 37), none, .not (.t 36)⟩
 .done)))))))
 (.cond (.t 37) (.seq (.reg (.q ⟨(some 4), none, .mov (.c (.bool false))⟩
 .done))
 .ret)
 .skip))
 (.seq (.seq (.reg (.q ⟨(some 38), none, .faddr 6 (.t 2)⟩
 (.q ⟨(some 39), none, .load 1 false (.t 38)⟩
 (.q ⟨(some 40), none, .faddr 6 (.t 3)⟩
 (.q ⟨(some 41), none, .load 1 false (.t 40)⟩
 (.q ⟨(some 42), none, .call 44 [(.t 39), (.t 41)]⟩
 (.q ⟨(some 43), none, .not (.t 42)⟩
 .done)))))))
 (.cond (.t 43) (.seq (.reg (.q ⟨(some 4), none, .mov (.c (.bool false))⟩
 .done))
 .ret)
 .skip))
 (.seq (.seq (.reg (.q ⟨(some 44), none, .faddr 7 (.t 2)⟩
 (.q ⟨(some 45), none, .load 1 false (.t 44)⟩
 (.q ⟨(some 46), none, .faddr 7 (.t 3)⟩
 (.q ⟨(some 47), none, .load 1 false (.t 46)⟩
 (.q ⟨(some 48), none, .eqB true (.t 45) (.t 47)⟩
 .done))))))
 (.cond (.t 48) (.seq (.reg (.q ⟨(some 4), none, .mov (.c (.bool false))⟩
 .done))
 .ret)
 .skip))
 (.seq (.reg (.q ⟨(some 4), none, .mov (.c (.bool true))⟩
 .done))
 .ret))))))))))
theorem fc11 : fcomp Try.prog Try.f11 = some (c11.erase, [.mov (.t 4)], 49) := by kernel_rfl
def laws_eqOp (a_1 : GOp) (b_2 : GOp) : Option Bool :=
    if (a_1.Kind != b_2.Kind) then
    some false
    else
    if (!(a_1.Table == b_2.Table)) then
    some false
    else
    if (!(a_1.Name == b_2.Name)) then
    some false
    else
    (laws_eqCondS a_1.Where b_2.Where).bind fun r_6 =>
    if (!r_6) then
    some false
    else
    (laws_eqSetS a_1.Row b_2.Row).bind fun r_9 =>
    if (!r_9) then
    some false
    else
    (laws_eqMutS a_1.Muts b_2.Muts).bind fun r_12 =>
    if (!r_12) then
    some false
    else
    (laws_eqStringS a_1.Columns b_2.Columns).bind fun r_15 =>
    if (!r_15) then
    some false
    else
    if (!(a_1.Until == b_2.Until)) then
    some false
    else
    some true
theorem w_laws_eqOp (a_1 : GOp) (b_2 : GOp) (r : Bool) (hf : laws_eqOp a_1 b_2 = some r) : CallOK Try.prog 11 .flat [(encGOp a_1), (encGOp b_2)] (.bool r) := by
 refine CallOK.of_awp mixed Try.func11 fc11 nle ?_; rw [argT_eq]; unfold laws_eqOp at hf; unfold c11; refine (show awp Try.prog false 0 _ (ofL [(0, (encGOp a_1)), (1, (encGOp b_2))]) [] _ from ?_); refine awp_seq ?_; refine w_reg ?_; refine s_do (o_box (j := 0) (c := (.agg [(.int .i64 a_1.Kind), (.str a_1.Table), (.str a_1.Name), (.lst 3 (a_1.Where.map encGCond)), (.lst 3 (a_1.Row.map encGSet)), (.lst 3 (a_1.Muts.map encGMut)), (.lst 1 (a_1.Columns.map AV.str)), (.bool a_1.Until)])) rfl trivial rfl rfl) ?_; refine s_do (o_box (j := 1) (c := (.agg [(.int .i64 b_2.Kind), (.str b_2.Table), (.str b_2.Name), (.lst 3 (b_2.Where.map encGCond)), (.lst 3 (b_2.Row.map encGSet)), (.lst 3 (b_2.Muts.map encGMut)), (.lst 1 (b_2.Columns.map AV.str)), (.bool b_2.Until)])) rfl trivial rfl rfl) ?_
 refine s_do (o_mov (.bool false) rfl) ?_; refine w_done ?_; refine k_seq ?_; refine awp_seq ?_; refine awp_seq ?_; refine w_reg ?_; refine s_do (o_q (.ptr 0 0 0) rfl trivial rfl) ?_; refine s_do (o_q (.int .i64 a_1.Kind) rfl nle rfl) ?_; refine s_do (o_q (.ptr 1 0 0) rfl trivial rfl) ?_; refine s_do (o_q (.int .i64 b_2.Kind) rfl nle rfl) ?_; refine s_do (o_q (.bool (a_1.Kind != b_2.Kind)) rfl rfl rfl) ?_; refine w_done ?_; refine k_seq ?_
 rcases oi hf with ⟨c3, hf⟩ | ⟨c3, hf⟩
 ·refine w_condt rfl c3 ?_; refine awp_seq ?_; refine w_reg ?_; refine s_do (o_mov (.bool false) rfl) ?_; refine w_done ?_; refine k_seq ?_; refine w_ret ?_; obtain rfl := os hf; exact r_flat ⟨trivial, trivial⟩ rfl (.refl _)
 ·refine w_condf rfl (bf c3) ?_; refine w_skip ?_; refine k_seq ?_; refine awp_seq ?_; refine awp_seq ?_; refine w_reg ?_; refine s_do (o_q (.ptr 0 0 1) rfl trivial rfl) ?_; refine s_do (o_q (.str a_1.Table) rfl nle rfl) ?_; refine s_do (o_q (.ptr 1 0 1) rfl trivial rfl) ?_; refine s_do (o_q (.str b_2.Table) rfl nle rfl) ?_; refine s_do (o_q (.bool (!(a_1.Table == b_2.Table))) rfl trivial rfl) ?_; refine w_done ?_; refine k_seq ?_
  rcases oi hf with ⟨c4, hf⟩ | ⟨c4, hf⟩
  ·refine w_condt rfl c4 ?_; refine awp_seq ?_; refine w_reg ?_; refine s_do (o_mov (.bool false) rfl) ?_; refine w_done ?_; refine k_seq ?_; refine w_ret ?_; obtain rfl := os hf; exact r_flat ⟨trivial, trivial⟩ rfl (.refl _)
  ·refine w_condf rfl (bf c4) ?_; refine w_skip ?_; refine k_seq ?_; refine awp_seq ?_; refine awp_seq ?_; refine w_reg ?_; refine s_do (o_q (.ptr 0 0 2) rfl trivial rfl) ?_; refine s_do (o_q (.str a_1.Name) rfl nle rfl) ?_; refine s_do (o_q (.ptr 1 0 2) rfl trivial rfl) ?_; refine s_do (o_q (.str b_2.Name) rfl nle rfl) ?_; refine s_do (o_q (.bool (!(a_1.Name == b_2.Name))) rfl trivial rfl) ?_; refine w_done ?_; refine k_seq ?_
   rcases oi hf with ⟨c5, hf⟩ | ⟨c5, hf⟩
   ·refine w_condt rfl c5 ?_; refine awp_seq ?_; refine w_reg ?_; refine s_do (o_mov (.bool false) rfl) ?_; refine w_done ?_; refine k_seq ?_; refine w_ret ?_; obtain rfl := os hf; exact r_flat ⟨trivial, trivial⟩ rfl (.refl _)
   ·refine w_condf rfl (bf c5) ?_; refine w_skip ?_; refine k_seq ?_; refine awp_seq ?_; refine awp_seq ?_; refine w_reg ?_
    obtain ⟨r_6, er7, hf⟩ := ob hf
    refine s_do (o_q (.ptr 0 0 3) rfl trivial rfl) ?_; refine s_do (o_q (.lst 3 (a_1.Where.map encGCond)) rfl nle rfl) ?_; refine s_do (o_q (.ptr 1 0 3) rfl trivial rfl) ?_; refine s_do (o_q (.lst 3 (b_2.Where.map encGCond)) rfl nle rfl) ?_; refine s_do (o_call (w_laws_eqCondS _ _ _ er7) rfl (.refl _) rfl) ?_; refine s_do (o_q (.bool (!r_6)) rfl trivial rfl) ?_; refine w_done ?_; refine k_seq ?_
    rcases oi hf with ⟨c8, hf⟩ | ⟨c8, hf⟩
    ·refine w_condt rfl c8 ?_; refine awp_seq ?_; refine w_reg ?_; refine s_do (o_mov (.bool false) rfl) ?_; refine w_done ?_; refine k_seq ?_; refine w_ret ?_; obtain rfl := os hf; exact r_flat ⟨trivial, trivial⟩ rfl (.refl _)
    ·refine w_condf rfl (bf c8) ?_; refine w_skip ?_; refine k_seq ?_; refine awp_seq ?_; refine awp_seq ?_; refine w_reg ?_
     obtain ⟨r_9, er10, hf⟩ := ob hf
     refine s_do (o_q (.ptr 0 0 4) rfl trivial rfl) ?_; refine s_do (o_q (.lst 3 (a_1.Row.map encGSet)) rfl nle rfl) ?_; refine s_do (o_q (.ptr 1 0 4) rfl trivial rfl) ?_; refine s_do (o_q (.lst 3 (b_2.Row.map encGSet)) rfl nle rfl) ?_; refine s_do (o_call (w_laws_eqSetS _ _ _ er10) rfl (.refl _) rfl) ?_; refine s_do (o_q (.bool (!r_9)) rfl trivial rfl) ?_; refine w_done ?_; refine k_seq ?_
     rcases oi hf with ⟨c11, hf⟩ | ⟨c11, hf⟩
     ·refine w_condt rfl c11 ?_; refine awp_seq ?_; refine w_reg ?_; refine s_do (o_mov (.bool false) rfl) ?_; refine w_done ?_; refine k_seq ?_; refine w_ret ?_; obtain rfl := os hf; exact r_flat ⟨trivial, trivial⟩ rfl (.refl _)
     ·refine w_condf rfl (bf c11) ?_; refine w_skip ?_; refine k_seq ?_; refine awp_seq ?_; refine awp_seq ?_; refine w_reg ?_
      obtain ⟨r_12, er13, hf⟩ := ob hf
      refine s_do (o_q (.ptr 0 0 5) rfl trivial rfl) ?_; refine s_do (o_q (.lst 3 (a_1.Muts.map encGMut)) rfl nle rfl) ?_; refine s_do (o_q (.ptr 1 0 5) rfl trivial rfl) ?_; refine s_do (o_q (.lst 3 (b_2.Muts.map encGMut)) rfl nle rfl) ?_; refine s_do (o_call (w_laws_eqMutS _ _ _ er13) rfl (.refl _) rfl) ?_; refine s_do (o_q (.bool (!r_12)) rfl trivial rfl) ?_; refine w_done ?_; refine k_seq ?_
      rcases oi hf with ⟨c14, hf⟩ | ⟨c14, hf⟩
      ·refine w_condt rfl c14 ?_; refine awp_seq ?_; refine w_reg ?_; refine s_do (o_mov (.bool false) rfl) ?_; refine w_done ?_; refine k_seq ?_; refine w_ret ?_; obtain rfl := os hf; exact r_flat ⟨trivial, trivial⟩ rfl (.refl _)
      ·refine w_condf rfl (bf c14) ?_; refine w_skip ?_; refine k_seq ?_; refine awp_seq ?_; refine awp_seq ?_; refine w_reg ?_
       obtain ⟨r_15, er16, hf⟩ := ob hf
       refine s_do (o_q (.ptr 0 0 6) rfl trivial rfl) ?_; refine s_do (o_q (.lst 1 (a_1.Columns.map AV.str)) rfl nle rfl) ?_; refine s_do (o_q (.ptr 1 0 6) rfl trivial rfl) ?_; refine s_do (o_q (.lst 1 (b_2.Columns.map AV.str)) rfl nle rfl) ?_; refine s_do (o_call (w_laws_eqStringS _ _ _ er16) rfl (.refl _) rfl) ?_; refine s_do (o_q (.bool (!r_15)) rfl trivial rfl) ?_; refine w_done ?_; refine k_seq ?_
       rcases oi hf with ⟨c17, hf⟩ | ⟨c17, hf⟩
       ·refine w_condt rfl c17 ?_; refine awp_seq ?_; refine w_reg ?_; refine s_do (o_mov (.bool false) rfl) ?_; refine w_done ?_; refine k_seq ?_; refine w_ret ?_; obtain rfl := os hf; exact r_flat ⟨trivial, trivial⟩ rfl (.refl _)
       ·refine w_condf rfl (bf c17) ?_; refine w_skip ?_; refine k_seq ?_; refine awp_seq ?_; refine awp_seq ?_; refine w_reg ?_; refine s_do (o_q (.ptr 0 0 7) rfl trivial rfl) ?_; refine s_do (o_q (.bool a_1.Until) rfl nle rfl) ?_; refine s_do (o_q (.ptr 1 0 7) rfl trivial rfl) ?_; refine s_do (o_q (.bool b_2.Until) rfl nle rfl) ?_; refine s_do (o_q (.bool (!(a_1.Until == b_2.Until))) rfl trivial rfl) ?_; refine w_done ?_; refine k_seq ?_
        rcases oi hf with ⟨c18, hf⟩ | ⟨c18, hf⟩
        ·refine w_condt rfl c18 ?_; refine awp_seq ?_; refine w_reg ?_; refine s_do (o_mov (.bool false) rfl) ?_; refine w_done ?_; refine k_seq ?_; refine w_ret ?_; obtain rfl := os hf; exact r_flat ⟨trivial, trivial⟩ rfl (.refl _)
        ·refine w_condf rfl (bf c18) ?_; refine w_skip ?_; refine k_seq ?_; refine awp_seq ?_; refine w_reg ?_; refine s_do (o_mov (.bool true) rfl) ?_; refine w_done ?_; refine k_seq ?_; refine w_ret ?_; obtain rfl := os hf; exact r_flat ⟨trivial, trivial⟩ rfl (.refl _)

/- laws.FnExactOpOK -/
def c3 : ACode :=
 (.seq (.reg (.q ⟨(some 1), none, .box 8 (.t 0)⟩
 (.q ⟨(some 2), none, .mov (.c (.bool false))⟩
 .done)))
 (.seq (.reg (.q ⟨(some 3), none, .mov (.c (.int .i64 1048576))⟩
 .done))
 (.seq (.reg (.q ⟨(some 7), none, .load 8 true (.t 1)⟩
 (.q ⟨(some 8), none, .mov (.t 3)⟩
 (.q ⟨(some 9), none, .call 7 [(.t 7), (.t 8)]⟩
 (.q ⟨(some 3), none, .mov (.t 9)⟩
 .done)))))
 (.seq (.seq (.reg (.q ⟨(some 10), none, .mov (.t 3)⟩
 (.q ⟨(some 11), none, .bin .lss (.t 10) (.c (.int .i64 0))⟩
 .done)))
 (.cond (.t 11) (.seq (.reg (.q ⟨(some 2), none, .mov (.c (.bool true))⟩
 .done))
 .ret)
 .skip))
 (.seq (.reg (.q ⟨(some 12), none, .load 8 true (.t 1)⟩
 (.q ⟨(some 13), none, .call 9 [(.t 12)]⟩
 (.q ⟨(some 14), none, .call 8 [(.t 13)]⟩
 (.q ⟨(some 4), none, .mov (.t 14)⟩
 .done)))))
 (.seq (.reg (.q ⟨(some 15), none, .load 8 true (.t 1)⟩
 (.q ⟨(some 16), none, .call 9 [(.t 15)]⟩
 (.q ⟨(some 5), none, .box 8 (.c (.agg [(.int .i64 0), (.str []), (.str []), .nil, .nil, .nil, .nil, (.bool false)]))⟩
 (.q ⟨none, none, .store 8 (.t 5) (.t 16)⟩
 .done)))))
 (.seq (.reg (.q ⟨(some 17), none, .load 8 true (.t 5)⟩
 (.q ⟨(some 18), none, .call 10 [(.t 17)]⟩
 (.q ⟨(some 6), none, .mov (.t 18)⟩
 .done))))
 (.seq (.seq (.reg (.q ⟨(some 19), none, .mov (.t 6)⟩
 (.q ⟨(some 20), none, .mov (.t 4)⟩
 (.q ⟨(some 21), none, .eqB true (.t 19) (.t 20)⟩
 .done))))
 (.cond (.t 21) (.seq (.reg (.q ⟨(some 2), none, .mov (.c (.bool false))⟩
 .done))
 .ret)
 .skip))
 (.seq (.seq (.reg (.q ⟨(some 22), none, .load 8 true (.t 5)⟩
 (.q ⟨(some 23), none, .load 8 true (.t 1)⟩
 (.l ⟨(some 24), none, .call 9 [(.t 23)]⟩ [⟨(some 22), none, .load 8 true (.t 5)⟩]
 (.l ⟨(some 25), none, .call 11 [(.t 22), (.t 24)]⟩ []
 (.q ⟨(some 26), none, .not (.t 25)⟩
 .done) .non) .non))))
 (.cond (.t 26) (.seq (.reg (.q ⟨(some 2), none, .mov (.c (.bool false))⟩
 .done))
 .ret)
 .skip))
 (.seq (.reg (.q ⟨(some 2), none, .mov (.c (.bool true))⟩
 .done))
 .ret))))))))))
theorem fc3 : fcomp Try.prog Try.f3 = some (c3.erase, [.mov (.t 2)], 27) := by kernel_rfl
def laws_FnExactOpOK (aO_1 : GOp) : Option Bool :=
    (laws_szOp aO_1 1048576).bind fun r_2 =>
    if (decide (r_2 < 0)) then
    some true
    else
    (laws_toOp aO_1).bind fun r_5 =>
    (spec_OpOK r_5).bind fun r_7 =>
    (laws_toOp aO_1).bind fun r_9 =>
    (impl_OpOK r_9).bind fun r_11 =>
    if (!(r_11 == r_7)) then
    some false
    else
    (laws_toOp aO_1).bind fun r_14 =>
    (laws_eqOp r_9 r_14).bind fun r_16 =>
    if (!r_16) then
    some false
    else
    some true
theorem w_laws_FnExactOpOK (aO_1 : GOp) (r : Bool) (hf : laws_FnExactOpOK aO_1 = some r) : CallOK Try.prog 3 .flat [(encGOp aO_1)] (.bool r) := by
 refine CallOK.of_awp mixed Try.func3 fc3 nle ?_; rw [argT_eq]; unfold laws_FnExactOpOK at hf; unfold c3; refine (show awp Try.prog false 0 _ (ofL [(0, (encGOp aO_1))]) [] _ from ?_); refine awp_seq ?_; refine w_reg ?_; refine s_do (o_box (j := 0) (c := (.agg [(.int .i64 aO_1.Kind), (.str aO_1.Table), (.str aO_1.Name), (.lst 3 (aO_1.Where.map encGCond)), (.lst 3 (aO_1.Row.map encGSet)), (.lst 3 (aO_1.Muts.map encGMut)), (.lst 1 (aO_1.Columns.map AV.str)), (.bool aO_1.Until)])) rfl trivial rfl rfl) ?_; refine s_do (o_mov (.bool false) rfl) ?_; refine w_done ?_; refine k_seq ?_; refine awp_seq ?_
 refine w_reg ?_; refine s_do (o_mov (.int .i64 1048576) rfl) ?_; refine w_done ?_; refine k_seq ?_; refine awp_seq ?_; refine w_reg ?_
 obtain ⟨r_2, er3, hf⟩ := ob hf
 refine s_do (o_q (.agg [(.int .i64 aO_1.Kind), (.str aO_1.Table), (.str aO_1.Name), (.lst 3 (aO_1.Where.map encGCond)), (.lst 3 (aO_1.Row.map encGSet)), (.lst 3 (aO_1.Muts.map encGMut)), (.lst 1 (aO_1.Columns.map AV.str)), (.bool aO_1.Until)]) rfl nle rfl) ?_; refine s_do (o_mov (.int .i64 1048576) rfl) ?_; refine s_do (o_call (w_laws_szOp _ _ _ er3) rfl (.refl _) rfl) ?_; refine s_do (o_mov (.int .i64 r_2) rfl) ?_; refine w_done ?_; refine k_seq ?_; refine awp_seq ?_; refine awp_seq ?_; refine w_reg ?_; refine s_do (o_mov (.int .i64 r_2) rfl) ?_; refine s_do (o_q (.bool (decide (r_2 < 0))) rfl rfl rfl) ?_
 refine w_done ?_; refine k_seq ?_
 rcases oi hf with ⟨c4, hf⟩ | ⟨c4, hf⟩
 ·refine w_condt rfl c4 ?_; refine awp_seq ?_; refine w_reg ?_; refine s_do (o_mov (.bool true) rfl) ?_; refine w_done ?_; refine k_seq ?_; refine w_ret ?_; obtain rfl := os hf; exact r_flat ⟨trivial, trivial⟩ rfl (.refl _)
 ·refine w_condf rfl (bf c4) ?_; refine w_skip ?_; refine k_seq ?_; refine awp_seq ?_; refine w_reg ?_
  obtain ⟨r_5, er6, hf⟩ := ob hf
  obtain ⟨r_7, er8, hf⟩ := ob hf
  refine s_do (o_q (.agg [(.int .i64 aO_1.Kind), (.str aO_1.Table), (.str aO_1.Name), (.lst 3 (aO_1.Where.map encGCond)), (.lst 3 (aO_1.Row.map encGSet)), (.lst 3 (aO_1.Muts.map encGMut)), (.lst 1 (aO_1.Columns.map AV.str)), (.bool aO_1.Until)]) rfl nle rfl) ?_; refine s_do (o_callc (w_laws_toOp _ _ er6) rfl (.refl _) rfl) ?_; refine s_do (o_call (w_spec_OpOK _ _ er8) rfl (.refl _) rfl) ?_; refine s_do (o_mov (.bool r_7) rfl) ?_; refine w_done ?_; refine k_seq ?_; refine awp_seq ?_; refine w_reg ?_
  obtain ⟨r_9, er10, hf⟩ := ob hf
  refine s_do (o_q (.agg [(.int .i64 aO_1.Kind), (.str aO_1.Table), (.str aO_1.Name), (.lst 3 (aO_1.Where.map encGCond)), (.lst 3 (aO_1.Row.map encGSet)), (.lst 3 (aO_1.Muts.map encGMut)), (.lst 1 (aO_1.Columns.map AV.str)), (.bool aO_1.Until)]) rfl nle rfl) ?_; refine s_do (o_callc (w_laws_toOp _ _ er10) rfl (.refl _) rfl) ?_; refine s_do (o_box (j := 1) (c := (.agg [(.int .i64 0), (.str []), (.str []), .nil, .nil, .nil, .nil, (.bool false)])) rfl trivial rfl rfl) ?_; refine s_do0 (o_storebox (v := (.agg [(.int .i64 r_9.Kind), (.str r_9.Table), (.str r_9.Name), (.lst 3 (r_9.Where.map encGCond)), (.lst 3 (r_9.Row.map encGSet)), (.lst 3 (r_9.Muts.map encGMut)), (.lst 1 (r_9.Columns.map AV.str)), (.bool r_9.Until)])) (y' := (.agg [(.int .i64 r_9.Kind), (.str r_9.Table), (.str r_9.Name), (.lst 3 (r_9.Where.map encGCond)), (.lst 3 (r_9.Row.map encGSet)), (.lst 3 (r_9.Muts.map encGMut)), (.lst 1 (r_9.Columns.map AV.str)), (.bool r_9.Until)])) rfl rfl rfl trivial ⟨rfl, nle⟩ ⟨⟨rfl, trivial⟩, ⟨⟨rfl, trivial⟩, ⟨⟨rfl, trivial⟩, ⟨⟨rfl, trivial⟩, ⟨⟨rfl, trivial⟩, ⟨⟨rfl, trivial⟩, ⟨⟨rfl, trivial⟩, ⟨⟨rfl, trivial⟩, trivial⟩⟩⟩⟩⟩⟩⟩⟩ rfl) ?_
  refine w_done ?_; refine k_seq ?_; refine awp_seq ?_; refine w_reg ?_
  obtain ⟨r_11, er12, hf⟩ := ob hf
  refine s_do (o_q (.agg [(.int .i64 r_9.Kind), (.str r_9.Table), (.str r_9.Name), (.lst 3 (r_9.Where.map encGCond)), (.lst 3 (r_9.Row.map encGSet)), (.lst 3 (r_9.Muts.map encGMut)), (.lst 1 (r_9.Columns.map AV.str)), (.bool r_9.Until)]) rfl nle rfl) ?_; refine s_do (o_call (w_impl_OpOK _ _ er12) rfl (.refl _) rfl) ?_; refine s_do (o_mov (.bool r_11) rfl) ?_; refine w_done ?_; refine k_seq ?_; refine awp_seq ?_; refine awp_seq ?_; refine w_reg ?_; refine s_do (o_mov (.bool r_11) rfl) ?_; refine s_do (o_mov (.bool r_7) rfl) ?_; refine s_do (o_q (.bool (!(r_11 == r_7))) rfl trivial rfl) ?_; refine w_done ?_
  refine k_seq ?_
  rcases oi hf with ⟨c13, hf⟩ | ⟨c13, hf⟩
  ·refine w_condt rfl c13 ?_; refine awp_seq ?_; refine w_reg ?_; refine s_do (o_mov (.bool false) rfl) ?_; refine w_done ?_; refine k_seq ?_; refine w_ret ?_; obtain rfl := os hf; exact r_flat ⟨trivial, trivial⟩ rfl (.refl _)
  ·refine w_condf rfl (bf c13) ?_; refine w_skip ?_; refine k_seq ?_; refine awp_seq ?_; refine awp_seq ?_; refine w_reg ?_
   obtain ⟨r_14, er15, hf⟩ := ob hf
   obtain ⟨r_16, er17, hf⟩ := ob hf
   refine s_do (o_q (.agg [(.int .i64 r_9.Kind), (.str r_9.Table), (.str r_9.Name), (.lst 3 (r_9.Where.map encGCond)), (.lst 3 (r_9.Row.map encGSet)), (.lst 3 (r_9.Muts.map encGMut)), (.lst 1 (r_9.Columns.map AV.str)), (.bool r_9.Until)]) rfl nle rfl) ?_; refine s_do (o_q (.agg [(.int .i64 aO_1.Kind), (.str aO_1.Table), (.str aO_1.Name), (.lst 3 (aO_1.Where.map encGCond)), (.lst 3 (aO_1.Row.map encGSet)), (.lst 3 (aO_1.Muts.map encGMut)), (.lst 1 (aO_1.Columns.map AV.str)), (.bool aO_1.Until)]) rfl nle rfl) ?_; refine s_dol (o_callc (w_laws_toOp _ _ er15) rfl (.refl _) rfl) a_same trivial ?_; refine s_dol (o_call (w_laws_eqOp _ _ _ er17) rfl (.refl _) rfl) a_same trivial ?_
   refine s_do (o_q (.bool (!r_16)) rfl trivial rfl) ?_; refine w_done ?_; refine k_seq ?_
   rcases oi hf with ⟨c18, hf⟩ | ⟨c18, hf⟩
   ·refine w_condt rfl c18 ?_; refine awp_seq ?_; refine w_reg ?_; refine s_do (o_mov (.bool false) rfl) ?_; refine w_done ?_; refine k_seq ?_; refine w_ret ?_; obtain rfl := os hf; exact r_flat ⟨trivial, trivial⟩ rfl (.refl _)
   ·refine w_condf rfl (bf c18) ?_; refine w_skip ?_; refine k_seq ?_; refine awp_seq ?_; refine w_reg ?_; refine s_do (o_mov (.bool true) rfl) ?_; refine w_done ?_; refine k_seq ?_; refine w_ret ?_; obtain rfl := os hf; exact r_flat ⟨trivial, trivial⟩ rfl (.refl _)

end Go.R
