/- Walks. -/
import Derived.Test.YtdnjjfoooagphaaDJ1
set_option linter.all false
namespace Go.R
open Go Go.Proofs
set_option linter.unusedVariables false
set_option linter.unusedSimpArgs false
set_option maxHeartbeats 8000000
/- impl.jsText -/
def c180 : ACode :=
 (.seq (.reg (tq 2 (.box 5 (.c (.agg [(.int .i64 0), (.int .i64 0), (.str []), .nil, .nil]))) .done))
 (.seq (.reg (tm 3 (.t 0) (tq 4 (.build [(.int .i64 0), (.int .i64 0), (.str []), .nil, .nil] [(0, 1, (.c (.int .i64 3))), (2, 1, (.t 3))]) (.q ⟨none, none, .store 5 (.t 2) (.t 4)⟩
 .done))))
 .ret))
theorem fc180 : fcomp Try.prog Try.f180 = some (c180.erase, [.load 5 true (.t 2)], 5) := by kernel_rfl
def impl_jsText (t_1 : Str) : Option GJson :=
    some (⟨3, 0, t_1, [], []⟩ : GJson)
theorem w_impl_jsText (t_1 : Str) (r : GJson) (hf : impl_jsText t_1 = some r) : CallOK Try.prog 180 .fresh [(.str t_1)] (encGJson r) := by
  refine CallOK.of_awp mixed Try.func180 fc180 nle ?_
  rw [argT_eq]
  unfold impl_jsText at hf
  unfold c180
  refine (show awp Try.prog true 0 _ (ofL [(0, (.str t_1))]) [] _ from ?_)
  refine awp_seq ?_
  refine w_reg ?_
  refine s_do (o_box (j := 0) (c := (.agg [(.int .i64 0), (.int .i64 0), (.str []), .nil, .nil])) rfl trivial rfl rfl) ?_
  refine w_done ?_
  refine k_seq ?_
  refine awp_seq ?_
  refine w_reg ?_
  refine s_do (o_mov (.str t_1) rfl) ?_
  refine s_do (o_q (.agg [(.int .i64 3), (.int .i64 0), (.str t_1), .nil, .nil]) rfl ⟨⟨rfl, nle, trivial⟩, ⟨⟨rfl, nle, trivial⟩, trivial⟩⟩ rfl) ?_
  refine s_do0 (o_storebox (v := (.agg [(.int .i64 3), (.int .i64 0), (.str t_1), .nil, .nil])) (y' := (.agg [(.int .i64 3), (.int .i64 0), (.str t_1), .nil, .nil])) rfl rfl rfl trivial ⟨rfl, nle⟩ ⟨⟨rfl, trivial⟩, ⟨⟨rfl, trivial⟩, ⟨⟨rfl, trivial⟩, ⟨⟨rfl, trivial⟩, ⟨⟨rfl, trivial⟩, trivial⟩⟩⟩⟩⟩ rfl) ?_
  refine w_done ?_
  refine k_seq ?_
  refine w_ret ?_
  obtain rfl := os hf
  exact r_fresh ⟨nle, trivial⟩ rfl (by decide) (leJ (x := (⟨3, 0, t_1, [], []⟩ : GJson)) (.agg (.cons (.refl _) (.cons (.refl _) (.cons (.refl _) (.cons (.nil _) (.cons (.nil _) .nil)))))))

/- impl.jsBool -/
def c249 : ACode :=
 (.seq (.reg (tq 2 (.box 5 (.c (.agg [(.int .i64 0), (.int .i64 0), (.str []), .nil, .nil]))) .done))
 (.seq (.seq (.reg (tm 3 (.t 0) .done))
 (.cond (.t 3) (.seq (.reg (tq 4 (.build [(.int .i64 0), (.int .i64 0), (.str []), .nil, .nil] [(0, 1, (.c (.int .i64 1))), (1, 1, (.c (.int .i64 1)))]) (.q ⟨none, none, .store 5 (.t 2) (.t 4)⟩
 .done)))
 .ret)
 .skip))
 (.seq (.reg (tq 5 (.build [(.int .i64 0), (.int .i64 0), (.str []), .nil, .nil] [(0, 1, (.c (.int .i64 1)))]) (.q ⟨none, none, .store 5 (.t 2) (.t 5)⟩
 .done)))
 .ret)))
theorem fc249 : fcomp Try.prog Try.f249 = some (c249.erase, [.load 5 true (.t 2)], 6) := by kernel_rfl
def impl_jsBool (holds_1 : Bool) : Option GJson :=
    if holds_1 then
    some (⟨1, 1, [], [], []⟩ : GJson)
    else
    some (⟨1, 0, [], [], []⟩ : GJson)
theorem w_impl_jsBool (holds_1 : Bool) (r : GJson) (hf : impl_jsBool holds_1 = some r) : CallOK Try.prog 249 .fresh [(.bool holds_1)] (encGJson r) := by
 refine CallOK.of_awp mixed Try.func249 fc249 nle ?_; rw [argT_eq]; unfold impl_jsBool at hf; unfold c249; refine (show awp Try.prog true 0 _ (ofL [(0, (.bool holds_1))]) [] _ from ?_); refine awp_seq <| w_reg <| s_do (o_box (j := 0) (c := (.agg [(.int .i64 0), (.int .i64 0), (.str []), .nil, .nil])) rfl trivial rfl rfl) <| w_done <| k_seq <| awp_seq <| awp_seq <| w_reg <| s_mov (.bool holds_1) rfl <| w_done <| k_seq <| ?_
 rcases oi hf with ⟨c2, hf⟩ | ⟨c2, hf⟩
 ·refine w_condt rfl c2 <| awp_seq <| w_reg <| s_q (.agg [(.int .i64 1), (.int .i64 1), (.str []), .nil, .nil]) rfl ⟨⟨rfl, nle, trivial⟩, ⟨⟨rfl, nle, trivial⟩, trivial⟩⟩ rfl <| s_do0 (o_storebox (v := (.agg [(.int .i64 1), (.int .i64 1), (.str []), .nil, .nil])) (y' := (.agg [(.int .i64 1), (.int .i64 1), (.str []), .nil, .nil])) rfl rfl rfl trivial ⟨rfl, nle⟩ ⟨⟨rfl, trivial⟩, ⟨⟨rfl, trivial⟩, ⟨⟨rfl, trivial⟩, ⟨⟨rfl, trivial⟩, ⟨⟨rfl, trivial⟩, trivial⟩⟩⟩⟩⟩ rfl) <| w_done <| k_seq <| w_ret <| ?_; obtain rfl := os hf; exact r_fresh ⟨nle, trivial⟩ rfl (by decide) (leJ (x := (⟨1, 1, [], [], []⟩ : GJson)) (.agg (.cons (.refl _) (.cons (.refl _) (.cons (.refl _) (.cons (.nil _) (.cons (.nil _) .nil)))))))
 ·refine w_condf rfl (bf c2) <| w_skip <| k_seq <| awp_seq <| w_reg <| s_q (.agg [(.int .i64 1), (.int .i64 0), (.str []), .nil, .nil]) rfl ⟨⟨rfl, nle, trivial⟩, trivial⟩ rfl <| s_do0 (o_storebox (v := (.agg [(.int .i64 1), (.int .i64 0), (.str []), .nil, .nil])) (y' := (.agg [(.int .i64 1), (.int .i64 0), (.str []), .nil, .nil])) rfl rfl rfl trivial ⟨rfl, nle⟩ ⟨⟨rfl, trivial⟩, ⟨⟨rfl, trivial⟩, ⟨⟨rfl, trivial⟩, ⟨⟨rfl, trivial⟩, ⟨⟨rfl, trivial⟩, trivial⟩⟩⟩⟩⟩ rfl) <| w_done <| k_seq <| w_ret <| ?_; obtain rfl := os hf; exact r_fresh ⟨nle, trivial⟩ rfl (by decide) (leJ (x := (⟨1, 0, [], [], []⟩ : GJson)) (.agg (.cons (.refl _) (.cons (.refl _) (.cons (.refl _) (.cons (.nil _) (.cons (.nil _) .nil)))))))

/- impl.jsList -/
def c179_h0 : ACode :=
 (.seq (.reg (tq 2 (.box 5 (.c (.agg [(.int .i64 0), (.int .i64 0), (.str []), .nil, .nil]))) .done))
 (.seq (.reg (tm 3 (.t 0) (tq 4 (.build [(.int .i64 0), (.int .i64 0), (.str []), .nil, .nil] [(0, 1, (.c (.int .i64 4))), (4, 1, (.t 3))]) (.q ⟨none, none, .store 5 (.t 2) (.t 4)⟩
 .done))))
 .ret))
theorem fc179_h0 : fcomp Try.prog Try.f179 = some (c179_h0.erase, [.load 5 true (.t 2)], 5) := by kernel_rfl
def impl_jsList_h0 (list_1 : (List GJson)) : Option GJson :=
    some (⟨4, 0, [], [], list_1⟩ : GJson)
theorem w_impl_jsList_h0 (list_1 : (List GJson)) (r : GJson) (hf : impl_jsList_h0 list_1 = some r) : CallHeap Try.prog true 179 [(.own 0 0 list_1.length)] [.row 5 (list_1.map encGJson)] (.agg [(.int .i64 r.Kind), (.int .i64 r.N), (.str r.T), (.own 1 0 r.Keys.length), (.own 2 0 r.Items.length)]) [.dead, .row 1 (r.Keys.map AV.str), .row 5 (r.Items.map encGJson)] := by
 refine CallHeap.of_awp mixed Try.func179 fc179_h0 nle ?_; rw [argT_eq]; unfold impl_jsList_h0 at hf; unfold c179_h0; refine (show awp Try.prog true 1 _ (ofL [(0, (.own 0 0 list_1.length))]) [.row 5 (list_1.map encGJson)] _ from ?_); refine awp_seq <| w_reg <| s_do (o_box (j := 1) (c := (.agg [(.int .i64 0), (.int .i64 0), (.str []), .nil, .nil])) rfl trivial rfl rfl) <| w_done <| k_seq <| awp_seq <| w_reg <| s_mov (.own 0 0 list_1.length) rfl <| s_q (.agg [(.int .i64 4), (.int .i64 0), (.str []), .nil, (.own 0 0 list_1.length)]) rfl ⟨⟨rfl, nle, trivial⟩, ⟨⟨rfl, nle, trivial⟩, trivial⟩⟩ rfl <| s_do0 (o_storebox (v := (.agg [(.int .i64 4), (.int .i64 0), (.str []), .nil, (.own 0 0 list_1.length)])) (y' := (.agg [(.int .i64 4), (.int .i64 0), (.str []), .nil, (.own 0 0 list_1.length)])) rfl rfl rfl trivial ⟨rfl, nle⟩ ⟨⟨rfl, trivial⟩, ⟨⟨rfl, trivial⟩, ⟨⟨rfl, trivial⟩, ⟨⟨rfl, trivial⟩, ⟨⟨rfl, trivial⟩, trivial⟩⟩⟩⟩⟩ rfl) <| ?_
 refine w_done <| k_seq <| w_ret <| ?_; obtain rfl := os hf; exact r_heap [.nilC 1 3 1, .mv 0] [0, 2, 3] rfl ⟨nle, trivial⟩ rfl (.refl _) (.refl _)

/- impl.atomJson -/
def c178 : ACode :=
 (.seq (.reg (tq 1 (.box 3 (.t 0)) (tq 2 (.box 5 (.c (.agg [(.int .i64 0), (.int .i64 0), (.str []), .nil, .nil]))) .done)))
 (.seq (.seq (.reg (tq 3 (.faddr 0 (.t 1)) (tq 4 (.load 1 false (.t 3)) .done)))
 (.block 0 (.seq (.reg (tq 6 (.bin .eql (.t 4) (.c (.int .i64 1))) (tm 5 (.t 6) .done)))
 (.cond (.t 5) (.seq (.reg (tq 7 (.faddr 1 (.t 1)) (tq 8 (.load 1 false (.t 7)) (tq 9 (.call 248 [(.t 8)]) (.q ⟨none, none, .store 5 (.t 2) (.t 9)⟩
 .done)))))
 .ret)
 (.seq (.reg (tq 11 (.bin .eql (.t 4) (.c (.int .i64 2))) (tm 10 (.t 11) .done)))
 (.cond (.t 10) (.seq (.reg (tq 12 (.faddr 2 (.t 1)) (tq 13 (.load 1 false (.t 12)) (tq 14 (.call 180 [(.t 13)]) (.q ⟨none, none, .store 5 (.t 2) (.t 14)⟩
 .done)))))
 .ret)
 (.seq (.reg (tq 16 (.bin .eql (.t 4) (.c (.int .i64 3))) (tm 15 (.t 16) .done)))
 (.cond (.t 15) (.seq (.reg (tq 17 (.faddr 1 (.t 1)) (tq 18 (.load 1 false (.t 17)) (tq 19 (.bin .eql (.t 18) (.c (.int .i64 1))) (tq 20 (.call 249 [(.t 19)]) (.q ⟨none, none, .store 5 (.t 2) (.t 20)⟩
 .done))))))
 .ret)
 .skip))))))))
 (.seq (.reg (tq 22 (.faddr 1 (.t 1)) (tq 23 (.load 1 false (.t 22)) (.l ⟨(some 21), none, .call 180 [(.c (.str [117, 117, 105, 100]))]⟩ [⟨(some 23), none, .load 1 false (.t 22)⟩, ⟨(some 22), none, .faddr 1 (.t 1)⟩]
 (.l ⟨(some 24), none, .call 248 [(.t 23)]⟩ []
 (.l ⟨(some 25), none, .bslice 5 [(.t 21), (.t 24)]⟩ []
 (.l ⟨(some 26), none, .call 179 [(.t 25)]⟩ []
 (.l ⟨none, none, .store 5 (.t 2) (.t 26)⟩ []
 .done .non) .non) .non) .non) .non))))
 .ret)))
theorem fc178 : fcomp Try.prog Try.f178 = some (c178.erase, [.load 5 true (.t 2)], 27) := by kernel_rfl
def impl_atomJson (a_1 : GAtom) : Option GJson :=
    if (a_1.Kind == 1) then
    (impl_jsNumber a_1.N).bind fun r_3 =>
    some r_3
    else
    if (a_1.Kind == 2) then
    (impl_jsText a_1.T).bind fun r_6 =>
    some r_6
    else
    if (a_1.Kind == 3) then
    (impl_jsBool (a_1.N == 1)).bind fun r_9 =>
    some r_9
    else
    (impl_jsText [117, 117, 105, 100]).bind fun r_11 =>
    (impl_jsNumber a_1.N).bind fun r_13 =>
    (impl_jsList_h0 [r_11, r_13]).bind fun r_15 =>
    some r_15
theorem w_impl_atomJson (a_1 : GAtom) (r : GJson) (hf : impl_atomJson a_1 = some r) : CallOK Try.prog 178 .fresh [(encGAtom a_1)] (encGJson r) := by
 refine CallOK.of_awp mixed Try.func178 fc178 nle ?_; rw [argT_eq]; unfold impl_atomJson at hf; unfold c178; refine (show awp Try.prog true 0 _ (ofL [(0, (encGAtom a_1))]) [] _ from ?_); refine awp_seq <| w_reg <| s_do (o_box (j := 0) (c := (.agg [(.int .i64 a_1.Kind), (.int .i64 a_1.N), (.str a_1.T)])) rfl trivial rfl rfl) <| s_do (o_box (j := 1) (c := (.agg [(.int .i64 0), (.int .i64 0), (.str []), .nil, .nil])) rfl trivial rfl rfl) <| w_done <| k_seq <| awp_seq <| awp_seq <| w_reg <| s_q (.ptr 0 0 0) rfl trivial rfl <| s_q (.int .i64 a_1.Kind) rfl nle rfl <| w_done <| k_seq <| w_blk <| awp_seq <| w_reg <| s_q (.bool (a_1.Kind == 1)) rfl rfl rfl <| s_mov (.bool (a_1.Kind == 1)) rfl <| w_done <| k_seq <| ?_
 rcases oi hf with ⟨c2, hf⟩ | ⟨c2, hf⟩
 ·refine w_condt rfl c2 <| awp_seq <| w_reg <| ?_
  obtain ⟨r_3, er4, hf⟩ := ob hf
  refine s_q (.ptr 0 0 1) rfl trivial rfl <| s_q (.int .i64 a_1.N) rfl nle rfl <| s_do (o_callf (v := (.agg [(.int .i64 r_3.Kind), (.int .i64 r_3.N), (.str r_3.T), (.own 2 0 r_3.Keys.length), (.own 3 0 r_3.Items.length)])) (h' := [.row 1 (r_3.Keys.map AV.str), .row 5 (r_3.Items.map encGJson)]) (w_impl_jsNumber _ _ er4) rfl (.refl _) (by simp only [openV, openVs, List.length_map, encGJson_eq, List.nil_append, List.append_nil, List.cons_append]; rfl)) <| s_do0 (o_storebox (v := (.agg [(.int .i64 r_3.Kind), (.int .i64 r_3.N), (.str r_3.T), (.own 2 0 r_3.Keys.length), (.own 3 0 r_3.Items.length)])) (y' := (.agg [(.int .i64 r_3.Kind), (.int .i64 r_3.N), (.str r_3.T), (.own 2 0 r_3.Keys.length), (.own 3 0 r_3.Items.length)])) rfl rfl rfl trivial ⟨rfl, nle⟩ ⟨⟨rfl, trivial⟩, ⟨⟨rfl, trivial⟩, ⟨⟨rfl, trivial⟩, ⟨⟨rfl, trivial⟩, ⟨⟨rfl, trivial⟩, trivial⟩⟩⟩⟩⟩ rfl) <| ?_
  refine w_done <| k_seq <| w_ret <| ?_; obtain rfl := os hf; exact r_fresh ⟨nle, trivial⟩ rfl (by decide) (leJ (x := r_3) (.agg (.cons (.refl _) (.cons (.refl _) (.cons (.refl _) (.cons (.of_eq (congrArg (AV.lst _) (tk (enc := AV.str) r_3.Keys))) (.cons (.of_eq (congrArg (AV.lst _) (tk (enc := encGJson) r_3.Items))) .nil)))))))
 ·refine w_condf rfl (bf c2) <| awp_seq <| w_reg <| s_q (.bool (a_1.Kind == 2)) rfl rfl rfl <| s_mov (.bool (a_1.Kind == 2)) rfl <| w_done <| k_seq <| ?_
  rcases oi hf with ⟨c5, hf⟩ | ⟨c5, hf⟩
  ·refine w_condt rfl c5 <| awp_seq <| w_reg <| ?_
   obtain ⟨r_6, er7, hf⟩ := ob hf
   refine s_q (.ptr 0 0 2) rfl trivial rfl <| s_q (.str a_1.T) rfl nle rfl <| s_do (o_callf (v := (.agg [(.int .i64 r_6.Kind), (.int .i64 r_6.N), (.str r_6.T), (.own 2 0 r_6.Keys.length), (.own 3 0 r_6.Items.length)])) (h' := [.row 1 (r_6.Keys.map AV.str), .row 5 (r_6.Items.map encGJson)]) (w_impl_jsText _ _ er7) rfl (.refl _) (by simp only [openV, openVs, List.length_map, encGJson_eq, List.nil_append, List.append_nil, List.cons_append]; rfl)) <| s_do0 (o_storebox (v := (.agg [(.int .i64 r_6.Kind), (.int .i64 r_6.N), (.str r_6.T), (.own 2 0 r_6.Keys.length), (.own 3 0 r_6.Items.length)])) (y' := (.agg [(.int .i64 r_6.Kind), (.int .i64 r_6.N), (.str r_6.T), (.own 2 0 r_6.Keys.length), (.own 3 0 r_6.Items.length)])) rfl rfl rfl trivial ⟨rfl, nle⟩ ⟨⟨rfl, trivial⟩, ⟨⟨rfl, trivial⟩, ⟨⟨rfl, trivial⟩, ⟨⟨rfl, trivial⟩, ⟨⟨rfl, trivial⟩, trivial⟩⟩⟩⟩⟩ rfl) <| ?_
   refine w_done <| k_seq <| w_ret <| ?_; obtain rfl := os hf; exact r_fresh ⟨nle, trivial⟩ rfl (by decide) (leJ (x := r_6) (.agg (.cons (.refl _) (.cons (.refl _) (.cons (.refl _) (.cons (.of_eq (congrArg (AV.lst _) (tk (enc := AV.str) r_6.Keys))) (.cons (.of_eq (congrArg (AV.lst _) (tk (enc := encGJson) r_6.Items))) .nil)))))))
  ·refine w_condf rfl (bf c5) <| awp_seq <| w_reg <| s_q (.bool (a_1.Kind == 3)) rfl rfl rfl <| s_mov (.bool (a_1.Kind == 3)) rfl <| w_done <| k_seq <| ?_
   rcases oi hf with ⟨c8, hf⟩ | ⟨c8, hf⟩
   ·refine w_condt rfl c8 <| awp_seq <| w_reg <| ?_
    obtain ⟨r_9, er10, hf⟩ := ob hf
    refine s_q (.ptr 0 0 1) rfl trivial rfl <| s_q (.int .i64 a_1.N) rfl nle rfl <| s_q (.bool (a_1.N == 1)) rfl rfl rfl <| s_do (o_callf (v := (.agg [(.int .i64 r_9.Kind), (.int .i64 r_9.N), (.str r_9.T), (.own 2 0 r_9.Keys.length), (.own 3 0 r_9.Items.length)])) (h' := [.row 1 (r_9.Keys.map AV.str), .row 5 (r_9.Items.map encGJson)]) (w_impl_jsBool _ _ er10) rfl (.refl _) (by simp only [openV, openVs, List.length_map, encGJson_eq, List.nil_append, List.append_nil, List.cons_append]; rfl)) <| s_do0 (o_storebox (v := (.agg [(.int .i64 r_9.Kind), (.int .i64 r_9.N), (.str r_9.T), (.own 2 0 r_9.Keys.length), (.own 3 0 r_9.Items.length)])) (y' := (.agg [(.int .i64 r_9.Kind), (.int .i64 r_9.N), (.str r_9.T), (.own 2 0 r_9.Keys.length), (.own 3 0 r_9.Items.length)])) rfl rfl rfl trivial ⟨rfl, nle⟩ ⟨⟨rfl, trivial⟩, ⟨⟨rfl, trivial⟩, ⟨⟨rfl, trivial⟩, ⟨⟨rfl, trivial⟩, ⟨⟨rfl, trivial⟩, trivial⟩⟩⟩⟩⟩ rfl) <| ?_
    refine w_done <| k_seq <| w_ret <| ?_; obtain rfl := os hf; exact r_fresh ⟨nle, trivial⟩ rfl (by decide) (leJ (x := r_9) (.agg (.cons (.refl _) (.cons (.refl _) (.cons (.refl _) (.cons (.of_eq (congrArg (AV.lst _) (tk (enc := AV.str) r_9.Keys))) (.cons (.of_eq (congrArg (AV.lst _) (tk (enc := encGJson) r_9.Items))) .nil)))))))
   ·refine w_condf rfl (bf c8) <| w_skip <| k_blk <| k_seq <| awp_seq <| w_reg <| ?_
    obtain ⟨r_11, er12, hf⟩ := ob hf
    obtain ⟨r_13, er14, hf⟩ := ob hf
    obtain ⟨r_15, er16, hf⟩ := ob hf
    refine s_q (.ptr 0 0 1) rfl trivial rfl <| s_q (.int .i64 a_1.N) rfl nle rfl <| s_dol (o_callf (v := (.agg [(.int .i64 r_11.Kind), (.int .i64 r_11.N), (.str r_11.T), (.own 2 0 r_11.Keys.length), (.own 3 0 r_11.Items.length)])) (h' := [.row 1 (r_11.Keys.map AV.str), .row 5 (r_11.Items.map encGJson)]) (w_impl_jsText _ _ er12) rfl (.refl _) (by simp only [openV, openVs, List.length_map, encGJson_eq, List.nil_append, List.append_nil, List.cons_append]; rfl)) (.inr ⟨⟨nle, rfl⟩, ⟨⟨trivial, rfl⟩, trivial⟩⟩) trivial <| s_dol (o_callf (v := (.agg [(.int .i64 r_13.Kind), (.int .i64 r_13.N), (.str r_13.T), (.own 4 0 r_13.Keys.length), (.own 5 0 r_13.Items.length)])) (h' := [.row 1 (r_13.Keys.map AV.str), .row 5 (r_13.Items.map encGJson)]) (w_impl_jsNumber _ _ er14) rfl (.refl _) (by simp only [openV, openVs, List.length_map, encGJson_eq, List.nil_append, List.append_nil, List.cons_append]; rfl)) trivial trivial <| ?_
    refine s_dol (o_bslice (j := 6) (as' := [(encGJson r_11), (encGJson r_13)]) rfl (fun _ => by decide) ⟨rfl, ⟨rfl, trivial⟩⟩ (.cons (leJ (x := r_11) (.agg (.cons (.refl _) (.cons (.refl _) (.cons (.refl _) (.cons (.of_eq (congrArg (AV.lst _) (tk (enc := AV.str) r_11.Keys))) (.cons (.of_eq (congrArg (AV.lst _) (tk (enc := encGJson) r_11.Items))) .nil))))))) (.cons (leJ (x := r_13) (.agg (.cons (.refl _) (.cons (.refl _) (.cons (.refl _) (.cons (.of_eq (congrArg (AV.lst _) (tk (enc := AV.str) r_13.Keys))) (.cons (.of_eq (congrArg (AV.lst _) (tk (enc := encGJson) r_13.Items))) .nil))))))) .nil)) rfl rfl rfl) trivial trivial ?_; refine s_dol (o_callh (v := (.agg [(.int .i64 r_15.Kind), (.int .i64 r_15.N), (.str r_15.T), (.own 7 0 r_15.Keys.length), (.own 8 0 r_15.Items.length)])) (h2 := [.box 3 (.agg [(.int .i64 a_1.Kind), (.int .i64 a_1.N), (.str a_1.T)]), .box 5 (.agg [(.int .i64 0), (.int .i64 0), (.str []), .nil, .nil]), .dead, .dead, .dead, .dead, .dead, .row 1 (r_15.Keys.map AV.str), .row 5 (r_15.Items.map encGJson)]) [] [6] (fun _ => rfl) (w_impl_jsList_h0 _ _ er16) rfl (.cons (.of_eq (congrArg (AV.own _ 0) (by simp))) .nil) (.refl _) rfl rfl) trivial trivial ?_
    refine s_dol0 (o_storebox (v := (.agg [(.int .i64 r_15.Kind), (.int .i64 r_15.N), (.str r_15.T), (.own 7 0 r_15.Keys.length), (.own 8 0 r_15.Items.length)])) (y' := (.agg [(.int .i64 r_15.Kind), (.int .i64 r_15.N), (.str r_15.T), (.own 7 0 r_15.Keys.length), (.own 8 0 r_15.Items.length)])) rfl rfl rfl trivial ⟨rfl, nle⟩ ⟨⟨rfl, trivial⟩, ⟨⟨rfl, trivial⟩, ⟨⟨rfl, trivial⟩, ⟨⟨rfl, trivial⟩, ⟨⟨rfl, trivial⟩, trivial⟩⟩⟩⟩⟩ rfl) trivial trivial <| w_done <| k_seq <| w_ret <| ?_; obtain rfl := os hf; exact r_fresh ⟨nle, trivial⟩ rfl (by decide) (leJ (x := r_15) (.agg (.cons (.refl _) (.cons (.refl _) (.cons (.refl _) (.cons (.of_eq (congrArg (AV.lst _) (tk (enc := AV.str) r_15.Keys))) (.cons (.of_eq (congrArg (AV.lst _) (tk (enc := encGJson) r_15.Items))) .nil)))))))

/- impl.jsList -/
def c179_h2 : ACode :=
 (.seq (.reg (tq 2 (.box 5 (.c (.agg [(.int .i64 0), (.int .i64 0), (.str []), .nil, .nil]))) .done))
 (.seq (.reg (tm 3 (.t 0) (tq 4 (.build [(.int .i64 0), (.int .i64 0), (.str []), .nil, .nil] [(0, 1, (.c (.int .i64 4))), (4, 1, (.t 3))]) (.q ⟨none, none, .store 5 (.t 2) (.t 4)⟩
 .done))))
 .ret))
theorem fc179_h2 : fcomp Try.prog Try.f179 = some (c179_h2.erase, [.load 5 true (.t 2)], 5) := by kernel_rfl
def impl_jsList_h2 (list_1 : (List GJson)) : Option GJson :=
    some (⟨4, 0, [], [], list_1⟩ : GJson)
theorem w_impl_jsList_h2 (list_1 : (List GJson)) (r : GJson) (hf : impl_jsList_h2 list_1 = some r) : CallHeap Try.prog ⟨true, true⟩ 179 [(.own 0 0 list_1.length)] [.row 5 (list_1.map encGJson)] (.agg [(.int .i64 r.Kind), (.int .i64 r.N), (.str r.T), (.own 1 0 r.Keys.length), (.own 2 0 r.Items.length)]) [.dead, .row 1 (r.Keys.map AV.str), .row 5 (r.Items.map encGJson)] := by
 refine CallHeap.of_awp mixed Try.func179 fc179_h2 nle ?_; rw [argT_eq]; unfold impl_jsList_h2 at hf; unfold c179_h2; refine (show awp Try.prog ⟨true, true⟩ 1 _ (ofL [(0, (.own 0 0 list_1.length))]) [.row 5 (list_1.map encGJson)] _ from ?_); refine awp_seq <| w_reg <| s_do (o_box (j := 1) (c := (.agg [(.int .i64 0), (.int .i64 0), (.str []), .nil, .nil])) rfl trivial rfl rfl) <| w_done <| k_seq <| awp_seq <| w_reg <| s_mov (.own 0 0 list_1.length) rfl <| s_q (.agg [(.int .i64 4), (.int .i64 0), (.str []), .nil, (.own 0 0 list_1.length)]) rfl (.of ⟨⟨rfl, nle, trivial⟩, ⟨⟨rfl, nle, trivial⟩, trivial⟩⟩ trivial) rfl <| s_do0 (o_storebox (v := (.agg [(.int .i64 4), (.int .i64 0), (.str []), .nil, (.own 0 0 list_1.length)])) (y' := (.agg [(.int .i64 4), (.int .i64 0), (.str []), .nil, (.own 0 0 list_1.length)])) rfl rfl rfl trivial ⟨rfl, nle⟩ ⟨⟨rfl, trivial⟩, ⟨⟨rfl, trivial⟩, ⟨⟨rfl, trivial⟩, ⟨⟨rfl, trivial⟩, ⟨⟨rfl, trivial⟩, trivial⟩⟩⟩⟩⟩ rfl) <| ?_
 refine w_done <| k_seq <| w_ret <| ?_; obtain rfl := os hf; exact r_heap [.nilC 1 3 1, .mv 0] [0, 2, 3] rfl ⟨.of nle trivial, trivial⟩ rfl (.refl _) (.refl _)

/- impl.datumJson -/
def c86 : ACode :=
 (.seq (.reg (tq 2 (.box 5 (.c (.agg [(.int .i64 0), (.int .i64 0), (.str []), .nil, .nil]))) .done))
 (.seq (.reg (tq 6 (.bslice 5 []) (tm 3 (.t 6) .done)))
 (.seq (.seq (.reg (tm 7 (.t 0) (tq 8 (.len (.t 7)) (tm 9 (.c (.int .i64 0)) .done))))
 (.block 0 (.loop (.seq (.reg (tq 10 (.bin .lss (.t 9) (.t 8)) .done))
 (.seq (.cond (.t 10) .skip
 (.exit 0))
 (.seq (.block 1 (.seq (.reg (tq 11 (.iaddr 3 (.t 7) (.t 9)) (tq 12 (.load 3 true (.t 11)) (tq 5 (.box 3 (.c (.agg [(.int .i64 0), (.int .i64 0), (.str [])]))) (.q ⟨none, none, .store 3 (.t 5) (.t 12)⟩
 .done)))))
 (.reg (tm 13 (.t 3) (tq 14 (.load 3 true (.t 5)) (tq 15 (.call 178 [(.t 14)]) (tq 16 (.bslice 5 [(.t 15)]) (tq 17 (.append 5 80 (.t 13) (.t 16)) (tm 3 (.t 17) .done)))))))))
 (.reg (tq 18 (.bin .add (.t 9) (.c (.int .i64 1))) (tm 9 (.t 18) .done)))))))))
 (.cut (.seq (.seq (.reg (tm 19 (.t 3) (tq 20 (.len (.t 19)) (tq 21 (.bin .eql (.t 20) (.c (.int .i64 1))) .done))))
 (.cond (.t 21) (.seq (.rev (.reg (tm 22 (.t 3) (tq 23 (.iaddr 5 (.t 22) (.c (.int .i64 0))) (tq 24 (.load 5 true (.t 23)) (.q ⟨none, none, .store 5 (.t 2) (.t 24)⟩
 .done))))))
 .ret)
 .skip))
 (.seq (.reg (tq 25 (.call 180 [(.c (.str [115, 101, 116]))]) (tm 26 (.t 3) (tq 27 (.call 179 [(.t 26)]) (tq 28 (.bslice 5 [(.t 25), (.t 27)]) (tq 29 (.call 179 [(.t 28)]) (.q ⟨none, none, .store 5 (.t 2) (.t 29)⟩
 .done)))))))
 .ret))))))
theorem fc86 : fcomp Try.prog Try.f86 = some (c86.erase, [.load 5 true (.t 2)], 30) := by kernel_rfl
def impl_datumJson_L1  : List GAtom → (List GJson) → Option (List GJson)
  | [], items_18 =>
    some items_18
  | x_33 :: xs, items_18 =>
    (impl_atomJson x_33).bind fun r_34 =>
    if (items_18 ++ [r_34]).length ≤ 2 ^ 30 then
    impl_datumJson_L1 xs  (items_18 ++ [r_34])
    else none

def impl_datumJson (d_1 : (List GAtom)) : Option GJson :=
    (impl_datumJson_L1 d_1 []).bind fun items_25 =>
    if ((items_25.length : Int) == 1) then
    ((items_25[0]?)).bind fun x_40 =>
    if 0 < items_25.length then
    some x_40
    else none
    else
    (impl_jsText [115, 101, 116]).bind fun r_43 =>
    (impl_jsList_h2 items_25).bind fun r_45 =>
    (impl_jsList_h2 [r_43, r_45]).bind fun r_47 =>
    some r_47
theorem w_impl_datumJson (d_1 : (List GAtom)) (r : GJson) (hf : impl_datumJson d_1 = some r) : CallOK Try.prog 86 .fresh [(.lst 3 (d_1.map encGAtom))] (encGJson r) := by
 refine CallOK.of_awp' (md := ⟨true, true⟩) (fun _ => rfl) (fun _ => rfl) (fun h => by cases h) mixed Try.func86 fc86 nle ?_; rw [argT_eq]; unfold impl_datumJson at hf; unfold c86; refine (show awp Try.prog ⟨true, true⟩ 0 _ (ofL [(0, (.lst 3 (d_1.map encGAtom)))]) [] _ from ?_); refine awp_seq <| w_reg <| s_do (o_box (j := 0) (c := (.agg [(.int .i64 0), (.int .i64 0), (.str []), .nil, .nil])) rfl trivial rfl rfl) <| w_done <| k_seq <| awp_seq <| w_reg <| ?_; refine s_do (o_bslice (j := 1) (as' := []) rfl (fun _ => by decide) trivial (.refl _) rfl rfl rfl) ?_; refine s_mov (.own 1 0 0) rfl <| w_done <| k_seq <| awp_seq <| awp_seq <| w_reg <| s_mov (.lst 3 (d_1.map encGAtom)) rfl <| s_dof (o_len (enc := encGAtom) rfl) fun hl2 => ?_
 refine s_mov (.int .i64 0) rfl <| w_done <| k_seq <| ?_
 obtain ⟨items_25, hb1, hf⟩ := ob hf
 refine awp_cut ([(2, (.ptr 0 0 0)), (3, (.own 1 0 items_25.length))], [.box 5 (.agg [(.int .i64 0), (.int .i64 0), (.str []), .nil, .nil]), .row 5 (items_25.map encGJson)]) ?_ ?_
 ·refine awp_loop (X := {q : (Nat × (List GJson)) // impl_datumJson_L1 (d_1.drop q.1) q.2 = some items_25}) (fun q => ([(2, (.ptr 0 0 0)), (3, (.own 1 0 q.1.2.length)), (7, (.lst 3 (d_1.map encGAtom))), (8, (.int .i64 (d_1.length : Int))), (9, (.int .i64 (q.1.1 : Int)))], [.box 5 (.agg [(.int .i64 0), (.int .i64 0), (.str []), .nil, .nil]), .row 5 (q.1.2.map encGJson)])) (fun q => d_1.length - q.1.1) ⟨(0, []), hb1⟩ ⟨[], [0, 1], _, _, rfl, rfl, ⟨.refl _, ⟨.of_eq (congrArg (AV.own _ 0) (by simp)), ⟨.refl _, ⟨.refl _, ⟨.refl _, trivial⟩⟩⟩⟩⟩, (.refl _)⟩ ?_
  rintro ⟨⟨s9_17, items_18⟩, hc1⟩
  have hc1 : impl_datumJson_L1 (d_1.drop s9_17) items_18 = some items_25 := hc1
  refine (show awp Try.prog ⟨true, true⟩ 0 _ (ofL [(2, (.ptr 0 0 0)), (3, (.own 1 0 items_18.length)), (7, (.lst 3 (d_1.map encGAtom))), (8, (.int .i64 (d_1.length : Int))), (9, (.int .i64 (s9_17 : Int)))]) [.box 5 (.agg [(.int .i64 0), (.int .i64 0), (.str []), .nil, .nil]), .row 5 (items_18.map encGJson)] _ from ?_)
  rcases dropc d_1 s9_17 with ⟨hie29, hd32⟩ | ⟨hlt27, x_33, hx28, hd32⟩
  ·rw [hd32, impl_datumJson_L1.eq_1] at hc1
   have hq31 := dlf hie29
   refine awp_seq <| w_reg <| s_q (.bool (decide ((s9_17 : Int) < (d_1.length : Int)))) rfl (.of rfl trivial) rfl <| w_done <| k_seq <| awp_seq <| w_condf rfl hq31 <| w_exit <| k_seqx <| k_loopx <| k_blkx <| ?_; obtain rfl := os hc1; exact ⟨[], [0, 1], _, _, rfl, rfl, ⟨.refl _, ⟨.refl _, trivial⟩⟩, (.refl _)⟩
  ·rw [hd32, impl_datumJson_L1.eq_2] at hc1
   have hq31 := dlt hlt27
   refine awp_seq <| w_reg <| s_q (.bool (decide ((s9_17 : Int) < (d_1.length : Int)))) rfl (.of rfl trivial) rfl <| w_done <| k_seq <| awp_seq <| w_condt rfl hq31 <| w_skip <| k_seq <| awp_seq <| w_blk <| awp_seq <| w_reg <| s_do (o_iaddrn (enc := encGAtom) rfl rfl hx28) <| s_q (encGAtom x_33) rfl (.of nle trivial) rfl <| s_do (o_box (j := 2) (c := (.agg [(.int .i64 0), (.int .i64 0), (.str [])])) rfl trivial rfl rfl) <| s_do0 (o_storebox (v := (.agg [(.int .i64 x_33.Kind), (.int .i64 x_33.N), (.str x_33.T)])) (y' := (.agg [(.int .i64 x_33.Kind), (.int .i64 x_33.N), (.str x_33.T)])) rfl rfl rfl trivial ⟨rfl, nle⟩ ⟨⟨rfl, trivial⟩, ⟨⟨rfl, trivial⟩, ⟨⟨rfl, trivial⟩, trivial⟩⟩⟩ rfl) <| w_done <| k_seq <| w_reg <| ?_
   obtain ⟨r_34, er35, hc1⟩ := ob hc1
   obtain ⟨g36, hc1⟩ := og hc1
   refine s_mov (.own 1 0 items_18.length) rfl <| s_q (.agg [(.int .i64 x_33.Kind), (.int .i64 x_33.N), (.str x_33.T)]) rfl (.of nle trivial) rfl <| s_do (o_callf (v := (.agg [(.int .i64 r_34.Kind), (.int .i64 r_34.N), (.str r_34.T), (.own 3 0 r_34.Keys.length), (.own 4 0 r_34.Items.length)])) (h' := [.row 1 (r_34.Keys.map AV.str), .row 5 (r_34.Items.map encGJson)]) (w_impl_atomJson _ _ er35) rfl (.refl _) (by simp only [openV, openVs, List.length_map, encGJson_eq, List.nil_append, List.append_nil, List.cons_append]; rfl)) <| ?_; refine s_do (o_bslice (j := 5) (as' := [(encGJson r_34)]) rfl (fun _ => by decide) ⟨rfl, trivial⟩ (.cons (leJ (x := r_34) (.agg (.cons (.refl _) (.cons (.refl _) (.cons (.refl _) (.cons (.of_eq (congrArg (AV.lst _) (tk (enc := AV.str) r_34.Keys))) (.cons (.of_eq (congrArg (AV.lst _) (tk (enc := encGJson) r_34.Items))) .nil))))))) .nil) rfl rfl rfl) ?_
   refine s_do (o_appendd (j := 6) (L := ((items_18 ++ [r_34]).map encGJson)) (len := (items_18 ++ [r_34]).length) rfl true rfl rfl (fun h => Bool.noConfusion h) (fun _ _ h => (ownl (show AV.own _ _ _ = AV.lst _ _ from h)).elim) (by decide) (apoc (enc := encGJson) items_18 [r_34] _ (by rfl)) (by simp <;> omega) g36 rfl rfl) ?_
   refine s_mov (.own 6 0 ((items_18 ++ [r_34]).length)) rfl <| w_done <| k_blk <| k_seq <| w_reg <| s_q (.int .i64 (w64 ((s9_17 : Int) + 1))) rfl (.of rfl trivial) rfl <| s_mov (.int .i64 (w64 ((s9_17 : Int) + 1))) rfl <| w_done <| ?_; exact k_loopn ⟨((s9_17 + 1), items_18 ++ [r_34]), hc1⟩ (mul hlt27) ⟨[], [0, 6], _, _, rfl, rfl, ⟨.refl _, ⟨.refl _, ⟨.refl _, ⟨.refl _, ⟨.of_eq (congrArg (AV.int _) (w64_incr hlt27 hl2)), trivial⟩⟩⟩⟩⟩, (.refl _)⟩
 ·refine awp_seq <| awp_seq <| w_reg <| s_mov (.own 1 0 items_25.length) rfl <| s_dof (o_lenown rfl rfl) fun hl37 => s_q (.bool ((items_25.length : Int) == 1)) rfl (.of rfl trivial) rfl <| w_done <| k_seq <| ?_
  rcases oi hf with ⟨c38, hf⟩ | ⟨c38, hf⟩
  ·refine w_condt rfl c38 <| awp_seq <| ?_
   obtain ⟨x_40, ex41, hf⟩ := ob hf
   refine w_opn (o := 1) (i := 0) (el := (.agg [(.int .i64 x_40.Kind), (.int .i64 x_40.N), (.str x_40.T), (.lst 1 (x_40.Keys.map AV.str)), (.lst 5 (x_40.Items.map encGJson))])) (el2 := (.agg [(.int .i64 x_40.Kind), (.int .i64 x_40.N), (.str x_40.T), (.own 2 0 x_40.Keys.length), (.own 3 0 x_40.Items.length)])) (xs := [.row 1 (x_40.Keys.map AV.str), .row 5 (x_40.Items.map encGJson)]) rfl rfl rfl ex41 (encGJson_eq _) (by simp only [AV.cells, openVs, openV, List.length_map, List.nil_append, List.append_nil, List.cons_append]; rfl) <| w_reg <| ?_
   obtain ⟨g42, hf⟩ := og hf
   refine s_mov (.own 1 0 items_25.length) rfl <| s_do (o_iaddrxn rfl rfl g42 rfl rfl) <| s_do (o_loadx rfl rfl nle rfl) <| s_do0 (o_storebox (v := (.agg [(.int .i64 x_40.Kind), (.int .i64 x_40.N), (.str x_40.T), (.own 2 0 x_40.Keys.length), (.own 3 0 x_40.Items.length)])) (y' := (.agg [(.int .i64 x_40.Kind), (.int .i64 x_40.N), (.str x_40.T), (.own 2 0 x_40.Keys.length), (.own 3 0 x_40.Items.length)])) rfl rfl rfl trivial ⟨rfl, nle⟩ ⟨⟨rfl, trivial⟩, ⟨⟨rfl, trivial⟩, ⟨⟨rfl, trivial⟩, ⟨⟨rfl, trivial⟩, ⟨⟨rfl, trivial⟩, trivial⟩⟩⟩⟩⟩ rfl) <| w_done <| k_seq <| w_ret <| ?_; obtain rfl := os hf; exact r_fresh ⟨.of nle trivial, trivial⟩ rfl (by decide) (leJ (x := x_40) (.agg (.cons (.refl _) (.cons (.refl _) (.cons (.refl _) (.cons (.of_eq (congrArg (AV.lst _) (tk (enc := AV.str) x_40.Keys))) (.cons (.of_eq (congrArg (AV.lst _) (tk (enc := encGJson) x_40.Items))) .nil)))))))
  ·refine w_condf rfl (bf c38) <| w_skip <| k_seq <| awp_seq <| w_reg <| ?_
   obtain ⟨r_43, er44, hf⟩ := ob hf
   obtain ⟨r_45, er46, hf⟩ := ob hf
   obtain ⟨r_47, er48, hf⟩ := ob hf
   refine s_do (o_callf (v := (.agg [(.int .i64 r_43.Kind), (.int .i64 r_43.N), (.str r_43.T), (.own 2 0 r_43.Keys.length), (.own 3 0 r_43.Items.length)])) (h' := [.row 1 (r_43.Keys.map AV.str), .row 5 (r_43.Items.map encGJson)]) (w_impl_jsText _ _ er44) rfl (.refl _) (by simp only [openV, openVs, List.length_map, encGJson_eq, List.nil_append, List.append_nil, List.cons_append]; rfl)) <| s_mov (.own 1 0 items_25.length) rfl <| ?_; refine s_do (o_callh (v := (.agg [(.int .i64 r_45.Kind), (.int .i64 r_45.N), (.str r_45.T), (.own 4 0 r_45.Keys.length), (.own 5 0 r_45.Items.length)])) (h2 := [.box 5 (.agg [(.int .i64 0), (.int .i64 0), (.str []), .nil, .nil]), .dead, .row 1 (r_43.Keys.map AV.str), .row 5 (r_43.Items.map encGJson), .row 1 (r_45.Keys.map AV.str), .row 5 (r_45.Items.map encGJson)]) [] [1] (fun _ => rfl) (w_impl_jsList_h2 _ _ er46) rfl (.refl _) (.refl _) rfl rfl) ?_
   refine s_do (o_bslice (j := 6) (as' := [(encGJson r_43), (encGJson r_45)]) rfl (fun _ => by decide) ⟨rfl, ⟨rfl, trivial⟩⟩ (.cons (leJ (x := r_43) (.agg (.cons (.refl _) (.cons (.refl _) (.cons (.refl _) (.cons (.of_eq (congrArg (AV.lst _) (tk (enc := AV.str) r_43.Keys))) (.cons (.of_eq (congrArg (AV.lst _) (tk (enc := encGJson) r_43.Items))) .nil))))))) (.cons (leJ (x := r_45) (.agg (.cons (.refl _) (.cons (.refl _) (.cons (.refl _) (.cons (.of_eq (congrArg (AV.lst _) (tk (enc := AV.str) r_45.Keys))) (.cons (.of_eq (congrArg (AV.lst _) (tk (enc := encGJson) r_45.Items))) .nil))))))) .nil)) rfl rfl rfl) ?_; refine s_do (o_callh (v := (.agg [(.int .i64 r_47.Kind), (.int .i64 r_47.N), (.str r_47.T), (.own 7 0 r_47.Keys.length), (.own 8 0 r_47.Items.length)])) (h2 := [.box 5 (.agg [(.int .i64 0), (.int .i64 0), (.str []), .nil, .nil]), .dead, .dead, .dead, .dead, .dead, .dead, .row 1 (r_47.Keys.map AV.str), .row 5 (r_47.Items.map encGJson)]) [] [6] (fun _ => rfl) (w_impl_jsList_h2 _ _ er48) rfl (.cons (.of_eq (congrArg (AV.own _ 0) (by simp))) .nil) (.refl _) rfl rfl) ?_
   refine s_do0 (o_storebox (v := (.agg [(.int .i64 r_47.Kind), (.int .i64 r_47.N), (.str r_47.T), (.own 7 0 r_47.Keys.length), (.own 8 0 r_47.Items.length)])) (y' := (.agg [(.int .i64 r_47.Kind), (.int .i64 r_47.N), (.str r_47.T), (.own 7 0 r_47.Keys.length), (.own 8 0 r_47.Items.length)])) rfl rfl rfl trivial ⟨rfl, nle⟩ ⟨⟨rfl, trivial⟩, ⟨⟨rfl, trivial⟩, ⟨⟨rfl, trivial⟩, ⟨⟨rfl, trivial⟩, ⟨⟨rfl, trivial⟩, trivial⟩⟩⟩⟩⟩ rfl) <| w_done <| k_seq <| w_ret <| ?_; obtain rfl := os hf; exact r_fresh ⟨.of nle trivial, trivial⟩ rfl (by decide) (leJ (x := r_47) (.agg (.cons (.refl _) (.cons (.refl _) (.cons (.refl _) (.cons (.of_eq (congrArg (AV.lst _) (tk (enc := AV.str) r_47.Keys))) (.cons (.of_eq (congrArg (AV.lst _) (tk (enc := encGJson) r_47.Items))) .nil)))))))

/- impl.DatumJson -/
def c18 : ACode :=
 (.seq (.reg (tq 2 (.box 5 (.c (.agg [(.int .i64 0), (.int .i64 0), (.str []), .nil, .nil]))) (tm 3 (.c (.int .i64 0)) .done)))
 (.seq (.block 0 (.seq (.reg (tm 5 (.t 0) (tq 6 (.call 84 [(.t 5)]) (tq 7 (.not (.t 6)) (tm 4 (.t 7) .done)))))
 (.cond (.t 4) (.seq (.reg (tq 8 (.build [(.int .i64 0), (.int .i64 0), (.str []), .nil, .nil] []) (.q ⟨none, none, .store 5 (.t 2) (.t 8)⟩
 (tm 3 (.c (.int .i64 2)) .done))))
 .ret)
 (.seq (.reg (tm 10 (.t 0) (tq 11 (.call 85 [(.t 10)]) (tq 12 (.not (.t 11)) (tm 9 (.t 12) .done)))))
 (.cond (.t 9) (.seq (.reg (tq 13 (.build [(.int .i64 0), (.int .i64 0), (.str []), .nil, .nil] []) (.q ⟨none, none, .store 5 (.t 2) (.t 13)⟩
 (tm 3 (.c (.int .i64 1)) .done))))
 .ret)
 .skip)))))
 (.seq (.reg (tm 14 (.t 0) (tq 15 (.call 86 [(.t 14)]) (.q ⟨none, none, .store 5 (.t 2) (.t 15)⟩
 (tm 3 (.c (.int .i64 0)) .done)))))
 .ret)))
theorem fc18 : fcomp Try.prog Try.f18 = some (c18.erase, [.load 5 true (.t 2), .mov (.t 3)], 16) := by kernel_rfl
def impl_DatumJson (d_1 : (List GAtom)) : Option (GJson × Int) :=
    (impl_isList_impl_Atom d_1).bind fun r_2 =>
    if (!r_2) then
    some ((⟨0, 0, [], [], []⟩ : GJson), 2)
    else
    (impl_DatumOK d_1).bind fun r_5 =>
    if (!r_5) then
    some ((⟨0, 0, [], [], []⟩ : GJson), 1)
    else
    (impl_datumJson d_1).bind fun r_8 =>
    some (r_8, 0)
theorem w_impl_DatumJson (d_1 : (List GAtom)) (r : (GJson × Int)) (hf : impl_DatumJson d_1 = some r) : CallOK Try.prog 18 .fresh [(.lst 3 (d_1.map encGAtom))] (.tup [(encGJson r.1), (.int .i64 r.2)]) := by
 refine CallOK.of_awp mixed Try.func18 fc18 nle ?_; rw [argT_eq]; unfold impl_DatumJson at hf; unfold c18; refine (show awp Try.prog true 0 _ (ofL [(0, (.lst 3 (d_1.map encGAtom)))]) [] _ from ?_); refine awp_seq <| w_reg <| s_do (o_box (j := 0) (c := (.agg [(.int .i64 0), (.int .i64 0), (.str []), .nil, .nil])) rfl trivial rfl rfl) <| s_mov (.int .i64 0) rfl <| w_done <| k_seq <| awp_seq <| w_blk <| awp_seq <| w_reg <| ?_
 obtain ⟨r_2, er3, hf⟩ := ob hf
 refine s_mov (.lst 3 (d_1.map encGAtom)) rfl <| s_do (o_call (w_impl_isList_impl_Atom _ _ er3) rfl (.refl _) rfl) <| s_q (.bool (!r_2)) rfl trivial rfl <| s_mov (.bool (!r_2)) rfl <| w_done <| k_seq <| ?_
 rcases oi hf with ⟨c4, hf⟩ | ⟨c4, hf⟩
 ·refine w_condt rfl c4 <| awp_seq <| w_reg <| s_q (.agg [(.int .i64 0), (.int .i64 0), (.str []), .nil, .nil]) rfl trivial rfl <| s_do0 (o_storebox (v := (.agg [(.int .i64 0), (.int .i64 0), (.str []), .nil, .nil])) (y' := (.agg [(.int .i64 0), (.int .i64 0), (.str []), .nil, .nil])) rfl rfl rfl trivial ⟨rfl, nle⟩ ⟨⟨rfl, trivial⟩, ⟨⟨rfl, trivial⟩, ⟨⟨rfl, trivial⟩, ⟨⟨rfl, trivial⟩, ⟨⟨rfl, trivial⟩, trivial⟩⟩⟩⟩⟩ rfl) <| s_mov (.int .i64 2) rfl <| w_done <| k_seq <| w_ret <| ?_; obtain rfl := os hf; exact r_fresh ⟨nle, ⟨trivial, trivial⟩⟩ rfl (by decide) (.tup (.cons (leJ (x := (⟨0, 0, [], [], []⟩ : GJson)) (.agg (.cons (.refl _) (.cons (.refl _) (.cons (.refl _) (.cons (.nil _) (.cons (.nil _) .nil))))))) (.cons (.refl _) .nil)))
 ·refine w_condf rfl (bf c4) <| awp_seq <| w_reg <| ?_
  obtain ⟨r_5, er6, hf⟩ := ob hf
  refine s_mov (.lst 3 (d_1.map encGAtom)) rfl <| s_do (o_call (w_impl_DatumOK _ _ er6) rfl (.refl _) rfl) <| s_q (.bool (!r_5)) rfl trivial rfl <| s_mov (.bool (!r_5)) rfl <| w_done <| k_seq <| ?_
  rcases oi hf with ⟨c7, hf⟩ | ⟨c7, hf⟩
  ·refine w_condt rfl c7 <| awp_seq <| w_reg <| s_q (.agg [(.int .i64 0), (.int .i64 0), (.str []), .nil, .nil]) rfl trivial rfl <| s_do0 (o_storebox (v := (.agg [(.int .i64 0), (.int .i64 0), (.str []), .nil, .nil])) (y' := (.agg [(.int .i64 0), (.int .i64 0), (.str []), .nil, .nil])) rfl rfl rfl trivial ⟨rfl, nle⟩ ⟨⟨rfl, trivial⟩, ⟨⟨rfl, trivial⟩, ⟨⟨rfl, trivial⟩, ⟨⟨rfl, trivial⟩, ⟨⟨rfl, trivial⟩, trivial⟩⟩⟩⟩⟩ rfl) <| s_mov (.int .i64 1) rfl <| w_done <| k_seq <| w_ret <| ?_; obtain rfl := os hf; exact r_fresh ⟨nle, ⟨trivial, trivial⟩⟩ rfl (by decide) (.tup (.cons (leJ (x := (⟨0, 0, [], [], []⟩ : GJson)) (.agg (.cons (.refl _) (.cons (.refl _) (.cons (.refl _) (.cons (.nil _) (.cons (.nil _) .nil))))))) (.cons (.refl _) .nil)))
  ·refine w_condf rfl (bf c7) <| w_skip <| k_blk <| k_seq <| awp_seq <| w_reg <| ?_
   obtain ⟨r_8, er9, hf⟩ := ob hf
   refine s_mov (.lst 3 (d_1.map encGAtom)) rfl <| s_do (o_callf (v := (.agg [(.int .i64 r_8.Kind), (.int .i64 r_8.N), (.str r_8.T), (.own 1 0 r_8.Keys.length), (.own 2 0 r_8.Items.length)])) (h' := [.row 1 (r_8.Keys.map AV.str), .row 5 (r_8.Items.map encGJson)]) (w_impl_datumJson _ _ er9) rfl (.refl _) (by simp only [openV, openVs, List.length_map, encGJson_eq, List.nil_append, List.append_nil, List.cons_append]; rfl)) <| s_do0 (o_storebox (v := (.agg [(.int .i64 r_8.Kind), (.int .i64 r_8.N), (.str r_8.T), (.own 1 0 r_8.Keys.length), (.own 2 0 r_8.Items.length)])) (y' := (.agg [(.int .i64 r_8.Kind), (.int .i64 r_8.N), (.str r_8.T), (.own 1 0 r_8.Keys.length), (.own 2 0 r_8.Items.length)])) rfl rfl rfl trivial ⟨rfl, nle⟩ ⟨⟨rfl, trivial⟩, ⟨⟨rfl, trivial⟩, ⟨⟨rfl, trivial⟩, ⟨⟨rfl, trivial⟩, ⟨⟨rfl, trivial⟩, trivial⟩⟩⟩⟩⟩ rfl) <| ?_
   refine s_mov (.int .i64 0) rfl <| w_done <| k_seq <| w_ret <| ?_; obtain rfl := os hf; exact r_fresh ⟨nle, ⟨trivial, trivial⟩⟩ rfl (by decide) (.tup (.cons (leJ (x := r_8) (.agg (.cons (.refl _) (.cons (.refl _) (.cons (.refl _) (.cons (.of_eq (congrArg (AV.lst _) (tk (enc := AV.str) r_8.Keys))) (.cons (.of_eq (congrArg (AV.lst _) (tk (enc := encGJson) r_8.Items))) .nil))))))) (.cons (.refl _) .nil)))

/- laws.eqStringS -/
def c87 : ACode :=
 (.seq (.reg (tm 4 (.c (.bool false)) .done))
 (.seq (.seq (.reg (tm 6 (.t 0) (tq 7 (.len (.t 6)) (tm 8 (.t 1) (tq 9 (.len (.t 8)) (tq 10 (.bin .neq (.t 7) (.t 9)) .done))))))
 (.cond (.t 10) (.seq (.reg (tm 4 (.c (.bool false)) .done))
 .ret)
 .skip))
 (.seq (.seq (.reg (tm 5 (.c (.int .i64 0)) .done))
 (.block 0 (.loop (.seq (.seq (.reg (tm 11 (.t 5) (tm 12 (.t 0) (tq 13 (.len (.t 12)) (tq 14 (.bin .lss (.t 11) (.t 13)) .done)))))
 (.cond (.t 14) .skip
 (.exit 0)))
 (.seq (.block 1 (.seq (.reg (tm 17 (.t 0) (tm 18 (.t 5) (tq 19 (.iaddr 1 (.t 17) (.t 18)) (tq 20 (.load 1 false (.t 19)) (tm 21 (.t 1) (tm 22 (.t 5) (tq 23 (.iaddr 1 (.t 21) (.t 22)) (tq 24 (.load 1 false (.t 23)) (tq 25 (.bin .neq (.t 20) (.t 24)) .done))))))))))
 (.cond (.t 25) (.seq (.reg (tm 4 (.c (.bool false)) .done))
 .ret)
 .skip)))
 (.reg (tm 15 (.t 5) (tq 16 (.bin .add (.t 15) (.c (.int .i64 1))) (tm 5 (.t 16) .done)))))))))
 (.cut (.seq (.reg (tm 4 (.c (.bool true)) .done))
 .ret)))))
theorem fc87 : fcomp Try.prog Try.f87 = some (c87.erase, [.mov (.t 4)], 26) := by kernel_rfl
def laws_eqStringS_L1 (b_2 : (List Str)) : List Str → Nat → Option (Fl Bool Unit)
  | [], i_21 =>
    some (.go ())
  | x_37 :: xs, i_21 =>
    (idx b_2 (i_21 : Int)).bind fun x_40 =>
    if (!(x_37 == x_40)) then
    some (.ret false)
    else
    laws_eqStringS_L1 b_2 xs (i_21 + 1)

def laws_eqStringS (a_1 : (List Str)) (b_2 : (List Str)) : Option Bool :=
    if ((a_1.length : Int) != (b_2.length : Int)) then
    some false
    else
    (laws_eqStringS_L1 b_2 a_1 0).bind fun q => (match q with
    | .ret r => some r
    | .go _ =>
    some true)
theorem w_laws_eqStringS (a_1 : (List Str)) (b_2 : (List Str)) (r : Bool) (hf : laws_eqStringS a_1 b_2 = some r) : CallOK Try.prog 87 .flat [(.lst 1 (a_1.map AV.str)), (.lst 1 (b_2.map AV.str))] (.bool r) := by
 refine CallOK.of_awp mixed Try.func87 fc87 nle ?_; rw [argT_eq]; unfold laws_eqStringS at hf; unfold c87; refine (show awp Try.prog false 0 _ (ofL [(0, (.lst 1 (a_1.map AV.str))), (1, (.lst 1 (b_2.map AV.str)))]) [] _ from ?_); refine awp_seq <| w_reg <| s_mov (.bool false) rfl <| w_done <| k_seq <| awp_seq <| awp_seq <| w_reg <| s_mov (.lst 1 (a_1.map AV.str)) rfl <| s_dof (o_len (enc := AV.str) rfl) fun hl3 => s_mov (.lst 1 (b_2.map AV.str)) rfl <| s_dof (o_len (enc := AV.str) rfl) fun hl4 => s_q (.bool ((a_1.length : Int) != (b_2.length : Int))) rfl rfl rfl <| w_done <| k_seq <| ?_
 rcases oi hf with ⟨c5, hf⟩ | ⟨c5, hf⟩
 ·refine w_condt rfl c5 <| awp_seq <| w_reg <| s_mov (.bool false) rfl <| w_done <| k_seq <| w_ret <| ?_; obtain rfl := os hf; exact r_flat ⟨trivial, trivial⟩ rfl (.refl _)
 ·refine w_condf rfl (bf c5) <| w_skip <| k_seq <| awp_seq <| awp_seq <| w_reg <| s_mov (.int .i64 0) rfl <| w_done <| k_seq <| ?_
  obtain ⟨p30, hb1, hf⟩ := ob hf
  refine awp_cutx (X := {q : Unit // p30 = .go q}) (fun q => ([], [])) ?_ ?_
  ·refine awp_loop (X := {q : Nat // laws_eqStringS_L1 b_2 (a_1.drop q) q = some p30}) (fun q => ([(0, (.lst 1 (a_1.map AV.str))), (1, (.lst 1 (b_2.map AV.str))), (5, (.int .i64 (q.1 : Int)))], [])) (fun q => a_1.length - q.1) ⟨0, hb1⟩ ⟨[], [], _, _, rfl, rfl, ⟨.refl _, ⟨.refl _, ⟨.refl _, trivial⟩⟩⟩, (.refl _)⟩ ?_
   rintro ⟨i_21, hc1⟩
   have hc1 : laws_eqStringS_L1 b_2 (a_1.drop i_21) i_21 = some p30 := hc1
   refine (show awp Try.prog false 0 _ (ofL [(0, (.lst 1 (a_1.map AV.str))), (1, (.lst 1 (b_2.map AV.str))), (5, (.int .i64 (i_21 : Int)))]) [] _ from ?_)
   rcases dropc a_1 i_21 with ⟨hie33, hd36⟩ | ⟨hlt31, x_37, hx32, hd36⟩
   ·rw [hd36, laws_eqStringS_L1.eq_1] at hc1
    have hq35 := dlf hie33
    refine awp_seq <| awp_seq <| w_reg <| s_mov (.int .i64 (i_21 : Int)) rfl <| s_mov (.lst 1 (a_1.map AV.str)) rfl <| s_dof (o_len (enc := AV.str) rfl) fun hl38 => s_q (.bool (decide ((i_21 : Int) < (a_1.length : Int)))) rfl rfl rfl <| w_done <| k_seq <| w_condf rfl hq35 <| w_exit <| k_seqx <| k_loopx <| k_blkx <| ?_; obtain rfl := os hc1; exact k_cutn ⟨_, rfl⟩ ⟨[], [], _, _, rfl, rfl, trivial, (.refl _)⟩
   ·rw [hd36, laws_eqStringS_L1.eq_2] at hc1
    have hq35 := dlt hlt31
    refine awp_seq <| awp_seq <| w_reg <| s_mov (.int .i64 (i_21 : Int)) rfl <| s_mov (.lst 1 (a_1.map AV.str)) rfl <| s_dof (o_len (enc := AV.str) rfl) fun hl39 => s_q (.bool (decide ((i_21 : Int) < (a_1.length : Int)))) rfl rfl rfl <| w_done <| k_seq <| w_condt rfl hq35 <| w_skip <| k_seq <| awp_seq <| w_blk <| awp_seq <| w_reg <| ?_
    obtain ⟨x_40, ex41, hc1⟩ := ob hc1
    refine s_mov (.lst 1 (a_1.map AV.str)) rfl <| s_mov (.int .i64 (i_21 : Int)) rfl <| s_do (o_iaddrn (enc := AV.str) rfl rfl hx32) <| s_q (.str x_37) rfl ⟨rfl, rfl⟩ rfl <| s_mov (.lst 1 (b_2.map AV.str)) rfl <| s_mov (.int .i64 (i_21 : Int)) rfl <| s_do (o_iaddr (enc := AV.str) rfl rfl (idx0 ex41) (idx1 ex41)) <| s_q (.str x_40) rfl ⟨rfl, rfl⟩ rfl <| s_q (.bool (!(x_37 == x_40))) rfl trivial rfl <| w_done <| k_seq <| ?_
    rcases oi hc1 with ⟨c42, hc1⟩ | ⟨c42, hc1⟩
    ·refine w_condt rfl c42 <| awp_seq <| w_reg <| s_mov (.bool false) rfl <| w_done <| k_seq <| w_ret <| ?_; obtain rfl := os hc1; obtain rfl := os hf; exact r_flat ⟨trivial, trivial⟩ rfl (.refl _)
    ·refine w_condf rfl (bf c42) <| w_skip <| k_blk <| k_seq <| w_reg <| s_mov (.int .i64 (i_21 : Int)) rfl <| s_q (.int .i64 (w64 ((i_21 : Int) + 1))) rfl rfl rfl <| s_mov (.int .i64 (w64 ((i_21 : Int) + 1))) rfl <| w_done <| ?_; exact k_loopn ⟨(i_21 + 1), hc1⟩ (mul hlt31) ⟨[], [], _, _, rfl, rfl, ⟨.refl _, ⟨.refl _, ⟨.of_eq (congrArg (AV.int _) (w64_incr hlt31 hl39)), trivial⟩⟩⟩, (.refl _)⟩
  ·rintro ⟨_, rfl⟩
   refine awp_seq <| w_reg <| s_mov (.bool true) rfl <| w_done <| k_seq <| w_ret <| ?_; obtain rfl := os hf; exact r_flat ⟨trivial, trivial⟩ rfl (.refl _)

/- laws.eqJsonS -/
def c88 : ACode :=
 (.seq (.reg (tm 4 (.c (.bool false)) .done))
 (.seq (.seq (.reg (tm 6 (.t 0) (tq 7 (.len (.t 6)) (tm 8 (.t 1) (tq 9 (.len (.t 8)) (tq 10 (.bin .neq (.t 7) (.t 9)) .done))))))
 (.cond (.t 10) (.seq (.reg (tm 4 (.c (.bool false)) .done))
 .ret)
 .skip))
 (.seq (.seq (.reg (tm 5 (.c (.int .i64 0)) .done))
 (.block 0 (.loop (.seq (.seq (.reg (tm 11 (.t 5) (tm 12 (.t 0) (tq 13 (.len (.t 12)) (tq 14 (.bin .lss (.t 11) (.t 13)) .done)))))
 (.cond (.t 14) .skip
 (.exit 0)))
 (.seq (.block 1 (.seq (.reg (tm 17 (.t 0) (tm 18 (.t 5) (tq 19 (.iaddr 5 (.t 17) (.t 18)) (tq 20 (.load 5 true (.t 19)) (tm 21 (.t 1) (tm 22 (.t 5) (tq 23 (.iaddr 5 (.t 21) (.t 22)) (tq 24 (.load 5 true (.t 23)) (.l ⟨(some 25), none, .call 19 [(.t 20), (.t 24)]⟩ []
 (tq 26 (.not (.t 25)) .done) .non))))))))))
 (.cond (.t 26) (.seq (.reg (tm 4 (.c (.bool false)) .done))
 .ret)
 .skip)))
 (.reg (tm 15 (.t 5) (tq 16 (.bin .add (.t 15) (.c (.int .i64 1))) (tm 5 (.t 16) .done)))))))))
 (.cut (.seq (.reg (tm 4 (.c (.bool true)) .done))
 .ret)))))
theorem fc88 : fcomp Try.prog Try.f88 = some (c88.erase, [.mov (.t 4)], 27) := by kernel_rfl
def laws_eqJsonS_L1 (b_2 : (List GJson)) (rec : (GJson → GJson → Option Bool)) : List GJson → Nat → Option (Fl Bool Unit)
  | [], i_25 =>
    some (.go ())
  | x_43 :: xs, i_25 =>
    (idx b_2 (i_25 : Int)).bind fun x_46 =>
    (rec x_43 x_46).bind fun r_48 =>
    if (!r_48) then
    some (.ret false)
    else
    laws_eqJsonS_L1 b_2 rec xs (i_25 + 1)

def laws_eqJsonS (rec : (GJson → GJson → Option Bool)) (a_1 : (List GJson)) (b_2 : (List GJson)) : Option Bool :=
    if ((a_1.length : Int) != (b_2.length : Int)) then
    some false
    else
    (laws_eqJsonS_L1 b_2 rec a_1 0).bind fun q => (match q with
    | .ret r => some r
    | .go _ =>
    some true)
theorem w_laws_eqJsonS (rec : (GJson → GJson → Option Bool)) (hrec : ∀ a0 a1 r, rec a0 a1 = some r → CallOK Try.prog 19 .flat [(encGJson a0), (encGJson a1)] (.bool r)) (a_1 : (List GJson)) (b_2 : (List GJson)) (r : Bool) (hf : laws_eqJsonS rec a_1 b_2 = some r) : CallOK Try.prog 88 .flat [(.lst 5 (a_1.map encGJson)), (.lst 5 (b_2.map encGJson))] (.bool r) := by
 refine CallOK.of_awp mixed Try.func88 fc88 nle ?_; rw [argT_eq]; unfold laws_eqJsonS at hf; unfold c88; refine (show awp Try.prog false 0 _ (ofL [(0, (.lst 5 (a_1.map encGJson))), (1, (.lst 5 (b_2.map encGJson)))]) [] _ from ?_); refine awp_seq <| w_reg <| s_mov (.bool false) rfl <| w_done <| k_seq <| awp_seq <| awp_seq <| w_reg <| s_mov (.lst 5 (a_1.map encGJson)) rfl <| s_dof (o_len (enc := encGJson) rfl) fun hl3 => s_mov (.lst 5 (b_2.map encGJson)) rfl <| s_dof (o_len (enc := encGJson) rfl) fun hl4 => s_q (.bool ((a_1.length : Int) != (b_2.length : Int))) rfl rfl rfl <| w_done <| k_seq <| ?_
 rcases oi hf with ⟨c5, hf⟩ | ⟨c5, hf⟩
 ·refine w_condt rfl c5 <| awp_seq <| w_reg <| s_mov (.bool false) rfl <| w_done <| k_seq <| w_ret <| ?_; obtain rfl := os hf; exact r_flat ⟨trivial, trivial⟩ rfl (.refl _)
 ·refine w_condf rfl (bf c5) <| w_skip <| k_seq <| awp_seq <| awp_seq <| w_reg <| s_mov (.int .i64 0) rfl <| w_done <| k_seq <| ?_
  obtain ⟨p36, hb1, hf⟩ := ob hf
  refine awp_cutx (X := {q : Unit // p36 = .go q}) (fun q => ([], [])) ?_ ?_
  ·refine awp_loop (X := {q : Nat // laws_eqJsonS_L1 b_2 rec (a_1.drop q) q = some p36}) (fun q => ([(0, (.lst 5 (a_1.map encGJson))), (1, (.lst 5 (b_2.map encGJson))), (5, (.int .i64 (q.1 : Int)))], [])) (fun q => a_1.length - q.1) ⟨0, hb1⟩ ⟨[], [], _, _, rfl, rfl, ⟨.refl _, ⟨.refl _, ⟨.refl _, trivial⟩⟩⟩, (.refl _)⟩ ?_
   rintro ⟨i_25, hc1⟩
   have hc1 : laws_eqJsonS_L1 b_2 rec (a_1.drop i_25) i_25 = some p36 := hc1
   refine (show awp Try.prog false 0 _ (ofL [(0, (.lst 5 (a_1.map encGJson))), (1, (.lst 5 (b_2.map encGJson))), (5, (.int .i64 (i_25 : Int)))]) [] _ from ?_)
   rcases dropc a_1 i_25 with ⟨hie39, hd42⟩ | ⟨hlt37, x_43, hx38, hd42⟩
   ·rw [hd42, laws_eqJsonS_L1.eq_1] at hc1
    have hq41 := dlf hie39
    refine awp_seq <| awp_seq <| w_reg <| s_mov (.int .i64 (i_25 : Int)) rfl <| s_mov (.lst 5 (a_1.map encGJson)) rfl <| s_dof (o_len (enc := encGJson) rfl) fun hl44 => s_q (.bool (decide ((i_25 : Int) < (a_1.length : Int)))) rfl rfl rfl <| w_done <| k_seq <| w_condf rfl hq41 <| w_exit <| k_seqx <| k_loopx <| k_blkx <| ?_; obtain rfl := os hc1; exact k_cutn ⟨_, rfl⟩ ⟨[], [], _, _, rfl, rfl, trivial, (.refl _)⟩
   ·rw [hd42, laws_eqJsonS_L1.eq_2] at hc1
    have hq41 := dlt hlt37
    refine awp_seq <| awp_seq <| w_reg <| s_mov (.int .i64 (i_25 : Int)) rfl <| s_mov (.lst 5 (a_1.map encGJson)) rfl <| s_dof (o_len (enc := encGJson) rfl) fun hl45 => s_q (.bool (decide ((i_25 : Int) < (a_1.length : Int)))) rfl rfl rfl <| w_done <| k_seq <| w_condt rfl hq41 <| w_skip <| k_seq <| awp_seq <| w_blk <| awp_seq <| w_reg <| ?_
    obtain ⟨x_46, ex47, hc1⟩ := ob hc1
    obtain ⟨r_48, er49, hc1⟩ := ob hc1
    refine s_mov (.lst 5 (a_1.map encGJson)) rfl <| s_mov (.int .i64 (i_25 : Int)) rfl <| s_do (o_iaddrn (enc := encGJson) rfl rfl hx38) <| s_do (o_loadeq (v := (.agg [(.int .i64 x_43.Kind), (.int .i64 x_43.N), (.str x_43.T), (.lst 1 (x_43.Keys.map AV.str)), (.lst 5 (x_43.Items.map encGJson))])) rfl (encGJson_eq _) nle rfl) <| s_mov (.lst 5 (b_2.map encGJson)) rfl <| s_mov (.int .i64 (i_25 : Int)) rfl <| s_do (o_iaddr (enc := encGJson) rfl rfl (idx0 ex47) (idx1 ex47)) <| s_do (o_loadeq (v := (.agg [(.int .i64 x_46.Kind), (.int .i64 x_46.N), (.str x_46.T), (.lst 1 (x_46.Keys.map AV.str)), (.lst 5 (x_46.Items.map encGJson))])) rfl (encGJson_eq _) nle rfl) <| s_dol (o_call (hrec _ _ _ er49) rfl (.cons (.of_eq (encGJson_eq x_43).symm) (.cons (.of_eq (encGJson_eq x_46).symm) .nil)) rfl) a_same trivial <| ?_
    refine s_q (.bool (!r_48)) rfl trivial rfl <| w_done <| k_seq <| ?_
    rcases oi hc1 with ⟨c50, hc1⟩ | ⟨c50, hc1⟩
    ·refine w_condt rfl c50 <| awp_seq <| w_reg <| s_mov (.bool false) rfl <| w_done <| k_seq <| w_ret <| ?_; obtain rfl := os hc1; obtain rfl := os hf; exact r_flat ⟨trivial, trivial⟩ rfl (.refl _)
    ·refine w_condf rfl (bf c50) <| w_skip <| k_blk <| k_seq <| w_reg <| s_mov (.int .i64 (i_25 : Int)) rfl <| s_q (.int .i64 (w64 ((i_25 : Int) + 1))) rfl rfl rfl <| s_mov (.int .i64 (w64 ((i_25 : Int) + 1))) rfl <| w_done <| ?_; exact k_loopn ⟨(i_25 + 1), hc1⟩ (mul hlt37) ⟨[], [], _, _, rfl, rfl, ⟨.refl _, ⟨.refl _, ⟨.of_eq (congrArg (AV.int _) (w64_incr hlt37 hl45)), trivial⟩⟩⟩, (.refl _)⟩
  ·rintro ⟨_, rfl⟩
   refine awp_seq <| w_reg <| s_mov (.bool true) rfl <| w_done <| k_seq <| w_ret <| ?_; obtain rfl := os hf; exact r_flat ⟨trivial, trivial⟩ rfl (.refl _)

/- laws.eqJson -/
def c19 : ACode :=
 (.seq (.reg (tq 2 (.box 5 (.t 0)) (tq 3 (.box 5 (.t 1)) (tm 4 (.c (.bool false)) .done))))
 (.seq (.seq (.reg (tq 5 (.faddr 0 (.t 2)) (tq 6 (.load 1 false (.t 5)) (tq 7 (.faddr 0 (.t 3)) (tq 8 (.load 1 false (.t 7)) (tq 9 (.bin .neq (.t 6) (.t 8)) .done))))))
 (.cond (.t 9) (.seq (.reg (tm 4 (.c (.bool false)) .done))
 .ret)
 .skip))
 (.seq (.seq (.reg (tq 10 (.faddr 1 (.t 2)) (tq 11 (.load 1 false (.t 10)) (tq 12 (.faddr 1 (.t 3)) (tq 13 (.load 1 false (.t 12)) (tq 14 (.bin .neq (.t 11) (.t 13)) .done))))))
 (.cond (.t 14) (.seq (.reg (tm 4 (.c (.bool false)) .done))
 .ret)
 .skip))
 (.seq (.seq (.reg (tq 15 (.faddr 2 (.t 2)) (tq 16 (.load 1 false (.t 15)) (tq 17 (.faddr 2 (.t 3)) (tq 18 (.load 1 false (.t 17)) (tq 19 (.bin .neq (.t 16) (.t 18)) .done))))))
 (.cond (.t 19) (.seq (.reg (tm 4 (.c (.bool false)) .done))
 .ret)
 .skip))
 (.seq (.seq (.reg (tq 20 (.faddr 3 (.t 2)) (tq 21 (.load 1 false (.t 20)) (tq 22 (.faddr 3 (.t 3)) (tq 23 (.load 1 false (.t 22)) (tq 24 (.call 87 [(.t 21), (.t 23)]) (tq 25 (.not (.t 24)) .done)))))))
 (.cond (.t 25) (.seq (.reg (tm 4 (.c (.bool false)) .done))
 .ret)
 .skip))
 (.seq (.seq (.reg (tq 26 (.faddr 4 (.t 2)) (tq 27 (.load 1 false (.t 26)) (tq 28 (.faddr 4 (.t 3)) (tq 29 (.load 1 false (.t 28)) (tq 30 (.call 88 [(.t 27), (.t 29)]) (tq 31 (.not (.t 30)) .done)))))))
 (.cond (.t 31) (.seq (.reg (tm 4 (.c (.bool false)) .done))
 .ret)
 .skip))
 (.seq (.reg (tm 4 (.c (.bool true)) .done))
 .ret)))))))
theorem fc19 : fcomp Try.prog Try.f19 = some (c19.erase, [.mov (.t 4)], 32) := by kernel_rfl
def laws_eqJson_B (rec : (GJson → GJson → Option Bool)) (a_1 : GJson) (b_2 : GJson) : Option Bool :=
    if (a_1.Kind != b_2.Kind) then
    some false
    else
    if (a_1.N != b_2.N) then
    some false
    else
    if (!(a_1.T == b_2.T)) then
    some false
    else
    (laws_eqStringS a_1.Keys b_2.Keys).bind fun r_6 =>
    if (!r_6) then
    some false
    else
    (laws_eqJsonS rec a_1.Items b_2.Items).bind fun r_9 =>
    if (!r_9) then
    some false
    else
    some true
theorem w_laws_eqJson_B (rec : (GJson → GJson → Option Bool)) (hrec : ∀ a0 a1 r, rec a0 a1 = some r → CallOK Try.prog 19 .flat [(encGJson a0), (encGJson a1)] (.bool r)) (a_1 : GJson) (b_2 : GJson) (r : Bool) (hf : laws_eqJson_B rec a_1 b_2 = some r) : CallOK Try.prog 19 .flat [(encGJson a_1), (encGJson b_2)] (.bool r) := by
 refine CallOK.of_awp mixed Try.func19 fc19 nle ?_; rw [argT_eq]; rw [encGJson_eq a_1, encGJson_eq b_2]; unfold laws_eqJson_B at hf; unfold c19; refine (show awp Try.prog false 0 _ (ofL [(0, (.agg [(.int .i64 a_1.Kind), (.int .i64 a_1.N), (.str a_1.T), (.lst 1 (a_1.Keys.map AV.str)), (.lst 5 (a_1.Items.map encGJson))])), (1, (.agg [(.int .i64 b_2.Kind), (.int .i64 b_2.N), (.str b_2.T), (.lst 1 (b_2.Keys.map AV.str)), (.lst 5 (b_2.Items.map encGJson))]))]) [] _ from ?_); refine awp_seq <| w_reg <| s_do (o_box (j := 0) (c := (.agg [(.int .i64 a_1.Kind), (.int .i64 a_1.N), (.str a_1.T), (.lst 1 (a_1.Keys.map AV.str)), (.lst 5 (a_1.Items.map encGJson))])) rfl trivial rfl rfl) <| s_do (o_box (j := 1) (c := (.agg [(.int .i64 b_2.Kind), (.int .i64 b_2.N), (.str b_2.T), (.lst 1 (b_2.Keys.map AV.str)), (.lst 5 (b_2.Items.map encGJson))])) rfl trivial rfl rfl) <| ?_
 refine s_mov (.bool false) rfl <| w_done <| k_seq <| awp_seq <| awp_seq <| w_reg <| s_q (.ptr 0 0 0) rfl trivial rfl <| s_q (.int .i64 a_1.Kind) rfl nle rfl <| s_q (.ptr 1 0 0) rfl trivial rfl <| s_q (.int .i64 b_2.Kind) rfl nle rfl <| s_q (.bool (a_1.Kind != b_2.Kind)) rfl rfl rfl <| w_done <| k_seq <| ?_
 rcases oi hf with ⟨c3, hf⟩ | ⟨c3, hf⟩
 ·refine w_condt rfl c3 <| awp_seq <| w_reg <| s_mov (.bool false) rfl <| w_done <| k_seq <| w_ret <| ?_; obtain rfl := os hf; exact r_flat ⟨trivial, trivial⟩ rfl (.refl _)
 ·refine w_condf rfl (bf c3) <| w_skip <| k_seq <| awp_seq <| awp_seq <| w_reg <| s_q (.ptr 0 0 1) rfl trivial rfl <| s_q (.int .i64 a_1.N) rfl nle rfl <| s_q (.ptr 1 0 1) rfl trivial rfl <| s_q (.int .i64 b_2.N) rfl nle rfl <| s_q (.bool (a_1.N != b_2.N)) rfl rfl rfl <| w_done <| k_seq <| ?_
  rcases oi hf with ⟨c4, hf⟩ | ⟨c4, hf⟩
  ·refine w_condt rfl c4 <| awp_seq <| w_reg <| s_mov (.bool false) rfl <| w_done <| k_seq <| w_ret <| ?_; obtain rfl := os hf; exact r_flat ⟨trivial, trivial⟩ rfl (.refl _)
  ·refine w_condf rfl (bf c4) <| w_skip <| k_seq <| awp_seq <| awp_seq <| w_reg <| s_q (.ptr 0 0 2) rfl trivial rfl <| s_q (.str a_1.T) rfl nle rfl <| s_q (.ptr 1 0 2) rfl trivial rfl <| s_q (.str b_2.T) rfl nle rfl <| s_q (.bool (!(a_1.T == b_2.T))) rfl trivial rfl <| w_done <| k_seq <| ?_
   rcases oi hf with ⟨c5, hf⟩ | ⟨c5, hf⟩
   ·refine w_condt rfl c5 <| awp_seq <| w_reg <| s_mov (.bool false) rfl <| w_done <| k_seq <| w_ret <| ?_; obtain rfl := os hf; exact r_flat ⟨trivial, trivial⟩ rfl (.refl _)
   ·refine w_condf rfl (bf c5) <| w_skip <| k_seq <| awp_seq <| awp_seq <| w_reg <| ?_
    obtain ⟨r_6, er7, hf⟩ := ob hf
    refine s_q (.ptr 0 0 3) rfl trivial rfl <| s_q (.lst 1 (a_1.Keys.map AV.str)) rfl nle rfl <| s_q (.ptr 1 0 3) rfl trivial rfl <| s_q (.lst 1 (b_2.Keys.map AV.str)) rfl nle rfl <| s_do (o_call (w_laws_eqStringS _ _ _ er7) rfl (.refl _) rfl) <| s_q (.bool (!r_6)) rfl trivial rfl <| w_done <| k_seq <| ?_
    rcases oi hf with ⟨c8, hf⟩ | ⟨c8, hf⟩
    ·refine w_condt rfl c8 <| awp_seq <| w_reg <| s_mov (.bool false) rfl <| w_done <| k_seq <| w_ret <| ?_; obtain rfl := os hf; exact r_flat ⟨trivial, trivial⟩ rfl (.refl _)
    ·refine w_condf rfl (bf c8) <| w_skip <| k_seq <| awp_seq <| awp_seq <| w_reg <| ?_
     obtain ⟨r_9, er10, hf⟩ := ob hf
     refine s_q (.ptr 0 0 4) rfl trivial rfl <| s_q (.lst 5 (a_1.Items.map encGJson)) rfl nle rfl <| s_q (.ptr 1 0 4) rfl trivial rfl <| s_q (.lst 5 (b_2.Items.map encGJson)) rfl nle rfl <| s_do (o_call (w_laws_eqJsonS rec hrec _ _ _ er10) rfl (.refl _) rfl) <| s_q (.bool (!r_9)) rfl trivial rfl <| w_done <| k_seq <| ?_
     rcases oi hf with ⟨c11, hf⟩ | ⟨c11, hf⟩
     ·refine w_condt rfl c11 <| awp_seq <| w_reg <| s_mov (.bool false) rfl <| w_done <| k_seq <| w_ret <| ?_; obtain rfl := os hf; exact r_flat ⟨trivial, trivial⟩ rfl (.refl _)
     ·refine w_condf rfl (bf c11) <| w_skip <| k_seq <| awp_seq <| w_reg <| s_mov (.bool true) rfl <| w_done <| k_seq <| w_ret <| ?_; obtain rfl := os hf; exact r_flat ⟨trivial, trivial⟩ rfl (.refl _)
def laws_eqJson : Nat → GJson → GJson → Option Bool
 | 0, _, _ => none
 | k + 1, a_1, b_2 => laws_eqJson_B (laws_eqJson k) a_1 b_2
theorem w_laws_eqJson : ∀ (k : Nat) (a_1 : GJson) (b_2 : GJson) (r : Bool), laws_eqJson k a_1 b_2 = some r → CallOK Try.prog 19 .flat [(encGJson a_1), (encGJson b_2)] (.bool r)
 | 0, a_1, b_2, r, h => by rw [laws_eqJson.eq_1] at h; cases h
 | k + 1, a_1, b_2, r, h => by
  rw [laws_eqJson.eq_2] at h; exact w_laws_eqJson_B _ (w_laws_eqJson k) a_1 b_2 r h

/- laws.eqAtom -/
def c89 : ACode :=
 (.seq (.reg (tq 2 (.box 3 (.t 0)) (tq 3 (.box 3 (.t 1)) (tm 4 (.c (.bool false)) .done))))
 (.seq (.seq (.reg (tq 5 (.faddr 0 (.t 2)) (tq 6 (.load 1 false (.t 5)) (tq 7 (.faddr 0 (.t 3)) (tq 8 (.load 1 false (.t 7)) (tq 9 (.bin .neq (.t 6) (.t 8)) .done))))))
 (.cond (.t 9) (.seq (.reg (tm 4 (.c (.bool false)) .done))
 .ret)
 .skip))
 (.seq (.seq (.reg (tq 10 (.faddr 1 (.t 2)) (tq 11 (.load 1 false (.t 10)) (tq 12 (.faddr 1 (.t 3)) (tq 13 (.load 1 false (.t 12)) (tq 14 (.bin .neq (.t 11) (.t 13)) .done))))))
 (.cond (.t 14) (.seq (.reg (tm 4 (.c (.bool false)) .done))
 .ret)
 .skip))
 (.seq (.seq (.reg (tq 15 (.faddr 2 (.t 2)) (tq 16 (.load 1 false (.t 15)) (tq 17 (.faddr 2 (.t 3)) (tq 18 (.load 1 false (.t 17)) (tq 19 (.bin .neq (.t 16) (.t 18)) .done))))))
 (.cond (.t 19) (.seq (.reg (tm 4 (.c (.bool false)) .done))
 .ret)
 .skip))
 (.seq (.reg (tm 4 (.c (.bool true)) .done))
 .ret)))))
theorem fc89 : fcomp Try.prog Try.f89 = some (c89.erase, [.mov (.t 4)], 20) := by kernel_rfl
def laws_eqAtom (a_1 : GAtom) (b_2 : GAtom) : Option Bool :=
    if (a_1.Kind != b_2.Kind) then
    some false
    else
    if (a_1.N != b_2.N) then
    some false
    else
    if (!(a_1.T == b_2.T)) then
    some false
    else
    some true
theorem w_laws_eqAtom (a_1 : GAtom) (b_2 : GAtom) (r : Bool) (hf : laws_eqAtom a_1 b_2 = some r) : CallOK Try.prog 89 .flat [(encGAtom a_1), (encGAtom b_2)] (.bool r) := by
 refine CallOK.of_awp mixed Try.func89 fc89 nle ?_; rw [argT_eq]; unfold laws_eqAtom at hf; unfold c89; refine (show awp Try.prog false 0 _ (ofL [(0, (encGAtom a_1)), (1, (encGAtom b_2))]) [] _ from ?_); refine awp_seq <| w_reg <| s_do (o_box (j := 0) (c := (.agg [(.int .i64 a_1.Kind), (.int .i64 a_1.N), (.str a_1.T)])) rfl trivial rfl rfl) <| s_do (o_box (j := 1) (c := (.agg [(.int .i64 b_2.Kind), (.int .i64 b_2.N), (.str b_2.T)])) rfl trivial rfl rfl) <| s_mov (.bool false) rfl <| w_done <| k_seq <| awp_seq <| awp_seq <| w_reg <| s_q (.ptr 0 0 0) rfl trivial rfl <| s_q (.int .i64 a_1.Kind) rfl nle rfl <| s_q (.ptr 1 0 0) rfl trivial rfl <| s_q (.int .i64 b_2.Kind) rfl nle rfl <| s_q (.bool (a_1.Kind != b_2.Kind)) rfl rfl rfl <| ?_
 refine w_done <| k_seq <| ?_
 rcases oi hf with ⟨c3, hf⟩ | ⟨c3, hf⟩
 ·refine w_condt rfl c3 <| awp_seq <| w_reg <| s_mov (.bool false) rfl <| w_done <| k_seq <| w_ret <| ?_; obtain rfl := os hf; exact r_flat ⟨trivial, trivial⟩ rfl (.refl _)
 ·refine w_condf rfl (bf c3) <| w_skip <| k_seq <| awp_seq <| awp_seq <| w_reg <| s_q (.ptr 0 0 1) rfl trivial rfl <| s_q (.int .i64 a_1.N) rfl nle rfl <| s_q (.ptr 1 0 1) rfl trivial rfl <| s_q (.int .i64 b_2.N) rfl nle rfl <| s_q (.bool (a_1.N != b_2.N)) rfl rfl rfl <| w_done <| k_seq <| ?_
  rcases oi hf with ⟨c4, hf⟩ | ⟨c4, hf⟩
  ·refine w_condt rfl c4 <| awp_seq <| w_reg <| s_mov (.bool false) rfl <| w_done <| k_seq <| w_ret <| ?_; obtain rfl := os hf; exact r_flat ⟨trivial, trivial⟩ rfl (.refl _)
  ·refine w_condf rfl (bf c4) <| w_skip <| k_seq <| awp_seq <| awp_seq <| w_reg <| s_q (.ptr 0 0 2) rfl trivial rfl <| s_q (.str a_1.T) rfl nle rfl <| s_q (.ptr 1 0 2) rfl trivial rfl <| s_q (.str b_2.T) rfl nle rfl <| s_q (.bool (!(a_1.T == b_2.T))) rfl trivial rfl <| w_done <| k_seq <| ?_
   rcases oi hf with ⟨c5, hf⟩ | ⟨c5, hf⟩
   ·refine w_condt rfl c5 <| awp_seq <| w_reg <| s_mov (.bool false) rfl <| w_done <| k_seq <| w_ret <| ?_; obtain rfl := os hf; exact r_flat ⟨trivial, trivial⟩ rfl (.refl _)
   ·refine w_condf rfl (bf c5) <| w_skip <| k_seq <| awp_seq <| w_reg <| s_mov (.bool true) rfl <| w_done <| k_seq <| w_ret <| ?_; obtain rfl := os hf; exact r_flat ⟨trivial, trivial⟩ rfl (.refl _)

/- laws.eqAtomS -/
def c20 : ACode :=
 (.seq (.reg (tm 4 (.c (.bool false)) .done))
 (.seq (.seq (.reg (tm 6 (.t 0) (tq 7 (.len (.t 6)) (tm 8 (.t 1) (tq 9 (.len (.t 8)) (tq 10 (.bin .neq (.t 7) (.t 9)) .done))))))
 (.cond (.t 10) (.seq (.reg (tm 4 (.c (.bool false)) .done))
 .ret)
 .skip))
 (.seq (.seq (.reg (tm 5 (.c (.int .i64 0)) .done))
 (.block 0 (.loop (.seq (.seq (.reg (tm 11 (.t 5) (tm 12 (.t 0) (tq 13 (.len (.t 12)) (tq 14 (.bin .lss (.t 11) (.t 13)) .done)))))
 (.cond (.t 14) .skip
 (.exit 0)))
 (.seq (.block 1 (.seq (.reg (tm 17 (.t 0) (tm 18 (.t 5) (tq 19 (.iaddr 3 (.t 17) (.t 18)) (tq 20 (.load 3 true (.t 19)) (tm 21 (.t 1) (tm 22 (.t 5) (tq 23 (.iaddr 3 (.t 21) (.t 22)) (tq 24 (.load 3 true (.t 23)) (.l ⟨(some 25), none, .call 89 [(.t 20), (.t 24)]⟩ []
 (tq 26 (.not (.t 25)) .done) .non))))))))))
 (.cond (.t 26) (.seq (.reg (tm 4 (.c (.bool false)) .done))
 .ret)
 .skip)))
 (.reg (tm 15 (.t 5) (tq 16 (.bin .add (.t 15) (.c (.int .i64 1))) (tm 5 (.t 16) .done)))))))))
 (.cut (.seq (.reg (tm 4 (.c (.bool true)) .done))
 .ret)))))
theorem fc20 : fcomp Try.prog Try.f20 = some (c20.erase, [.mov (.t 4)], 27) := by kernel_rfl
def laws_eqAtomS_L1 (b_2 : (List GAtom)) : List GAtom → Nat → Option (Fl Bool Unit)
  | [], i_25 =>
    some (.go ())
  | x_43 :: xs, i_25 =>
    (idx b_2 (i_25 : Int)).bind fun x_46 =>
    (laws_eqAtom x_43 x_46).bind fun r_48 =>
    if (!r_48) then
    some (.ret false)
    else
    laws_eqAtomS_L1 b_2 xs (i_25 + 1)

def laws_eqAtomS (a_1 : (List GAtom)) (b_2 : (List GAtom)) : Option Bool :=
    if ((a_1.length : Int) != (b_2.length : Int)) then
    some false
    else
    (laws_eqAtomS_L1 b_2 a_1 0).bind fun q => (match q with
    | .ret r => some r
    | .go _ =>
    some true)
theorem w_laws_eqAtomS (a_1 : (List GAtom)) (b_2 : (List GAtom)) (r : Bool) (hf : laws_eqAtomS a_1 b_2 = some r) : CallOK Try.prog 20 .flat [(.lst 3 (a_1.map encGAtom)), (.lst 3 (b_2.map encGAtom))] (.bool r) := by
 refine CallOK.of_awp mixed Try.func20 fc20 nle ?_; rw [argT_eq]; unfold laws_eqAtomS at hf; unfold c20; refine (show awp Try.prog false 0 _ (ofL [(0, (.lst 3 (a_1.map encGAtom))), (1, (.lst 3 (b_2.map encGAtom)))]) [] _ from ?_); refine awp_seq <| w_reg <| s_mov (.bool false) rfl <| w_done <| k_seq <| awp_seq <| awp_seq <| w_reg <| s_mov (.lst 3 (a_1.map encGAtom)) rfl <| s_dof (o_len (enc := encGAtom) rfl) fun hl3 => s_mov (.lst 3 (b_2.map encGAtom)) rfl <| s_dof (o_len (enc := encGAtom) rfl) fun hl4 => s_q (.bool ((a_1.length : Int) != (b_2.length : Int))) rfl rfl rfl <| w_done <| k_seq <| ?_
 rcases oi hf with ⟨c5, hf⟩ | ⟨c5, hf⟩
 ·refine w_condt rfl c5 <| awp_seq <| w_reg <| s_mov (.bool false) rfl <| w_done <| k_seq <| w_ret <| ?_; obtain rfl := os hf; exact r_flat ⟨trivial, trivial⟩ rfl (.refl _)
 ·refine w_condf rfl (bf c5) <| w_skip <| k_seq <| awp_seq <| awp_seq <| w_reg <| s_mov (.int .i64 0) rfl <| w_done <| k_seq <| ?_
  obtain ⟨p36, hb1, hf⟩ := ob hf
  refine awp_cutx (X := {q : Unit // p36 = .go q}) (fun q => ([], [])) ?_ ?_
  ·refine awp_loop (X := {q : Nat // laws_eqAtomS_L1 b_2 (a_1.drop q) q = some p36}) (fun q => ([(0, (.lst 3 (a_1.map encGAtom))), (1, (.lst 3 (b_2.map encGAtom))), (5, (.int .i64 (q.1 : Int)))], [])) (fun q => a_1.length - q.1) ⟨0, hb1⟩ ⟨[], [], _, _, rfl, rfl, ⟨.refl _, ⟨.refl _, ⟨.refl _, trivial⟩⟩⟩, (.refl _)⟩ ?_
   rintro ⟨i_25, hc1⟩
   have hc1 : laws_eqAtomS_L1 b_2 (a_1.drop i_25) i_25 = some p36 := hc1
   refine (show awp Try.prog false 0 _ (ofL [(0, (.lst 3 (a_1.map encGAtom))), (1, (.lst 3 (b_2.map encGAtom))), (5, (.int .i64 (i_25 : Int)))]) [] _ from ?_)
   rcases dropc a_1 i_25 with ⟨hie39, hd42⟩ | ⟨hlt37, x_43, hx38, hd42⟩
   ·rw [hd42, laws_eqAtomS_L1.eq_1] at hc1
    have hq41 := dlf hie39
    refine awp_seq <| awp_seq <| w_reg <| s_mov (.int .i64 (i_25 : Int)) rfl <| s_mov (.lst 3 (a_1.map encGAtom)) rfl <| s_dof (o_len (enc := encGAtom) rfl) fun hl44 => s_q (.bool (decide ((i_25 : Int) < (a_1.length : Int)))) rfl rfl rfl <| w_done <| k_seq <| w_condf rfl hq41 <| w_exit <| k_seqx <| k_loopx <| k_blkx <| ?_; obtain rfl := os hc1; exact k_cutn ⟨_, rfl⟩ ⟨[], [], _, _, rfl, rfl, trivial, (.refl _)⟩
   ·rw [hd42, laws_eqAtomS_L1.eq_2] at hc1
    have hq41 := dlt hlt37
    refine awp_seq <| awp_seq <| w_reg <| s_mov (.int .i64 (i_25 : Int)) rfl <| s_mov (.lst 3 (a_1.map encGAtom)) rfl <| s_dof (o_len (enc := encGAtom) rfl) fun hl45 => s_q (.bool (decide ((i_25 : Int) < (a_1.length : Int)))) rfl rfl rfl <| w_done <| k_seq <| w_condt rfl hq41 <| w_skip <| k_seq <| awp_seq <| w_blk <| awp_seq <| w_reg <| ?_
    obtain ⟨x_46, ex47, hc1⟩ := ob hc1
    obtain ⟨r_48, er49, hc1⟩ := ob hc1
    refine s_mov (.lst 3 (a_1.map encGAtom)) rfl <| s_mov (.int .i64 (i_25 : Int)) rfl <| s_do (o_iaddrn (enc := encGAtom) rfl rfl hx38) <| s_q (encGAtom x_43) rfl nle rfl <| s_mov (.lst 3 (b_2.map encGAtom)) rfl <| s_mov (.int .i64 (i_25 : Int)) rfl <| s_do (o_iaddr (enc := encGAtom) rfl rfl (idx0 ex47) (idx1 ex47)) <| s_q (encGAtom x_46) rfl nle rfl <| s_dol (o_call (w_laws_eqAtom _ _ _ er49) rfl (.refl _) rfl) a_same trivial <| s_q (.bool (!r_48)) rfl trivial rfl <| w_done <| k_seq <| ?_
    rcases oi hc1 with ⟨c50, hc1⟩ | ⟨c50, hc1⟩
    ·refine w_condt rfl c50 <| awp_seq <| w_reg <| s_mov (.bool false) rfl <| w_done <| k_seq <| w_ret <| ?_; obtain rfl := os hc1; obtain rfl := os hf; exact r_flat ⟨trivial, trivial⟩ rfl (.refl _)
    ·refine w_condf rfl (bf c50) <| w_skip <| k_blk <| k_seq <| w_reg <| s_mov (.int .i64 (i_25 : Int)) rfl <| s_q (.int .i64 (w64 ((i_25 : Int) + 1))) rfl rfl rfl <| s_mov (.int .i64 (w64 ((i_25 : Int) + 1))) rfl <| w_done <| ?_; exact k_loopn ⟨(i_25 + 1), hc1⟩ (mul hlt37) ⟨[], [], _, _, rfl, rfl, ⟨.refl _, ⟨.refl _, ⟨.of_eq (congrArg (AV.int _) (w64_incr hlt37 hl45)), trivial⟩⟩⟩, (.refl _)⟩
  ·rintro ⟨_, rfl⟩
   refine awp_seq <| w_reg <| s_mov (.bool true) rfl <| w_done <| k_seq <| w_ret <| ?_; obtain rfl := os hf; exact r_flat ⟨trivial, trivial⟩ rfl (.refl _)

/- laws.markText -/
def c90 : ACode :=
 (.seq (.reg (tm 2 (.c (.str [])) .done))
 (.seq (.seq (.reg (tm 4 (.t 0) (tq 5 (.bin .leq (.t 4) (.c (.int .i64 0))) .done)))
 (.cond (.t 5) (.seq (.reg (tm 2 (.c (.str [109, 48])) .done))
 .ret)
 .skip))
 (.seq (.reg (tm 3 (.c (.str [])) .done))
 (.seq (.block 0 (.loop (.seq (.seq (.reg (tm 6 (.t 0) (tq 7 (.bin .gtr (.t 6) (.c (.int .i64 0))) .done)))
 (.cond (.t 7) .skip
 (.exit 0)))
 (.block 1 (.seq (.reg (tm 8 (.t 0) (tq 9 (.bin .rem (.t 8) (.c (.int .i64 10))) (tq 10 (.bin .add (.c (.int .i64 48)) (.t 9)) (tq 11 (.convI .u8 (.t 10)) (tq 12 (.bslice 1 [(.t 11)]) (tq 13 (.convBS (.t 12)) (tm 14 (.t 3) (tq 15 (.bin .add (.t 13) (.t 14)) (tm 3 (.t 15) .done))))))))))
 (.reg (tm 16 (.t 0) (tq 17 (.bin .quo (.t 16) (.c (.int .i64 10))) (tm 0 (.t 17) .done)))))))))
 (.cut (.seq (.reg (tm 18 (.t 3) (tq 19 (.bin .add (.c (.str [109])) (.t 18)) (tm 2 (.t 19) .done))))
 .ret))))))
theorem fc90 : fcomp Try.prog Try.f90 = some (c90.erase, [.mov (.t 2)], 20) := by kernel_rfl
def laws_markText_L1  : Nat → Int → Str → Option Str
  | 0, _, _ => none
  | k + 1, k_9, out_10 =>
    if (decide (k_9 > 0)) then
    if (bstr [IntKind.u8.wrap (w64 (48 + (k_9.tmod 10)))]).length + out_10.length ≤ maxLen then
    laws_markText_L1 k (w64 (k_9.tdiv 10)) ((bstr [IntKind.u8.wrap (w64 (48 + (k_9.tmod 10)))]) ++ out_10)
    else none
    else
    some out_10

def laws_markText (k_1 : Int) : Option Str :=
    if (decide (k_1 ≤ 0)) then
    some [109, 48]
    else
    (laws_markText_L1 FUEL k_1 []).bind fun out_13 =>
    if [109].length + out_13.length ≤ maxLen then
    some ([109] ++ out_13)
    else none
theorem w_laws_markText (k_1 : Int) (r : Str) (hf : laws_markText k_1 = some r) : CallOK Try.prog 90 .flat [(.int .i64 k_1)] (.str r) := by
 refine CallOK.of_awp mixed Try.func90 fc90 nle ?_; rw [argT_eq]; unfold laws_markText at hf; unfold c90; refine (show awp Try.prog false 0 _ (ofL [(0, (.int .i64 k_1))]) [] _ from ?_); refine awp_seq <| w_reg <| s_mov (.str []) rfl <| w_done <| k_seq <| awp_seq <| awp_seq <| w_reg <| s_mov (.int .i64 k_1) rfl <| s_q (.bool (decide (k_1 ≤ 0))) rfl rfl rfl <| w_done <| k_seq <| ?_
 rcases oi hf with ⟨c2, hf⟩ | ⟨c2, hf⟩
 ·refine w_condt rfl c2 <| awp_seq <| w_reg <| s_mov (.str [109, 48]) rfl <| w_done <| k_seq <| w_ret <| ?_; obtain rfl := os hf; exact r_flat ⟨trivial, trivial⟩ rfl (.refl _)
 ·refine w_condf rfl (bf c2) <| w_skip <| k_seq <| awp_seq <| w_reg <| s_mov (.str []) rfl <| w_done <| k_seq <| awp_seq <| ?_
  obtain ⟨out_13, hb1, hf⟩ := ob hf
  refine awp_cut ([(3, (.str out_13))], []) ?_ ?_
  ·refine awp_loop (X := {q : (Nat × Int × Str) // laws_markText_L1 q.1 q.2.1 q.2.2 = some out_13}) (fun q => ([(0, (.int .i64 q.1.2.1)), (3, (.str q.1.2.2))], [])) (fun q => q.1.1) ⟨(FUEL, k_1, []), hb1⟩ ⟨[], [], _, _, rfl, rfl, ⟨.refl _, ⟨.refl _, trivial⟩⟩, (.refl _)⟩ ?_
   rintro ⟨⟨k, k_9, out_10⟩, hc1⟩
   have hc1 : laws_markText_L1 k k_9 out_10 = some out_13 := hc1
   refine (show awp Try.prog false 0 _ (ofL [(0, (.int .i64 k_9)), (3, (.str out_10))]) [] _ from ?_)
   rcases k with _ | k
   ·rw [laws_markText_L1.eq_1] at hc1
    cases hc1
   ·rw [laws_markText_L1.eq_2] at hc1; refine awp_seq <| awp_seq <| w_reg <| s_mov (.int .i64 k_9) rfl <| s_q (.bool (decide (k_9 > 0))) rfl rfl rfl <| w_done <| k_seq <| ?_
    rcases oi hc1 with ⟨c15, hc1⟩ | ⟨c15, hc1⟩
    ·refine w_condt rfl c15 <| w_skip <| k_seq <| w_blk <| awp_seq <| w_reg <| ?_
     obtain ⟨g16, hc1⟩ := og hc1
     refine s_mov (.int .i64 k_9) rfl <| s_q (.int .i64 (k_9.tmod 10)) rfl ⟨rfl, by decide⟩ rfl <| s_q (.int .i64 (w64 (48 + (k_9.tmod 10)))) rfl rfl rfl <| s_q (.int .u8 (IntKind.u8.wrap (w64 (48 + (k_9.tmod 10))))) rfl trivial rfl <| ?_; refine s_do (o_bslice (j := 0) (as' := [(.int .u8 (IntKind.u8.wrap (w64 (48 + (k_9.tmod 10)))))]) rfl (fun _ => by decide) ⟨rfl, trivial⟩ (.refl _) rfl rfl rfl) ?_; refine s_do (o_convbso (l := [IntKind.u8.wrap (w64 (48 + (k_9.tmod 10)))]) rfl rfl (by simp)) <| s_mov (.str out_10) rfl <| s_q (.str ((bstr [IntKind.u8.wrap (w64 (48 + (k_9.tmod 10)))]) ++ out_10)) rfl g16 rfl <| s_mov (.str ((bstr [IntKind.u8.wrap (w64 (48 + (k_9.tmod 10)))]) ++ out_10)) rfl <| w_done <| k_seq <| w_reg <| s_mov (.int .i64 k_9) rfl <| ?_
     refine s_q (.int .i64 (w64 (k_9.tdiv 10))) rfl ⟨rfl, by decide⟩ rfl <| s_mov (.int .i64 (w64 (k_9.tdiv 10))) rfl <| w_done <| k_blk <| ?_; exact k_loopn ⟨(k, w64 (k_9.tdiv 10), (bstr [IntKind.u8.wrap (w64 (48 + (k_9.tmod 10)))]) ++ out_10), hc1⟩ (Nat.lt_succ_self _) ⟨[], [], _, _, rfl, rfl, ⟨.refl _, ⟨.refl _, trivial⟩⟩, (.refl _)⟩
    ·refine w_condf rfl (bf c15) <| w_exit <| k_seqx <| k_loopx <| k_blkx <| ?_; obtain rfl := os hc1; exact ⟨[], [], _, _, rfl, rfl, ⟨.refl _, trivial⟩, (.refl _)⟩
  ·refine awp_seq <| w_reg <| ?_
   obtain ⟨g17, hf⟩ := og hf
   refine s_mov (.str out_13) rfl <| s_q (.str ([109] ++ out_13)) rfl g17 rfl <| s_mov (.str ([109] ++ out_13)) rfl <| w_done <| k_seq <| w_ret <| ?_; obtain rfl := os hf; exact r_flat ⟨trivial, trivial⟩ rfl (.refl _)

/- laws.markAtomS -/
def c21_h0 : ACode :=
 (.seq (.reg (tm 4 (.c (.int .i64 0)) .done))
 (.seq (.seq (.reg (tm 5 (.c (.int .i64 0)) .done))
 (.block 0 (.loop (.seq (.seq (.reg (tm 6 (.t 5) (tm 7 (.t 0) (tq 8 (.len (.t 7)) (tq 9 (.bin .lss (.t 6) (.t 8)) .done)))))
 (.cond (.t 9) .skip
 (.exit 0)))
 (.seq (.block 1 (.seq (.reg (tm 12 (.t 0) (tm 13 (.t 5) (tm 14 (.t 1) (tq 15 (.iaddr 3 (.t 12) (.t 13)) (tq 16 (.faddr 0 (.t 15)) (.q ⟨none, none, .store 1 (.t 16) (.t 14)⟩
 .done)))))))
 (.seq (.reg (tm 17 (.t 1) (tq 18 (.bin .add (.t 17) (.c (.int .i64 1))) (tm 1 (.t 18) .done))))
 (.seq (.reg (tm 19 (.t 0) (tm 20 (.t 5) (tm 21 (.t 1) (tq 22 (.iaddr 3 (.t 19) (.t 20)) (tq 23 (.faddr 1 (.t 22)) (.q ⟨none, none, .store 1 (.t 23) (.t 21)⟩
 .done)))))))
 (.seq (.reg (tm 24 (.t 1) (tq 25 (.bin .add (.t 24) (.c (.int .i64 1))) (tm 1 (.t 25) .done))))
 (.seq (.reg (tm 26 (.t 0) (tm 27 (.t 5) (tm 28 (.t 1) (tq 29 (.call 90 [(.t 28)]) (tq 30 (.iaddr 3 (.t 26) (.t 27)) (tq 31 (.faddr 2 (.t 30)) (.q ⟨none, none, .store 1 (.t 31) (.t 29)⟩
 .done))))))))
 (.reg (tm 32 (.t 1) (tq 33 (.bin .add (.t 32) (.c (.int .i64 1))) (tm 1 (.t 33) .done))))))))))
 (.reg (tm 10 (.t 5) (tq 11 (.bin .add (.t 10) (.c (.int .i64 1))) (tm 5 (.t 11) .done)))))))))
 (.cut (.seq (.reg (tm 34 (.t 1) (tm 4 (.t 34) .done)))
 .ret))))
theorem fc21_h0 : fcomp Try.prog Try.f21 = some (c21_h0.erase, [.mov (.t 4)], 35) := by kernel_rfl
def laws_markAtomS_L1  : Nat → Int → Int → (List GAtom) → Option (Int × (List GAtom))
  | 0, _, _, _ => none
  | k + 1, k_58, i_59, a_60 =>
    if (decide (i_59 < (a_60.length : Int))) then
    if (0 : Int) ≤ i_59 ∧ i_59 < (a_60.length : Int) then
    (a_60[(0 + i_59.toNat)]?).bind fun x_76 =>
    if (0 : Int) ≤ i_59 ∧ i_59 < (a_60.length : Int) then
    (laws_markText (w64 ((w64 (k_58 + 1)) + 1))).bind fun r_79 =>
    if (0 : Int) ≤ i_59 ∧ i_59 < (a_60.length : Int) then
    laws_markAtomS_L1 k (w64 ((w64 ((w64 (k_58 + 1)) + 1)) + 1)) (w64 (i_59 + 1)) (((a_60.set (0 + i_59.toNat) (⟨k_58, x_76.N, x_76.T⟩ : GAtom)).set (0 + i_59.toNat) (⟨k_58, w64 (k_58 + 1), x_76.T⟩ : GAtom)).set (0 + i_59.toNat) (⟨k_58, w64 (k_58 + 1), r_79⟩ : GAtom))
    else none
    else none
    else none
    else
    some (k_58, a_60)

def laws_markAtomS (a_1 : (List GAtom)) (k_2 : Int) : Option (Int × (List GAtom)) :=
    (laws_markAtomS_L1 FUEL k_2 0 a_1).bind fun p72 =>
    (match p72 with
    | (k_70, l_71) =>
    some (k_70, l_71))
theorem w_laws_markAtomS (a_1 : (List GAtom)) (k_2 : Int) (r : (Int × (List GAtom))) (hf : laws_markAtomS a_1 k_2 = some r) : CallHeap Try.prog ⟨true, true⟩ 21 [(.own 0 0 a_1.length), (.int .i64 k_2)] [.row 3 (a_1.map encGAtom)] (.int .i64 r.1) [.row 3 (r.2.map encGAtom)] := by
 refine CallHeap.of_awp mixed Try.func21 fc21_h0 nle ?_; rw [argT_eq]; unfold laws_markAtomS at hf; unfold c21_h0; refine (show awp Try.prog ⟨true, true⟩ 1 _ (ofL [(0, (.own 0 0 a_1.length)), (1, (.int .i64 k_2))]) [.row 3 (a_1.map encGAtom)] _ from ?_); refine awp_seq <| w_reg <| s_mov (.int .i64 0) rfl <| w_done <| k_seq <| awp_seq <| awp_seq <| w_reg <| s_mov (.int .i64 0) rfl <| w_done <| k_seq <| ?_
 obtain ⟨p72, hb1, hf⟩ := ob hf
 refine awp_cut ([(1, (.int .i64 p72.1))], [.row 3 (p72.2.map encGAtom)]) ?_ ?_
 ·refine awp_loop (X := {q : (Nat × Int × Int × (List GAtom)) // laws_markAtomS_L1 q.1 q.2.1 q.2.2.1 q.2.2.2 = some p72}) (fun q => ([(0, (.own 0 0 q.1.2.2.2.length)), (1, (.int .i64 q.1.2.1)), (5, (.int .i64 q.1.2.2.1))], [.row 3 (q.1.2.2.2.map encGAtom)])) (fun q => q.1.1) ⟨(FUEL, k_2, 0, a_1), hb1⟩ ⟨[], [0], _, _, rfl, rfl, ⟨.refl _, ⟨.refl _, ⟨.refl _, trivial⟩⟩⟩, (.refl _)⟩ ?_
  rintro ⟨⟨k, k_58, i_59, a_60⟩, hc1⟩
  have hc1 : laws_markAtomS_L1 k k_58 i_59 a_60 = some p72 := hc1
  refine (show awp Try.prog ⟨true, true⟩ 1 _ (ofL [(0, (.own 0 0 a_60.length)), (1, (.int .i64 k_58)), (5, (.int .i64 i_59))]) [.row 3 (a_60.map encGAtom)] _ from ?_)
  rcases k with _ | k
  ·rw [laws_markAtomS_L1.eq_1] at hc1
   cases hc1
  ·rw [laws_markAtomS_L1.eq_2] at hc1; refine awp_seq <| awp_seq <| w_reg <| s_mov (.int .i64 i_59) rfl <| s_mov (.own 0 0 a_60.length) rfl <| s_dof (o_lenown rfl rfl) fun hl73 => s_q (.bool (decide (i_59 < (a_60.length : Int)))) rfl (.of rfl trivial) rfl <| w_done <| k_seq <| ?_
   rcases oi hc1 with ⟨c74, hc1⟩ | ⟨c74, hc1⟩
   ·refine w_condt rfl c74 <| w_skip <| k_seq <| awp_seq <| w_blk <| awp_seq <| w_reg <| ?_
    obtain ⟨g75, hc1⟩ := og hc1
    obtain ⟨x_76, ex77, hc1⟩ := ob hc1
    refine s_mov (.own 0 0 a_60.length) rfl <| s_mov (.int .i64 i_59) rfl <| s_mov (.int .i64 k_58) rfl <| s_do (o_iaddrown rfl rfl g75.1 g75.2 rfl rfl) <| s_q (.ptr 0 (0 + i_59.toNat) 0) rfl (.of trivial trivial) rfl <| ?_; refine s_do0 (o_storerow (v' := (.int .i64 k_58)) (e' := (⟨k_58, x_76.N, x_76.T⟩ : GAtom)) rfl rfl ex77 rfl rfl rfl (by decide) (fun _ => by decide) ⟨rfl, nle⟩ (.refl _) rfl) ?_; refine w_done <| k_seq <| awp_seq <| w_reg <| s_mov (.int .i64 k_58) rfl <| s_q (.int .i64 (w64 (k_58 + 1))) rfl (.of rfl trivial) rfl <| s_mov (.int .i64 (w64 (k_58 + 1))) rfl <| w_done <| k_seq <| awp_seq <| w_reg <| ?_
    obtain ⟨g78, hc1⟩ := og hc1
    refine s_mov (.own 0 0 a_60.length) rfl <| s_mov (.int .i64 i_59) rfl <| s_mov (.int .i64 (w64 (k_58 + 1))) rfl <| s_do (o_iaddrown rfl rfl g78.1 g78.2 rfl rfl) <| s_q (.ptr 0 (0 + i_59.toNat) 1) rfl (.of trivial trivial) rfl <| ?_; refine s_do0 (o_storerow (v' := (.int .i64 (w64 (k_58 + 1)))) (e' := (⟨k_58, w64 (k_58 + 1), x_76.T⟩ : GAtom)) rfl rfl (setget ex77) rfl rfl rfl (by decide) (fun _ => by decide) ⟨rfl, nle⟩ (.refl _) rfl) ?_; refine w_done <| k_seq <| awp_seq <| w_reg <| s_mov (.int .i64 (w64 (k_58 + 1))) rfl <| s_q (.int .i64 (w64 ((w64 (k_58 + 1)) + 1))) rfl (.of rfl trivial) rfl <| s_mov (.int .i64 (w64 ((w64 (k_58 + 1)) + 1))) rfl <| w_done <| k_seq <| awp_seq <| w_reg <| ?_
    obtain ⟨r_79, er80, hc1⟩ := ob hc1
    obtain ⟨g81, hc1⟩ := og hc1
    refine s_mov (.own 0 0 a_60.length) rfl <| s_mov (.int .i64 i_59) rfl <| s_mov (.int .i64 (w64 ((w64 (k_58 + 1)) + 1))) rfl <| s_do (o_call (w_laws_markText _ _ er80) rfl (.refl _) rfl) <| s_do (o_iaddrown rfl rfl g81.1 g81.2 rfl rfl) <| s_q (.ptr 0 (0 + i_59.toNat) 2) rfl (.of trivial trivial) rfl <| ?_; refine s_do0 (o_storerow (v' := (.str r_79)) (e' := (⟨k_58, w64 (k_58 + 1), r_79⟩ : GAtom)) rfl rfl (setget (setget ex77)) rfl rfl rfl (by decide) (fun _ => by decide) ⟨rfl, nle⟩ (.refl _) rfl) ?_; refine w_done <| k_seq <| w_reg <| s_mov (.int .i64 (w64 ((w64 (k_58 + 1)) + 1))) rfl <| s_q (.int .i64 (w64 ((w64 ((w64 (k_58 + 1)) + 1)) + 1))) rfl (.of rfl trivial) rfl <| s_mov (.int .i64 (w64 ((w64 ((w64 (k_58 + 1)) + 1)) + 1))) rfl <| ?_
    refine w_done <| k_blk <| k_seq <| w_reg <| s_mov (.int .i64 i_59) rfl <| s_q (.int .i64 (w64 (i_59 + 1))) rfl (.of rfl trivial) rfl <| s_mov (.int .i64 (w64 (i_59 + 1))) rfl <| w_done <| ?_; exact k_loopn ⟨(k, w64 ((w64 ((w64 (k_58 + 1)) + 1)) + 1), w64 (i_59 + 1), ((a_60.set (0 + i_59.toNat) (⟨k_58, x_76.N, x_76.T⟩ : GAtom)).set (0 + i_59.toNat) (⟨k_58, w64 (k_58 + 1), x_76.T⟩ : GAtom)).set (0 + i_59.toNat) (⟨k_58, w64 (k_58 + 1), r_79⟩ : GAtom)), hc1⟩ (Nat.lt_succ_self _) ⟨[], [0], _, _, rfl, rfl, ⟨.of_eq (congrArg (AV.own _ 0) (by simp)), ⟨.refl _, ⟨.refl _, trivial⟩⟩⟩, (.refl _)⟩
   ·refine w_condf rfl (bf c74) <| w_exit <| k_seqx <| k_loopx <| k_blkx <| ?_; obtain rfl := os hc1; exact ⟨[], [0], _, _, rfl, rfl, ⟨.refl _, trivial⟩, (.refl _)⟩
 ·obtain ⟨k_70, l_71⟩ := p72
  refine awp_seq <| w_reg <| s_mov (.int .i64 k_70) rfl <| s_mov (.int .i64 k_70) rfl <| w_done <| k_seq <| w_ret <| ?_; obtain rfl := os hf; exact r_heap [] [0] rfl ⟨.of trivial trivial, trivial⟩ rfl (.refl _) (.refl _)

/- laws.markStringS -/
def c91_h0 : ACode :=
 (.seq (.reg (tm 4 (.c (.int .i64 0)) .done))
 (.seq (.seq (.reg (tm 5 (.c (.int .i64 0)) .done))
 (.block 0 (.loop (.seq (.seq (.reg (tm 6 (.t 5) (tm 7 (.t 0) (tq 8 (.len (.t 7)) (tq 9 (.bin .lss (.t 6) (.t 8)) .done)))))
 (.cond (.t 9) .skip
 (.exit 0)))
 (.seq (.block 1 (.seq (.reg (tm 12 (.t 0) (tm 13 (.t 5) (tm 14 (.t 1) (tq 15 (.call 90 [(.t 14)]) (tq 16 (.iaddr 1 (.t 12) (.t 13)) (.q ⟨none, none, .store 1 (.t 16) (.t 15)⟩
 .done)))))))
 (.reg (tm 17 (.t 1) (tq 18 (.bin .add (.t 17) (.c (.int .i64 1))) (tm 1 (.t 18) .done))))))
 (.reg (tm 10 (.t 5) (tq 11 (.bin .add (.t 10) (.c (.int .i64 1))) (tm 5 (.t 11) .done)))))))))
 (.cut (.seq (.reg (tm 19 (.t 1) (tm 4 (.t 19) .done)))
 .ret))))
theorem fc91_h0 : fcomp Try.prog Try.f91 = some (c91_h0.erase, [.mov (.t 4)], 20) := by kernel_rfl
def laws_markStringS_L1  : Nat → Int → Int → (List Str) → Option (Int × (List Str))
  | 0, _, _, _ => none
  | k + 1, k_48, i_49, a_50 =>
    if (decide (i_49 < (a_50.length : Int))) then
    (laws_markText k_48).bind fun r_63 =>
    if (0 : Int) ≤ i_49 ∧ i_49 < (a_50.length : Int) then
    (a_50[(0 + i_49.toNat)]?).bind fun x_66 =>
    laws_markStringS_L1 k (w64 (k_48 + 1)) (w64 (i_49 + 1)) (a_50.set (0 + i_49.toNat) r_63)
    else none
    else
    some (k_48, a_50)

def laws_markStringS (a_1 : (List Str)) (k_2 : Int) : Option (Int × (List Str)) :=
    (laws_markStringS_L1 FUEL k_2 0 a_1).bind fun p60 =>
    (match p60 with
    | (k_58, l_59) =>
    some (k_58, l_59))
theorem w_laws_markStringS (a_1 : (List Str)) (k_2 : Int) (r : (Int × (List Str))) (hf : laws_markStringS a_1 k_2 = some r) : CallHeap Try.prog ⟨true, true⟩ 91 [(.own 0 0 a_1.length), (.int .i64 k_2)] [.row 1 (a_1.map AV.str)] (.int .i64 r.1) [.row 1 (r.2.map AV.str)] := by
 refine CallHeap.of_awp mixed Try.func91 fc91_h0 nle ?_; rw [argT_eq]; unfold laws_markStringS at hf; unfold c91_h0; refine (show awp Try.prog ⟨true, true⟩ 1 _ (ofL [(0, (.own 0 0 a_1.length)), (1, (.int .i64 k_2))]) [.row 1 (a_1.map AV.str)] _ from ?_); refine awp_seq <| w_reg <| s_mov (.int .i64 0) rfl <| w_done <| k_seq <| awp_seq <| awp_seq <| w_reg <| s_mov (.int .i64 0) rfl <| w_done <| k_seq <| ?_
 obtain ⟨p60, hb1, hf⟩ := ob hf
 refine awp_cut ([(1, (.int .i64 p60.1))], [.row 1 (p60.2.map AV.str)]) ?_ ?_
 ·refine awp_loop (X := {q : (Nat × Int × Int × (List Str)) // laws_markStringS_L1 q.1 q.2.1 q.2.2.1 q.2.2.2 = some p60}) (fun q => ([(0, (.own 0 0 q.1.2.2.2.length)), (1, (.int .i64 q.1.2.1)), (5, (.int .i64 q.1.2.2.1))], [.row 1 (q.1.2.2.2.map AV.str)])) (fun q => q.1.1) ⟨(FUEL, k_2, 0, a_1), hb1⟩ ⟨[], [0], _, _, rfl, rfl, ⟨.refl _, ⟨.refl _, ⟨.refl _, trivial⟩⟩⟩, (.refl _)⟩ ?_
  rintro ⟨⟨k, k_48, i_49, a_50⟩, hc1⟩
  have hc1 : laws_markStringS_L1 k k_48 i_49 a_50 = some p60 := hc1
  refine (show awp Try.prog ⟨true, true⟩ 1 _ (ofL [(0, (.own 0 0 a_50.length)), (1, (.int .i64 k_48)), (5, (.int .i64 i_49))]) [.row 1 (a_50.map AV.str)] _ from ?_)
  rcases k with _ | k
  ·rw [laws_markStringS_L1.eq_1] at hc1
   cases hc1
  ·rw [laws_markStringS_L1.eq_2] at hc1; refine awp_seq <| awp_seq <| w_reg <| s_mov (.int .i64 i_49) rfl <| s_mov (.own 0 0 a_50.length) rfl <| s_dof (o_lenown rfl rfl) fun hl61 => s_q (.bool (decide (i_49 < (a_50.length : Int)))) rfl (.of rfl trivial) rfl <| w_done <| k_seq <| ?_
   rcases oi hc1 with ⟨c62, hc1⟩ | ⟨c62, hc1⟩
   ·refine w_condt rfl c62 <| w_skip <| k_seq <| awp_seq <| w_blk <| awp_seq <| w_reg <| ?_
    obtain ⟨r_63, er64, hc1⟩ := ob hc1
    obtain ⟨g65, hc1⟩ := og hc1
    obtain ⟨x_66, ex67, hc1⟩ := ob hc1
    refine s_mov (.own 0 0 a_50.length) rfl <| s_mov (.int .i64 i_49) rfl <| s_mov (.int .i64 k_48) rfl <| s_do (o_call (w_laws_markText _ _ er64) rfl (.refl _) rfl) <| s_do (o_iaddrown rfl rfl g65.1 g65.2 rfl rfl) <| ?_; refine s_do0 (o_storerow (v' := (.str r_63)) (e' := r_63) rfl rfl ex67 rfl rfl rfl (by decide) (fun _ => by decide) ⟨rfl, rfl, rfl⟩ (.refl _) rfl) ?_; refine w_done <| k_seq <| w_reg <| s_mov (.int .i64 k_48) rfl <| s_q (.int .i64 (w64 (k_48 + 1))) rfl (.of rfl trivial) rfl <| s_mov (.int .i64 (w64 (k_48 + 1))) rfl <| w_done <| k_blk <| k_seq <| w_reg <| s_mov (.int .i64 i_49) rfl <| s_q (.int .i64 (w64 (i_49 + 1))) rfl (.of rfl trivial) rfl <| s_mov (.int .i64 (w64 (i_49 + 1))) rfl <| w_done <| ?_; exact k_loopn ⟨(k, w64 (k_48 + 1), w64 (i_49 + 1), a_50.set (0 + i_49.toNat) r_63), hc1⟩ (Nat.lt_succ_self _) ⟨[], [0], _, _, rfl, rfl, ⟨.of_eq (congrArg (AV.own _ 0) (by simp)), ⟨.refl _, ⟨.refl _, trivial⟩⟩⟩, (.refl _)⟩
   ·refine w_condf rfl (bf c62) <| w_exit <| k_seqx <| k_loopx <| k_blkx <| ?_; obtain rfl := os hc1; exact ⟨[], [0], _, _, rfl, rfl, ⟨.refl _, trivial⟩, (.refl _)⟩
 ·obtain ⟨k_58, l_59⟩ := p60
  refine awp_seq <| w_reg <| s_mov (.int .i64 k_58) rfl <| s_mov (.int .i64 k_58) rfl <| w_done <| k_seq <| w_ret <| ?_; obtain rfl := os hf; exact r_heap [] [0] rfl ⟨.of trivial trivial, trivial⟩ rfl (.refl _) (.refl _)

/- laws.markJsonS -/
def c92_h0 : ACode :=
 (.seq (.reg (tm 4 (.c (.int .i64 0)) .done))
 (.seq (.seq (.reg (tm 5 (.c (.int .i64 0)) .done))
 (.block 0 (.loop (.seq (.seq (.reg (tm 6 (.t 5) (tm 7 (.t 0) (tq 8 (.len (.t 7)) (tq 9 (.bin .lss (.t 6) (.t 8)) .done)))))
 (.cond (.t 9) .skip
 (.exit 0)))
 (.seq (.block 1 (.seq (.reg (tm 12 (.t 0) (tm 13 (.t 5) (tm 14 (.t 1) (tq 15 (.iaddr 5 (.t 12) (.t 13)) (tq 16 (.faddr 0 (.t 15)) (.q ⟨none, none, .store 1 (.t 16) (.t 14)⟩
 .done)))))))
 (.seq (.reg (tm 17 (.t 1) (tq 18 (.bin .add (.t 17) (.c (.int .i64 1))) (tm 1 (.t 18) .done))))
 (.seq (.reg (tm 19 (.t 0) (tm 20 (.t 5) (tm 21 (.t 1) (tq 22 (.iaddr 5 (.t 19) (.t 20)) (tq 23 (.faddr 1 (.t 22)) (.q ⟨none, none, .store 1 (.t 23) (.t 21)⟩
 .done)))))))
 (.seq (.reg (tm 24 (.t 1) (tq 25 (.bin .add (.t 24) (.c (.int .i64 1))) (tm 1 (.t 25) .done))))
 (.seq (.reg (tm 26 (.t 0) (tm 27 (.t 5) (tm 28 (.t 1) (tq 29 (.call 90 [(.t 28)]) (tq 30 (.iaddr 5 (.t 26) (.t 27)) (tq 31 (.faddr 2 (.t 30)) (.q ⟨none, none, .store 1 (.t 31) (.t 29)⟩
 .done))))))))
 (.seq (.reg (tm 32 (.t 1) (tq 33 (.bin .add (.t 32) (.c (.int .i64 1))) (tm 1 (.t 33) .done))))
 (.seq (.rev (.reg (tm 34 (.t 0) (tm 35 (.t 5) (tq 36 (.iaddr 5 (.t 34) (.t 35)) (tq 37 (.faddr 3 (.t 36)) (tq 38 (.load 1 false (.t 37)) (tm 39 (.t 1) (tq 40 (.call 91 [(.t 38), (.t 39)]) (tm 1 (.t 40) .done))))))))))
 (.rev (.reg (tm 41 (.t 0) (tm 42 (.t 5) (tq 43 (.iaddr 5 (.t 41) (.t 42)) (tq 44 (.faddr 4 (.t 43)) (tq 45 (.load 1 false (.t 44)) (tm 46 (.t 1) (tq 47 (.call 92 [(.t 45), (.t 46)]) (tm 1 (.t 47) .done))))))))))))))))))
 (.reg (tm 10 (.t 5) (tq 11 (.bin .add (.t 10) (.c (.int .i64 1))) (tm 5 (.t 11) .done)))))))))
 (.cut (.seq (.reg (tm 48 (.t 1) (tm 4 (.t 48) .done)))
 .ret))))
theorem fc92_h0 : fcomp Try.prog Try.f92 = some (c92_h0.erase, [.mov (.t 4)], 49) := by kernel_rfl
def laws_markJsonS_B_L1 (rec : ((List GJson) → Int → Option (Int × (List GJson)))) : Nat → Int → Int → (List GJson) → Option (Int × (List GJson))
  | 0, _, _, _ => none
  | k + 1, k_108, i_109, a_110 =>
    if (decide (i_109 < (a_110.length : Int))) then
    if (0 : Int) ≤ i_109 ∧ i_109 < (a_110.length : Int) then
    (a_110[(0 + i_109.toNat)]?).bind fun x_136 =>
    if (0 : Int) ≤ i_109 ∧ i_109 < (a_110.length : Int) then
    (laws_markText (w64 ((w64 (k_108 + 1)) + 1))).bind fun r_139 =>
    if (0 : Int) ≤ i_109 ∧ i_109 < (a_110.length : Int) then
    if (0 : Int) ≤ i_109 ∧ i_109 < (a_110.length : Int) then
    (laws_markStringS x_136.Keys (w64 ((w64 ((w64 (k_108 + 1)) + 1)) + 1))).bind fun r_145 =>
    if (0 : Int) ≤ i_109 ∧ i_109 < (a_110.length : Int) then
    (rec x_136.Items r_145.1).bind fun r_150 =>
    laws_markJsonS_B_L1 rec k r_150.1 (w64 (i_109 + 1)) (((((a_110.set (0 + i_109.toNat) (⟨k_108, x_136.N, x_136.T, x_136.Keys, x_136.Items⟩ : GJson)).set (0 + i_109.toNat) (⟨k_108, w64 (k_108 + 1), x_136.T, x_136.Keys, x_136.Items⟩ : GJson)).set (0 + i_109.toNat) (⟨k_108, w64 (k_108 + 1), r_139, x_136.Keys, x_136.Items⟩ : GJson)).set (0 + i_109.toNat) (⟨k_108, w64 (k_108 + 1), r_139, r_145.2, x_136.Items⟩ : GJson)).set (0 + i_109.toNat) (⟨k_108, w64 (k_108 + 1), r_139, r_145.2, r_150.2⟩ : GJson))
    else none
    else none
    else none
    else none
    else none
    else
    some (k_108, a_110)

def laws_markJsonS_B (rec : ((List GJson) → Int → Option (Int × (List GJson)))) (a_1 : (List GJson)) (k_2 : Int) : Option (Int × (List GJson)) :=
    (laws_markJsonS_B_L1 rec FUEL k_2 0 a_1).bind fun p132 =>
    (match p132 with
    | (k_130, l_131) =>
    some (k_130, l_131))
theorem w_laws_markJsonS_B (rec : ((List GJson) → Int → Option (Int × (List GJson)))) (hrec : ∀ a0 a1 r, rec a0 a1 = some r → CallHeap Try.prog ⟨true, true⟩ 92 [(.own 0 0 a0.length), (.int .i64 a1)] [.row 5 (a0.map encGJson)] (.int .i64 r.1) [.row 5 (r.2.map encGJson)]) (a_1 : (List GJson)) (k_2 : Int) (r : (Int × (List GJson))) (hf : laws_markJsonS_B rec a_1 k_2 = some r) : CallHeap Try.prog ⟨true, true⟩ 92 [(.own 0 0 a_1.length), (.int .i64 k_2)] [.row 5 (a_1.map encGJson)] (.int .i64 r.1) [.row 5 (r.2.map encGJson)] := by
 refine CallHeap.of_awp mixed Try.func92 fc92_h0 nle ?_; rw [argT_eq]; unfold laws_markJsonS_B at hf; unfold c92_h0; refine (show awp Try.prog ⟨true, true⟩ 1 _ (ofL [(0, (.own 0 0 a_1.length)), (1, (.int .i64 k_2))]) [.row 5 (a_1.map encGJson)] _ from ?_); refine awp_seq <| w_reg <| s_mov (.int .i64 0) rfl <| w_done <| k_seq <| awp_seq <| awp_seq <| w_reg <| s_mov (.int .i64 0) rfl <| w_done <| k_seq <| ?_
 obtain ⟨p132, hb1, hf⟩ := ob hf
 refine awp_cut ([(1, (.int .i64 p132.1))], [.row 5 (p132.2.map encGJson)]) ?_ ?_
 ·refine awp_loop (X := {q : (Nat × Int × Int × (List GJson)) // laws_markJsonS_B_L1 rec q.1 q.2.1 q.2.2.1 q.2.2.2 = some p132}) (fun q => ([(0, (.own 0 0 q.1.2.2.2.length)), (1, (.int .i64 q.1.2.1)), (5, (.int .i64 q.1.2.2.1))], [.row 5 (q.1.2.2.2.map encGJson)])) (fun q => q.1.1) ⟨(FUEL, k_2, 0, a_1), hb1⟩ ⟨[], [0], _, _, rfl, rfl, ⟨.refl _, ⟨.refl _, ⟨.refl _, trivial⟩⟩⟩, (.refl _)⟩ ?_
  rintro ⟨⟨k, k_108, i_109, a_110⟩, hc1⟩
  have hc1 : laws_markJsonS_B_L1 rec k k_108 i_109 a_110 = some p132 := hc1
  refine (show awp Try.prog ⟨true, true⟩ 1 _ (ofL [(0, (.own 0 0 a_110.length)), (1, (.int .i64 k_108)), (5, (.int .i64 i_109))]) [.row 5 (a_110.map encGJson)] _ from ?_)
  rcases k with _ | k
  ·rw [laws_markJsonS_B_L1.eq_1] at hc1
   cases hc1
  ·rw [laws_markJsonS_B_L1.eq_2] at hc1; refine awp_seq <| awp_seq <| w_reg <| s_mov (.int .i64 i_109) rfl <| s_mov (.own 0 0 a_110.length) rfl <| s_dof (o_lenown rfl rfl) fun hl133 => s_q (.bool (decide (i_109 < (a_110.length : Int)))) rfl (.of rfl trivial) rfl <| w_done <| k_seq <| ?_
   rcases oi hc1 with ⟨c134, hc1⟩ | ⟨c134, hc1⟩
   ·refine w_condt rfl c134 <| w_skip <| k_seq <| awp_seq <| w_blk <| awp_seq <| w_reg <| ?_
    obtain ⟨g135, hc1⟩ := og hc1
    obtain ⟨x_136, ex137, hc1⟩ := ob hc1
    refine s_mov (.own 0 0 a_110.length) rfl <| s_mov (.int .i64 i_109) rfl <| s_mov (.int .i64 k_108) rfl <| s_do (o_iaddrown rfl rfl g135.1 g135.2 rfl rfl) <| s_q (.ptr 0 (0 + i_109.toNat) 0) rfl (.of trivial trivial) rfl <| ?_; refine s_do0 (o_storeroweq (v' := (.int .i64 k_108)) (e' := (⟨k_108, x_136.N, x_136.T, x_136.Keys, x_136.Items⟩ : GJson)) rfl rfl ex137 (encGJson_eq _) rfl rfl rfl (by decide) (fun _ => by decide) ⟨rfl, nle⟩ (.of_eq (encGJson_eq (⟨k_108, x_136.N, x_136.T, x_136.Keys, x_136.Items⟩ : GJson)).symm) rfl) ?_; refine w_done <| k_seq <| awp_seq <| w_reg <| s_mov (.int .i64 k_108) rfl <| s_q (.int .i64 (w64 (k_108 + 1))) rfl (.of rfl trivial) rfl <| s_mov (.int .i64 (w64 (k_108 + 1))) rfl <| w_done <| k_seq <| ?_
    refine awp_seq <| w_reg <| ?_
    obtain ⟨g138, hc1⟩ := og hc1
    refine s_mov (.own 0 0 a_110.length) rfl <| s_mov (.int .i64 i_109) rfl <| s_mov (.int .i64 (w64 (k_108 + 1))) rfl <| s_do (o_iaddrown rfl rfl g138.1 g138.2 rfl rfl) <| s_q (.ptr 0 (0 + i_109.toNat) 1) rfl (.of trivial trivial) rfl <| ?_; refine s_do0 (o_storeroweq (v' := (.int .i64 (w64 (k_108 + 1)))) (e' := (⟨k_108, w64 (k_108 + 1), x_136.T, x_136.Keys, x_136.Items⟩ : GJson)) rfl rfl (setget ex137) (encGJson_eq _) rfl rfl rfl (by decide) (fun _ => by decide) ⟨rfl, nle⟩ (.of_eq (encGJson_eq (⟨k_108, w64 (k_108 + 1), x_136.T, x_136.Keys, x_136.Items⟩ : GJson)).symm) rfl) ?_; refine w_done <| k_seq <| awp_seq <| w_reg <| s_mov (.int .i64 (w64 (k_108 + 1))) rfl <| s_q (.int .i64 (w64 ((w64 (k_108 + 1)) + 1))) rfl (.of rfl trivial) rfl <| ?_
    refine s_mov (.int .i64 (w64 ((w64 (k_108 + 1)) + 1))) rfl <| w_done <| k_seq <| awp_seq <| w_reg <| ?_
    obtain ⟨r_139, er140, hc1⟩ := ob hc1
    obtain ⟨g141, hc1⟩ := og hc1
    refine s_mov (.own 0 0 a_110.length) rfl <| s_mov (.int .i64 i_109) rfl <| s_mov (.int .i64 (w64 ((w64 (k_108 + 1)) + 1))) rfl <| s_do (o_call (w_laws_markText _ _ er140) rfl (.refl _) rfl) <| s_do (o_iaddrown rfl rfl g141.1 g141.2 rfl rfl) <| s_q (.ptr 0 (0 + i_109.toNat) 2) rfl (.of trivial trivial) rfl <| ?_; refine s_do0 (o_storeroweq (v' := (.str r_139)) (e' := (⟨k_108, w64 (k_108 + 1), r_139, x_136.Keys, x_136.Items⟩ : GJson)) rfl rfl (setget (setget ex137)) (encGJson_eq _) rfl rfl rfl (by decide) (fun _ => by decide) ⟨rfl, nle⟩ (.of_eq (encGJson_eq (⟨k_108, w64 (k_108 + 1), r_139, x_136.Keys, x_136.Items⟩ : GJson)).symm) rfl) ?_; refine w_done <| k_seq <| awp_seq <| w_reg <| s_mov (.int .i64 (w64 ((w64 (k_108 + 1)) + 1))) rfl <| ?_
    refine s_q (.int .i64 (w64 ((w64 ((w64 (k_108 + 1)) + 1)) + 1))) rfl (.of rfl trivial) rfl <| s_mov (.int .i64 (w64 ((w64 ((w64 (k_108 + 1)) + 1)) + 1))) rfl <| w_done <| k_seq <| awp_seq <| ?_; refine w_rev (o := 0) (f := 3) (l' := x_136.Keys) (enc' := AV.str) (el := (.agg [(.int .i64 k_108), (.int .i64 (w64 (k_108 + 1))), (.str r_139), (.lst 1 (x_136.Keys.map AV.str)), (.lst 5 (x_136.Items.map encGJson))])) rfl (setget (setget (setget ex137))) (encGJson_eq _) rfl fun v_143 => ?_; refine w_reg ?_
    obtain ⟨g144, hc1⟩ := og hc1
    obtain ⟨r_145, er146, hc1⟩ := ob hc1
    refine s_mov (.own 0 0 a_110.length) rfl <| s_mov (.int .i64 i_109) rfl <| s_do (o_iaddrown rfl rfl g144.1 g144.2 rfl rfl) <| s_q (.ptr 0 (0 + i_109.toNat) 3) rfl (.of trivial trivial) rfl <| s_do (o_loadhdr rfl rfl (getset (setget (setget (setget ex137)))) nle rfl) <| s_mov (.int .i64 (w64 ((w64 ((w64 (k_108 + 1)) + 1)) + 1))) rfl <| s_do (o_callm (o := 0) (l := (((a_110.set (0 + i_109.toNat) (⟨k_108, x_136.N, x_136.T, x_136.Keys, x_136.Items⟩ : GJson)).set (0 + i_109.toNat) (⟨k_108, w64 (k_108 + 1), x_136.T, x_136.Keys, x_136.Items⟩ : GJson)).set (0 + i_109.toNat) (⟨k_108, w64 (k_108 + 1), r_139, x_136.Keys, x_136.Items⟩ : GJson))) (enc := encGJson) (enc' := AV.str) (l'' := r_145.2) (y := (⟨k_108, w64 (k_108 + 1), r_139, r_145.2, x_136.Items⟩ : GJson)) (j := 3) (el := (.agg [(.int .i64 k_108), (.int .i64 (w64 (k_108 + 1))), (.str r_139), (.hdr v_143 1 (x_136.Keys.map AV.str)), (.lst 5 (x_136.Items.map encGJson))])) rfl rfl (w_laws_markStringS _ _ _ er146) rfl rfl (setget (setget (setget ex137))) rfl (by decide) (encGJson_eq (⟨k_108, w64 (k_108 + 1), r_139, r_145.2, x_136.Items⟩ : GJson)).symm) <| ?_
    refine s_mov (.int .i64 r_145.1) rfl <| w_done <| k_seq <| ?_; refine w_rev (o := 0) (f := 4) (l' := x_136.Items) (enc' := encGJson) (el := (.agg [(.int .i64 k_108), (.int .i64 (w64 (k_108 + 1))), (.str r_139), (.lst 1 (r_145.2.map AV.str)), (.lst 5 (x_136.Items.map encGJson))])) rfl (setget (setget (setget (setget ex137)))) (encGJson_eq _) rfl fun v_148 => ?_; refine w_reg ?_
    obtain ⟨g149, hc1⟩ := og hc1
    obtain ⟨r_150, er151, hc1⟩ := ob hc1
    refine s_mov (.own 0 0 a_110.length) rfl <| s_mov (.int .i64 i_109) rfl <| s_do (o_iaddrown rfl rfl g149.1 g149.2 rfl rfl) <| s_q (.ptr 0 (0 + i_109.toNat) 4) rfl (.of trivial trivial) rfl <| s_do (o_loadhdr rfl rfl (getset (setget (setget (setget (setget ex137))))) nle rfl) <| s_mov (.int .i64 r_145.1) rfl <| s_do (o_callm (o := 0) (l := ((((a_110.set (0 + i_109.toNat) (⟨k_108, x_136.N, x_136.T, x_136.Keys, x_136.Items⟩ : GJson)).set (0 + i_109.toNat) (⟨k_108, w64 (k_108 + 1), x_136.T, x_136.Keys, x_136.Items⟩ : GJson)).set (0 + i_109.toNat) (⟨k_108, w64 (k_108 + 1), r_139, x_136.Keys, x_136.Items⟩ : GJson)).set (0 + i_109.toNat) (⟨k_108, w64 (k_108 + 1), r_139, r_145.2, x_136.Items⟩ : GJson))) (enc := encGJson) (enc' := encGJson) (l'' := r_150.2) (y := (⟨k_108, w64 (k_108 + 1), r_139, r_145.2, r_150.2⟩ : GJson)) (j := 4) (el := (.agg [(.int .i64 k_108), (.int .i64 (w64 (k_108 + 1))), (.str r_139), (.lst 1 (r_145.2.map AV.str)), (.hdr v_148 5 (x_136.Items.map encGJson))])) rfl rfl (hrec _ _ _ er151) rfl rfl (setget (setget (setget (setget ex137)))) rfl (by decide) (encGJson_eq (⟨k_108, w64 (k_108 + 1), r_139, r_145.2, r_150.2⟩ : GJson)).symm) <| ?_
    refine s_mov (.int .i64 r_150.1) rfl <| w_done <| k_blk <| k_seq <| w_reg <| s_mov (.int .i64 i_109) rfl <| s_q (.int .i64 (w64 (i_109 + 1))) rfl (.of rfl trivial) rfl <| s_mov (.int .i64 (w64 (i_109 + 1))) rfl <| w_done <| ?_; exact k_loopn ⟨(k, r_150.1, w64 (i_109 + 1), ((((a_110.set (0 + i_109.toNat) (⟨k_108, x_136.N, x_136.T, x_136.Keys, x_136.Items⟩ : GJson)).set (0 + i_109.toNat) (⟨k_108, w64 (k_108 + 1), x_136.T, x_136.Keys, x_136.Items⟩ : GJson)).set (0 + i_109.toNat) (⟨k_108, w64 (k_108 + 1), r_139, x_136.Keys, x_136.Items⟩ : GJson)).set (0 + i_109.toNat) (⟨k_108, w64 (k_108 + 1), r_139, r_145.2, x_136.Items⟩ : GJson)).set (0 + i_109.toNat) (⟨k_108, w64 (k_108 + 1), r_139, r_145.2, r_150.2⟩ : GJson)), hc1⟩ (Nat.lt_succ_self _) ⟨[], [0], _, _, rfl, rfl, ⟨.of_eq (congrArg (AV.own _ 0) (by simp)), ⟨.refl _, ⟨.refl _, trivial⟩⟩⟩, (.refl _)⟩
   ·refine w_condf rfl (bf c134) <| w_exit <| k_seqx <| k_loopx <| k_blkx <| ?_; obtain rfl := os hc1; exact ⟨[], [0], _, _, rfl, rfl, ⟨.refl _, trivial⟩, (.refl _)⟩
 ·obtain ⟨k_130, l_131⟩ := p132
  refine awp_seq <| w_reg <| s_mov (.int .i64 k_130) rfl <| s_mov (.int .i64 k_130) rfl <| w_done <| k_seq <| w_ret <| ?_; obtain rfl := os hf; exact r_heap [] [0] rfl ⟨.of trivial trivial, trivial⟩ rfl (.refl _) (.refl _)
def laws_markJsonS : Nat → (List GJson) → Int → Option (Int × (List GJson))
 | 0, _, _ => none
 | k + 1, a_1, k_2 => laws_markJsonS_B (laws_markJsonS k) a_1 k_2
theorem w_laws_markJsonS : ∀ (k : Nat) (a_1 : (List GJson)) (k_2 : Int) (r : (Int × (List GJson))), laws_markJsonS k a_1 k_2 = some r → CallHeap Try.prog ⟨true, true⟩ 92 [(.own 0 0 a_1.length), (.int .i64 k_2)] [.row 5 (a_1.map encGJson)] (.int .i64 r.1) [.row 5 (r.2.map encGJson)]
 | 0, a_1, k_2, r, h => by rw [laws_markJsonS.eq_1] at h; cases h
 | k + 1, a_1, k_2, r, h => by
  rw [laws_markJsonS.eq_2] at h; exact w_laws_markJsonS_B _ (w_laws_markJsonS k) a_1 k_2 r h

/- laws.markJson -/
def c22_h0 : ACode :=
 (.seq (.reg (tq 2 (.box 5 (.t 0)) (tm 4 (.c (.int .i64 0)) .done)))
 (.seq (.reg (tq 5 (.faddr 3 (.t 2)) (tq 6 (.load 1 false (.t 5)) (tm 7 (.t 1) (tq 8 (.call 91 [(.t 6), (.t 7)]) (tm 1 (.t 8) .done))))))
 (.seq (.reg (tq 9 (.faddr 4 (.t 2)) (tq 10 (.load 1 false (.t 9)) (tm 11 (.t 1) (tq 12 (.call 92 [(.t 10), (.t 11)]) (tm 1 (.t 12) .done))))))
 (.seq (.reg (tm 13 (.t 1) (tm 4 (.t 13) .done)))
 .ret))))
theorem fc22_h0 : fcomp Try.prog Try.f22 = some (c22_h0.erase, [.mov (.t 4)], 14) := by kernel_rfl
def laws_markJson (a_1 : GJson) (k_2 : Int) : Option (Int × GJson) :=
    (laws_markStringS a_1.Keys k_2).bind fun r_3 =>
    (laws_markJsonS FUEL a_1.Items r_3.1).bind fun r_6 =>
    some (r_6.1, (⟨a_1.Kind, a_1.N, a_1.T, r_3.2, r_6.2⟩ : GJson))
theorem w_laws_markJson (a_1 : GJson) (k_2 : Int) (r : (Int × GJson)) (hf : laws_markJson a_1 k_2 = some r) : CallHeap Try.prog ⟨true, true⟩ 22 [(.agg [(.int .i64 a_1.Kind), (.int .i64 a_1.N), (.str a_1.T), (.own 0 0 a_1.Keys.length), (.own 1 0 a_1.Items.length)]), (.int .i64 k_2)] [.row 1 (a_1.Keys.map AV.str), .row 5 (a_1.Items.map encGJson)] (.int .i64 r.1) [.row 1 (r.2.Keys.map AV.str), .row 5 (r.2.Items.map encGJson)] := by
 refine CallHeap.of_awp mixed Try.func22 fc22_h0 nle ?_; rw [argT_eq]; unfold laws_markJson at hf; unfold c22_h0; refine (show awp Try.prog ⟨true, true⟩ 2 _ (ofL [(0, (.agg [(.int .i64 a_1.Kind), (.int .i64 a_1.N), (.str a_1.T), (.own 0 0 a_1.Keys.length), (.own 1 0 a_1.Items.length)])), (1, (.int .i64 k_2))]) [.row 1 (a_1.Keys.map AV.str), .row 5 (a_1.Items.map encGJson)] _ from ?_); refine awp_seq <| w_reg <| s_do (o_box (j := 2) (c := (.agg [(.int .i64 a_1.Kind), (.int .i64 a_1.N), (.str a_1.T), (.own 0 0 a_1.Keys.length), (.own 1 0 a_1.Items.length)])) rfl trivial rfl rfl) <| s_mov (.int .i64 0) rfl <| w_done <| k_seq <| awp_seq <| w_reg <| ?_
 obtain ⟨r_3, er4, hf⟩ := ob hf
 refine s_q (.ptr 2 0 3) rfl (.of trivial trivial) rfl <| s_q (.own 0 0 a_1.Keys.length) rfl (.of nle trivial) rfl <| s_mov (.int .i64 k_2) rfl <| ?_; refine s_dof (o_callhs (v := (.int .i64 r_3.1)) (h2 := [.row 1 (r_3.2.map AV.str), .row 5 (a_1.Items.map encGJson), .box 5 (.agg [(.int .i64 a_1.Kind), (.int .i64 a_1.N), (.str a_1.T), (.own 0 0 a_1.Keys.length), (.own 1 0 a_1.Items.length)])]) [] [0] (fun _ => rfl) (w_laws_markStringS _ _ _ er4) rfl (.refl _) (.refl _) rfl rfl) fun hl5 => ?_; refine s_mov (.int .i64 r_3.1) rfl <| w_done <| k_seq <| awp_seq <| w_reg <| ?_
 obtain ⟨r_6, er7, hf⟩ := ob hf
 refine s_q (.ptr 2 0 4) rfl (.of trivial trivial) rfl <| s_q (.own 1 0 a_1.Items.length) rfl (.of nle trivial) rfl <| s_mov (.int .i64 r_3.1) rfl <| ?_; refine s_dof (o_callhs (v := (.int .i64 r_6.1)) (h2 := [.row 1 (r_3.2.map AV.str), .row 5 (r_6.2.map encGJson), .box 5 (.agg [(.int .i64 a_1.Kind), (.int .i64 a_1.N), (.str a_1.T), (.own 0 0 a_1.Keys.length), (.own 1 0 a_1.Items.length)])]) [] [1] (fun _ => rfl) (w_laws_markJsonS FUEL _ _ _ er7) rfl (.refl _) (.refl _) rfl rfl) fun hl8 => ?_; refine s_mov (.int .i64 r_6.1) rfl <| w_done <| k_seq <| awp_seq <| w_reg <| s_mov (.int .i64 r_6.1) rfl <| s_mov (.int .i64 r_6.1) rfl <| w_done <| k_seq <| w_ret <| ?_; obtain rfl := os hf; exact r_heap [] [0, 1] rfl ⟨.of trivial trivial, trivial⟩ rfl (.refl _) (.refl _)

/- laws.heldStringS -/
def c93 : ACode :=
 (.seq (.reg (tm 4 (.c (.int .i64 0)) .done))
 (.seq (.seq (.reg (tm 5 (.c (.int .i64 0)) .done))
 (.block 0 (.loop (.seq (.seq (.reg (tm 6 (.t 5) (tm 7 (.t 0) (tq 8 (.len (.t 7)) (tq 9 (.bin .lss (.t 6) (.t 8)) .done)))))
 (.cond (.t 9) .skip
 (.exit 0)))
 (.seq (.block 1 (.seq (.seq (.reg (tm 12 (.t 0) (tm 13 (.t 5) (tq 14 (.iaddr 1 (.t 12) (.t 13)) (tq 15 (.load 1 false (.t 14)) (tm 16 (.t 1) (.l ⟨(some 17), none, .call 90 [(.t 16)]⟩ [⟨(some 15), none, .load 1 false (.t 14)⟩, ⟨(some 14), none, .iaddr 1 (.t 12) (.t 13)⟩]
 (tq 18 (.bin .neq (.t 15) (.t 17)) .done) .non)))))))
 (.cond (.t 18) (.seq (.reg (tq 4 (.mov (.c (.int .i64 (-1)))) .done))
 .ret)
 .skip))
 (.reg (tm 19 (.t 1) (tq 20 (.bin .add (.t 19) (.c (.int .i64 1))) (tm 1 (.t 20) .done))))))
 (.reg (tm 10 (.t 5) (tq 11 (.bin .add (.t 10) (.c (.int .i64 1))) (tm 5 (.t 11) .done)))))))))
 (.cut (.seq (.reg (tm 21 (.t 1) (tm 4 (.t 21) .done)))
 .ret))))
theorem fc93 : fcomp Try.prog Try.f93 = some (c93.erase, [.mov (.t 4)], 22) := by kernel_rfl
def laws_heldStringS_L1  : List Str → Int → Option (Fl Int Int)
  | [], k_19 =>
    some (.go k_19)
  | x_37 :: xs, k_19 =>
    (laws_markText k_19).bind fun r_40 =>
    if (!(x_37 == r_40)) then
    some (.ret (-1))
    else
    laws_heldStringS_L1 xs (w64 (k_19 + 1)) 

def laws_heldStringS (a_1 : (List Str)) (k_2 : Int) : Option Int :=
    (laws_heldStringS_L1 a_1 k_2).bind fun q => (match q with
    | .ret r => some r
    | .go k_29 =>
    some k_29)
theorem w_laws_heldStringS (a_1 : (List Str)) (k_2 : Int) (r : Int) (hf : laws_heldStringS a_1 k_2 = some r) : CallOK Try.prog 93 .flat [(.lst 1 (a_1.map AV.str)), (.int .i64 k_2)] (.int .i64 r) := by
 refine CallOK.of_awp mixed Try.func93 fc93 nle ?_; rw [argT_eq]; unfold laws_heldStringS at hf; unfold c93; refine (show awp Try.prog false 0 _ (ofL [(0, (.lst 1 (a_1.map AV.str))), (1, (.int .i64 k_2))]) [] _ from ?_); refine awp_seq <| w_reg <| s_mov (.int .i64 0) rfl <| w_done <| k_seq <| awp_seq <| awp_seq <| w_reg <| s_mov (.int .i64 0) rfl <| w_done <| k_seq <| ?_
 obtain ⟨p30, hb1, hf⟩ := ob hf
 refine awp_cutx (X := {q : Int // p30 = .go q}) (fun q => ([(1, (.int .i64 q.1))], [])) ?_ ?_
 ·refine awp_loop (X := {q : (Int × Nat) // laws_heldStringS_L1 (a_1.drop q.2) q.1 = some p30}) (fun q => ([(0, (.lst 1 (a_1.map AV.str))), (1, (.int .i64 q.1.1)), (5, (.int .i64 (q.1.2 : Int)))], [])) (fun q => a_1.length - q.1.2) ⟨(k_2, 0), hb1⟩ ⟨[], [], _, _, rfl, rfl, ⟨.refl _, ⟨.refl _, ⟨.refl _, trivial⟩⟩⟩, (.refl _)⟩ ?_
  rintro ⟨⟨k_19, i_20⟩, hc1⟩
  have hc1 : laws_heldStringS_L1 (a_1.drop i_20) k_19 = some p30 := hc1
  refine (show awp Try.prog false 0 _ (ofL [(0, (.lst 1 (a_1.map AV.str))), (1, (.int .i64 k_19)), (5, (.int .i64 (i_20 : Int)))]) [] _ from ?_)
  rcases dropc a_1 i_20 with ⟨hie33, hd36⟩ | ⟨hlt31, x_37, hx32, hd36⟩
  ·rw [hd36, laws_heldStringS_L1.eq_1] at hc1
   have hq35 := dlf hie33
   refine awp_seq <| awp_seq <| w_reg <| s_mov (.int .i64 (i_20 : Int)) rfl <| s_mov (.lst 1 (a_1.map AV.str)) rfl <| s_dof (o_len (enc := AV.str) rfl) fun hl38 => s_q (.bool (decide ((i_20 : Int) < (a_1.length : Int)))) rfl rfl rfl <| w_done <| k_seq <| w_condf rfl hq35 <| w_exit <| k_seqx <| k_loopx <| k_blkx <| ?_; obtain rfl := os hc1; exact k_cutn ⟨_, rfl⟩ ⟨[], [], _, _, rfl, rfl, ⟨.refl _, trivial⟩, (.refl _)⟩
  ·rw [hd36, laws_heldStringS_L1.eq_2] at hc1
   have hq35 := dlt hlt31
   refine awp_seq <| awp_seq <| w_reg <| s_mov (.int .i64 (i_20 : Int)) rfl <| s_mov (.lst 1 (a_1.map AV.str)) rfl <| s_dof (o_len (enc := AV.str) rfl) fun hl39 => s_q (.bool (decide ((i_20 : Int) < (a_1.length : Int)))) rfl rfl rfl <| w_done <| k_seq <| w_condt rfl hq35 <| w_skip <| k_seq <| awp_seq <| w_blk <| awp_seq <| awp_seq <| w_reg <| ?_
   obtain ⟨r_40, er41, hc1⟩ := ob hc1
   refine s_mov (.lst 1 (a_1.map AV.str)) rfl <| s_mov (.int .i64 (i_20 : Int)) rfl <| s_do (o_iaddrn (enc := AV.str) rfl rfl hx32) <| s_q (.str x_37) rfl ⟨rfl, rfl⟩ rfl <| s_mov (.int .i64 k_19) rfl <| s_dol (o_call (w_laws_markText _ _ er41) rfl (.refl _) rfl) a_same trivial <| s_q (.bool (!(x_37 == r_40))) rfl trivial rfl <| w_done <| k_seq <| ?_
   rcases oi hc1 with ⟨c42, hc1⟩ | ⟨c42, hc1⟩
   ·refine w_condt rfl c42 <| awp_seq <| w_reg <| s_mov (.int .i64 (-1)) rfl <| w_done <| k_seq <| w_ret <| ?_; obtain rfl := os hc1; obtain rfl := os hf; exact r_flat ⟨trivial, trivial⟩ rfl (.refl _)
   ·refine w_condf rfl (bf c42) <| w_skip <| k_seq <| w_reg <| s_mov (.int .i64 k_19) rfl <| s_q (.int .i64 (w64 (k_19 + 1))) rfl rfl rfl <| s_mov (.int .i64 (w64 (k_19 + 1))) rfl <| w_done <| k_blk <| k_seq <| w_reg <| s_mov (.int .i64 (i_20 : Int)) rfl <| s_q (.int .i64 (w64 ((i_20 : Int) + 1))) rfl rfl rfl <| s_mov (.int .i64 (w64 ((i_20 : Int) + 1))) rfl <| w_done <| ?_; exact k_loopn ⟨(w64 (k_19 + 1), (i_20 + 1)), hc1⟩ (mul hlt31) ⟨[], [], _, _, rfl, rfl, ⟨.refl _, ⟨.refl _, ⟨.of_eq (congrArg (AV.int _) (w64_incr hlt31 hl39)), trivial⟩⟩⟩, (.refl _)⟩
 ·rintro ⟨k_29, rfl⟩
  refine awp_seq <| w_reg <| s_mov (.int .i64 k_29) rfl <| s_mov (.int .i64 k_29) rfl <| w_done <| k_seq <| w_ret <| ?_; obtain rfl := os hf; exact r_flat ⟨trivial, trivial⟩ rfl (.refl _)

/- laws.heldJsonS -/
def c94 : ACode :=
 (.seq (.reg (tm 4 (.c (.int .i64 0)) .done))
 (.seq (.seq (.reg (tm 5 (.c (.int .i64 0)) .done))
 (.block 0 (.loop (.seq (.seq (.reg (tm 6 (.t 5) (tm 7 (.t 0) (tq 8 (.len (.t 7)) (tq 9 (.bin .lss (.t 6) (.t 8)) .done)))))
 (.cond (.t 9) .skip
 (.exit 0)))
 (.seq (.block 1 (.seq (.seq (.reg (tm 12 (.t 0) (tm 13 (.t 5) (tq 14 (.iaddr 5 (.t 12) (.t 13)) (tq 15 (.faddr 0 (.t 14)) (tq 16 (.load 1 false (.t 15)) (tm 17 (.t 1) (tq 18 (.bin .neq (.t 16) (.t 17)) .done))))))))
 (.cond (.t 18) (.seq (.reg (tq 4 (.mov (.c (.int .i64 (-1)))) .done))
 .ret)
 .skip))
 (.seq (.reg (tm 19 (.t 1) (tq 20 (.bin .add (.t 19) (.c (.int .i64 1))) (tm 1 (.t 20) .done))))
 (.seq (.seq (.reg (tm 21 (.t 0) (tm 22 (.t 5) (tq 23 (.iaddr 5 (.t 21) (.t 22)) (tq 24 (.faddr 1 (.t 23)) (tq 25 (.load 1 false (.t 24)) (tm 26 (.t 1) (tq 27 (.bin .neq (.t 25) (.t 26)) .done))))))))
 (.cond (.t 27) (.seq (.reg (tq 4 (.mov (.c (.int .i64 (-1)))) .done))
 .ret)
 .skip))
 (.seq (.reg (tm 28 (.t 1) (tq 29 (.bin .add (.t 28) (.c (.int .i64 1))) (tm 1 (.t 29) .done))))
 (.seq (.seq (.reg (tm 30 (.t 0) (tm 31 (.t 5) (tq 32 (.iaddr 5 (.t 30) (.t 31)) (tq 33 (.faddr 2 (.t 32)) (tq 34 (.load 1 false (.t 33)) (tm 35 (.t 1) (.l ⟨(some 36), none, .call 90 [(.t 35)]⟩ [⟨(some 34), none, .load 1 false (.t 33)⟩, ⟨(some 33), none, .faddr 2 (.t 32)⟩, ⟨(some 32), none, .iaddr 5 (.t 30) (.t 31)⟩]
 (tq 37 (.bin .neq (.t 34) (.t 36)) .done) .non))))))))
 (.cond (.t 37) (.seq (.reg (tq 4 (.mov (.c (.int .i64 (-1)))) .done))
 .ret)
 .skip))
 (.seq (.reg (tm 38 (.t 1) (tq 39 (.bin .add (.t 38) (.c (.int .i64 1))) (tm 1 (.t 39) .done))))
 (.seq (.reg (tm 40 (.t 0) (tm 41 (.t 5) (tq 42 (.iaddr 5 (.t 40) (.t 41)) (tq 43 (.faddr 3 (.t 42)) (tq 44 (.load 1 false (.t 43)) (tm 45 (.t 1) (tq 46 (.call 93 [(.t 44), (.t 45)]) (tm 1 (.t 46) .done)))))))))
 (.seq (.seq (.reg (tm 47 (.t 1) (tq 48 (.bin .lss (.t 47) (.c (.int .i64 0))) .done)))
 (.cond (.t 48) (.seq (.reg (tq 4 (.mov (.c (.int .i64 (-1)))) .done))
 .ret)
 .skip))
 (.seq (.reg (tm 49 (.t 0) (tm 50 (.t 5) (tq 51 (.iaddr 5 (.t 49) (.t 50)) (tq 52 (.faddr 4 (.t 51)) (tq 53 (.load 1 false (.t 52)) (tm 54 (.t 1) (tq 55 (.call 94 [(.t 53), (.t 54)]) (tm 1 (.t 55) .done)))))))))
 (.seq (.reg (tm 56 (.t 1) (tq 57 (.bin .lss (.t 56) (.c (.int .i64 0))) .done)))
 (.cond (.t 57) (.seq (.reg (tq 4 (.mov (.c (.int .i64 (-1)))) .done))
 .ret)
 .skip))))))))))))
 (.reg (tm 10 (.t 5) (tq 11 (.bin .add (.t 10) (.c (.int .i64 1))) (tm 5 (.t 11) .done)))))))))
 (.cut (.seq (.reg (tm 58 (.t 1) (tm 4 (.t 58) .done)))
 .ret))))
theorem fc94 : fcomp Try.prog Try.f94 = some (c94.erase, [.mov (.t 4)], 59) := by kernel_rfl
def laws_heldJsonS_B_L1 (rec : ((List GJson) → Int → Option Int)) : List GJson → Int → Option (Fl Int Int)
  | [], k_51 =>
    some (.go k_51)
  | x_85 :: xs, k_51 =>
    if (x_85.Kind != k_51) then
    some (.ret (-1))
    else
    if (x_85.N != w64 (k_51 + 1)) then
    some (.ret (-1))
    else
    (laws_markText (w64 ((w64 (k_51 + 1)) + 1))).bind fun r_90 =>
    if (!(x_85.T == r_90)) then
    some (.ret (-1))
    else
    (laws_heldStringS x_85.Keys (w64 ((w64 ((w64 (k_51 + 1)) + 1)) + 1))).bind fun r_93 =>
    if (decide (r_93 < 0)) then
    some (.ret (-1))
    else
    (rec x_85.Items r_93).bind fun r_96 =>
    if (decide (r_96 < 0)) then
    some (.ret (-1))
    else
    laws_heldJsonS_B_L1 rec xs r_96 

def laws_heldJsonS_B (rec : ((List GJson) → Int → Option Int)) (a_1 : (List GJson)) (k_2 : Int) : Option Int :=
    (laws_heldJsonS_B_L1 rec a_1 k_2).bind fun q => (match q with
    | .ret r => some r
    | .go k_77 =>
    some k_77)
theorem w_laws_heldJsonS_B (rec : ((List GJson) → Int → Option Int)) (hrec : ∀ a0 a1 r, rec a0 a1 = some r → CallOK Try.prog 94 .flat [(.lst 5 (a0.map encGJson)), (.int .i64 a1)] (.int .i64 r)) (a_1 : (List GJson)) (k_2 : Int) (r : Int) (hf : laws_heldJsonS_B rec a_1 k_2 = some r) : CallOK Try.prog 94 .flat [(.lst 5 (a_1.map encGJson)), (.int .i64 k_2)] (.int .i64 r) := by
 refine CallOK.of_awp mixed Try.func94 fc94 nle ?_; rw [argT_eq]; unfold laws_heldJsonS_B at hf; unfold c94; refine (show awp Try.prog false 0 _ (ofL [(0, (.lst 5 (a_1.map encGJson))), (1, (.int .i64 k_2))]) [] _ from ?_); refine awp_seq <| w_reg <| s_mov (.int .i64 0) rfl <| w_done <| k_seq <| awp_seq <| awp_seq <| w_reg <| s_mov (.int .i64 0) rfl <| w_done <| k_seq <| ?_
 obtain ⟨p78, hb1, hf⟩ := ob hf
 refine awp_cutx (X := {q : Int // p78 = .go q}) (fun q => ([(1, (.int .i64 q.1))], [])) ?_ ?_
 ·refine awp_loop (X := {q : (Int × Nat) // laws_heldJsonS_B_L1 rec (a_1.drop q.2) q.1 = some p78}) (fun q => ([(0, (.lst 5 (a_1.map encGJson))), (1, (.int .i64 q.1.1)), (5, (.int .i64 (q.1.2 : Int)))], [])) (fun q => a_1.length - q.1.2) ⟨(k_2, 0), hb1⟩ ⟨[], [], _, _, rfl, rfl, ⟨.refl _, ⟨.refl _, ⟨.refl _, trivial⟩⟩⟩, (.refl _)⟩ ?_
  rintro ⟨⟨k_51, i_52⟩, hc1⟩
  have hc1 : laws_heldJsonS_B_L1 rec (a_1.drop i_52) k_51 = some p78 := hc1
  refine (show awp Try.prog false 0 _ (ofL [(0, (.lst 5 (a_1.map encGJson))), (1, (.int .i64 k_51)), (5, (.int .i64 (i_52 : Int)))]) [] _ from ?_)
  rcases dropc a_1 i_52 with ⟨hie81, hd84⟩ | ⟨hlt79, x_85, hx80, hd84⟩
  ·rw [hd84, laws_heldJsonS_B_L1.eq_1] at hc1
   have hq83 := dlf hie81
   refine awp_seq <| awp_seq <| w_reg <| s_mov (.int .i64 (i_52 : Int)) rfl <| s_mov (.lst 5 (a_1.map encGJson)) rfl <| s_dof (o_len (enc := encGJson) rfl) fun hl86 => s_q (.bool (decide ((i_52 : Int) < (a_1.length : Int)))) rfl rfl rfl <| w_done <| k_seq <| w_condf rfl hq83 <| w_exit <| k_seqx <| k_loopx <| k_blkx <| ?_; obtain rfl := os hc1; exact k_cutn ⟨_, rfl⟩ ⟨[], [], _, _, rfl, rfl, ⟨.refl _, trivial⟩, (.refl _)⟩
  ·rw [hd84, laws_heldJsonS_B_L1.eq_2] at hc1
   have hq83 := dlt hlt79
   refine awp_seq <| awp_seq <| w_reg <| s_mov (.int .i64 (i_52 : Int)) rfl <| s_mov (.lst 5 (a_1.map encGJson)) rfl <| s_dof (o_len (enc := encGJson) rfl) fun hl87 => s_q (.bool (decide ((i_52 : Int) < (a_1.length : Int)))) rfl rfl rfl <| w_done <| k_seq <| w_condt rfl hq83 <| w_skip <| k_seq <| awp_seq <| w_blk <| awp_seq <| awp_seq <| w_reg <| s_mov (.lst 5 (a_1.map encGJson)) rfl <| s_mov (.int .i64 (i_52 : Int)) rfl <| s_do (o_iaddrn (enc := encGJson) rfl rfl hx80) <| s_q (.iptr (encGJson x_85) 0) rfl trivial rfl <| s_do (o_loadeq (v := (.int .i64 x_85.Kind)) rfl (encGJson_eq _) nle rfl) <| s_mov (.int .i64 k_51) rfl <| s_q (.bool (x_85.Kind != k_51)) rfl rfl rfl <| w_done <| k_seq <| ?_
   rcases oi hc1 with ⟨c88, hc1⟩ | ⟨c88, hc1⟩
   ·refine w_condt rfl c88 <| awp_seq <| w_reg <| s_mov (.int .i64 (-1)) rfl <| w_done <| k_seq <| w_ret <| ?_; obtain rfl := os hc1; obtain rfl := os hf; exact r_flat ⟨trivial, trivial⟩ rfl (.refl _)
   ·refine w_condf rfl (bf c88) <| w_skip <| k_seq <| awp_seq <| w_reg <| s_mov (.int .i64 k_51) rfl <| s_q (.int .i64 (w64 (k_51 + 1))) rfl rfl rfl <| s_mov (.int .i64 (w64 (k_51 + 1))) rfl <| w_done <| k_seq <| awp_seq <| awp_seq <| w_reg <| s_mov (.lst 5 (a_1.map encGJson)) rfl <| s_mov (.int .i64 (i_52 : Int)) rfl <| s_do (o_iaddrn (enc := encGJson) rfl rfl hx80) <| s_q (.iptr (encGJson x_85) 1) rfl trivial rfl <| s_do (o_loadeq (v := (.int .i64 x_85.N)) rfl (encGJson_eq _) nle rfl) <| s_mov (.int .i64 (w64 (k_51 + 1))) rfl <| s_q (.bool (x_85.N != w64 (k_51 + 1))) rfl rfl rfl <| w_done <| k_seq <| ?_
    rcases oi hc1 with ⟨c89, hc1⟩ | ⟨c89, hc1⟩
    ·refine w_condt rfl c89 <| awp_seq <| w_reg <| s_mov (.int .i64 (-1)) rfl <| w_done <| k_seq <| w_ret <| ?_; obtain rfl := os hc1; obtain rfl := os hf; exact r_flat ⟨trivial, trivial⟩ rfl (.refl _)
    ·refine w_condf rfl (bf c89) <| w_skip <| k_seq <| awp_seq <| w_reg <| s_mov (.int .i64 (w64 (k_51 + 1))) rfl <| s_q (.int .i64 (w64 ((w64 (k_51 + 1)) + 1))) rfl rfl rfl <| s_mov (.int .i64 (w64 ((w64 (k_51 + 1)) + 1))) rfl <| w_done <| k_seq <| awp_seq <| awp_seq <| w_reg <| ?_
     obtain ⟨r_90, er91, hc1⟩ := ob hc1
     refine s_mov (.lst 5 (a_1.map encGJson)) rfl <| s_mov (.int .i64 (i_52 : Int)) rfl <| s_do (o_iaddrn (enc := encGJson) rfl rfl hx80) <| s_q (.iptr (encGJson x_85) 2) rfl trivial rfl <| s_do (o_loadeq (v := (.str x_85.T)) rfl (encGJson_eq _) nle rfl) <| s_mov (.int .i64 (w64 ((w64 (k_51 + 1)) + 1))) rfl <| s_dol (o_call (w_laws_markText _ _ er91) rfl (.refl _) rfl) a_same trivial <| s_q (.bool (!(x_85.T == r_90))) rfl trivial rfl <| w_done <| k_seq <| ?_
     rcases oi hc1 with ⟨c92, hc1⟩ | ⟨c92, hc1⟩
     ·refine w_condt rfl c92 <| awp_seq <| w_reg <| s_mov (.int .i64 (-1)) rfl <| w_done <| k_seq <| w_ret <| ?_; obtain rfl := os hc1; obtain rfl := os hf; exact r_flat ⟨trivial, trivial⟩ rfl (.refl _)
     ·refine w_condf rfl (bf c92) <| w_skip <| k_seq <| awp_seq <| w_reg <| s_mov (.int .i64 (w64 ((w64 (k_51 + 1)) + 1))) rfl <| s_q (.int .i64 (w64 ((w64 ((w64 (k_51 + 1)) + 1)) + 1))) rfl rfl rfl <| s_mov (.int .i64 (w64 ((w64 ((w64 (k_51 + 1)) + 1)) + 1))) rfl <| w_done <| k_seq <| awp_seq <| w_reg <| ?_
      obtain ⟨r_93, er94, hc1⟩ := ob hc1
      refine s_mov (.lst 5 (a_1.map encGJson)) rfl <| s_mov (.int .i64 (i_52 : Int)) rfl <| s_do (o_iaddrn (enc := encGJson) rfl rfl hx80) <| s_q (.iptr (encGJson x_85) 3) rfl trivial rfl <| s_do (o_loadeq (v := (.lst 1 (x_85.Keys.map AV.str))) rfl (encGJson_eq _) nle rfl) <| s_mov (.int .i64 (w64 ((w64 ((w64 (k_51 + 1)) + 1)) + 1))) rfl <| s_do (o_call (w_laws_heldStringS _ _ _ er94) rfl (.refl _) rfl) <| s_mov (.int .i64 r_93) rfl <| w_done <| k_seq <| awp_seq <| awp_seq <| w_reg <| s_mov (.int .i64 r_93) rfl <| s_q (.bool (decide (r_93 < 0))) rfl rfl rfl <| w_done <| k_seq <| ?_
      rcases oi hc1 with ⟨c95, hc1⟩ | ⟨c95, hc1⟩
      ·refine w_condt rfl c95 <| awp_seq <| w_reg <| s_mov (.int .i64 (-1)) rfl <| w_done <| k_seq <| w_ret <| ?_; obtain rfl := os hc1; obtain rfl := os hf; exact r_flat ⟨trivial, trivial⟩ rfl (.refl _)
      ·refine w_condf rfl (bf c95) <| w_skip <| k_seq <| awp_seq <| w_reg <| ?_
       obtain ⟨r_96, er97, hc1⟩ := ob hc1
       refine s_mov (.lst 5 (a_1.map encGJson)) rfl <| s_mov (.int .i64 (i_52 : Int)) rfl <| s_do (o_iaddrn (enc := encGJson) rfl rfl hx80) <| s_q (.iptr (encGJson x_85) 4) rfl trivial rfl <| s_do (o_loadeq (v := (.lst 5 (x_85.Items.map encGJson))) rfl (encGJson_eq _) nle rfl) <| s_mov (.int .i64 r_93) rfl <| s_do (o_call (hrec _ _ _ er97) rfl (.refl _) rfl) <| s_mov (.int .i64 r_96) rfl <| w_done <| k_seq <| awp_seq <| w_reg <| s_mov (.int .i64 r_96) rfl <| s_q (.bool (decide (r_96 < 0))) rfl rfl rfl <| w_done <| k_seq <| ?_
       rcases oi hc1 with ⟨c98, hc1⟩ | ⟨c98, hc1⟩
       ·refine w_condt rfl c98 <| awp_seq <| w_reg <| s_mov (.int .i64 (-1)) rfl <| w_done <| k_seq <| w_ret <| ?_; obtain rfl := os hc1; obtain rfl := os hf; exact r_flat ⟨trivial, trivial⟩ rfl (.refl _)
       ·refine w_condf rfl (bf c98) <| w_skip <| k_blk <| k_seq <| w_reg <| s_mov (.int .i64 (i_52 : Int)) rfl <| s_q (.int .i64 (w64 ((i_52 : Int) + 1))) rfl rfl rfl <| s_mov (.int .i64 (w64 ((i_52 : Int) + 1))) rfl <| w_done <| ?_; exact k_loopn ⟨(r_96, (i_52 + 1)), hc1⟩ (mul hlt79) ⟨[], [], _, _, rfl, rfl, ⟨.refl _, ⟨.refl _, ⟨.of_eq (congrArg (AV.int _) (w64_incr hlt79 hl87)), trivial⟩⟩⟩, (.refl _)⟩
 ·rintro ⟨k_77, rfl⟩
  refine awp_seq <| w_reg <| s_mov (.int .i64 k_77) rfl <| s_mov (.int .i64 k_77) rfl <| w_done <| k_seq <| w_ret <| ?_; obtain rfl := os hf; exact r_flat ⟨trivial, trivial⟩ rfl (.refl _)
def laws_heldJsonS : Nat → (List GJson) → Int → Option Int
 | 0, _, _ => none
 | k + 1, a_1, k_2 => laws_heldJsonS_B (laws_heldJsonS k) a_1 k_2
theorem w_laws_heldJsonS : ∀ (k : Nat) (a_1 : (List GJson)) (k_2 : Int) (r : Int), laws_heldJsonS k a_1 k_2 = some r → CallOK Try.prog 94 .flat [(.lst 5 (a_1.map encGJson)), (.int .i64 k_2)] (.int .i64 r)
 | 0, a_1, k_2, r, h => by rw [laws_heldJsonS.eq_1] at h; cases h
 | k + 1, a_1, k_2, r, h => by
  rw [laws_heldJsonS.eq_2] at h; exact w_laws_heldJsonS_B _ (w_laws_heldJsonS k) a_1 k_2 r h

/- laws.heldJson -/
def c23 : ACode :=
 (.seq (.reg (tq 2 (.box 5 (.t 0)) (tm 4 (.c (.int .i64 0)) .done)))
 (.seq (.reg (tq 5 (.faddr 3 (.t 2)) (tq 6 (.load 1 false (.t 5)) (tm 7 (.t 1) (tq 8 (.call 93 [(.t 6), (.t 7)]) (tm 1 (.t 8) .done))))))
 (.seq (.seq (.reg (tm 9 (.t 1) (tq 10 (.bin .lss (.t 9) (.c (.int .i64 0))) .done)))
 (.cond (.t 10) (.seq (.reg (tq 4 (.mov (.c (.int .i64 (-1)))) .done))
 .ret)
 .skip))
 (.seq (.reg (tq 11 (.faddr 4 (.t 2)) (tq 12 (.load 1 false (.t 11)) (tm 13 (.t 1) (tq 14 (.call 94 [(.t 12), (.t 13)]) (tm 1 (.t 14) .done))))))
 (.seq (.seq (.reg (tm 15 (.t 1) (tq 16 (.bin .lss (.t 15) (.c (.int .i64 0))) .done)))
 (.cond (.t 16) (.seq (.reg (tq 4 (.mov (.c (.int .i64 (-1)))) .done))
 .ret)
 .skip))
 (.seq (.reg (tm 17 (.t 1) (tm 4 (.t 17) .done)))
 .ret))))))
theorem fc23 : fcomp Try.prog Try.f23 = some (c23.erase, [.mov (.t 4)], 18) := by kernel_rfl
def laws_heldJson (a_1 : GJson) (k_2 : Int) : Option Int :=
    (laws_heldStringS a_1.Keys k_2).bind fun r_3 =>
    if (decide (r_3 < 0)) then
    some (-1)
    else
    (laws_heldJsonS FUEL a_1.Items r_3).bind fun r_6 =>
    if (decide (r_6 < 0)) then
    some (-1)
    else
    some r_6
theorem w_laws_heldJson (a_1 : GJson) (k_2 : Int) (r : Int) (hf : laws_heldJson a_1 k_2 = some r) : CallOK Try.prog 23 .flat [(encGJson a_1), (.int .i64 k_2)] (.int .i64 r) := by
 refine CallOK.of_awp mixed Try.func23 fc23 nle ?_; rw [argT_eq]; rw [encGJson_eq a_1]; unfold laws_heldJson at hf; unfold c23; refine (show awp Try.prog false 0 _ (ofL [(0, (.agg [(.int .i64 a_1.Kind), (.int .i64 a_1.N), (.str a_1.T), (.lst 1 (a_1.Keys.map AV.str)), (.lst 5 (a_1.Items.map encGJson))])), (1, (.int .i64 k_2))]) [] _ from ?_); refine awp_seq <| w_reg <| s_do (o_box (j := 0) (c := (.agg [(.int .i64 a_1.Kind), (.int .i64 a_1.N), (.str a_1.T), (.lst 1 (a_1.Keys.map AV.str)), (.lst 5 (a_1.Items.map encGJson))])) rfl trivial rfl rfl) <| s_mov (.int .i64 0) rfl <| w_done <| k_seq <| awp_seq <| w_reg <| ?_
 obtain ⟨r_3, er4, hf⟩ := ob hf
 refine s_q (.ptr 0 0 3) rfl trivial rfl <| s_q (.lst 1 (a_1.Keys.map AV.str)) rfl nle rfl <| s_mov (.int .i64 k_2) rfl <| s_do (o_call (w_laws_heldStringS _ _ _ er4) rfl (.refl _) rfl) <| s_mov (.int .i64 r_3) rfl <| w_done <| k_seq <| awp_seq <| awp_seq <| w_reg <| s_mov (.int .i64 r_3) rfl <| s_q (.bool (decide (r_3 < 0))) rfl rfl rfl <| w_done <| k_seq <| ?_
 rcases oi hf with ⟨c5, hf⟩ | ⟨c5, hf⟩
 ·refine w_condt rfl c5 <| awp_seq <| w_reg <| s_mov (.int .i64 (-1)) rfl <| w_done <| k_seq <| w_ret <| ?_; obtain rfl := os hf; exact r_flat ⟨trivial, trivial⟩ rfl (.refl _)
 ·refine w_condf rfl (bf c5) <| w_skip <| k_seq <| awp_seq <| w_reg <| ?_
  obtain ⟨r_6, er7, hf⟩ := ob hf
  refine s_q (.ptr 0 0 4) rfl trivial rfl <| s_q (.lst 5 (a_1.Items.map encGJson)) rfl nle rfl <| s_mov (.int .i64 r_3) rfl <| s_do (o_call (w_laws_heldJsonS FUEL _ _ _ er7) rfl (.refl _) rfl) <| s_mov (.int .i64 r_6) rfl <| w_done <| k_seq <| awp_seq <| awp_seq <| w_reg <| s_mov (.int .i64 r_6) rfl <| s_q (.bool (decide (r_6 < 0))) rfl rfl rfl <| w_done <| k_seq <| ?_
  rcases oi hf with ⟨c8, hf⟩ | ⟨c8, hf⟩
  ·refine w_condt rfl c8 <| awp_seq <| w_reg <| s_mov (.int .i64 (-1)) rfl <| w_done <| k_seq <| w_ret <| ?_; obtain rfl := os hf; exact r_flat ⟨trivial, trivial⟩ rfl (.refl _)
  ·refine w_condf rfl (bf c8) <| w_skip <| k_seq <| awp_seq <| w_reg <| s_mov (.int .i64 r_6) rfl <| s_mov (.int .i64 r_6) rfl <| w_done <| k_seq <| w_ret <| ?_; obtain rfl := os hf; exact r_flat ⟨trivial, trivial⟩ rfl (.refl _)

/- laws.FnExactDatumJson -/
def c3 : ACode :=
 (.seq (.reg (tm 2 (.c (.bool false)) .done))
 (.seq (.reg (tm 3 (.c (.int .i64 1048576)) .done))
 (.seq (.reg (tm 14 (.t 0) (tm 15 (.t 3) (tq 16 (.call 15 [(.t 14), (.t 15)]) (tm 3 (.t 16) .done)))))
 (.seq (.seq (.reg (tm 17 (.t 3) (tq 18 (.bin .lss (.t 17) (.c (.int .i64 0))) .done)))
 (.cond (.t 18) (.seq (.reg (tm 2 (.c (.bool true)) .done))
 .ret)
 .skip))
 (.seq (.reg (tm 20 (.t 0) (tq 21 (.call 17 [(.t 20)]) (tq 22 (.call 16 [(.t 21)]) (tm 19 (.t 22) (tq 23 (.extract 0 (.t 19)) (tq 24 (.extract 1 (.t 19)) (tq 4 (.box 5 (.c (.agg [(.int .i64 0), (.int .i64 0), (.str []), .nil, .nil]))) (.q ⟨none, none, .store 5 (.t 4) (.t 23)⟩
 (tm 5 (.t 24) .done))))))))))
 (.seq (.reg (tm 25 (.t 0) (tq 26 (.call 17 [(.t 25)]) (tm 6 (.t 26) .done))))
 (.seq (.reg (tm 28 (.t 6) (tq 29 (.call 18 [(.t 28)]) (tm 27 (.t 29) (tq 30 (.extract 0 (.t 27)) (tq 31 (.extract 1 (.t 27)) (tq 7 (.box 5 (.c (.agg [(.int .i64 0), (.int .i64 0), (.str []), .nil, .nil]))) (.q ⟨none, none, .store 5 (.t 7) (.t 30)⟩
 (tm 8 (.t 31) .done)))))))))
 (.seq (.seq (.reg (tq 32 (.load 5 true (.t 7)) (tq 33 (.load 5 true (.t 4)) (tq 34 (.call 19 [(.t 32), (.t 33)]) (tq 35 (.not (.t 34)) (tm 36 (.t 35) (tg 37 36 false (.mov (.t 8)) (tg 38 36 false (.mov (.t 5)) (tg 39 36 false (.bin .neq (.t 37) (.t 38)) (tq 40 (.pick (.t 36) (.c (.bool true)) (.t 39)) .done))))))))))
 (.cut (.cond (.t 40) (.seq (.reg (tm 2 (.c (.bool false)) .done))
 .ret)
 .skip)))
 (.seq (.seq (.reg (tm 41 (.t 6) (tm 42 (.t 0) (tq 43 (.call 17 [(.t 42)]) (tq 44 (.call 20 [(.t 41), (.t 43)]) (tq 45 (.not (.t 44)) .done))))))
 (.cond (.t 45) (.seq (.reg (tm 2 (.c (.bool false)) .done))
 .ret)
 .skip))
 (.seq (.reg (tm 9 (.c (.int .i64 1)) .done))
 (.seq (.reg (tm 46 (.t 6) (tm 47 (.t 9) (tq 48 (.call 21 [(.t 46), (.t 47)]) (tm 9 (.t 48) .done)))))
 (.seq (.seq (.reg (tm 49 (.t 9) (tq 50 (.bin .lss (.t 49) (.c (.int .i64 0))) (tm 51 (.t 50) (tg 52 51 false (.load 5 true (.t 7)) (tg 53 51 false (.load 5 true (.t 4)) (tg 54 51 false (.call 19 [(.t 52), (.t 53)]) (tg 55 51 false (.not (.t 54)) (tq 56 (.pick (.t 51) (.c (.bool true)) (.t 55)) (tm 57 (.t 56) (tg 58 57 false (.mov (.t 8)) (tg 59 57 false (.mov (.t 5)) (tg 60 57 false (.bin .neq (.t 58) (.t 59)) (tq 61 (.pick (.t 57) (.c (.bool true)) (.t 60)) .done))))))))))))))
 (.cut (.cond (.t 61) (.seq (.reg (tm 2 (.c (.bool false)) .done))
 .ret)
 .skip)))
 (.seq (.reg (tm 10 (.c (.int .i64 1)) .done))
 (.seq (.reg (tq 62 (.load 5 true (.t 7)) (tm 63 (.t 10) (tq 64 (.call 22 [(.t 62), (.t 63)]) (tm 10 (.t 64) .done)))))
 (.seq (.reg (tm 11 (.c (.int .i64 1)) .done))
 (.seq (.reg (tq 65 (.load 5 true (.t 7)) (tm 66 (.t 11) (tq 67 (.call 23 [(.t 65), (.t 66)]) (tm 11 (.t 67) .done)))))
 (.seq (.seq (.reg (tm 68 (.t 11) (tq 69 (.bin .lss (.t 68) (.c (.int .i64 0))) .done)))
 (.cond (.t 69) (.seq (.reg (tm 2 (.c (.bool false)) .done))
 .ret)
 .skip))
 (.seq (.seq (.reg (tm 70 (.t 11) (tm 71 (.t 10) (tq 72 (.bin .neq (.t 70) (.t 71)) .done))))
 (.cond (.t 72) (.seq (.reg (tm 2 (.c (.bool false)) .done))
 .ret)
 .skip))
 (.seq (.reg (tm 74 (.t 0) (tq 75 (.call 17 [(.t 74)]) (tq 76 (.call 18 [(.t 75)]) (tm 73 (.t 76) (tq 77 (.extract 0 (.t 73)) (tq 78 (.extract 1 (.t 73)) (tq 12 (.box 5 (.c (.agg [(.int .i64 0), (.int .i64 0), (.str []), .nil, .nil]))) (.q ⟨none, none, .store 5 (.t 12) (.t 77)⟩
 (tm 13 (.t 78) .done))))))))))
 (.seq (.seq (.reg (tq 79 (.load 5 true (.t 12)) (tq 80 (.load 5 true (.t 4)) (tq 81 (.call 19 [(.t 79), (.t 80)]) (tq 82 (.not (.t 81)) (tm 83 (.t 82) (tg 84 83 false (.mov (.t 13)) (tg 85 83 false (.mov (.t 5)) (tg 86 83 false (.bin .neq (.t 84) (.t 85)) (tq 87 (.pick (.t 83) (.c (.bool true)) (.t 86)) .done))))))))))
 (.cut (.cond (.t 87) (.seq (.reg (tm 2 (.c (.bool false)) .done))
 .ret)
 .skip)))
 (.seq (.reg (tm 11 (.c (.int .i64 1)) .done))
 (.seq (.reg (tq 88 (.load 5 true (.t 7)) (tm 89 (.t 11) (tq 90 (.call 23 [(.t 88), (.t 89)]) (tm 11 (.t 90) .done)))))
 (.seq (.seq (.reg (tm 91 (.t 11) (tq 92 (.bin .lss (.t 91) (.c (.int .i64 0))) .done)))
 (.cond (.t 92) (.seq (.reg (tm 2 (.c (.bool false)) .done))
 .ret)
 .skip))
 (.seq (.seq (.reg (tm 93 (.t 11) (tm 94 (.t 10) (tq 95 (.bin .neq (.t 93) (.t 94)) .done))))
 (.cond (.t 95) (.seq (.reg (tm 2 (.c (.bool false)) .done))
 .ret)
 .skip))
 (.seq (.reg (tm 2 (.c (.bool true)) .done))
 .ret)))))))))))))))))))))))))
theorem fc3 : fcomp Try.prog Try.f3 = some (c3.erase, [.mov (.t 2)], 96) := by kernel_rfl
def laws_FnExactDatumJson (aD_1 : (List GAtom)) : Option Bool :=
    (laws_szAtomS aD_1 1048576).bind fun r_2 =>
    if (decide (r_2 < 0)) then
    some true
    else
    (laws_toAtomS aD_1).bind fun r_5 =>
    (spec_DatumJson r_5).bind fun r_7 =>
    (laws_toAtomS aD_1).bind fun r_9 =>
    (impl_DatumJson r_9).bind fun r_11 =>
    (((laws_eqJson FUEL r_11.1 r_7.1).bind fun r_18 =>
    if (!r_18) then
    some true
    else
    some (r_11.2 != r_7.2) : Option Bool)).bind fun s40_16 =>
    if s40_16 then
    some false
    else
    (laws_toAtomS aD_1).bind fun r_22 =>
    (laws_eqAtomS r_9 r_22).bind fun r_24 =>
    if (!r_24) then
    some false
    else
    (laws_markAtomS r_9 1).bind fun r_27 =>
    ((if (decide (r_27.1 < 0)) then
    some true
    else
    (laws_eqJson FUEL r_11.1 r_7.1).bind fun r_36 =>
    some (bif (!r_36) then true else (r_11.2 != r_7.2)) : Option Bool)).bind fun s61_33 =>
    if s61_33 then
    some false
    else
    (laws_markJson r_11.1 1).bind fun r_39 =>
    (laws_heldJson (⟨r_11.1.Kind, r_11.1.N, r_11.1.T, r_39.2.Keys, r_39.2.Items⟩ : GJson) 1).bind fun r_42 =>
    if (decide (r_42 < 0)) then
    some false
    else
    if (r_42 != r_39.1) then
    some false
    else
    (laws_toAtomS aD_1).bind fun r_46 =>
    (impl_DatumJson r_46).bind fun r_48 =>
    (((laws_eqJson FUEL r_48.1 r_7.1).bind fun r_55 =>
    if (!r_55) then
    some true
    else
    some (r_48.2 != r_7.2) : Option Bool)).bind fun s87_53 =>
    if s87_53 then
    some false
    else
    (laws_heldJson (⟨r_11.1.Kind, r_11.1.N, r_11.1.T, r_39.2.Keys, r_39.2.Items⟩ : GJson) 1).bind fun r_59 =>
    if (decide (r_59 < 0)) then
    some false
    else
    if (r_59 != r_39.1) then
    some false
    else
    some true
theorem w_laws_FnExactDatumJson (aD_1 : (List GAtom)) (r : Bool) (hf : laws_FnExactDatumJson aD_1 = some r) : CallOK Try.prog 3 .flat [(.lst 3 (aD_1.map encGAtom))] (.bool r) := by
 refine CallOK.of_awp' (md := ⟨true, true⟩) (fun _ => rfl) (fun _ => rfl) (fun h => by cases h) mixed Try.func3 fc3 nle ?_; rw [argT_eq]; unfold laws_FnExactDatumJson at hf; unfold c3; refine (show awp Try.prog ⟨true, true⟩ 0 _ (ofL [(0, (.lst 3 (aD_1.map encGAtom)))]) [] _ from ?_); refine awp_seq <| w_reg <| s_mov (.bool false) rfl <| w_done <| k_seq <| awp_seq <| w_reg <| s_mov (.int .i64 1048576) rfl <| w_done <| k_seq <| awp_seq <| w_reg <| ?_
 obtain ⟨r_2, er3, hf⟩ := ob hf
 refine s_mov (.lst 3 (aD_1.map encGAtom)) rfl <| s_mov (.int .i64 1048576) rfl <| s_do (o_call (w_laws_szAtomS _ _ _ er3) rfl (.refl _) rfl) <| s_mov (.int .i64 r_2) rfl <| w_done <| k_seq <| awp_seq <| awp_seq <| w_reg <| s_mov (.int .i64 r_2) rfl <| s_q (.bool (decide (r_2 < 0))) rfl (.of rfl trivial) rfl <| w_done <| k_seq <| ?_
 rcases oi hf with ⟨c4, hf⟩ | ⟨c4, hf⟩
 ·refine w_condt rfl c4 <| awp_seq <| w_reg <| s_mov (.bool true) rfl <| w_done <| k_seq <| w_ret <| ?_; obtain rfl := os hf; exact r_flat ⟨.of trivial trivial, trivial⟩ rfl (.refl _)
 ·refine w_condf rfl (bf c4) <| w_skip <| k_seq <| awp_seq <| w_reg <| ?_
  obtain ⟨r_5, er6, hf⟩ := ob hf
  obtain ⟨r_7, er8, hf⟩ := ob hf
  refine s_mov (.lst 3 (aD_1.map encGAtom)) rfl <| s_do (o_callf (v := (.own 0 0 r_5.length)) (h' := [.row 3 (r_5.map encGAtom)]) (w_laws_toAtomS _ _ er6) rfl (.refl _) (by simp only [openV, openVs, List.length_map, List.nil_append, List.append_nil, List.cons_append]; rfl)) <| s_do (o_callf (v := (.tup [(.agg [(.int .i64 r_7.1.Kind), (.int .i64 r_7.1.N), (.str r_7.1.T), (.own 1 0 r_7.1.Keys.length), (.own 2 0 r_7.1.Items.length)]), (.int .i64 r_7.2)])) (h' := [.row 1 (r_7.1.Keys.map AV.str), .row 5 (r_7.1.Items.map encGJson)]) (w_spec_DatumJson _ _ er8) rfl (.cons (.of_eq (congrArg (AV.lst _) (tko r_5))) .nil) (by simp only [openV, openVs, List.length_map, encGJson_eq, List.nil_append, List.append_nil, List.cons_append]; rfl)) <| ?_
  refine s_mov (.tup [(.agg [(.int .i64 r_7.1.Kind), (.int .i64 r_7.1.N), (.str r_7.1.T), (.own 1 0 r_7.1.Keys.length), (.own 2 0 r_7.1.Items.length)]), (.int .i64 r_7.2)]) rfl <| s_q (.agg [(.int .i64 r_7.1.Kind), (.int .i64 r_7.1.N), (.str r_7.1.T), (.own 1 0 r_7.1.Keys.length), (.own 2 0 r_7.1.Items.length)]) rfl (.of nle trivial) rfl <| s_q (.int .i64 r_7.2) rfl (.of nle trivial) rfl <| s_do (o_box (j := 3) (c := (.agg [(.int .i64 0), (.int .i64 0), (.str []), .nil, .nil])) rfl trivial rfl rfl) <| s_do0 (o_storebox (v := (.agg [(.int .i64 r_7.1.Kind), (.int .i64 r_7.1.N), (.str r_7.1.T), (.own 1 0 r_7.1.Keys.length), (.own 2 0 r_7.1.Items.length)])) (y' := (.agg [(.int .i64 r_7.1.Kind), (.int .i64 r_7.1.N), (.str r_7.1.T), (.own 1 0 r_7.1.Keys.length), (.own 2 0 r_7.1.Items.length)])) rfl rfl rfl trivial ⟨rfl, nle⟩ ⟨⟨rfl, trivial⟩, ⟨⟨rfl, trivial⟩, ⟨⟨rfl, trivial⟩, ⟨⟨rfl, trivial⟩, ⟨⟨rfl, trivial⟩, trivial⟩⟩⟩⟩⟩ rfl) <| ?_
  refine s_mov (.int .i64 r_7.2) rfl <| w_done <| k_seq <| awp_seq <| w_reg <| ?_
  obtain ⟨r_9, er10, hf⟩ := ob hf
  refine s_mov (.lst 3 (aD_1.map encGAtom)) rfl <| s_do (o_callf (v := (.own 4 0 r_9.length)) (h' := [.row 3 (r_9.map encGAtom)]) (w_laws_toAtomS _ _ er10) rfl (.refl _) (by simp only [openV, openVs, List.length_map, List.nil_append, List.append_nil, List.cons_append]; rfl)) <| s_mov (.own 4 0 r_9.length) rfl <| w_done <| k_seq <| awp_seq <| w_reg <| ?_
  obtain ⟨r_11, er12, hf⟩ := ob hf
  refine s_mov (.own 4 0 r_9.length) rfl <| s_do (o_callf (v := (.tup [(.agg [(.int .i64 r_11.1.Kind), (.int .i64 r_11.1.N), (.str r_11.1.T), (.own 5 0 r_11.1.Keys.length), (.own 6 0 r_11.1.Items.length)]), (.int .i64 r_11.2)])) (h' := [.row 1 (r_11.1.Keys.map AV.str), .row 5 (r_11.1.Items.map encGJson)]) (w_impl_DatumJson _ _ er12) rfl (.cons (.of_eq (congrArg (AV.lst _) (tko r_9))) .nil) (by simp only [openV, openVs, List.length_map, encGJson_eq, List.nil_append, List.append_nil, List.cons_append]; rfl)) <| s_mov (.tup [(.agg [(.int .i64 r_11.1.Kind), (.int .i64 r_11.1.N), (.str r_11.1.T), (.own 5 0 r_11.1.Keys.length), (.own 6 0 r_11.1.Items.length)]), (.int .i64 r_11.2)]) rfl <| s_q (.agg [(.int .i64 r_11.1.Kind), (.int .i64 r_11.1.N), (.str r_11.1.T), (.own 5 0 r_11.1.Keys.length), (.own 6 0 r_11.1.Items.length)]) rfl (.of nle trivial) rfl <| ?_
  refine s_q (.int .i64 r_11.2) rfl (.of nle trivial) rfl <| s_do (o_box (j := 7) (c := (.agg [(.int .i64 0), (.int .i64 0), (.str []), .nil, .nil])) rfl trivial rfl rfl) <| s_do0 (o_storebox (v := (.agg [(.int .i64 r_11.1.Kind), (.int .i64 r_11.1.N), (.str r_11.1.T), (.own 5 0 r_11.1.Keys.length), (.own 6 0 r_11.1.Items.length)])) (y' := (.agg [(.int .i64 r_11.1.Kind), (.int .i64 r_11.1.N), (.str r_11.1.T), (.own 5 0 r_11.1.Keys.length), (.own 6 0 r_11.1.Items.length)])) rfl rfl rfl trivial ⟨rfl, nle⟩ ⟨⟨rfl, trivial⟩, ⟨⟨rfl, trivial⟩, ⟨⟨rfl, trivial⟩, ⟨⟨rfl, trivial⟩, ⟨⟨rfl, trivial⟩, trivial⟩⟩⟩⟩⟩ rfl) <| s_mov (.int .i64 r_11.2) rfl <| w_done <| k_seq <| awp_seq <| awp_seq <| ?_
  obtain ⟨s40_16, hb1, hf⟩ := ob hf
  refine awp_cut ([(0, (.lst 3 (aD_1.map encGAtom))), (4, (.ptr 0 0 0)), (5, (.int .i64 r_7.2)), (6, (.own 1 0 r_9.length)), (7, (.ptr 2 0 0)), (8, (.int .i64 r_11.2)), (40, (.bool s40_16))], [.box 5 (.agg [(.int .i64 r_7.1.Kind), (.int .i64 r_7.1.N), (.str r_7.1.T), (.own 3 0 r_7.1.Keys.length), (.own 4 0 r_7.1.Items.length)]), .row 3 (r_9.map encGAtom), .box 5 (.agg [(.int .i64 r_11.1.Kind), (.int .i64 r_11.1.N), (.str r_11.1.T), (.own 5 0 r_11.1.Keys.length), (.own 6 0 r_11.1.Items.length)]), .row 1 (r_7.1.Keys.map AV.str), .row 5 (r_7.1.Items.map encGJson), .row 1 (r_11.1.Keys.map AV.str), .row 5 (r_11.1.Items.map encGJson)]) ?_ ?_
  ·refine w_reg ?_
   obtain ⟨r_18, er19, hb1⟩ := ob hb1
   rcases oi hb1 with ⟨c20, hb1⟩ | ⟨c20, hb1⟩
   ·refine s_q (.agg [(.int .i64 r_11.1.Kind), (.int .i64 r_11.1.N), (.str r_11.1.T), (.own 5 0 r_11.1.Keys.length), (.own 6 0 r_11.1.Items.length)]) rfl (.of nle trivial) rfl <| s_q (.agg [(.int .i64 r_7.1.Kind), (.int .i64 r_7.1.N), (.str r_7.1.T), (.own 1 0 r_7.1.Keys.length), (.own 2 0 r_7.1.Items.length)]) rfl (.of nle trivial) rfl <| s_do (o_call (w_laws_eqJson FUEL _ _ _ er19) rfl (.cons (leJ (x := r_11.1) (.agg (.cons (.refl _) (.cons (.refl _) (.cons (.refl _) (.cons (.of_eq (congrArg (AV.lst _) (tko (enc := AV.str) r_11.1.Keys))) (.cons (.of_eq (congrArg (AV.lst _) (tko (enc := encGJson) r_11.1.Items))) .nil))))))) (.cons (leJ (x := r_7.1) (.agg (.cons (.refl _) (.cons (.refl _) (.cons (.refl _) (.cons (.of_eq (congrArg (AV.lst _) (tko (enc := AV.str) r_7.1.Keys))) (.cons (.of_eq (congrArg (AV.lst _) (tko (enc := encGJson) r_7.1.Items))) .nil))))))) .nil)) rfl) <| ?_
    refine s_q (.bool (!r_18)) rfl (.of trivial trivial) rfl <| s_mov (.bool (!r_18)) rfl <| s_lit (s := 36) (b := true) rfl c20 <| s_off rfl rfl <| s_off rfl rfl <| s_off rfl rfl <| s_q (.bool true) rfl (.of trivial trivial) rfl <| w_done <| ?_; obtain rfl := os hb1; exact ⟨[], [3, 4, 7, 1, 2, 5, 6], _, _, rfl, rfl, ⟨.refl _, ⟨.refl _, ⟨.refl _, ⟨.refl _, ⟨.refl _, ⟨.refl _, ⟨.refl _, trivial⟩⟩⟩⟩⟩⟩⟩, (.refl _)⟩
   ·refine s_q (.agg [(.int .i64 r_11.1.Kind), (.int .i64 r_11.1.N), (.str r_11.1.T), (.own 5 0 r_11.1.Keys.length), (.own 6 0 r_11.1.Items.length)]) rfl (.of nle trivial) rfl <| s_q (.agg [(.int .i64 r_7.1.Kind), (.int .i64 r_7.1.N), (.str r_7.1.T), (.own 1 0 r_7.1.Keys.length), (.own 2 0 r_7.1.Items.length)]) rfl (.of nle trivial) rfl <| s_do (o_call (w_laws_eqJson FUEL _ _ _ er19) rfl (.cons (leJ (x := r_11.1) (.agg (.cons (.refl _) (.cons (.refl _) (.cons (.refl _) (.cons (.of_eq (congrArg (AV.lst _) (tko (enc := AV.str) r_11.1.Keys))) (.cons (.of_eq (congrArg (AV.lst _) (tko (enc := encGJson) r_11.1.Items))) .nil))))))) (.cons (leJ (x := r_7.1) (.agg (.cons (.refl _) (.cons (.refl _) (.cons (.refl _) (.cons (.of_eq (congrArg (AV.lst _) (tko (enc := AV.str) r_7.1.Keys))) (.cons (.of_eq (congrArg (AV.lst _) (tko (enc := encGJson) r_7.1.Items))) .nil))))))) .nil)) rfl) <| ?_
    refine s_q (.bool (!r_18)) rfl (.of trivial trivial) rfl <| s_mov (.bool (!r_18)) rfl <| s_lit (s := 36) (b := false) rfl (bf c20) <| s_on rfl <| s_mov (.int .i64 r_11.2) rfl <| s_on rfl <| s_mov (.int .i64 r_7.2) rfl <| s_on rfl <| s_q (.bool (r_11.2 != r_7.2)) rfl (.of rfl trivial) rfl <| s_q (.bool (r_11.2 != r_7.2)) rfl (.of trivial trivial) rfl <| w_done <| ?_; obtain rfl := os hb1; exact ⟨[], [3, 4, 7, 1, 2, 5, 6], _, _, rfl, rfl, ⟨.refl _, ⟨.refl _, ⟨.refl _, ⟨.refl _, ⟨.refl _, ⟨.refl _, ⟨.refl _, trivial⟩⟩⟩⟩⟩⟩⟩, (.refl _)⟩
  ·rcases oi hf with ⟨c21, hf⟩ | ⟨c21, hf⟩
   ·refine w_condt rfl c21 <| awp_seq <| w_reg <| s_mov (.bool false) rfl <| w_done <| k_seq <| w_ret <| ?_; obtain rfl := os hf; exact r_flat ⟨.of trivial trivial, trivial⟩ rfl (.refl _)
   ·refine w_condf rfl (bf c21) <| w_skip <| k_seq <| awp_seq <| awp_seq <| w_reg <| ?_
    obtain ⟨r_22, er23, hf⟩ := ob hf
    obtain ⟨r_24, er25, hf⟩ := ob hf
    refine s_mov (.own 1 0 r_9.length) rfl <| s_mov (.lst 3 (aD_1.map encGAtom)) rfl <| s_do (o_callf (v := (.own 7 0 r_22.length)) (h' := [.row 3 (r_22.map encGAtom)]) (w_laws_toAtomS _ _ er23) rfl (.refl _) (by simp only [openV, openVs, List.length_map, List.nil_append, List.append_nil, List.cons_append]; rfl)) <| s_do (o_call (w_laws_eqAtomS _ _ _ er25) rfl (.cons (.of_eq (congrArg (AV.lst _) (tko r_9))) (.cons (.of_eq (congrArg (AV.lst _) (tko r_22))) .nil)) rfl) <| s_q (.bool (!r_24)) rfl (.of trivial trivial) rfl <| w_done <| k_seq <| ?_
    rcases oi hf with ⟨c26, hf⟩ | ⟨c26, hf⟩
    ·refine w_condt rfl c26 <| awp_seq <| w_reg <| s_mov (.bool false) rfl <| w_done <| k_seq <| w_ret <| ?_; obtain rfl := os hf; exact r_flat ⟨.of trivial trivial, trivial⟩ rfl (.refl _)
    ·refine w_condf rfl (bf c26) <| w_skip <| k_seq <| awp_seq <| w_reg <| s_mov (.int .i64 1) rfl <| w_done <| k_seq <| awp_seq <| w_reg <| ?_
     obtain ⟨r_27, er28, hf⟩ := ob hf
     refine s_mov (.own 1 0 r_9.length) rfl <| s_mov (.int .i64 1) rfl <| ?_; refine s_dof (o_callhs (v := (.int .i64 r_27.1)) (h2 := [.box 5 (.agg [(.int .i64 r_7.1.Kind), (.int .i64 r_7.1.N), (.str r_7.1.T), (.own 3 0 r_7.1.Keys.length), (.own 4 0 r_7.1.Items.length)]), .row 3 (r_27.2.map encGAtom), .box 5 (.agg [(.int .i64 r_11.1.Kind), (.int .i64 r_11.1.N), (.str r_11.1.T), (.own 5 0 r_11.1.Keys.length), (.own 6 0 r_11.1.Items.length)]), .row 1 (r_7.1.Keys.map AV.str), .row 5 (r_7.1.Items.map encGJson), .row 1 (r_11.1.Keys.map AV.str), .row 5 (r_11.1.Items.map encGJson), .row 3 (r_22.map encGAtom)]) [] [1] (fun _ => rfl) (w_laws_markAtomS _ _ _ er28) rfl (.refl _) (.refl _) rfl rfl) fun hl29 => ?_; refine s_mov (.int .i64 r_27.1) rfl ?_
     refine w_done <| k_seq <| awp_seq <| awp_seq <| ?_
     obtain ⟨s61_33, hb1, hf⟩ := ob hf
     refine awp_cut ([(0, (.lst 3 (aD_1.map encGAtom))), (4, (.ptr 0 0 0)), (5, (.int .i64 r_7.2)), (7, (.ptr 1 0 0)), (61, (.bool s61_33))], [.box 5 (.agg [(.int .i64 r_7.1.Kind), (.int .i64 r_7.1.N), (.str r_7.1.T), (.own 2 0 r_7.1.Keys.length), (.own 3 0 r_7.1.Items.length)]), .box 5 (.agg [(.int .i64 r_11.1.Kind), (.int .i64 r_11.1.N), (.str r_11.1.T), (.own 4 0 r_11.1.Keys.length), (.own 5 0 r_11.1.Items.length)]), .row 1 (r_7.1.Keys.map AV.str), .row 5 (r_7.1.Items.map encGJson), .row 1 (r_11.1.Keys.map AV.str), .row 5 (r_11.1.Items.map encGJson)]) ?_ ?_
     ·refine w_reg <| s_mov (.int .i64 r_27.1) rfl <| s_q (.bool (decide (r_27.1 < 0))) rfl (.of rfl trivial) rfl <| s_mov (.bool (decide (r_27.1 < 0))) rfl <| ?_
      rcases oi hb1 with ⟨c35, hb1⟩ | ⟨c35, hb1⟩
      ·refine s_lit (s := 51) (b := true) rfl c35 <| s_off rfl rfl <| s_off rfl rfl <| s_off rfl rfl <| s_off rfl rfl <| s_q (.bool true) rfl (.of trivial trivial) rfl <| s_mov (.bool true) rfl <| s_off rfl rfl <| s_off rfl rfl <| s_off rfl rfl <| s_q (.bool true) rfl (.of trivial trivial) rfl <| w_done <| ?_; obtain rfl := os hb1; exact ⟨[], [0, 2, 3, 4, 5, 6], _, _, rfl, rfl, ⟨.refl _, ⟨.refl _, ⟨.refl _, ⟨.refl _, ⟨.refl _, trivial⟩⟩⟩⟩⟩, (.refl _)⟩
      ·refine s_lit (s := 51) (b := false) rfl (bf c35) <| s_on rfl <| s_q (.agg [(.int .i64 r_11.1.Kind), (.int .i64 r_11.1.N), (.str r_11.1.T), (.own 5 0 r_11.1.Keys.length), (.own 6 0 r_11.1.Items.length)]) rfl (.of nle trivial) rfl <| s_on rfl <| s_q (.agg [(.int .i64 r_7.1.Kind), (.int .i64 r_7.1.N), (.str r_7.1.T), (.own 3 0 r_7.1.Keys.length), (.own 4 0 r_7.1.Items.length)]) rfl (.of nle trivial) rfl <| s_on rfl <| ?_
       obtain ⟨r_36, er37, hb1⟩ := ob hb1
       refine s_do (o_call (w_laws_eqJson FUEL _ _ _ er37) rfl (.cons (leJ (x := r_11.1) (.agg (.cons (.refl _) (.cons (.refl _) (.cons (.refl _) (.cons (.of_eq (congrArg (AV.lst _) (tko (enc := AV.str) r_11.1.Keys))) (.cons (.of_eq (congrArg (AV.lst _) (tko (enc := encGJson) r_11.1.Items))) .nil))))))) (.cons (leJ (x := r_7.1) (.agg (.cons (.refl _) (.cons (.refl _) (.cons (.refl _) (.cons (.of_eq (congrArg (AV.lst _) (tko (enc := AV.str) r_7.1.Keys))) (.cons (.of_eq (congrArg (AV.lst _) (tko (enc := encGJson) r_7.1.Items))) .nil))))))) .nil)) rfl) <| s_on rfl <| s_q (.bool (!r_36)) rfl (.of trivial trivial) rfl <| s_q (.bool (!r_36)) rfl (.of trivial trivial) rfl <| s_mov (.bool (!r_36)) rfl <| ?_; refine s_g (v := (!r_36)) (.int .i64 r_11.2) rfl (fun hv => by (try simp only [gs_on hv]); exact ⟨rfl, .of trivial trivial, rfl⟩) ?_
       refine s_g (v := (!r_36)) (.int .i64 r_7.2) rfl (fun hv => by (try simp only [gs_on hv]); exact ⟨rfl, .of trivial trivial, rfl⟩) ?_; refine s_g (v := (!r_36)) (.bool (r_11.2 != r_7.2)) rfl (fun hv => by (try simp only [gs_on hv]); exact ⟨rfl, (.of rfl trivial), rfl⟩) ?_; refine s_pick (x := true) (y := (r_11.2 != r_7.2)) rfl (fun hv => by (try simp only [gs_on hv]); rfl) (fun hv => by (try simp only [gs_on hv]); rfl) ?_; refine w_done ?_; obtain rfl := os hb1; exact ⟨[], [0, 2, 3, 4, 5, 6], _, _, rfl, rfl, ⟨.refl _, ⟨.refl _, ⟨.refl _, ⟨.refl _, ⟨.refl _, trivial⟩⟩⟩⟩⟩, (.refl _)⟩
     ·rcases oi hf with ⟨c38, hf⟩ | ⟨c38, hf⟩
      ·refine w_condt rfl c38 <| awp_seq <| w_reg <| s_mov (.bool false) rfl <| w_done <| k_seq <| w_ret <| ?_; obtain rfl := os hf; exact r_flat ⟨.of trivial trivial, trivial⟩ rfl (.refl _)
      ·refine w_condf rfl (bf c38) <| w_skip <| k_seq <| awp_seq <| w_reg <| s_mov (.int .i64 1) rfl <| w_done <| k_seq <| awp_seq <| w_reg <| ?_
       obtain ⟨r_39, er40, hf⟩ := ob hf
       refine s_q (.agg [(.int .i64 r_11.1.Kind), (.int .i64 r_11.1.N), (.str r_11.1.T), (.own 4 0 r_11.1.Keys.length), (.own 5 0 r_11.1.Items.length)]) rfl (.of nle trivial) rfl <| s_mov (.int .i64 1) rfl <| ?_; refine s_dof (o_callhs (v := (.int .i64 r_39.1)) (h2 := [.box 5 (.agg [(.int .i64 r_7.1.Kind), (.int .i64 r_7.1.N), (.str r_7.1.T), (.own 2 0 r_7.1.Keys.length), (.own 3 0 r_7.1.Items.length)]), .box 5 (.agg [(.int .i64 r_11.1.Kind), (.int .i64 r_11.1.N), (.str r_11.1.T), (.own 4 0 r_11.1.Keys.length), (.own 5 0 r_11.1.Items.length)]), .row 1 (r_7.1.Keys.map AV.str), .row 5 (r_7.1.Items.map encGJson), .row 1 (r_39.2.Keys.map AV.str), .row 5 (r_39.2.Items.map encGJson)]) [] [4, 5] (fun _ => rfl) (w_laws_markJson _ _ _ er40) rfl (.refl _) (.refl _) rfl rfl) fun hl41 => ?_
       refine s_mov (.int .i64 r_39.1) rfl <| w_done <| k_seq <| awp_seq <| w_reg <| s_mov (.int .i64 1) rfl <| w_done <| k_seq <| awp_seq <| w_reg <| ?_
       obtain ⟨r_42, er43, hf⟩ := ob hf
       refine s_q (.agg [(.int .i64 r_11.1.Kind), (.int .i64 r_11.1.N), (.str r_11.1.T), (.own 4 0 r_11.1.Keys.length), (.own 5 0 r_11.1.Items.length)]) rfl (.of nle trivial) rfl <| s_mov (.int .i64 1) rfl <| s_do (o_call (w_laws_heldJson _ _ _ er43) rfl (.cons (leJ (x := (⟨r_11.1.Kind, r_11.1.N, r_11.1.T, r_39.2.Keys, r_39.2.Items⟩ : GJson)) (.agg (.cons (.refl _) (.cons (.refl _) (.cons (.refl _) (.cons (.of_eq (congrArg (AV.lst _) (tkol (hl41 0 _ _ _ _ rfl rfl)))) (.cons (.of_eq (congrArg (AV.lst _) (tkol (hl41 1 _ _ _ _ rfl rfl)))) .nil))))))) (.cons (.refl _) .nil)) rfl) <| s_mov (.int .i64 r_42) rfl <| w_done <| k_seq <| awp_seq <| awp_seq <| w_reg <| s_mov (.int .i64 r_42) rfl <| s_q (.bool (decide (r_42 < 0))) rfl (.of rfl trivial) rfl <| ?_
       refine w_done <| k_seq <| ?_
       rcases oi hf with ⟨c44, hf⟩ | ⟨c44, hf⟩
       ·refine w_condt rfl c44 <| awp_seq <| w_reg <| s_mov (.bool false) rfl <| w_done <| k_seq <| w_ret <| ?_; obtain rfl := os hf; exact r_flat ⟨.of trivial trivial, trivial⟩ rfl (.refl _)
       ·refine w_condf rfl (bf c44) <| w_skip <| k_seq <| awp_seq <| awp_seq <| w_reg <| s_mov (.int .i64 r_42) rfl <| s_mov (.int .i64 r_39.1) rfl <| s_q (.bool (r_42 != r_39.1)) rfl (.of rfl trivial) rfl <| w_done <| k_seq <| ?_
        rcases oi hf with ⟨c45, hf⟩ | ⟨c45, hf⟩
        ·refine w_condt rfl c45 <| awp_seq <| w_reg <| s_mov (.bool false) rfl <| w_done <| k_seq <| w_ret <| ?_; obtain rfl := os hf; exact r_flat ⟨.of trivial trivial, trivial⟩ rfl (.refl _)
        ·refine w_condf rfl (bf c45) <| w_skip <| k_seq <| awp_seq <| w_reg <| ?_
         obtain ⟨r_46, er47, hf⟩ := ob hf
         obtain ⟨r_48, er49, hf⟩ := ob hf
         refine s_mov (.lst 3 (aD_1.map encGAtom)) rfl <| s_do (o_callf (v := (.own 6 0 r_46.length)) (h' := [.row 3 (r_46.map encGAtom)]) (w_laws_toAtomS _ _ er47) rfl (.refl _) (by simp only [openV, openVs, List.length_map, List.nil_append, List.append_nil, List.cons_append]; rfl)) <| s_do (o_callf (v := (.tup [(.agg [(.int .i64 r_48.1.Kind), (.int .i64 r_48.1.N), (.str r_48.1.T), (.own 7 0 r_48.1.Keys.length), (.own 8 0 r_48.1.Items.length)]), (.int .i64 r_48.2)])) (h' := [.row 1 (r_48.1.Keys.map AV.str), .row 5 (r_48.1.Items.map encGJson)]) (w_impl_DatumJson _ _ er49) rfl (.cons (.of_eq (congrArg (AV.lst _) (tko r_46))) .nil) (by simp only [openV, openVs, List.length_map, encGJson_eq, List.nil_append, List.append_nil, List.cons_append]; rfl)) <| ?_
         refine s_mov (.tup [(.agg [(.int .i64 r_48.1.Kind), (.int .i64 r_48.1.N), (.str r_48.1.T), (.own 7 0 r_48.1.Keys.length), (.own 8 0 r_48.1.Items.length)]), (.int .i64 r_48.2)]) rfl <| s_q (.agg [(.int .i64 r_48.1.Kind), (.int .i64 r_48.1.N), (.str r_48.1.T), (.own 7 0 r_48.1.Keys.length), (.own 8 0 r_48.1.Items.length)]) rfl (.of nle trivial) rfl <| s_q (.int .i64 r_48.2) rfl (.of nle trivial) rfl <| s_do (o_box (j := 9) (c := (.agg [(.int .i64 0), (.int .i64 0), (.str []), .nil, .nil])) rfl trivial rfl rfl) <| s_do0 (o_storebox (v := (.agg [(.int .i64 r_48.1.Kind), (.int .i64 r_48.1.N), (.str r_48.1.T), (.own 7 0 r_48.1.Keys.length), (.own 8 0 r_48.1.Items.length)])) (y' := (.agg [(.int .i64 r_48.1.Kind), (.int .i64 r_48.1.N), (.str r_48.1.T), (.own 7 0 r_48.1.Keys.length), (.own 8 0 r_48.1.Items.length)])) rfl rfl rfl trivial ⟨rfl, nle⟩ ⟨⟨rfl, trivial⟩, ⟨⟨rfl, trivial⟩, ⟨⟨rfl, trivial⟩, ⟨⟨rfl, trivial⟩, ⟨⟨rfl, trivial⟩, trivial⟩⟩⟩⟩⟩ rfl) <| ?_
         refine s_mov (.int .i64 r_48.2) rfl <| w_done <| k_seq <| awp_seq <| awp_seq <| ?_
         obtain ⟨s87_53, hb1, hf⟩ := ob hf
         refine awp_cut ([(7, (.ptr 0 0 0)), (10, (.int .i64 r_39.1)), (87, (.bool s87_53))], [.box 5 (.agg [(.int .i64 r_11.1.Kind), (.int .i64 r_11.1.N), (.str r_11.1.T), (.own 1 0 r_39.2.Keys.length), (.own 2 0 r_39.2.Items.length)]), .row 1 (r_39.2.Keys.map AV.str), .row 5 (r_39.2.Items.map encGJson)]) ?_ ?_
         ·refine w_reg ?_
          obtain ⟨r_55, er56, hb1⟩ := ob hb1
          rcases oi hb1 with ⟨c57, hb1⟩ | ⟨c57, hb1⟩
          ·refine s_q (.agg [(.int .i64 r_48.1.Kind), (.int .i64 r_48.1.N), (.str r_48.1.T), (.own 7 0 r_48.1.Keys.length), (.own 8 0 r_48.1.Items.length)]) rfl (.of nle trivial) rfl <| s_q (.agg [(.int .i64 r_7.1.Kind), (.int .i64 r_7.1.N), (.str r_7.1.T), (.own 2 0 r_7.1.Keys.length), (.own 3 0 r_7.1.Items.length)]) rfl (.of nle trivial) rfl <| s_do (o_call (w_laws_eqJson FUEL _ _ _ er56) rfl (.cons (leJ (x := r_48.1) (.agg (.cons (.refl _) (.cons (.refl _) (.cons (.refl _) (.cons (.of_eq (congrArg (AV.lst _) (tko (enc := AV.str) r_48.1.Keys))) (.cons (.of_eq (congrArg (AV.lst _) (tko (enc := encGJson) r_48.1.Items))) .nil))))))) (.cons (leJ (x := r_7.1) (.agg (.cons (.refl _) (.cons (.refl _) (.cons (.refl _) (.cons (.of_eq (congrArg (AV.lst _) (tko (enc := AV.str) r_7.1.Keys))) (.cons (.of_eq (congrArg (AV.lst _) (tko (enc := encGJson) r_7.1.Items))) .nil))))))) .nil)) rfl) <| ?_
           refine s_q (.bool (!r_55)) rfl (.of trivial trivial) rfl <| s_mov (.bool (!r_55)) rfl <| s_lit (s := 83) (b := true) rfl c57 <| s_off rfl rfl <| s_off rfl rfl <| s_off rfl rfl <| s_q (.bool true) rfl (.of trivial trivial) rfl <| w_done <| ?_; obtain rfl := os hb1; exact ⟨[], [1, 4, 5], _, _, rfl, rfl, ⟨.refl _, ⟨.refl _, ⟨.refl _, trivial⟩⟩⟩, (.cons (.box (.agg (.cons (.refl _) (.cons (.refl _) (.cons (.refl _) (.cons (.of_eq (congrArg (AV.own _ 0) (by have h := (hl41 0 _ _ _ _ rfl rfl); simpa using h.symm))) (.cons (.of_eq (congrArg (AV.own _ 0) (by have h := (hl41 1 _ _ _ _ rfl rfl); simpa using h.symm))) .nil))))))) (.cons (.refl _) (.cons (.refl _) .nil)))⟩
          ·refine s_q (.agg [(.int .i64 r_48.1.Kind), (.int .i64 r_48.1.N), (.str r_48.1.T), (.own 7 0 r_48.1.Keys.length), (.own 8 0 r_48.1.Items.length)]) rfl (.of nle trivial) rfl <| s_q (.agg [(.int .i64 r_7.1.Kind), (.int .i64 r_7.1.N), (.str r_7.1.T), (.own 2 0 r_7.1.Keys.length), (.own 3 0 r_7.1.Items.length)]) rfl (.of nle trivial) rfl <| s_do (o_call (w_laws_eqJson FUEL _ _ _ er56) rfl (.cons (leJ (x := r_48.1) (.agg (.cons (.refl _) (.cons (.refl _) (.cons (.refl _) (.cons (.of_eq (congrArg (AV.lst _) (tko (enc := AV.str) r_48.1.Keys))) (.cons (.of_eq (congrArg (AV.lst _) (tko (enc := encGJson) r_48.1.Items))) .nil))))))) (.cons (leJ (x := r_7.1) (.agg (.cons (.refl _) (.cons (.refl _) (.cons (.refl _) (.cons (.of_eq (congrArg (AV.lst _) (tko (enc := AV.str) r_7.1.Keys))) (.cons (.of_eq (congrArg (AV.lst _) (tko (enc := encGJson) r_7.1.Items))) .nil))))))) .nil)) rfl) <| ?_
           refine s_q (.bool (!r_55)) rfl (.of trivial trivial) rfl <| s_mov (.bool (!r_55)) rfl <| s_lit (s := 83) (b := false) rfl (bf c57) <| s_on rfl <| s_mov (.int .i64 r_48.2) rfl <| s_on rfl <| s_mov (.int .i64 r_7.2) rfl <| s_on rfl <| s_q (.bool (r_48.2 != r_7.2)) rfl (.of rfl trivial) rfl <| s_q (.bool (r_48.2 != r_7.2)) rfl (.of trivial trivial) rfl <| w_done <| ?_; obtain rfl := os hb1; exact ⟨[], [1, 4, 5], _, _, rfl, rfl, ⟨.refl _, ⟨.refl _, ⟨.refl _, trivial⟩⟩⟩, (.cons (.box (.agg (.cons (.refl _) (.cons (.refl _) (.cons (.refl _) (.cons (.of_eq (congrArg (AV.own _ 0) (by have h := (hl41 0 _ _ _ _ rfl rfl); simpa using h.symm))) (.cons (.of_eq (congrArg (AV.own _ 0) (by have h := (hl41 1 _ _ _ _ rfl rfl); simpa using h.symm))) .nil))))))) (.cons (.refl _) (.cons (.refl _) .nil)))⟩
         ·rcases oi hf with ⟨c58, hf⟩ | ⟨c58, hf⟩
          ·refine w_condt rfl c58 <| awp_seq <| w_reg <| s_mov (.bool false) rfl <| w_done <| k_seq <| w_ret <| ?_; obtain rfl := os hf; exact r_flat ⟨.of trivial trivial, trivial⟩ rfl (.refl _)
          ·refine w_condf rfl (bf c58) <| w_skip <| k_seq <| awp_seq <| w_reg <| s_mov (.int .i64 1) rfl <| w_done <| k_seq <| awp_seq <| w_reg <| ?_
           obtain ⟨r_59, er60, hf⟩ := ob hf
           refine s_q (.agg [(.int .i64 r_11.1.Kind), (.int .i64 r_11.1.N), (.str r_11.1.T), (.own 1 0 r_39.2.Keys.length), (.own 2 0 r_39.2.Items.length)]) rfl (.of nle trivial) rfl <| s_mov (.int .i64 1) rfl <| s_do (o_call (w_laws_heldJson _ _ _ er60) rfl (.cons (leJ (x := (⟨r_11.1.Kind, r_11.1.N, r_11.1.T, r_39.2.Keys, r_39.2.Items⟩ : GJson)) (.agg (.cons (.refl _) (.cons (.refl _) (.cons (.refl _) (.cons (.of_eq (congrArg (AV.lst _) (tko (enc := AV.str) r_39.2.Keys))) (.cons (.of_eq (congrArg (AV.lst _) (tko (enc := encGJson) r_39.2.Items))) .nil))))))) (.cons (.refl _) .nil)) rfl) <| s_mov (.int .i64 r_59) rfl <| w_done <| k_seq <| awp_seq <| awp_seq <| w_reg <| s_mov (.int .i64 r_59) rfl <| s_q (.bool (decide (r_59 < 0))) rfl (.of rfl trivial) rfl <| ?_
           refine w_done <| k_seq <| ?_
           rcases oi hf with ⟨c61, hf⟩ | ⟨c61, hf⟩
           ·refine w_condt rfl c61 <| awp_seq <| w_reg <| s_mov (.bool false) rfl <| w_done <| k_seq <| w_ret <| ?_; obtain rfl := os hf; exact r_flat ⟨.of trivial trivial, trivial⟩ rfl (.refl _)
           ·refine w_condf rfl (bf c61) <| w_skip <| k_seq <| awp_seq <| awp_seq <| w_reg <| s_mov (.int .i64 r_59) rfl <| s_mov (.int .i64 r_39.1) rfl <| s_q (.bool (r_59 != r_39.1)) rfl (.of rfl trivial) rfl <| w_done <| k_seq <| ?_
            rcases oi hf with ⟨c62, hf⟩ | ⟨c62, hf⟩
            ·refine w_condt rfl c62 <| awp_seq <| w_reg <| s_mov (.bool false) rfl <| w_done <| k_seq <| w_ret <| ?_; obtain rfl := os hf; exact r_flat ⟨.of trivial trivial, trivial⟩ rfl (.refl _)
            ·refine w_condf rfl (bf c62) <| w_skip <| k_seq <| awp_seq <| w_reg <| s_mov (.bool true) rfl <| w_done <| k_seq <| w_ret <| ?_; obtain rfl := os hf; exact r_flat ⟨.of trivial trivial, trivial⟩ rfl (.refl _)

end Go.R
