/- Walks. -/
import Derived.Test.YtgmkibkmcohikaaRJ2
set_option linter.all false
namespace Go.R
open Go Go.Proofs
set_option linter.unusedVariables false
set_option linter.unusedSimpArgs false
set_option maxHeartbeats 8000000
/- impl.ReplyJson -/
def c67 : ACode :=
 (.seq (.reg (tq 5 (.box 5 (.t 2)) (tq 6 (.box 5 (.c (.agg [(.int .i64 0), (.int .i64 0), (.str []), .nil, .nil]))) (tm 7 (.c (.int .i64 0)) .done))))
 (.seq (.seq (.reg (tm 9 (.t 0) (tq 10 (.call 136 [(.t 9)]) (tq 11 (.not (.t 10)) (tm 12 (.t 11) (tg 13 12 false (.mov (.t 1)) (tg 14 12 false (.call 86 [(.t 13), (.c (.int .i64 0)), (.c (.int .i64 19))]) (tg 15 12 false (.not (.t 14)) (tq 16 (.pick (.t 12) (.c (.bool true)) (.t 15)) (tm 17 (.t 16) (tg 18 17 false (.load 5 true (.t 5)) (tg 19 17 false (.call 101 [(.t 18)]) (tg 20 17 false (.not (.t 19)) (tq 21 (.pick (.t 17) (.c (.bool true)) (.t 20)) .done))))))))))))))
 (.cut (.cond (.t 21) (.seq (.reg (tq 22 (.build [(.int .i64 0), (.int .i64 0), (.str []), .nil, .nil] []) (.q ⟨none, none, .store 5 (.t 6) (.t 22)⟩
 (tm 7 (.c (.int .i64 1)) .done))))
 .ret)
 .skip)))
 (.seq (.reg (tm 23 (.t 0) (tm 24 (.t 1) (tq 25 (.load 5 true (.t 5)) (tq 26 (.call 103 [(.t 25)]) (tq 27 (.call 140 [(.t 23), (.t 24), (.t 26)]) (tq 8 (.box 5 (.c (.agg [(.int .i64 0), (.int .i64 0), (.str []), .nil, .nil]))) (.q ⟨none, none, .store 5 (.t 8) (.t 27)⟩
 .done))))))))
 (.seq (.seq (.reg (tq 28 (.load 5 true (.t 8)) (tq 29 (.call 101 [(.t 28)]) (tq 30 (.not (.t 29)) .done))))
 (.cond (.t 30) (.seq (.reg (tq 31 (.build [(.int .i64 0), (.int .i64 0), (.str []), .nil, .nil] []) (.q ⟨none, none, .store 5 (.t 6) (.t 31)⟩
 (tm 7 (.c (.int .i64 18)) .done))))
 .ret)
 .skip))
 (.seq (.reg (tq 32 (.load 5 true (.t 8)) (.q ⟨none, none, .store 5 (.t 6) (.t 32)⟩
 (tm 7 (.c (.int .i64 0)) .done))))
 .ret)))))
theorem fc67 : fcomp Try.prog Try.f67 = some (c67.erase, [.load 5 true (.t 6), .mov (.t 7)], 33) := by kernel_rfl
def impl_ReplyJson (id_1 : Int) (code_2 : Int) (result_3 : GJson) : Option (GJson × Int) :=
    (((impl_isNumber id_1).bind fun r_14 =>
    if (!r_14) then
    some true
    else
    (impl_within code_2 0 19).bind fun r_17 =>
    if (!r_17) then
    some true
    else
    (impl_JsonOK result_3).bind fun r_20 =>
    some (!r_20) : Option Bool)).bind fun s21_12 =>
    if s21_12 then
    some ((⟨0, 0, [], [], []⟩ : GJson), 1)
    else
    (impl_copyJson FUEL result_3).bind fun r_23 =>
    (impl_replyJson_h0 id_1 code_2 r_23.Kind r_23.N r_23.T r_23.Keys r_23.Items).bind fun r_25 =>
    (impl_JsonOK r_25).bind fun r_27 =>
    if (!r_27) then
    some ((⟨0, 0, [], [], []⟩ : GJson), 18)
    else
    some (r_25, 0)
theorem w_impl_ReplyJson (id_1 : Int) (code_2 : Int) (result_3 : GJson) (r : (GJson × Int)) (hf : impl_ReplyJson id_1 code_2 result_3 = some r) : CallOK Try.prog 67 .fresh [(.int .i64 id_1), (.int .i64 code_2), (encGJson result_3)] (.tup [(encGJson r.1), (.int .i64 r.2)]) := by
 refine CallOK.of_awp mixed Try.func67 fc67 nle ?_; rw [argT_eq]; rw [encGJson_eq result_3]; unfold impl_ReplyJson at hf; unfold c67; refine (show awp Try.prog true 0 _ (ofL [(0, (.int .i64 id_1)), (1, (.int .i64 code_2)), (2, (.agg [(.int .i64 result_3.Kind), (.int .i64 result_3.N), (.str result_3.T), (.lst 1 (result_3.Keys.map AV.str)), (.lst 5 (result_3.Items.map encGJson))]))]) [] _ from ?_); refine awp_seq <| w_reg <| s_do (o_box (j := 0) (c := (.agg [(.int .i64 result_3.Kind), (.int .i64 result_3.N), (.str result_3.T), (.lst 1 (result_3.Keys.map AV.str)), (.lst 5 (result_3.Items.map encGJson))])) rfl trivial rfl rfl) <| s_do (o_box (j := 1) (c := (.agg [(.int .i64 0), (.int .i64 0), (.str []), .nil, .nil])) rfl trivial rfl rfl) <| ?_
 refine s_mov (.int .i64 0) rfl <| w_done <| k_seq <| awp_seq <| awp_seq <| ?_
 obtain ⟨s21_12, hb1, hf⟩ := ob hf
 refine awp_cut ([(0, (.int .i64 id_1)), (1, (.int .i64 code_2)), (5, (.ptr 0 0 0)), (6, (.ptr 1 0 0)), (21, (.bool s21_12))], [.box 5 (.agg [(.int .i64 result_3.Kind), (.int .i64 result_3.N), (.str result_3.T), (.lst 1 (result_3.Keys.map AV.str)), (.lst 5 (result_3.Items.map encGJson))]), .box 5 (.agg [(.int .i64 0), (.int .i64 0), (.str []), .nil, .nil])]) ?_ ?_
 ·refine w_reg <| s_mov (.int .i64 id_1) rfl <| ?_
  obtain ⟨r_14, er15, hb1⟩ := ob hb1
  refine s_do (o_call (w_impl_isNumber _ _ er15) rfl (.refl _) rfl) <| s_q (.bool (!r_14)) rfl trivial rfl <| s_mov (.bool (!r_14)) rfl <| ?_
  rcases oi hb1 with ⟨c16, hb1⟩ | ⟨c16, hb1⟩
  ·refine s_lit (s := 12) (b := true) rfl c16 <| s_off rfl rfl <| s_off rfl rfl <| s_off rfl rfl <| s_q (.bool true) rfl trivial rfl <| s_mov (.bool true) rfl <| s_off rfl rfl <| s_off rfl rfl <| s_off rfl rfl <| s_q (.bool true) rfl trivial rfl <| w_done <| ?_; obtain rfl := os hb1; exact ⟨[], [0, 1], _, _, rfl, rfl, ⟨.refl _, ⟨.refl _, ⟨.refl _, ⟨.refl _, ⟨.refl _, trivial⟩⟩⟩⟩⟩, (.refl _)⟩
  ·refine s_lit (s := 12) (b := false) rfl (bf c16) <| s_on rfl <| s_mov (.int .i64 code_2) rfl <| s_on rfl <| ?_
   obtain ⟨r_17, er18, hb1⟩ := ob hb1
   refine s_do (o_call (w_impl_within _ _ _ _ er18) rfl (.refl _) rfl) <| s_on rfl <| s_q (.bool (!r_17)) rfl trivial rfl <| s_q (.bool (!r_17)) rfl trivial rfl <| s_mov (.bool (!r_17)) rfl <| ?_
   rcases oi hb1 with ⟨c19, hb1⟩ | ⟨c19, hb1⟩
   ·refine s_lit (s := 17) (b := true) rfl c19 <| s_off rfl rfl <| s_off rfl rfl <| s_off rfl rfl <| s_q (.bool true) rfl trivial rfl <| w_done <| ?_; obtain rfl := os hb1; exact ⟨[], [0, 1], _, _, rfl, rfl, ⟨.refl _, ⟨.refl _, ⟨.refl _, ⟨.refl _, ⟨.refl _, trivial⟩⟩⟩⟩⟩, (.refl _)⟩
   ·refine s_lit (s := 17) (b := false) rfl (bf c19) <| s_on rfl <| s_q (.agg [(.int .i64 result_3.Kind), (.int .i64 result_3.N), (.str result_3.T), (.lst 1 (result_3.Keys.map AV.str)), (.lst 5 (result_3.Items.map encGJson))]) rfl nle rfl <| s_on rfl <| ?_
    obtain ⟨r_20, er21, hb1⟩ := ob hb1
    refine s_do (o_call (w_impl_JsonOK _ _ er21) rfl (.cons (.of_eq (encGJson_eq result_3).symm) .nil) rfl) <| s_on rfl <| s_q (.bool (!r_20)) rfl trivial rfl <| s_q (.bool (!r_20)) rfl trivial rfl <| w_done <| ?_; obtain rfl := os hb1; exact ⟨[], [0, 1], _, _, rfl, rfl, ⟨.refl _, ⟨.refl _, ⟨.refl _, ⟨.refl _, ⟨.refl _, trivial⟩⟩⟩⟩⟩, (.refl _)⟩
 ·rcases oi hf with ⟨c22, hf⟩ | ⟨c22, hf⟩
  ·refine w_condt rfl c22 <| awp_seq <| w_reg <| s_q (.agg [(.int .i64 0), (.int .i64 0), (.str []), .nil, .nil]) rfl trivial rfl <| s_do0 (o_storebox (v := (.agg [(.int .i64 0), (.int .i64 0), (.str []), .nil, .nil])) (y' := (.agg [(.int .i64 0), (.int .i64 0), (.str []), .nil, .nil])) rfl rfl rfl trivial ⟨rfl, nle⟩ ⟨⟨rfl, trivial⟩, ⟨⟨rfl, trivial⟩, ⟨⟨rfl, trivial⟩, ⟨⟨rfl, trivial⟩, ⟨⟨rfl, trivial⟩, trivial⟩⟩⟩⟩⟩ rfl) <| s_mov (.int .i64 1) rfl <| w_done <| k_seq <| w_ret <| ?_; obtain rfl := os hf; exact r_fresh ⟨nle, ⟨trivial, trivial⟩⟩ rfl (by decide) (.tup (.cons (leJ (x := (⟨0, 0, [], [], []⟩ : GJson)) (.agg (.cons (.refl _) (.cons (.refl _) (.cons (.refl _) (.cons (.nil _) (.cons (.nil _) .nil))))))) (.cons (.refl _) .nil)))
  ·refine w_condf rfl (bf c22) <| w_skip <| k_seq <| awp_seq <| w_reg <| ?_
   obtain ⟨r_23, er24, hf⟩ := ob hf
   obtain ⟨r_25, er26, hf⟩ := ob hf
   refine s_mov (.int .i64 id_1) rfl <| s_mov (.int .i64 code_2) rfl <| s_q (.agg [(.int .i64 result_3.Kind), (.int .i64 result_3.N), (.str result_3.T), (.lst 1 (result_3.Keys.map AV.str)), (.lst 5 (result_3.Items.map encGJson))]) rfl nle rfl <| s_do (o_callf (v := (.agg [(.int .i64 r_23.Kind), (.int .i64 r_23.N), (.str r_23.T), (.own 2 0 r_23.Keys.length), (.own 3 0 r_23.Items.length)])) (h' := [.row 1 (r_23.Keys.map AV.str), .row 5 (r_23.Items.map encGJson)]) (w_impl_copyJson FUEL _ _ er24) rfl (.cons (.of_eq (encGJson_eq result_3).symm) .nil) (by simp only [openV, openVs, List.length_map, encGJson_eq, List.nil_append, List.append_nil, List.cons_append]; rfl)) <| ?_; refine s_do (o_callh (v := (.agg [(.int .i64 r_25.Kind), (.int .i64 r_25.N), (.str r_25.T), (.own 4 0 r_25.Keys.length), (.own 5 0 r_25.Items.length)])) (h2 := [.box 5 (.agg [(.int .i64 result_3.Kind), (.int .i64 result_3.N), (.str result_3.T), (.lst 1 (result_3.Keys.map AV.str)), (.lst 5 (result_3.Items.map encGJson))]), .box 5 (.agg [(.int .i64 0), (.int .i64 0), (.str []), .nil, .nil]), .dead, .dead, .row 1 (r_25.Keys.map AV.str), .row 5 (r_25.Items.map encGJson)]) [] [2, 3] (fun _ => rfl) (w_impl_replyJson_h0 _ _ _ _ _ _ _ _ er26) rfl (.refl _) (.refl _) rfl rfl) ?_
   refine s_do (o_box (j := 6) (c := (.agg [(.int .i64 0), (.int .i64 0), (.str []), .nil, .nil])) rfl trivial rfl rfl) <| s_do0 (o_storebox (v := (.agg [(.int .i64 r_25.Kind), (.int .i64 r_25.N), (.str r_25.T), (.own 4 0 r_25.Keys.length), (.own 5 0 r_25.Items.length)])) (y' := (.agg [(.int .i64 r_25.Kind), (.int .i64 r_25.N), (.str r_25.T), (.own 4 0 r_25.Keys.length), (.own 5 0 r_25.Items.length)])) rfl rfl rfl trivial ⟨rfl, nle⟩ ⟨⟨rfl, trivial⟩, ⟨⟨rfl, trivial⟩, ⟨⟨rfl, trivial⟩, ⟨⟨rfl, trivial⟩, ⟨⟨rfl, trivial⟩, trivial⟩⟩⟩⟩⟩ rfl) <| w_done <| k_seq <| awp_seq <| awp_seq <| w_reg <| ?_
   obtain ⟨r_27, er28, hf⟩ := ob hf
   refine s_q (.agg [(.int .i64 r_25.Kind), (.int .i64 r_25.N), (.str r_25.T), (.own 4 0 r_25.Keys.length), (.own 5 0 r_25.Items.length)]) rfl nle rfl <| s_do (o_call (w_impl_JsonOK _ _ er28) rfl (.cons (leJ (x := r_25) (.agg (.cons (.refl _) (.cons (.refl _) (.cons (.refl _) (.cons (.of_eq (congrArg (AV.lst _) (tko (enc := AV.str) r_25.Keys))) (.cons (.of_eq (congrArg (AV.lst _) (tko (enc := encGJson) r_25.Items))) .nil))))))) .nil) rfl) <| s_q (.bool (!r_27)) rfl trivial rfl <| w_done <| k_seq <| ?_
   rcases oi hf with ⟨c29, hf⟩ | ⟨c29, hf⟩
   ·refine w_condt rfl c29 <| awp_seq <| w_reg <| s_q (.agg [(.int .i64 0), (.int .i64 0), (.str []), .nil, .nil]) rfl trivial rfl <| s_do0 (o_storebox (v := (.agg [(.int .i64 0), (.int .i64 0), (.str []), .nil, .nil])) (y' := (.agg [(.int .i64 0), (.int .i64 0), (.str []), .nil, .nil])) rfl rfl rfl trivial ⟨rfl, nle⟩ ⟨⟨rfl, trivial⟩, ⟨⟨rfl, trivial⟩, ⟨⟨rfl, trivial⟩, ⟨⟨rfl, trivial⟩, ⟨⟨rfl, trivial⟩, trivial⟩⟩⟩⟩⟩ rfl) <| s_mov (.int .i64 18) rfl <| w_done <| k_seq <| w_ret <| ?_; obtain rfl := os hf; exact r_fresh ⟨nle, ⟨trivial, trivial⟩⟩ rfl (by decide) (.tup (.cons (leJ (x := (⟨0, 0, [], [], []⟩ : GJson)) (.agg (.cons (.refl _) (.cons (.refl _) (.cons (.refl _) (.cons (.nil _) (.cons (.nil _) .nil))))))) (.cons (.refl _) .nil)))
   ·refine w_condf rfl (bf c29) <| w_skip <| k_seq <| awp_seq <| w_reg <| s_q (.agg [(.int .i64 r_25.Kind), (.int .i64 r_25.N), (.str r_25.T), (.own 4 0 r_25.Keys.length), (.own 5 0 r_25.Items.length)]) rfl nle rfl <| s_do0 (o_storebox (v := (.agg [(.int .i64 r_25.Kind), (.int .i64 r_25.N), (.str r_25.T), (.own 4 0 r_25.Keys.length), (.own 5 0 r_25.Items.length)])) (y' := (.agg [(.int .i64 r_25.Kind), (.int .i64 r_25.N), (.str r_25.T), (.own 4 0 r_25.Keys.length), (.own 5 0 r_25.Items.length)])) rfl rfl rfl trivial ⟨rfl, nle⟩ ⟨⟨rfl, trivial⟩, ⟨⟨rfl, trivial⟩, ⟨⟨rfl, trivial⟩, ⟨⟨rfl, trivial⟩, ⟨⟨rfl, trivial⟩, trivial⟩⟩⟩⟩⟩ rfl) <| s_mov (.int .i64 0) rfl <| w_done <| k_seq <| w_ret <| ?_; obtain rfl := os hf; exact r_fresh ⟨nle, ⟨trivial, trivial⟩⟩ rfl (by decide) (.tup (.cons (leJ (x := r_25) (.agg (.cons (.refl _) (.cons (.refl _) (.cons (.refl _) (.cons (.of_eq (congrArg (AV.lst _) (tk (enc := AV.str) r_25.Keys))) (.cons (.of_eq (congrArg (AV.lst _) (tk (enc := encGJson) r_25.Items))) .nil))))))) (.cons (.refl _) .nil)))

/- laws.eqStringS -/
def c43 : ACode :=
 (.seq (.reg (tm 4 (.c (.bool false)) .done))
 (.seq (.seq (.reg (tm 6 (.t 0) (tq 7 (.len (.t 6)) (tm 8 (.t 1) (tq 9 (.len (.t 8)) (tq 10 (.bin .neq (.t 7) (.t 9)) .done))))))
 (.cond (.t 10) (.seq (.reg (tm 4 (.c (.bool false)) .done))
 .ret)
 .skip))
 (.seq (.seq (.reg (tm 5 (.c (.int .i64 0)) .done))
 (.block 0 (.loop (.seq (.seq (.reg (tm 11 (.t 5) (tm 12 (.t 0) (tq 13 (.len (.t 12)) (tq 14 (.bin .lss (.t 11) (.t 13)) .done)))))
 (.cond (.t 14) .skip
 (.exit 0)))
 (.seq (.block 1 (.seq (.reg (tm 17 (.t 0) (tm 18 (.t 5) (tq 19 (.iaddr 1 (.t 17) (.t 18)) (tq 20 (.load 1 false (.t 19)) (tm 21 (.t 1) (tm 22 (.t 5) (tq 23 (.iaddr 1 (.t 21) (.t 22)) (tq 24 (.load 1 false (.t 23)) (tq 25 (.bin .neq (.t 20) (.t 24)) .done))))))))))
 (.cond (.t 25) (.seq (.reg (tm 4 (.c (.bool false)) .done))
 .ret)
 .skip)))
 (.reg (tm 15 (.t 5) (tq 16 (.bin .add (.t 15) (.c (.int .i64 1))) (tm 5 (.t 16) .done)))))))))
 (.cut (.seq (.reg (tm 4 (.c (.bool true)) .done))
 .ret)))))
theorem fc43 : fcomp Try.prog Try.f43 = some (c43.erase, [.mov (.t 4)], 26) := by kernel_rfl
def laws_eqStringS_L1 (b_2 : (List Str)) : List Str → Nat → Option (Fl Bool Unit)
  | [], i_21 =>
    some (.go ())
  | x_37 :: xs, i_21 =>
    (idx b_2 (i_21 : Int)).bind fun x_40 =>
    if (!(x_37 == x_40)) then
    some (.ret false)
    else
    laws_eqStringS_L1 b_2 xs (i_21 + 1)

def laws_eqStringS (a_1 : (List Str)) (b_2 : (List Str)) : Option Bool :=
    if ((a_1.length : Int) != (b_2.length : Int)) then
    some false
    else
    (laws_eqStringS_L1 b_2 a_1 0).bind fun q => (match q with
    | .ret r => some r
    | .go _ =>
    some true)
theorem w_laws_eqStringS (a_1 : (List Str)) (b_2 : (List Str)) (r : Bool) (hf : laws_eqStringS a_1 b_2 = some r) : CallOK Try.prog 43 .flat [(.lst 1 (a_1.map AV.str)), (.lst 1 (b_2.map AV.str))] (.bool r) := by
 refine CallOK.of_awp mixed Try.func43 fc43 nle ?_; rw [argT_eq]; unfold laws_eqStringS at hf; unfold c43; refine (show awp Try.prog false 0 _ (ofL [(0, (.lst 1 (a_1.map AV.str))), (1, (.lst 1 (b_2.map AV.str)))]) [] _ from ?_); refine awp_seq <| w_reg <| s_mov (.bool false) rfl <| w_done <| k_seq <| awp_seq <| awp_seq <| w_reg <| s_mov (.lst 1 (a_1.map AV.str)) rfl <| s_dof (o_len (enc := AV.str) rfl) fun hl3 => s_mov (.lst 1 (b_2.map AV.str)) rfl <| s_dof (o_len (enc := AV.str) rfl) fun hl4 => s_q (.bool ((a_1.length : Int) != (b_2.length : Int))) rfl rfl rfl <| w_done <| k_seq <| ?_
 rcases oi hf with ⟨c5, hf⟩ | ⟨c5, hf⟩
 ·refine w_condt rfl c5 <| awp_seq <| w_reg <| s_mov (.bool false) rfl <| w_done <| k_seq <| w_ret <| ?_; obtain rfl := os hf; exact r_flat ⟨trivial, trivial⟩ rfl (.refl _)
 ·refine w_condf rfl (bf c5) <| w_skip <| k_seq <| awp_seq <| awp_seq <| w_reg <| s_mov (.int .i64 0) rfl <| w_done <| k_seq <| ?_
  obtain ⟨p30, hb1, hf⟩ := ob hf
  refine awp_cutx (X := {q : Unit // p30 = .go q}) (fun q => ([], [])) ?_ ?_
  ·refine awp_loop (X := {q : Nat // laws_eqStringS_L1 b_2 (a_1.drop q) q = some p30}) (fun q => ([(0, (.lst 1 (a_1.map AV.str))), (1, (.lst 1 (b_2.map AV.str))), (5, (.int .i64 (q.1 : Int)))], [])) (fun q => a_1.length - q.1) ⟨0, hb1⟩ ⟨[], [], _, _, rfl, rfl, ⟨.refl _, ⟨.refl _, ⟨.refl _, trivial⟩⟩⟩, (.refl _)⟩ ?_
   rintro ⟨i_21, hc1⟩
   have hc1 : laws_eqStringS_L1 b_2 (a_1.drop i_21) i_21 = some p30 := hc1
   refine (show awp Try.prog false 0 _ (ofL [(0, (.lst 1 (a_1.map AV.str))), (1, (.lst 1 (b_2.map AV.str))), (5, (.int .i64 (i_21 : Int)))]) [] _ from ?_)
   rcases dropc a_1 i_21 with ⟨hie33, hd36⟩ | ⟨hlt31, x_37, hx32, hd36⟩
   ·rw [hd36, laws_eqStringS_L1.eq_1] at hc1
    have hq35 := dlf hie33
    refine awp_seq <| awp_seq <| w_reg <| s_mov (.int .i64 (i_21 : Int)) rfl <| s_mov (.lst 1 (a_1.map AV.str)) rfl <| s_dof (o_len (enc := AV.str) rfl) fun hl38 => s_q (.bool (decide ((i_21 : Int) < (a_1.length : Int)))) rfl rfl rfl <| w_done <| k_seq <| w_condf rfl hq35 <| w_exit <| k_seqx <| k_loopx <| k_blkx <| ?_; obtain rfl := os hc1; exact k_cutn ⟨_, rfl⟩ ⟨[], [], _, _, rfl, rfl, trivial, (.refl _)⟩
   ·rw [hd36, laws_eqStringS_L1.eq_2] at hc1
    have hq35 := dlt hlt31
    refine awp_seq <| awp_seq <| w_reg <| s_mov (.int .i64 (i_21 : Int)) rfl <| s_mov (.lst 1 (a_1.map AV.str)) rfl <| s_dof (o_len (enc := AV.str) rfl) fun hl39 => s_q (.bool (decide ((i_21 : Int) < (a_1.length : Int)))) rfl rfl rfl <| w_done <| k_seq <| w_condt rfl hq35 <| w_skip <| k_seq <| awp_seq <| w_blk <| awp_seq <| w_reg <| ?_
    obtain ⟨x_40, ex41, hc1⟩ := ob hc1
    refine s_mov (.lst 1 (a_1.map AV.str)) rfl <| s_mov (.int .i64 (i_21 : Int)) rfl <| s_do (o_iaddrn (enc := AV.str) rfl rfl hx32) <| s_q (.str x_37) rfl ⟨rfl, rfl⟩ rfl <| s_mov (.lst 1 (b_2.map AV.str)) rfl <| s_mov (.int .i64 (i_21 : Int)) rfl <| s_do (o_iaddr (enc := AV.str) rfl rfl (idx0 ex41) (idx1 ex41)) <| s_q (.str x_40) rfl ⟨rfl, rfl⟩ rfl <| s_q (.bool (!(x_37 == x_40))) rfl trivial rfl <| w_done <| k_seq <| ?_
    rcases oi hc1 with ⟨c42, hc1⟩ | ⟨c42, hc1⟩
    ·refine w_condt rfl c42 <| awp_seq <| w_reg <| s_mov (.bool false) rfl <| w_done <| k_seq <| w_ret <| ?_; obtain rfl := os hc1; obtain rfl := os hf; exact r_flat ⟨trivial, trivial⟩ rfl (.refl _)
    ·refine w_condf rfl (bf c42) <| w_skip <| k_blk <| k_seq <| w_reg <| s_mov (.int .i64 (i_21 : Int)) rfl <| s_q (.int .i64 (w64 ((i_21 : Int) + 1))) rfl rfl rfl <| s_mov (.int .i64 (w64 ((i_21 : Int) + 1))) rfl <| w_done <| ?_; exact k_loopn ⟨(i_21 + 1), hc1⟩ (mul hlt31) ⟨[], [], _, _, rfl, rfl, ⟨.refl _, ⟨.refl _, ⟨.of_eq (congrArg (AV.int _) (w64_incr hlt31 hl39)), trivial⟩⟩⟩, (.refl _)⟩
  ·rintro ⟨_, rfl⟩
   refine awp_seq <| w_reg <| s_mov (.bool true) rfl <| w_done <| k_seq <| w_ret <| ?_; obtain rfl := os hf; exact r_flat ⟨trivial, trivial⟩ rfl (.refl _)

/- laws.eqJsonS -/
def c111 : ACode :=
 (.seq (.reg (tm 4 (.c (.bool false)) .done))
 (.seq (.seq (.reg (tm 6 (.t 0) (tq 7 (.len (.t 6)) (tm 8 (.t 1) (tq 9 (.len (.t 8)) (tq 10 (.bin .neq (.t 7) (.t 9)) .done))))))
 (.cond (.t 10) (.seq (.reg (tm 4 (.c (.bool false)) .done))
 .ret)
 .skip))
 (.seq (.seq (.reg (tm 5 (.c (.int .i64 0)) .done))
 (.block 0 (.loop (.seq (.seq (.reg (tm 11 (.t 5) (tm 12 (.t 0) (tq 13 (.len (.t 12)) (tq 14 (.bin .lss (.t 11) (.t 13)) .done)))))
 (.cond (.t 14) .skip
 (.exit 0)))
 (.seq (.block 1 (.seq (.reg (tm 17 (.t 0) (tm 18 (.t 5) (tq 19 (.iaddr 5 (.t 17) (.t 18)) (tq 20 (.load 5 true (.t 19)) (tm 21 (.t 1) (tm 22 (.t 5) (tq 23 (.iaddr 5 (.t 21) (.t 22)) (tq 24 (.load 5 true (.t 23)) (.l ⟨(some 25), none, .call 38 [(.t 20), (.t 24)]⟩ []
 (tq 26 (.not (.t 25)) .done) .non))))))))))
 (.cond (.t 26) (.seq (.reg (tm 4 (.c (.bool false)) .done))
 .ret)
 .skip)))
 (.reg (tm 15 (.t 5) (tq 16 (.bin .add (.t 15) (.c (.int .i64 1))) (tm 5 (.t 16) .done)))))))))
 (.cut (.seq (.reg (tm 4 (.c (.bool true)) .done))
 .ret)))))
theorem fc111 : fcomp Try.prog Try.f111 = some (c111.erase, [.mov (.t 4)], 27) := by kernel_rfl
def laws_eqJsonS_L1 (b_2 : (List GJson)) (rec : (GJson → GJson → Option Bool)) : List GJson → Nat → Option (Fl Bool Unit)
  | [], i_25 =>
    some (.go ())
  | x_43 :: xs, i_25 =>
    (idx b_2 (i_25 : Int)).bind fun x_46 =>
    (rec x_43 x_46).bind fun r_48 =>
    if (!r_48) then
    some (.ret false)
    else
    laws_eqJsonS_L1 b_2 rec xs (i_25 + 1)

def laws_eqJsonS (rec : (GJson → GJson → Option Bool)) (a_1 : (List GJson)) (b_2 : (List GJson)) : Option Bool :=
    if ((a_1.length : Int) != (b_2.length : Int)) then
    some false
    else
    (laws_eqJsonS_L1 b_2 rec a_1 0).bind fun q => (match q with
    | .ret r => some r
    | .go _ =>
    some true)
theorem w_laws_eqJsonS (rec : (GJson → GJson → Option Bool)) (hrec : ∀ a0 a1 r, rec a0 a1 = some r → CallOK Try.prog 38 .flat [(encGJson a0), (encGJson a1)] (.bool r)) (a_1 : (List GJson)) (b_2 : (List GJson)) (r : Bool) (hf : laws_eqJsonS rec a_1 b_2 = some r) : CallOK Try.prog 111 .flat [(.lst 5 (a_1.map encGJson)), (.lst 5 (b_2.map encGJson))] (.bool r) := by
 refine CallOK.of_awp mixed Try.func111 fc111 nle ?_; rw [argT_eq]; unfold laws_eqJsonS at hf; unfold c111; refine (show awp Try.prog false 0 _ (ofL [(0, (.lst 5 (a_1.map encGJson))), (1, (.lst 5 (b_2.map encGJson)))]) [] _ from ?_); refine awp_seq <| w_reg <| s_mov (.bool false) rfl <| w_done <| k_seq <| awp_seq <| awp_seq <| w_reg <| s_mov (.lst 5 (a_1.map encGJson)) rfl <| s_dof (o_len (enc := encGJson) rfl) fun hl3 => s_mov (.lst 5 (b_2.map encGJson)) rfl <| s_dof (o_len (enc := encGJson) rfl) fun hl4 => s_q (.bool ((a_1.length : Int) != (b_2.length : Int))) rfl rfl rfl <| w_done <| k_seq <| ?_
 rcases oi hf with ⟨c5, hf⟩ | ⟨c5, hf⟩
 ·refine w_condt rfl c5 <| awp_seq <| w_reg <| s_mov (.bool false) rfl <| w_done <| k_seq <| w_ret <| ?_; obtain rfl := os hf; exact r_flat ⟨trivial, trivial⟩ rfl (.refl _)
 ·refine w_condf rfl (bf c5) <| w_skip <| k_seq <| awp_seq <| awp_seq <| w_reg <| s_mov (.int .i64 0) rfl <| w_done <| k_seq <| ?_
  obtain ⟨p36, hb1, hf⟩ := ob hf
  refine awp_cutx (X := {q : Unit // p36 = .go q}) (fun q => ([], [])) ?_ ?_
  ·refine awp_loop (X := {q : Nat // laws_eqJsonS_L1 b_2 rec (a_1.drop q) q = some p36}) (fun q => ([(0, (.lst 5 (a_1.map encGJson))), (1, (.lst 5 (b_2.map encGJson))), (5, (.int .i64 (q.1 : Int)))], [])) (fun q => a_1.length - q.1) ⟨0, hb1⟩ ⟨[], [], _, _, rfl, rfl, ⟨.refl _, ⟨.refl _, ⟨.refl _, trivial⟩⟩⟩, (.refl _)⟩ ?_
   rintro ⟨i_25, hc1⟩
   have hc1 : laws_eqJsonS_L1 b_2 rec (a_1.drop i_25) i_25 = some p36 := hc1
   refine (show awp Try.prog false 0 _ (ofL [(0, (.lst 5 (a_1.map encGJson))), (1, (.lst 5 (b_2.map encGJson))), (5, (.int .i64 (i_25 : Int)))]) [] _ from ?_)
   rcases dropc a_1 i_25 with ⟨hie39, hd42⟩ | ⟨hlt37, x_43, hx38, hd42⟩
   ·rw [hd42, laws_eqJsonS_L1.eq_1] at hc1
    have hq41 := dlf hie39
    refine awp_seq <| awp_seq <| w_reg <| s_mov (.int .i64 (i_25 : Int)) rfl <| s_mov (.lst 5 (a_1.map encGJson)) rfl <| s_dof (o_len (enc := encGJson) rfl) fun hl44 => s_q (.bool (decide ((i_25 : Int) < (a_1.length : Int)))) rfl rfl rfl <| w_done <| k_seq <| w_condf rfl hq41 <| w_exit <| k_seqx <| k_loopx <| k_blkx <| ?_; obtain rfl := os hc1; exact k_cutn ⟨_, rfl⟩ ⟨[], [], _, _, rfl, rfl, trivial, (.refl _)⟩
   ·rw [hd42, laws_eqJsonS_L1.eq_2] at hc1
    have hq41 := dlt hlt37
    refine awp_seq <| awp_seq <| w_reg <| s_mov (.int .i64 (i_25 : Int)) rfl <| s_mov (.lst 5 (a_1.map encGJson)) rfl <| s_dof (o_len (enc := encGJson) rfl) fun hl45 => s_q (.bool (decide ((i_25 : Int) < (a_1.length : Int)))) rfl rfl rfl <| w_done <| k_seq <| w_condt rfl hq41 <| w_skip <| k_seq <| awp_seq <| w_blk <| awp_seq <| w_reg <| ?_
    obtain ⟨x_46, ex47, hc1⟩ := ob hc1
    obtain ⟨r_48, er49, hc1⟩ := ob hc1
    refine s_mov (.lst 5 (a_1.map encGJson)) rfl <| s_mov (.int .i64 (i_25 : Int)) rfl <| s_do (o_iaddrn (enc := encGJson) rfl rfl hx38) <| s_do (o_loadeq (v := (.agg [(.int .i64 x_43.Kind), (.int .i64 x_43.N), (.str x_43.T), (.lst 1 (x_43.Keys.map AV.str)), (.lst 5 (x_43.Items.map encGJson))])) rfl (encGJson_eq _) nle rfl) <| s_mov (.lst 5 (b_2.map encGJson)) rfl <| s_mov (.int .i64 (i_25 : Int)) rfl <| s_do (o_iaddr (enc := encGJson) rfl rfl (idx0 ex47) (idx1 ex47)) <| s_do (o_loadeq (v := (.agg [(.int .i64 x_46.Kind), (.int .i64 x_46.N), (.str x_46.T), (.lst 1 (x_46.Keys.map AV.str)), (.lst 5 (x_46.Items.map encGJson))])) rfl (encGJson_eq _) nle rfl) <| s_dol (o_call (hrec _ _ _ er49) rfl (.cons (.of_eq (encGJson_eq x_43).symm) (.cons (.of_eq (encGJson_eq x_46).symm) .nil)) rfl) a_same trivial <| ?_
    refine s_q (.bool (!r_48)) rfl trivial rfl <| w_done <| k_seq <| ?_
    rcases oi hc1 with ⟨c50, hc1⟩ | ⟨c50, hc1⟩
    ·refine w_condt rfl c50 <| awp_seq <| w_reg <| s_mov (.bool false) rfl <| w_done <| k_seq <| w_ret <| ?_; obtain rfl := os hc1; obtain rfl := os hf; exact r_flat ⟨trivial, trivial⟩ rfl (.refl _)
    ·refine w_condf rfl (bf c50) <| w_skip <| k_blk <| k_seq <| w_reg <| s_mov (.int .i64 (i_25 : Int)) rfl <| s_q (.int .i64 (w64 ((i_25 : Int) + 1))) rfl rfl rfl <| s_mov (.int .i64 (w64 ((i_25 : Int) + 1))) rfl <| w_done <| ?_; exact k_loopn ⟨(i_25 + 1), hc1⟩ (mul hlt37) ⟨[], [], _, _, rfl, rfl, ⟨.refl _, ⟨.refl _, ⟨.of_eq (congrArg (AV.int _) (w64_incr hlt37 hl45)), trivial⟩⟩⟩, (.refl _)⟩
  ·rintro ⟨_, rfl⟩
   refine awp_seq <| w_reg <| s_mov (.bool true) rfl <| w_done <| k_seq <| w_ret <| ?_; obtain rfl := os hf; exact r_flat ⟨trivial, trivial⟩ rfl (.refl _)

/- laws.eqJson -/
def c38 : ACode :=
 (.seq (.reg (tq 2 (.box 5 (.t 0)) (tq 3 (.box 5 (.t 1)) (tm 4 (.c (.bool false)) .done))))
 (.seq (.seq (.reg (tq 5 (.faddr 0 (.t 2)) (tq 6 (.load 1 false (.t 5)) (tq 7 (.faddr 0 (.t 3)) (tq 8 (.load 1 false (.t 7)) (tq 9 (.bin .neq (.t 6) (.t 8)) .done))))))
 (.cond (.t 9) (.seq (.reg (tm 4 (.c (.bool false)) .done))
 .ret)
 .skip))
 (.seq (.seq (.reg (tq 10 (.faddr 1 (.t 2)) (tq 11 (.load 1 false (.t 10)) (tq 12 (.faddr 1 (.t 3)) (tq 13 (.load 1 false (.t 12)) (tq 14 (.bin .neq (.t 11) (.t 13)) .done))))))
 (.cond (.t 14) (.seq (.reg (tm 4 (.c (.bool false)) .done))
 .ret)
 .skip))
 (.seq (.seq (.reg (tq 15 (.faddr 2 (.t 2)) (tq 16 (.load 1 false (.t 15)) (tq 17 (.faddr 2 (.t 3)) (tq 18 (.load 1 false (.t 17)) (tq 19 (.bin .neq (.t 16) (.t 18)) .done))))))
 (.cond (.t 19) (.seq (.reg (tm 4 (.c (.bool false)) .done))
 .ret)
 .skip))
 (.seq (.seq (.reg (tq 20 (.faddr 3 (.t 2)) (tq 21 (.load 1 false (.t 20)) (tq 22 (.faddr 3 (.t 3)) (tq 23 (.load 1 false (.t 22)) (tq 24 (.call 43 [(.t 21), (.t 23)]) (tq 25 (.not (.t 24)) .done)))))))
 (.cond (.t 25) (.seq (.reg (tm 4 (.c (.bool false)) .done))
 .ret)
 .skip))
 (.seq (.seq (.reg (tq 26 (.faddr 4 (.t 2)) (tq 27 (.load 1 false (.t 26)) (tq 28 (.faddr 4 (.t 3)) (tq 29 (.load 1 false (.t 28)) (tq 30 (.call 111 [(.t 27), (.t 29)]) (tq 31 (.not (.t 30)) .done)))))))
 (.cond (.t 31) (.seq (.reg (tm 4 (.c (.bool false)) .done))
 .ret)
 .skip))
 (.seq (.reg (tm 4 (.c (.bool true)) .done))
 .ret)))))))
theorem fc38 : fcomp Try.prog Try.f38 = some (c38.erase, [.mov (.t 4)], 32) := by kernel_rfl
def laws_eqJson_B (rec : (GJson → GJson → Option Bool)) (a_1 : GJson) (b_2 : GJson) : Option Bool :=
    if (a_1.Kind != b_2.Kind) then
    some false
    else
    if (a_1.N != b_2.N) then
    some false
    else
    if (!(a_1.T == b_2.T)) then
    some false
    else
    (laws_eqStringS a_1.Keys b_2.Keys).bind fun r_6 =>
    if (!r_6) then
    some false
    else
    (laws_eqJsonS rec a_1.Items b_2.Items).bind fun r_9 =>
    if (!r_9) then
    some false
    else
    some true
theorem w_laws_eqJson_B (rec : (GJson → GJson → Option Bool)) (hrec : ∀ a0 a1 r, rec a0 a1 = some r → CallOK Try.prog 38 .flat [(encGJson a0), (encGJson a1)] (.bool r)) (a_1 : GJson) (b_2 : GJson) (r : Bool) (hf : laws_eqJson_B rec a_1 b_2 = some r) : CallOK Try.prog 38 .flat [(encGJson a_1), (encGJson b_2)] (.bool r) := by
 refine CallOK.of_awp mixed Try.func38 fc38 nle ?_; rw [argT_eq]; rw [encGJson_eq a_1, encGJson_eq b_2]; unfold laws_eqJson_B at hf; unfold c38; refine (show awp Try.prog false 0 _ (ofL [(0, (.agg [(.int .i64 a_1.Kind), (.int .i64 a_1.N), (.str a_1.T), (.lst 1 (a_1.Keys.map AV.str)), (.lst 5 (a_1.Items.map encGJson))])), (1, (.agg [(.int .i64 b_2.Kind), (.int .i64 b_2.N), (.str b_2.T), (.lst 1 (b_2.Keys.map AV.str)), (.lst 5 (b_2.Items.map encGJson))]))]) [] _ from ?_); refine awp_seq <| w_reg <| s_do (o_box (j := 0) (c := (.agg [(.int .i64 a_1.Kind), (.int .i64 a_1.N), (.str a_1.T), (.lst 1 (a_1.Keys.map AV.str)), (.lst 5 (a_1.Items.map encGJson))])) rfl trivial rfl rfl) <| s_do (o_box (j := 1) (c := (.agg [(.int .i64 b_2.Kind), (.int .i64 b_2.N), (.str b_2.T), (.lst 1 (b_2.Keys.map AV.str)), (.lst 5 (b_2.Items.map encGJson))])) rfl trivial rfl rfl) <| ?_
 refine s_mov (.bool false) rfl <| w_done <| k_seq <| awp_seq <| awp_seq <| w_reg <| s_q (.ptr 0 0 0) rfl trivial rfl <| s_q (.int .i64 a_1.Kind) rfl nle rfl <| s_q (.ptr 1 0 0) rfl trivial rfl <| s_q (.int .i64 b_2.Kind) rfl nle rfl <| s_q (.bool (a_1.Kind != b_2.Kind)) rfl rfl rfl <| w_done <| k_seq <| ?_
 rcases oi hf with ⟨c3, hf⟩ | ⟨c3, hf⟩
 ·refine w_condt rfl c3 <| awp_seq <| w_reg <| s_mov (.bool false) rfl <| w_done <| k_seq <| w_ret <| ?_; obtain rfl := os hf; exact r_flat ⟨trivial, trivial⟩ rfl (.refl _)
 ·refine w_condf rfl (bf c3) <| w_skip <| k_seq <| awp_seq <| awp_seq <| w_reg <| s_q (.ptr 0 0 1) rfl trivial rfl <| s_q (.int .i64 a_1.N) rfl nle rfl <| s_q (.ptr 1 0 1) rfl trivial rfl <| s_q (.int .i64 b_2.N) rfl nle rfl <| s_q (.bool (a_1.N != b_2.N)) rfl rfl rfl <| w_done <| k_seq <| ?_
  rcases oi hf with ⟨c4, hf⟩ | ⟨c4, hf⟩
  ·refine w_condt rfl c4 <| awp_seq <| w_reg <| s_mov (.bool false) rfl <| w_done <| k_seq <| w_ret <| ?_; obtain rfl := os hf; exact r_flat ⟨trivial, trivial⟩ rfl (.refl _)
  ·refine w_condf rfl (bf c4) <| w_skip <| k_seq <| awp_seq <| awp_seq <| w_reg <| s_q (.ptr 0 0 2) rfl trivial rfl <| s_q (.str a_1.T) rfl nle rfl <| s_q (.ptr 1 0 2) rfl trivial rfl <| s_q (.str b_2.T) rfl nle rfl <| s_q (.bool (!(a_1.T == b_2.T))) rfl trivial rfl <| w_done <| k_seq <| ?_
   rcases oi hf with ⟨c5, hf⟩ | ⟨c5, hf⟩
   ·refine w_condt rfl c5 <| awp_seq <| w_reg <| s_mov (.bool false) rfl <| w_done <| k_seq <| w_ret <| ?_; obtain rfl := os hf; exact r_flat ⟨trivial, trivial⟩ rfl (.refl _)
   ·refine w_condf rfl (bf c5) <| w_skip <| k_seq <| awp_seq <| awp_seq <| w_reg <| ?_
    obtain ⟨r_6, er7, hf⟩ := ob hf
    refine s_q (.ptr 0 0 3) rfl trivial rfl <| s_q (.lst 1 (a_1.Keys.map AV.str)) rfl nle rfl <| s_q (.ptr 1 0 3) rfl trivial rfl <| s_q (.lst 1 (b_2.Keys.map AV.str)) rfl nle rfl <| s_do (o_call (w_laws_eqStringS _ _ _ er7) rfl (.refl _) rfl) <| s_q (.bool (!r_6)) rfl trivial rfl <| w_done <| k_seq <| ?_
    rcases oi hf with ⟨c8, hf⟩ | ⟨c8, hf⟩
    ·refine w_condt rfl c8 <| awp_seq <| w_reg <| s_mov (.bool false) rfl <| w_done <| k_seq <| w_ret <| ?_; obtain rfl := os hf; exact r_flat ⟨trivial, trivial⟩ rfl (.refl _)
    ·refine w_condf rfl (bf c8) <| w_skip <| k_seq <| awp_seq <| awp_seq <| w_reg <| ?_
     obtain ⟨r_9, er10, hf⟩ := ob hf
     refine s_q (.ptr 0 0 4) rfl trivial rfl <| s_q (.lst 5 (a_1.Items.map encGJson)) rfl nle rfl <| s_q (.ptr 1 0 4) rfl trivial rfl <| s_q (.lst 5 (b_2.Items.map encGJson)) rfl nle rfl <| s_do (o_call (w_laws_eqJsonS rec hrec _ _ _ er10) rfl (.refl _) rfl) <| s_q (.bool (!r_9)) rfl trivial rfl <| w_done <| k_seq <| ?_
     rcases oi hf with ⟨c11, hf⟩ | ⟨c11, hf⟩
     ·refine w_condt rfl c11 <| awp_seq <| w_reg <| s_mov (.bool false) rfl <| w_done <| k_seq <| w_ret <| ?_; obtain rfl := os hf; exact r_flat ⟨trivial, trivial⟩ rfl (.refl _)
     ·refine w_condf rfl (bf c11) <| w_skip <| k_seq <| awp_seq <| w_reg <| s_mov (.bool true) rfl <| w_done <| k_seq <| w_ret <| ?_; obtain rfl := os hf; exact r_flat ⟨trivial, trivial⟩ rfl (.refl _)
def laws_eqJson : Nat → GJson → GJson → Option Bool
 | 0, _, _ => none
 | k + 1, a_1, b_2 => laws_eqJson_B (laws_eqJson k) a_1 b_2
theorem w_laws_eqJson : ∀ (k : Nat) (a_1 : GJson) (b_2 : GJson) (r : Bool), laws_eqJson k a_1 b_2 = some r → CallOK Try.prog 38 .flat [(encGJson a_1), (encGJson b_2)] (.bool r)
 | 0, a_1, b_2, r, h => by rw [laws_eqJson.eq_1] at h; cases h
 | k + 1, a_1, b_2, r, h => by
  rw [laws_eqJson.eq_2] at h; exact w_laws_eqJson_B _ (w_laws_eqJson k) a_1 b_2 r h

/- laws.markText -/
def c117 : ACode :=
 (.seq (.reg (tm 2 (.c (.str [])) .done))
 (.seq (.seq (.reg (tm 4 (.t 0) (tq 5 (.bin .leq (.t 4) (.c (.int .i64 0))) .done)))
 (.cond (.t 5) (.seq (.reg (tm 2 (.c (.str [109, 48])) .done))
 .ret)
 .skip))
 (.seq (.reg (tm 3 (.c (.str [])) .done))
 (.seq (.block 0 (.loop (.seq (.seq (.reg (tm 6 (.t 0) (tq 7 (.bin .gtr (.t 6) (.c (.int .i64 0))) .done)))
 (.cond (.t 7) .skip
 (.exit 0)))
 (.block 1 (.seq (.reg (tm 8 (.t 0) (tq 9 (.bin .rem (.t 8) (.c (.int .i64 10))) (tq 10 (.bin .add (.c (.int .i64 48)) (.t 9)) (tq 11 (.convI .u8 (.t 10)) (tq 12 (.bslice 1 [(.t 11)]) (tq 13 (.convBS (.t 12)) (tm 14 (.t 3) (tq 15 (.bin .add (.t 13) (.t 14)) (tm 3 (.t 15) .done))))))))))
 (.reg (tm 16 (.t 0) (tq 17 (.bin .quo (.t 16) (.c (.int .i64 10))) (tm 0 (.t 17) .done)))))))))
 (.cut (.seq (.reg (tm 18 (.t 3) (tq 19 (.bin .add (.c (.str [109])) (.t 18)) (tm 2 (.t 19) .done))))
 .ret))))))
theorem fc117 : fcomp Try.prog Try.f117 = some (c117.erase, [.mov (.t 2)], 20) := by kernel_rfl
def laws_markText_L1  : Nat → Int → Str → Option Str
  | 0, _, _ => none
  | k + 1, k_9, out_10 =>
    if (decide (k_9 > 0)) then
    if (bstr [IntKind.u8.wrap (w64 (48 + (k_9.tmod 10)))]).length + out_10.length ≤ maxLen then
    laws_markText_L1 k (w64 (k_9.tdiv 10)) ((bstr [IntKind.u8.wrap (w64 (48 + (k_9.tmod 10)))]) ++ out_10)
    else none
    else
    some out_10

def laws_markText (k_1 : Int) : Option Str :=
    if (decide (k_1 ≤ 0)) then
    some [109, 48]
    else
    (laws_markText_L1 FUEL k_1 []).bind fun out_13 =>
    if [109].length + out_13.length ≤ maxLen then
    some ([109] ++ out_13)
    else none
theorem w_laws_markText (k_1 : Int) (r : Str) (hf : laws_markText k_1 = some r) : CallOK Try.prog 117 .flat [(.int .i64 k_1)] (.str r) := by
 refine CallOK.of_awp mixed Try.func117 fc117 nle ?_; rw [argT_eq]; unfold laws_markText at hf; unfold c117; refine (show awp Try.prog false 0 _ (ofL [(0, (.int .i64 k_1))]) [] _ from ?_); refine awp_seq <| w_reg <| s_mov (.str []) rfl <| w_done <| k_seq <| awp_seq <| awp_seq <| w_reg <| s_mov (.int .i64 k_1) rfl <| s_q (.bool (decide (k_1 ≤ 0))) rfl rfl rfl <| w_done <| k_seq <| ?_
 rcases oi hf with ⟨c2, hf⟩ | ⟨c2, hf⟩
 ·refine w_condt rfl c2 <| awp_seq <| w_reg <| s_mov (.str [109, 48]) rfl <| w_done <| k_seq <| w_ret <| ?_; obtain rfl := os hf; exact r_flat ⟨trivial, trivial⟩ rfl (.refl _)
 ·refine w_condf rfl (bf c2) <| w_skip <| k_seq <| awp_seq <| w_reg <| s_mov (.str []) rfl <| w_done <| k_seq <| awp_seq <| ?_
  obtain ⟨out_13, hb1, hf⟩ := ob hf
  refine awp_cut ([(3, (.str out_13))], []) ?_ ?_
  ·refine awp_loop (X := {q : (Nat × Int × Str) // laws_markText_L1 q.1 q.2.1 q.2.2 = some out_13}) (fun q => ([(0, (.int .i64 q.1.2.1)), (3, (.str q.1.2.2))], [])) (fun q => q.1.1) ⟨(FUEL, k_1, []), hb1⟩ ⟨[], [], _, _, rfl, rfl, ⟨.refl _, ⟨.refl _, trivial⟩⟩, (.refl _)⟩ ?_
   rintro ⟨⟨k, k_9, out_10⟩, hc1⟩
   have hc1 : laws_markText_L1 k k_9 out_10 = some out_13 := hc1
   refine (show awp Try.prog false 0 _ (ofL [(0, (.int .i64 k_9)), (3, (.str out_10))]) [] _ from ?_)
   rcases k with _ | k
   ·rw [laws_markText_L1.eq_1] at hc1
    cases hc1
   ·rw [laws_markText_L1.eq_2] at hc1; refine awp_seq <| awp_seq <| w_reg <| s_mov (.int .i64 k_9) rfl <| s_q (.bool (decide (k_9 > 0))) rfl rfl rfl <| w_done <| k_seq <| ?_
    rcases oi hc1 with ⟨c15, hc1⟩ | ⟨c15, hc1⟩
    ·refine w_condt rfl c15 <| w_skip <| k_seq <| w_blk <| awp_seq <| w_reg <| ?_
     obtain ⟨g16, hc1⟩ := og hc1
     refine s_mov (.int .i64 k_9) rfl <| s_q (.int .i64 (k_9.tmod 10)) rfl ⟨rfl, by decide⟩ rfl <| s_q (.int .i64 (w64 (48 + (k_9.tmod 10)))) rfl rfl rfl <| s_q (.int .u8 (IntKind.u8.wrap (w64 (48 + (k_9.tmod 10))))) rfl trivial rfl <| ?_; refine s_do (o_bslice (j := 0) (as' := [(.int .u8 (IntKind.u8.wrap (w64 (48 + (k_9.tmod 10)))))]) rfl (fun _ => by decide) ⟨rfl, trivial⟩ (.refl _) rfl rfl rfl) ?_; refine s_do (o_convbso (l := [IntKind.u8.wrap (w64 (48 + (k_9.tmod 10)))]) rfl rfl (by simp)) <| s_mov (.str out_10) rfl <| s_q (.str ((bstr [IntKind.u8.wrap (w64 (48 + (k_9.tmod 10)))]) ++ out_10)) rfl g16 rfl <| s_mov (.str ((bstr [IntKind.u8.wrap (w64 (48 + (k_9.tmod 10)))]) ++ out_10)) rfl <| w_done <| k_seq <| w_reg <| s_mov (.int .i64 k_9) rfl <| ?_
     refine s_q (.int .i64 (w64 (k_9.tdiv 10))) rfl ⟨rfl, by decide⟩ rfl <| s_mov (.int .i64 (w64 (k_9.tdiv 10))) rfl <| w_done <| k_blk <| ?_; exact k_loopn ⟨(k, w64 (k_9.tdiv 10), (bstr [IntKind.u8.wrap (w64 (48 + (k_9.tmod 10)))]) ++ out_10), hc1⟩ (Nat.lt_succ_self _) ⟨[], [], _, _, rfl, rfl, ⟨.refl _, ⟨.refl _, trivial⟩⟩, (.refl _)⟩
    ·refine w_condf rfl (bf c15) <| w_exit <| k_seqx <| k_loopx <| k_blkx <| ?_; obtain rfl := os hc1; exact ⟨[], [], _, _, rfl, rfl, ⟨.refl _, trivial⟩, (.refl _)⟩
  ·refine awp_seq <| w_reg <| ?_
   obtain ⟨g17, hf⟩ := og hf
   refine s_mov (.str out_13) rfl <| s_q (.str ([109] ++ out_13)) rfl g17 rfl <| s_mov (.str ([109] ++ out_13)) rfl <| w_done <| k_seq <| w_ret <| ?_; obtain rfl := os hf; exact r_flat ⟨trivial, trivial⟩ rfl (.refl _)

/- laws.markStringS -/
def c45_h0 : ACode :=
 (.seq (.reg (tm 4 (.c (.int .i64 0)) .done))
 (.seq (.seq (.reg (tm 5 (.c (.int .i64 0)) .done))
 (.block 0 (.loop (.seq (.seq (.reg (tm 6 (.t 5) (tm 7 (.t 0) (tq 8 (.len (.t 7)) (tq 9 (.bin .lss (.t 6) (.t 8)) .done)))))
 (.cond (.t 9) .skip
 (.exit 0)))
 (.seq (.block 1 (.seq (.reg (tm 12 (.t 0) (tm 13 (.t 5) (tm 14 (.t 1) (tq 15 (.call 117 [(.t 14)]) (tq 16 (.iaddr 1 (.t 12) (.t 13)) (.q ⟨none, none, .store 1 (.t 16) (.t 15)⟩
 .done)))))))
 (.reg (tm 17 (.t 1) (tq 18 (.bin .add (.t 17) (.c (.int .i64 1))) (tm 1 (.t 18) .done))))))
 (.reg (tm 10 (.t 5) (tq 11 (.bin .add (.t 10) (.c (.int .i64 1))) (tm 5 (.t 11) .done)))))))))
 (.cut (.seq (.reg (tm 19 (.t 1) (tm 4 (.t 19) .done)))
 .ret))))
theorem fc45_h0 : fcomp Try.prog Try.f45 = some (c45_h0.erase, [.mov (.t 4)], 20) := by kernel_rfl
def laws_markStringS_L1  : Nat → Int → Int → (List Str) → Option (Int × (List Str))
  | 0, _, _, _ => none
  | k + 1, k_48, i_49, a_50 =>
    if (decide (i_49 < (a_50.length : Int))) then
    (laws_markText k_48).bind fun r_63 =>
    if 0 ≤ i_49 ∧ i_49 < (a_50.length : Int) then
    (a_50[(0 + i_49.toNat)]?).bind fun x_66 =>
    laws_markStringS_L1 k (w64 (k_48 + 1)) (w64 (i_49 + 1)) (a_50.set (0 + i_49.toNat) r_63)
    else none
    else
    some (k_48, a_50)

def laws_markStringS (a_1 : (List Str)) (k_2 : Int) : Option (Int × (List Str)) :=
    (laws_markStringS_L1 FUEL k_2 0 a_1).bind fun p60 =>
    (match p60 with
    | (k_58, l_59) =>
    some (k_58, l_59))
theorem w_laws_markStringS (a_1 : (List Str)) (k_2 : Int) (r : (Int × (List Str))) (hf : laws_markStringS a_1 k_2 = some r) : CallHeap Try.prog ⟨true, true⟩ 45 [(.own 0 0 a_1.length), (.int .i64 k_2)] [.row 1 (a_1.map AV.str)] (.int .i64 r.1) [.row 1 (r.2.map AV.str)] := by
 refine CallHeap.of_awp mixed Try.func45 fc45_h0 nle ?_; rw [argT_eq]; unfold laws_markStringS at hf; unfold c45_h0; refine (show awp Try.prog ⟨true, true⟩ 1 _ (ofL [(0, (.own 0 0 a_1.length)), (1, (.int .i64 k_2))]) [.row 1 (a_1.map AV.str)] _ from ?_); refine awp_seq <| w_reg <| s_mov (.int .i64 0) rfl <| w_done <| k_seq <| awp_seq <| awp_seq <| w_reg <| s_mov (.int .i64 0) rfl <| w_done <| k_seq <| ?_
 obtain ⟨p60, hb1, hf⟩ := ob hf
 refine awp_cut ([(1, (.int .i64 p60.1))], [.row 1 (p60.2.map AV.str)]) ?_ ?_
 ·refine awp_loop (X := {q : (Nat × Int × Int × (List Str)) // laws_markStringS_L1 q.1 q.2.1 q.2.2.1 q.2.2.2 = some p60}) (fun q => ([(0, (.own 0 0 q.1.2.2.2.length)), (1, (.int .i64 q.1.2.1)), (5, (.int .i64 q.1.2.2.1))], [.row 1 (q.1.2.2.2.map AV.str)])) (fun q => q.1.1) ⟨(FUEL, k_2, 0, a_1), hb1⟩ ⟨[], [0], _, _, rfl, rfl, ⟨.refl _, ⟨.refl _, ⟨.refl _, trivial⟩⟩⟩, (.refl _)⟩ ?_
  rintro ⟨⟨k, k_48, i_49, a_50⟩, hc1⟩
  have hc1 : laws_markStringS_L1 k k_48 i_49 a_50 = some p60 := hc1
  refine (show awp Try.prog ⟨true, true⟩ 1 _ (ofL [(0, (.own 0 0 a_50.length)), (1, (.int .i64 k_48)), (5, (.int .i64 i_49))]) [.row 1 (a_50.map AV.str)] _ from ?_)
  rcases k with _ | k
  ·rw [laws_markStringS_L1.eq_1] at hc1
   cases hc1
  ·rw [laws_markStringS_L1.eq_2] at hc1; refine awp_seq <| awp_seq <| w_reg <| s_mov (.int .i64 i_49) rfl <| s_mov (.own 0 0 a_50.length) rfl <| s_dof (o_lenown rfl rfl) fun hl61 => s_q (.bool (decide (i_49 < (a_50.length : Int)))) rfl (.of rfl trivial) rfl <| w_done <| k_seq <| ?_
   rcases oi hc1 with ⟨c62, hc1⟩ | ⟨c62, hc1⟩
   ·refine w_condt rfl c62 <| w_skip <| k_seq <| awp_seq <| w_blk <| awp_seq <| w_reg <| ?_
    obtain ⟨r_63, er64, hc1⟩ := ob hc1
    obtain ⟨g65, hc1⟩ := og hc1
    obtain ⟨x_66, ex67, hc1⟩ := ob hc1
    refine s_mov (.own 0 0 a_50.length) rfl <| s_mov (.int .i64 i_49) rfl <| s_mov (.int .i64 k_48) rfl <| s_do (o_call (w_laws_markText _ _ er64) rfl (.refl _) rfl) <| s_do (o_iaddrown rfl rfl g65.1 g65.2 rfl rfl) <| ?_; refine s_do0 (o_storerow (v' := (.str r_63)) (e' := r_63) rfl rfl ex67 rfl rfl rfl (by decide) (fun _ => by decide) ⟨rfl, rfl, rfl⟩ (.refl _) rfl) ?_; refine w_done <| k_seq <| w_reg <| s_mov (.int .i64 k_48) rfl <| s_q (.int .i64 (w64 (k_48 + 1))) rfl (.of rfl trivial) rfl <| s_mov (.int .i64 (w64 (k_48 + 1))) rfl <| w_done <| k_blk <| k_seq <| w_reg <| s_mov (.int .i64 i_49) rfl <| s_q (.int .i64 (w64 (i_49 + 1))) rfl (.of rfl trivial) rfl <| s_mov (.int .i64 (w64 (i_49 + 1))) rfl <| w_done <| ?_; exact k_loopn ⟨(k, w64 (k_48 + 1), w64 (i_49 + 1), a_50.set (0 + i_49.toNat) r_63), hc1⟩ (Nat.lt_succ_self _) ⟨[], [0], _, _, rfl, rfl, ⟨.of_eq (congrArg (AV.own _ 0) (by simp)), ⟨.refl _, ⟨.refl _, trivial⟩⟩⟩, (.refl _)⟩
   ·refine w_condf rfl (bf c62) <| w_exit <| k_seqx <| k_loopx <| k_blkx <| ?_; obtain rfl := os hc1; exact ⟨[], [0], _, _, rfl, rfl, ⟨.refl _, trivial⟩, (.refl _)⟩
 ·obtain ⟨k_58, l_59⟩ := p60
  refine awp_seq <| w_reg <| s_mov (.int .i64 k_58) rfl <| s_mov (.int .i64 k_58) rfl <| w_done <| k_seq <| w_ret <| ?_; obtain rfl := os hf; exact r_heap [] [0] rfl ⟨.of trivial trivial, trivial⟩ rfl (.refl _) (.refl _)

/- laws.markJsonS -/
def c112_h0 : ACode :=
 (.seq (.reg (tm 4 (.c (.int .i64 0)) .done))
 (.seq (.seq (.reg (tm 5 (.c (.int .i64 0)) .done))
 (.block 0 (.loop (.seq (.seq (.reg (tm 6 (.t 5) (tm 7 (.t 0) (tq 8 (.len (.t 7)) (tq 9 (.bin .lss (.t 6) (.t 8)) .done)))))
 (.cond (.t 9) .skip
 (.exit 0)))
 (.seq (.block 1 (.seq (.reg (tm 12 (.t 0) (tm 13 (.t 5) (tm 14 (.t 1) (tq 15 (.iaddr 5 (.t 12) (.t 13)) (tq 16 (.faddr 0 (.t 15)) (.q ⟨none, none, .store 1 (.t 16) (.t 14)⟩
 .done)))))))
 (.seq (.reg (tm 17 (.t 1) (tq 18 (.bin .add (.t 17) (.c (.int .i64 1))) (tm 1 (.t 18) .done))))
 (.seq (.reg (tm 19 (.t 0) (tm 20 (.t 5) (tm 21 (.t 1) (tq 22 (.iaddr 5 (.t 19) (.t 20)) (tq 23 (.faddr 1 (.t 22)) (.q ⟨none, none, .store 1 (.t 23) (.t 21)⟩
 .done)))))))
 (.seq (.reg (tm 24 (.t 1) (tq 25 (.bin .add (.t 24) (.c (.int .i64 1))) (tm 1 (.t 25) .done))))
 (.seq (.reg (tm 26 (.t 0) (tm 27 (.t 5) (tm 28 (.t 1) (tq 29 (.call 117 [(.t 28)]) (tq 30 (.iaddr 5 (.t 26) (.t 27)) (tq 31 (.faddr 2 (.t 30)) (.q ⟨none, none, .store 1 (.t 31) (.t 29)⟩
 .done))))))))
 (.seq (.reg (tm 32 (.t 1) (tq 33 (.bin .add (.t 32) (.c (.int .i64 1))) (tm 1 (.t 33) .done))))
 (.seq (.rev (.reg (tm 34 (.t 0) (tm 35 (.t 5) (tq 36 (.iaddr 5 (.t 34) (.t 35)) (tq 37 (.faddr 3 (.t 36)) (tq 38 (.load 1 false (.t 37)) (tm 39 (.t 1) (tq 40 (.call 45 [(.t 38), (.t 39)]) (tm 1 (.t 40) .done))))))))))
 (.rev (.reg (tm 41 (.t 0) (tm 42 (.t 5) (tq 43 (.iaddr 5 (.t 41) (.t 42)) (tq 44 (.faddr 4 (.t 43)) (tq 45 (.load 1 false (.t 44)) (tm 46 (.t 1) (tq 47 (.call 112 [(.t 45), (.t 46)]) (tm 1 (.t 47) .done))))))))))))))))))
 (.reg (tm 10 (.t 5) (tq 11 (.bin .add (.t 10) (.c (.int .i64 1))) (tm 5 (.t 11) .done)))))))))
 (.cut (.seq (.reg (tm 48 (.t 1) (tm 4 (.t 48) .done)))
 .ret))))
theorem fc112_h0 : fcomp Try.prog Try.f112 = some (c112_h0.erase, [.mov (.t 4)], 49) := by kernel_rfl
def laws_markJsonS_B_L1 (rec : ((List GJson) → Int → Option (Int × (List GJson)))) : Nat → Int → Int → (List GJson) → Option (Int × (List GJson))
  | 0, _, _, _ => none
  | k + 1, k_108, i_109, a_110 =>
    if (decide (i_109 < (a_110.length : Int))) then
    if 0 ≤ i_109 ∧ i_109 < (a_110.length : Int) then
    (a_110[(0 + i_109.toNat)]?).bind fun x_136 =>
    if 0 ≤ i_109 ∧ i_109 < (a_110.length : Int) then
    (laws_markText (w64 ((w64 (k_108 + 1)) + 1))).bind fun r_139 =>
    if 0 ≤ i_109 ∧ i_109 < (a_110.length : Int) then
    if 0 ≤ i_109 ∧ i_109 < (a_110.length : Int) then
    (laws_markStringS x_136.Keys (w64 ((w64 ((w64 (k_108 + 1)) + 1)) + 1))).bind fun r_145 =>
    if 0 ≤ i_109 ∧ i_109 < (a_110.length : Int) then
    (rec x_136.Items r_145.1).bind fun r_150 =>
    laws_markJsonS_B_L1 rec k r_150.1 (w64 (i_109 + 1)) (((((a_110.set (0 + i_109.toNat) (⟨k_108, x_136.N, x_136.T, x_136.Keys, x_136.Items⟩ : GJson)).set (0 + i_109.toNat) (⟨k_108, w64 (k_108 + 1), x_136.T, x_136.Keys, x_136.Items⟩ : GJson)).set (0 + i_109.toNat) (⟨k_108, w64 (k_108 + 1), r_139, x_136.Keys, x_136.Items⟩ : GJson)).set (0 + i_109.toNat) (⟨k_108, w64 (k_108 + 1), r_139, r_145.2, x_136.Items⟩ : GJson)).set (0 + i_109.toNat) (⟨k_108, w64 (k_108 + 1), r_139, r_145.2, r_150.2⟩ : GJson))
    else none
    else none
    else none
    else none
    else none
    else
    some (k_108, a_110)

def laws_markJsonS_B (rec : ((List GJson) → Int → Option (Int × (List GJson)))) (a_1 : (List GJson)) (k_2 : Int) : Option (Int × (List GJson)) :=
    (laws_markJsonS_B_L1 rec FUEL k_2 0 a_1).bind fun p132 =>
    (match p132 with
    | (k_130, l_131) =>
    some (k_130, l_131))
theorem w_laws_markJsonS_B (rec : ((List GJson) → Int → Option (Int × (List GJson)))) (hrec : ∀ a0 a1 r, rec a0 a1 = some r → CallHeap Try.prog ⟨true, true⟩ 112 [(.own 0 0 a0.length), (.int .i64 a1)] [.row 5 (a0.map encGJson)] (.int .i64 r.1) [.row 5 (r.2.map encGJson)]) (a_1 : (List GJson)) (k_2 : Int) (r : (Int × (List GJson))) (hf : laws_markJsonS_B rec a_1 k_2 = some r) : CallHeap Try.prog ⟨true, true⟩ 112 [(.own 0 0 a_1.length), (.int .i64 k_2)] [.row 5 (a_1.map encGJson)] (.int .i64 r.1) [.row 5 (r.2.map encGJson)] := by
 refine CallHeap.of_awp mixed Try.func112 fc112_h0 nle ?_; rw [argT_eq]; unfold laws_markJsonS_B at hf; unfold c112_h0; refine (show awp Try.prog ⟨true, true⟩ 1 _ (ofL [(0, (.own 0 0 a_1.length)), (1, (.int .i64 k_2))]) [.row 5 (a_1.map encGJson)] _ from ?_); refine awp_seq <| w_reg <| s_mov (.int .i64 0) rfl <| w_done <| k_seq <| awp_seq <| awp_seq <| w_reg <| s_mov (.int .i64 0) rfl <| w_done <| k_seq <| ?_
 obtain ⟨p132, hb1, hf⟩ := ob hf
 refine awp_cut ([(1, (.int .i64 p132.1))], [.row 5 (p132.2.map encGJson)]) ?_ ?_
 ·refine awp_loop (X := {q : (Nat × Int × Int × (List GJson)) // laws_markJsonS_B_L1 rec q.1 q.2.1 q.2.2.1 q.2.2.2 = some p132}) (fun q => ([(0, (.own 0 0 q.1.2.2.2.length)), (1, (.int .i64 q.1.2.1)), (5, (.int .i64 q.1.2.2.1))], [.row 5 (q.1.2.2.2.map encGJson)])) (fun q => q.1.1) ⟨(FUEL, k_2, 0, a_1), hb1⟩ ⟨[], [0], _, _, rfl, rfl, ⟨.refl _, ⟨.refl _, ⟨.refl _, trivial⟩⟩⟩, (.refl _)⟩ ?_
  rintro ⟨⟨k, k_108, i_109, a_110⟩, hc1⟩
  have hc1 : laws_markJsonS_B_L1 rec k k_108 i_109 a_110 = some p132 := hc1
  refine (show awp Try.prog ⟨true, true⟩ 1 _ (ofL [(0, (.own 0 0 a_110.length)), (1, (.int .i64 k_108)), (5, (.int .i64 i_109))]) [.row 5 (a_110.map encGJson)] _ from ?_)
  rcases k with _ | k
  ·rw [laws_markJsonS_B_L1.eq_1] at hc1
   cases hc1
  ·rw [laws_markJsonS_B_L1.eq_2] at hc1; refine awp_seq <| awp_seq <| w_reg <| s_mov (.int .i64 i_109) rfl <| s_mov (.own 0 0 a_110.length) rfl <| s_dof (o_lenown rfl rfl) fun hl133 => s_q (.bool (decide (i_109 < (a_110.length : Int)))) rfl (.of rfl trivial) rfl <| w_done <| k_seq <| ?_
   rcases oi hc1 with ⟨c134, hc1⟩ | ⟨c134, hc1⟩
   ·refine w_condt rfl c134 <| w_skip <| k_seq <| awp_seq <| w_blk <| awp_seq <| w_reg <| ?_
    obtain ⟨g135, hc1⟩ := og hc1
    obtain ⟨x_136, ex137, hc1⟩ := ob hc1
    refine s_mov (.own 0 0 a_110.length) rfl <| s_mov (.int .i64 i_109) rfl <| s_mov (.int .i64 k_108) rfl <| s_do (o_iaddrown rfl rfl g135.1 g135.2 rfl rfl) <| s_q (.ptr 0 (0 + i_109.toNat) 0) rfl (.of trivial trivial) rfl <| ?_; refine s_do0 (o_storeroweq (v' := (.int .i64 k_108)) (e' := (⟨k_108, x_136.N, x_136.T, x_136.Keys, x_136.Items⟩ : GJson)) rfl rfl ex137 (encGJson_eq _) rfl rfl rfl (by decide) (fun _ => by decide) ⟨rfl, nle⟩ (.of_eq (encGJson_eq (⟨k_108, x_136.N, x_136.T, x_136.Keys, x_136.Items⟩ : GJson)).symm) rfl) ?_; refine w_done <| k_seq <| awp_seq <| w_reg <| s_mov (.int .i64 k_108) rfl <| s_q (.int .i64 (w64 (k_108 + 1))) rfl (.of rfl trivial) rfl <| s_mov (.int .i64 (w64 (k_108 + 1))) rfl <| w_done <| k_seq <| ?_
    refine awp_seq <| w_reg <| ?_
    obtain ⟨g138, hc1⟩ := og hc1
    refine s_mov (.own 0 0 a_110.length) rfl <| s_mov (.int .i64 i_109) rfl <| s_mov (.int .i64 (w64 (k_108 + 1))) rfl <| s_do (o_iaddrown rfl rfl g138.1 g138.2 rfl rfl) <| s_q (.ptr 0 (0 + i_109.toNat) 1) rfl (.of trivial trivial) rfl <| ?_; refine s_do0 (o_storeroweq (v' := (.int .i64 (w64 (k_108 + 1)))) (e' := (⟨k_108, w64 (k_108 + 1), x_136.T, x_136.Keys, x_136.Items⟩ : GJson)) rfl rfl (setget ex137) (encGJson_eq _) rfl rfl rfl (by decide) (fun _ => by decide) ⟨rfl, nle⟩ (.of_eq (encGJson_eq (⟨k_108, w64 (k_108 + 1), x_136.T, x_136.Keys, x_136.Items⟩ : GJson)).symm) rfl) ?_; refine w_done <| k_seq <| awp_seq <| w_reg <| s_mov (.int .i64 (w64 (k_108 + 1))) rfl <| s_q (.int .i64 (w64 ((w64 (k_108 + 1)) + 1))) rfl (.of rfl trivial) rfl <| ?_
    refine s_mov (.int .i64 (w64 ((w64 (k_108 + 1)) + 1))) rfl <| w_done <| k_seq <| awp_seq <| w_reg <| ?_
    obtain ⟨r_139, er140, hc1⟩ := ob hc1
    obtain ⟨g141, hc1⟩ := og hc1
    refine s_mov (.own 0 0 a_110.length) rfl <| s_mov (.int .i64 i_109) rfl <| s_mov (.int .i64 (w64 ((w64 (k_108 + 1)) + 1))) rfl <| s_do (o_call (w_laws_markText _ _ er140) rfl (.refl _) rfl) <| s_do (o_iaddrown rfl rfl g141.1 g141.2 rfl rfl) <| s_q (.ptr 0 (0 + i_109.toNat) 2) rfl (.of trivial trivial) rfl <| ?_; refine s_do0 (o_storeroweq (v' := (.str r_139)) (e' := (⟨k_108, w64 (k_108 + 1), r_139, x_136.Keys, x_136.Items⟩ : GJson)) rfl rfl (setget (setget ex137)) (encGJson_eq _) rfl rfl rfl (by decide) (fun _ => by decide) ⟨rfl, nle⟩ (.of_eq (encGJson_eq (⟨k_108, w64 (k_108 + 1), r_139, x_136.Keys, x_136.Items⟩ : GJson)).symm) rfl) ?_; refine w_done <| k_seq <| awp_seq <| w_reg <| s_mov (.int .i64 (w64 ((w64 (k_108 + 1)) + 1))) rfl <| ?_
    refine s_q (.int .i64 (w64 ((w64 ((w64 (k_108 + 1)) + 1)) + 1))) rfl (.of rfl trivial) rfl <| s_mov (.int .i64 (w64 ((w64 ((w64 (k_108 + 1)) + 1)) + 1))) rfl <| w_done <| k_seq <| awp_seq <| ?_; refine w_rev (o := 0) (f := 3) (l' := x_136.Keys) (enc' := AV.str) (el := (.agg [(.int .i64 k_108), (.int .i64 (w64 (k_108 + 1))), (.str r_139), (.lst 1 (x_136.Keys.map AV.str)), (.lst 5 (x_136.Items.map encGJson))])) rfl (setget (setget (setget ex137))) (encGJson_eq _) rfl fun v_143 => ?_; refine w_reg ?_
    obtain ⟨g144, hc1⟩ := og hc1
    obtain ⟨r_145, er146, hc1⟩ := ob hc1
    refine s_mov (.own 0 0 a_110.length) rfl <| s_mov (.int .i64 i_109) rfl <| s_do (o_iaddrown rfl rfl g144.1 g144.2 rfl rfl) <| s_q (.ptr 0 (0 + i_109.toNat) 3) rfl (.of trivial trivial) rfl <| s_do (o_loadhdr rfl rfl (getset (setget (setget (setget ex137)))) nle rfl) <| s_mov (.int .i64 (w64 ((w64 ((w64 (k_108 + 1)) + 1)) + 1))) rfl <| s_do (o_callm (o := 0) (l := (((a_110.set (0 + i_109.toNat) (⟨k_108, x_136.N, x_136.T, x_136.Keys, x_136.Items⟩ : GJson)).set (0 + i_109.toNat) (⟨k_108, w64 (k_108 + 1), x_136.T, x_136.Keys, x_136.Items⟩ : GJson)).set (0 + i_109.toNat) (⟨k_108, w64 (k_108 + 1), r_139, x_136.Keys, x_136.Items⟩ : GJson))) (enc := encGJson) (enc' := AV.str) (l'' := r_145.2) (y := (⟨k_108, w64 (k_108 + 1), r_139, r_145.2, x_136.Items⟩ : GJson)) (j := 3) (el := (.agg [(.int .i64 k_108), (.int .i64 (w64 (k_108 + 1))), (.str r_139), (.hdr v_143 1 (x_136.Keys.map AV.str)), (.lst 5 (x_136.Items.map encGJson))])) rfl rfl (w_laws_markStringS _ _ _ er146) rfl rfl (setget (setget (setget ex137))) rfl (by decide) (encGJson_eq (⟨k_108, w64 (k_108 + 1), r_139, r_145.2, x_136.Items⟩ : GJson)).symm) <| ?_
    refine s_mov (.int .i64 r_145.1) rfl <| w_done <| k_seq <| ?_; refine w_rev (o := 0) (f := 4) (l' := x_136.Items) (enc' := encGJson) (el := (.agg [(.int .i64 k_108), (.int .i64 (w64 (k_108 + 1))), (.str r_139), (.lst 1 (r_145.2.map AV.str)), (.lst 5 (x_136.Items.map encGJson))])) rfl (setget (setget (setget (setget ex137)))) (encGJson_eq _) rfl fun v_148 => ?_; refine w_reg ?_
    obtain ⟨g149, hc1⟩ := og hc1
    obtain ⟨r_150, er151, hc1⟩ := ob hc1
    refine s_mov (.own 0 0 a_110.length) rfl <| s_mov (.int .i64 i_109) rfl <| s_do (o_iaddrown rfl rfl g149.1 g149.2 rfl rfl) <| s_q (.ptr 0 (0 + i_109.toNat) 4) rfl (.of trivial trivial) rfl <| s_do (o_loadhdr rfl rfl (getset (setget (setget (setget (setget ex137))))) nle rfl) <| s_mov (.int .i64 r_145.1) rfl <| s_do (o_callm (o := 0) (l := ((((a_110.set (0 + i_109.toNat) (⟨k_108, x_136.N, x_136.T, x_136.Keys, x_136.Items⟩ : GJson)).set (0 + i_109.toNat) (⟨k_108, w64 (k_108 + 1), x_136.T, x_136.Keys, x_136.Items⟩ : GJson)).set (0 + i_109.toNat) (⟨k_108, w64 (k_108 + 1), r_139, x_136.Keys, x_136.Items⟩ : GJson)).set (0 + i_109.toNat) (⟨k_108, w64 (k_108 + 1), r_139, r_145.2, x_136.Items⟩ : GJson))) (enc := encGJson) (enc' := encGJson) (l'' := r_150.2) (y := (⟨k_108, w64 (k_108 + 1), r_139, r_145.2, r_150.2⟩ : GJson)) (j := 4) (el := (.agg [(.int .i64 k_108), (.int .i64 (w64 (k_108 + 1))), (.str r_139), (.lst 1 (r_145.2.map AV.str)), (.hdr v_148 5 (x_136.Items.map encGJson))])) rfl rfl (hrec _ _ _ er151) rfl rfl (setget (setget (setget (setget ex137)))) rfl (by decide) (encGJson_eq (⟨k_108, w64 (k_108 + 1), r_139, r_145.2, r_150.2⟩ : GJson)).symm) <| ?_
    refine s_mov (.int .i64 r_150.1) rfl <| w_done <| k_blk <| k_seq <| w_reg <| s_mov (.int .i64 i_109) rfl <| s_q (.int .i64 (w64 (i_109 + 1))) rfl (.of rfl trivial) rfl <| s_mov (.int .i64 (w64 (i_109 + 1))) rfl <| w_done <| ?_; exact k_loopn ⟨(k, r_150.1, w64 (i_109 + 1), ((((a_110.set (0 + i_109.toNat) (⟨k_108, x_136.N, x_136.T, x_136.Keys, x_136.Items⟩ : GJson)).set (0 + i_109.toNat) (⟨k_108, w64 (k_108 + 1), x_136.T, x_136.Keys, x_136.Items⟩ : GJson)).set (0 + i_109.toNat) (⟨k_108, w64 (k_108 + 1), r_139, x_136.Keys, x_136.Items⟩ : GJson)).set (0 + i_109.toNat) (⟨k_108, w64 (k_108 + 1), r_139, r_145.2, x_136.Items⟩ : GJson)).set (0 + i_109.toNat) (⟨k_108, w64 (k_108 + 1), r_139, r_145.2, r_150.2⟩ : GJson)), hc1⟩ (Nat.lt_succ_self _) ⟨[], [0], _, _, rfl, rfl, ⟨.of_eq (congrArg (AV.own _ 0) (by simp)), ⟨.refl _, ⟨.refl _, trivial⟩⟩⟩, (.refl _)⟩
   ·refine w_condf rfl (bf c134) <| w_exit <| k_seqx <| k_loopx <| k_blkx <| ?_; obtain rfl := os hc1; exact ⟨[], [0], _, _, rfl, rfl, ⟨.refl _, trivial⟩, (.refl _)⟩
 ·obtain ⟨k_130, l_131⟩ := p132
  refine awp_seq <| w_reg <| s_mov (.int .i64 k_130) rfl <| s_mov (.int .i64 k_130) rfl <| w_done <| k_seq <| w_ret <| ?_; obtain rfl := os hf; exact r_heap [] [0] rfl ⟨.of trivial trivial, trivial⟩ rfl (.refl _) (.refl _)
def laws_markJsonS : Nat → (List GJson) → Int → Option (Int × (List GJson))
 | 0, _, _ => none
 | k + 1, a_1, k_2 => laws_markJsonS_B (laws_markJsonS k) a_1 k_2
theorem w_laws_markJsonS : ∀ (k : Nat) (a_1 : (List GJson)) (k_2 : Int) (r : (Int × (List GJson))), laws_markJsonS k a_1 k_2 = some r → CallHeap Try.prog ⟨true, true⟩ 112 [(.own 0 0 a_1.length), (.int .i64 k_2)] [.row 5 (a_1.map encGJson)] (.int .i64 r.1) [.row 5 (r.2.map encGJson)]
 | 0, a_1, k_2, r, h => by rw [laws_markJsonS.eq_1] at h; cases h
 | k + 1, a_1, k_2, r, h => by
  rw [laws_markJsonS.eq_2] at h; exact w_laws_markJsonS_B _ (w_laws_markJsonS k) a_1 k_2 r h

/- laws.markJson -/
def c39_h0 : ACode :=
 (.seq (.reg (tq 2 (.box 5 (.t 0)) (tm 4 (.c (.int .i64 0)) .done)))
 (.seq (.reg (tq 5 (.faddr 3 (.t 2)) (tq 6 (.load 1 false (.t 5)) (tm 7 (.t 1) (tq 8 (.call 45 [(.t 6), (.t 7)]) (tm 1 (.t 8) .done))))))
 (.seq (.reg (tq 9 (.faddr 4 (.t 2)) (tq 10 (.load 1 false (.t 9)) (tm 11 (.t 1) (tq 12 (.call 112 [(.t 10), (.t 11)]) (tm 1 (.t 12) .done))))))
 (.seq (.reg (tm 13 (.t 1) (tm 4 (.t 13) .done)))
 .ret))))
theorem fc39_h0 : fcomp Try.prog Try.f39 = some (c39_h0.erase, [.mov (.t 4)], 14) := by kernel_rfl
def laws_markJson (a_1 : GJson) (k_2 : Int) : Option (Int × GJson) :=
    (laws_markStringS a_1.Keys k_2).bind fun r_3 =>
    (laws_markJsonS FUEL a_1.Items r_3.1).bind fun r_6 =>
    some (r_6.1, (⟨a_1.Kind, a_1.N, a_1.T, r_3.2, r_6.2⟩ : GJson))
theorem w_laws_markJson (a_1 : GJson) (k_2 : Int) (r : (Int × GJson)) (hf : laws_markJson a_1 k_2 = some r) : CallHeap Try.prog ⟨true, true⟩ 39 [(.agg [(.int .i64 a_1.Kind), (.int .i64 a_1.N), (.str a_1.T), (.own 0 0 a_1.Keys.length), (.own 1 0 a_1.Items.length)]), (.int .i64 k_2)] [.row 1 (a_1.Keys.map AV.str), .row 5 (a_1.Items.map encGJson)] (.int .i64 r.1) [.row 1 (r.2.Keys.map AV.str), .row 5 (r.2.Items.map encGJson)] := by
 refine CallHeap.of_awp mixed Try.func39 fc39_h0 nle ?_; rw [argT_eq]; unfold laws_markJson at hf; unfold c39_h0; refine (show awp Try.prog ⟨true, true⟩ 2 _ (ofL [(0, (.agg [(.int .i64 a_1.Kind), (.int .i64 a_1.N), (.str a_1.T), (.own 0 0 a_1.Keys.length), (.own 1 0 a_1.Items.length)])), (1, (.int .i64 k_2))]) [.row 1 (a_1.Keys.map AV.str), .row 5 (a_1.Items.map encGJson)] _ from ?_); refine awp_seq <| w_reg <| s_do (o_box (j := 2) (c := (.agg [(.int .i64 a_1.Kind), (.int .i64 a_1.N), (.str a_1.T), (.own 0 0 a_1.Keys.length), (.own 1 0 a_1.Items.length)])) rfl trivial rfl rfl) <| s_mov (.int .i64 0) rfl <| w_done <| k_seq <| awp_seq <| w_reg <| ?_
 obtain ⟨r_3, er4, hf⟩ := ob hf
 refine s_q (.ptr 2 0 3) rfl (.of trivial trivial) rfl <| s_q (.own 0 0 a_1.Keys.length) rfl (.of nle trivial) rfl <| s_mov (.int .i64 k_2) rfl <| ?_; refine s_dof (o_callhs (v := (.int .i64 r_3.1)) (h2 := [.row 1 (r_3.2.map AV.str), .row 5 (a_1.Items.map encGJson), .box 5 (.agg [(.int .i64 a_1.Kind), (.int .i64 a_1.N), (.str a_1.T), (.own 0 0 a_1.Keys.length), (.own 1 0 a_1.Items.length)])]) [] [0] (fun _ => rfl) (w_laws_markStringS _ _ _ er4) rfl (.refl _) (.refl _) rfl rfl) fun hl5 => ?_; refine s_mov (.int .i64 r_3.1) rfl <| w_done <| k_seq <| awp_seq <| w_reg <| ?_
 obtain ⟨r_6, er7, hf⟩ := ob hf
 refine s_q (.ptr 2 0 4) rfl (.of trivial trivial) rfl <| s_q (.own 1 0 a_1.Items.length) rfl (.of nle trivial) rfl <| s_mov (.int .i64 r_3.1) rfl <| ?_; refine s_dof (o_callhs (v := (.int .i64 r_6.1)) (h2 := [.row 1 (r_3.2.map AV.str), .row 5 (r_6.2.map encGJson), .box 5 (.agg [(.int .i64 a_1.Kind), (.int .i64 a_1.N), (.str a_1.T), (.own 0 0 a_1.Keys.length), (.own 1 0 a_1.Items.length)])]) [] [1] (fun _ => rfl) (w_laws_markJsonS FUEL _ _ _ er7) rfl (.refl _) (.refl _) rfl rfl) fun hl8 => ?_; refine s_mov (.int .i64 r_6.1) rfl <| w_done <| k_seq <| awp_seq <| w_reg <| s_mov (.int .i64 r_6.1) rfl <| s_mov (.int .i64 r_6.1) rfl <| w_done <| k_seq <| w_ret <| ?_; obtain rfl := os hf; exact r_heap [] [0, 1] rfl ⟨.of trivial trivial, trivial⟩ rfl (.refl _) (.refl _)

/- laws.heldStringS -/
def c46 : ACode :=
 (.seq (.reg (tm 4 (.c (.int .i64 0)) .done))
 (.seq (.seq (.reg (tm 5 (.c (.int .i64 0)) .done))
 (.block 0 (.loop (.seq (.seq (.reg (tm 6 (.t 5) (tm 7 (.t 0) (tq 8 (.len (.t 7)) (tq 9 (.bin .lss (.t 6) (.t 8)) .done)))))
 (.cond (.t 9) .skip
 (.exit 0)))
 (.seq (.block 1 (.seq (.seq (.reg (tm 12 (.t 0) (tm 13 (.t 5) (tq 14 (.iaddr 1 (.t 12) (.t 13)) (tq 15 (.load 1 false (.t 14)) (tm 16 (.t 1) (.l ⟨(some 17), none, .call 117 [(.t 16)]⟩ [⟨(some 15), none, .load 1 false (.t 14)⟩, ⟨(some 14), none, .iaddr 1 (.t 12) (.t 13)⟩]
 (tq 18 (.bin .neq (.t 15) (.t 17)) .done) .non)))))))
 (.cond (.t 18) (.seq (.reg (tq 4 (.mov (.c (.int .i64 (-1)))) .done))
 .ret)
 .skip))
 (.reg (tm 19 (.t 1) (tq 20 (.bin .add (.t 19) (.c (.int .i64 1))) (tm 1 (.t 20) .done))))))
 (.reg (tm 10 (.t 5) (tq 11 (.bin .add (.t 10) (.c (.int .i64 1))) (tm 5 (.t 11) .done)))))))))
 (.cut (.seq (.reg (tm 21 (.t 1) (tm 4 (.t 21) .done)))
 .ret))))
theorem fc46 : fcomp Try.prog Try.f46 = some (c46.erase, [.mov (.t 4)], 22) := by kernel_rfl
def laws_heldStringS_L1  : List Str → Int → Option (Fl Int Int)
  | [], k_19 =>
    some (.go k_19)
  | x_37 :: xs, k_19 =>
    (laws_markText k_19).bind fun r_40 =>
    if (!(x_37 == r_40)) then
    some (.ret (-1))
    else
    laws_heldStringS_L1 xs (w64 (k_19 + 1)) 

def laws_heldStringS (a_1 : (List Str)) (k_2 : Int) : Option Int :=
    (laws_heldStringS_L1 a_1 k_2).bind fun q => (match q with
    | .ret r => some r
    | .go k_29 =>
    some k_29)
theorem w_laws_heldStringS (a_1 : (List Str)) (k_2 : Int) (r : Int) (hf : laws_heldStringS a_1 k_2 = some r) : CallOK Try.prog 46 .flat [(.lst 1 (a_1.map AV.str)), (.int .i64 k_2)] (.int .i64 r) := by
 refine CallOK.of_awp mixed Try.func46 fc46 nle ?_; rw [argT_eq]; unfold laws_heldStringS at hf; unfold c46; refine (show awp Try.prog false 0 _ (ofL [(0, (.lst 1 (a_1.map AV.str))), (1, (.int .i64 k_2))]) [] _ from ?_); refine awp_seq <| w_reg <| s_mov (.int .i64 0) rfl <| w_done <| k_seq <| awp_seq <| awp_seq <| w_reg <| s_mov (.int .i64 0) rfl <| w_done <| k_seq <| ?_
 obtain ⟨p30, hb1, hf⟩ := ob hf
 refine awp_cutx (X := {q : Int // p30 = .go q}) (fun q => ([(1, (.int .i64 q.1))], [])) ?_ ?_
 ·refine awp_loop (X := {q : (Int × Nat) // laws_heldStringS_L1 (a_1.drop q.2) q.1 = some p30}) (fun q => ([(0, (.lst 1 (a_1.map AV.str))), (1, (.int .i64 q.1.1)), (5, (.int .i64 (q.1.2 : Int)))], [])) (fun q => a_1.length - q.1.2) ⟨(k_2, 0), hb1⟩ ⟨[], [], _, _, rfl, rfl, ⟨.refl _, ⟨.refl _, ⟨.refl _, trivial⟩⟩⟩, (.refl _)⟩ ?_
  rintro ⟨⟨k_19, i_20⟩, hc1⟩
  have hc1 : laws_heldStringS_L1 (a_1.drop i_20) k_19 = some p30 := hc1
  refine (show awp Try.prog false 0 _ (ofL [(0, (.lst 1 (a_1.map AV.str))), (1, (.int .i64 k_19)), (5, (.int .i64 (i_20 : Int)))]) [] _ from ?_)
  rcases dropc a_1 i_20 with ⟨hie33, hd36⟩ | ⟨hlt31, x_37, hx32, hd36⟩
  ·rw [hd36, laws_heldStringS_L1.eq_1] at hc1
   have hq35 := dlf hie33
   refine awp_seq <| awp_seq <| w_reg <| s_mov (.int .i64 (i_20 : Int)) rfl <| s_mov (.lst 1 (a_1.map AV.str)) rfl <| s_dof (o_len (enc := AV.str) rfl) fun hl38 => s_q (.bool (decide ((i_20 : Int) < (a_1.length : Int)))) rfl rfl rfl <| w_done <| k_seq <| w_condf rfl hq35 <| w_exit <| k_seqx <| k_loopx <| k_blkx <| ?_; obtain rfl := os hc1; exact k_cutn ⟨_, rfl⟩ ⟨[], [], _, _, rfl, rfl, ⟨.refl _, trivial⟩, (.refl _)⟩
  ·rw [hd36, laws_heldStringS_L1.eq_2] at hc1
   have hq35 := dlt hlt31
   refine awp_seq <| awp_seq <| w_reg <| s_mov (.int .i64 (i_20 : Int)) rfl <| s_mov (.lst 1 (a_1.map AV.str)) rfl <| s_dof (o_len (enc := AV.str) rfl) fun hl39 => s_q (.bool (decide ((i_20 : Int) < (a_1.length : Int)))) rfl rfl rfl <| w_done <| k_seq <| w_condt rfl hq35 <| w_skip <| k_seq <| awp_seq <| w_blk <| awp_seq <| awp_seq <| w_reg <| ?_
   obtain ⟨r_40, er41, hc1⟩ := ob hc1
   refine s_mov (.lst 1 (a_1.map AV.str)) rfl <| s_mov (.int .i64 (i_20 : Int)) rfl <| s_do (o_iaddrn (enc := AV.str) rfl rfl hx32) <| s_q (.str x_37) rfl ⟨rfl, rfl⟩ rfl <| s_mov (.int .i64 k_19) rfl <| s_dol (o_call (w_laws_markText _ _ er41) rfl (.refl _) rfl) a_same trivial <| s_q (.bool (!(x_37 == r_40))) rfl trivial rfl <| w_done <| k_seq <| ?_
   rcases oi hc1 with ⟨c42, hc1⟩ | ⟨c42, hc1⟩
   ·refine w_condt rfl c42 <| awp_seq <| w_reg <| s_mov (.int .i64 (-1)) rfl <| w_done <| k_seq <| w_ret <| ?_; obtain rfl := os hc1; obtain rfl := os hf; exact r_flat ⟨trivial, trivial⟩ rfl (.refl _)
   ·refine w_condf rfl (bf c42) <| w_skip <| k_seq <| w_reg <| s_mov (.int .i64 k_19) rfl <| s_q (.int .i64 (w64 (k_19 + 1))) rfl rfl rfl <| s_mov (.int .i64 (w64 (k_19 + 1))) rfl <| w_done <| k_blk <| k_seq <| w_reg <| s_mov (.int .i64 (i_20 : Int)) rfl <| s_q (.int .i64 (w64 ((i_20 : Int) + 1))) rfl rfl rfl <| s_mov (.int .i64 (w64 ((i_20 : Int) + 1))) rfl <| w_done <| ?_; exact k_loopn ⟨(w64 (k_19 + 1), (i_20 + 1)), hc1⟩ (mul hlt31) ⟨[], [], _, _, rfl, rfl, ⟨.refl _, ⟨.refl _, ⟨.of_eq (congrArg (AV.int _) (w64_incr hlt31 hl39)), trivial⟩⟩⟩, (.refl _)⟩
 ·rintro ⟨k_29, rfl⟩
  refine awp_seq <| w_reg <| s_mov (.int .i64 k_29) rfl <| s_mov (.int .i64 k_29) rfl <| w_done <| k_seq <| w_ret <| ?_; obtain rfl := os hf; exact r_flat ⟨trivial, trivial⟩ rfl (.refl _)

/- laws.heldJsonS -/
def c113 : ACode :=
 (.seq (.reg (tm 4 (.c (.int .i64 0)) .done))
 (.seq (.seq (.reg (tm 5 (.c (.int .i64 0)) .done))
 (.block 0 (.loop (.seq (.seq (.reg (tm 6 (.t 5) (tm 7 (.t 0) (tq 8 (.len (.t 7)) (tq 9 (.bin .lss (.t 6) (.t 8)) .done)))))
 (.cond (.t 9) .skip
 (.exit 0)))
 (.seq (.block 1 (.seq (.seq (.reg (tm 12 (.t 0) (tm 13 (.t 5) (tq 14 (.iaddr 5 (.t 12) (.t 13)) (tq 15 (.faddr 0 (.t 14)) (tq 16 (.load 1 false (.t 15)) (tm 17 (.t 1) (tq 18 (.bin .neq (.t 16) (.t 17)) .done))))))))
 (.cond (.t 18) (.seq (.reg (tq 4 (.mov (.c (.int .i64 (-1)))) .done))
 .ret)
 .skip))
 (.seq (.reg (tm 19 (.t 1) (tq 20 (.bin .add (.t 19) (.c (.int .i64 1))) (tm 1 (.t 20) .done))))
 (.seq (.seq (.reg (tm 21 (.t 0) (tm 22 (.t 5) (tq 23 (.iaddr 5 (.t 21) (.t 22)) (tq 24 (.faddr 1 (.t 23)) (tq 25 (.load 1 false (.t 24)) (tm 26 (.t 1) (tq 27 (.bin .neq (.t 25) (.t 26)) .done))))))))
 (.cond (.t 27) (.seq (.reg (tq 4 (.mov (.c (.int .i64 (-1)))) .done))
 .ret)
 .skip))
 (.seq (.reg (tm 28 (.t 1) (tq 29 (.bin .add (.t 28) (.c (.int .i64 1))) (tm 1 (.t 29) .done))))
 (.seq (.seq (.reg (tm 30 (.t 0) (tm 31 (.t 5) (tq 32 (.iaddr 5 (.t 30) (.t 31)) (tq 33 (.faddr 2 (.t 32)) (tq 34 (.load 1 false (.t 33)) (tm 35 (.t 1) (.l ⟨(some 36), none, .call 117 [(.t 35)]⟩ [⟨(some 34), none, .load 1 false (.t 33)⟩, ⟨(some 33), none, .faddr 2 (.t 32)⟩, ⟨(some 32), none, .iaddr 5 (.t 30) (.t 31)⟩]
 (tq 37 (.bin .neq (.t 34) (.t 36)) .done) .non))))))))
 (.cond (.t 37) (.seq (.reg (tq 4 (.mov (.c (.int .i64 (-1)))) .done))
 .ret)
 .skip))
 (.seq (.reg (tm 38 (.t 1) (tq 39 (.bin .add (.t 38) (.c (.int .i64 1))) (tm 1 (.t 39) .done))))
 (.seq (.reg (tm 40 (.t 0) (tm 41 (.t 5) (tq 42 (.iaddr 5 (.t 40) (.t 41)) (tq 43 (.faddr 3 (.t 42)) (tq 44 (.load 1 false (.t 43)) (tm 45 (.t 1) (tq 46 (.call 46 [(.t 44), (.t 45)]) (tm 1 (.t 46) .done)))))))))
 (.seq (.seq (.reg (tm 47 (.t 1) (tq 48 (.bin .lss (.t 47) (.c (.int .i64 0))) .done)))
 (.cond (.t 48) (.seq (.reg (tq 4 (.mov (.c (.int .i64 (-1)))) .done))
 .ret)
 .skip))
 (.seq (.reg (tm 49 (.t 0) (tm 50 (.t 5) (tq 51 (.iaddr 5 (.t 49) (.t 50)) (tq 52 (.faddr 4 (.t 51)) (tq 53 (.load 1 false (.t 52)) (tm 54 (.t 1) (tq 55 (.call 113 [(.t 53), (.t 54)]) (tm 1 (.t 55) .done)))))))))
 (.seq (.reg (tm 56 (.t 1) (tq 57 (.bin .lss (.t 56) (.c (.int .i64 0))) .done)))
 (.cond (.t 57) (.seq (.reg (tq 4 (.mov (.c (.int .i64 (-1)))) .done))
 .ret)
 .skip))))))))))))
 (.reg (tm 10 (.t 5) (tq 11 (.bin .add (.t 10) (.c (.int .i64 1))) (tm 5 (.t 11) .done)))))))))
 (.cut (.seq (.reg (tm 58 (.t 1) (tm 4 (.t 58) .done)))
 .ret))))
theorem fc113 : fcomp Try.prog Try.f113 = some (c113.erase, [.mov (.t 4)], 59) := by kernel_rfl
def laws_heldJsonS_B_L1 (rec : ((List GJson) → Int → Option Int)) : List GJson → Int → Option (Fl Int Int)
  | [], k_51 =>
    some (.go k_51)
  | x_85 :: xs, k_51 =>
    if (x_85.Kind != k_51) then
    some (.ret (-1))
    else
    if (x_85.N != w64 (k_51 + 1)) then
    some (.ret (-1))
    else
    (laws_markText (w64 ((w64 (k_51 + 1)) + 1))).bind fun r_90 =>
    if (!(x_85.T == r_90)) then
    some (.ret (-1))
    else
    (laws_heldStringS x_85.Keys (w64 ((w64 ((w64 (k_51 + 1)) + 1)) + 1))).bind fun r_93 =>
    if (decide (r_93 < 0)) then
    some (.ret (-1))
    else
    (rec x_85.Items r_93).bind fun r_96 =>
    if (decide (r_96 < 0)) then
    some (.ret (-1))
    else
    laws_heldJsonS_B_L1 rec xs r_96 

def laws_heldJsonS_B (rec : ((List GJson) → Int → Option Int)) (a_1 : (List GJson)) (k_2 : Int) : Option Int :=
    (laws_heldJsonS_B_L1 rec a_1 k_2).bind fun q => (match q with
    | .ret r => some r
    | .go k_77 =>
    some k_77)
theorem w_laws_heldJsonS_B (rec : ((List GJson) → Int → Option Int)) (hrec : ∀ a0 a1 r, rec a0 a1 = some r → CallOK Try.prog 113 .flat [(.lst 5 (a0.map encGJson)), (.int .i64 a1)] (.int .i64 r)) (a_1 : (List GJson)) (k_2 : Int) (r : Int) (hf : laws_heldJsonS_B rec a_1 k_2 = some r) : CallOK Try.prog 113 .flat [(.lst 5 (a_1.map encGJson)), (.int .i64 k_2)] (.int .i64 r) := by
 refine CallOK.of_awp mixed Try.func113 fc113 nle ?_; rw [argT_eq]; unfold laws_heldJsonS_B at hf; unfold c113; refine (show awp Try.prog false 0 _ (ofL [(0, (.lst 5 (a_1.map encGJson))), (1, (.int .i64 k_2))]) [] _ from ?_); refine awp_seq <| w_reg <| s_mov (.int .i64 0) rfl <| w_done <| k_seq <| awp_seq <| awp_seq <| w_reg <| s_mov (.int .i64 0) rfl <| w_done <| k_seq <| ?_
 obtain ⟨p78, hb1, hf⟩ := ob hf
 refine awp_cutx (X := {q : Int // p78 = .go q}) (fun q => ([(1, (.int .i64 q.1))], [])) ?_ ?_
 ·refine awp_loop (X := {q : (Int × Nat) // laws_heldJsonS_B_L1 rec (a_1.drop q.2) q.1 = some p78}) (fun q => ([(0, (.lst 5 (a_1.map encGJson))), (1, (.int .i64 q.1.1)), (5, (.int .i64 (q.1.2 : Int)))], [])) (fun q => a_1.length - q.1.2) ⟨(k_2, 0), hb1⟩ ⟨[], [], _, _, rfl, rfl, ⟨.refl _, ⟨.refl _, ⟨.refl _, trivial⟩⟩⟩, (.refl _)⟩ ?_
  rintro ⟨⟨k_51, i_52⟩, hc1⟩
  have hc1 : laws_heldJsonS_B_L1 rec (a_1.drop i_52) k_51 = some p78 := hc1
  refine (show awp Try.prog false 0 _ (ofL [(0, (.lst 5 (a_1.map encGJson))), (1, (.int .i64 k_51)), (5, (.int .i64 (i_52 : Int)))]) [] _ from ?_)
  rcases dropc a_1 i_52 with ⟨hie81, hd84⟩ | ⟨hlt79, x_85, hx80, hd84⟩
  ·rw [hd84, laws_heldJsonS_B_L1.eq_1] at hc1
   have hq83 := dlf hie81
   refine awp_seq <| awp_seq <| w_reg <| s_mov (.int .i64 (i_52 : Int)) rfl <| s_mov (.lst 5 (a_1.map encGJson)) rfl <| s_dof (o_len (enc := encGJson) rfl) fun hl86 => s_q (.bool (decide ((i_52 : Int) < (a_1.length : Int)))) rfl rfl rfl <| w_done <| k_seq <| w_condf rfl hq83 <| w_exit <| k_seqx <| k_loopx <| k_blkx <| ?_; obtain rfl := os hc1; exact k_cutn ⟨_, rfl⟩ ⟨[], [], _, _, rfl, rfl, ⟨.refl _, trivial⟩, (.refl _)⟩
  ·rw [hd84, laws_heldJsonS_B_L1.eq_2] at hc1
   have hq83 := dlt hlt79
   refine awp_seq <| awp_seq <| w_reg <| s_mov (.int .i64 (i_52 : Int)) rfl <| s_mov (.lst 5 (a_1.map encGJson)) rfl <| s_dof (o_len (enc := encGJson) rfl) fun hl87 => s_q (.bool (decide ((i_52 : Int) < (a_1.length : Int)))) rfl rfl rfl <| w_done <| k_seq <| w_condt rfl hq83 <| w_skip <| k_seq <| awp_seq <| w_blk <| awp_seq <| awp_seq <| w_reg <| s_mov (.lst 5 (a_1.map encGJson)) rfl <| s_mov (.int .i64 (i_52 : Int)) rfl <| s_do (o_iaddrn (enc := encGJson) rfl rfl hx80) <| s_q (.iptr (encGJson x_85) 0) rfl trivial rfl <| s_do (o_loadeq (v := (.int .i64 x_85.Kind)) rfl (encGJson_eq _) nle rfl) <| s_mov (.int .i64 k_51) rfl <| s_q (.bool (x_85.Kind != k_51)) rfl rfl rfl <| w_done <| k_seq <| ?_
   rcases oi hc1 with ⟨c88, hc1⟩ | ⟨c88, hc1⟩
   ·refine w_condt rfl c88 <| awp_seq <| w_reg <| s_mov (.int .i64 (-1)) rfl <| w_done <| k_seq <| w_ret <| ?_; obtain rfl := os hc1; obtain rfl := os hf; exact r_flat ⟨trivial, trivial⟩ rfl (.refl _)
   ·refine w_condf rfl (bf c88) <| w_skip <| k_seq <| awp_seq <| w_reg <| s_mov (.int .i64 k_51) rfl <| s_q (.int .i64 (w64 (k_51 + 1))) rfl rfl rfl <| s_mov (.int .i64 (w64 (k_51 + 1))) rfl <| w_done <| k_seq <| awp_seq <| awp_seq <| w_reg <| s_mov (.lst 5 (a_1.map encGJson)) rfl <| s_mov (.int .i64 (i_52 : Int)) rfl <| s_do (o_iaddrn (enc := encGJson) rfl rfl hx80) <| s_q (.iptr (encGJson x_85) 1) rfl trivial rfl <| s_do (o_loadeq (v := (.int .i64 x_85.N)) rfl (encGJson_eq _) nle rfl) <| s_mov (.int .i64 (w64 (k_51 + 1))) rfl <| s_q (.bool (x_85.N != w64 (k_51 + 1))) rfl rfl rfl <| w_done <| k_seq <| ?_
    rcases oi hc1 with ⟨c89, hc1⟩ | ⟨c89, hc1⟩
    ·refine w_condt rfl c89 <| awp_seq <| w_reg <| s_mov (.int .i64 (-1)) rfl <| w_done <| k_seq <| w_ret <| ?_; obtain rfl := os hc1; obtain rfl := os hf; exact r_flat ⟨trivial, trivial⟩ rfl (.refl _)
    ·refine w_condf rfl (bf c89) <| w_skip <| k_seq <| awp_seq <| w_reg <| s_mov (.int .i64 (w64 (k_51 + 1))) rfl <| s_q (.int .i64 (w64 ((w64 (k_51 + 1)) + 1))) rfl rfl rfl <| s_mov (.int .i64 (w64 ((w64 (k_51 + 1)) + 1))) rfl <| w_done <| k_seq <| awp_seq <| awp_seq <| w_reg <| ?_
     obtain ⟨r_90, er91, hc1⟩ := ob hc1
     refine s_mov (.lst 5 (a_1.map encGJson)) rfl <| s_mov (.int .i64 (i_52 : Int)) rfl <| s_do (o_iaddrn (enc := encGJson) rfl rfl hx80) <| s_q (.iptr (encGJson x_85) 2) rfl trivial rfl <| s_do (o_loadeq (v := (.str x_85.T)) rfl (encGJson_eq _) nle rfl) <| s_mov (.int .i64 (w64 ((w64 (k_51 + 1)) + 1))) rfl <| s_dol (o_call (w_laws_markText _ _ er91) rfl (.refl _) rfl) a_same trivial <| s_q (.bool (!(x_85.T == r_90))) rfl trivial rfl <| w_done <| k_seq <| ?_
     rcases oi hc1 with ⟨c92, hc1⟩ | ⟨c92, hc1⟩
     ·refine w_condt rfl c92 <| awp_seq <| w_reg <| s_mov (.int .i64 (-1)) rfl <| w_done <| k_seq <| w_ret <| ?_; obtain rfl := os hc1; obtain rfl := os hf; exact r_flat ⟨trivial, trivial⟩ rfl (.refl _)
     ·refine w_condf rfl (bf c92) <| w_skip <| k_seq <| awp_seq <| w_reg <| s_mov (.int .i64 (w64 ((w64 (k_51 + 1)) + 1))) rfl <| s_q (.int .i64 (w64 ((w64 ((w64 (k_51 + 1)) + 1)) + 1))) rfl rfl rfl <| s_mov (.int .i64 (w64 ((w64 ((w64 (k_51 + 1)) + 1)) + 1))) rfl <| w_done <| k_seq <| awp_seq <| w_reg <| ?_
      obtain ⟨r_93, er94, hc1⟩ := ob hc1
      refine s_mov (.lst 5 (a_1.map encGJson)) rfl <| s_mov (.int .i64 (i_52 : Int)) rfl <| s_do (o_iaddrn (enc := encGJson) rfl rfl hx80) <| s_q (.iptr (encGJson x_85) 3) rfl trivial rfl <| s_do (o_loadeq (v := (.lst 1 (x_85.Keys.map AV.str))) rfl (encGJson_eq _) nle rfl) <| s_mov (.int .i64 (w64 ((w64 ((w64 (k_51 + 1)) + 1)) + 1))) rfl <| s_do (o_call (w_laws_heldStringS _ _ _ er94) rfl (.refl _) rfl) <| s_mov (.int .i64 r_93) rfl <| w_done <| k_seq <| awp_seq <| awp_seq <| w_reg <| s_mov (.int .i64 r_93) rfl <| s_q (.bool (decide (r_93 < 0))) rfl rfl rfl <| w_done <| k_seq <| ?_
      rcases oi hc1 with ⟨c95, hc1⟩ | ⟨c95, hc1⟩
      ·refine w_condt rfl c95 <| awp_seq <| w_reg <| s_mov (.int .i64 (-1)) rfl <| w_done <| k_seq <| w_ret <| ?_; obtain rfl := os hc1; obtain rfl := os hf; exact r_flat ⟨trivial, trivial⟩ rfl (.refl _)
      ·refine w_condf rfl (bf c95) <| w_skip <| k_seq <| awp_seq <| w_reg <| ?_
       obtain ⟨r_96, er97, hc1⟩ := ob hc1
       refine s_mov (.lst 5 (a_1.map encGJson)) rfl <| s_mov (.int .i64 (i_52 : Int)) rfl <| s_do (o_iaddrn (enc := encGJson) rfl rfl hx80) <| s_q (.iptr (encGJson x_85) 4) rfl trivial rfl <| s_do (o_loadeq (v := (.lst 5 (x_85.Items.map encGJson))) rfl (encGJson_eq _) nle rfl) <| s_mov (.int .i64 r_93) rfl <| s_do (o_call (hrec _ _ _ er97) rfl (.refl _) rfl) <| s_mov (.int .i64 r_96) rfl <| w_done <| k_seq <| awp_seq <| w_reg <| s_mov (.int .i64 r_96) rfl <| s_q (.bool (decide (r_96 < 0))) rfl rfl rfl <| w_done <| k_seq <| ?_
       rcases oi hc1 with ⟨c98, hc1⟩ | ⟨c98, hc1⟩
       ·refine w_condt rfl c98 <| awp_seq <| w_reg <| s_mov (.int .i64 (-1)) rfl <| w_done <| k_seq <| w_ret <| ?_; obtain rfl := os hc1; obtain rfl := os hf; exact r_flat ⟨trivial, trivial⟩ rfl (.refl _)
       ·refine w_condf rfl (bf c98) <| w_skip <| k_blk <| k_seq <| w_reg <| s_mov (.int .i64 (i_52 : Int)) rfl <| s_q (.int .i64 (w64 ((i_52 : Int) + 1))) rfl rfl rfl <| s_mov (.int .i64 (w64 ((i_52 : Int) + 1))) rfl <| w_done <| ?_; exact k_loopn ⟨(r_96, (i_52 + 1)), hc1⟩ (mul hlt79) ⟨[], [], _, _, rfl, rfl, ⟨.refl _, ⟨.refl _, ⟨.of_eq (congrArg (AV.int _) (w64_incr hlt79 hl87)), trivial⟩⟩⟩, (.refl _)⟩
 ·rintro ⟨k_77, rfl⟩
  refine awp_seq <| w_reg <| s_mov (.int .i64 k_77) rfl <| s_mov (.int .i64 k_77) rfl <| w_done <| k_seq <| w_ret <| ?_; obtain rfl := os hf; exact r_flat ⟨trivial, trivial⟩ rfl (.refl _)
def laws_heldJsonS : Nat → (List GJson) → Int → Option Int
 | 0, _, _ => none
 | k + 1, a_1, k_2 => laws_heldJsonS_B (laws_heldJsonS k) a_1 k_2
theorem w_laws_heldJsonS : ∀ (k : Nat) (a_1 : (List GJson)) (k_2 : Int) (r : Int), laws_heldJsonS k a_1 k_2 = some r → CallOK Try.prog 113 .flat [(.lst 5 (a_1.map encGJson)), (.int .i64 k_2)] (.int .i64 r)
 | 0, a_1, k_2, r, h => by rw [laws_heldJsonS.eq_1] at h; cases h
 | k + 1, a_1, k_2, r, h => by
  rw [laws_heldJsonS.eq_2] at h; exact w_laws_heldJsonS_B _ (w_laws_heldJsonS k) a_1 k_2 r h

/- laws.heldJson -/
def c40 : ACode :=
 (.seq (.reg (tq 2 (.box 5 (.t 0)) (tm 4 (.c (.int .i64 0)) .done)))
 (.seq (.reg (tq 5 (.faddr 3 (.t 2)) (tq 6 (.load 1 false (.t 5)) (tm 7 (.t 1) (tq 8 (.call 46 [(.t 6), (.t 7)]) (tm 1 (.t 8) .done))))))
 (.seq (.seq (.reg (tm 9 (.t 1) (tq 10 (.bin .lss (.t 9) (.c (.int .i64 0))) .done)))
 (.cond (.t 10) (.seq (.reg (tq 4 (.mov (.c (.int .i64 (-1)))) .done))
 .ret)
 .skip))
 (.seq (.reg (tq 11 (.faddr 4 (.t 2)) (tq 12 (.load 1 false (.t 11)) (tm 13 (.t 1) (tq 14 (.call 113 [(.t 12), (.t 13)]) (tm 1 (.t 14) .done))))))
 (.seq (.seq (.reg (tm 15 (.t 1) (tq 16 (.bin .lss (.t 15) (.c (.int .i64 0))) .done)))
 (.cond (.t 16) (.seq (.reg (tq 4 (.mov (.c (.int .i64 (-1)))) .done))
 .ret)
 .skip))
 (.seq (.reg (tm 17 (.t 1) (tm 4 (.t 17) .done)))
 .ret))))))
theorem fc40 : fcomp Try.prog Try.f40 = some (c40.erase, [.mov (.t 4)], 18) := by kernel_rfl
def laws_heldJson (a_1 : GJson) (k_2 : Int) : Option Int :=
    (laws_heldStringS a_1.Keys k_2).bind fun r_3 =>
    if (decide (r_3 < 0)) then
    some (-1)
    else
    (laws_heldJsonS FUEL a_1.Items r_3).bind fun r_6 =>
    if (decide (r_6 < 0)) then
    some (-1)
    else
    some r_6
theorem w_laws_heldJson (a_1 : GJson) (k_2 : Int) (r : Int) (hf : laws_heldJson a_1 k_2 = some r) : CallOK Try.prog 40 .flat [(encGJson a_1), (.int .i64 k_2)] (.int .i64 r) := by
 refine CallOK.of_awp mixed Try.func40 fc40 nle ?_; rw [argT_eq]; rw [encGJson_eq a_1]; unfold laws_heldJson at hf; unfold c40; refine (show awp Try.prog false 0 _ (ofL [(0, (.agg [(.int .i64 a_1.Kind), (.int .i64 a_1.N), (.str a_1.T), (.lst 1 (a_1.Keys.map AV.str)), (.lst 5 (a_1.Items.map encGJson))])), (1, (.int .i64 k_2))]) [] _ from ?_); refine awp_seq <| w_reg <| s_do (o_box (j := 0) (c := (.agg [(.int .i64 a_1.Kind), (.int .i64 a_1.N), (.str a_1.T), (.lst 1 (a_1.Keys.map AV.str)), (.lst 5 (a_1.Items.map encGJson))])) rfl trivial rfl rfl) <| s_mov (.int .i64 0) rfl <| w_done <| k_seq <| awp_seq <| w_reg <| ?_
 obtain ⟨r_3, er4, hf⟩ := ob hf
 refine s_q (.ptr 0 0 3) rfl trivial rfl <| s_q (.lst 1 (a_1.Keys.map AV.str)) rfl nle rfl <| s_mov (.int .i64 k_2) rfl <| s_do (o_call (w_laws_heldStringS _ _ _ er4) rfl (.refl _) rfl) <| s_mov (.int .i64 r_3) rfl <| w_done <| k_seq <| awp_seq <| awp_seq <| w_reg <| s_mov (.int .i64 r_3) rfl <| s_q (.bool (decide (r_3 < 0))) rfl rfl rfl <| w_done <| k_seq <| ?_
 rcases oi hf with ⟨c5, hf⟩ | ⟨c5, hf⟩
 ·refine w_condt rfl c5 <| awp_seq <| w_reg <| s_mov (.int .i64 (-1)) rfl <| w_done <| k_seq <| w_ret <| ?_; obtain rfl := os hf; exact r_flat ⟨trivial, trivial⟩ rfl (.refl _)
 ·refine w_condf rfl (bf c5) <| w_skip <| k_seq <| awp_seq <| w_reg <| ?_
  obtain ⟨r_6, er7, hf⟩ := ob hf
  refine s_q (.ptr 0 0 4) rfl trivial rfl <| s_q (.lst 5 (a_1.Items.map encGJson)) rfl nle rfl <| s_mov (.int .i64 r_3) rfl <| s_do (o_call (w_laws_heldJsonS FUEL _ _ _ er7) rfl (.refl _) rfl) <| s_mov (.int .i64 r_6) rfl <| w_done <| k_seq <| awp_seq <| awp_seq <| w_reg <| s_mov (.int .i64 r_6) rfl <| s_q (.bool (decide (r_6 < 0))) rfl rfl rfl <| w_done <| k_seq <| ?_
  rcases oi hf with ⟨c8, hf⟩ | ⟨c8, hf⟩
  ·refine w_condt rfl c8 <| awp_seq <| w_reg <| s_mov (.int .i64 (-1)) rfl <| w_done <| k_seq <| w_ret <| ?_; obtain rfl := os hf; exact r_flat ⟨trivial, trivial⟩ rfl (.refl _)
  ·refine w_condf rfl (bf c8) <| w_skip <| k_seq <| awp_seq <| w_reg <| s_mov (.int .i64 r_6) rfl <| s_mov (.int .i64 r_6) rfl <| w_done <| k_seq <| w_ret <| ?_; obtain rfl := os hf; exact r_flat ⟨trivial, trivial⟩ rfl (.refl _)

/- laws.FnExactReplyJson -/
def c12 : ACode :=
 (.seq (.reg (tq 5 (.box 5 (.t 2)) (tm 6 (.c (.bool false)) .done)))
 (.seq (.reg (tm 7 (.c (.int .i64 1048576)) .done))
 (.seq (.reg (tq 18 (.load 5 true (.t 5)) (tm 19 (.t 7) (tq 20 (.call 47 [(.t 18), (.t 19)]) (tm 7 (.t 20) .done)))))
 (.seq (.seq (.reg (tm 21 (.t 7) (tq 22 (.bin .lss (.t 21) (.c (.int .i64 0))) .done)))
 (.cond (.t 22) (.seq (.reg (tm 6 (.c (.bool true)) .done))
 .ret)
 .skip))
 (.seq (.reg (tm 24 (.t 0) (tm 25 (.t 1) (tq 26 (.load 5 true (.t 5)) (tq 27 (.call 49 [(.t 26)]) (tq 28 (.call 66 [(.t 24), (.t 25), (.t 27)]) (tm 23 (.t 28) (tq 29 (.extract 0 (.t 23)) (tq 30 (.extract 1 (.t 23)) (tq 8 (.box 5 (.c (.agg [(.int .i64 0), (.int .i64 0), (.str []), .nil, .nil]))) (.q ⟨none, none, .store 5 (.t 8) (.t 29)⟩
 (tm 9 (.t 30) .done))))))))))))
 (.seq (.reg (tq 31 (.load 5 true (.t 5)) (tq 32 (.call 49 [(.t 31)]) (tq 10 (.box 5 (.c (.agg [(.int .i64 0), (.int .i64 0), (.str []), .nil, .nil]))) (.q ⟨none, none, .store 5 (.t 10) (.t 32)⟩
 .done)))))
 (.seq (.reg (tm 34 (.t 0) (tm 35 (.t 1) (tq 36 (.load 5 true (.t 10)) (tq 37 (.call 67 [(.t 34), (.t 35), (.t 36)]) (tm 33 (.t 37) (tq 38 (.extract 0 (.t 33)) (tq 39 (.extract 1 (.t 33)) (tq 11 (.box 5 (.c (.agg [(.int .i64 0), (.int .i64 0), (.str []), .nil, .nil]))) (.q ⟨none, none, .store 5 (.t 11) (.t 38)⟩
 (tm 12 (.t 39) .done)))))))))))
 (.seq (.seq (.reg (tq 40 (.load 5 true (.t 11)) (tq 41 (.load 5 true (.t 8)) (tq 42 (.call 38 [(.t 40), (.t 41)]) (tq 43 (.not (.t 42)) (tm 44 (.t 43) (tg 45 44 false (.mov (.t 12)) (tg 46 44 false (.mov (.t 9)) (tg 47 44 false (.bin .neq (.t 45) (.t 46)) (tq 48 (.pick (.t 44) (.c (.bool true)) (.t 47)) .done))))))))))
 (.cut (.cond (.t 48) (.seq (.reg (tm 6 (.c (.bool false)) .done))
 .ret)
 .skip)))
 (.seq (.seq (.reg (tq 49 (.load 5 true (.t 10)) (tq 50 (.load 5 true (.t 5)) (.l ⟨(some 51), none, .call 49 [(.t 50)]⟩ [⟨(some 49), none, .load 5 true (.t 10)⟩]
 (.l ⟨(some 52), none, .call 38 [(.t 49), (.t 51)]⟩ []
 (tq 53 (.not (.t 52)) .done) .non) .non))))
 (.cond (.t 53) (.seq (.reg (tm 6 (.c (.bool false)) .done))
 .ret)
 .skip))
 (.seq (.reg (tm 13 (.c (.int .i64 1)) .done))
 (.seq (.reg (tq 54 (.load 5 true (.t 10)) (tm 55 (.t 13) (tq 56 (.call 39 [(.t 54), (.t 55)]) (tm 13 (.t 56) .done)))))
 (.seq (.seq (.reg (tm 57 (.t 13) (tq 58 (.bin .lss (.t 57) (.c (.int .i64 0))) (tm 59 (.t 58) (tg 60 59 false (.load 5 true (.t 11)) (tg 61 59 false (.load 5 true (.t 8)) (tg 62 59 false (.call 38 [(.t 60), (.t 61)]) (tg 63 59 false (.not (.t 62)) (tq 64 (.pick (.t 59) (.c (.bool true)) (.t 63)) (tm 65 (.t 64) (tg 66 65 false (.mov (.t 12)) (tg 67 65 false (.mov (.t 9)) (tg 68 65 false (.bin .neq (.t 66) (.t 67)) (tq 69 (.pick (.t 65) (.c (.bool true)) (.t 68)) .done))))))))))))))
 (.cut (.cond (.t 69) (.seq (.reg (tm 6 (.c (.bool false)) .done))
 .ret)
 .skip)))
 (.seq (.reg (tm 14 (.c (.int .i64 1)) .done))
 (.seq (.reg (tq 70 (.load 5 true (.t 11)) (tm 71 (.t 14) (tq 72 (.call 39 [(.t 70), (.t 71)]) (tm 14 (.t 72) .done)))))
 (.seq (.reg (tm 15 (.c (.int .i64 1)) .done))
 (.seq (.reg (tq 73 (.load 5 true (.t 11)) (tm 74 (.t 15) (tq 75 (.call 40 [(.t 73), (.t 74)]) (tm 15 (.t 75) .done)))))
 (.seq (.seq (.reg (tm 76 (.t 15) (tq 77 (.bin .lss (.t 76) (.c (.int .i64 0))) .done)))
 (.cond (.t 77) (.seq (.reg (tm 6 (.c (.bool false)) .done))
 .ret)
 .skip))
 (.seq (.seq (.reg (tm 78 (.t 15) (tm 79 (.t 14) (tq 80 (.bin .neq (.t 78) (.t 79)) .done))))
 (.cond (.t 80) (.seq (.reg (tm 6 (.c (.bool false)) .done))
 .ret)
 .skip))
 (.seq (.reg (tm 82 (.t 0) (tm 83 (.t 1) (tq 84 (.load 5 true (.t 5)) (tq 85 (.call 49 [(.t 84)]) (tq 86 (.call 67 [(.t 82), (.t 83), (.t 85)]) (tm 81 (.t 86) (tq 87 (.extract 0 (.t 81)) (tq 88 (.extract 1 (.t 81)) (tq 16 (.box 5 (.c (.agg [(.int .i64 0), (.int .i64 0), (.str []), .nil, .nil]))) (.q ⟨none, none, .store 5 (.t 16) (.t 87)⟩
 (tm 17 (.t 88) .done))))))))))))
 (.seq (.seq (.reg (tq 89 (.load 5 true (.t 16)) (tq 90 (.load 5 true (.t 8)) (tq 91 (.call 38 [(.t 89), (.t 90)]) (tq 92 (.not (.t 91)) (tm 93 (.t 92) (tg 94 93 false (.mov (.t 17)) (tg 95 93 false (.mov (.t 9)) (tg 96 93 false (.bin .neq (.t 94) (.t 95)) (tq 97 (.pick (.t 93) (.c (.bool true)) (.t 96)) .done))))))))))
 (.cut (.cond (.t 97) (.seq (.reg (tm 6 (.c (.bool false)) .done))
 .ret)
 .skip)))
 (.seq (.reg (tm 15 (.c (.int .i64 1)) .done))
 (.seq (.reg (tq 98 (.load 5 true (.t 11)) (tm 99 (.t 15) (tq 100 (.call 40 [(.t 98), (.t 99)]) (tm 15 (.t 100) .done)))))
 (.seq (.seq (.reg (tm 101 (.t 15) (tq 102 (.bin .lss (.t 101) (.c (.int .i64 0))) .done)))
 (.cond (.t 102) (.seq (.reg (tm 6 (.c (.bool false)) .done))
 .ret)
 .skip))
 (.seq (.seq (.reg (tm 103 (.t 15) (tm 104 (.t 14) (tq 105 (.bin .neq (.t 103) (.t 104)) .done))))
 (.cond (.t 105) (.seq (.reg (tm 6 (.c (.bool false)) .done))
 .ret)
 .skip))
 (.seq (.reg (tm 6 (.c (.bool true)) .done))
 .ret)))))))))))))))))))))))))
theorem fc12 : fcomp Try.prog Try.f12 = some (c12.erase, [.mov (.t 6)], 106) := by kernel_rfl
def laws_FnExactReplyJson (aId_1 : Int) (aCode_2 : Int) (aResult_3 : GJson) : Option Bool :=
    (laws_szJson FUEL aResult_3 1048576).bind fun r_4 =>
    if (decide (r_4 < 0)) then
    some true
    else
    (laws_toJson FUEL aResult_3).bind fun r_7 =>
    (spec_ReplyJson aId_1 aCode_2 r_7).bind fun r_9 =>
    (laws_toJson FUEL aResult_3).bind fun r_11 =>
    (impl_ReplyJson aId_1 aCode_2 r_11).bind fun r_13 =>
    (((laws_eqJson FUEL r_13.1 r_9.1).bind fun r_20 =>
    if (!r_20) then
    some true
    else
    some (r_13.2 != r_9.2) : Option Bool)).bind fun s48_18 =>
    if s48_18 then
    some false
    else
    (laws_toJson FUEL aResult_3).bind fun r_24 =>
    (laws_eqJson FUEL r_11 r_24).bind fun r_26 =>
    if (!r_26) then
    some false
    else
    (laws_markJson r_11 1).bind fun r_29 =>
    ((if (decide (r_29.1 < 0)) then
    some true
    else
    (laws_eqJson FUEL r_13.1 r_9.1).bind fun r_38 =>
    some (bif (!r_38) then true else (r_13.2 != r_9.2)) : Option Bool)).bind fun s69_35 =>
    if s69_35 then
    some false
    else
    (laws_markJson r_13.1 1).bind fun r_41 =>
    (laws_heldJson (⟨r_13.1.Kind, r_13.1.N, r_13.1.T, r_41.2.Keys, r_41.2.Items⟩ : GJson) 1).bind fun r_44 =>
    if (decide (r_44 < 0)) then
    some false
    else
    if (r_44 != r_41.1) then
    some false
    else
    (laws_toJson FUEL aResult_3).bind fun r_48 =>
    (impl_ReplyJson aId_1 aCode_2 r_48).bind fun r_50 =>
    (((laws_eqJson FUEL r_50.1 r_9.1).bind fun r_57 =>
    if (!r_57) then
    some true
    else
    some (r_50.2 != r_9.2) : Option Bool)).bind fun s97_55 =>
    if s97_55 then
    some false
    else
    (laws_heldJson (⟨r_13.1.Kind, r_13.1.N, r_13.1.T, r_41.2.Keys, r_41.2.Items⟩ : GJson) 1).bind fun r_61 =>
    if (decide (r_61 < 0)) then
    some false
    else
    if (r_61 != r_41.1) then
    some false
    else
    some true
theorem w_laws_FnExactReplyJson (aId_1 : Int) (aCode_2 : Int) (aResult_3 : GJson) (r : Bool) (hf : laws_FnExactReplyJson aId_1 aCode_2 aResult_3 = some r) : CallOK Try.prog 12 .flat [(.int .i64 aId_1), (.int .i64 aCode_2), (encGJson aResult_3)] (.bool r) := by
 refine CallOK.of_awp' (md := ⟨true, true⟩) (fun _ => rfl) (fun h => by cases h) (fun h => by cases h) mixed Try.func12 fc12 nle ?_; rw [argT_eq]; rw [encGJson_eq aResult_3]; unfold laws_FnExactReplyJson at hf; unfold c12; refine (show awp Try.prog ⟨true, true⟩ 0 _ (ofL [(0, (.int .i64 aId_1)), (1, (.int .i64 aCode_2)), (2, (.agg [(.int .i64 aResult_3.Kind), (.int .i64 aResult_3.N), (.str aResult_3.T), (.lst 1 (aResult_3.Keys.map AV.str)), (.lst 5 (aResult_3.Items.map encGJson))]))]) [] _ from ?_); refine awp_seq <| w_reg <| s_do (o_box (j := 0) (c := (.agg [(.int .i64 aResult_3.Kind), (.int .i64 aResult_3.N), (.str aResult_3.T), (.lst 1 (aResult_3.Keys.map AV.str)), (.lst 5 (aResult_3.Items.map encGJson))])) rfl trivial rfl rfl) <| ?_
 refine s_mov (.bool false) rfl <| w_done <| k_seq <| awp_seq <| w_reg <| s_mov (.int .i64 1048576) rfl <| w_done <| k_seq <| awp_seq <| w_reg <| ?_
 obtain ⟨r_4, er5, hf⟩ := ob hf
 refine s_q (.agg [(.int .i64 aResult_3.Kind), (.int .i64 aResult_3.N), (.str aResult_3.T), (.lst 1 (aResult_3.Keys.map AV.str)), (.lst 5 (aResult_3.Items.map encGJson))]) rfl (.of nle trivial) rfl <| s_mov (.int .i64 1048576) rfl <| s_do (o_call (w_laws_szJson FUEL _ _ _ er5) rfl (.cons (.of_eq (encGJson_eq aResult_3).symm) (.cons (.refl _) .nil)) rfl) <| s_mov (.int .i64 r_4) rfl <| w_done <| k_seq <| awp_seq <| awp_seq <| w_reg <| s_mov (.int .i64 r_4) rfl <| s_q (.bool (decide (r_4 < 0))) rfl (.of rfl trivial) rfl <| w_done <| k_seq <| ?_
 rcases oi hf with ⟨c6, hf⟩ | ⟨c6, hf⟩
 ·refine w_condt rfl c6 <| awp_seq <| w_reg <| s_mov (.bool true) rfl <| w_done <| k_seq <| w_ret <| ?_; obtain rfl := os hf; exact r_flat ⟨.of trivial trivial, trivial⟩ rfl (.refl _)
 ·refine w_condf rfl (bf c6) <| w_skip <| k_seq <| awp_seq <| w_reg <| ?_
  obtain ⟨r_7, er8, hf⟩ := ob hf
  obtain ⟨r_9, er10, hf⟩ := ob hf
  refine s_mov (.int .i64 aId_1) rfl <| s_mov (.int .i64 aCode_2) rfl <| s_q (.agg [(.int .i64 aResult_3.Kind), (.int .i64 aResult_3.N), (.str aResult_3.T), (.lst 1 (aResult_3.Keys.map AV.str)), (.lst 5 (aResult_3.Items.map encGJson))]) rfl (.of nle trivial) rfl <| s_do (o_callf (v := (.agg [(.int .i64 r_7.Kind), (.int .i64 r_7.N), (.str r_7.T), (.own 1 0 r_7.Keys.length), (.own 2 0 r_7.Items.length)])) (h' := [.row 1 (r_7.Keys.map AV.str), .row 5 (r_7.Items.map encGJson)]) (w_laws_toJson FUEL _ _ er8) rfl (.cons (.of_eq (encGJson_eq aResult_3).symm) .nil) (by simp only [openV, openVs, List.length_map, encGJson_eq, List.nil_append, List.append_nil, List.cons_append]; rfl)) <| s_do (o_callf (v := (.tup [(.agg [(.int .i64 r_9.1.Kind), (.int .i64 r_9.1.N), (.str r_9.1.T), (.own 3 0 r_9.1.Keys.length), (.own 4 0 r_9.1.Items.length)]), (.int .i64 r_9.2)])) (h' := [.row 1 (r_9.1.Keys.map AV.str), .row 5 (r_9.1.Items.map encGJson)]) (w_spec_ReplyJson _ _ _ _ er10) rfl (.cons (.refl _) (.cons (.refl _) (.cons (leJ (x := r_7) (.agg (.cons (.refl _) (.cons (.refl _) (.cons (.refl _) (.cons (.of_eq (congrArg (AV.lst _) (tko (enc := AV.str) r_7.Keys))) (.cons (.of_eq (congrArg (AV.lst _) (tko (enc := encGJson) r_7.Items))) .nil))))))) .nil))) (by simp only [openV, openVs, List.length_map, encGJson_eq, List.nil_append, List.append_nil, List.cons_append]; rfl)) <| ?_
  refine s_mov (.tup [(.agg [(.int .i64 r_9.1.Kind), (.int .i64 r_9.1.N), (.str r_9.1.T), (.own 3 0 r_9.1.Keys.length), (.own 4 0 r_9.1.Items.length)]), (.int .i64 r_9.2)]) rfl <| s_q (.agg [(.int .i64 r_9.1.Kind), (.int .i64 r_9.1.N), (.str r_9.1.T), (.own 3 0 r_9.1.Keys.length), (.own 4 0 r_9.1.Items.length)]) rfl (.of nle trivial) rfl <| s_q (.int .i64 r_9.2) rfl (.of nle trivial) rfl <| s_do (o_box (j := 5) (c := (.agg [(.int .i64 0), (.int .i64 0), (.str []), .nil, .nil])) rfl trivial rfl rfl) <| s_do0 (o_storebox (v := (.agg [(.int .i64 r_9.1.Kind), (.int .i64 r_9.1.N), (.str r_9.1.T), (.own 3 0 r_9.1.Keys.length), (.own 4 0 r_9.1.Items.length)])) (y' := (.agg [(.int .i64 r_9.1.Kind), (.int .i64 r_9.1.N), (.str r_9.1.T), (.own 3 0 r_9.1.Keys.length), (.own 4 0 r_9.1.Items.length)])) rfl rfl rfl trivial ⟨rfl, nle⟩ ⟨⟨rfl, trivial⟩, ⟨⟨rfl, trivial⟩, ⟨⟨rfl, trivial⟩, ⟨⟨rfl, trivial⟩, ⟨⟨rfl, trivial⟩, trivial⟩⟩⟩⟩⟩ rfl) <| ?_
  refine s_mov (.int .i64 r_9.2) rfl <| w_done <| k_seq <| awp_seq <| w_reg <| ?_
  obtain ⟨r_11, er12, hf⟩ := ob hf
  refine s_q (.agg [(.int .i64 aResult_3.Kind), (.int .i64 aResult_3.N), (.str aResult_3.T), (.lst 1 (aResult_3.Keys.map AV.str)), (.lst 5 (aResult_3.Items.map encGJson))]) rfl (.of nle trivial) rfl <| s_do (o_callf (v := (.agg [(.int .i64 r_11.Kind), (.int .i64 r_11.N), (.str r_11.T), (.own 6 0 r_11.Keys.length), (.own 7 0 r_11.Items.length)])) (h' := [.row 1 (r_11.Keys.map AV.str), .row 5 (r_11.Items.map encGJson)]) (w_laws_toJson FUEL _ _ er12) rfl (.cons (.of_eq (encGJson_eq aResult_3).symm) .nil) (by simp only [openV, openVs, List.length_map, encGJson_eq, List.nil_append, List.append_nil, List.cons_append]; rfl)) <| s_do (o_box (j := 8) (c := (.agg [(.int .i64 0), (.int .i64 0), (.str []), .nil, .nil])) rfl trivial rfl rfl) <| ?_
  refine s_do0 (o_storebox (v := (.agg [(.int .i64 r_11.Kind), (.int .i64 r_11.N), (.str r_11.T), (.own 6 0 r_11.Keys.length), (.own 7 0 r_11.Items.length)])) (y' := (.agg [(.int .i64 r_11.Kind), (.int .i64 r_11.N), (.str r_11.T), (.own 6 0 r_11.Keys.length), (.own 7 0 r_11.Items.length)])) rfl rfl rfl trivial ⟨rfl, nle⟩ ⟨⟨rfl, trivial⟩, ⟨⟨rfl, trivial⟩, ⟨⟨rfl, trivial⟩, ⟨⟨rfl, trivial⟩, ⟨⟨rfl, trivial⟩, trivial⟩⟩⟩⟩⟩ rfl) <| w_done <| k_seq <| awp_seq <| w_reg <| ?_
  obtain ⟨r_13, er14, hf⟩ := ob hf
  refine s_mov (.int .i64 aId_1) rfl <| s_mov (.int .i64 aCode_2) rfl <| s_q (.agg [(.int .i64 r_11.Kind), (.int .i64 r_11.N), (.str r_11.T), (.own 6 0 r_11.Keys.length), (.own 7 0 r_11.Items.length)]) rfl (.of nle trivial) rfl <| s_do (o_callf (v := (.tup [(.agg [(.int .i64 r_13.1.Kind), (.int .i64 r_13.1.N), (.str r_13.1.T), (.own 9 0 r_13.1.Keys.length), (.own 10 0 r_13.1.Items.length)]), (.int .i64 r_13.2)])) (h' := [.row 1 (r_13.1.Keys.map AV.str), .row 5 (r_13.1.Items.map encGJson)]) (w_impl_ReplyJson _ _ _ _ er14) rfl (.cons (.refl _) (.cons (.refl _) (.cons (leJ (x := r_11) (.agg (.cons (.refl _) (.cons (.refl _) (.cons (.refl _) (.cons (.of_eq (congrArg (AV.lst _) (tko (enc := AV.str) r_11.Keys))) (.cons (.of_eq (congrArg (AV.lst _) (tko (enc := encGJson) r_11.Items))) .nil))))))) .nil))) (by simp only [openV, openVs, List.length_map, encGJson_eq, List.nil_append, List.append_nil, List.cons_append]; rfl)) <| ?_
  refine s_mov (.tup [(.agg [(.int .i64 r_13.1.Kind), (.int .i64 r_13.1.N), (.str r_13.1.T), (.own 9 0 r_13.1.Keys.length), (.own 10 0 r_13.1.Items.length)]), (.int .i64 r_13.2)]) rfl <| s_q (.agg [(.int .i64 r_13.1.Kind), (.int .i64 r_13.1.N), (.str r_13.1.T), (.own 9 0 r_13.1.Keys.length), (.own 10 0 r_13.1.Items.length)]) rfl (.of nle trivial) rfl <| s_q (.int .i64 r_13.2) rfl (.of nle trivial) rfl <| s_do (o_box (j := 11) (c := (.agg [(.int .i64 0), (.int .i64 0), (.str []), .nil, .nil])) rfl trivial rfl rfl) <| s_do0 (o_storebox (v := (.agg [(.int .i64 r_13.1.Kind), (.int .i64 r_13.1.N), (.str r_13.1.T), (.own 9 0 r_13.1.Keys.length), (.own 10 0 r_13.1.Items.length)])) (y' := (.agg [(.int .i64 r_13.1.Kind), (.int .i64 r_13.1.N), (.str r_13.1.T), (.own 9 0 r_13.1.Keys.length), (.own 10 0 r_13.1.Items.length)])) rfl rfl rfl trivial ⟨rfl, nle⟩ ⟨⟨rfl, trivial⟩, ⟨⟨rfl, trivial⟩, ⟨⟨rfl, trivial⟩, ⟨⟨rfl, trivial⟩, ⟨⟨rfl, trivial⟩, trivial⟩⟩⟩⟩⟩ rfl) <| ?_
  refine s_mov (.int .i64 r_13.2) rfl <| w_done <| k_seq <| awp_seq <| awp_seq <| ?_
  obtain ⟨s48_18, hb1, hf⟩ := ob hf
  refine awp_cut ([(0, (.int .i64 aId_1)), (1, (.int .i64 aCode_2)), (5, (.ptr 0 0 0)), (8, (.ptr 1 0 0)), (9, (.int .i64 r_9.2)), (10, (.ptr 2 0 0)), (11, (.ptr 3 0 0)), (12, (.int .i64 r_13.2)), (48, (.bool s48_18))], [.box 5 (.agg [(.int .i64 aResult_3.Kind), (.int .i64 aResult_3.N), (.str aResult_3.T), (.lst 1 (aResult_3.Keys.map AV.str)), (.lst 5 (aResult_3.Items.map encGJson))]), .box 5 (.agg [(.int .i64 r_9.1.Kind), (.int .i64 r_9.1.N), (.str r_9.1.T), (.own 4 0 r_9.1.Keys.length), (.own 5 0 r_9.1.Items.length)]), .box 5 (.agg [(.int .i64 r_11.Kind), (.int .i64 r_11.N), (.str r_11.T), (.own 6 0 r_11.Keys.length), (.own 7 0 r_11.Items.length)]), .box 5 (.agg [(.int .i64 r_13.1.Kind), (.int .i64 r_13.1.N), (.str r_13.1.T), (.own 8 0 r_13.1.Keys.length), (.own 9 0 r_13.1.Items.length)]), .row 1 (r_9.1.Keys.map AV.str), .row 5 (r_9.1.Items.map encGJson), .row 1 (r_11.Keys.map AV.str), .row 5 (r_11.Items.map encGJson), .row 1 (r_13.1.Keys.map AV.str), .row 5 (r_13.1.Items.map encGJson)]) ?_ ?_
  ·refine w_reg ?_
   obtain ⟨r_20, er21, hb1⟩ := ob hb1
   rcases oi hb1 with ⟨c22, hb1⟩ | ⟨c22, hb1⟩
   ·refine s_q (.agg [(.int .i64 r_13.1.Kind), (.int .i64 r_13.1.N), (.str r_13.1.T), (.own 9 0 r_13.1.Keys.length), (.own 10 0 r_13.1.Items.length)]) rfl (.of nle trivial) rfl <| s_q (.agg [(.int .i64 r_9.1.Kind), (.int .i64 r_9.1.N), (.str r_9.1.T), (.own 3 0 r_9.1.Keys.length), (.own 4 0 r_9.1.Items.length)]) rfl (.of nle trivial) rfl <| s_do (o_call (w_laws_eqJson FUEL _ _ _ er21) rfl (.cons (leJ (x := r_13.1) (.agg (.cons (.refl _) (.cons (.refl _) (.cons (.refl _) (.cons (.of_eq (congrArg (AV.lst _) (tko (enc := AV.str) r_13.1.Keys))) (.cons (.of_eq (congrArg (AV.lst _) (tko (enc := encGJson) r_13.1.Items))) .nil))))))) (.cons (leJ (x := r_9.1) (.agg (.cons (.refl _) (.cons (.refl _) (.cons (.refl _) (.cons (.of_eq (congrArg (AV.lst _) (tko (enc := AV.str) r_9.1.Keys))) (.cons (.of_eq (congrArg (AV.lst _) (tko (enc := encGJson) r_9.1.Items))) .nil))))))) .nil)) rfl) <| ?_
    refine s_q (.bool (!r_20)) rfl (.of trivial trivial) rfl <| s_mov (.bool (!r_20)) rfl <| s_lit (s := 44) (b := true) rfl c22 <| s_off rfl rfl <| s_off rfl rfl <| s_off rfl rfl <| s_q (.bool true) rfl (.of trivial trivial) rfl <| w_done <| ?_; obtain rfl := os hb1; exact ⟨[], [0, 5, 8, 11, 3, 4, 6, 7, 9, 10], _, _, rfl, rfl, ⟨.refl _, ⟨.refl _, ⟨.refl _, ⟨.refl _, ⟨.refl _, ⟨.refl _, ⟨.refl _, ⟨.refl _, ⟨.refl _, trivial⟩⟩⟩⟩⟩⟩⟩⟩⟩, (.refl _)⟩
   ·refine s_q (.agg [(.int .i64 r_13.1.Kind), (.int .i64 r_13.1.N), (.str r_13.1.T), (.own 9 0 r_13.1.Keys.length), (.own 10 0 r_13.1.Items.length)]) rfl (.of nle trivial) rfl <| s_q (.agg [(.int .i64 r_9.1.Kind), (.int .i64 r_9.1.N), (.str r_9.1.T), (.own 3 0 r_9.1.Keys.length), (.own 4 0 r_9.1.Items.length)]) rfl (.of nle trivial) rfl <| s_do (o_call (w_laws_eqJson FUEL _ _ _ er21) rfl (.cons (leJ (x := r_13.1) (.agg (.cons (.refl _) (.cons (.refl _) (.cons (.refl _) (.cons (.of_eq (congrArg (AV.lst _) (tko (enc := AV.str) r_13.1.Keys))) (.cons (.of_eq (congrArg (AV.lst _) (tko (enc := encGJson) r_13.1.Items))) .nil))))))) (.cons (leJ (x := r_9.1) (.agg (.cons (.refl _) (.cons (.refl _) (.cons (.refl _) (.cons (.of_eq (congrArg (AV.lst _) (tko (enc := AV.str) r_9.1.Keys))) (.cons (.of_eq (congrArg (AV.lst _) (tko (enc := encGJson) r_9.1.Items))) .nil))))))) .nil)) rfl) <| ?_
    refine s_q (.bool (!r_20)) rfl (.of trivial trivial) rfl <| s_mov (.bool (!r_20)) rfl <| s_lit (s := 44) (b := false) rfl (bf c22) <| s_on rfl <| s_mov (.int .i64 r_13.2) rfl <| s_on rfl <| s_mov (.int .i64 r_9.2) rfl <| s_on rfl <| s_q (.bool (r_13.2 != r_9.2)) rfl (.of rfl trivial) rfl <| s_q (.bool (r_13.2 != r_9.2)) rfl (.of trivial trivial) rfl <| w_done <| ?_; obtain rfl := os hb1; exact ⟨[], [0, 5, 8, 11, 3, 4, 6, 7, 9, 10], _, _, rfl, rfl, ⟨.refl _, ⟨.refl _, ⟨.refl _, ⟨.refl _, ⟨.refl _, ⟨.refl _, ⟨.refl _, ⟨.refl _, ⟨.refl _, trivial⟩⟩⟩⟩⟩⟩⟩⟩⟩, (.refl _)⟩
  ·rcases oi hf with ⟨c23, hf⟩ | ⟨c23, hf⟩
   ·refine w_condt rfl c23 <| awp_seq <| w_reg <| s_mov (.bool false) rfl <| w_done <| k_seq <| w_ret <| ?_; obtain rfl := os hf; exact r_flat ⟨.of trivial trivial, trivial⟩ rfl (.refl _)
   ·refine w_condf rfl (bf c23) <| w_skip <| k_seq <| awp_seq <| awp_seq <| w_reg <| ?_
    obtain ⟨r_24, er25, hf⟩ := ob hf
    obtain ⟨r_26, er27, hf⟩ := ob hf
    refine s_q (.agg [(.int .i64 r_11.Kind), (.int .i64 r_11.N), (.str r_11.T), (.own 6 0 r_11.Keys.length), (.own 7 0 r_11.Items.length)]) rfl (.of nle trivial) rfl <| s_q (.agg [(.int .i64 aResult_3.Kind), (.int .i64 aResult_3.N), (.str aResult_3.T), (.lst 1 (aResult_3.Keys.map AV.str)), (.lst 5 (aResult_3.Items.map encGJson))]) rfl (.of nle trivial) rfl <| s_dol (o_callf (v := (.agg [(.int .i64 r_24.Kind), (.int .i64 r_24.N), (.str r_24.T), (.own 10 0 r_24.Keys.length), (.own 11 0 r_24.Items.length)])) (h' := [.row 1 (r_24.Keys.map AV.str), .row 5 (r_24.Items.map encGJson)]) (w_laws_toJson FUEL _ _ er25) rfl (.cons (.of_eq (encGJson_eq aResult_3).symm) .nil) (by simp only [openV, openVs, List.length_map, encGJson_eq, List.nil_append, List.append_nil, List.cons_append]; rfl)) (.inr ⟨⟨(.of nle trivial), rfl⟩, trivial⟩) trivial <| ?_
    refine s_dol (o_call (w_laws_eqJson FUEL _ _ _ er27) rfl (.cons (leJ (x := r_11) (.agg (.cons (.refl _) (.cons (.refl _) (.cons (.refl _) (.cons (.of_eq (congrArg (AV.lst _) (tko (enc := AV.str) r_11.Keys))) (.cons (.of_eq (congrArg (AV.lst _) (tko (enc := encGJson) r_11.Items))) .nil))))))) (.cons (leJ (x := r_24) (.agg (.cons (.refl _) (.cons (.refl _) (.cons (.refl _) (.cons (.of_eq (congrArg (AV.lst _) (tko (enc := AV.str) r_24.Keys))) (.cons (.of_eq (congrArg (AV.lst _) (tko (enc := encGJson) r_24.Items))) .nil))))))) .nil)) rfl) a_same trivial <| s_q (.bool (!r_26)) rfl (.of trivial trivial) rfl <| w_done <| k_seq <| ?_
    rcases oi hf with ⟨c28, hf⟩ | ⟨c28, hf⟩
    ·refine w_condt rfl c28 <| awp_seq <| w_reg <| s_mov (.bool false) rfl <| w_done <| k_seq <| w_ret <| ?_; obtain rfl := os hf; exact r_flat ⟨.of trivial trivial, trivial⟩ rfl (.refl _)
    ·refine w_condf rfl (bf c28) <| w_skip <| k_seq <| awp_seq <| w_reg <| s_mov (.int .i64 1) rfl <| w_done <| k_seq <| awp_seq <| w_reg <| ?_
     obtain ⟨r_29, er30, hf⟩ := ob hf
     refine s_q (.agg [(.int .i64 r_11.Kind), (.int .i64 r_11.N), (.str r_11.T), (.own 6 0 r_11.Keys.length), (.own 7 0 r_11.Items.length)]) rfl (.of nle trivial) rfl <| s_mov (.int .i64 1) rfl <| ?_; refine s_dof (o_callhs (v := (.int .i64 r_29.1)) (h2 := [.box 5 (.agg [(.int .i64 aResult_3.Kind), (.int .i64 aResult_3.N), (.str aResult_3.T), (.lst 1 (aResult_3.Keys.map AV.str)), (.lst 5 (aResult_3.Items.map encGJson))]), .box 5 (.agg [(.int .i64 r_9.1.Kind), (.int .i64 r_9.1.N), (.str r_9.1.T), (.own 4 0 r_9.1.Keys.length), (.own 5 0 r_9.1.Items.length)]), .box 5 (.agg [(.int .i64 r_11.Kind), (.int .i64 r_11.N), (.str r_11.T), (.own 6 0 r_11.Keys.length), (.own 7 0 r_11.Items.length)]), .box 5 (.agg [(.int .i64 r_13.1.Kind), (.int .i64 r_13.1.N), (.str r_13.1.T), (.own 8 0 r_13.1.Keys.length), (.own 9 0 r_13.1.Items.length)]), .row 1 (r_9.1.Keys.map AV.str), .row 5 (r_9.1.Items.map encGJson), .row 1 (r_29.2.Keys.map AV.str), .row 5 (r_29.2.Items.map encGJson), .row 1 (r_13.1.Keys.map AV.str), .row 5 (r_13.1.Items.map encGJson), .row 1 (r_24.Keys.map AV.str), .row 5 (r_24.Items.map encGJson)]) [] [6, 7] (fun _ => rfl) (w_laws_markJson _ _ _ er30) rfl (.refl _) (.refl _) rfl rfl) fun hl31 => ?_
     refine s_mov (.int .i64 r_29.1) rfl <| w_done <| k_seq <| awp_seq <| awp_seq <| ?_
     obtain ⟨s69_35, hb1, hf⟩ := ob hf
     refine awp_cut ([(0, (.int .i64 aId_1)), (1, (.int .i64 aCode_2)), (5, (.ptr 0 0 0)), (8, (.ptr 1 0 0)), (9, (.int .i64 r_9.2)), (11, (.ptr 2 0 0)), (69, (.bool s69_35))], [.box 5 (.agg [(.int .i64 aResult_3.Kind), (.int .i64 aResult_3.N), (.str aResult_3.T), (.lst 1 (aResult_3.Keys.map AV.str)), (.lst 5 (aResult_3.Items.map encGJson))]), .box 5 (.agg [(.int .i64 r_9.1.Kind), (.int .i64 r_9.1.N), (.str r_9.1.T), (.own 3 0 r_9.1.Keys.length), (.own 4 0 r_9.1.Items.length)]), .box 5 (.agg [(.int .i64 r_13.1.Kind), (.int .i64 r_13.1.N), (.str r_13.1.T), (.own 5 0 r_13.1.Keys.length), (.own 6 0 r_13.1.Items.length)]), .row 1 (r_9.1.Keys.map AV.str), .row 5 (r_9.1.Items.map encGJson), .row 1 (r_13.1.Keys.map AV.str), .row 5 (r_13.1.Items.map encGJson)]) ?_ ?_
     ·refine w_reg <| s_mov (.int .i64 r_29.1) rfl <| s_q (.bool (decide (r_29.1 < 0))) rfl (.of rfl trivial) rfl <| s_mov (.bool (decide (r_29.1 < 0))) rfl <| ?_
      rcases oi hb1 with ⟨c37, hb1⟩ | ⟨c37, hb1⟩
      ·refine s_lit (s := 59) (b := true) rfl c37 <| s_off rfl rfl <| s_off rfl rfl <| s_off rfl rfl <| s_off rfl rfl <| s_q (.bool true) rfl (.of trivial trivial) rfl <| s_mov (.bool true) rfl <| s_off rfl rfl <| s_off rfl rfl <| s_off rfl rfl <| s_q (.bool true) rfl (.of trivial trivial) rfl <| w_done <| ?_; obtain rfl := os hb1; exact ⟨[], [0, 1, 3, 4, 5, 8, 9], _, _, rfl, rfl, ⟨.refl _, ⟨.refl _, ⟨.refl _, ⟨.refl _, ⟨.refl _, ⟨.refl _, ⟨.refl _, trivial⟩⟩⟩⟩⟩⟩⟩, (.refl _)⟩
      ·refine s_lit (s := 59) (b := false) rfl (bf c37) <| s_on rfl <| s_q (.agg [(.int .i64 r_13.1.Kind), (.int .i64 r_13.1.N), (.str r_13.1.T), (.own 8 0 r_13.1.Keys.length), (.own 9 0 r_13.1.Items.length)]) rfl (.of nle trivial) rfl <| s_on rfl <| s_q (.agg [(.int .i64 r_9.1.Kind), (.int .i64 r_9.1.N), (.str r_9.1.T), (.own 4 0 r_9.1.Keys.length), (.own 5 0 r_9.1.Items.length)]) rfl (.of nle trivial) rfl <| s_on rfl <| ?_
       obtain ⟨r_38, er39, hb1⟩ := ob hb1
       refine s_do (o_call (w_laws_eqJson FUEL _ _ _ er39) rfl (.cons (leJ (x := r_13.1) (.agg (.cons (.refl _) (.cons (.refl _) (.cons (.refl _) (.cons (.of_eq (congrArg (AV.lst _) (tko (enc := AV.str) r_13.1.Keys))) (.cons (.of_eq (congrArg (AV.lst _) (tko (enc := encGJson) r_13.1.Items))) .nil))))))) (.cons (leJ (x := r_9.1) (.agg (.cons (.refl _) (.cons (.refl _) (.cons (.refl _) (.cons (.of_eq (congrArg (AV.lst _) (tko (enc := AV.str) r_9.1.Keys))) (.cons (.of_eq (congrArg (AV.lst _) (tko (enc := encGJson) r_9.1.Items))) .nil))))))) .nil)) rfl) <| s_on rfl <| s_q (.bool (!r_38)) rfl (.of trivial trivial) rfl <| s_q (.bool (!r_38)) rfl (.of trivial trivial) rfl <| s_mov (.bool (!r_38)) rfl <| ?_; refine s_g (v := (!r_38)) (.int .i64 r_13.2) rfl (fun hv => by (try simp only [gs_on hv]); exact ⟨rfl, .of trivial trivial, rfl⟩) ?_
       refine s_g (v := (!r_38)) (.int .i64 r_9.2) rfl (fun hv => by (try simp only [gs_on hv]); exact ⟨rfl, .of trivial trivial, rfl⟩) ?_; refine s_g (v := (!r_38)) (.bool (r_13.2 != r_9.2)) rfl (fun hv => by (try simp only [gs_on hv]); exact ⟨rfl, (.of rfl trivial), rfl⟩) ?_; refine s_pick (x := true) (y := (r_13.2 != r_9.2)) rfl (fun hv => by (try simp only [gs_on hv]); rfl) (fun hv => by (try simp only [gs_on hv]); rfl) ?_; refine w_done ?_; obtain rfl := os hb1; exact ⟨[], [0, 1, 3, 4, 5, 8, 9], _, _, rfl, rfl, ⟨.refl _, ⟨.refl _, ⟨.refl _, ⟨.refl _, ⟨.refl _, ⟨.refl _, ⟨.refl _, trivial⟩⟩⟩⟩⟩⟩⟩, (.refl _)⟩
     ·rcases oi hf with ⟨c40, hf⟩ | ⟨c40, hf⟩
      ·refine w_condt rfl c40 <| awp_seq <| w_reg <| s_mov (.bool false) rfl <| w_done <| k_seq <| w_ret <| ?_; obtain rfl := os hf; exact r_flat ⟨.of trivial trivial, trivial⟩ rfl (.refl _)
      ·refine w_condf rfl (bf c40) <| w_skip <| k_seq <| awp_seq <| w_reg <| s_mov (.int .i64 1) rfl <| w_done <| k_seq <| awp_seq <| w_reg <| ?_
       obtain ⟨r_41, er42, hf⟩ := ob hf
       refine s_q (.agg [(.int .i64 r_13.1.Kind), (.int .i64 r_13.1.N), (.str r_13.1.T), (.own 5 0 r_13.1.Keys.length), (.own 6 0 r_13.1.Items.length)]) rfl (.of nle trivial) rfl <| s_mov (.int .i64 1) rfl <| ?_; refine s_dof (o_callhs (v := (.int .i64 r_41.1)) (h2 := [.box 5 (.agg [(.int .i64 aResult_3.Kind), (.int .i64 aResult_3.N), (.str aResult_3.T), (.lst 1 (aResult_3.Keys.map AV.str)), (.lst 5 (aResult_3.Items.map encGJson))]), .box 5 (.agg [(.int .i64 r_9.1.Kind), (.int .i64 r_9.1.N), (.str r_9.1.T), (.own 3 0 r_9.1.Keys.length), (.own 4 0 r_9.1.Items.length)]), .box 5 (.agg [(.int .i64 r_13.1.Kind), (.int .i64 r_13.1.N), (.str r_13.1.T), (.own 5 0 r_13.1.Keys.length), (.own 6 0 r_13.1.Items.length)]), .row 1 (r_9.1.Keys.map AV.str), .row 5 (r_9.1.Items.map encGJson), .row 1 (r_41.2.Keys.map AV.str), .row 5 (r_41.2.Items.map encGJson)]) [] [5, 6] (fun _ => rfl) (w_laws_markJson _ _ _ er42) rfl (.refl _) (.refl _) rfl rfl) fun hl43 => ?_
       refine s_mov (.int .i64 r_41.1) rfl <| w_done <| k_seq <| awp_seq <| w_reg <| s_mov (.int .i64 1) rfl <| w_done <| k_seq <| awp_seq <| w_reg <| ?_
       obtain ⟨r_44, er45, hf⟩ := ob hf
       refine s_q (.agg [(.int .i64 r_13.1.Kind), (.int .i64 r_13.1.N), (.str r_13.1.T), (.own 5 0 r_13.1.Keys.length), (.own 6 0 r_13.1.Items.length)]) rfl (.of nle trivial) rfl <| s_mov (.int .i64 1) rfl <| s_do (o_call (w_laws_heldJson _ _ _ er45) rfl (.cons (leJ (x := (⟨r_13.1.Kind, r_13.1.N, r_13.1.T, r_41.2.Keys, r_41.2.Items⟩ : GJson)) (.agg (.cons (.refl _) (.cons (.refl _) (.cons (.refl _) (.cons (.of_eq (congrArg (AV.lst _) (tkol (hl43 0 _ _ _ _ rfl rfl)))) (.cons (.of_eq (congrArg (AV.lst _) (tkol (hl43 1 _ _ _ _ rfl rfl)))) .nil))))))) (.cons (.refl _) .nil)) rfl) <| s_mov (.int .i64 r_44) rfl <| w_done <| k_seq <| awp_seq <| awp_seq <| w_reg <| s_mov (.int .i64 r_44) rfl <| s_q (.bool (decide (r_44 < 0))) rfl (.of rfl trivial) rfl <| ?_
       refine w_done <| k_seq <| ?_
       rcases oi hf with ⟨c46, hf⟩ | ⟨c46, hf⟩
       ·refine w_condt rfl c46 <| awp_seq <| w_reg <| s_mov (.bool false) rfl <| w_done <| k_seq <| w_ret <| ?_; obtain rfl := os hf; exact r_flat ⟨.of trivial trivial, trivial⟩ rfl (.refl _)
       ·refine w_condf rfl (bf c46) <| w_skip <| k_seq <| awp_seq <| awp_seq <| w_reg <| s_mov (.int .i64 r_44) rfl <| s_mov (.int .i64 r_41.1) rfl <| s_q (.bool (r_44 != r_41.1)) rfl (.of rfl trivial) rfl <| w_done <| k_seq <| ?_
        rcases oi hf with ⟨c47, hf⟩ | ⟨c47, hf⟩
        ·refine w_condt rfl c47 <| awp_seq <| w_reg <| s_mov (.bool false) rfl <| w_done <| k_seq <| w_ret <| ?_; obtain rfl := os hf; exact r_flat ⟨.of trivial trivial, trivial⟩ rfl (.refl _)
        ·refine w_condf rfl (bf c47) <| w_skip <| k_seq <| awp_seq <| w_reg <| ?_
         obtain ⟨r_48, er49, hf⟩ := ob hf
         obtain ⟨r_50, er51, hf⟩ := ob hf
         refine s_mov (.int .i64 aId_1) rfl <| s_mov (.int .i64 aCode_2) rfl <| s_q (.agg [(.int .i64 aResult_3.Kind), (.int .i64 aResult_3.N), (.str aResult_3.T), (.lst 1 (aResult_3.Keys.map AV.str)), (.lst 5 (aResult_3.Items.map encGJson))]) rfl (.of nle trivial) rfl <| s_do (o_callf (v := (.agg [(.int .i64 r_48.Kind), (.int .i64 r_48.N), (.str r_48.T), (.own 7 0 r_48.Keys.length), (.own 8 0 r_48.Items.length)])) (h' := [.row 1 (r_48.Keys.map AV.str), .row 5 (r_48.Items.map encGJson)]) (w_laws_toJson FUEL _ _ er49) rfl (.cons (.of_eq (encGJson_eq aResult_3).symm) .nil) (by simp only [openV, openVs, List.length_map, encGJson_eq, List.nil_append, List.append_nil, List.cons_append]; rfl)) <| s_do (o_callf (v := (.tup [(.agg [(.int .i64 r_50.1.Kind), (.int .i64 r_50.1.N), (.str r_50.1.T), (.own 9 0 r_50.1.Keys.length), (.own 10 0 r_50.1.Items.length)]), (.int .i64 r_50.2)])) (h' := [.row 1 (r_50.1.Keys.map AV.str), .row 5 (r_50.1.Items.map encGJson)]) (w_impl_ReplyJson _ _ _ _ er51) rfl (.cons (.refl _) (.cons (.refl _) (.cons (leJ (x := r_48) (.agg (.cons (.refl _) (.cons (.refl _) (.cons (.refl _) (.cons (.of_eq (congrArg (AV.lst _) (tko (enc := AV.str) r_48.Keys))) (.cons (.of_eq (congrArg (AV.lst _) (tko (enc := encGJson) r_48.Items))) .nil))))))) .nil))) (by simp only [openV, openVs, List.length_map, encGJson_eq, List.nil_append, List.append_nil, List.cons_append]; rfl)) <| ?_
         refine s_mov (.tup [(.agg [(.int .i64 r_50.1.Kind), (.int .i64 r_50.1.N), (.str r_50.1.T), (.own 9 0 r_50.1.Keys.length), (.own 10 0 r_50.1.Items.length)]), (.int .i64 r_50.2)]) rfl <| s_q (.agg [(.int .i64 r_50.1.Kind), (.int .i64 r_50.1.N), (.str r_50.1.T), (.own 9 0 r_50.1.Keys.length), (.own 10 0 r_50.1.Items.length)]) rfl (.of nle trivial) rfl <| s_q (.int .i64 r_50.2) rfl (.of nle trivial) rfl <| s_do (o_box (j := 11) (c := (.agg [(.int .i64 0), (.int .i64 0), (.str []), .nil, .nil])) rfl trivial rfl rfl) <| s_do0 (o_storebox (v := (.agg [(.int .i64 r_50.1.Kind), (.int .i64 r_50.1.N), (.str r_50.1.T), (.own 9 0 r_50.1.Keys.length), (.own 10 0 r_50.1.Items.length)])) (y' := (.agg [(.int .i64 r_50.1.Kind), (.int .i64 r_50.1.N), (.str r_50.1.T), (.own 9 0 r_50.1.Keys.length), (.own 10 0 r_50.1.Items.length)])) rfl rfl rfl trivial ⟨rfl, nle⟩ ⟨⟨rfl, trivial⟩, ⟨⟨rfl, trivial⟩, ⟨⟨rfl, trivial⟩, ⟨⟨rfl, trivial⟩, ⟨⟨rfl, trivial⟩, trivial⟩⟩⟩⟩⟩ rfl) <| ?_
         refine s_mov (.int .i64 r_50.2) rfl <| w_done <| k_seq <| awp_seq <| awp_seq <| ?_
         obtain ⟨s97_55, hb1, hf⟩ := ob hf
         refine awp_cut ([(11, (.ptr 0 0 0)), (14, (.int .i64 r_41.1)), (97, (.bool s97_55))], [.box 5 (.agg [(.int .i64 r_13.1.Kind), (.int .i64 r_13.1.N), (.str r_13.1.T), (.own 1 0 r_41.2.Keys.length), (.own 2 0 r_41.2.Items.length)]), .row 1 (r_41.2.Keys.map AV.str), .row 5 (r_41.2.Items.map encGJson)]) ?_ ?_
         ·refine w_reg ?_
          obtain ⟨r_57, er58, hb1⟩ := ob hb1
          rcases oi hb1 with ⟨c59, hb1⟩ | ⟨c59, hb1⟩
          ·refine s_q (.agg [(.int .i64 r_50.1.Kind), (.int .i64 r_50.1.N), (.str r_50.1.T), (.own 9 0 r_50.1.Keys.length), (.own 10 0 r_50.1.Items.length)]) rfl (.of nle trivial) rfl <| s_q (.agg [(.int .i64 r_9.1.Kind), (.int .i64 r_9.1.N), (.str r_9.1.T), (.own 3 0 r_9.1.Keys.length), (.own 4 0 r_9.1.Items.length)]) rfl (.of nle trivial) rfl <| s_do (o_call (w_laws_eqJson FUEL _ _ _ er58) rfl (.cons (leJ (x := r_50.1) (.agg (.cons (.refl _) (.cons (.refl _) (.cons (.refl _) (.cons (.of_eq (congrArg (AV.lst _) (tko (enc := AV.str) r_50.1.Keys))) (.cons (.of_eq (congrArg (AV.lst _) (tko (enc := encGJson) r_50.1.Items))) .nil))))))) (.cons (leJ (x := r_9.1) (.agg (.cons (.refl _) (.cons (.refl _) (.cons (.refl _) (.cons (.of_eq (congrArg (AV.lst _) (tko (enc := AV.str) r_9.1.Keys))) (.cons (.of_eq (congrArg (AV.lst _) (tko (enc := encGJson) r_9.1.Items))) .nil))))))) .nil)) rfl) <| ?_
           refine s_q (.bool (!r_57)) rfl (.of trivial trivial) rfl <| s_mov (.bool (!r_57)) rfl <| s_lit (s := 93) (b := true) rfl c59 <| s_off rfl rfl <| s_off rfl rfl <| s_off rfl rfl <| s_q (.bool true) rfl (.of trivial trivial) rfl <| w_done <| ?_; obtain rfl := os hb1; exact ⟨[], [2, 5, 6], _, _, rfl, rfl, ⟨.refl _, ⟨.refl _, ⟨.refl _, trivial⟩⟩⟩, (.cons (.box (.agg (.cons (.refl _) (.cons (.refl _) (.cons (.refl _) (.cons (.of_eq (congrArg (AV.own _ 0) (by have h := (hl43 0 _ _ _ _ rfl rfl); simpa using h.symm))) (.cons (.of_eq (congrArg (AV.own _ 0) (by have h := (hl43 1 _ _ _ _ rfl rfl); simpa using h.symm))) .nil))))))) (.cons (.refl _) (.cons (.refl _) .nil)))⟩
          ·refine s_q (.agg [(.int .i64 r_50.1.Kind), (.int .i64 r_50.1.N), (.str r_50.1.T), (.own 9 0 r_50.1.Keys.length), (.own 10 0 r_50.1.Items.length)]) rfl (.of nle trivial) rfl <| s_q (.agg [(.int .i64 r_9.1.Kind), (.int .i64 r_9.1.N), (.str r_9.1.T), (.own 3 0 r_9.1.Keys.length), (.own 4 0 r_9.1.Items.length)]) rfl (.of nle trivial) rfl <| s_do (o_call (w_laws_eqJson FUEL _ _ _ er58) rfl (.cons (leJ (x := r_50.1) (.agg (.cons (.refl _) (.cons (.refl _) (.cons (.refl _) (.cons (.of_eq (congrArg (AV.lst _) (tko (enc := AV.str) r_50.1.Keys))) (.cons (.of_eq (congrArg (AV.lst _) (tko (enc := encGJson) r_50.1.Items))) .nil))))))) (.cons (leJ (x := r_9.1) (.agg (.cons (.refl _) (.cons (.refl _) (.cons (.refl _) (.cons (.of_eq (congrArg (AV.lst _) (tko (enc := AV.str) r_9.1.Keys))) (.cons (.of_eq (congrArg (AV.lst _) (tko (enc := encGJson) r_9.1.Items))) .nil))))))) .nil)) rfl) <| ?_
           refine s_q (.bool (!r_57)) rfl (.of trivial trivial) rfl <| s_mov (.bool (!r_57)) rfl <| s_lit (s := 93) (b := false) rfl (bf c59) <| s_on rfl <| s_mov (.int .i64 r_50.2) rfl <| s_on rfl <| s_mov (.int .i64 r_9.2) rfl <| s_on rfl <| s_q (.bool (r_50.2 != r_9.2)) rfl (.of rfl trivial) rfl <| s_q (.bool (r_50.2 != r_9.2)) rfl (.of trivial trivial) rfl <| w_done <| ?_; obtain rfl := os hb1; exact ⟨[], [2, 5, 6], _, _, rfl, rfl, ⟨.refl _, ⟨.refl _, ⟨.refl _, trivial⟩⟩⟩, (.cons (.box (.agg (.cons (.refl _) (.cons (.refl _) (.cons (.refl _) (.cons (.of_eq (congrArg (AV.own _ 0) (by have h := (hl43 0 _ _ _ _ rfl rfl); simpa using h.symm))) (.cons (.of_eq (congrArg (AV.own _ 0) (by have h := (hl43 1 _ _ _ _ rfl rfl); simpa using h.symm))) .nil))))))) (.cons (.refl _) (.cons (.refl _) .nil)))⟩
         ·rcases oi hf with ⟨c60, hf⟩ | ⟨c60, hf⟩
          ·refine w_condt rfl c60 <| awp_seq <| w_reg <| s_mov (.bool false) rfl <| w_done <| k_seq <| w_ret <| ?_; obtain rfl := os hf; exact r_flat ⟨.of trivial trivial, trivial⟩ rfl (.refl _)
          ·refine w_condf rfl (bf c60) <| w_skip <| k_seq <| awp_seq <| w_reg <| s_mov (.int .i64 1) rfl <| w_done <| k_seq <| awp_seq <| w_reg <| ?_
           obtain ⟨r_61, er62, hf⟩ := ob hf
           refine s_q (.agg [(.int .i64 r_13.1.Kind), (.int .i64 r_13.1.N), (.str r_13.1.T), (.own 1 0 r_41.2.Keys.length), (.own 2 0 r_41.2.Items.length)]) rfl (.of nle trivial) rfl <| s_mov (.int .i64 1) rfl <| s_do (o_call (w_laws_heldJson _ _ _ er62) rfl (.cons (leJ (x := (⟨r_13.1.Kind, r_13.1.N, r_13.1.T, r_41.2.Keys, r_41.2.Items⟩ : GJson)) (.agg (.cons (.refl _) (.cons (.refl _) (.cons (.refl _) (.cons (.of_eq (congrArg (AV.lst _) (tko (enc := AV.str) r_41.2.Keys))) (.cons (.of_eq (congrArg (AV.lst _) (tko (enc := encGJson) r_41.2.Items))) .nil))))))) (.cons (.refl _) .nil)) rfl) <| s_mov (.int .i64 r_61) rfl <| w_done <| k_seq <| awp_seq <| awp_seq <| w_reg <| s_mov (.int .i64 r_61) rfl <| s_q (.bool (decide (r_61 < 0))) rfl (.of rfl trivial) rfl <| ?_
           refine w_done <| k_seq <| ?_
           rcases oi hf with ⟨c63, hf⟩ | ⟨c63, hf⟩
           ·refine w_condt rfl c63 <| awp_seq <| w_reg <| s_mov (.bool false) rfl <| w_done <| k_seq <| w_ret <| ?_; obtain rfl := os hf; exact r_flat ⟨.of trivial trivial, trivial⟩ rfl (.refl _)
           ·refine w_condf rfl (bf c63) <| w_skip <| k_seq <| awp_seq <| awp_seq <| w_reg <| s_mov (.int .i64 r_61) rfl <| s_mov (.int .i64 r_41.1) rfl <| s_q (.bool (r_61 != r_41.1)) rfl (.of rfl trivial) rfl <| w_done <| k_seq <| ?_
            rcases oi hf with ⟨c64, hf⟩ | ⟨c64, hf⟩
            ·refine w_condt rfl c64 <| awp_seq <| w_reg <| s_mov (.bool false) rfl <| w_done <| k_seq <| w_ret <| ?_; obtain rfl := os hf; exact r_flat ⟨.of trivial trivial, trivial⟩ rfl (.refl _)
            ·refine w_condf rfl (bf c64) <| w_skip <| k_seq <| awp_seq <| w_reg <| s_mov (.bool true) rfl <| w_done <| k_seq <| w_ret <| ?_; obtain rfl := os hf; exact r_flat ⟨.of trivial trivial, trivial⟩ rfl (.refl _)

end Go.R
