/- Walks. -/
import Derived.Test.YthneidgpgfgecaaAPU1
set_option linter.all false
namespace Go.R
open Go Go.Proofs
set_option linter.unusedVariables false
set_option linter.unusedSimpArgs false
set_option maxHeartbeats 8000000
/- impl.copyRow -/
def c76 : ACode :=
 (.seq (.reg (tq 1 (.box 2 (.t 0)) (tq 2 (.box 2 (.c (.agg [(.int .i64 0), .nil]))) .done)))
 (.seq (.reg (tq 6 (.bslice 1 []) (tm 3 (.t 6) .done)))
 (.seq (.seq (.reg (tq 7 (.faddr 1 (.t 1)) (tq 8 (.load 1 false (.t 7)) (tq 9 (.len (.t 8)) (tm 10 (.c (.int .i64 0)) .done)))))
 (.block 0 (.loop (.seq (.reg (tq 11 (.bin .lss (.t 10) (.t 9)) .done))
 (.seq (.cond (.t 11) .skip
 (.exit 0))
 (.seq (.block 1 (.seq (.reg (tq 12 (.iaddr 1 (.t 8) (.t 10)) (tq 13 (.load 1 false (.t 12)) (tm 5 (.t 13) .done))))
 (.reg (tm 14 (.t 3) (tm 15 (.t 5) (tq 16 (.call 97 [(.t 15)]) (tq 17 (.bslice 1 [(.t 16)]) (tq 18 (.append 1 24 (.t 14) (.t 17)) (tm 3 (.t 18) .done)))))))))
 (.reg (tq 19 (.bin .add (.t 10) (.c (.int .i64 1))) (tm 10 (.t 19) .done)))))))))
 (.cut (.seq (.seq (.reg (tq 20 (.faddr 1 (.t 1)) (.q ⟨none, none, .store 1 (.t 20) (.c .nil)⟩
 .done)))
 (.seq (.reg (tm 21 (.t 3) (tq 22 (.len (.t 21)) (tq 23 (.bin .gtr (.t 22) (.c (.int .i64 0))) .done))))
 (.cond (.t 23) (.reg (tm 24 (.t 3) (tq 25 (.faddr 1 (.t 1)) (.q ⟨none, none, .store 1 (.t 25) (.t 24)⟩
 .done))))
 .skip)))
 (.seq (.reg (tq 26 (.load 2 true (.t 1)) (.q ⟨none, none, .store 2 (.t 2) (.t 26)⟩
 .done)))
 .ret))))))
theorem fc76 : fcomp Try.prog Try.f76 = some (c76.erase, [.load 2 true (.t 2)], 27) := by kernel_rfl
def impl_copyRow_L1  : List (List GAtom) → (List (List GAtom)) → Option (List (List GAtom))
  | [], cells_18 =>
    some cells_18
  | x_33 :: xs, cells_18 =>
    (slices_Clone_impl_Atom_impl_Atom x_33).bind fun r_34 =>
    if (cells_18 ++ [r_34]).length ≤ 2 ^ 30 then
    impl_copyRow_L1 xs  (cells_18 ++ [r_34])
    else none

def impl_copyRow (r_1 : GRow) : Option GRow :=
    (impl_copyRow_L1 r_1.Cells []).bind fun cells_25 =>
    if (decide ((cells_25.length : Int) > 0)) then
    some (⟨r_1.Id, cells_25⟩ : GRow)
    else
    some (⟨r_1.Id, []⟩ : GRow)
theorem w_impl_copyRow (r_1 : GRow) (r : GRow) (hf : impl_copyRow r_1 = some r) : CallOK Try.prog 76 .fresh [(encGRow r_1)] (encGRow r) := by
 refine CallOK.of_awp mixed Try.func76 fc76 nle ?_; rw [argT_eq]; unfold impl_copyRow at hf; unfold c76; refine (show awp Try.prog true 0 _ (ofL [(0, (encGRow r_1))]) [] _ from ?_); refine awp_seq <| w_reg <| s_do (o_box (j := 0) (c := (.agg [(.int .i64 r_1.Id), (.lst 1 (r_1.Cells.map (encL 3 encGAtom)))])) rfl trivial rfl rfl) <| s_do (o_box (j := 1) (c := (.agg [(.int .i64 0), .nil])) rfl trivial rfl rfl) <| w_done <| k_seq <| awp_seq <| w_reg <| ?_; refine s_do (o_bslice (j := 2) (as' := []) rfl (fun _ => by decide) trivial (.refl _) rfl rfl rfl) ?_; refine s_mov (.own 2 0 0) rfl <| w_done <| k_seq <| awp_seq <| awp_seq <| w_reg <| s_q (.ptr 0 0 1) rfl trivial rfl <| s_q (.lst 1 (r_1.Cells.map (encL 3 encGAtom))) rfl nle rfl <| s_dof (o_len (enc := (encL 3 encGAtom)) rfl) fun hl2 => ?_
 refine s_mov (.int .i64 0) rfl <| w_done <| k_seq <| ?_
 obtain ⟨cells_25, hb1, hf⟩ := ob hf
 refine awp_cut ([(1, (.ptr 0 0 0)), (2, (.ptr 1 0 0)), (3, (.own 2 0 cells_25.length))], [.box 2 (.agg [(.int .i64 r_1.Id), (.lst 1 (r_1.Cells.map (encL 3 encGAtom)))]), .box 2 (.agg [(.int .i64 0), .nil]), .row 1 (cells_25.map (encL 3 encGAtom))]) ?_ ?_
 ·refine awp_loop (X := {q : (Nat × (List (List GAtom))) // impl_copyRow_L1 (r_1.Cells.drop q.1) q.2 = some cells_25}) (fun q => ([(1, (.ptr 0 0 0)), (2, (.ptr 1 0 0)), (3, (.own 2 0 q.1.2.length)), (8, (.lst 1 (r_1.Cells.map (encL 3 encGAtom)))), (9, (.int .i64 (r_1.Cells.length : Int))), (10, (.int .i64 (q.1.1 : Int)))], [.box 2 (.agg [(.int .i64 r_1.Id), (.lst 1 (r_1.Cells.map (encL 3 encGAtom)))]), .box 2 (.agg [(.int .i64 0), .nil]), .row 1 (q.1.2.map (encL 3 encGAtom))])) (fun q => r_1.Cells.length - q.1.1) ⟨(0, []), hb1⟩ ⟨[], [0, 1, 2], _, _, rfl, rfl, ⟨.refl _, ⟨.refl _, ⟨.of_eq (congrArg (AV.own _ 0) (by simp)), ⟨.refl _, ⟨.refl _, ⟨.refl _, trivial⟩⟩⟩⟩⟩⟩, (.refl _)⟩ ?_
  rintro ⟨⟨s10_17, cells_18⟩, hc1⟩
  have hc1 : impl_copyRow_L1 (r_1.Cells.drop s10_17) cells_18 = some cells_25 := hc1
  refine (show awp Try.prog true 0 _ (ofL [(1, (.ptr 0 0 0)), (2, (.ptr 1 0 0)), (3, (.own 2 0 cells_18.length)), (8, (.lst 1 (r_1.Cells.map (encL 3 encGAtom)))), (9, (.int .i64 (r_1.Cells.length : Int))), (10, (.int .i64 (s10_17 : Int)))]) [.box 2 (.agg [(.int .i64 r_1.Id), (.lst 1 (r_1.Cells.map (encL 3 encGAtom)))]), .box 2 (.agg [(.int .i64 0), .nil]), .row 1 (cells_18.map (encL 3 encGAtom))] _ from ?_)
  rcases dropc r_1.Cells s10_17 with ⟨hie29, hd32⟩ | ⟨hlt27, x_33, hx28, hd32⟩
  ·rw [hd32, impl_copyRow_L1.eq_1] at hc1
   have hq31 := dlf hie29
   refine awp_seq <| w_reg <| s_q (.bool (decide ((s10_17 : Int) < (r_1.Cells.length : Int)))) rfl rfl rfl <| w_done <| k_seq <| awp_seq <| w_condf rfl hq31 <| w_exit <| k_seqx <| k_loopx <| k_blkx <| ?_; obtain rfl := os hc1; exact ⟨[], [0, 1, 2], _, _, rfl, rfl, ⟨.refl _, ⟨.refl _, ⟨.refl _, trivial⟩⟩⟩, (.refl _)⟩
  ·rw [hd32, impl_copyRow_L1.eq_2] at hc1
   have hq31 := dlt hlt27
   refine awp_seq <| w_reg <| s_q (.bool (decide ((s10_17 : Int) < (r_1.Cells.length : Int)))) rfl rfl rfl <| w_done <| k_seq <| awp_seq <| w_condt rfl hq31 <| w_skip <| k_seq <| awp_seq <| w_blk <| awp_seq <| w_reg <| s_do (o_iaddrn (enc := (encL 3 encGAtom)) rfl rfl hx28) <| s_q (.lst 3 (x_33.map encGAtom)) rfl ⟨rfl, rfl⟩ rfl <| s_mov (.lst 3 (x_33.map encGAtom)) rfl <| w_done <| k_seq <| w_reg <| ?_
   obtain ⟨r_34, er35, hc1⟩ := ob hc1
   obtain ⟨g36, hc1⟩ := og hc1
   refine s_mov (.own 2 0 cells_18.length) rfl <| s_mov (.lst 3 (x_33.map encGAtom)) rfl <| s_do (o_callf (v := (.own 3 0 r_34.length)) (h' := [.row 3 (r_34.map encGAtom)]) (w_slices_Clone_impl_Atom_impl_Atom _ _ er35) rfl (.refl _) (by simp only [openV, openVs, List.length_map, List.nil_append, List.append_nil, List.cons_append]; rfl)) <| ?_; refine s_do (o_bslice (j := 4) (as' := [(.lst 3 (r_34.map encGAtom))]) rfl (fun _ => by decide) ⟨rfl, trivial⟩ (.cons (.of_eq (congrArg (AV.lst _) (tk (enc := encGAtom) r_34))) .nil) rfl rfl rfl) ?_
   refine s_do (o_appendd (j := 5) (L := ((cells_18 ++ [r_34]).map (encL 3 encGAtom))) (len := (cells_18 ++ [r_34]).length) rfl true rfl rfl (fun h => Bool.noConfusion h) (fun _ _ h => (ownl (show AV.own _ _ _ = AV.lst _ _ from h)).elim) (by decide) (apoc (enc := (encL 3 encGAtom)) cells_18 [r_34] _ (by rfl)) (by simp <;> omega) g36 rfl rfl) ?_
   refine s_mov (.own 5 0 ((cells_18 ++ [r_34]).length)) rfl <| w_done <| k_blk <| k_seq <| w_reg <| s_q (.int .i64 (w64 ((s10_17 : Int) + 1))) rfl rfl rfl <| s_mov (.int .i64 (w64 ((s10_17 : Int) + 1))) rfl <| w_done <| ?_; exact k_loopn ⟨((s10_17 + 1), cells_18 ++ [r_34]), hc1⟩ (mul hlt27) ⟨[], [0, 1, 5], _, _, rfl, rfl, ⟨.refl _, ⟨.refl _, ⟨.refl _, ⟨.refl _, ⟨.refl _, ⟨.of_eq (congrArg (AV.int _) (w64_incr hlt27 hl2)), trivial⟩⟩⟩⟩⟩⟩, (.refl _)⟩
 ·refine awp_seq <| awp_seq <| w_reg <| s_q (.ptr 0 0 1) rfl trivial rfl <| s_do0 (o_storebox (v := .nil) (y' := (.agg [(.int .i64 r_1.Id), .nil])) rfl rfl rfl trivial ⟨rfl, nle⟩ ⟨⟨rfl, trivial⟩, trivial⟩ rfl) <| w_done <| k_seq <| awp_seq <| w_reg <| s_mov (.own 2 0 cells_25.length) rfl <| s_dof (o_lenown rfl rfl) fun hl37 => s_q (.bool (decide ((cells_25.length : Int) > 0))) rfl rfl rfl <| w_done <| k_seq <| ?_
  rcases oi hf with ⟨c38, hf⟩ | ⟨c38, hf⟩
  ·refine w_condt rfl c38 <| w_reg <| s_mov (.own 2 0 cells_25.length) rfl <| s_q (.ptr 0 0 1) rfl trivial rfl <| s_do0 (o_storebox (v := (.own 2 0 cells_25.length)) (y' := (.agg [(.int .i64 r_1.Id), (.own 2 0 cells_25.length)])) rfl rfl rfl trivial ⟨rfl, nle⟩ ⟨⟨rfl, trivial⟩, trivial⟩ rfl) <| w_done <| k_seq <| awp_seq <| w_reg <| s_q (.agg [(.int .i64 r_1.Id), (.own 2 0 cells_25.length)]) rfl nle rfl <| s_do0 (o_storebox (v := (.agg [(.int .i64 r_1.Id), (.own 2 0 cells_25.length)])) (y' := (.agg [(.int .i64 r_1.Id), (.own 2 0 cells_25.length)])) rfl rfl rfl trivial ⟨rfl, nle⟩ ⟨⟨rfl, trivial⟩, ⟨⟨rfl, trivial⟩, trivial⟩⟩ rfl) <| w_done <| k_seq <| w_ret <| ?_; obtain rfl := os hf; exact r_fresh ⟨nle, trivial⟩ rfl (by decide) (.agg (.cons (.refl _) (.cons (.of_eq (congrArg (AV.lst _) (tk (enc := (encL 3 encGAtom)) cells_25))) .nil)))
  ·refine w_condf rfl (bf c38) <| w_skip <| k_seq <| awp_seq <| w_reg <| s_q (.agg [(.int .i64 r_1.Id), .nil]) rfl nle rfl <| s_do0 (o_storebox (v := (.agg [(.int .i64 r_1.Id), .nil])) (y' := (.agg [(.int .i64 r_1.Id), .nil])) rfl rfl rfl trivial ⟨rfl, nle⟩ ⟨⟨rfl, trivial⟩, ⟨⟨rfl, trivial⟩, trivial⟩⟩ rfl) <| w_done <| k_seq <| w_ret <| ?_; obtain rfl := os hf; exact r_fresh ⟨nle, trivial⟩ rfl (by decide) (.agg (.cons (.refl _) (.cons (.nil _) .nil)))

/- impl.copyRows -/
def c49 : ACode :=
 (.seq (.reg (tm 2 (.c .nil) .done))
 (.seq (.reg (tq 6 (.bslice 2 []) (tm 3 (.t 6) .done)))
 (.seq (.seq (.reg (tm 7 (.t 0) (tq 8 (.len (.t 7)) (tm 9 (.c (.int .i64 0)) .done))))
 (.block 0 (.loop (.seq (.reg (tq 10 (.bin .lss (.t 9) (.t 8)) .done))
 (.seq (.cond (.t 10) .skip
 (.exit 0))
 (.seq (.block 1 (.seq (.reg (tq 11 (.iaddr 2 (.t 7) (.t 9)) (tq 12 (.load 2 true (.t 11)) (tq 5 (.box 2 (.c (.agg [(.int .i64 0), .nil]))) (.q ⟨none, none, .store 2 (.t 5) (.t 12)⟩
 .done)))))
 (.reg (tm 13 (.t 3) (tq 14 (.load 2 true (.t 5)) (tq 15 (.call 76 [(.t 14)]) (tq 16 (.bslice 2 [(.t 15)]) (tq 17 (.append 2 32 (.t 13) (.t 16)) (tm 3 (.t 17) .done)))))))))
 (.reg (tq 18 (.bin .add (.t 9) (.c (.int .i64 1))) (tm 9 (.t 18) .done)))))))))
 (.cut (.seq (.reg (tm 19 (.t 3) (tm 2 (.t 19) .done)))
 .ret)))))
theorem fc49 : fcomp Try.prog Try.f49 = some (c49.erase, [.mov (.t 2)], 20) := by kernel_rfl
def impl_copyRows_L1  : List GRow → (List GRow) → Option (List GRow)
  | [], out_18 =>
    some out_18
  | x_33 :: xs, out_18 =>
    (impl_copyRow x_33).bind fun r_34 =>
    if (out_18 ++ [r_34]).length ≤ 2 ^ 30 then
    impl_copyRows_L1 xs  (out_18 ++ [r_34])
    else none

def impl_copyRows (rows_1 : (List GRow)) : Option (List GRow) :=
    (impl_copyRows_L1 rows_1 []).bind fun out_25 =>
    some out_25
theorem w_impl_copyRows (rows_1 : (List GRow)) (r : (List GRow)) (hf : impl_copyRows rows_1 = some r) : CallOK Try.prog 49 .fresh [(.lst 2 (rows_1.map encGRow))] (.lst 2 (r.map encGRow)) := by
 refine CallOK.of_awp mixed Try.func49 fc49 nle ?_; rw [argT_eq]; unfold impl_copyRows at hf; unfold c49; refine (show awp Try.prog true 0 _ (ofL [(0, (.lst 2 (rows_1.map encGRow)))]) [] _ from ?_); refine awp_seq <| w_reg <| s_mov .nil rfl <| w_done <| k_seq <| awp_seq <| w_reg <| ?_; refine s_do (o_bslice (j := 0) (as' := []) rfl (fun _ => by decide) trivial (.refl _) rfl rfl rfl) ?_; refine s_mov (.own 0 0 0) rfl <| w_done <| k_seq <| awp_seq <| awp_seq <| w_reg <| s_mov (.lst 2 (rows_1.map encGRow)) rfl <| s_dof (o_len (enc := encGRow) rfl) fun hl2 => s_mov (.int .i64 0) rfl <| w_done <| k_seq <| ?_
 obtain ⟨out_25, hb1, hf⟩ := ob hf
 refine awp_cut ([(3, (.own 0 0 out_25.length))], [.row 2 (out_25.map encGRow)]) ?_ ?_
 ·refine awp_loop (X := {q : (Nat × (List GRow)) // impl_copyRows_L1 (rows_1.drop q.1) q.2 = some out_25}) (fun q => ([(3, (.own 0 0 q.1.2.length)), (7, (.lst 2 (rows_1.map encGRow))), (8, (.int .i64 (rows_1.length : Int))), (9, (.int .i64 (q.1.1 : Int)))], [.row 2 (q.1.2.map encGRow)])) (fun q => rows_1.length - q.1.1) ⟨(0, []), hb1⟩ ⟨[], [0], _, _, rfl, rfl, ⟨.of_eq (congrArg (AV.own _ 0) (by simp)), ⟨.refl _, ⟨.refl _, ⟨.refl _, trivial⟩⟩⟩⟩, (.refl _)⟩ ?_
  rintro ⟨⟨s9_17, out_18⟩, hc1⟩
  have hc1 : impl_copyRows_L1 (rows_1.drop s9_17) out_18 = some out_25 := hc1
  refine (show awp Try.prog true 0 _ (ofL [(3, (.own 0 0 out_18.length)), (7, (.lst 2 (rows_1.map encGRow))), (8, (.int .i64 (rows_1.length : Int))), (9, (.int .i64 (s9_17 : Int)))]) [.row 2 (out_18.map encGRow)] _ from ?_)
  rcases dropc rows_1 s9_17 with ⟨hie29, hd32⟩ | ⟨hlt27, x_33, hx28, hd32⟩
  ·rw [hd32, impl_copyRows_L1.eq_1] at hc1
   have hq31 := dlf hie29
   refine awp_seq <| w_reg <| s_q (.bool (decide ((s9_17 : Int) < (rows_1.length : Int)))) rfl rfl rfl <| w_done <| k_seq <| awp_seq <| w_condf rfl hq31 <| w_exit <| k_seqx <| k_loopx <| k_blkx <| ?_; obtain rfl := os hc1; exact ⟨[], [0], _, _, rfl, rfl, ⟨.refl _, trivial⟩, (.refl _)⟩
  ·rw [hd32, impl_copyRows_L1.eq_2] at hc1
   have hq31 := dlt hlt27
   refine awp_seq <| w_reg <| s_q (.bool (decide ((s9_17 : Int) < (rows_1.length : Int)))) rfl rfl rfl <| w_done <| k_seq <| awp_seq <| w_condt rfl hq31 <| w_skip <| k_seq <| awp_seq <| w_blk <| awp_seq <| w_reg <| s_do (o_iaddrn (enc := encGRow) rfl rfl hx28) <| s_q (encGRow x_33) rfl nle rfl <| s_do (o_box (j := 1) (c := (.agg [(.int .i64 0), .nil])) rfl trivial rfl rfl) <| s_do0 (o_storebox (v := (.agg [(.int .i64 x_33.Id), (.lst 1 (x_33.Cells.map (encL 3 encGAtom)))])) (y' := (.agg [(.int .i64 x_33.Id), (.lst 1 (x_33.Cells.map (encL 3 encGAtom)))])) rfl rfl rfl trivial ⟨rfl, nle⟩ ⟨⟨rfl, trivial⟩, ⟨⟨rfl, trivial⟩, trivial⟩⟩ rfl) <| w_done <| k_seq <| w_reg <| ?_
   obtain ⟨r_34, er35, hc1⟩ := ob hc1
   obtain ⟨g36, hc1⟩ := og hc1
   refine s_mov (.own 0 0 out_18.length) rfl <| s_q (.agg [(.int .i64 x_33.Id), (.lst 1 (x_33.Cells.map (encL 3 encGAtom)))]) rfl nle rfl <| s_do (o_callf (v := (.agg [(.int .i64 r_34.Id), (.own 2 0 r_34.Cells.length)])) (h' := [.row 1 (r_34.Cells.map (encL 3 encGAtom))]) (w_impl_copyRow _ _ er35) rfl (.refl _) (by simp only [openV, openVs, List.length_map, encGRow_eq, List.nil_append, List.append_nil, List.cons_append]; rfl)) <| ?_; refine s_do (o_bslice (j := 3) (as' := [(encGRow r_34)]) rfl (fun _ => by decide) ⟨rfl, trivial⟩ (.cons (.agg (.cons (.refl _) (.cons (.of_eq (congrArg (AV.lst _) (tk (enc := (encL 3 encGAtom)) r_34.Cells))) .nil))) .nil) rfl rfl rfl) ?_
   refine s_do (o_appendd (j := 4) (L := ((out_18 ++ [r_34]).map encGRow)) (len := (out_18 ++ [r_34]).length) rfl true rfl rfl (fun h => Bool.noConfusion h) (fun _ _ h => (ownl (show AV.own _ _ _ = AV.lst _ _ from h)).elim) (by decide) (apoc (enc := encGRow) out_18 [r_34] _ (by rfl)) (by simp <;> omega) g36 rfl rfl) ?_
   refine s_mov (.own 4 0 ((out_18 ++ [r_34]).length)) rfl <| w_done <| k_blk <| k_seq <| w_reg <| s_q (.int .i64 (w64 ((s9_17 : Int) + 1))) rfl rfl rfl <| s_mov (.int .i64 (w64 ((s9_17 : Int) + 1))) rfl <| w_done <| ?_; exact k_loopn ⟨((s9_17 + 1), out_18 ++ [r_34]), hc1⟩ (mul hlt27) ⟨[], [4], _, _, rfl, rfl, ⟨.refl _, ⟨.refl _, ⟨.refl _, ⟨.of_eq (congrArg (AV.int _) (w64_incr hlt27 hl2)), trivial⟩⟩⟩⟩, (.refl _)⟩
 ·refine awp_seq <| w_reg <| s_mov (.own 0 0 out_25.length) rfl <| s_mov (.own 0 0 out_25.length) rfl <| w_done <| k_seq <| w_ret <| ?_; obtain rfl := os hf; exact r_fresh ⟨trivial, trivial⟩ rfl (by decide) (.of_eq (congrArg (AV.lst _) (tk (enc := encGRow) out_25)))

/- impl.kindOf -/
def c77 : ACode :=
 (.seq (.reg (tq 4 (.box 2 (.t 1)) (tq 5 (.box 2 (.t 2)) (tm 6 (.c (.int .i64 0)) .done))))
 (.seq (.block 0 (.seq (.reg (tm 8 (.t 0) (tq 9 (.bin .lss (.t 8) (.c (.int .i64 1))) (tm 7 (.t 9) .done))))
 (.cond (.t 7) (.seq (.reg (tm 6 (.c (.int .i64 0)) .done))
 .ret)
 (.seq (.reg (tq 11 (.faddr 0 (.t 4)) (tq 12 (.load 1 false (.t 11)) (tq 13 (.bin .eql (.t 12) (.c (.int .i64 0))) (tm 14 (.t 13) (tg 15 14 true (.faddr 0 (.t 5)) (tg 16 14 true (.load 1 false (.t 15)) (tg 17 14 true (.mov (.t 0)) (tg 18 14 true (.bin .eql (.t 16) (.t 17)) (tq 19 (.pick (.t 14) (.t 18) (.c (.bool false))) (tm 10 (.t 19) .done)))))))))))
 (.cut (.cond (.t 10) (.seq (.reg (tm 6 (.c (.int .i64 1)) .done))
 .ret)
 (.seq (.reg (tq 21 (.faddr 0 (.t 4)) (tq 22 (.load 1 false (.t 21)) (tm 23 (.t 0) (tq 24 (.bin .eql (.t 22) (.t 23)) (tm 25 (.t 24) (tg 26 25 true (.faddr 0 (.t 5)) (tg 27 25 true (.load 1 false (.t 26)) (tg 28 25 true (.bin .eql (.t 27) (.c (.int .i64 0))) (tq 29 (.pick (.t 25) (.t 28) (.c (.bool false))) (tm 20 (.t 29) .done)))))))))))
 (.cut (.cond (.t 20) (.seq (.reg (tm 6 (.c (.int .i64 2)) .done))
 .ret)
 (.seq (.reg (tq 31 (.faddr 0 (.t 4)) (tq 32 (.load 1 false (.t 31)) (tm 33 (.t 0) (tq 34 (.bin .eql (.t 32) (.t 33)) (tm 35 (.t 34) (tg 36 35 true (.faddr 0 (.t 5)) (tg 37 35 true (.load 1 false (.t 36)) (tg 38 35 true (.mov (.t 0)) (tg 39 35 true (.bin .eql (.t 37) (.t 38)) (tq 40 (.pick (.t 35) (.t 39) (.c (.bool false))) (tm 30 (.t 40) .done))))))))))))
 (.cut (.cond (.t 30) (.seq (.reg (tm 6 (.c (.int .i64 3)) .done))
 .ret)
 .skip))))))))))))
 (.seq (.reg (tm 6 (.c (.int .i64 0)) .done))
 .ret)))
theorem fc77 : fcomp Try.prog Try.f77 = some (c77.erase, [.mov (.t 6)], 41) := by kernel_rfl
def impl_kindOf (id_1 : Int) (old_2 : GRow) (now_3 : GRow) : Option Int :=
    if (decide (id_1 < 1)) then
    some 0
    else
    ((if (old_2.Id == 0) then
    some (now_3.Id == id_1)
    else
    some false : Option Bool)).bind fun s10_6 =>
    if s10_6 then
    some 1
    else
    ((if (old_2.Id == id_1) then
    some (now_3.Id == 0)
    else
    some false : Option Bool)).bind fun s20_11 =>
    if s20_11 then
    some 2
    else
    ((if (old_2.Id == id_1) then
    some (now_3.Id == id_1)
    else
    some false : Option Bool)).bind fun s30_16 =>
    if s30_16 then
    some 3
    else
    some 0
theorem w_impl_kindOf (id_1 : Int) (old_2 : GRow) (now_3 : GRow) (r : Int) (hf : impl_kindOf id_1 old_2 now_3 = some r) : CallOK Try.prog 77 .flat [(.int .i64 id_1), (encGRow old_2), (encGRow now_3)] (.int .i64 r) := by
 refine CallOK.of_awp mixed Try.func77 fc77 nle ?_; rw [argT_eq]; unfold impl_kindOf at hf; unfold c77; refine (show awp Try.prog false 0 _ (ofL [(0, (.int .i64 id_1)), (1, (encGRow old_2)), (2, (encGRow now_3))]) [] _ from ?_); refine awp_seq <| w_reg <| s_do (o_box (j := 0) (c := (.agg [(.int .i64 old_2.Id), (.lst 1 (old_2.Cells.map (encL 3 encGAtom)))])) rfl trivial rfl rfl) <| s_do (o_box (j := 1) (c := (.agg [(.int .i64 now_3.Id), (.lst 1 (now_3.Cells.map (encL 3 encGAtom)))])) rfl trivial rfl rfl) <| s_mov (.int .i64 0) rfl <| w_done <| k_seq <| awp_seq <| w_blk <| awp_seq <| w_reg <| s_mov (.int .i64 id_1) rfl <| s_q (.bool (decide (id_1 < 1))) rfl rfl rfl <| s_mov (.bool (decide (id_1 < 1))) rfl <| w_done <| k_seq <| ?_
 rcases oi hf with ⟨c4, hf⟩ | ⟨c4, hf⟩
 ·refine w_condt rfl c4 <| awp_seq <| w_reg <| s_mov (.int .i64 0) rfl <| w_done <| k_seq <| w_ret <| ?_; obtain rfl := os hf; exact r_flat ⟨trivial, trivial⟩ rfl (.refl _)
 ·refine w_condf rfl (bf c4) <| awp_seq <| ?_
  obtain ⟨s10_6, hb1, hf⟩ := ob hf
  refine awp_cut ([(0, (.int .i64 id_1)), (4, (.ptr 0 0 0)), (5, (.ptr 1 0 0)), (10, (.bool s10_6))], [.box 2 (.agg [(.int .i64 old_2.Id), (.lst 1 (old_2.Cells.map (encL 3 encGAtom)))]), .box 2 (.agg [(.int .i64 now_3.Id), (.lst 1 (now_3.Cells.map (encL 3 encGAtom)))])]) ?_ ?_
  ·refine w_reg ?_
   rcases oi hb1 with ⟨c8, hb1⟩ | ⟨c8, hb1⟩
   ·refine s_q (.ptr 0 0 0) rfl trivial rfl <| s_q (.int .i64 old_2.Id) rfl nle rfl <| s_q (.bool (old_2.Id == 0)) rfl rfl rfl <| s_mov (.bool (old_2.Id == 0)) rfl <| s_lit (s := 14) (b := true) rfl c8 <| s_on rfl <| s_q (.ptr 1 0 0) rfl trivial rfl <| s_on rfl <| s_q (.int .i64 now_3.Id) rfl nle rfl <| s_on rfl <| s_mov (.int .i64 id_1) rfl <| s_on rfl <| s_q (.bool (now_3.Id == id_1)) rfl rfl rfl <| s_q (.bool (now_3.Id == id_1)) rfl trivial rfl <| s_mov (.bool (now_3.Id == id_1)) rfl <| w_done <| ?_; obtain rfl := os hb1; exact ⟨[], [0, 1], _, _, rfl, rfl, ⟨.refl _, ⟨.refl _, ⟨.refl _, ⟨.refl _, trivial⟩⟩⟩⟩, (.refl _)⟩
   ·refine s_q (.ptr 0 0 0) rfl trivial rfl <| s_q (.int .i64 old_2.Id) rfl nle rfl <| s_q (.bool (old_2.Id == 0)) rfl rfl rfl <| s_mov (.bool (old_2.Id == 0)) rfl <| s_lit (s := 14) (b := false) rfl (bf c8) <| s_off rfl rfl <| s_off rfl rfl <| s_off rfl rfl <| s_off rfl rfl <| s_q (.bool false) rfl trivial rfl <| s_mov (.bool false) rfl <| w_done <| ?_; obtain rfl := os hb1; exact ⟨[], [0, 1], _, _, rfl, rfl, ⟨.refl _, ⟨.refl _, ⟨.refl _, ⟨.refl _, trivial⟩⟩⟩⟩, (.refl _)⟩
  ·rcases oi hf with ⟨c9, hf⟩ | ⟨c9, hf⟩
   ·refine w_condt rfl c9 <| awp_seq <| w_reg <| s_mov (.int .i64 1) rfl <| w_done <| k_seq <| w_ret <| ?_; obtain rfl := os hf; exact r_flat ⟨trivial, trivial⟩ rfl (.refl _)
   ·refine w_condf rfl (bf c9) <| awp_seq <| ?_
    obtain ⟨s20_11, hb1, hf⟩ := ob hf
    refine awp_cut ([(0, (.int .i64 id_1)), (4, (.ptr 0 0 0)), (5, (.ptr 1 0 0)), (20, (.bool s20_11))], [.box 2 (.agg [(.int .i64 old_2.Id), (.lst 1 (old_2.Cells.map (encL 3 encGAtom)))]), .box 2 (.agg [(.int .i64 now_3.Id), (.lst 1 (now_3.Cells.map (encL 3 encGAtom)))])]) ?_ ?_
    ·refine w_reg ?_
     rcases oi hb1 with ⟨c13, hb1⟩ | ⟨c13, hb1⟩
     ·refine s_q (.ptr 0 0 0) rfl trivial rfl <| s_q (.int .i64 old_2.Id) rfl nle rfl <| s_mov (.int .i64 id_1) rfl <| s_q (.bool (old_2.Id == id_1)) rfl rfl rfl <| s_mov (.bool (old_2.Id == id_1)) rfl <| s_lit (s := 25) (b := true) rfl c13 <| s_on rfl <| s_q (.ptr 1 0 0) rfl trivial rfl <| s_on rfl <| s_q (.int .i64 now_3.Id) rfl nle rfl <| s_on rfl <| s_q (.bool (now_3.Id == 0)) rfl rfl rfl <| s_q (.bool (now_3.Id == 0)) rfl trivial rfl <| s_mov (.bool (now_3.Id == 0)) rfl <| w_done <| ?_; obtain rfl := os hb1; exact ⟨[], [0, 1], _, _, rfl, rfl, ⟨.refl _, ⟨.refl _, ⟨.refl _, ⟨.refl _, trivial⟩⟩⟩⟩, (.refl _)⟩
     ·refine s_q (.ptr 0 0 0) rfl trivial rfl <| s_q (.int .i64 old_2.Id) rfl nle rfl <| s_mov (.int .i64 id_1) rfl <| s_q (.bool (old_2.Id == id_1)) rfl rfl rfl <| s_mov (.bool (old_2.Id == id_1)) rfl <| s_lit (s := 25) (b := false) rfl (bf c13) <| s_off rfl rfl <| s_off rfl rfl <| s_off rfl rfl <| s_q (.bool false) rfl trivial rfl <| s_mov (.bool false) rfl <| w_done <| ?_; obtain rfl := os hb1; exact ⟨[], [0, 1], _, _, rfl, rfl, ⟨.refl _, ⟨.refl _, ⟨.refl _, ⟨.refl _, trivial⟩⟩⟩⟩, (.refl _)⟩
    ·rcases oi hf with ⟨c14, hf⟩ | ⟨c14, hf⟩
     ·refine w_condt rfl c14 <| awp_seq <| w_reg <| s_mov (.int .i64 2) rfl <| w_done <| k_seq <| w_ret <| ?_; obtain rfl := os hf; exact r_flat ⟨trivial, trivial⟩ rfl (.refl _)
     ·refine w_condf rfl (bf c14) <| awp_seq <| ?_
      obtain ⟨s30_16, hb1, hf⟩ := ob hf
      refine awp_cut ([(30, (.bool s30_16))], []) ?_ ?_
      ·refine w_reg ?_
       rcases oi hb1 with ⟨c18, hb1⟩ | ⟨c18, hb1⟩
       ·refine s_q (.ptr 0 0 0) rfl trivial rfl <| s_q (.int .i64 old_2.Id) rfl nle rfl <| s_mov (.int .i64 id_1) rfl <| s_q (.bool (old_2.Id == id_1)) rfl rfl rfl <| s_mov (.bool (old_2.Id == id_1)) rfl <| s_lit (s := 35) (b := true) rfl c18 <| s_on rfl <| s_q (.ptr 1 0 0) rfl trivial rfl <| s_on rfl <| s_q (.int .i64 now_3.Id) rfl nle rfl <| s_on rfl <| s_mov (.int .i64 id_1) rfl <| s_on rfl <| s_q (.bool (now_3.Id == id_1)) rfl rfl rfl <| s_q (.bool (now_3.Id == id_1)) rfl trivial rfl <| s_mov (.bool (now_3.Id == id_1)) rfl <| w_done <| ?_; obtain rfl := os hb1; exact ⟨[], [], _, _, rfl, rfl, ⟨.refl _, trivial⟩, (.refl _)⟩
       ·refine s_q (.ptr 0 0 0) rfl trivial rfl <| s_q (.int .i64 old_2.Id) rfl nle rfl <| s_mov (.int .i64 id_1) rfl <| s_q (.bool (old_2.Id == id_1)) rfl rfl rfl <| s_mov (.bool (old_2.Id == id_1)) rfl <| s_lit (s := 35) (b := false) rfl (bf c18) <| s_off rfl rfl <| s_off rfl rfl <| s_off rfl rfl <| s_off rfl rfl <| s_q (.bool false) rfl trivial rfl <| s_mov (.bool false) rfl <| w_done <| ?_; obtain rfl := os hb1; exact ⟨[], [], _, _, rfl, rfl, ⟨.refl _, trivial⟩, (.refl _)⟩
      ·rcases oi hf with ⟨c19, hf⟩ | ⟨c19, hf⟩
       ·refine w_condt rfl c19 <| awp_seq <| w_reg <| s_mov (.int .i64 3) rfl <| w_done <| k_seq <| w_ret <| ?_; obtain rfl := os hf; exact r_flat ⟨trivial, trivial⟩ rfl (.refl _)
       ·refine w_condf rfl (bf c19) <| w_skip <| k_blk <| k_seq <| awp_seq <| w_reg <| s_mov (.int .i64 0) rfl <| w_done <| k_seq <| w_ret <| ?_; obtain rfl := os hf; exact r_flat ⟨trivial, trivial⟩ rfl (.refl _)

/- slices.BinarySearchFunc[[]impl.Row,impl.Row,int] -/
def c112 : ACode :=
 (.seq (.reg (tm 6 (.c (.int .i64 0)) (tm 7 (.c (.bool false)) .done)))
 (.seq (.reg (tm 12 (.t 0) (tq 13 (.len (.t 12)) (tm 8 (.t 13) .done))))
 (.seq (.reg (tm 14 (.t 8) (tm 9 (.c (.int .i64 0)) (tm 10 (.t 14) .done))))
 (.seq (.block 0 (.loop (.seq (.seq (.reg (tm 15 (.t 9) (tm 16 (.t 10) (tq 17 (.bin .lss (.t 15) (.t 16)) .done))))
 (.cond (.t 17) .skip
 (.exit 0)))
 (.block 1 (.seq (.reg (tm 18 (.t 9) (tm 19 (.t 10) (tq 20 (.bin .add (.t 18) (.t 19)) (tq 21 (.convI .u64 (.t 20)) (tq 22 (.bin .shr (.t 21) (.c (.int .u64 1))) (tq 23 (.convI .i64 (.t 22)) (tm 11 (.t 23) .done))))))))
 (.seq (.reg (tm 24 (.t 2) (tm 25 (.t 0) (tm 26 (.t 11) (tq 27 (.iaddr 2 (.t 25) (.t 26)) (tq 28 (.load 2 true (.t 27)) (tm 29 (.t 1) (tq 30 (.calv (.t 24) [(.t 28), (.t 29)]) (tq 31 (.bin .lss (.t 30) (.c (.int .i64 0))) .done)))))))))
 (.cond (.t 31) (.reg (tm 32 (.t 11) (tq 33 (.bin .add (.t 32) (.c (.int .i64 1))) (tm 9 (.t 33) .done))))
 (.reg (tm 34 (.t 11) (tm 10 (.t 34) .done))))))))))
 (.cut (.seq (.reg (tm 35 (.t 9) (tm 36 (.t 9) (tm 37 (.t 8) (tq 38 (.bin .lss (.t 36) (.t 37)) (tm 39 (.t 38) (tg 40 39 true (.mov (.t 2)) (tg 41 39 true (.mov (.t 0)) (tg 42 39 true (.mov (.t 9)) (tg 43 39 true (.iaddr 2 (.t 41) (.t 42)) (tg 44 39 true (.load 2 true (.t 43)) (tg 45 39 true (.mov (.t 1)) (tg 46 39 true (.calv (.t 40) [(.t 44), (.t 45)]) (tg 47 39 true (.bin .eql (.t 46) (.c (.int .i64 0))) (tq 48 (.pick (.t 39) (.t 47) (.c (.bool false))) (tm 6 (.t 35) (tm 7 (.t 48) .done)))))))))))))))))
 .ret))))))
theorem fc112 : fcomp Try.prog Try.f112 = some (c112.erase, [.mov (.t 6), .mov (.t 7)], 49) := by kernel_rfl
def slices_BinarySearchFunc_impl_Row_impl_Row_int_L1 (x_1 : (List GRow)) (cmp_3 : (GRow → Int → Option Int)) (target_2 : Int) : Nat → Int → Int → Option Int
  | 0, _, _ => none
  | k + 1, i_41, j_42 =>
    if (decide (i_41 < j_42)) then
    (idx x_1 (w64 (Int.fdiv (IntKind.u64.wrap (w64 (i_41 + j_42))) (2 ^ (min (Int.toNat 1) (IntKind.bits .u64)))))).bind fun x_52 =>
    (cmp_3 x_52 target_2).bind fun r_54 =>
    if (decide (r_54 < 0)) then
    slices_BinarySearchFunc_impl_Row_impl_Row_int_L1 x_1 cmp_3 target_2 k (w64 ((w64 (Int.fdiv (IntKind.u64.wrap (w64 (i_41 + j_42))) (2 ^ (min (Int.toNat 1) (IntKind.bits .u64))))) + 1)) j_42
    else
    slices_BinarySearchFunc_impl_Row_impl_Row_int_L1 x_1 cmp_3 target_2 k i_41 (w64 (Int.fdiv (IntKind.u64.wrap (w64 (i_41 + j_42))) (2 ^ (min (Int.toNat 1) (IntKind.bits .u64)))))
    else
    some i_41

def slices_BinarySearchFunc_impl_Row_impl_Row_int (x_1 : (List GRow)) (target_2 : Int) (cmp_3 : (GRow → Int → Option Int)) : Option (Int × Bool) :=
    (slices_BinarySearchFunc_impl_Row_impl_Row_int_L1 x_1 cmp_3 target_2 FUEL 0 (x_1.length : Int)).bind fun i_49 =>
    if (decide (i_49 < (x_1.length : Int))) then
    (idx x_1 i_49).bind fun x_58 =>
    (cmp_3 x_58 target_2).bind fun r_60 =>
    some (i_49, (r_60 == 0))
    else
    some (i_49, false)
theorem w_slices_BinarySearchFunc_impl_Row_impl_Row_int (x_1 : (List GRow)) (target_2 : Int) (cmp_3 : (GRow → Int → Option Int)) (r : (Int × Bool)) (hf : slices_BinarySearchFunc_impl_Row_impl_Row_int x_1 target_2 cmp_3 = some r) (kf_cmp_3 : Nat) (cf_cmp_3 : List AV) (okf_cmp_3 : okFn Try.prog kf_cmp_3 = true) (hcf_cmp_3 : ∀ h p, closeWs h p cf_cmp_3 = some cf_cmp_3) (hrf_cmp_3 : ∀ f, rens f cf_cmp_3 = cf_cmp_3) (hpf_cmp_3 : ∀ a0 a1 r, cmp_3 a0 a1 = some r → CallOK Try.prog kf_cmp_3 .flat ([(encGRow a0), (.int .i64 a1)] ++ cf_cmp_3) (.int .i64 r)) : CallOK Try.prog 112 .flat [(.lst 2 (x_1.map encGRow)), (.int .i64 target_2), (.fn kf_cmp_3 cf_cmp_3)] (.tup [(.int .i64 r.1), (.bool r.2)]) := by
 refine CallOK.of_awp mixed Try.func112 fc112 nle ?_; rw [argT_eq]; unfold slices_BinarySearchFunc_impl_Row_impl_Row_int at hf; unfold c112; refine (show awp Try.prog false 0 _ (ofL [(0, (.lst 2 (x_1.map encGRow))), (1, (.int .i64 target_2)), (2, (.fn kf_cmp_3 cf_cmp_3))]) [] _ from ?_); refine awp_seq <| w_reg <| s_mov (.int .i64 0) rfl <| s_mov (.bool false) rfl <| w_done <| k_seq <| awp_seq <| w_reg <| s_mov (.lst 2 (x_1.map encGRow)) rfl <| s_dof (o_len (enc := encGRow) rfl) fun hl4 => s_mov (.int .i64 (x_1.length : Int)) rfl <| w_done <| k_seq <| awp_seq <| w_reg <| s_mov (.int .i64 (x_1.length : Int)) rfl <| s_mov (.int .i64 0) rfl <| s_mov (.int .i64 (x_1.length : Int)) rfl <| w_done <| k_seq <| awp_seq <| ?_
 obtain ⟨i_49, hb1, hf⟩ := ob hf
 refine awp_cut ([(0, (.lst 2 (x_1.map encGRow))), (1, (.int .i64 target_2)), (2, (.fn kf_cmp_3 cf_cmp_3)), (8, (.int .i64 (x_1.length : Int))), (9, (.int .i64 i_49))], []) ?_ ?_
 ·refine awp_loop (X := {q : (Nat × Int × Int) // slices_BinarySearchFunc_impl_Row_impl_Row_int_L1 x_1 cmp_3 target_2 q.1 q.2.1 q.2.2 = some i_49}) (fun q => ([(0, (.lst 2 (x_1.map encGRow))), (1, (.int .i64 target_2)), (2, (.fn kf_cmp_3 cf_cmp_3)), (8, (.int .i64 (x_1.length : Int))), (9, (.int .i64 q.1.2.1)), (10, (.int .i64 q.1.2.2))], [])) (fun q => q.1.1) ⟨(FUEL, 0, (x_1.length : Int)), hb1⟩ ⟨[], [], _, _, rfl, rfl, ⟨.refl _, ⟨.refl _, ⟨.of_eq (congrArg (AV.fn _) (hrf_cmp_3 _)), ⟨.refl _, ⟨.refl _, ⟨.refl _, trivial⟩⟩⟩⟩⟩⟩, (.refl _)⟩ ?_
  rintro ⟨⟨k, i_41, j_42⟩, hc1⟩
  have hc1 : slices_BinarySearchFunc_impl_Row_impl_Row_int_L1 x_1 cmp_3 target_2 k i_41 j_42 = some i_49 := hc1
  refine (show awp Try.prog false 0 _ (ofL [(0, (.lst 2 (x_1.map encGRow))), (1, (.int .i64 target_2)), (2, (.fn kf_cmp_3 cf_cmp_3)), (8, (.int .i64 (x_1.length : Int))), (9, (.int .i64 i_41)), (10, (.int .i64 j_42))]) [] _ from ?_)
  rcases k with _ | k
  ·rw [slices_BinarySearchFunc_impl_Row_impl_Row_int_L1.eq_1] at hc1
   cases hc1
  ·rw [slices_BinarySearchFunc_impl_Row_impl_Row_int_L1.eq_2] at hc1; refine awp_seq <| awp_seq <| w_reg <| s_mov (.int .i64 i_41) rfl <| s_mov (.int .i64 j_42) rfl <| s_q (.bool (decide (i_41 < j_42))) rfl rfl rfl <| w_done <| k_seq <| ?_
   rcases oi hc1 with ⟨c51, hc1⟩ | ⟨c51, hc1⟩
   ·refine w_condt rfl c51 <| w_skip <| k_seq <| w_blk <| awp_seq <| w_reg <| s_mov (.int .i64 i_41) rfl <| s_mov (.int .i64 j_42) rfl <| s_q (.int .i64 (w64 (i_41 + j_42))) rfl rfl rfl <| s_q (.int .u64 (IntKind.u64.wrap (w64 (i_41 + j_42)))) rfl trivial rfl <| ?_; refine s_do (o_q (.int .u64 (Int.fdiv (IntKind.u64.wrap (w64 (i_41 + j_42))) (2 ^ (min (Int.toNat 1) (IntKind.bits .u64))))) rfl (show (0:Int) ≤ 1 by decide) rfl) ?_; refine s_q (.int .i64 (w64 (Int.fdiv (IntKind.u64.wrap (w64 (i_41 + j_42))) (2 ^ (min (Int.toNat 1) (IntKind.bits .u64)))))) rfl trivial rfl <| s_mov (.int .i64 (w64 (Int.fdiv (IntKind.u64.wrap (w64 (i_41 + j_42))) (2 ^ (min (Int.toNat 1) (IntKind.bits .u64)))))) rfl <| w_done <| k_seq <| awp_seq <| ?_
    refine w_reg ?_
    obtain ⟨x_52, ex53, hc1⟩ := ob hc1
    obtain ⟨r_54, er55, hc1⟩ := ob hc1
    refine s_mov (.fn kf_cmp_3 cf_cmp_3) rfl <| s_mov (.lst 2 (x_1.map encGRow)) rfl <| s_mov (.int .i64 (w64 (Int.fdiv (IntKind.u64.wrap (w64 (i_41 + j_42))) (2 ^ (min (Int.toNat 1) (IntKind.bits .u64)))))) rfl <| s_do (o_iaddr (enc := encGRow) rfl rfl (idx0 ex53) (idx1 ex53)) <| s_q (encGRow x_52) rfl nle rfl <| s_mov (.int .i64 target_2) rfl <| s_do (o_calvp (v := (.int .i64 r_54)) rfl okf_cmp_3 hcf_cmp_3 (hpf_cmp_3 _ _ _ er55) rfl (.refl _) rfl) <| s_q (.bool (decide (r_54 < 0))) rfl rfl rfl <| w_done <| k_seq <| ?_
    rcases oi hc1 with ⟨c56, hc1⟩ | ⟨c56, hc1⟩
    ·refine w_condt rfl c56 <| w_reg <| s_mov (.int .i64 (w64 (Int.fdiv (IntKind.u64.wrap (w64 (i_41 + j_42))) (2 ^ (min (Int.toNat 1) (IntKind.bits .u64)))))) rfl <| s_q (.int .i64 (w64 ((w64 (Int.fdiv (IntKind.u64.wrap (w64 (i_41 + j_42))) (2 ^ (min (Int.toNat 1) (IntKind.bits .u64))))) + 1))) rfl rfl rfl <| s_mov (.int .i64 (w64 ((w64 (Int.fdiv (IntKind.u64.wrap (w64 (i_41 + j_42))) (2 ^ (min (Int.toNat 1) (IntKind.bits .u64))))) + 1))) rfl <| w_done <| k_blk <| ?_; exact k_loopn ⟨(k, w64 ((w64 (Int.fdiv (IntKind.u64.wrap (w64 (i_41 + j_42))) (2 ^ (min (Int.toNat 1) (IntKind.bits .u64))))) + 1), j_42), hc1⟩ (Nat.lt_succ_self _) ⟨[], [], _, _, rfl, rfl, ⟨.refl _, ⟨.refl _, ⟨.of_eq (congrArg (AV.fn _) (hrf_cmp_3 _)), ⟨.refl _, ⟨.refl _, ⟨.refl _, trivial⟩⟩⟩⟩⟩⟩, (.refl _)⟩
    ·refine w_condf rfl (bf c56) <| w_reg <| s_mov (.int .i64 (w64 (Int.fdiv (IntKind.u64.wrap (w64 (i_41 + j_42))) (2 ^ (min (Int.toNat 1) (IntKind.bits .u64)))))) rfl <| s_mov (.int .i64 (w64 (Int.fdiv (IntKind.u64.wrap (w64 (i_41 + j_42))) (2 ^ (min (Int.toNat 1) (IntKind.bits .u64)))))) rfl <| w_done <| k_blk <| ?_; exact k_loopn ⟨(k, i_41, w64 (Int.fdiv (IntKind.u64.wrap (w64 (i_41 + j_42))) (2 ^ (min (Int.toNat 1) (IntKind.bits .u64))))), hc1⟩ (Nat.lt_succ_self _) ⟨[], [], _, _, rfl, rfl, ⟨.refl _, ⟨.refl _, ⟨.of_eq (congrArg (AV.fn _) (hrf_cmp_3 _)), ⟨.refl _, ⟨.refl _, ⟨.refl _, trivial⟩⟩⟩⟩⟩⟩, (.refl _)⟩
   ·refine w_condf rfl (bf c51) <| w_exit <| k_seqx <| k_loopx <| k_blkx <| ?_; obtain rfl := os hc1; exact ⟨[], [], _, _, rfl, rfl, ⟨.refl _, ⟨.refl _, ⟨.of_eq (congrArg (AV.fn _) (hrf_cmp_3 _)), ⟨.refl _, ⟨.refl _, trivial⟩⟩⟩⟩⟩, (.refl _)⟩
 ·refine awp_seq <| w_reg <| s_mov (.int .i64 i_49) rfl <| s_mov (.int .i64 i_49) rfl <| s_mov (.int .i64 (x_1.length : Int)) rfl <| s_q (.bool (decide (i_49 < (x_1.length : Int)))) rfl rfl rfl <| s_mov (.bool (decide (i_49 < (x_1.length : Int)))) rfl <| ?_
  rcases oi hf with ⟨c57, hf⟩ | ⟨c57, hf⟩
  ·refine s_lit (s := 39) (b := true) rfl c57 <| s_on rfl <| s_mov (.fn kf_cmp_3 cf_cmp_3) rfl <| s_on rfl <| s_mov (.lst 2 (x_1.map encGRow)) rfl <| s_on rfl <| s_mov (.int .i64 i_49) rfl <| s_on rfl <| ?_
   obtain ⟨x_58, ex59, hf⟩ := ob hf
   refine s_do (o_iaddr (enc := encGRow) rfl rfl (idx0 ex59) (idx1 ex59)) <| s_on rfl <| s_q (encGRow x_58) rfl nle rfl <| s_on rfl <| s_mov (.int .i64 target_2) rfl <| s_on rfl <| ?_
   obtain ⟨r_60, er61, hf⟩ := ob hf
   refine s_do (o_calvp (v := (.int .i64 r_60)) rfl okf_cmp_3 hcf_cmp_3 (hpf_cmp_3 _ _ _ er61) rfl (.refl _) rfl) <| s_on rfl <| s_q (.bool (r_60 == 0)) rfl rfl rfl <| s_q (.bool (r_60 == 0)) rfl trivial rfl <| s_mov (.int .i64 i_49) rfl <| s_mov (.bool (r_60 == 0)) rfl <| w_done <| k_seq <| w_ret <| ?_; obtain rfl := os hf; exact r_flat ⟨trivial, ⟨trivial, trivial⟩⟩ rfl (.refl _)
  ·refine s_lit (s := 39) (b := false) rfl (bf c57) <| s_off rfl rfl <| s_off rfl rfl <| s_off rfl rfl <| s_off rfl rfl <| s_off rfl rfl <| s_off rfl rfl <| s_off rfl rfl <| s_off rfl rfl <| s_q (.bool false) rfl trivial rfl <| s_mov (.int .i64 i_49) rfl <| s_mov (.bool false) rfl <| w_done <| k_seq <| w_ret <| ?_; obtain rfl := os hf; exact r_flat ⟨trivial, ⟨trivial, trivial⟩⟩ rfl (.refl _)

/- cmp.isNaN[int] -/
def c130 : ACode :=
 (.seq (.reg (tm 2 (.c (.bool false)) .done))
 (.seq (.reg (tm 3 (.t 0) (tm 4 (.t 0) (tq 5 (.bin .neq (.t 3) (.t 4)) (tm 2 (.t 5) .done)))))
 .ret))
theorem fc130 : fcomp Try.prog Try.f130 = some (c130.erase, [.mov (.t 2)], 6) := by kernel_rfl
def cmp_isNaN_int (x_1 : Int) : Option Bool :=
    some (x_1 != x_1)
theorem w_cmp_isNaN_int (x_1 : Int) (r : Bool) (hf : cmp_isNaN_int x_1 = some r) : CallOK Try.prog 130 .flat [(.int .i64 x_1)] (.bool r) := by
  refine CallOK.of_awp mixed Try.func130 fc130 nle ?_
  rw [argT_eq]
  unfold cmp_isNaN_int at hf
  unfold c130
  refine (show awp Try.prog false 0 _ (ofL [(0, (.int .i64 x_1))]) [] _ from ?_)
  refine awp_seq ?_
  refine w_reg ?_
  refine s_do (o_mov (.bool false) rfl) ?_
  refine w_done ?_
  refine k_seq ?_
  refine awp_seq ?_
  refine w_reg ?_
  refine s_do (o_mov (.int .i64 x_1) rfl) ?_
  refine s_do (o_mov (.int .i64 x_1) rfl) ?_
  refine s_do (o_q (.bool (x_1 != x_1)) rfl rfl rfl) ?_
  refine s_do (o_mov (.bool (x_1 != x_1)) rfl) ?_
  refine w_done ?_
  refine k_seq ?_
  refine w_ret ?_
  obtain rfl := os hf
  exact r_flat ⟨trivial, trivial⟩ rfl (.refl _)

/- cmp.Compare[int] -/
def c114 : ACode :=
 (.seq (.reg (tm 4 (.c (.int .i64 0)) .done))
 (.seq (.reg (tm 7 (.t 0) (tq 8 (.call 130 [(.t 7)]) (tm 5 (.t 8) .done))))
 (.seq (.reg (tm 9 (.t 1) (tq 10 (.call 130 [(.t 9)]) (tm 6 (.t 10) .done))))
 (.seq (.seq (.reg (tm 11 (.t 5) .done))
 (.cond (.t 11) (.seq (.seq (.reg (tm 12 (.t 6) .done))
 (.cond (.t 12) (.seq (.reg (tm 4 (.c (.int .i64 0)) .done))
 .ret)
 .skip))
 (.seq (.reg (tq 4 (.mov (.c (.int .i64 (-1)))) .done))
 .ret))
 .skip))
 (.seq (.seq (.reg (tm 13 (.t 6) .done))
 (.cond (.t 13) (.seq (.reg (tm 4 (.c (.int .i64 1)) .done))
 .ret)
 .skip))
 (.seq (.seq (.reg (tm 14 (.t 0) (tm 15 (.t 1) (tq 16 (.bin .lss (.t 14) (.t 15)) .done))))
 (.cond (.t 16) (.seq (.reg (tq 4 (.mov (.c (.int .i64 (-1)))) .done))
 .ret)
 .skip))
 (.seq (.seq (.reg (tm 17 (.t 0) (tm 18 (.t 1) (tq 19 (.bin .gtr (.t 17) (.t 18)) .done))))
 (.cond (.t 19) (.seq (.reg (tm 4 (.c (.int .i64 1)) .done))
 .ret)
 .skip))
 (.seq (.reg (tm 4 (.c (.int .i64 0)) .done))
 .ret))))))))
theorem fc114 : fcomp Try.prog Try.f114 = some (c114.erase, [.mov (.t 4)], 20) := by kernel_rfl
def cmp_Compare_int (x_1 : Int) (y_2 : Int) : Option Int :=
    (cmp_isNaN_int x_1).bind fun r_3 =>
    (cmp_isNaN_int y_2).bind fun r_5 =>
    if r_3 then
    if r_5 then
    some 0
    else
    some (-1)
    else
    if r_5 then
    some 1
    else
    if (decide (x_1 < y_2)) then
    some (-1)
    else
    if (decide (x_1 > y_2)) then
    some 1
    else
    some 0
theorem w_cmp_Compare_int (x_1 : Int) (y_2 : Int) (r : Int) (hf : cmp_Compare_int x_1 y_2 = some r) : CallOK Try.prog 114 .flat [(.int .i64 x_1), (.int .i64 y_2)] (.int .i64 r) := by
 refine CallOK.of_awp mixed Try.func114 fc114 nle ?_; rw [argT_eq]; unfold cmp_Compare_int at hf; unfold c114; refine (show awp Try.prog false 0 _ (ofL [(0, (.int .i64 x_1)), (1, (.int .i64 y_2))]) [] _ from ?_); refine awp_seq <| w_reg <| s_mov (.int .i64 0) rfl <| w_done <| k_seq <| awp_seq <| w_reg <| ?_
 obtain ⟨r_3, er4, hf⟩ := ob hf
 refine s_mov (.int .i64 x_1) rfl <| s_do (o_call (w_cmp_isNaN_int _ _ er4) rfl (.refl _) rfl) <| s_mov (.bool r_3) rfl <| w_done <| k_seq <| awp_seq <| w_reg <| ?_
 obtain ⟨r_5, er6, hf⟩ := ob hf
 refine s_mov (.int .i64 y_2) rfl <| s_do (o_call (w_cmp_isNaN_int _ _ er6) rfl (.refl _) rfl) <| s_mov (.bool r_5) rfl <| w_done <| k_seq <| awp_seq <| awp_seq <| w_reg <| s_mov (.bool r_3) rfl <| w_done <| k_seq <| ?_
 rcases oi hf with ⟨c7, hf⟩ | ⟨c7, hf⟩
 ·refine w_condt rfl c7 <| awp_seq <| awp_seq <| w_reg <| s_mov (.bool r_5) rfl <| w_done <| k_seq <| ?_
  rcases oi hf with ⟨c8, hf⟩ | ⟨c8, hf⟩
  ·refine w_condt rfl c8 <| awp_seq <| w_reg <| s_mov (.int .i64 0) rfl <| w_done <| k_seq <| w_ret <| ?_; obtain rfl := os hf; exact r_flat ⟨trivial, trivial⟩ rfl (.refl _)
  ·refine w_condf rfl (bf c8) <| w_skip <| k_seq <| awp_seq <| w_reg <| s_mov (.int .i64 (-1)) rfl <| w_done <| k_seq <| w_ret <| ?_; obtain rfl := os hf; exact r_flat ⟨trivial, trivial⟩ rfl (.refl _)
 ·refine w_condf rfl (bf c7) <| w_skip <| k_seq <| awp_seq <| awp_seq <| w_reg <| s_mov (.bool r_5) rfl <| w_done <| k_seq <| ?_
  rcases oi hf with ⟨c9, hf⟩ | ⟨c9, hf⟩
  ·refine w_condt rfl c9 <| awp_seq <| w_reg <| s_mov (.int .i64 1) rfl <| w_done <| k_seq <| w_ret <| ?_; obtain rfl := os hf; exact r_flat ⟨trivial, trivial⟩ rfl (.refl _)
  ·refine w_condf rfl (bf c9) <| w_skip <| k_seq <| awp_seq <| awp_seq <| w_reg <| s_mov (.int .i64 x_1) rfl <| s_mov (.int .i64 y_2) rfl <| s_q (.bool (decide (x_1 < y_2))) rfl rfl rfl <| w_done <| k_seq <| ?_
   rcases oi hf with ⟨c10, hf⟩ | ⟨c10, hf⟩
   ·refine w_condt rfl c10 <| awp_seq <| w_reg <| s_mov (.int .i64 (-1)) rfl <| w_done <| k_seq <| w_ret <| ?_; obtain rfl := os hf; exact r_flat ⟨trivial, trivial⟩ rfl (.refl _)
   ·refine w_condf rfl (bf c10) <| w_skip <| k_seq <| awp_seq <| awp_seq <| w_reg <| s_mov (.int .i64 x_1) rfl <| s_mov (.int .i64 y_2) rfl <| s_q (.bool (decide (x_1 > y_2))) rfl rfl rfl <| w_done <| k_seq <| ?_
    rcases oi hf with ⟨c11, hf⟩ | ⟨c11, hf⟩
    ·refine w_condt rfl c11 <| awp_seq <| w_reg <| s_mov (.int .i64 1) rfl <| w_done <| k_seq <| w_ret <| ?_; obtain rfl := os hf; exact r_flat ⟨trivial, trivial⟩ rfl (.refl _)
    ·refine w_condf rfl (bf c11) <| w_skip <| k_seq <| awp_seq <| w_reg <| s_mov (.int .i64 0) rfl <| w_done <| k_seq <| w_ret <| ?_; obtain rfl := os hf; exact r_flat ⟨trivial, trivial⟩ rfl (.refl _)

/- impl.rowAt$1 -/
def c113 : ACode :=
 (.seq (.reg (tq 2 (.box 2 (.t 0)) (tm 4 (.c (.int .i64 0)) .done)))
 (.seq (.reg (tq 5 (.faddr 0 (.t 2)) (tq 6 (.load 1 false (.t 5)) (tm 7 (.t 1) (tq 8 (.call 114 [(.t 6), (.t 7)]) (tm 4 (.t 8) .done))))))
 .ret))
theorem fc113 : fcomp Try.prog Try.f113 = some (c113.erase, [.mov (.t 4)], 9) := by kernel_rfl
def impl_rowAt_1 (r_1 : GRow) (id_2 : Int) : Option Int :=
    (cmp_Compare_int r_1.Id id_2).bind fun r_3 =>
    some r_3
theorem w_impl_rowAt_1 (r_1 : GRow) (id_2 : Int) (r : Int) (hf : impl_rowAt_1 r_1 id_2 = some r) : CallOK Try.prog 113 .flat [(encGRow r_1), (.int .i64 id_2)] (.int .i64 r) := by
  refine CallOK.of_awp mixed Try.func113 fc113 nle ?_
  rw [argT_eq]
  unfold impl_rowAt_1 at hf
  unfold c113
  refine (show awp Try.prog false 0 _ (ofL [(0, (encGRow r_1)), (1, (.int .i64 id_2))]) [] _ from ?_)
  refine awp_seq ?_
  refine w_reg ?_
  refine s_do (o_box (j := 0) (c := (.agg [(.int .i64 r_1.Id), (.lst 1 (r_1.Cells.map (encL 3 encGAtom)))])) rfl trivial rfl rfl) ?_
  refine s_do (o_mov (.int .i64 0) rfl) ?_
  refine w_done ?_
  refine k_seq ?_
  refine awp_seq ?_
  refine w_reg ?_
  obtain ⟨r_3, er4, hf⟩ := ob hf
  refine s_do (o_q (.ptr 0 0 0) rfl trivial rfl) ?_
  refine s_do (o_q (.int .i64 r_1.Id) rfl nle rfl) ?_
  refine s_do (o_mov (.int .i64 id_2) rfl) ?_
  refine s_do (o_call (w_cmp_Compare_int _ _ _ er4) rfl (.refl _) rfl) ?_
  refine s_do (o_mov (.int .i64 r_3) rfl) ?_
  refine w_done ?_
  refine k_seq ?_
  refine w_ret ?_
  obtain rfl := os hf
  exact r_flat ⟨trivial, trivial⟩ rfl (.refl _)

/- impl.rowAt -/
def c100 : ACode :=
 (.seq (.reg (tm 4 (.c (.int .i64 0)) (tm 5 (.c (.bool false)) .done)))
 (.seq (.reg (tm 6 (.t 0) (tm 7 (.t 1) (tq 8 (.call 112 [(.t 6), (.t 7), (.c (.fn 113 []))]) (tq 9 (.extract 0 (.t 8)) (tq 10 (.extract 1 (.t 8)) (tm 4 (.t 9) (tm 5 (.t 10) .done))))))))
 .ret))
theorem fc100 : fcomp Try.prog Try.f100 = some (c100.erase, [.mov (.t 4), .mov (.t 5)], 11) := by kernel_rfl
def impl_rowAt (rows_1 : (List GRow)) (id_2 : Int) : Option (Int × Bool) :=
    (slices_BinarySearchFunc_impl_Row_impl_Row_int rows_1 id_2 impl_rowAt_1).bind fun r_3 =>
    some (r_3.1, r_3.2)
theorem w_impl_rowAt (rows_1 : (List GRow)) (id_2 : Int) (r : (Int × Bool)) (hf : impl_rowAt rows_1 id_2 = some r) : CallOK Try.prog 100 .flat [(.lst 2 (rows_1.map encGRow)), (.int .i64 id_2)] (.tup [(.int .i64 r.1), (.bool r.2)]) := by
  refine CallOK.of_awp mixed Try.func100 fc100 nle ?_
  rw [argT_eq]
  unfold impl_rowAt at hf
  unfold c100
  refine (show awp Try.prog false 0 _ (ofL [(0, (.lst 2 (rows_1.map encGRow))), (1, (.int .i64 id_2))]) [] _ from ?_)
  refine awp_seq ?_
  refine w_reg ?_
  refine s_do (o_mov (.int .i64 0) rfl) ?_
  refine s_do (o_mov (.bool false) rfl) ?_
  refine w_done ?_
  refine k_seq ?_
  refine awp_seq ?_
  refine w_reg ?_
  obtain ⟨r_3, er4, hf⟩ := ob hf
  refine s_do (o_mov (.lst 2 (rows_1.map encGRow)) rfl) ?_
  refine s_do (o_mov (.int .i64 id_2) rfl) ?_
  refine s_do (o_call (w_slices_BinarySearchFunc_impl_Row_impl_Row_int _ _ _ _ er4 113 [] (by kernel_rfl) (fun _ _ => rfl) (fun _ => rfl) (fun a0 a1 r h => w_impl_rowAt_1 a0 a1 r h)) rfl (.refl _) rfl) ?_
  refine s_do (o_q (.int .i64 r_3.1) rfl nle rfl) ?_
  refine s_do (o_q (.bool r_3.2) rfl nle rfl) ?_
  refine s_do (o_mov (.int .i64 r_3.1) rfl) ?_
  refine s_do (o_mov (.bool r_3.2) rfl) ?_
  refine w_done ?_
  refine k_seq ?_
  refine w_ret ?_
  obtain rfl := os hf
  exact r_flat ⟨trivial, ⟨trivial, trivial⟩⟩ rfl (.refl _)

/- impl.rowOf -/
def c79 : ACode :=
 (.seq (.reg (tq 4 (.box 2 (.c (.agg [(.int .i64 0), .nil]))) .done))
 (.seq (.reg (tm 8 (.t 0) (tm 9 (.t 1) (tq 10 (.call 100 [(.t 8), (.t 9)]) (tm 7 (.t 10) (tq 11 (.extract 0 (.t 7)) (tq 12 (.extract 1 (.t 7)) (tm 5 (.t 11) (tm 6 (.t 12) .done)))))))))
 (.seq (.seq (.reg (tm 13 (.t 6) (tq 14 (.not (.t 13)) .done)))
 (.cond (.t 14) (.seq (.reg (tq 15 (.build [(.int .i64 0), .nil] []) (.q ⟨none, none, .store 2 (.t 4) (.t 15)⟩
 .done)))
 .ret)
 .skip))
 (.seq (.reg (tm 16 (.t 0) (tm 17 (.t 5) (tq 18 (.iaddr 2 (.t 16) (.t 17)) (tq 19 (.load 2 true (.t 18)) (tq 20 (.call 76 [(.t 19)]) (.q ⟨none, none, .store 2 (.t 4) (.t 20)⟩
 .done)))))))
 .ret))))
theorem fc79 : fcomp Try.prog Try.f79 = some (c79.erase, [.load 2 true (.t 4)], 21) := by kernel_rfl
def impl_rowOf (rows_1 : (List GRow)) (id_2 : Int) : Option GRow :=
    (impl_rowAt rows_1 id_2).bind fun r_3 =>
    if (!r_3.2) then
    some (⟨0, []⟩ : GRow)
    else
    (idx rows_1 r_3.1).bind fun x_6 =>
    (impl_copyRow x_6).bind fun r_8 =>
    some r_8
theorem w_impl_rowOf (rows_1 : (List GRow)) (id_2 : Int) (r : GRow) (hf : impl_rowOf rows_1 id_2 = some r) : CallOK Try.prog 79 .fresh [(.lst 2 (rows_1.map encGRow)), (.int .i64 id_2)] (encGRow r) := by
 refine CallOK.of_awp mixed Try.func79 fc79 nle ?_; rw [argT_eq]; unfold impl_rowOf at hf; unfold c79; refine (show awp Try.prog true 0 _ (ofL [(0, (.lst 2 (rows_1.map encGRow))), (1, (.int .i64 id_2))]) [] _ from ?_); refine awp_seq <| w_reg <| s_do (o_box (j := 0) (c := (.agg [(.int .i64 0), .nil])) rfl trivial rfl rfl) <| w_done <| k_seq <| awp_seq <| w_reg <| ?_
 obtain ⟨r_3, er4, hf⟩ := ob hf
 refine s_mov (.lst 2 (rows_1.map encGRow)) rfl <| s_mov (.int .i64 id_2) rfl <| s_do (o_call (w_impl_rowAt _ _ _ er4) rfl (.refl _) rfl) <| s_mov (.tup [(.int .i64 r_3.1), (.bool r_3.2)]) rfl <| s_q (.int .i64 r_3.1) rfl nle rfl <| s_q (.bool r_3.2) rfl nle rfl <| s_mov (.int .i64 r_3.1) rfl <| s_mov (.bool r_3.2) rfl <| w_done <| k_seq <| awp_seq <| awp_seq <| w_reg <| s_mov (.bool r_3.2) rfl <| s_q (.bool (!r_3.2)) rfl trivial rfl <| w_done <| k_seq <| ?_
 rcases oi hf with ⟨c5, hf⟩ | ⟨c5, hf⟩
 ·refine w_condt rfl c5 <| awp_seq <| w_reg <| s_q (.agg [(.int .i64 0), .nil]) rfl trivial rfl <| s_do0 (o_storebox (v := (.agg [(.int .i64 0), .nil])) (y' := (.agg [(.int .i64 0), .nil])) rfl rfl rfl trivial ⟨rfl, nle⟩ ⟨⟨rfl, trivial⟩, ⟨⟨rfl, trivial⟩, trivial⟩⟩ rfl) <| w_done <| k_seq <| w_ret <| ?_; obtain rfl := os hf; exact r_fresh ⟨nle, trivial⟩ rfl (by decide) (.agg (.cons (.refl _) (.cons (.nil _) .nil)))
 ·refine w_condf rfl (bf c5) <| w_skip <| k_seq <| awp_seq <| w_reg <| ?_
  obtain ⟨x_6, ex7, hf⟩ := ob hf
  obtain ⟨r_8, er9, hf⟩ := ob hf
  refine s_mov (.lst 2 (rows_1.map encGRow)) rfl <| s_mov (.int .i64 r_3.1) rfl <| s_do (o_iaddr (enc := encGRow) rfl rfl (idx0 ex7) (idx1 ex7)) <| s_q (encGRow x_6) rfl nle rfl <| s_do (o_callf (v := (.agg [(.int .i64 r_8.Id), (.own 1 0 r_8.Cells.length)])) (h' := [.row 1 (r_8.Cells.map (encL 3 encGAtom))]) (w_impl_copyRow _ _ er9) rfl (.refl _) (by simp only [openV, openVs, List.length_map, encGRow_eq, List.nil_append, List.append_nil, List.cons_append]; rfl)) <| s_do0 (o_storebox (v := (.agg [(.int .i64 r_8.Id), (.own 1 0 r_8.Cells.length)])) (y' := (.agg [(.int .i64 r_8.Id), (.own 1 0 r_8.Cells.length)])) rfl rfl rfl trivial ⟨rfl, nle⟩ ⟨⟨rfl, trivial⟩, ⟨⟨rfl, trivial⟩, trivial⟩⟩ rfl) <| w_done <| k_seq <| ?_
  refine w_ret ?_; obtain rfl := os hf; exact r_fresh ⟨nle, trivial⟩ rfl (by decide) (.agg (.cons (.refl _) (.cons (.of_eq (congrArg (AV.lst _) (tk (enc := (encL 3 encGAtom)) r_8.Cells))) .nil)))

/- slices.EqualFunc[[][]impl.Atom,[][]impl.Atom,[]impl.Atom,[]impl.Atom] -/
def c98 : ACode :=
 (.seq (.reg (tm 6 (.c (.bool false)) .done))
 (.seq (.seq (.reg (tm 10 (.t 0) (tq 11 (.len (.t 10)) (tm 12 (.t 1) (tq 13 (.len (.t 12)) (tq 14 (.bin .neq (.t 11) (.t 13)) .done))))))
 (.cond (.t 14) (.seq (.reg (tm 6 (.c (.bool false)) .done))
 .ret)
 .skip))
 (.seq (.seq (.reg (tm 15 (.t 0) (tq 16 (.len (.t 15)) (tm 17 (.c (.int .i64 0)) .done))))
 (.block 0 (.loop (.seq (.reg (tq 18 (.bin .lss (.t 17) (.t 16)) .done))
 (.seq (.cond (.t 18) .skip
 (.exit 0))
 (.seq (.block 1 (.seq (.reg (tm 19 (.t 17) (tq 20 (.iaddr 1 (.t 15) (.t 17)) (tq 21 (.load 1 false (.t 20)) (tm 7 (.t 19) (tm 8 (.t 21) .done))))))
 (.seq (.reg (tm 22 (.t 1) (tm 23 (.t 7) (tq 24 (.iaddr 1 (.t 22) (.t 23)) (tq 25 (.load 1 false (.t 24)) (tm 9 (.t 25) .done))))))
 (.seq (.reg (tm 26 (.t 2) (tm 27 (.t 8) (tm 28 (.t 9) (tq 29 (.calv (.t 26) [(.t 27), (.t 28)]) (tq 30 (.not (.t 29)) .done))))))
 (.cond (.t 30) (.seq (.reg (tm 6 (.c (.bool false)) .done))
 .ret)
 .skip)))))
 (.reg (tq 31 (.bin .add (.t 17) (.c (.int .i64 1))) (tm 17 (.t 31) .done)))))))))
 (.cut (.seq (.reg (tm 6 (.c (.bool true)) .done))
 .ret)))))
theorem fc98 : fcomp Try.prog Try.f98 = some (c98.erase, [.mov (.t 6)], 32) := by kernel_rfl
def slices_EqualFunc_impl_Atom_impl_Atom_impl_Atom_impl_AtomS_L1 (s2_2 : (List (List GAtom))) (eq_3 : ((List GAtom) → (List GAtom) → Option Bool)) : List (List GAtom) → Nat → Option (Fl Bool Unit)
  | [], s17_25 =>
    some (.go ())
  | x_41 :: xs, s17_25 =>
    (idx s2_2 (s17_25 : Int)).bind fun x_42 =>
    (eq_3 x_41 x_42).bind fun r_44 =>
    if (!r_44) then
    some (.ret false)
    else
    slices_EqualFunc_impl_Atom_impl_Atom_impl_Atom_impl_AtomS_L1 s2_2 eq_3 xs (s17_25 + 1)

def slices_EqualFunc_impl_Atom_impl_Atom_impl_Atom_impl_AtomS (s1_1 : (List (List GAtom))) (s2_2 : (List (List GAtom))) (eq_3 : ((List GAtom) → (List GAtom) → Option Bool)) : Option Bool :=
    if ((s1_1.length : Int) != (s2_2.length : Int)) then
    some false
    else
    (slices_EqualFunc_impl_Atom_impl_Atom_impl_Atom_impl_AtomS_L1 s2_2 eq_3 s1_1 0).bind fun q => (match q with
    | .ret r => some r
    | .go _ =>
    some true)
theorem w_slices_EqualFunc_impl_Atom_impl_Atom_impl_Atom_impl_AtomS (s1_1 : (List (List GAtom))) (s2_2 : (List (List GAtom))) (eq_3 : ((List GAtom) → (List GAtom) → Option Bool)) (r : Bool) (hf : slices_EqualFunc_impl_Atom_impl_Atom_impl_Atom_impl_AtomS s1_1 s2_2 eq_3 = some r) (kf_eq_3 : Nat) (cf_eq_3 : List AV) (okf_eq_3 : okFn Try.prog kf_eq_3 = true) (hcf_eq_3 : ∀ h p, closeWs h p cf_eq_3 = some cf_eq_3) (hrf_eq_3 : ∀ f, rens f cf_eq_3 = cf_eq_3) (hpf_eq_3 : ∀ a0 a1 r, eq_3 a0 a1 = some r → CallOK Try.prog kf_eq_3 .flat ([(.lst 3 (a0.map encGAtom)), (.lst 3 (a1.map encGAtom))] ++ cf_eq_3) (.bool r)) : CallOK Try.prog 98 .flat [(.lst 1 (s1_1.map (encL 3 encGAtom))), (.lst 1 (s2_2.map (encL 3 encGAtom))), (.fn kf_eq_3 cf_eq_3)] (.bool r) := by
 refine CallOK.of_awp mixed Try.func98 fc98 nle ?_; rw [argT_eq]; unfold slices_EqualFunc_impl_Atom_impl_Atom_impl_Atom_impl_AtomS at hf; unfold c98; refine (show awp Try.prog false 0 _ (ofL [(0, (.lst 1 (s1_1.map (encL 3 encGAtom)))), (1, (.lst 1 (s2_2.map (encL 3 encGAtom)))), (2, (.fn kf_eq_3 cf_eq_3))]) [] _ from ?_); refine awp_seq <| w_reg <| s_mov (.bool false) rfl <| w_done <| k_seq <| awp_seq <| awp_seq <| w_reg <| s_mov (.lst 1 (s1_1.map (encL 3 encGAtom))) rfl <| s_dof (o_len (enc := (encL 3 encGAtom)) rfl) fun hl4 => s_mov (.lst 1 (s2_2.map (encL 3 encGAtom))) rfl <| s_dof (o_len (enc := (encL 3 encGAtom)) rfl) fun hl5 => s_q (.bool ((s1_1.length : Int) != (s2_2.length : Int))) rfl rfl rfl <| w_done <| k_seq <| ?_
 rcases oi hf with ⟨c6, hf⟩ | ⟨c6, hf⟩
 ·refine w_condt rfl c6 <| awp_seq <| w_reg <| s_mov (.bool false) rfl <| w_done <| k_seq <| w_ret <| ?_; obtain rfl := os hf; exact r_flat ⟨trivial, trivial⟩ rfl (.refl _)
 ·refine w_condf rfl (bf c6) <| w_skip <| k_seq <| awp_seq <| awp_seq <| w_reg <| s_mov (.lst 1 (s1_1.map (encL 3 encGAtom))) rfl <| s_dof (o_len (enc := (encL 3 encGAtom)) rfl) fun hl7 => s_mov (.int .i64 0) rfl <| w_done <| k_seq <| ?_
  obtain ⟨p34, hb1, hf⟩ := ob hf
  refine awp_cutx (X := {q : Unit // p34 = .go q}) (fun q => ([], [])) ?_ ?_
  ·refine awp_loop (X := {q : Nat // slices_EqualFunc_impl_Atom_impl_Atom_impl_Atom_impl_AtomS_L1 s2_2 eq_3 (s1_1.drop q) q = some p34}) (fun q => ([(1, (.lst 1 (s2_2.map (encL 3 encGAtom)))), (2, (.fn kf_eq_3 cf_eq_3)), (15, (.lst 1 (s1_1.map (encL 3 encGAtom)))), (16, (.int .i64 (s1_1.length : Int))), (17, (.int .i64 (q.1 : Int)))], [])) (fun q => s1_1.length - q.1) ⟨0, hb1⟩ ⟨[], [], _, _, rfl, rfl, ⟨.refl _, ⟨.of_eq (congrArg (AV.fn _) (hrf_eq_3 _)), ⟨.refl _, ⟨.refl _, ⟨.refl _, trivial⟩⟩⟩⟩⟩, (.refl _)⟩ ?_
   rintro ⟨s17_25, hc1⟩
   have hc1 : slices_EqualFunc_impl_Atom_impl_Atom_impl_Atom_impl_AtomS_L1 s2_2 eq_3 (s1_1.drop s17_25) s17_25 = some p34 := hc1
   refine (show awp Try.prog false 0 _ (ofL [(1, (.lst 1 (s2_2.map (encL 3 encGAtom)))), (2, (.fn kf_eq_3 cf_eq_3)), (15, (.lst 1 (s1_1.map (encL 3 encGAtom)))), (16, (.int .i64 (s1_1.length : Int))), (17, (.int .i64 (s17_25 : Int)))]) [] _ from ?_)
   rcases dropc s1_1 s17_25 with ⟨hie37, hd40⟩ | ⟨hlt35, x_41, hx36, hd40⟩
   ·rw [hd40, slices_EqualFunc_impl_Atom_impl_Atom_impl_Atom_impl_AtomS_L1.eq_1] at hc1
    have hq39 := dlf hie37
    refine awp_seq <| w_reg <| s_q (.bool (decide ((s17_25 : Int) < (s1_1.length : Int)))) rfl rfl rfl <| w_done <| k_seq <| awp_seq <| w_condf rfl hq39 <| w_exit <| k_seqx <| k_loopx <| k_blkx <| ?_; obtain rfl := os hc1; exact k_cutn ⟨_, rfl⟩ ⟨[], [], _, _, rfl, rfl, trivial, (.refl _)⟩
   ·rw [hd40, slices_EqualFunc_impl_Atom_impl_Atom_impl_Atom_impl_AtomS_L1.eq_2] at hc1
    have hq39 := dlt hlt35
    refine awp_seq <| w_reg <| s_q (.bool (decide ((s17_25 : Int) < (s1_1.length : Int)))) rfl rfl rfl <| w_done <| k_seq <| awp_seq <| w_condt rfl hq39 <| w_skip <| k_seq <| awp_seq <| w_blk <| awp_seq <| w_reg <| s_mov (.int .i64 (s17_25 : Int)) rfl <| s_do (o_iaddrn (enc := (encL 3 encGAtom)) rfl rfl hx36) <| s_q (.lst 3 (x_41.map encGAtom)) rfl ⟨rfl, rfl⟩ rfl <| s_mov (.int .i64 (s17_25 : Int)) rfl <| s_mov (.lst 3 (x_41.map encGAtom)) rfl <| w_done <| k_seq <| awp_seq <| w_reg <| ?_
    obtain ⟨x_42, ex43, hc1⟩ := ob hc1
    refine s_mov (.lst 1 (s2_2.map (encL 3 encGAtom))) rfl <| s_mov (.int .i64 (s17_25 : Int)) rfl <| s_do (o_iaddr (enc := (encL 3 encGAtom)) rfl rfl (idx0 ex43) (idx1 ex43)) <| s_q (.lst 3 (x_42.map encGAtom)) rfl ⟨rfl, rfl⟩ rfl <| s_mov (.lst 3 (x_42.map encGAtom)) rfl <| w_done <| k_seq <| awp_seq <| w_reg <| ?_
    obtain ⟨r_44, er45, hc1⟩ := ob hc1
    refine s_mov (.fn kf_eq_3 cf_eq_3) rfl <| s_mov (.lst 3 (x_41.map encGAtom)) rfl <| s_mov (.lst 3 (x_42.map encGAtom)) rfl <| s_do (o_calvp (v := (.bool r_44)) rfl okf_eq_3 hcf_eq_3 (hpf_eq_3 _ _ _ er45) rfl (.refl _) rfl) <| s_q (.bool (!r_44)) rfl trivial rfl <| w_done <| k_seq <| ?_
    rcases oi hc1 with ⟨c46, hc1⟩ | ⟨c46, hc1⟩
    ·refine w_condt rfl c46 <| awp_seq <| w_reg <| s_mov (.bool false) rfl <| w_done <| k_seq <| w_ret <| ?_; obtain rfl := os hc1; obtain rfl := os hf; exact r_flat ⟨trivial, trivial⟩ rfl (.refl _)
    ·refine w_condf rfl (bf c46) <| w_skip <| k_blk <| k_seq <| w_reg <| s_q (.int .i64 (w64 ((s17_25 : Int) + 1))) rfl rfl rfl <| s_mov (.int .i64 (w64 ((s17_25 : Int) + 1))) rfl <| w_done <| ?_; exact k_loopn ⟨(s17_25 + 1), hc1⟩ (mul hlt35) ⟨[], [], _, _, rfl, rfl, ⟨.refl _, ⟨.of_eq (congrArg (AV.fn _) (hrf_eq_3 _)), ⟨.refl _, ⟨.refl _, ⟨.of_eq (congrArg (AV.int _) (w64_incr hlt35 hl7)), trivial⟩⟩⟩⟩⟩, (.refl _)⟩
  ·rintro ⟨_, rfl⟩
   refine awp_seq <| w_reg <| s_mov (.bool true) rfl <| w_done <| k_seq <| w_ret <| ?_; obtain rfl := os hf; exact r_flat ⟨trivial, trivial⟩ rfl (.refl _)

/- slices.Equal[[]impl.Atom,impl.Atom] -/
def c99 : ACode :=
 (.seq (.reg (tm 4 (.c (.bool false)) .done))
 (.seq (.seq (.reg (tm 6 (.t 0) (tq 7 (.len (.t 6)) (tm 8 (.t 1) (tq 9 (.len (.t 8)) (tq 10 (.bin .neq (.t 7) (.t 9)) .done))))))
 (.cond (.t 10) (.seq (.reg (tm 4 (.c (.bool false)) .done))
 .ret)
 .skip))
 (.seq (.seq (.reg (tm 11 (.t 0) (tq 12 (.len (.t 11)) (tm 13 (.c (.int .i64 0)) .done))))
 (.block 0 (.loop (.seq (.reg (tq 14 (.bin .lss (.t 13) (.t 12)) .done))
 (.seq (.cond (.t 14) .skip
 (.exit 0))
 (.seq (.block 1 (.seq (.reg (tm 15 (.t 13) (tm 5 (.t 15) .done)))
 (.seq (.reg (tm 16 (.t 0) (tm 17 (.t 5) (tq 18 (.iaddr 3 (.t 16) (.t 17)) (tq 19 (.load 3 true (.t 18)) (tm 20 (.t 1) (tm 21 (.t 5) (tq 22 (.iaddr 3 (.t 20) (.t 21)) (tq 23 (.load 3 true (.t 22)) (tq 24 (.eqs true [0, 0, 2] (.t 19) (.t 23)) .done))))))))))
 (.cond (.t 24) (.seq (.reg (tm 4 (.c (.bool false)) .done))
 .ret)
 .skip))))
 (.reg (tq 25 (.bin .add (.t 13) (.c (.int .i64 1))) (tm 13 (.t 25) .done)))))))))
 (.cut (.seq (.reg (tm 4 (.c (.bool true)) .done))
 .ret)))))
theorem fc99 : fcomp Try.prog Try.f99 = some (c99.erase, [.mov (.t 4)], 26) := by kernel_rfl
def slices_Equal_impl_Atom_impl_Atom_L1 (s2_2 : (List GAtom)) : List GAtom → Nat → Option (Fl Bool Unit)
  | [], s13_20 =>
    some (.go ())
  | x_34 :: xs, s13_20 =>
    (idx s2_2 (s13_20 : Int)).bind fun x_35 =>
    if (!(x_34.Kind == x_35.Kind && (x_34.N == x_35.N && (x_34.T == x_35.T && true)))) then
    some (.ret false)
    else
    slices_Equal_impl_Atom_impl_Atom_L1 s2_2 xs (s13_20 + 1)

def slices_Equal_impl_Atom_impl_Atom (s1_1 : (List GAtom)) (s2_2 : (List GAtom)) : Option Bool :=
    if ((s1_1.length : Int) != (s2_2.length : Int)) then
    some false
    else
    (slices_Equal_impl_Atom_impl_Atom_L1 s2_2 s1_1 0).bind fun q => (match q with
    | .ret r => some r
    | .go _ =>
    some true)
theorem w_slices_Equal_impl_Atom_impl_Atom (s1_1 : (List GAtom)) (s2_2 : (List GAtom)) (r : Bool) (hf : slices_Equal_impl_Atom_impl_Atom s1_1 s2_2 = some r) : CallOK Try.prog 99 .flat [(.lst 3 (s1_1.map encGAtom)), (.lst 3 (s2_2.map encGAtom))] (.bool r) := by
 refine CallOK.of_awp mixed Try.func99 fc99 nle ?_; rw [argT_eq]; unfold slices_Equal_impl_Atom_impl_Atom at hf; unfold c99; refine (show awp Try.prog false 0 _ (ofL [(0, (.lst 3 (s1_1.map encGAtom))), (1, (.lst 3 (s2_2.map encGAtom)))]) [] _ from ?_); refine awp_seq <| w_reg <| s_mov (.bool false) rfl <| w_done <| k_seq <| awp_seq <| awp_seq <| w_reg <| s_mov (.lst 3 (s1_1.map encGAtom)) rfl <| s_dof (o_len (enc := encGAtom) rfl) fun hl3 => s_mov (.lst 3 (s2_2.map encGAtom)) rfl <| s_dof (o_len (enc := encGAtom) rfl) fun hl4 => s_q (.bool ((s1_1.length : Int) != (s2_2.length : Int))) rfl rfl rfl <| w_done <| k_seq <| ?_
 rcases oi hf with ⟨c5, hf⟩ | ⟨c5, hf⟩
 ·refine w_condt rfl c5 <| awp_seq <| w_reg <| s_mov (.bool false) rfl <| w_done <| k_seq <| w_ret <| ?_; obtain rfl := os hf; exact r_flat ⟨trivial, trivial⟩ rfl (.refl _)
 ·refine w_condf rfl (bf c5) <| w_skip <| k_seq <| awp_seq <| awp_seq <| w_reg <| s_mov (.lst 3 (s1_1.map encGAtom)) rfl <| s_dof (o_len (enc := encGAtom) rfl) fun hl6 => s_mov (.int .i64 0) rfl <| w_done <| k_seq <| ?_
  obtain ⟨p27, hb1, hf⟩ := ob hf
  refine awp_cutx (X := {q : Unit // p27 = .go q}) (fun q => ([], [])) ?_ ?_
  ·refine awp_loop (X := {q : Nat // slices_Equal_impl_Atom_impl_Atom_L1 s2_2 (s1_1.drop q) q = some p27}) (fun q => ([(0, (.lst 3 (s1_1.map encGAtom))), (1, (.lst 3 (s2_2.map encGAtom))), (12, (.int .i64 (s1_1.length : Int))), (13, (.int .i64 (q.1 : Int)))], [])) (fun q => s1_1.length - q.1) ⟨0, hb1⟩ ⟨[], [], _, _, rfl, rfl, ⟨.refl _, ⟨.refl _, ⟨.refl _, ⟨.refl _, trivial⟩⟩⟩⟩, (.refl _)⟩ ?_
   rintro ⟨s13_20, hc1⟩
   have hc1 : slices_Equal_impl_Atom_impl_Atom_L1 s2_2 (s1_1.drop s13_20) s13_20 = some p27 := hc1
   refine (show awp Try.prog false 0 _ (ofL [(0, (.lst 3 (s1_1.map encGAtom))), (1, (.lst 3 (s2_2.map encGAtom))), (12, (.int .i64 (s1_1.length : Int))), (13, (.int .i64 (s13_20 : Int)))]) [] _ from ?_)
   rcases dropc s1_1 s13_20 with ⟨hie30, hd33⟩ | ⟨hlt28, x_34, hx29, hd33⟩
   ·rw [hd33, slices_Equal_impl_Atom_impl_Atom_L1.eq_1] at hc1
    have hq32 := dlf hie30
    refine awp_seq <| w_reg <| s_q (.bool (decide ((s13_20 : Int) < (s1_1.length : Int)))) rfl rfl rfl <| w_done <| k_seq <| awp_seq <| w_condf rfl hq32 <| w_exit <| k_seqx <| k_loopx <| k_blkx <| ?_; obtain rfl := os hc1; exact k_cutn ⟨_, rfl⟩ ⟨[], [], _, _, rfl, rfl, trivial, (.refl _)⟩
   ·rw [hd33, slices_Equal_impl_Atom_impl_Atom_L1.eq_2] at hc1
    have hq32 := dlt hlt28
    refine awp_seq <| w_reg <| s_q (.bool (decide ((s13_20 : Int) < (s1_1.length : Int)))) rfl rfl rfl <| w_done <| k_seq <| awp_seq <| w_condt rfl hq32 <| w_skip <| k_seq <| awp_seq <| w_blk <| awp_seq <| w_reg <| s_mov (.int .i64 (s13_20 : Int)) rfl <| s_mov (.int .i64 (s13_20 : Int)) rfl <| w_done <| k_seq <| awp_seq <| w_reg <| ?_
    obtain ⟨x_35, ex36, hc1⟩ := ob hc1
    refine s_mov (.lst 3 (s1_1.map encGAtom)) rfl <| s_mov (.int .i64 (s13_20 : Int)) rfl <| s_do (o_iaddrn (enc := encGAtom) rfl rfl hx29) <| s_q (encGAtom x_34) rfl nle rfl <| s_mov (.lst 3 (s2_2.map encGAtom)) rfl <| s_mov (.int .i64 (s13_20 : Int)) rfl <| s_do (o_iaddr (enc := encGAtom) rfl rfl (idx0 ex36) (idx1 ex36)) <| s_q (encGAtom x_35) rfl nle rfl <| s_q (.bool (!(x_34.Kind == x_35.Kind && (x_34.N == x_35.N && (x_34.T == x_35.T && true))))) rfl ⟨⟨rfl, rfl⟩, ⟨⟨rfl, rfl⟩, ⟨rfl, trivial⟩⟩⟩ rfl <| w_done <| k_seq <| ?_
    rcases oi hc1 with ⟨c37, hc1⟩ | ⟨c37, hc1⟩
    ·refine w_condt rfl c37 <| awp_seq <| w_reg <| s_mov (.bool false) rfl <| w_done <| k_seq <| w_ret <| ?_; obtain rfl := os hc1; obtain rfl := os hf; exact r_flat ⟨trivial, trivial⟩ rfl (.refl _)
    ·refine w_condf rfl (bf c37) <| w_skip <| k_blk <| k_seq <| w_reg <| s_q (.int .i64 (w64 ((s13_20 : Int) + 1))) rfl rfl rfl <| s_mov (.int .i64 (w64 ((s13_20 : Int) + 1))) rfl <| w_done <| ?_; exact k_loopn ⟨(s13_20 + 1), hc1⟩ (mul hlt28) ⟨[], [], _, _, rfl, rfl, ⟨.refl _, ⟨.refl _, ⟨.refl _, ⟨.of_eq (congrArg (AV.int _) (w64_incr hlt28 hl6)), trivial⟩⟩⟩⟩, (.refl _)⟩
  ·rintro ⟨_, rfl⟩
   refine awp_seq <| w_reg <| s_mov (.bool true) rfl <| w_done <| k_seq <| w_ret <| ?_; obtain rfl := os hf; exact r_flat ⟨trivial, trivial⟩ rfl (.refl _)

/- impl.sameRow -/
def c78 : ACode :=
 (.seq (.reg (tq 2 (.box 2 (.t 0)) (tq 3 (.box 2 (.t 1)) (tm 4 (.c (.bool false)) .done))))
 (.seq (.reg (tq 5 (.faddr 0 (.t 2)) (tq 6 (.load 1 false (.t 5)) (tq 7 (.faddr 0 (.t 3)) (tq 8 (.load 1 false (.t 7)) (tq 9 (.bin .eql (.t 6) (.t 8)) (tm 10 (.t 9) (tg 11 10 true (.faddr 1 (.t 2)) (tg 12 10 true (.load 1 false (.t 11)) (tg 13 10 true (.faddr 1 (.t 3)) (tg 14 10 true (.load 1 false (.t 13)) (tg 15 10 true (.call 98 [(.t 12), (.t 14), (.c (.fn 99 []))]) (tq 16 (.pick (.t 10) (.t 15) (.c (.bool false))) (tm 4 (.t 16) .done))))))))))))))
 .ret))
theorem fc78 : fcomp Try.prog Try.f78 = some (c78.erase, [.mov (.t 4)], 17) := by kernel_rfl
def impl_sameRow (a_1 : GRow) (b_2 : GRow) : Option Bool :=
    if (a_1.Id == b_2.Id) then
    (slices_EqualFunc_impl_Atom_impl_Atom_impl_Atom_impl_AtomS a_1.Cells b_2.Cells slices_Equal_impl_Atom_impl_Atom).bind fun r_4 =>
    some r_4
    else
    some false
theorem w_impl_sameRow (a_1 : GRow) (b_2 : GRow) (r : Bool) (hf : impl_sameRow a_1 b_2 = some r) : CallOK Try.prog 78 .flat [(encGRow a_1), (encGRow b_2)] (.bool r) := by
 refine CallOK.of_awp mixed Try.func78 fc78 nle ?_; rw [argT_eq]; unfold impl_sameRow at hf; unfold c78; refine (show awp Try.prog false 0 _ (ofL [(0, (encGRow a_1)), (1, (encGRow b_2))]) [] _ from ?_); refine awp_seq <| w_reg <| s_do (o_box (j := 0) (c := (.agg [(.int .i64 a_1.Id), (.lst 1 (a_1.Cells.map (encL 3 encGAtom)))])) rfl trivial rfl rfl) <| s_do (o_box (j := 1) (c := (.agg [(.int .i64 b_2.Id), (.lst 1 (b_2.Cells.map (encL 3 encGAtom)))])) rfl trivial rfl rfl) <| s_mov (.bool false) rfl <| w_done <| k_seq <| awp_seq <| w_reg <| s_q (.ptr 0 0 0) rfl trivial rfl <| s_q (.int .i64 a_1.Id) rfl nle rfl <| s_q (.ptr 1 0 0) rfl trivial rfl <| s_q (.int .i64 b_2.Id) rfl nle rfl <| s_q (.bool (a_1.Id == b_2.Id)) rfl rfl rfl <| ?_
 refine s_mov (.bool (a_1.Id == b_2.Id)) rfl ?_
 rcases oi hf with ⟨c3, hf⟩ | ⟨c3, hf⟩
 ·refine s_lit (s := 10) (b := true) rfl c3 <| s_on rfl <| s_q (.ptr 0 0 1) rfl trivial rfl <| s_on rfl <| s_q (.lst 1 (a_1.Cells.map (encL 3 encGAtom))) rfl nle rfl <| s_on rfl <| s_q (.ptr 1 0 1) rfl trivial rfl <| s_on rfl <| s_q (.lst 1 (b_2.Cells.map (encL 3 encGAtom))) rfl nle rfl <| s_on rfl <| ?_
  obtain ⟨r_4, er5, hf⟩ := ob hf
  refine s_do (o_call (w_slices_EqualFunc_impl_Atom_impl_Atom_impl_Atom_impl_AtomS _ _ _ _ er5 99 [] (by kernel_rfl) (fun _ _ => rfl) (fun _ => rfl) (fun a0 a1 r h => w_slices_Equal_impl_Atom_impl_Atom a0 a1 r h)) rfl (.refl _) rfl) ?_; refine s_q (.bool r_4) rfl trivial rfl <| s_mov (.bool r_4) rfl <| w_done <| k_seq <| w_ret <| ?_; obtain rfl := os hf; exact r_flat ⟨trivial, trivial⟩ rfl (.refl _)
 ·refine s_lit (s := 10) (b := false) rfl (bf c3) <| s_off rfl rfl <| s_off rfl rfl <| s_off rfl rfl <| s_off rfl rfl <| s_off rfl rfl <| s_q (.bool false) rfl trivial rfl <| s_mov (.bool false) rfl <| w_done <| k_seq <| w_ret <| ?_; obtain rfl := os hf; exact r_flat ⟨trivial, trivial⟩ rfl (.refl _)

/- slices.IndexFunc[[]impl.Row,impl.Row] -/
def c115 : ACode :=
 (.seq (.reg (tm 4 (.c (.int .i64 0)) .done))
 (.seq (.seq (.reg (tm 6 (.t 0) (tq 7 (.len (.t 6)) (tm 8 (.c (.int .i64 0)) .done))))
 (.block 0 (.loop (.seq (.reg (tq 9 (.bin .lss (.t 8) (.t 7)) .done))
 (.seq (.cond (.t 9) .skip
 (.exit 0))
 (.seq (.block 1 (.seq (.reg (tm 10 (.t 8) (tm 5 (.t 10) .done)))
 (.seq (.reg (tm 11 (.t 1) (tm 12 (.t 0) (tm 13 (.t 5) (tq 14 (.iaddr 2 (.t 12) (.t 13)) (tq 15 (.load 2 true (.t 14)) (tq 16 (.calv (.t 11) [(.t 15)]) .done)))))))
 (.cond (.t 16) (.seq (.reg (tm 17 (.t 5) (tm 4 (.t 17) .done)))
 .ret)
 .skip))))
 (.reg (tq 18 (.bin .add (.t 8) (.c (.int .i64 1))) (tm 8 (.t 18) .done)))))))))
 (.cut (.seq (.reg (tq 4 (.mov (.c (.int .i64 (-1)))) .done))
 .ret))))
theorem fc115 : fcomp Try.prog Try.f115 = some (c115.erase, [.mov (.t 4)], 19) := by kernel_rfl
def slices_IndexFunc_impl_Row_impl_Row_L1 (f_2 : (GRow → Option Bool)) : List GRow → Nat → Option (Fl Int Unit)
  | [], s8_17 =>
    some (.go ())
  | x_31 :: xs, s8_17 =>
    (f_2 x_31).bind fun r_32 =>
    if r_32 then
    some (.ret (s8_17 : Int))
    else
    slices_IndexFunc_impl_Row_impl_Row_L1 f_2 xs (s8_17 + 1)

def slices_IndexFunc_impl_Row_impl_Row (s_1 : (List GRow)) (f_2 : (GRow → Option Bool)) : Option Int :=
    (slices_IndexFunc_impl_Row_impl_Row_L1 f_2 s_1 0).bind fun q => (match q with
    | .ret r => some r
    | .go _ =>
    some (-1))
theorem w_slices_IndexFunc_impl_Row_impl_Row (s_1 : (List GRow)) (f_2 : (GRow → Option Bool)) (r : Int) (hf : slices_IndexFunc_impl_Row_impl_Row s_1 f_2 = some r) (kf_f_2 : Nat) (cf_f_2 : List AV) (okf_f_2 : okFn Try.prog kf_f_2 = true) (hcf_f_2 : ∀ h p, closeWs h p cf_f_2 = some cf_f_2) (hrf_f_2 : ∀ f, rens f cf_f_2 = cf_f_2) (hpf_f_2 : ∀ a0 r, f_2 a0 = some r → CallOK Try.prog kf_f_2 .flat ([(encGRow a0)] ++ cf_f_2) (.bool r)) : CallOK Try.prog 115 .flat [(.lst 2 (s_1.map encGRow)), (.fn kf_f_2 cf_f_2)] (.int .i64 r) := by
 refine CallOK.of_awp mixed Try.func115 fc115 nle ?_; rw [argT_eq]; unfold slices_IndexFunc_impl_Row_impl_Row at hf; unfold c115; refine (show awp Try.prog false 0 _ (ofL [(0, (.lst 2 (s_1.map encGRow))), (1, (.fn kf_f_2 cf_f_2))]) [] _ from ?_); refine awp_seq <| w_reg <| s_mov (.int .i64 0) rfl <| w_done <| k_seq <| awp_seq <| awp_seq <| w_reg <| s_mov (.lst 2 (s_1.map encGRow)) rfl <| s_dof (o_len (enc := encGRow) rfl) fun hl3 => s_mov (.int .i64 0) rfl <| w_done <| k_seq <| ?_
 obtain ⟨p24, hb1, hf⟩ := ob hf
 refine awp_cutx (X := {q : Unit // p24 = .go q}) (fun q => ([], [])) ?_ ?_
 ·refine awp_loop (X := {q : Nat // slices_IndexFunc_impl_Row_impl_Row_L1 f_2 (s_1.drop q) q = some p24}) (fun q => ([(0, (.lst 2 (s_1.map encGRow))), (1, (.fn kf_f_2 cf_f_2)), (7, (.int .i64 (s_1.length : Int))), (8, (.int .i64 (q.1 : Int)))], [])) (fun q => s_1.length - q.1) ⟨0, hb1⟩ ⟨[], [], _, _, rfl, rfl, ⟨.refl _, ⟨.of_eq (congrArg (AV.fn _) (hrf_f_2 _)), ⟨.refl _, ⟨.refl _, trivial⟩⟩⟩⟩, (.refl _)⟩ ?_
  rintro ⟨s8_17, hc1⟩
  have hc1 : slices_IndexFunc_impl_Row_impl_Row_L1 f_2 (s_1.drop s8_17) s8_17 = some p24 := hc1
  refine (show awp Try.prog false 0 _ (ofL [(0, (.lst 2 (s_1.map encGRow))), (1, (.fn kf_f_2 cf_f_2)), (7, (.int .i64 (s_1.length : Int))), (8, (.int .i64 (s8_17 : Int)))]) [] _ from ?_)
  rcases dropc s_1 s8_17 with ⟨hie27, hd30⟩ | ⟨hlt25, x_31, hx26, hd30⟩
  ·rw [hd30, slices_IndexFunc_impl_Row_impl_Row_L1.eq_1] at hc1
   have hq29 := dlf hie27
   refine awp_seq <| w_reg <| s_q (.bool (decide ((s8_17 : Int) < (s_1.length : Int)))) rfl rfl rfl <| w_done <| k_seq <| awp_seq <| w_condf rfl hq29 <| w_exit <| k_seqx <| k_loopx <| k_blkx <| ?_; obtain rfl := os hc1; exact k_cutn ⟨_, rfl⟩ ⟨[], [], _, _, rfl, rfl, trivial, (.refl _)⟩
  ·rw [hd30, slices_IndexFunc_impl_Row_impl_Row_L1.eq_2] at hc1
   have hq29 := dlt hlt25
   refine awp_seq <| w_reg <| s_q (.bool (decide ((s8_17 : Int) < (s_1.length : Int)))) rfl rfl rfl <| w_done <| k_seq <| awp_seq <| w_condt rfl hq29 <| w_skip <| k_seq <| awp_seq <| w_blk <| awp_seq <| w_reg <| s_mov (.int .i64 (s8_17 : Int)) rfl <| s_mov (.int .i64 (s8_17 : Int)) rfl <| w_done <| k_seq <| awp_seq <| w_reg <| ?_
   obtain ⟨r_32, er33, hc1⟩ := ob hc1
   refine s_mov (.fn kf_f_2 cf_f_2) rfl <| s_mov (.lst 2 (s_1.map encGRow)) rfl <| s_mov (.int .i64 (s8_17 : Int)) rfl <| s_do (o_iaddrn (enc := encGRow) rfl rfl hx26) <| s_q (encGRow x_31) rfl nle rfl <| s_do (o_calvp (v := (.bool r_32)) rfl okf_f_2 hcf_f_2 (hpf_f_2 _ _ er33) rfl (.refl _) rfl) <| w_done <| k_seq <| ?_
   rcases oi hc1 with ⟨c34, hc1⟩ | ⟨c34, hc1⟩
   ·refine w_condt rfl c34 <| awp_seq <| w_reg <| s_mov (.int .i64 (s8_17 : Int)) rfl <| s_mov (.int .i64 (s8_17 : Int)) rfl <| w_done <| k_seq <| w_ret <| ?_; obtain rfl := os hc1; obtain rfl := os hf; exact r_flat ⟨trivial, trivial⟩ rfl (.refl _)
   ·refine w_condf rfl (bf c34) <| w_skip <| k_blk <| k_seq <| w_reg <| s_q (.int .i64 (w64 ((s8_17 : Int) + 1))) rfl rfl rfl <| s_mov (.int .i64 (w64 ((s8_17 : Int) + 1))) rfl <| w_done <| ?_; exact k_loopn ⟨(s8_17 + 1), hc1⟩ (mul hlt25) ⟨[], [], _, _, rfl, rfl, ⟨.refl _, ⟨.of_eq (congrArg (AV.fn _) (hrf_f_2 _)), ⟨.refl _, ⟨.of_eq (congrArg (AV.int _) (w64_incr hlt25 hl3)), trivial⟩⟩⟩⟩, (.refl _)⟩
 ·rintro ⟨_, rfl⟩
  refine awp_seq <| w_reg <| s_mov (.int .i64 (-1)) rfl <| w_done <| k_seq <| w_ret <| ?_; obtain rfl := os hf; exact r_flat ⟨trivial, trivial⟩ rfl (.refl _)

/- impl.drop$1 -/
def c102 : ACode :=
 (.seq (.reg (tq 2 (.box 2 (.t 0)) (tm 3 (.c (.bool false)) .done)))
 (.seq (.reg (tq 4 (.faddr 0 (.t 2)) (tq 5 (.load 1 false (.t 4)) (tq 6 (.load 1 false (.t 1)) (tq 7 (.bin .eql (.t 5) (.t 6)) (tm 3 (.t 7) .done))))))
 .ret))
theorem fc102 : fcomp Try.prog Try.f102 = some (c102.erase, [.mov (.t 3)], 8) := by kernel_rfl
def impl_drop_1 (r_1 : GRow) (cap_2 : Int) : Option Bool :=
    some (r_1.Id == cap_2)
theorem w_impl_drop_1 (r_1 : GRow) (cap_2 : Int) (r : Bool) (hf : impl_drop_1 r_1 cap_2 = some r) : CallOK Try.prog 102 .flat [(encGRow r_1), (.iptr (.int .i64 cap_2) 0)] (.bool r) := by
  refine CallOK.of_awp mixed Try.func102 fc102 nle ?_
  rw [argT_eq]
  unfold impl_drop_1 at hf
  unfold c102
  refine (show awp Try.prog false 0 _ (ofL [(0, (encGRow r_1)), (1, (.iptr (.int .i64 cap_2) 0))]) [] _ from ?_)
  refine awp_seq ?_
  refine w_reg ?_
  refine s_do (o_box (j := 0) (c := (.agg [(.int .i64 r_1.Id), (.lst 1 (r_1.Cells.map (encL 3 encGAtom)))])) rfl trivial rfl rfl) ?_
  refine s_do (o_mov (.bool false) rfl) ?_
  refine w_done ?_
  refine k_seq ?_
  refine awp_seq ?_
  refine w_reg ?_
  refine s_do (o_q (.ptr 0 0 0) rfl trivial rfl) ?_
  refine s_do (o_q (.int .i64 r_1.Id) rfl nle rfl) ?_
  refine s_do (o_q (.int .i64 cap_2) rfl ⟨rfl, rfl⟩ rfl) ?_
  refine s_do (o_q (.bool (r_1.Id == cap_2)) rfl rfl rfl) ?_
  refine s_do (o_mov (.bool (r_1.Id == cap_2)) rfl) ?_
  refine w_done ?_
  refine k_seq ?_
  refine w_ret ?_
  obtain rfl := os hf
  exact r_flat ⟨trivial, trivial⟩ rfl (.refl _)

/- impl.drop -/
def impl_drop_h0 (a0 : List GRow) (a1 : Int) : Option (List GRow) :=
    some (a0.filter fun x => !(x.Id == a1))
/- HAND -/
section
open Go.RowKit Go.Lib
set_option maxHeartbeats 4000000 in
set_option maxRecDepth 100000 in
theorem del101_impl_drop_h0_none (kf : Nat) (lb : Array Value) (v : Value) (w : World)
    (hidx : Calls Try.prog 115 #[v, .func (.func kf) #[] lb] w fun e w' => e = .returned (.int .i64 (-1)) ∧ Below w.heap.size w w') :
    Calls Try.prog 101 #[v, .func (.func kf) #[] lb] w fun e w' => e = .returned v ∧ Below w.heap.size w w' := by
  have mixed : Try.prog.follows .mixedOrders = true := by kernel_rfl
  go_enter Try.func101, (show Try.f101.ntmps = 42 from rfl)
  go_wp2_with (go_at_call 115; refine hidx.mono ?_; rintro e w' ⟨rfl, hb⟩)
  go_ret
  exact ⟨rfl, hb⟩
set_option maxHeartbeats 4000000 in
set_option maxRecDepth 100000 in
theorem del101_impl_drop_h0 (kf : Nat) (lb : Array Value) (eg : ∀ args w, (callFunc kf args).run Try.prog w = .ok (.enter kf args) w) (w : World) (g n c : Nat) (e : TypeId) (rest : List Value) (d : Array (Value × Value)) (kp : Nat → Bool) (k0 : Nat) (hn : d.size = n) (hnc : n ≤ c) (hc : c ≤ maxLen)
    (hrow : DW w g e rest d w) (hone : ∀ x ∈ d.toList, x.1.oneCell' = true ∧ x.2.oneCell' = true) (hkeep : ∀ j, j < k0 → kp j = true) (hdrop : kp k0 = false) (hk0 : k0 < n)
    (hidx : Calls Try.prog 115 #[.slice (some ⟨g, 0, none⟩) n c, .func (.func kf) #[] lb] w fun e w' => e = .returned (.int .i64 k0) ∧ Below w.heap.size w w')
    (hcall : ∀ (W : World) (dk : Array (Value × Value)) (j : Nat), j < n → DW w g e rest dk W → Calls Try.prog kf (#[.agg #[(d[j]!).1, (d[j]!).2]] ++ lb) W fun e w' => e = .returned (.bool (!kp j)) ∧ Below W.heap.size W w')
    (hcl : ∀ (W : World) (dk : Array (Value × Value)) (i : Nat), i < n → dk.size = n → DW w g e rest dk W → ∃ dk' W2, (∀ ty, (Builtin.clear_ #[26] ty #[.slice (some ⟨g, i * 2, none⟩) (n - i) (c - i)]).run Try.prog W = .ok (.tuple #[]) W2) ∧ DW w g e rest dk' W2 ∧ dk'.size = n ∧ dk'.toList.take i = dk.toList.take i) :
    Calls Try.prog 101 #[.slice (some ⟨g, 0, none⟩) n c, .func (.func kf) #[] lb] w fun e' w' =>
      e' = .returned (.slice (some ⟨g, 0, none⟩) (keptUpTo kp d n).length c) ∧ ∃ dk, DW w g e rest dk w' ∧ dk.size = n ∧ dk.toList.take (keptUpTo kp d n).length = keptUpTo kp d n := by
  have mixed : Try.prog.follows .mixedOrders = true := by kernel_rfl
  have hc63 : c ≤ 9223372036854775807 := by unfold maxLen at hc; omega
  have hne1 : ((k0 : Int) == -1) = false := beq_eq_false_iff_ne.2 (by omega)
  have HC : Aside _ := hcall
  have HCL : Aside _ := hcl
  have HO : Aside _ := hone
  have H0 : Aside _ := hrow
  clear hcall hcl hone hrow
  go_enter Try.func101, (show Try.f101.ntmps = 42 from rfl)
  go_wp2_with (go_at_call 115; refine hidx.mono ?_; rintro e w' ⟨rfl, hb0⟩)
  have D0 : Aside (DW w g e rest d w') := H0.out.below hb0
  clear hb0
  go_loopg [5, 6, 7] n (fun gg s5 s6 _ wr => ∃ (i j : Nat) (dk : Array (Value × Value)), s5 = .int .i64 i ∧ s6 = .int .i64 j ∧ j ≤ n ∧ n - j ≤ gg ∧ Aside (DW w g e rest dk wr) ∧ Aside (KeptInv kp d j i dk))
  case atStart => exact ⟨k0, k0 + 1, d, rfl, by go_num, by omega, by omega, D0, KeptInv.start hkeep hdrop⟩
  case round =>
    obtain ⟨i, j, dk, rfl, rfl, hjd, hgg, S1, I⟩ := hrel
    have hij := I.out.lt
    have hds := I.out.size
    by_cases hlt : j < n
    · have hltz : (j : Int) < (n : Int) := by omega
      obtain ⟨c1, c2⟩ := S1.out.cells j (by omega)
      rw [I.out.high j (by omega)] at c1 c2
      have hm : d[j]! ∈ d.toList := by rw [getElem!_pos d j (by omega)]; simp
      obtain ⟨o1, o2⟩ := HO.out _ hm
      have X : Aside (d[j]! = ((d[j]!).1, (d[j]!).2)) := rfl
      clear hm
      generalize (d[j]!).1 = x1 at c1 c2 o1 o2 X
      generalize (d[j]!).2 = x2 at c1 c2 o1 o2 X
      have st1 : ∀ a m W, Sem.run Try.prog (store a x1 m) W = stored Try.prog W a x1 m := fun a m W => run_store _ _ _ _ _ o1
      have st2 : ∀ a m W, Sem.run Try.prog (store a x2 m) W = stored Try.prog W a x2 m := fun a m W => run_store _ _ _ _ _ o2
      have D1 : Aside (DW w g e rest dk (wr.alloc (.cells #[x1, x2] 70))) := S1.out.alloc _
      have hcall := HC.out (wr.alloc (.cells #[x1, x2] 70)) dk j hlt D1.out
      rw [X.out] at hcall
      have hsz : (wr.alloc (.cells #[x1, x2] 70)).heap.size = wr.heap.size + 1 := Array.size_push ..
      cases hq : kp j with
      | true =>
        rw [hq] at hcall
        go_wp2_with fail
        refine hcall.mono ?_
        rintro e' w2 ⟨rfl, hb⟩
        have D2 : Aside (DW w g e rest dk w2) := D1.out.below hb
        have b1 : w2.cell? ⟨wr.heap.size, 0, none⟩ = some x1 := by
          rw [hb.cell (p := ⟨wr.heap.size, 0, none⟩) (by rw [hsz]; exact Nat.lt_succ_self _)]
          exact (World.cell?_alloc_at (w := wr) _ _ _ _ rfl).trans rfl
        have b2 : w2.cell? ⟨wr.heap.size, 1, none⟩ = some x2 := by
          rw [hb.cell (p := ⟨wr.heap.size, 1, none⟩) (by rw [hsz]; exact Nat.lt_succ_self _)]
          exact (World.cell?_alloc_at (w := wr) _ _ _ _ rfl).trans rfl
        obtain ⟨i1, i2⟩ := D2.out.cells i (by omega)
        have f1 := D2.out.frozen (i * 2)
        have f2 := D2.out.frozen (i * 2 + 1)
        have D3 : Aside _ := D2.out.put i (by omega) x1 x2
        generalize (dk[i]!).1 = y1 at i1
        generalize (dk[i]!).2 = y2 at i2
        clear hb hcall hsz c1 c2 D1 D2
        generalize wr.heap.size = bx at b1 b2 ⊢
        have hin : (i : Int) < (n : Int) := by omega
        go_wp2_with fail
        go_roundg (n - (j + 1))
        case measure => omega
        case rel =>
          have hk := I.out.keep (by omega) hq
          rw [X.out] at hk
          exact ⟨i + 1, j + 1, dk.setIfInBounds i (x1, x2), by go_num, by go_num, by omega, Nat.le_refl _, D3, hk⟩
      | false =>
        rw [hq] at hcall
        go_wp2_with (refine hcall.mono ?_; rintro e' w2 ⟨rfl, hb⟩)
        go_roundg (n - (j + 1))
        case measure => omega
        case rel => exact ⟨i, j + 1, dk, rfl, by go_num, by omega, Nat.le_refl _, D1.out.below hb, I.out.skip hq⟩
    · have hjn : j = n := by omega
      subst hjn
      have hltz : ¬ (j : Int) < (j : Int) := by omega
      have hin : (i : Int) ≤ (j : Int) := by omega
      have hin2 : i ≤ j := by omega
      have hic : (i : Int) ≤ (c : Int) := by omega
      have hicn : i ≤ c := by omega
      have hci : ¬ c = i := by omega
      obtain ⟨d', W2, hc1, hd, hs, ht⟩ : ∃ d' W2, (∀ ty, (Builtin.clear_ #[26] ty #[.slice (some ⟨g, i * 2, none⟩) (j - i) (c - i)]).run Try.prog wr = .ok (.tuple #[]) W2) ∧ DW w g e rest d' W2 ∧ d'.size = j ∧ d'.toList.take i = dk.toList.take i := HCL.out wr dk i hij (by omega) S1.out
      have D : Aside (DW w g e rest d' W2 ∧ d'.size = j ∧ d'.toList.take i = dk.toList.take i) := ⟨hd, hs, ht⟩
      clear hd hs ht
      go_wp2_with fail
      go_ret
      have hl := I.out.len
      refine ⟨by rw [hl]; rfl, d', D.out.1, D.out.2.1, ?_⟩
      rw [hl, D.out.2.2]
      apply List.ext_getElem?
      intro t
      by_cases htt : t < i
      · rw [List.getElem?_take_of_lt htt, I.out.low t htt, getElem!_pos dk t (by omega)]
        simp
      · rw [List.getElem?_eq_none (by rw [List.length_take]; omega), List.getElem?_eq_none (by omega)]
theorem info70_impl_drop_h0 : ∃ i : TypeInfo, Try.prog.info? 70 = some i ∧ i.size = 2 ∧ i.bytes = 32 ∧ i.zero = some (.agg #[.int .i64 0, .slice none 0 0]) := info_of (by kernel_rfl)
theorem und26_impl_drop_h0 : Try.prog.underlying 26 = some (.slice 70) := by kernel_rfl
theorem idx115_impl_drop_h0 (id : Int) : ∀ (xs : List GRow) (s : Nat), (slices_IndexFunc_impl_Row_impl_Row_L1 (fun x => impl_drop_1 x id) xs s = some (.go ()) ∧ ∀ x ∈ xs, (x.Id == id) = false) ∨
    ∃ k, k < xs.length ∧ slices_IndexFunc_impl_Row_impl_Row_L1 (fun x => impl_drop_1 x id) xs s = some (.ret ((s + k : Nat) : Int)) ∧ (∀ (j : Nat) x, j < k → xs[j]? = some x → (x.Id == id) = false) ∧ ∀ x, xs[k]? = some x → (x.Id == id) = true
  | [], s => .inl ⟨rfl, by simp⟩
  | x :: xs, s => by
    cases hx : (x.Id == id) with
    | true =>
      refine .inr ⟨0, by simp, ?_, fun j y hj => by omega, fun y hy => by simp at hy; rw [← hy]; exact hx⟩
      rw [slices_IndexFunc_impl_Row_impl_Row_L1]
      simp only [impl_drop_1, Option.bind_some, hx, if_true]
      rfl
    | false =>
      have e : slices_IndexFunc_impl_Row_impl_Row_L1 (fun x => impl_drop_1 x id) (x :: xs) s = slices_IndexFunc_impl_Row_impl_Row_L1 (fun x => impl_drop_1 x id) xs (s + 1) := by
        rw [slices_IndexFunc_impl_Row_impl_Row_L1]
        simp only [impl_drop_1, Option.bind_some, hx]
        rfl
      rw [e]
      rcases idx115_impl_drop_h0 id xs (s + 1) with ⟨h1, h2⟩ | ⟨k, h1, h2, h3, h4⟩
      · refine .inl ⟨h1, fun y hy => ?_⟩
        rcases List.mem_cons.1 hy with rfl | hy
        · exact hx
        · exact h2 y hy
      · refine .inr ⟨k + 1, by simpa using h1, by rw [h2]; congr 2; omega, ?_, fun y hy => h4 y (by simpa using hy)⟩
        intro j y hj hy
        rcases j with _ | j
        · simp at hy; rw [← hy]; exact hx
        · exact h3 j y (by omega) (by simpa using hy)
set_option maxHeartbeats 4000000 in
set_option maxRecDepth 100000 in
theorem drop80_impl_drop_h0 (w : World) (v : Value) (id : Int) (R : Value → World → Prop)
    (h : Calls Try.prog 101 #[v, .func (.func 102) #[] #[.pointer (some ⟨w.heap.size, 0, none⟩)]] (w.alloc (.cells #[.int .i64 id] 3)) fun e w' => ∃ r, e = .returned r ∧ R r w') :
    Calls Try.prog 80 #[v, .int .i64 id] w fun e w' => ∃ r, e = .returned r ∧ R r w' := by
  have mixed : Try.prog.follows .mixedOrders = true := by kernel_rfl
  go_enter Try.func80, (show Try.f80.ntmps = 8 from rfl)
  go_wp2_with (go_at_call 101; refine h.mono ?_; rintro e w' ⟨r, rfl, hr⟩)
  go_ret
  exact ⟨_, rfl, hr⟩
set_option maxHeartbeats 4000000 in
set_option maxRecDepth 100000 in
theorem dropH80_impl_drop_h0 (dm : Md) (xs : List GRow) (id : Int) : CallHeap Try.prog dm 80 [.own 0 0 xs.length, .int .i64 id] [.row 2 (xs.map encGRow)] (.own 1 0 (xs.filter fun x => !(x.Id == id)).length) [.dead, .row 2 ((xs.filter fun x => !(x.Id == id)).map encGRow)] := by
  intro C σ φ w vals _ _ hok hb hr hv
  simp only [RVs] at hv
  obtain ⟨v1, _, rfl, h1, v2, _, rfl, h2, rfl⟩ := hv
  have e2 : v2 = .int .i64 id := by simpa only [RV] using h2
  subst e2
  obtain ⟨ti, hti, hts, htb, htz⟩ := info70_impl_drop_h0
  have hsz : (w.alloc (.cells #[.int .i64 id] 3)).heap.size = w.heap.size + 1 := Array.size_push ..
  have hbel : Below w.heap.size w (w.alloc (.cells #[.int .i64 id] 3)) := (Below.refl _ _).alloc (Nat.le_refl _) _
  have hbx : (w.alloc (.cells #[.int .i64 id] 3)).heap[w.heap.size]? = some (.cells #[.int .i64 id] 3 (0, 0)) := by
    show (w.heap.push _)[w.heap.size]? = _
    rw [Array.getElem?_push, if_pos rfl]
  have hcap : ∀ W, W.heap[w.heap.size]? = some (.cells #[.int .i64 id] 3 (0, 0)) → Rep false W (.iptr (.int .i64 id) 0) [.pointer (some ⟨w.heap.size, 0, none⟩)] [w.heap.size] := by
    intro W hW
    simp only [Rep]
    exact ⟨w.heap.size, 0, 1, _, _, _, [], rfl, hW, rfl, rfl, rfl, rfl⟩
  have hfn : ∀ W, W.heap[w.heap.size]? = some (.cells #[.int .i64 id] 3 (0, 0)) → Rep false W (.fn 102 [.iptr (.int .i64 id) 0]) [.func (.func 102) #[] #[.pointer (some ⟨w.heap.size, 0, none⟩)]] [w.heap.size] := by
    intro W hW
    simp only [Rep, RepVs]
    exact ⟨_, rfl, _, [], [w.heap.size], [], rfl, hcap W hW, ⟨rfl, rfl⟩, rfl⟩
  have hidx : ∀ r, slices_IndexFunc_impl_Row_impl_Row xs (fun x => impl_drop_1 x id) = some r → ∀ fp, RepV false (w.alloc (.cells #[.int .i64 id] 3)) (.lst 2 (xs.map encGRow)) v1 fp →
      Calls Try.prog 115 #[v1, .func (.func 102) #[] #[.pointer (some ⟨w.heap.size, 0, none⟩)]] (w.alloc (.cells #[.int .i64 id] 3)) fun e w' => e = .returned (.int .i64 r) ∧ Below (w.alloc (.cells #[.int .i64 id] 3)).heap.size (w.alloc (.cells #[.int .i64 id] 3)) w' := by
    intro r hr0 fp hfp
    have hc := w_slices_IndexFunc_impl_Row_impl_Row xs (fun x => impl_drop_1 x id) r hr0 102 [.iptr (.int .i64 id) 0] (by kernel_rfl) (fun _ _ => rfl) (fun _ => rfl) (fun x r h => w_impl_drop_1 x id r h)
    have := hc (w.alloc (.cells #[.int .i64 id] 3)) [v1, .func (.func 102) #[] #[.pointer (some ⟨w.heap.size, 0, none⟩)]] (fp ++ [w.heap.size]) (by
      obtain ⟨cs, rfl, hcs⟩ := hfp
      simp only [RepVs]
      exact ⟨cs, _, fp, [w.heap.size], rfl, hcs, ⟨_, [], [w.heap.size], [], rfl, hfn _ hbx, ⟨rfl, rfl⟩, rfl⟩, rfl⟩)
    refine this.mono ?_
    intro e w' he
    cases e with
    | returned v =>
      obtain ⟨q1, cs, rfl, q2⟩ := he
      simp only [Rep] at q2
      obtain ⟨rfl, _⟩ := q2
      exact ⟨rfl, q1⟩
    | panicked _ => exact he.elim
    | outgrown => exact he.elim
  rcases own_raw hr rfl h1 (by simp) with ⟨rfl, hl, hs0, hp0⟩ | ⟨g, c, cur, e, hσ, rfl, hnc, hcm, hg, hcs, hrep⟩
  · have hx : xs = [] := by simpa using hl
    subst hx
    have hi := hidx (-1) rfl [] ⟨_, rfl, by simp only [Rep, List.map_nil]; exact .inl ⟨trivial, trivial, none, 0, rfl, Nat.zero_le _, fun _ => ⟨rfl, rfl⟩⟩⟩
    refine (drop80_impl_drop_h0 w _ id (fun r w' => r = .slice none 0 0 ∧ Below (w.alloc (.cells #[.int .i64 id] 3)).heap.size (w.alloc (.cells #[.int .i64 id] 3)) w') ((del101_impl_drop_h0_none 102 _ _ _ hi).mono (fun e w' h => ⟨_, h.1, rfl, h.2⟩))).mono ?_
    rintro e' w' ⟨r, rfl, rfl, hb1⟩
    have hb2 : Below w.heap.size w w' := hbel.trans (hb1.mono (by omega))
    obtain ⟨σ', φ', k1, k2, k3⟩ := nil_fin hr hb2
    refine ⟨σ', φ', k1, k2.x, ?_, hb2.mono ?_⟩
    · simp only [List.filter_nil, List.map_nil, List.length_nil, RV, List.getElem?_cons_succ, List.getElem?_cons_zero]
      exact ⟨none, 0, rfl, by simp, Nat.zero_le _, Nat.zero_le _, by rw [k3]; exact ⟨rfl, rfl⟩⟩
    · exact (hb _ (Nat.le_refl _)).1
  · have hlen := hrep.length
    rw [List.length_map] at hlen
    have hcl : cur.toList.length = c * 2 := by rw [← hcs]; simp
    have hgl : g < w.heap.size := by
      rcases Nat.lt_or_ge g w.heap.size with h | h
      · exact h
      · rw [Array.getElem?_eq_none h] at hg; cases hg
    have hge : C.mine g := hr.base 0 _ g c rfl rfl hσ
    have hCb : C.base ≤ w.heap.size := (hb _ (Nat.le_refl _)).1
    obtain ⟨d, hd1, hd2⟩ := fl2_of xs.length (cur.toList.take (xs.length * 2)) (by rw [List.length_take]; omega)
    obtain ⟨rest, hrest⟩ : ∃ rest, rest = cur.toList.drop (xs.length * 2) := ⟨_, rfl⟩
    have hcur : cur.toList = fl2 d ++ rest := by rw [← hd2, hrest, List.take_append_drop]
    have D0 : DW w g e rest d.toArray w := ⟨rfl, rfl, rfl, Nat.le_refl _, fun _ _ _ => rfl, hgl, by rw [hg]; congr 2; rw [← hcur]⟩
    have D1 : DW (w.alloc (.cells #[.int .i64 id] 3)) g e rest d.toArray (w.alloc (.cells #[.int .i64 id] 3)) :=
      ⟨rfl, rfl, rfl, Nat.le_refl _, fun _ _ _ => rfl, by rw [hsz]; omega, (D0.alloc _).row⟩
    have hrepd : RepS C.dm w 2 (xs.map encGRow) (fl2 d) (φ 0) := RepS.congr (by rw [List.length_map, ← hd2, List.take_take, Nat.min_self]) hrep
    have hphi : ∀ b ∈ φ 0, b < w.heap.size ∧ b ≠ g := fun b hb' => ⟨RepS.lt _ _ _ hrep b hb', phi_not_live_ne hr rfl hb' rfl rfl hσ⟩
    have hlst : RepV false (w.alloc (.cells #[.int .i64 id] 3)) (.lst 2 (xs.map encGRow)) (.slice (some ⟨g, 0, none⟩) xs.length c) (g :: φ 0) := by
      refine ⟨[.slice (some ⟨g, 0, none⟩) xs.length c], rfl, ?_⟩
      simp only [Rep]
      refine .inr ⟨g, 0, c, cur, e, (0, 0), φ 0, by rw [List.length_map], by rw [List.length_map]; exact hnc, hcm, by rw [hbel.block g hgl]; exact hg, by simp, rfl, by decide, ?_⟩
      exact RepS.weak _ _ _ (RepS.world (w := w) _ _ _ (fun b hb' => hbel.block b (hphi b hb').1) (by simpa using hrep))
    have base : ∀ w', DW (w.alloc (.cells #[.int .i64 id] 3)) g e rest d.toArray w' ∨ True → True := fun _ _ => trivial
    have fin : ∀ (w' : World) (dk : List (Value × Value)) (xs' : List GRow) (f : List Nat), DW (w.alloc (.cells #[.int .i64 id] 3)) g e rest dk.toArray w' → dk.length = xs.length → xs'.length ≤ xs.length → RepS C.dm w 2 (xs'.map encGRow) (fl2 (dk.take xs'.length)) f → List.Sublist f (φ 0) →
        ∃ σ' φ', HeapRel C σ' φ' [.dead, .row 2 (xs'.map encGRow)] w' ∧ EvX C σ [.row 2 (xs.map encGRow)] w σ' [.dead, .row 2 (xs'.map encGRow)] w' ∧ RV C σ' [.dead, .row 2 (xs'.map encGRow)] w' (.own 1 0 xs'.length) (.slice (some ⟨g, 0, none⟩) xs'.length c) ∧ Below C.base w w' := by
      intro w' dk xs' f D hdk hx' hf hsub
      have hblk : ∀ b, b < w.heap.size → b ≠ g → w'.heap[b]? = w.heap[b]? := fun b hb' hbg => (D.block b (by rw [hsz]; omega) hbg).trans (hbel.block b hb')
      have hdl : dk.length ≤ c := by omega
      have hcs' : (fl2 dk ++ rest).toArray.size = c * 2 := by
        have : (fl2 d ++ rest).length = c * 2 := by rw [← hcur]; exact hcl
        rw [List.size_toArray, List.length_append, fl2_len, hdk, ← hd1, ← fl2_len, ← List.length_append, this]
      obtain ⟨σ', φ', k1, k2, k3⟩ := sub_fin (w' := w') (l' := xs'.map encGRow) hr (Nat.le_trans (by rw [hsz]; omega) D.size) hσ hcm hblk D.row hcs' hsub hf (by
        rw [List.length_map]
        simp only [List.toList_toArray]
        rw [← fl2_take _ _ (by omega), List.take_take, Nat.min_self, List.take_append_of_le_length (by rw [fl2_len]; omega)])
      refine ⟨σ', φ', k1, k2.x, ?_, ⟨D.os, D.tape, D.output, Nat.le_trans (by rw [hsz]; omega) D.size, fun k hk => hblk k (by omega) (by have := hge.1; omega)⟩⟩
      simp only [RV, List.getElem?_cons_succ, List.getElem?_cons_zero]
      exact ⟨_, c, rfl, by rw [List.length_map]; omega, by omega, hcm, by rw [k3]; simp⟩
    have hidx115 := idx115_impl_drop_h0 id xs 0
    rcases hidx115 with ⟨q1, q2⟩ | ⟨k, q0, q1, q2, q3⟩
    · have hi := hidx (-1) (by unfold slices_IndexFunc_impl_Row_impl_Row; rw [q1]; rfl) _ hlst
      refine (drop80_impl_drop_h0 w _ id (fun r w' => r = .slice (some ⟨g, 0, none⟩) xs.length c ∧ Below (w.alloc (.cells #[.int .i64 id] 3)).heap.size (w.alloc (.cells #[.int .i64 id] 3)) w') ((del101_impl_drop_h0_none 102 _ _ _ hi).mono (fun e w' h => ⟨_, h.1, rfl, h.2⟩))).mono ?_
      rintro e' w' ⟨r, rfl, rfl, hb1⟩
      have hfe : (xs.filter fun x => !(x.Id == id)) = xs := List.filter_eq_self.2 (fun x hx => by rw [q2 x hx]; rfl)
      rw [hfe]
      exact fin w' d xs (φ 0) (D1.below hb1) hd1 (Nat.le_refl _) (by rw [← hd1, List.take_length]; exact hrepd) (List.Sublist.refl _)
    · obtain ⟨kp, hkp⟩ : ∃ kp : Nat → Bool, kp = fun j => !((xs[j]?).map (fun x => x.Id == id)).getD false := ⟨_, rfl⟩
      have hkx : ∀ (j : Nat) x, xs[j]? = some x → kp j = !(x.Id == id) := fun j x hj => by rw [hkp]; simp only [hj, Option.map_some, Option.getD_some]
      have hkg : ∀ j (hj : j < xs.length), kp j = !(xs[j].Id == id) := fun j hj => hkx j _ (List.getElem?_eq_getElem hj)
      have hi := hidx (k : Int) (by unfold slices_IndexFunc_impl_Row_impl_Row; rw [q1, Nat.zero_add]; rfl) _ hlst
      obtain ⟨f, hf1, hf2⟩ := filter_sub (xs.map encGRow) d (φ 0) kp (by rw [List.length_map, hd1]) hrepd
      rw [← filter_idx (fun x => !(x.Id == id)) xs kp hkx] at hf1
      have hkept : keptUpTo kp d.toArray d.toArray.size = ((List.range d.length).filter kp).map (d.toArray[·]!) := by unfold keptUpTo; rw [List.size_toArray]
      have hkl : (keptUpTo kp d.toArray d.toArray.size).length = (xs.filter fun x => !(x.Id == id)).length := by
        rw [hkept, List.length_map]
        have := congrArg List.length (filter_idx (enc := encGRow) (fun x => !(x.Id == id)) xs kp hkx)
        rw [List.length_map, List.length_map, List.length_map] at this
        rw [this, hd1]
      have hdel := del101_impl_drop_h0 102 #[.pointer (some ⟨w.heap.size, 0, none⟩)] (enters_of Try.func102 (by kernel_rfl) rfl) (w.alloc (.cells #[.int .i64 id] 3)) g xs.length c e rest d.toArray kp k (by rw [List.size_toArray, hd1]) hnc hcm D1
        (by
          have h1c := RepS.oneCell hrepd
          rw [List.length_map, ← hd1, ← fl2_len, List.take_length] at h1c
          intro x hx
          simp only [List.toList_toArray] at hx
          refine ⟨h1c _ ?_, h1c _ ?_⟩ <;> exact List.mem_flatMap.2 ⟨x, hx, by simp⟩)
        (fun j hj => by rw [hkg j (by omega), q2 j _ hj (List.getElem?_eq_getElem (by omega))]; rfl)
        (by rw [hkg k q0, q3 _ (List.getElem?_eq_getElem q0)]; rfl) q0 hi
        (by
          intro W dk j hj DWk
          have hxj : (xs.map encGRow)[j]? = some (encGRow xs[j]) := by rw [List.getElem?_map, List.getElem?_eq_getElem hj]; rfl
          obtain ⟨fj, r1, r2, r3⟩ := hrepd.get hxj
          have hjd : j < d.length := by omega
          have hdj : d.toArray[j]! = d[j] := by rw [getElem!_pos d.toArray j (by simpa using hjd)]; simp
          rw [fl2_drop d j hjd] at r1
          have r1' : Rep false W (encGRow xs[j]) [d[j].1, d[j].2] fj := Rep.weak _ _ _ (Rep.world (w := w) _ _ _ (fun b hb' => (DWk.block b (by rw [hsz]; have := (hphi b (r2 b hb')).1; omega) (hphi b (r2 b hb')).2).trans (hbel.block b (hphi b (r2 b hb')).1)) r1)
          have hbW : W.heap[w.heap.size]? = some (.cells #[.int .i64 id] 3 (0, 0)) := (DWk.block _ (by rw [hsz]; omega) (by omega)).trans hbx
          have hc := w_impl_drop_1 xs[j] id (xs[j].Id == id) rfl W [.agg #[d[j].1, d[j].2], .pointer (some ⟨w.heap.size, 0, none⟩)] (fj ++ [w.heap.size]) (by
            simp only [RepVs]
            exact ⟨_, _, fj, [w.heap.size], rfl, r1', ⟨_, [], [w.heap.size], [], rfl, hcap W hbW, ⟨rfl, rfl⟩, rfl⟩, rfl⟩)
          rw [hdj]
          refine hc.mono ?_
          intro e w' he
          cases e with
          | returned v =>
            obtain ⟨q1, cs, rfl, q2⟩ := he
            simp only [Rep] at q2
            obtain ⟨rfl, _⟩ := q2
            exact ⟨by rw [hkg j hj, Bool.not_not]; rfl, q1⟩
          | panicked _ => exact he.elim
          | outgrown => exact he.elim)
        (by
          intro W dk i hi hn' DWk
          have hrs : (fl2 dk.toList ++ rest).toArray.size = c * 2 := by
            have : (fl2 d ++ rest).length = c * 2 := by rw [← hcur]; exact hcl
            have h2 : dk.toList.length = d.length := by rw [Array.length_toList, hn', hd1]
            rw [List.size_toArray, List.length_append, fl2_len, h2, ← fl2_len, ← List.length_append, this]
          have hclr := fun ty => run_clear_rowz (P := Try.prog) W 26 ty 70 ti _ g (i * 2) (xs.length - i) (c - i) _ e und26_impl_drop_h0 hti htz (by rw [hts]; rfl) (by decide) DWk.row (by omega) (by rw [hts, hrs, ← Nat.add_mul]; exact Nat.mul_le_mul_right _ (by omega))
          simp only [hts, List.toList_toArray] at hclr
          obtain ⟨dk', g1, g2, g3⟩ := DWk.clear i xs.length (by omega) hn' (Builtin.zeroCells (Value.agg #[.int .i64 0, .slice none 0 0]).cells (xs.length - i)).toList (by rw [Array.length_toList, size_zeroCells]; rfl)
          exact ⟨dk', _, hclr, g1, g2, g3⟩)
      refine (drop80_impl_drop_h0 w _ id (fun r w' => r = .slice (some ⟨g, 0, none⟩) (keptUpTo kp d.toArray d.toArray.size).length c ∧ ∃ dk, DW (w.alloc (.cells #[.int .i64 id] 3)) g e rest dk w' ∧ dk.size = xs.length ∧ dk.toList.take (keptUpTo kp d.toArray d.toArray.size).length = keptUpTo kp d.toArray d.toArray.size) (hdel.mono (fun e w' h => by
        obtain ⟨h1, h2⟩ := h
        rw [show xs.length = d.toArray.size by rw [List.size_toArray, hd1]] at h1 h2 ⊢
        exact ⟨_, h1, rfl, h2⟩))).mono ?_
      rintro e' w' ⟨r, rfl, rfl, dk, g1, g2, g3⟩
      rw [hkl] at g3 ⊢
      refine fin w' dk.toList _ f (by simpa using g1) (by simpa using g2) (List.length_filter_le _ _) ?_ hf2
      rw [g3, hkept]
      exact hf1
end
theorem w_impl_drop_h0 (a0 : List GRow) (a1 : Int) (r : List GRow) (hf : impl_drop_h0 a0 a1 = some r) : CallHeap Try.prog true 80 [.own 0 0 a0.length, .int .i64 a1] [.row 2 (a0.map encGRow)] (.own 1 0 r.length) [.dead, .row 2 (r.map encGRow)] := by
  unfold impl_drop_h0 at hf
  obtain rfl := os hf
  exact dropH80_impl_drop_h0 true a0 a1

/- slices.Insert[[]impl.Row,impl.Row] -/
def slices_Insert_impl_Row_impl_Row_h0 (a0 : List GRow) (a1 : Int) (a2 : List GRow) : Option (List GRow) :=
    if (0 ≤ a1 ∧ a1 ≤ (a0.length : Int)) ∧ 0 < a2.length ∧ a0.length + a2.length ≤ 2 ^ 30 then
    some (a0.take a1.toNat ++ a2 ++ a0.drop a1.toNat)
    else none
/- HAND -/
open Go.RowKit

theorem undS_slices_Insert_impl_Row_impl_Row_h0 : Try.prog.underlying 26 = some (.slice 70) := by kernel_rfl
theorem undN_slices_Insert_impl_Row_impl_Row_h0 : Try.prog.underlying 3 = some (.int .i64) := by kernel_rfl
theorem info_slices_Insert_impl_Row_impl_Row_h0 : ∃ i : TypeInfo, Try.prog.info? 70 = some i ∧ i.size = 2 ∧ i.bytes = 32 ∧ i.zero = some (.agg #[.int .i64 0, .slice none 0 0]) := info_of (by kernel_rfl)
theorem ov_slices_Insert_impl_Row_impl_Row_h0 (w : World) (g vb o m vc lb cb : Nat) (cur curv : Array Value) (e ev : TypeId) (hg : w.heap[g]? = some (.cells cur e (0, 0))) (hv : w.heap[vb]? = some (.cells curv ev (0, 0))) (hne : vb ≠ g) (hs : cur.size ≠ 0) :
    (callFunc 116 #[.slice (some ⟨vb, 0, none⟩) m vc, .slice (some ⟨g, o, none⟩) lb cb]).run Try.prog w = .ok (.value (.bool false)) w := by
  obtain ⟨ti, hti, hts, htb, htz⟩ := info_slices_Insert_impl_Row_impl_Row_h0
  rw [run_callFunc_extern Try.func116 (by kernel_rfl) (by kernel_rfl) (by kernel_rfl) (e := Extern.SlicesOverlaps.overlaps #[26, 26] #[4]) (by kernel_rfl),
    Lib.run_overlaps_apart w 26 4 70 undS_slices_Insert_impl_Row_impl_Row_h0 2 (fun w => by simp [sizeOf, typeInfo, hti, hts]) ⟨vb, 0, none⟩ ⟨g, o, none⟩ m vc lb cb hne ev e curv.size cur.size (by simp [World.shape?, hv]) (by simp [World.shape?, hg]) hs (by simp [World.frozen?, hv]) (by simp [World.frozen?, hv])]
  rfl

set_option maxRecDepth 100000 in
theorem ins_end_slices_Insert_impl_Row_impl_Row_h0 (w : World) (a b : Option Addr) (n c m vc : Nat) (u : Value) (w' : World) (hm : 0 < m)
    (hap : (Builtin.append_ #[26, 26] 26 #[.slice a n c, .slice b m vc]).run Try.prog w = .ok u w') (hu : a ≠ none ∨ (n = 0 ∧ c = 0)) :
    Calls Try.prog 103 #[.slice a n c, .int .i64 n, .slice b m vc] w fun e' w'' => e' = .returned u ∧ w'' = w' := by
  have hz1 : ¬ ((m : Int) = 0) := by omega
  have mixed : Try.prog.follows .mixedOrders = true := by kernel_rfl
  go_enter Try.func103, (show Try.f103.ntmps = 95 from rfl)
  cases a with
  | none =>
    obtain ⟨rfl, rfl⟩ := hu.resolve_left (fun h => h rfl)
    go_wp2_with (at_builtin; refine Lib.wpList_append_run _ rfl _ _ _ _ rfl _ _ rfl rfl _ _ hap ?_)
    go_ret
    exact ⟨rfl, rfl⟩
  | some a =>
    obtain ⟨ab, ao, asp⟩ := a
    go_wp2_with (at_builtin; refine Lib.wpList_append_run _ rfl _ _ _ _ rfl _ _ rfl rfl _ _ hap ?_)
    all_goals (go_ret; exact ⟨rfl, rfl⟩)

set_option maxRecDepth 100000 in
theorem ins_shift_slices_Insert_impl_Row_impl_Row_h0 (w : World) (g n c i vb m vc : Nat) (A1 A2 : Array Value) (hi : i < n) (hm : 0 < m) (hroom : n + m ≤ c) (hc : c ≤ maxLen)
    (hov : ∀ o lb cb, (callFunc 116 #[.slice (some ⟨vb, 0, none⟩) m vc, .slice (some ⟨g, o, none⟩) lb cb]).run Try.prog w = .ok (.value (.bool false)) w)
    (h1 : ∀ ty dc sc, (Builtin.copy_ #[26, 26] ty #[.slice (some ⟨g, (i + m) * 2, none⟩) (n + m - (i + m)) dc, .slice (some ⟨g, i * 2, none⟩) (n + m - i) sc]).run Try.prog w.drew = .ok (goInt (n - i : Nat)) (w.drew.setRow g A1))
    (h2 : ∀ ty dc, (Builtin.copy_ #[26, 26] ty #[.slice (some ⟨g, i * 2, none⟩) (n + m - i) dc, .slice (some ⟨vb, 0, none⟩) m vc]).run Try.prog (w.drew.setRow g A1) = .ok (goInt m) ((w.drew.setRow g A1).setRow g A2)) :
    Calls Try.prog 103 #[.slice (some ⟨g, 0, none⟩) n c, .int .i64 i, .slice (some ⟨vb, 0, none⟩) m vc] w fun e' w' =>
      e' = .returned (.slice (some ⟨g, 0, none⟩) (n + m) c) ∧ w' = (w.drew.setRow g A1).setRow g A2 := by
  have hc63 : c ≤ 9223372036854775807 := by unfold maxLen at hc; omega
  have hz1 : ¬ ((m : Int) = 0) := by omega
  have hz2 : ¬ ((i : Int) = (n : Int)) := by omega
  have hw1 : IntKind.i64.wrap ((i : Int) + (m : Int)) = (i : Int) + (m : Int) := by rw [IntKind.wrap_i64]; omega
  have hb1 : (0 : Int) ≤ (i : Int) + (m : Int) := by omega
  have hin : i ≤ n := by omega
  have htn : ((i : Int) + (m : Int)).toNat = i + m := by omega
  have hb2 : ¬ (c = i + m) := by omega
  have hb3 : (i : Int) ≤ (n : Int) + (m : Int) := by omega
  have hb4 : ¬ (c = i) := by omega
  have mixed : Try.prog.follows .mixedOrders = true := by kernel_rfl
  go_enter Try.func103, (show Try.f103.ntmps = 95 from rfl)
  go_wp2_with (simp only [hov])

  go_region_law_o (refine step_copy_runI rfl _ _ 26 26 rfl _ _ (by simp [Act.eval, Act.put]) (by simp [Act.eval, Act.put]) (h1 _ _ _) ?_)
  go_wp2_with (simp only [h2])
  go_ret
  exact ⟨rfl, rfl⟩

set_option maxRecDepth 100000 in
theorem ins_grow_slices_Insert_impl_Row_impl_Row_h0 (w : World) (g n c i vb m vc G : Nat) (W1 W2 W3 : World) (hi : i < n) (hm : 0 < m) (hnc : n ≤ c) (hroom : c < n + m) (hG : n + m ≤ G) (hGm : G ≤ maxLen)
    (h0 : ∀ ty, (Builtin.append_ #[26, 3] ty #[.slice (some ⟨g, 0, none⟩) i c, .int .i64 ((n : Int) + (m : Int) - (i : Int))]).run Try.prog w = .ok (.slice (some ⟨w.heap.size, 0, none⟩) (n + m) G) W1)
    (h1 : ∀ ty dc, (Builtin.copy_ #[26, 26] ty #[.slice (some ⟨w.heap.size, i * 2, none⟩) (n + m - i) dc, .slice (some ⟨vb, 0, none⟩) m vc]).run Try.prog W1 = .ok (goInt m) W2)
    (h2 : ∀ ty dc sc, (Builtin.copy_ #[26, 26] ty #[.slice (some ⟨w.heap.size, (i + m) * 2, none⟩) (n + m - (i + m)) dc, .slice (some ⟨g, i * 2, none⟩) (n - i) sc]).run Try.prog W2.drew = .ok (goInt (n - i : Nat)) W3) :
    Calls Try.prog 103 #[.slice (some ⟨g, 0, none⟩) n c, .int .i64 i, .slice (some ⟨vb, 0, none⟩) m vc] w fun e' w' =>
      e' = .returned (.slice (some ⟨w.heap.size, 0, none⟩) (n + m) G) ∧ w' = W3 := by
  have hG63 : G ≤ 9223372036854775807 := by unfold maxLen at hGm; omega
  have hz1 : ¬ ((m : Int) = 0) := by omega
  have hz2 : ¬ ((i : Int) = (n : Int)) := by omega
  have hz3 : (c : Int) < (n : Int) + (m : Int) := by omega
  have hGi : ¬ (G = i) := by omega
  have hGim : ¬ (G = i + m) := by omega
  have hci : ¬ (c = i) := by omega
  have hw1 : IntKind.i64.wrap ((i : Int) + (m : Int)) = (i : Int) + (m : Int) := by rw [IntKind.wrap_i64]; omega
  have hb1 : (0 : Int) ≤ (i : Int) + (m : Int) := by omega
  have hin : i ≤ n := by omega
  have htn : ((i : Int) + (m : Int)).toNat = i + m := by omega
  have hb3 : (i : Int) ≤ (n : Int) := by omega
  have mixed : Try.prog.follows .mixedOrders = true := by kernel_rfl
  go_enter Try.func103, (show Try.f103.ntmps = 95 from rfl)
  go_wp2_with (first
    | (at_builtin; refine Lib.wpList_append_run _ rfl _ _ _ _ rfl _ _ rfl rfl _ _ (h0 _) ?_)
    | simp only [h1])
  go_region_law_o (refine step_copy_runI rfl _ _ 26 26 rfl (.slice (some ⟨w.heap.size, (i + m) * 2, none⟩) (n + m - (i + m)) (G - (i + m))) (.slice (some ⟨g, i * 2, none⟩) (n - i) (c - i)) (by simp [Act.eval, Act.put]) (by simp [Act.eval, Act.put]) (h2 _ _ _) ?_)
  go_wp2
  go_ret
  exact ⟨rfl, rfl⟩

theorem insH_slices_Insert_impl_Row_impl_Row_h0 (dm : Md) (l v : List AV) (i : Nat) (hi : i ≤ l.length) (hm : 0 < v.length) (hlim : l.length + v.length ≤ 2 ^ 30) :
    CallHeap Try.prog dm 103 [.own 0 0 l.length, .int .i64 i, .own 1 0 v.length] [.row 2 l, .row 2 v] (.own 2 0 (l.length + v.length)) [.dead, .dead, .row 2 (l.take i ++ v ++ l.drop i)] := by
  intro C σ φ w vals _ _ hok hb hr hv
  simp only [RVs] at hv
  obtain ⟨v1, _, rfl, h1, v2, _, rfl, h2, v3, _, rfl, h3, rfl⟩ := hv
  have e2 : v2 = .int .i64 i := by simpa only [RV] using h2
  subst e2
  obtain ⟨ti, hti, hts, htb, htz⟩ := info_slices_Insert_impl_Row_impl_Row_h0
  rcases own_raw hr (o := 1) rfl h3 rfl with ⟨_, rfl, _⟩ | ⟨vb, vc, curv, ev, hσv, rfl, hmc, hvcm, hgv, hcsv, hrepv⟩
  · simp at hm
  have hraw := own_raw hr (o := 0) rfl h1 rfl
  by_cases hin : i = l.length
  · subst hin
    obtain ⟨u, w', σ', φ', k1, k2, k3, k4, k5⟩ := append_sound (P := Try.prog) hr hb (ty' := 26) undS_slices_Insert_impl_Row_impl_Row_h0 hti htz (by rw [hts]; rfl) (by omega) (by omega) (cons := true) h1 h3
      (l0 := l) (l1 := v) (n := l.length) (m := v.length) (ks0 := [0]) (ks1 := [1]) (by simp [dstOf, hts]) (by simp [srcOf, hts]) (fun _ h => by cases h) (fun _ _ _ h => by cases h) (fun _ => by decide) hlim
    have key : ∀ a c, v1 = .slice a l.length c → (a ≠ none ∨ (l.length = 0 ∧ c = 0)) → Calls Try.prog 103 #[.slice a l.length c, .int .i64 l.length, .slice (some ⟨vb, 0, none⟩) v.length vc] w fun e' w'' => e' = .returned u ∧ w'' = w' := by
      rintro a c rfl hu
      exact ins_end_slices_Insert_impl_Row_impl_Row_h0 w a _ l.length c v.length vc u w' hm k1 hu
    have : Calls Try.prog 103 #[v1, .int .i64 l.length, .slice (some ⟨vb, 0, none⟩) v.length vc] w fun e' w'' => e' = .returned u ∧ w'' = w' := by
      rcases hraw with ⟨rfl, rfl, _⟩ | ⟨g, c, cur, e, _, rfl, _⟩
      · exact key _ _ rfl (.inr ⟨rfl, rfl⟩)
      · exact key _ _ rfl (.inl (by simp))
    refine this.mono ?_
    rintro e' w'' ⟨rfl, rfl⟩
    rw [hts] at k2 k3 k4
    have hL : l.take l.length ++ v ++ l.drop l.length = l ++ v := by simp
    rw [hL]
    exact ⟨σ', φ', k2, k3.x, k4, k5⟩
  · have hil : i < l.length := by omega
    rcases hraw with ⟨_, rfl, _⟩ | ⟨g, c, cur, e, hσ, rfl, hnc, hcm, hg, hcs, hrep⟩
    · simp at hil
    obtain ⟨n, hn⟩ : ∃ n, n = l.length := ⟨_, rfl⟩
    obtain ⟨m, hmm⟩ : ∃ m, m = v.length := ⟨_, rfl⟩
    rw [← hn] at hil hnc hi hlim h1 ⊢
    rw [← hmm] at hm hmc hlim h3 ⊢
    have hlen := hrep.length
    have hlenv := hrepv.length
    rw [← hn] at hlen
    rw [← hmm] at hlenv
    have hcl : cur.toList.length = c * 2 := by rw [← hcs]; simp
    have hone0 := hrep.oneCell
    have honev := hrepv.oneCell
    rw [← hn] at hone0
    rw [← hmm] at honev
    have hvl : (curv.toList.take (m * 2)).length = m * 2 := by rw [List.length_take]; omega
    have hcl2 : ((cur.toList.take (n * 2)).drop (i * 2)).length = (n - i) * 2 := by rw [List.length_drop, List.length_take]; omega
    have hvg : vb ≠ g := by
      rintro rfl
      have := hr.inj 0 1 _ _ vb c vc rfl rfl rfl rfl hσ hσv
      cases this
    have hgb : C.mine g := hr.base 0 _ g c rfl rfl hσ
    have hsv : ∀ j x, (curv.toList.take (m * 2))[j]? = some x → ∀ W : World, W.heap[vb]? = some (.cells curv ev (0, 0)) → W.cell? ((⟨vb, 0, none⟩ : Addr).add j) = some x := fun j x hj W hW => src_at hW 0 (m * 2) j x (by simpa using hj)
    by_cases hroom : n + m ≤ c
    · have hmin1 : Nat.min (n + m - i) (n + m - (i + m)) = n - i := by simp only [Nat.min_def]; split <;> omega
      have hmin2 : Nat.min m (n + m - i) = m := by simp only [Nat.min_def]; split <;> omega
      obtain ⟨A1, hA1⟩ : ∃ A1, A1 = (cur.toList.take ((i + m) * 2) ++ (cur.toList.take (n * 2)).drop (i * 2) ++ cur.toList.drop ((i + m) * 2 + ((cur.toList.take (n * 2)).drop (i * 2)).length)).toArray := ⟨_, rfl⟩
      obtain ⟨A2, hA2⟩ : ∃ A2, A2 = (A1.toList.take (i * 2) ++ curv.toList.take (m * 2) ++ A1.toList.drop (i * 2 + (curv.toList.take (m * 2)).length)).toArray := ⟨_, rfl⟩
      obtain ⟨s1, s2, s3⟩ := ins_cells (z := 2) hi (by omega) hvl hA1 hA2
      have hg1 : w.drew.heap[g]? = some (.cells cur e (0, 0)) := hg
      have hg2 : (w.drew.setRow g A1).heap[g]? = some (.cells A1 e (0, 0)) := setRow_heap _ g cur A1 e _ hg1
      have hv2 : (w.drew.setRow g A1).heap[vb]? = some (.cells curv ev (0, 0)) := (setRow_other _ g vb A1 hvg).trans hgv
      have c1 := fun ty dc sc => run_copy_rowz (P := Try.prog) (ty := ty) w.drew 26 26 70 ti g ((i + m) * 2) (n + m - (i + m)) dc ⟨g, i * 2, none⟩ (n + m - i) sc cur e ((cur.toList.take (n * 2)).drop (i * 2)) undS_slices_Insert_impl_Row_impl_Row_h0 hti hg1 (by rw [hmin1, hts]; exact hcl2) (src_at hg1 (i * 2) (n * 2)) (by omega) (fun x hx => hone0 x (List.mem_of_mem_drop hx))
      rw [← hA1, hmin1] at c1
      have c2 := fun ty dc => run_copy_rowz (P := Try.prog) (ty := ty) (w.drew.setRow g A1) 26 26 70 ti g (i * 2) (n + m - i) dc ⟨vb, 0, none⟩ m vc A1 e (curv.toList.take (m * 2)) undS_slices_Insert_impl_Row_impl_Row_h0 hti hg2 (by rw [hmin2, hts]; exact hvl) (fun j x hj => hsv j x hj _ hv2) (by rw [hvl]; omega) honev
      rw [← hA2, hmin2] at c2
      refine (ins_shift_slices_Insert_impl_Row_impl_Row_h0 w g n c i vb m vc A1 A2 hil hm hroom hcm (fun o lb cb => ov_slices_Insert_impl_Row_impl_Row_h0 w g vb o m vc lb cb cur curv e ev hg hgv hvg (by omega)) c1 c2).mono ?_
      rintro e' w' ⟨rfl, rfl⟩
      obtain ⟨σ', φ', k1, k2, k3⟩ := ins_fin (w' := (w.drew.setRow g A1).setRow g A2) hr hb (by simp) hrep hrepv i (by omega) (.inr ⟨c, hσ⟩) (fun b _ hbg => by rw [setRow_other _ _ _ _ hbg, setRow_other _ _ _ _ hbg]; rfl) (setRow_heap _ g A1 A2 e _ hg2) (by omega) hcm (by rw [← hn, ← hmm]; exact s3.trans (by simp))
      refine ⟨σ', φ', k1, k2.x, ?_, ⟨rfl, rfl, rfl, by simp, fun k hk => by rw [setRow_other _ _ _ _ (by have := hgb.1; omega), setRow_other _ _ _ _ (by have := hgb.1; omega)]; rfl⟩⟩
      simp only [RV, List.getElem?_cons_succ, List.getElem?_cons_zero]
      exact ⟨_, c, rfl, by simp only [List.length_append, List.length_take, List.length_drop]; omega, by omega, hcm, by rw [k3]; simp⟩
    · have hmin1 : Nat.min (n - i) (n + m - (i + m)) = n - i := by simp only [Nat.min_def]; split <;> omega
      have hmin2 : Nat.min m (n + m - i) = m := by simp only [Nat.min_def]; split <;> omega
      obtain ⟨G, hG⟩ : ∃ G, G = grownCap w (n + m) c 70 := ⟨_, rfl⟩
      have hGe : n + m ≤ G := by rw [hG]; exact grownCap_ge w (n + m) c 70
      have hGm : G ≤ maxLen := by rw [hG]; exact grownCap_le_maxLen w (n + m) c 70 (by simp only [maxLen]; omega)
      have hoT : (cur.toList.take (i * 2)).length = i * 2 := by rw [List.length_take]; omega
      have hold : (Builtin.firstCells ti.size i (.slice (some ⟨g, 0, none⟩) i c)).run Try.prog w.drew = .ok (cur.toList.take (i * 2)).toArray w.drew := by
        refine run_firstCells_some (P := Try.prog) w.drew ti.size i ⟨g, 0, none⟩ i c _ (by rw [hoT, hts]) ?_
        intro j x hj
        have := src_at (w := w.drew) hg 0 (i * 2) j x (by simpa using hj)
        exact this
      have hik : i + (n + m - i) = n + m := by omega
      have hkk : (n : Int) + (m : Int) - (i : Int) = ((n + m - i : Nat) : Int) := by omega
      have hz := fun ty => Lib.run_append_grow_zeros (P := Try.prog) w 26 3 ty 70 ti _ .i64 .i64 undS_slices_Insert_impl_Row_impl_Row_h0 undN_slices_Insert_impl_Row_impl_Row_h0 hti htz (some ⟨g, 0, none⟩) i c _ hold (n + m - i) (by omega) (by omega) (by omega) (by omega) (by rw [htb]; omega) (by rw [htb, hik]; exact growslice_fits (by omega) (by omega))
      rw [hik, ← hG] at hz
      obtain ⟨R, hR⟩ : ∃ R, R = (Builtin.zeroCells (Value.agg #[.int .i64 0, .slice none 0 0]).cells (n + m - i)).toList ++ (Builtin.zeroCells (Value.agg #[.int .i64 0, .slice none 0 0]).cells (G - (n + m))).toList := ⟨_, rfl⟩
      have hRl : R.length = (n + m - i) * 2 + (G - (n + m)) * 2 := by
        rw [hR, List.length_append, Array.length_toList, Array.length_toList, size_zeroCells, size_zeroCells]
        rfl
      have hrow : ((cur.toList.take (i * 2)).toArray ++ Builtin.zeroCells (Value.agg #[.int .i64 0, .slice none 0 0]).cells (n + m - i) ++ Builtin.zeroCells (Value.agg #[.int .i64 0, .slice none 0 0]).cells (G - (n + m))) = (cur.toList.take (i * 2) ++ R).toArray := by
        rw [hR]
        apply Array.toList_inj.1
        simp
      rw [hrow] at hz
      obtain ⟨W1, hW1⟩ : ∃ W1, W1 = w.drew.alloc (.cells (cur.toList.take (i * 2) ++ R).toArray 70) := ⟨_, rfl⟩
      rw [← hW1] at hz
      have hn1 : W1.heap[w.heap.size]? = some (.cells (cur.toList.take (i * 2) ++ R).toArray 70 (0, 0)) := by rw [hW1]; exact heap_alloc_new w.drew _
      have hold1 : ∀ b, b < w.heap.size → W1.heap[b]? = w.heap[b]? := fun b hb => by rw [hW1]; exact heap_alloc_old w.drew _ hb
      have hgl : g < w.heap.size := lt_of_heap hg
      have hvl2 : vb < w.heap.size := lt_of_heap hgv
      obtain ⟨B1, hB1⟩ : ∃ B1, B1 = (cur.toList.take (i * 2) ++ curv.toList.take (m * 2) ++ R.drop (curv.toList.take (m * 2)).length).toArray := ⟨_, rfl⟩
      obtain ⟨B2, hB2⟩ : ∃ B2, B2 = (B1.toList.take ((i + m) * 2) ++ (cur.toList.take (n * 2)).drop (i * 2) ++ B1.toList.drop ((i + m) * 2 + ((cur.toList.take (n * 2)).drop (i * 2)).length)).toArray := ⟨_, rfl⟩
      obtain ⟨s1, s2, s3⟩ := ins_cells2 (z := 2) (R := R) hi hlen hvl (by omega) hB1 hB2
      have c1 := fun ty dc => run_copy_rowz (P := Try.prog) (ty := ty) W1 26 26 70 ti w.heap.size (i * 2) (n + m - i) dc ⟨vb, 0, none⟩ m vc _ 70 (curv.toList.take (m * 2)) undS_slices_Insert_impl_Row_impl_Row_h0 hti hn1 (by rw [hmin2, hts]; exact hvl) (fun j x hj => hsv j x hj _ ((hold1 vb hvl2).trans hgv)) (by rw [hvl, List.size_toArray, List.length_append, hoT, hRl]; omega) honev
      have hb1 : ((cur.toList.take (i * 2) ++ R).toArray.toList.take (i * 2) ++ curv.toList.take (m * 2) ++ (cur.toList.take (i * 2) ++ R).toArray.toList.drop (i * 2 + (curv.toList.take (m * 2)).length)).toArray = B1 := by
        rw [hB1]
        simp only []
        rw [List.take_left' hoT, ← List.drop_drop, List.drop_left' hoT]
      rw [hb1, hmin2] at c1
      obtain ⟨W2, hW2⟩ : ∃ W2, W2 = W1.setRow w.heap.size B1 := ⟨_, rfl⟩
      rw [← hW2] at c1
      have hn2 : W2.drew.heap[w.heap.size]? = some (.cells B1 70 (0, 0)) := by rw [hW2]; exact setRow_heap W1 _ _ B1 70 _ hn1
      have hg2 : W2.drew.heap[g]? = some (.cells cur e (0, 0)) := by rw [hW2]; exact (setRow_other W1 _ g B1 (by omega)).trans ((hold1 g hgl).trans hg)
      have c2 := fun ty dc sc => run_copy_rowz (P := Try.prog) (ty := ty) W2.drew 26 26 70 ti w.heap.size ((i + m) * 2) (n + m - (i + m)) dc ⟨g, i * 2, none⟩ (n - i) sc B1 70 ((cur.toList.take (n * 2)).drop (i * 2)) undS_slices_Insert_impl_Row_impl_Row_h0 hti hn2 (by rw [hmin1, hts]; exact hcl2) (src_at hg2 (i * 2) (n * 2)) (by omega) (fun x hx => hone0 x (List.mem_of_mem_drop hx))
      rw [← hB2, hmin1] at c2
      rw [← hkk] at hz
      refine (ins_grow_slices_Insert_impl_Row_impl_Row_h0 w g n c i vb m vc G W1 W2 _ hil hm hnc (by omega) hGe hGm hz c1 c2).mono ?_
      rintro e' w' ⟨rfl, rfl⟩
      have hblk : ∀ b, b < w.heap.size → (W2.drew.setRow w.heap.size B2).heap[b]? = w.heap[b]? := fun b hb => by
        rw [setRow_other _ _ _ _ (by omega)]
        show W2.heap[b]? = _
        rw [hW2, setRow_other _ _ _ _ (by omega), hold1 b hb]
      have hsz : (W2.drew.setRow w.heap.size B2).heap.size = w.heap.size + 1 := by
        rw [hW2, hW1]
        simp [World.alloc]
      obtain ⟨σ', φ', k1, k2, k3⟩ := ins_fin (w' := W2.drew.setRow w.heap.size B2) (c' := G) hr hb (by omega) hrep hrepv i (by omega) (.inl (Nat.le_refl _)) (fun b hb _ => hblk b hb) (setRow_heap _ _ B1 B2 70 _ hn2) (by omega) hGm (by rw [← hn, ← hmm]; exact s3.trans (by simp))
      refine ⟨σ', φ', k1, k2.x, ?_, ⟨by rw [hW2, hW1]; rfl, by rw [hW2, hW1]; rfl, by rw [hW2, hW1]; rfl, by omega, fun k hk => hblk k (by have := (hb _ (Nat.le_refl _)).1; omega)⟩⟩
      simp only [RV, List.getElem?_cons_succ, List.getElem?_cons_zero]
      exact ⟨_, G, rfl, by simp only [List.length_append, List.length_take, List.length_drop]; omega, hGe, hGm, by rw [k3]; simp⟩
theorem w_slices_Insert_impl_Row_impl_Row_h0 (a0 : List GRow) (a1 : Int) (a2 : List GRow) (r : List GRow) (hf : slices_Insert_impl_Row_impl_Row_h0 a0 a1 a2 = some r) : CallHeap Try.prog true 103 [.own 0 0 a0.length, .int .i64 a1, .own 1 0 a2.length] [.row 2 (a0.map encGRow), .row 2 (a2.map encGRow)] (.own 2 0 r.length) [.dead, .dead, .row 2 (r.map encGRow)] := by
  unfold slices_Insert_impl_Row_impl_Row_h0 at hf
  split at hf
  · rename_i h
    obtain rfl := os hf
    obtain ⟨i, rfl⟩ : ∃ i : Nat, a1 = i := ⟨a1.toNat, by omega⟩
    have := insH_slices_Insert_impl_Row_impl_Row_h0 true (a0.map encGRow) (a2.map encGRow) i (by rw [List.length_map]; omega) (by rw [List.length_map]; omega) (by rw [List.length_map, List.length_map]; omega)
    rw [List.length_map, List.length_map] at this
    simp only [Int.toNat_natCast, List.map_append, List.map_take, List.map_drop, List.length_append, List.length_take, List.length_drop]
    rw [Nat.min_eq_left (by omega), show i + a2.length + (a0.length - i) = a0.length + a2.length by omega]
    exact this
  · cases hf

/- impl.put -/
def c81_h0 : ACode :=
 (.seq (.reg (tq 3 (.box 2 (.t 1)) (tm 4 (.c .nil) .done)))
 (.seq (.reg (tm 8 (.t 0) (tq 9 (.faddr 0 (.t 3)) (tq 10 (.load 1 false (.t 9)) (tq 11 (.call 100 [(.t 8), (.t 10)]) (tm 7 (.t 11) (tq 12 (.extract 0 (.t 7)) (tq 13 (.extract 1 (.t 7)) (tm 5 (.t 12) (tm 6 (.t 13) .done))))))))))
 (.seq (.seq (.reg (tm 14 (.t 6) .done))
 (.cond (.t 14) (.seq (.reg (tm 15 (.t 0) (tm 16 (.t 5) (tq 17 (.load 2 true (.t 3)) (tq 18 (.iaddr 2 (.t 15) (.t 16)) (.q ⟨none, none, .store 2 (.t 18) (.t 17)⟩
 .done))))))
 (.seq (.reg (tm 19 (.t 0) (tm 4 (.t 19) .done)))
 .ret))
 .skip))
 (.seq (.reg (tm 20 (.t 0) (tm 21 (.t 5) (tq 22 (.load 2 true (.t 3)) (tq 23 (.bslice 2 [(.t 22)]) (tq 24 (.call 103 [(.t 20), (.t 21), (.t 23)]) (tm 4 (.t 24) .done)))))))
 .ret))))
theorem fc81_h0 : fcomp Try.prog Try.f81 = some (c81_h0.erase, [.mov (.t 4)], 25) := by kernel_rfl
def impl_put_h0 (rows_1 : (List GRow)) (c_2 : Int) (c_3 : (List (List GAtom))) : Option (List GRow) :=
    (impl_rowAt rows_1 c_2).bind fun r_4 =>
    if r_4.2 then
    if (0 : Int) ≤ r_4.1 ∧ r_4.1 < (rows_1.length : Int) then
    (rows_1[(0 + r_4.1.toNat)]?).bind fun x_8 =>
    some (rows_1.set (0 + r_4.1.toNat) (⟨c_2, c_3⟩ : GRow))
    else none
    else
    (slices_Insert_impl_Row_impl_Row_h0 rows_1 r_4.1 [(⟨c_2, c_3⟩ : GRow)]).bind fun r_10 =>
    some r_10
theorem w_impl_put_h0 (rows_1 : (List GRow)) (c_2 : Int) (c_3 : (List (List GAtom))) (r : (List GRow)) (hf : impl_put_h0 rows_1 c_2 c_3 = some r) : CallHeap Try.prog true 81 [(.own 0 0 rows_1.length), (.agg [(.int .i64 c_2), (.own 1 0 c_3.length)])] [.row 2 (rows_1.map encGRow), .row 1 (c_3.map (encL 3 encGAtom))] (.own 2 0 r.length) [.dead, .dead, .row 2 (r.map encGRow)] := by
 refine CallHeap.of_awp mixed Try.func81 fc81_h0 nle ?_; rw [argT_eq]; unfold impl_put_h0 at hf; unfold c81_h0; refine (show awp Try.prog true 2 _ (ofL [(0, (.own 0 0 rows_1.length)), (1, (.agg [(.int .i64 c_2), (.own 1 0 c_3.length)]))]) [.row 2 (rows_1.map encGRow), .row 1 (c_3.map (encL 3 encGAtom))] _ from ?_); refine awp_seq <| w_reg <| s_do (o_box (j := 2) (c := (.agg [(.int .i64 c_2), (.own 1 0 c_3.length)])) rfl trivial rfl rfl) <| s_mov .nil rfl <| w_done <| k_seq <| awp_seq <| w_reg <| ?_
 obtain ⟨r_4, er5, hf⟩ := ob hf
 refine s_mov (.own 0 0 rows_1.length) rfl <| s_q (.ptr 2 0 0) rfl trivial rfl <| s_q (.int .i64 c_2) rfl nle rfl <| s_do (o_call (w_impl_rowAt _ _ _ er5) rfl (.cons (.of_eq (congrArg (AV.lst _) (tko rows_1))) (.cons (.refl _) .nil)) rfl) <| s_mov (.tup [(.int .i64 r_4.1), (.bool r_4.2)]) rfl <| s_q (.int .i64 r_4.1) rfl nle rfl <| s_q (.bool r_4.2) rfl nle rfl <| s_mov (.int .i64 r_4.1) rfl <| s_mov (.bool r_4.2) rfl <| w_done <| k_seq <| awp_seq <| awp_seq <| w_reg <| s_mov (.bool r_4.2) rfl <| w_done <| k_seq <| ?_
 rcases oi hf with ⟨c6, hf⟩ | ⟨c6, hf⟩
 ·refine w_condt rfl c6 <| awp_seq <| w_reg <| ?_
  obtain ⟨g7, hf⟩ := og hf
  obtain ⟨x_8, ex9, hf⟩ := ob hf
  refine s_mov (.own 0 0 rows_1.length) rfl <| s_mov (.int .i64 r_4.1) rfl <| s_q (.agg [(.int .i64 c_2), (.own 1 0 c_3.length)]) rfl nle rfl <| s_do (o_iaddrown rfl rfl g7.1 g7.2 rfl rfl) <| ?_
  refine s_do0 (o_storerow (v' := (.agg [(.int .i64 c_2), (.lst 1 (c_3.map (encL 3 encGAtom)))])) (e' := (⟨c_2, c_3⟩ : GRow)) rfl rfl ex9 rfl rfl (by first | (simp only [tk, tko, List.take_length]; done) | rfl | simp) (by decide) (fun _ => by decide) ⟨rfl, nle⟩ (.refl _) rfl) ?_
  refine w_done <| k_seq <| awp_seq <| w_reg <| s_mov (.own 0 0 rows_1.length) rfl <| s_mov (.own 0 0 rows_1.length) rfl <| w_done <| k_seq <| w_ret <| ?_; obtain rfl := os hf; exact r_heap [.mv 0] [0, 1, 3] rfl ⟨trivial, trivial⟩ rfl (.refl _) (.of_eq (congrArg (AV.own _ 0) (by simp)))
 ·refine w_condf rfl (bf c6) <| w_skip <| k_seq <| awp_seq <| w_reg <| ?_
  obtain ⟨r_10, er11, hf⟩ := ob hf
  refine s_mov (.own 0 0 rows_1.length) rfl <| s_mov (.int .i64 r_4.1) rfl <| s_q (.agg [(.int .i64 c_2), (.own 1 0 c_3.length)]) rfl nle rfl <| ?_; refine s_do (o_bslice (j := 3) (as' := [(encGRow (⟨c_2, c_3⟩ : GRow))]) rfl (fun _ => by decide) ⟨rfl, trivial⟩ (.cons (.agg (.cons (.refl _) (.cons (.of_eq (congrArg (AV.lst _) (tk (enc := (encL 3 encGAtom)) c_3))) .nil))) .nil) rfl rfl rfl) ?_; refine s_do (o_callh (v := (.own 4 0 r_10.length)) (h2 := [.dead, .dead, .box 2 (.agg [(.int .i64 c_2), (.own 1 0 c_3.length)]), .dead, .row 2 (r_10.map encGRow)]) [] [0, 3] (fun _ => rfl) (w_slices_Insert_impl_Row_impl_Row_h0 _ _ _ _ er11) rfl (.cons (.refl _) (.cons (.refl _) (.cons (.of_eq (congrArg (AV.own _ 0) (by simp))) .nil))) (.refl _) rfl rfl) ?_
  refine s_mov (.own 4 0 r_10.length) rfl <| w_done <| k_seq <| w_ret <| ?_; obtain rfl := os hf; exact r_heap [] [0, 1, 4] rfl ⟨trivial, trivial⟩ rfl (.refl _) (.refl _)

/- impl.applyRow -/
def c50_h0 : ACode :=
 (.seq (.reg (tq 6 (.box 2 (.t 2)) (tq 7 (.box 2 (.t 3)) (tm 8 (.c .nil) (tm 9 (.c (.int .i64 0)) .done)))))
 (.seq (.seq (.reg (tm 10 (.t 1) (tq 11 (.load 2 true (.t 6)) (tq 12 (.load 2 true (.t 7)) (tq 13 (.call 77 [(.t 10), (.t 11), (.t 12)]) (tq 14 (.bin .eql (.t 13) (.c (.int .i64 0))) .done))))))
 (.cond (.t 14) (.seq (.reg (tm 15 (.t 0) (tm 8 (.t 15) (tm 9 (.c (.int .i64 1)) .done))))
 .ret)
 .skip))
 (.seq (.seq (.reg (tm 16 (.t 0) (tm 17 (.t 1) (tq 19 (.load 2 true (.t 6)) (.l ⟨(some 18), none, .call 79 [(.t 16), (.t 17)]⟩ [⟨(some 19), none, .load 2 true (.t 6)⟩]
 (.l ⟨(some 20), none, .call 78 [(.t 18), (.t 19)]⟩ []
 (tq 21 (.not (.t 20)) .done) .non) .non)))))
 (.cond (.t 21) (.seq (.reg (tm 22 (.t 0) (tm 8 (.t 22) (tm 9 (.c (.int .i64 13)) .done))))
 .ret)
 .skip))
 (.seq (.seq (.reg (tq 23 (.faddr 0 (.t 7)) (tq 24 (.load 1 false (.t 23)) (tq 25 (.bin .eql (.t 24) (.c (.int .i64 0))) .done))))
 (.cond (.t 25) (.seq (.reg (tm 26 (.t 0) (tm 27 (.t 1) (tq 28 (.call 80 [(.t 26), (.t 27)]) (tm 8 (.t 28) (tm 9 (.c (.int .i64 0)) .done))))))
 .ret)
 .skip))
 (.seq (.reg (tm 29 (.t 0) (tq 30 (.load 2 true (.t 7)) (tq 31 (.call 76 [(.t 30)]) (tq 32 (.call 81 [(.t 29), (.t 31)]) (tm 8 (.t 32) (tm 9 (.c (.int .i64 0)) .done)))))))
 .ret)))))
theorem fc50_h0 : fcomp Try.prog Try.f50 = some (c50_h0.erase, [.mov (.t 8), .mov (.t 9)], 33) := by kernel_rfl
def impl_applyRow_h0 (rows_1 : (List GRow)) (id_2 : Int) (old_3 : GRow) (now_4 : GRow) : Option Int :=
    (impl_kindOf id_2 old_3 now_4).bind fun r_5 =>
    if (r_5 == 0) then
    some 1
    else
    (impl_rowOf rows_1 id_2).bind fun r_8 =>
    (impl_sameRow r_8 old_3).bind fun r_10 =>
    if (!r_10) then
    some 13
    else
    none
theorem w_impl_applyRow_h0 (rows_1 : (List GRow)) (id_2 : Int) (old_3 : GRow) (now_4 : GRow) (r : Int) (hf : impl_applyRow_h0 rows_1 id_2 old_3 now_4 = some r) : CallHeap Try.prog true 50 [(.own 0 0 rows_1.length), (.int .i64 id_2), (encGRow old_3), (encGRow now_4)] [.row 2 (rows_1.map encGRow)] (.tup [(.own 0 0 rows_1.length), (.int .i64 r)]) [.row 2 (rows_1.map encGRow)] := by
 refine CallHeap.of_awp mixed Try.func50 fc50_h0 nle ?_; rw [argT_eq]; unfold impl_applyRow_h0 at hf; unfold c50_h0; refine (show awp Try.prog true 1 _ (ofL [(0, (.own 0 0 rows_1.length)), (1, (.int .i64 id_2)), (2, (encGRow old_3)), (3, (encGRow now_4))]) [.row 2 (rows_1.map encGRow)] _ from ?_); refine awp_seq <| w_reg <| s_do (o_box (j := 1) (c := (.agg [(.int .i64 old_3.Id), (.lst 1 (old_3.Cells.map (encL 3 encGAtom)))])) rfl trivial rfl rfl) <| s_do (o_box (j := 2) (c := (.agg [(.int .i64 now_4.Id), (.lst 1 (now_4.Cells.map (encL 3 encGAtom)))])) rfl trivial rfl rfl) <| s_mov .nil rfl <| s_mov (.int .i64 0) rfl <| w_done <| k_seq <| awp_seq <| awp_seq <| w_reg <| ?_
 obtain ⟨r_5, er6, hf⟩ := ob hf
 refine s_mov (.int .i64 id_2) rfl <| s_q (.agg [(.int .i64 old_3.Id), (.lst 1 (old_3.Cells.map (encL 3 encGAtom)))]) rfl nle rfl <| s_q (.agg [(.int .i64 now_4.Id), (.lst 1 (now_4.Cells.map (encL 3 encGAtom)))]) rfl nle rfl <| s_do (o_call (w_impl_kindOf _ _ _ _ er6) rfl (.refl _) rfl) <| s_q (.bool (r_5 == 0)) rfl rfl rfl <| w_done <| k_seq <| ?_
 rcases oi hf with ⟨c7, hf⟩ | ⟨c7, hf⟩
 ·refine w_condt rfl c7 <| awp_seq <| w_reg <| s_mov (.own 0 0 rows_1.length) rfl <| s_mov (.own 0 0 rows_1.length) rfl <| s_mov (.int .i64 1) rfl <| w_done <| k_seq <| w_ret <| ?_; obtain rfl := os hf; exact r_heap [] [0] rfl ⟨trivial, ⟨trivial, trivial⟩⟩ rfl (.refl _) (.refl _)
 ·refine w_condf rfl (bf c7) <| w_skip <| k_seq <| awp_seq <| awp_seq <| w_reg <| ?_
  obtain ⟨r_8, er9, hf⟩ := ob hf
  obtain ⟨r_10, er11, hf⟩ := ob hf
  refine s_mov (.own 0 0 rows_1.length) rfl <| s_mov (.int .i64 id_2) rfl <| s_q (.agg [(.int .i64 old_3.Id), (.lst 1 (old_3.Cells.map (encL 3 encGAtom)))]) rfl nle rfl <| s_dol (o_callf (v := (.agg [(.int .i64 r_8.Id), (.own 3 0 r_8.Cells.length)])) (h' := [.row 1 (r_8.Cells.map (encL 3 encGAtom))]) (w_impl_rowOf _ _ _ er9) rfl (.cons (.of_eq (congrArg (AV.lst _) (tko rows_1))) (.cons (.refl _) .nil)) (by simp only [openV, openVs, List.length_map, encGRow_eq, List.nil_append, List.append_nil, List.cons_append]; rfl)) (.inr ⟨⟨nle, rfl⟩, trivial⟩) trivial <| s_dol (o_call (w_impl_sameRow _ _ _ er11) rfl (.cons (.agg (.cons (.refl _) (.cons (.of_eq (congrArg (AV.lst _) (tko (enc := (encL 3 encGAtom)) r_8.Cells))) .nil))) (.cons (.refl _) .nil)) rfl) a_same trivial <| ?_
  refine s_q (.bool (!r_10)) rfl trivial rfl <| w_done <| k_seq <| ?_
  rcases oi hf with ⟨c12, hf⟩ | ⟨c12, hf⟩
  ·refine w_condt rfl c12 <| awp_seq <| w_reg <| s_mov (.own 0 0 rows_1.length) rfl <| s_mov (.own 0 0 rows_1.length) rfl <| s_mov (.int .i64 13) rfl <| w_done <| k_seq <| w_ret <| ?_; obtain rfl := os hf; exact r_heap [] [0] rfl ⟨trivial, ⟨trivial, trivial⟩⟩ rfl (.refl _) (.refl _)
  ·cases hf

/- impl.applyRow -/
def c50_h1 : ACode :=
 (.seq (.reg (tq 6 (.box 2 (.t 2)) (tq 7 (.box 2 (.t 3)) (tm 8 (.c .nil) (tm 9 (.c (.int .i64 0)) .done)))))
 (.seq (.seq (.reg (tm 10 (.t 1) (tq 11 (.load 2 true (.t 6)) (tq 12 (.load 2 true (.t 7)) (tq 13 (.call 77 [(.t 10), (.t 11), (.t 12)]) (tq 14 (.bin .eql (.t 13) (.c (.int .i64 0))) .done))))))
 (.cond (.t 14) (.seq (.reg (tm 15 (.t 0) (tm 8 (.t 15) (tm 9 (.c (.int .i64 1)) .done))))
 .ret)
 .skip))
 (.seq (.seq (.reg (tm 16 (.t 0) (tm 17 (.t 1) (tq 19 (.load 2 true (.t 6)) (.l ⟨(some 18), none, .call 79 [(.t 16), (.t 17)]⟩ [⟨(some 19), none, .load 2 true (.t 6)⟩]
 (.l ⟨(some 20), none, .call 78 [(.t 18), (.t 19)]⟩ []
 (tq 21 (.not (.t 20)) .done) .non) .non)))))
 (.cond (.t 21) (.seq (.reg (tm 22 (.t 0) (tm 8 (.t 22) (tm 9 (.c (.int .i64 13)) .done))))
 .ret)
 .skip))
 (.seq (.seq (.reg (tq 23 (.faddr 0 (.t 7)) (tq 24 (.load 1 false (.t 23)) (tq 25 (.bin .eql (.t 24) (.c (.int .i64 0))) .done))))
 (.cond (.t 25) (.seq (.reg (tm 26 (.t 0) (tm 27 (.t 1) (tq 28 (.call 80 [(.t 26), (.t 27)]) (tm 8 (.t 28) (tm 9 (.c (.int .i64 0)) .done))))))
 .ret)
 .skip))
 (.seq (.reg (tm 29 (.t 0) (tq 30 (.load 2 true (.t 7)) (tq 31 (.call 76 [(.t 30)]) (tq 32 (.call 81 [(.t 29), (.t 31)]) (tm 8 (.t 32) (tm 9 (.c (.int .i64 0)) .done)))))))
 .ret)))))
theorem fc50_h1 : fcomp Try.prog Try.f50 = some (c50_h1.erase, [.mov (.t 8), .mov (.t 9)], 33) := by kernel_rfl
def impl_applyRow_h1 (rows_1 : (List GRow)) (id_2 : Int) (old_3 : GRow) (now_4 : GRow) : Option (List GRow) :=
    (impl_kindOf id_2 old_3 now_4).bind fun r_5 =>
    if (r_5 == 0) then
    none
    else
    (impl_rowOf rows_1 id_2).bind fun r_8 =>
    (impl_sameRow r_8 old_3).bind fun r_10 =>
    if (!r_10) then
    none
    else
    if (now_4.Id == 0) then
    (impl_drop_h0 rows_1 id_2).bind fun r_14 =>
    some r_14
    else
    (impl_copyRow now_4).bind fun r_16 =>
    (impl_put_h0 rows_1 r_16.Id r_16.Cells).bind fun r_18 =>
    some r_18
theorem w_impl_applyRow_h1 (rows_1 : (List GRow)) (id_2 : Int) (old_3 : GRow) (now_4 : GRow) (r : (List GRow)) (hf : impl_applyRow_h1 rows_1 id_2 old_3 now_4 = some r) : CallHeap Try.prog true 50 [(.own 0 0 rows_1.length), (.int .i64 id_2), (encGRow old_3), (encGRow now_4)] [.row 2 (rows_1.map encGRow)] (.tup [(.own 1 0 r.length), (.int .i64 0)]) [.dead, .row 2 (r.map encGRow)] := by
 refine CallHeap.of_awp mixed Try.func50 fc50_h1 nle ?_; rw [argT_eq]; unfold impl_applyRow_h1 at hf; unfold c50_h1; refine (show awp Try.prog true 1 _ (ofL [(0, (.own 0 0 rows_1.length)), (1, (.int .i64 id_2)), (2, (encGRow old_3)), (3, (encGRow now_4))]) [.row 2 (rows_1.map encGRow)] _ from ?_); refine awp_seq <| w_reg <| s_do (o_box (j := 1) (c := (.agg [(.int .i64 old_3.Id), (.lst 1 (old_3.Cells.map (encL 3 encGAtom)))])) rfl trivial rfl rfl) <| s_do (o_box (j := 2) (c := (.agg [(.int .i64 now_4.Id), (.lst 1 (now_4.Cells.map (encL 3 encGAtom)))])) rfl trivial rfl rfl) <| s_mov .nil rfl <| s_mov (.int .i64 0) rfl <| w_done <| k_seq <| awp_seq <| awp_seq <| w_reg <| ?_
 obtain ⟨r_5, er6, hf⟩ := ob hf
 refine s_mov (.int .i64 id_2) rfl <| s_q (.agg [(.int .i64 old_3.Id), (.lst 1 (old_3.Cells.map (encL 3 encGAtom)))]) rfl nle rfl <| s_q (.agg [(.int .i64 now_4.Id), (.lst 1 (now_4.Cells.map (encL 3 encGAtom)))]) rfl nle rfl <| s_do (o_call (w_impl_kindOf _ _ _ _ er6) rfl (.refl _) rfl) <| s_q (.bool (r_5 == 0)) rfl rfl rfl <| w_done <| k_seq <| ?_
 rcases oi hf with ⟨c7, hf⟩ | ⟨c7, hf⟩
 ·cases hf
 ·refine w_condf rfl (bf c7) <| w_skip <| k_seq <| awp_seq <| awp_seq <| w_reg <| ?_
  obtain ⟨r_8, er9, hf⟩ := ob hf
  obtain ⟨r_10, er11, hf⟩ := ob hf
  refine s_mov (.own 0 0 rows_1.length) rfl <| s_mov (.int .i64 id_2) rfl <| s_q (.agg [(.int .i64 old_3.Id), (.lst 1 (old_3.Cells.map (encL 3 encGAtom)))]) rfl nle rfl <| s_dol (o_callf (v := (.agg [(.int .i64 r_8.Id), (.own 3 0 r_8.Cells.length)])) (h' := [.row 1 (r_8.Cells.map (encL 3 encGAtom))]) (w_impl_rowOf _ _ _ er9) rfl (.cons (.of_eq (congrArg (AV.lst _) (tko rows_1))) (.cons (.refl _) .nil)) (by simp only [openV, openVs, List.length_map, encGRow_eq, List.nil_append, List.append_nil, List.cons_append]; rfl)) (.inr ⟨⟨nle, rfl⟩, trivial⟩) trivial <| s_dol (o_call (w_impl_sameRow _ _ _ er11) rfl (.cons (.agg (.cons (.refl _) (.cons (.of_eq (congrArg (AV.lst _) (tko (enc := (encL 3 encGAtom)) r_8.Cells))) .nil))) (.cons (.refl _) .nil)) rfl) a_same trivial <| ?_
  refine s_q (.bool (!r_10)) rfl trivial rfl <| w_done <| k_seq <| ?_
  rcases oi hf with ⟨c12, hf⟩ | ⟨c12, hf⟩
  ·cases hf
  ·refine w_condf rfl (bf c12) <| w_skip <| k_seq <| awp_seq <| awp_seq <| w_reg <| s_q (.ptr 2 0 0) rfl trivial rfl <| s_q (.int .i64 now_4.Id) rfl nle rfl <| s_q (.bool (now_4.Id == 0)) rfl rfl rfl <| w_done <| k_seq <| ?_
   rcases oi hf with ⟨c13, hf⟩ | ⟨c13, hf⟩
   ·refine w_condt rfl c13 <| awp_seq <| w_reg <| ?_
    obtain ⟨r_14, er15, hf⟩ := ob hf
    refine s_mov (.own 0 0 rows_1.length) rfl <| s_mov (.int .i64 id_2) rfl <| ?_; refine s_do (o_callh (v := (.own 4 0 r_14.length)) (h2 := [.dead, .box 2 (.agg [(.int .i64 old_3.Id), (.lst 1 (old_3.Cells.map (encL 3 encGAtom)))]), .box 2 (.agg [(.int .i64 now_4.Id), (.lst 1 (now_4.Cells.map (encL 3 encGAtom)))]), .row 1 (r_8.Cells.map (encL 3 encGAtom)), .row 2 (r_14.map encGRow)]) [] [0] (fun _ => rfl) (w_impl_drop_h0 _ _ _ er15) rfl (.refl _) (.refl _) rfl rfl) ?_; refine s_mov (.own 4 0 r_14.length) rfl <| s_mov (.int .i64 0) rfl <| w_done <| k_seq <| w_ret <| ?_; obtain rfl := os hf; exact r_heap [] [0, 4] rfl ⟨trivial, ⟨trivial, trivial⟩⟩ rfl (.refl _) (.refl _)
   ·refine w_condf rfl (bf c13) <| w_skip <| k_seq <| awp_seq <| w_reg <| ?_
    obtain ⟨r_16, er17, hf⟩ := ob hf
    obtain ⟨r_18, er19, hf⟩ := ob hf
    refine s_mov (.own 0 0 rows_1.length) rfl <| s_q (.agg [(.int .i64 now_4.Id), (.lst 1 (now_4.Cells.map (encL 3 encGAtom)))]) rfl nle rfl <| s_do (o_callf (v := (.agg [(.int .i64 r_16.Id), (.own 4 0 r_16.Cells.length)])) (h' := [.row 1 (r_16.Cells.map (encL 3 encGAtom))]) (w_impl_copyRow _ _ er17) rfl (.refl _) (by simp only [openV, openVs, List.length_map, encGRow_eq, List.nil_append, List.append_nil, List.cons_append]; rfl)) <| ?_; refine s_do (o_callh (v := (.own 5 0 r_18.length)) (h2 := [.dead, .box 2 (.agg [(.int .i64 old_3.Id), (.lst 1 (old_3.Cells.map (encL 3 encGAtom)))]), .box 2 (.agg [(.int .i64 now_4.Id), (.lst 1 (now_4.Cells.map (encL 3 encGAtom)))]), .row 1 (r_8.Cells.map (encL 3 encGAtom)), .dead, .row 2 (r_18.map encGRow)]) [] [0, 4] (fun _ => rfl) (w_impl_put_h0 _ _ _ _ er19) rfl (.refl _) (.refl _) rfl rfl) ?_
    refine s_mov (.own 5 0 r_18.length) rfl <| s_mov (.int .i64 0) rfl <| w_done <| k_seq <| w_ret <| ?_; obtain rfl := os hf; exact r_heap [] [0, 5] rfl ⟨trivial, ⟨trivial, trivial⟩⟩ rfl (.refl _) (.refl _)

/- impl.ApplyUpdates -/
def c12 : ACode :=
 (.seq (.reg (tm 4 (.c .nil) (tm 5 (.c (.int .i64 0)) .done)))
 (.seq (.block 0 (.seq (.reg (tm 12 (.t 0) (tq 13 (.call 46 [(.t 12)]) (tq 14 (.not (.t 13)) (tm 15 (.t 14) (tg 16 15 false (.mov (.t 1)) (tg 17 15 false (.call 47 [(.t 16)]) (tg 18 15 false (.not (.t 17)) (tq 19 (.pick (.t 15) (.c (.bool true)) (.t 18)) (tm 11 (.t 19) .done))))))))))
 (.cut (.cond (.t 11) (.seq (.reg (tm 4 (.c .nil) (tm 5 (.c (.int .i64 2)) .done)))
 .ret)
 (.seq (.reg (tm 21 (.t 0) (tq 22 (.call 48 [(.t 21)]) (tq 23 (.not (.t 22)) (tm 20 (.t 23) .done)))))
 (.cond (.t 20) (.seq (.reg (tm 4 (.c .nil) (tm 5 (.c (.int .i64 1)) .done)))
 .ret)
 .skip))))))
 (.seq (.reg (tm 24 (.t 0) (tq 25 (.call 49 [(.t 24)]) (tm 6 (.t 25) .done))))
 (.seq (.seq (.reg (tm 26 (.t 1) (tq 27 (.len (.t 26)) (tm 28 (.c (.int .i64 0)) .done))))
 (.block 1 (.loop (.seq (.reg (tq 29 (.bin .lss (.t 28) (.t 27)) .done))
 (.seq (.cond (.t 29) .skip
 (.exit 1))
 (.seq (.block 2 (.seq (.reg (tq 30 (.iaddr 5 (.t 26) (.t 28)) (tq 31 (.load 5 true (.t 30)) (tq 8 (.box 5 (.c (.agg [(.int .i64 0), (.int .i64 0), .nil, (.int .i64 0), .nil]))) (.q ⟨none, none, .store 5 (.t 8) (.t 31)⟩
 .done)))))
 (.seq (.reg (tm 33 (.t 6) (tq 34 (.faddr 0 (.t 8)) (tq 35 (.load 1 false (.t 34)) (tq 36 (.faddr 1 (.t 8)) (tq 37 (.load 2 true (.t 36)) (tq 38 (.faddr 3 (.t 8)) (tq 39 (.load 2 true (.t 38)) (tq 40 (.call 50 [(.t 33), (.t 35), (.t 37), (.t 39)]) (tm 32 (.t 40) (tq 41 (.extract 0 (.t 32)) (tq 42 (.extract 1 (.t 32)) (tm 9 (.t 41) (tm 10 (.t 42) .done))))))))))))))
 (.seq (.seq (.reg (tm 43 (.t 10) (tq 44 (.bin .neq (.t 43) (.c (.int .i64 0))) .done)))
 (.cond (.t 44) (.seq (.reg (tm 45 (.t 6) (tm 46 (.t 10) (tm 4 (.t 45) (tm 5 (.t 46) .done)))))
 .ret)
 .skip))
 (.reg (tm 47 (.t 9) (tm 6 (.t 47) .done)))))))
 (.reg (tq 48 (.bin .add (.t 28) (.c (.int .i64 1))) (tm 28 (.t 48) .done)))))))))
 (.cut (.seq (.reg (tm 49 (.t 6) (tm 4 (.t 49) (tm 5 (.c (.int .i64 0)) .done))))
 .ret))))))
theorem fc12 : fcomp Try.prog Try.f12 = some (c12.erase, [.mov (.t 4), .mov (.t 5)], 50) := by kernel_rfl
def impl_ApplyUpdates_L1  : List GUpdate → (List GRow) → Option (Fl ((List GRow) × Int) (List GRow))
  | [], out_43 =>
    some (.go out_43)
  | x_61 :: xs, out_43 =>
    onIdx (impl_applyRow_h0 out_43 x_61.Id x_61.Old x_61.New) (fun v_62 =>
    if (v_62 != 0) then
    some (.ret (out_43, v_62))
    else
    impl_ApplyUpdates_L1 xs  out_43) (
    (impl_applyRow_h1 out_43 x_61.Id x_61.Old x_61.New).bind fun r_66 =>
    impl_ApplyUpdates_L1 xs  r_66)

def impl_ApplyUpdates (rows_1 : (List GRow)) (list_2 : (List GUpdate)) : Option ((List GRow) × Int) :=
    (((impl_isList_impl_Row rows_1).bind fun r_10 =>
    if (!r_10) then
    some true
    else
    (impl_isList_impl_Update list_2).bind fun r_13 =>
    some (!r_13) : Option Bool)).bind fun s11_8 =>
    if s11_8 then
    some ([], 2)
    else
    (impl_areRising rows_1).bind fun r_16 =>
    if (!r_16) then
    some ([], 1)
    else
    (impl_copyRows rows_1).bind fun r_19 =>
    (impl_ApplyUpdates_L1 list_2 r_19).bind fun q => (match q with
    | .ret r => some r
    | .go out_53 =>
    some (out_53, 0))
theorem w_impl_ApplyUpdates (rows_1 : (List GRow)) (list_2 : (List GUpdate)) (r : ((List GRow) × Int)) (hf : impl_ApplyUpdates rows_1 list_2 = some r) : CallOK Try.prog 12 .fresh [(.lst 2 (rows_1.map encGRow)), (.lst 5 (list_2.map encGUpdate))] (.tup [(.lst 2 (r.1.map encGRow)), (.int .i64 r.2)]) := by
 refine CallOK.of_awp mixed Try.func12 fc12 nle ?_; rw [argT_eq]; unfold impl_ApplyUpdates at hf; unfold c12; refine (show awp Try.prog true 0 _ (ofL [(0, (.lst 2 (rows_1.map encGRow))), (1, (.lst 5 (list_2.map encGUpdate)))]) [] _ from ?_); refine awp_seq <| w_reg <| s_mov .nil rfl <| s_mov (.int .i64 0) rfl <| w_done <| k_seq <| awp_seq <| w_blk <| awp_seq <| ?_
 obtain ⟨s11_8, hb1, hf⟩ := ob hf
 refine awp_cut ([(0, (.lst 2 (rows_1.map encGRow))), (1, (.lst 5 (list_2.map encGUpdate))), (11, (.bool s11_8))], []) ?_ ?_
 ·refine w_reg ?_
  obtain ⟨r_10, er11, hb1⟩ := ob hb1
  rcases oi hb1 with ⟨c12, hb1⟩ | ⟨c12, hb1⟩
  ·refine s_mov (.lst 2 (rows_1.map encGRow)) rfl <| s_do (o_call (w_impl_isList_impl_Row _ _ er11) rfl (.refl _) rfl) <| s_q (.bool (!r_10)) rfl trivial rfl <| s_mov (.bool (!r_10)) rfl <| s_lit (s := 15) (b := true) rfl c12 <| s_off rfl rfl <| s_off rfl rfl <| s_off rfl rfl <| s_q (.bool true) rfl trivial rfl <| s_mov (.bool true) rfl <| w_done <| ?_; obtain rfl := os hb1; exact ⟨[], [], _, _, rfl, rfl, ⟨.refl _, ⟨.refl _, ⟨.refl _, trivial⟩⟩⟩, (.refl _)⟩
  ·obtain ⟨r_13, er14, hb1⟩ := ob hb1
   refine s_mov (.lst 2 (rows_1.map encGRow)) rfl <| s_do (o_call (w_impl_isList_impl_Row _ _ er11) rfl (.refl _) rfl) <| s_q (.bool (!r_10)) rfl trivial rfl <| s_mov (.bool (!r_10)) rfl <| s_lit (s := 15) (b := false) rfl (bf c12) <| s_on rfl <| s_mov (.lst 5 (list_2.map encGUpdate)) rfl <| s_on rfl <| s_do (o_call (w_impl_isList_impl_Update _ _ er14) rfl (.refl _) rfl) <| s_on rfl <| s_q (.bool (!r_13)) rfl trivial rfl <| s_q (.bool (!r_13)) rfl trivial rfl <| s_mov (.bool (!r_13)) rfl <| w_done <| ?_; obtain rfl := os hb1; exact ⟨[], [], _, _, rfl, rfl, ⟨.refl _, ⟨.refl _, ⟨.refl _, trivial⟩⟩⟩, (.refl _)⟩
 ·rcases oi hf with ⟨c15, hf⟩ | ⟨c15, hf⟩
  ·refine w_condt rfl c15 <| awp_seq <| w_reg <| s_mov .nil rfl <| s_mov (.int .i64 2) rfl <| w_done <| k_seq <| w_ret <| ?_; obtain rfl := os hf; exact r_fresh ⟨trivial, ⟨trivial, trivial⟩⟩ rfl (by decide) (.tup (.cons (.nil _) (.cons (.refl _) .nil)))
  ·refine w_condf rfl (bf c15) <| awp_seq <| w_reg <| ?_
   obtain ⟨r_16, er17, hf⟩ := ob hf
   refine s_mov (.lst 2 (rows_1.map encGRow)) rfl <| s_do (o_call (w_impl_areRising _ _ er17) rfl (.refl _) rfl) <| s_q (.bool (!r_16)) rfl trivial rfl <| s_mov (.bool (!r_16)) rfl <| w_done <| k_seq <| ?_
   rcases oi hf with ⟨c18, hf⟩ | ⟨c18, hf⟩
   ·refine w_condt rfl c18 <| awp_seq <| w_reg <| s_mov .nil rfl <| s_mov (.int .i64 1) rfl <| w_done <| k_seq <| w_ret <| ?_; obtain rfl := os hf; exact r_fresh ⟨trivial, ⟨trivial, trivial⟩⟩ rfl (by decide) (.tup (.cons (.nil _) (.cons (.refl _) .nil)))
   ·refine w_condf rfl (bf c18) <| w_skip <| k_blk <| k_seq <| awp_seq <| w_reg <| ?_
    obtain ⟨r_19, er20, hf⟩ := ob hf
    refine s_mov (.lst 2 (rows_1.map encGRow)) rfl <| s_do (o_callf (v := (.own 0 0 r_19.length)) (h' := [.row 2 (r_19.map encGRow)]) (w_impl_copyRows _ _ er20) rfl (.refl _) (by simp only [openV, openVs, List.length_map, List.nil_append, List.append_nil, List.cons_append]; rfl)) <| s_mov (.own 0 0 r_19.length) rfl <| w_done <| k_seq <| awp_seq <| awp_seq <| w_reg <| s_mov (.lst 5 (list_2.map encGUpdate)) rfl <| s_dof (o_len (enc := encGUpdate) rfl) fun hl21 => s_mov (.int .i64 0) rfl <| w_done <| k_seq <| ?_
    obtain ⟨p54, hb1, hf⟩ := ob hf
    refine awp_cutx (X := {q : (List GRow) // p54 = .go q}) (fun q => ([(6, (.own 0 0 q.1.length))], [.row 2 (q.1.map encGRow)])) ?_ ?_
    ·refine awp_loop (X := {q : (Nat × (List GRow)) // impl_ApplyUpdates_L1 (list_2.drop q.1) q.2 = some p54}) (fun q => ([(6, (.own 0 0 q.1.2.length)), (26, (.lst 5 (list_2.map encGUpdate))), (27, (.int .i64 (list_2.length : Int))), (28, (.int .i64 (q.1.1 : Int)))], [.row 2 (q.1.2.map encGRow)])) (fun q => list_2.length - q.1.1) ⟨(0, r_19), hb1⟩ ⟨[], [0], _, _, rfl, rfl, ⟨.refl _, ⟨.refl _, ⟨.refl _, ⟨.refl _, trivial⟩⟩⟩⟩, (.refl _)⟩ ?_
     rintro ⟨⟨s28_42, out_43⟩, hc1⟩
     have hc1 : impl_ApplyUpdates_L1 (list_2.drop s28_42) out_43 = some p54 := hc1
     refine (show awp Try.prog true 0 _ (ofL [(6, (.own 0 0 out_43.length)), (26, (.lst 5 (list_2.map encGUpdate))), (27, (.int .i64 (list_2.length : Int))), (28, (.int .i64 (s28_42 : Int)))]) [.row 2 (out_43.map encGRow)] _ from ?_)
     rcases dropc list_2 s28_42 with ⟨hie57, hd60⟩ | ⟨hlt55, x_61, hx56, hd60⟩
     ·rw [hd60, impl_ApplyUpdates_L1.eq_1] at hc1
      have hq59 := dlf hie57
      refine awp_seq <| w_reg <| s_q (.bool (decide ((s28_42 : Int) < (list_2.length : Int)))) rfl rfl rfl <| w_done <| k_seq <| awp_seq <| w_condf rfl hq59 <| w_exit <| k_seqx <| k_loopx <| k_blkx <| ?_; obtain rfl := os hc1; exact k_cutn ⟨_, rfl⟩ ⟨[], [0], _, _, rfl, rfl, ⟨.refl _, trivial⟩, (.refl _)⟩
     ·rw [hd60, impl_ApplyUpdates_L1.eq_2] at hc1
      have hq59 := dlt hlt55
      refine awp_seq <| w_reg <| s_q (.bool (decide ((s28_42 : Int) < (list_2.length : Int)))) rfl rfl rfl <| w_done <| k_seq <| awp_seq <| w_condt rfl hq59 <| w_skip <| k_seq <| awp_seq <| w_blk <| awp_seq <| w_reg <| s_do (o_iaddrn (enc := encGUpdate) rfl rfl hx56) <| s_q (encGUpdate x_61) rfl nle rfl <| s_do (o_box (j := 1) (c := (.agg [(.int .i64 0), (.int .i64 0), .nil, (.int .i64 0), .nil])) rfl trivial rfl rfl) <| s_do0 (o_storebox (v := (.agg [(.int .i64 x_61.Id), (.int .i64 x_61.Old.Id), (.lst 1 (x_61.Old.Cells.map (encL 3 encGAtom))), (.int .i64 x_61.New.Id), (.lst 1 (x_61.New.Cells.map (encL 3 encGAtom)))])) (y' := (.agg [(.int .i64 x_61.Id), (.int .i64 x_61.Old.Id), (.lst 1 (x_61.Old.Cells.map (encL 3 encGAtom))), (.int .i64 x_61.New.Id), (.lst 1 (x_61.New.Cells.map (encL 3 encGAtom)))])) rfl rfl rfl trivial ⟨rfl, nle⟩ ⟨⟨rfl, trivial⟩, ⟨⟨rfl, trivial⟩, ⟨⟨rfl, trivial⟩, ⟨⟨rfl, trivial⟩, ⟨⟨rfl, trivial⟩, trivial⟩⟩⟩⟩⟩ rfl) <| ?_
      refine w_done <| k_seq <| awp_seq <| w_reg <| s_mov (.own 0 0 out_43.length) rfl <| s_q (.ptr 1 0 0) rfl trivial rfl <| s_q (.int .i64 x_61.Id) rfl nle rfl <| s_q (.ptr 1 0 1) rfl trivial rfl <| s_q (.agg [(.int .i64 x_61.Old.Id), (.lst 1 (x_61.Old.Cells.map (encL 3 encGAtom)))]) rfl nle rfl <| s_q (.ptr 1 0 3) rfl trivial rfl <| s_q (.agg [(.int .i64 x_61.New.Id), (.lst 1 (x_61.New.Cells.map (encL 3 encGAtom)))]) rfl nle rfl <| ?_
      rcases oo hc1 with ⟨v_62, hv63, hc1⟩ | ⟨hn64, hc1⟩
      ·refine s_do (o_callh (v := (.tup [(.own 0 0 out_43.length), (.int .i64 v_62)])) (h2 := [.row 2 (out_43.map encGRow), .box 5 (.agg [(.int .i64 x_61.Id), (.int .i64 x_61.Old.Id), (.lst 1 (x_61.Old.Cells.map (encL 3 encGAtom))), (.int .i64 x_61.New.Id), (.lst 1 (x_61.New.Cells.map (encL 3 encGAtom)))])]) [] [0] (fun _ => rfl) (w_impl_applyRow_h0 _ _ _ _ _ hv63) rfl (.refl _) (.refl _) rfl rfl) ?_; refine s_mov (.tup [(.own 0 0 out_43.length), (.int .i64 v_62)]) rfl <| s_q (.own 0 0 out_43.length) rfl nle rfl <| s_q (.int .i64 v_62) rfl nle rfl <| s_mov (.own 0 0 out_43.length) rfl <| s_mov (.int .i64 v_62) rfl <| w_done <| k_seq <| awp_seq <| awp_seq <| w_reg <| s_mov (.int .i64 v_62) rfl <| s_q (.bool (v_62 != 0)) rfl rfl rfl <| ?_
       refine w_done <| k_seq <| ?_
       rcases oi hc1 with ⟨c65, hc1⟩ | ⟨c65, hc1⟩
       ·refine w_condt rfl c65 <| awp_seq <| w_reg <| s_mov (.own 0 0 out_43.length) rfl <| s_mov (.int .i64 v_62) rfl <| s_mov (.own 0 0 out_43.length) rfl <| s_mov (.int .i64 v_62) rfl <| w_done <| k_seq <| w_ret <| ?_; obtain rfl := os hc1; obtain rfl := os hf; exact r_fresh ⟨trivial, ⟨trivial, trivial⟩⟩ rfl (by decide) (.tup (.cons (.of_eq (congrArg (AV.lst _) (tk (enc := encGRow) out_43))) (.cons (.refl _) .nil)))
       ·refine w_condf rfl (bf c65) <| w_skip <| k_seq <| w_reg <| s_mov (.own 0 0 out_43.length) rfl <| s_mov (.own 0 0 out_43.length) rfl <| w_done <| k_blk <| k_seq <| w_reg <| s_q (.int .i64 (w64 ((s28_42 : Int) + 1))) rfl rfl rfl <| s_mov (.int .i64 (w64 ((s28_42 : Int) + 1))) rfl <| w_done <| ?_; exact k_loopn ⟨((s28_42 + 1), out_43), hc1⟩ (mul hlt55) ⟨[], [0], _, _, rfl, rfl, ⟨.refl _, ⟨.refl _, ⟨.refl _, ⟨.of_eq (congrArg (AV.int _) (w64_incr hlt55 hl21)), trivial⟩⟩⟩⟩, (.refl _)⟩
      ·obtain ⟨r_66, er67, hc1⟩ := ob hc1
       refine s_do (o_callh (v := (.tup [(.own 2 0 r_66.length), (.int .i64 0)])) (h2 := [.dead, .box 5 (.agg [(.int .i64 x_61.Id), (.int .i64 x_61.Old.Id), (.lst 1 (x_61.Old.Cells.map (encL 3 encGAtom))), (.int .i64 x_61.New.Id), (.lst 1 (x_61.New.Cells.map (encL 3 encGAtom)))]), .row 2 (r_66.map encGRow)]) [] [0] (fun _ => rfl) (w_impl_applyRow_h1 _ _ _ _ _ er67) rfl (.refl _) (.refl _) rfl rfl) ?_; refine s_mov (.tup [(.own 2 0 r_66.length), (.int .i64 0)]) rfl <| s_q (.own 2 0 r_66.length) rfl nle rfl <| s_q (.int .i64 0) rfl nle rfl <| s_mov (.own 2 0 r_66.length) rfl <| s_mov (.int .i64 0) rfl <| w_done <| k_seq <| awp_seq <| awp_seq <| w_reg <| s_mov (.int .i64 0) rfl <| s_q (.bool false) rfl rfl rfl <| ?_
       refine w_done <| k_seq <| w_condf rfl rfl <| w_skip <| k_seq <| w_reg <| s_mov (.own 2 0 r_66.length) rfl <| s_mov (.own 2 0 r_66.length) rfl <| w_done <| k_blk <| k_seq <| w_reg <| s_q (.int .i64 (w64 ((s28_42 : Int) + 1))) rfl rfl rfl <| s_mov (.int .i64 (w64 ((s28_42 : Int) + 1))) rfl <| w_done <| ?_; exact k_loopn ⟨((s28_42 + 1), r_66), hc1⟩ (mul hlt55) ⟨[], [2], _, _, rfl, rfl, ⟨.refl _, ⟨.refl _, ⟨.refl _, ⟨.of_eq (congrArg (AV.int _) (w64_incr hlt55 hl21)), trivial⟩⟩⟩⟩, (.refl _)⟩
    ·rintro ⟨out_53, rfl⟩
     refine awp_seq <| w_reg <| s_mov (.own 0 0 out_53.length) rfl <| s_mov (.own 0 0 out_53.length) rfl <| s_mov (.int .i64 0) rfl <| w_done <| k_seq <| w_ret <| ?_; obtain rfl := os hf; exact r_fresh ⟨trivial, ⟨trivial, trivial⟩⟩ rfl (by decide) (.tup (.cons (.of_eq (congrArg (AV.lst _) (tk (enc := encGRow) out_53))) (.cons (.refl _) .nil)))

/- laws.eqAtom -/
def c118 : ACode :=
 (.seq (.reg (tq 2 (.box 3 (.t 0)) (tq 3 (.box 3 (.t 1)) (tm 4 (.c (.bool false)) .done))))
 (.seq (.seq (.reg (tq 5 (.faddr 0 (.t 2)) (tq 6 (.load 1 false (.t 5)) (tq 7 (.faddr 0 (.t 3)) (tq 8 (.load 1 false (.t 7)) (tq 9 (.bin .neq (.t 6) (.t 8)) .done))))))
 (.cond (.t 9) (.seq (.reg (tm 4 (.c (.bool false)) .done))
 .ret)
 .skip))
 (.seq (.seq (.reg (tq 10 (.faddr 1 (.t 2)) (tq 11 (.load 1 false (.t 10)) (tq 12 (.faddr 1 (.t 3)) (tq 13 (.load 1 false (.t 12)) (tq 14 (.bin .neq (.t 11) (.t 13)) .done))))))
 (.cond (.t 14) (.seq (.reg (tm 4 (.c (.bool false)) .done))
 .ret)
 .skip))
 (.seq (.seq (.reg (tq 15 (.faddr 2 (.t 2)) (tq 16 (.load 1 false (.t 15)) (tq 17 (.faddr 2 (.t 3)) (tq 18 (.load 1 false (.t 17)) (tq 19 (.bin .neq (.t 16) (.t 18)) .done))))))
 (.cond (.t 19) (.seq (.reg (tm 4 (.c (.bool false)) .done))
 .ret)
 .skip))
 (.seq (.reg (tm 4 (.c (.bool true)) .done))
 .ret)))))
theorem fc118 : fcomp Try.prog Try.f118 = some (c118.erase, [.mov (.t 4)], 20) := by kernel_rfl
def laws_eqAtom (a_1 : GAtom) (b_2 : GAtom) : Option Bool :=
    if (a_1.Kind != b_2.Kind) then
    some false
    else
    if (a_1.N != b_2.N) then
    some false
    else
    if (!(a_1.T == b_2.T)) then
    some false
    else
    some true
theorem w_laws_eqAtom (a_1 : GAtom) (b_2 : GAtom) (r : Bool) (hf : laws_eqAtom a_1 b_2 = some r) : CallOK Try.prog 118 .flat [(encGAtom a_1), (encGAtom b_2)] (.bool r) := by
 refine CallOK.of_awp mixed Try.func118 fc118 nle ?_; rw [argT_eq]; unfold laws_eqAtom at hf; unfold c118; refine (show awp Try.prog false 0 _ (ofL [(0, (encGAtom a_1)), (1, (encGAtom b_2))]) [] _ from ?_); refine awp_seq <| w_reg <| s_do (o_box (j := 0) (c := (.agg [(.int .i64 a_1.Kind), (.int .i64 a_1.N), (.str a_1.T)])) rfl trivial rfl rfl) <| s_do (o_box (j := 1) (c := (.agg [(.int .i64 b_2.Kind), (.int .i64 b_2.N), (.str b_2.T)])) rfl trivial rfl rfl) <| s_mov (.bool false) rfl <| w_done <| k_seq <| awp_seq <| awp_seq <| w_reg <| s_q (.ptr 0 0 0) rfl trivial rfl <| s_q (.int .i64 a_1.Kind) rfl nle rfl <| s_q (.ptr 1 0 0) rfl trivial rfl <| s_q (.int .i64 b_2.Kind) rfl nle rfl <| s_q (.bool (a_1.Kind != b_2.Kind)) rfl rfl rfl <| ?_
 refine w_done <| k_seq <| ?_
 rcases oi hf with ⟨c3, hf⟩ | ⟨c3, hf⟩
 ·refine w_condt rfl c3 <| awp_seq <| w_reg <| s_mov (.bool false) rfl <| w_done <| k_seq <| w_ret <| ?_; obtain rfl := os hf; exact r_flat ⟨trivial, trivial⟩ rfl (.refl _)
 ·refine w_condf rfl (bf c3) <| w_skip <| k_seq <| awp_seq <| awp_seq <| w_reg <| s_q (.ptr 0 0 1) rfl trivial rfl <| s_q (.int .i64 a_1.N) rfl nle rfl <| s_q (.ptr 1 0 1) rfl trivial rfl <| s_q (.int .i64 b_2.N) rfl nle rfl <| s_q (.bool (a_1.N != b_2.N)) rfl rfl rfl <| w_done <| k_seq <| ?_
  rcases oi hf with ⟨c4, hf⟩ | ⟨c4, hf⟩
  ·refine w_condt rfl c4 <| awp_seq <| w_reg <| s_mov (.bool false) rfl <| w_done <| k_seq <| w_ret <| ?_; obtain rfl := os hf; exact r_flat ⟨trivial, trivial⟩ rfl (.refl _)
  ·refine w_condf rfl (bf c4) <| w_skip <| k_seq <| awp_seq <| awp_seq <| w_reg <| s_q (.ptr 0 0 2) rfl trivial rfl <| s_q (.str a_1.T) rfl nle rfl <| s_q (.ptr 1 0 2) rfl trivial rfl <| s_q (.str b_2.T) rfl nle rfl <| s_q (.bool (!(a_1.T == b_2.T))) rfl trivial rfl <| w_done <| k_seq <| ?_
   rcases oi hf with ⟨c5, hf⟩ | ⟨c5, hf⟩
   ·refine w_condt rfl c5 <| awp_seq <| w_reg <| s_mov (.bool false) rfl <| w_done <| k_seq <| w_ret <| ?_; obtain rfl := os hf; exact r_flat ⟨trivial, trivial⟩ rfl (.refl _)
   ·refine w_condf rfl (bf c5) <| w_skip <| k_seq <| awp_seq <| w_reg <| s_mov (.bool true) rfl <| w_done <| k_seq <| w_ret <| ?_; obtain rfl := os hf; exact r_flat ⟨trivial, trivial⟩ rfl (.refl _)

/- laws.eqAtomS -/
def c104 : ACode :=
 (.seq (.reg (tm 4 (.c (.bool false)) .done))
 (.seq (.seq (.reg (tm 6 (.t 0) (tq 7 (.len (.t 6)) (tm 8 (.t 1) (tq 9 (.len (.t 8)) (tq 10 (.bin .neq (.t 7) (.t 9)) .done))))))
 (.cond (.t 10) (.seq (.reg (tm 4 (.c (.bool false)) .done))
 .ret)
 .skip))
 (.seq (.seq (.reg (tm 5 (.c (.int .i64 0)) .done))
 (.block 0 (.loop (.seq (.seq (.reg (tm 11 (.t 5) (tm 12 (.t 0) (tq 13 (.len (.t 12)) (tq 14 (.bin .lss (.t 11) (.t 13)) .done)))))
 (.cond (.t 14) .skip
 (.exit 0)))
 (.seq (.block 1 (.seq (.reg (tm 17 (.t 0) (tm 18 (.t 5) (tq 19 (.iaddr 3 (.t 17) (.t 18)) (tq 20 (.load 3 true (.t 19)) (tm 21 (.t 1) (tm 22 (.t 5) (tq 23 (.iaddr 3 (.t 21) (.t 22)) (tq 24 (.load 3 true (.t 23)) (.l ⟨(some 25), none, .call 118 [(.t 20), (.t 24)]⟩ []
 (tq 26 (.not (.t 25)) .done) .non))))))))))
 (.cond (.t 26) (.seq (.reg (tm 4 (.c (.bool false)) .done))
 .ret)
 .skip)))
 (.reg (tm 15 (.t 5) (tq 16 (.bin .add (.t 15) (.c (.int .i64 1))) (tm 5 (.t 16) .done)))))))))
 (.cut (.seq (.reg (tm 4 (.c (.bool true)) .done))
 .ret)))))
theorem fc104 : fcomp Try.prog Try.f104 = some (c104.erase, [.mov (.t 4)], 27) := by kernel_rfl
def laws_eqAtomS_L1 (b_2 : (List GAtom)) : List GAtom → Nat → Option (Fl Bool Unit)
  | [], i_25 =>
    some (.go ())
  | x_43 :: xs, i_25 =>
    (idx b_2 (i_25 : Int)).bind fun x_46 =>
    (laws_eqAtom x_43 x_46).bind fun r_48 =>
    if (!r_48) then
    some (.ret false)
    else
    laws_eqAtomS_L1 b_2 xs (i_25 + 1)

def laws_eqAtomS (a_1 : (List GAtom)) (b_2 : (List GAtom)) : Option Bool :=
    if ((a_1.length : Int) != (b_2.length : Int)) then
    some false
    else
    (laws_eqAtomS_L1 b_2 a_1 0).bind fun q => (match q with
    | .ret r => some r
    | .go _ =>
    some true)
theorem w_laws_eqAtomS (a_1 : (List GAtom)) (b_2 : (List GAtom)) (r : Bool) (hf : laws_eqAtomS a_1 b_2 = some r) : CallOK Try.prog 104 .flat [(.lst 3 (a_1.map encGAtom)), (.lst 3 (b_2.map encGAtom))] (.bool r) := by
 refine CallOK.of_awp mixed Try.func104 fc104 nle ?_; rw [argT_eq]; unfold laws_eqAtomS at hf; unfold c104; refine (show awp Try.prog false 0 _ (ofL [(0, (.lst 3 (a_1.map encGAtom))), (1, (.lst 3 (b_2.map encGAtom)))]) [] _ from ?_); refine awp_seq <| w_reg <| s_mov (.bool false) rfl <| w_done <| k_seq <| awp_seq <| awp_seq <| w_reg <| s_mov (.lst 3 (a_1.map encGAtom)) rfl <| s_dof (o_len (enc := encGAtom) rfl) fun hl3 => s_mov (.lst 3 (b_2.map encGAtom)) rfl <| s_dof (o_len (enc := encGAtom) rfl) fun hl4 => s_q (.bool ((a_1.length : Int) != (b_2.length : Int))) rfl rfl rfl <| w_done <| k_seq <| ?_
 rcases oi hf with ⟨c5, hf⟩ | ⟨c5, hf⟩
 ·refine w_condt rfl c5 <| awp_seq <| w_reg <| s_mov (.bool false) rfl <| w_done <| k_seq <| w_ret <| ?_; obtain rfl := os hf; exact r_flat ⟨trivial, trivial⟩ rfl (.refl _)
 ·refine w_condf rfl (bf c5) <| w_skip <| k_seq <| awp_seq <| awp_seq <| w_reg <| s_mov (.int .i64 0) rfl <| w_done <| k_seq <| ?_
  obtain ⟨p36, hb1, hf⟩ := ob hf
  refine awp_cutx (X := {q : Unit // p36 = .go q}) (fun q => ([], [])) ?_ ?_
  ·refine awp_loop (X := {q : Nat // laws_eqAtomS_L1 b_2 (a_1.drop q) q = some p36}) (fun q => ([(0, (.lst 3 (a_1.map encGAtom))), (1, (.lst 3 (b_2.map encGAtom))), (5, (.int .i64 (q.1 : Int)))], [])) (fun q => a_1.length - q.1) ⟨0, hb1⟩ ⟨[], [], _, _, rfl, rfl, ⟨.refl _, ⟨.refl _, ⟨.refl _, trivial⟩⟩⟩, (.refl _)⟩ ?_
   rintro ⟨i_25, hc1⟩
   have hc1 : laws_eqAtomS_L1 b_2 (a_1.drop i_25) i_25 = some p36 := hc1
   refine (show awp Try.prog false 0 _ (ofL [(0, (.lst 3 (a_1.map encGAtom))), (1, (.lst 3 (b_2.map encGAtom))), (5, (.int .i64 (i_25 : Int)))]) [] _ from ?_)
   rcases dropc a_1 i_25 with ⟨hie39, hd42⟩ | ⟨hlt37, x_43, hx38, hd42⟩
   ·rw [hd42, laws_eqAtomS_L1.eq_1] at hc1
    have hq41 := dlf hie39
    refine awp_seq <| awp_seq <| w_reg <| s_mov (.int .i64 (i_25 : Int)) rfl <| s_mov (.lst 3 (a_1.map encGAtom)) rfl <| s_dof (o_len (enc := encGAtom) rfl) fun hl44 => s_q (.bool (decide ((i_25 : Int) < (a_1.length : Int)))) rfl rfl rfl <| w_done <| k_seq <| w_condf rfl hq41 <| w_exit <| k_seqx <| k_loopx <| k_blkx <| ?_; obtain rfl := os hc1; exact k_cutn ⟨_, rfl⟩ ⟨[], [], _, _, rfl, rfl, trivial, (.refl _)⟩
   ·rw [hd42, laws_eqAtomS_L1.eq_2] at hc1
    have hq41 := dlt hlt37
    refine awp_seq <| awp_seq <| w_reg <| s_mov (.int .i64 (i_25 : Int)) rfl <| s_mov (.lst 3 (a_1.map encGAtom)) rfl <| s_dof (o_len (enc := encGAtom) rfl) fun hl45 => s_q (.bool (decide ((i_25 : Int) < (a_1.length : Int)))) rfl rfl rfl <| w_done <| k_seq <| w_condt rfl hq41 <| w_skip <| k_seq <| awp_seq <| w_blk <| awp_seq <| w_reg <| ?_
    obtain ⟨x_46, ex47, hc1⟩ := ob hc1
    obtain ⟨r_48, er49, hc1⟩ := ob hc1
    refine s_mov (.lst 3 (a_1.map encGAtom)) rfl <| s_mov (.int .i64 (i_25 : Int)) rfl <| s_do (o_iaddrn (enc := encGAtom) rfl rfl hx38) <| s_q (encGAtom x_43) rfl nle rfl <| s_mov (.lst 3 (b_2.map encGAtom)) rfl <| s_mov (.int .i64 (i_25 : Int)) rfl <| s_do (o_iaddr (enc := encGAtom) rfl rfl (idx0 ex47) (idx1 ex47)) <| s_q (encGAtom x_46) rfl nle rfl <| s_dol (o_call (w_laws_eqAtom _ _ _ er49) rfl (.refl _) rfl) a_same trivial <| s_q (.bool (!r_48)) rfl trivial rfl <| w_done <| k_seq <| ?_
    rcases oi hc1 with ⟨c50, hc1⟩ | ⟨c50, hc1⟩
    ·refine w_condt rfl c50 <| awp_seq <| w_reg <| s_mov (.bool false) rfl <| w_done <| k_seq <| w_ret <| ?_; obtain rfl := os hc1; obtain rfl := os hf; exact r_flat ⟨trivial, trivial⟩ rfl (.refl _)
    ·refine w_condf rfl (bf c50) <| w_skip <| k_blk <| k_seq <| w_reg <| s_mov (.int .i64 (i_25 : Int)) rfl <| s_q (.int .i64 (w64 ((i_25 : Int) + 1))) rfl rfl rfl <| s_mov (.int .i64 (w64 ((i_25 : Int) + 1))) rfl <| w_done <| ?_; exact k_loopn ⟨(i_25 + 1), hc1⟩ (mul hlt37) ⟨[], [], _, _, rfl, rfl, ⟨.refl _, ⟨.refl _, ⟨.of_eq (congrArg (AV.int _) (w64_incr hlt37 hl45)), trivial⟩⟩⟩, (.refl _)⟩
  ·rintro ⟨_, rfl⟩
   refine awp_seq <| w_reg <| s_mov (.bool true) rfl <| w_done <| k_seq <| w_ret <| ?_; obtain rfl := os hf; exact r_flat ⟨trivial, trivial⟩ rfl (.refl _)

/- laws.eqAtomSS -/
def c82 : ACode :=
 (.seq (.reg (tm 4 (.c (.bool false)) .done))
 (.seq (.seq (.reg (tm 6 (.t 0) (tq 7 (.len (.t 6)) (tm 8 (.t 1) (tq 9 (.len (.t 8)) (tq 10 (.bin .neq (.t 7) (.t 9)) .done))))))
 (.cond (.t 10) (.seq (.reg (tm 4 (.c (.bool false)) .done))
 .ret)
 .skip))
 (.seq (.seq (.reg (tm 5 (.c (.int .i64 0)) .done))
 (.block 0 (.loop (.seq (.seq (.reg (tm 11 (.t 5) (tm 12 (.t 0) (tq 13 (.len (.t 12)) (tq 14 (.bin .lss (.t 11) (.t 13)) .done)))))
 (.cond (.t 14) .skip
 (.exit 0)))
 (.seq (.block 1 (.seq (.reg (tm 17 (.t 0) (tm 18 (.t 5) (tq 19 (.iaddr 1 (.t 17) (.t 18)) (tq 20 (.load 1 false (.t 19)) (tm 21 (.t 1) (tm 22 (.t 5) (tq 23 (.iaddr 1 (.t 21) (.t 22)) (tq 24 (.load 1 false (.t 23)) (.l ⟨(some 25), none, .call 104 [(.t 20), (.t 24)]⟩ []
 (tq 26 (.not (.t 25)) .done) .non))))))))))
 (.cond (.t 26) (.seq (.reg (tm 4 (.c (.bool false)) .done))
 .ret)
 .skip)))
 (.reg (tm 15 (.t 5) (tq 16 (.bin .add (.t 15) (.c (.int .i64 1))) (tm 5 (.t 16) .done)))))))))
 (.cut (.seq (.reg (tm 4 (.c (.bool true)) .done))
 .ret)))))
theorem fc82 : fcomp Try.prog Try.f82 = some (c82.erase, [.mov (.t 4)], 27) := by kernel_rfl
def laws_eqAtomSS_L1 (b_2 : (List (List GAtom))) : List (List GAtom) → Nat → Option (Fl Bool Unit)
  | [], i_25 =>
    some (.go ())
  | x_43 :: xs, i_25 =>
    (idx b_2 (i_25 : Int)).bind fun x_46 =>
    (laws_eqAtomS x_43 x_46).bind fun r_48 =>
    if (!r_48) then
    some (.ret false)
    else
    laws_eqAtomSS_L1 b_2 xs (i_25 + 1)

def laws_eqAtomSS (a_1 : (List (List GAtom))) (b_2 : (List (List GAtom))) : Option Bool :=
    if ((a_1.length : Int) != (b_2.length : Int)) then
    some false
    else
    (laws_eqAtomSS_L1 b_2 a_1 0).bind fun q => (match q with
    | .ret r => some r
    | .go _ =>
    some true)
theorem w_laws_eqAtomSS (a_1 : (List (List GAtom))) (b_2 : (List (List GAtom))) (r : Bool) (hf : laws_eqAtomSS a_1 b_2 = some r) : CallOK Try.prog 82 .flat [(.lst 1 (a_1.map (encL 3 encGAtom))), (.lst 1 (b_2.map (encL 3 encGAtom)))] (.bool r) := by
 refine CallOK.of_awp mixed Try.func82 fc82 nle ?_; rw [argT_eq]; unfold laws_eqAtomSS at hf; unfold c82; refine (show awp Try.prog false 0 _ (ofL [(0, (.lst 1 (a_1.map (encL 3 encGAtom)))), (1, (.lst 1 (b_2.map (encL 3 encGAtom))))]) [] _ from ?_); refine awp_seq <| w_reg <| s_mov (.bool false) rfl <| w_done <| k_seq <| awp_seq <| awp_seq <| w_reg <| s_mov (.lst 1 (a_1.map (encL 3 encGAtom))) rfl <| s_dof (o_len (enc := (encL 3 encGAtom)) rfl) fun hl3 => s_mov (.lst 1 (b_2.map (encL 3 encGAtom))) rfl <| s_dof (o_len (enc := (encL 3 encGAtom)) rfl) fun hl4 => s_q (.bool ((a_1.length : Int) != (b_2.length : Int))) rfl rfl rfl <| w_done <| k_seq <| ?_
 rcases oi hf with ⟨c5, hf⟩ | ⟨c5, hf⟩
 ·refine w_condt rfl c5 <| awp_seq <| w_reg <| s_mov (.bool false) rfl <| w_done <| k_seq <| w_ret <| ?_; obtain rfl := os hf; exact r_flat ⟨trivial, trivial⟩ rfl (.refl _)
 ·refine w_condf rfl (bf c5) <| w_skip <| k_seq <| awp_seq <| awp_seq <| w_reg <| s_mov (.int .i64 0) rfl <| w_done <| k_seq <| ?_
  obtain ⟨p36, hb1, hf⟩ := ob hf
  refine awp_cutx (X := {q : Unit // p36 = .go q}) (fun q => ([], [])) ?_ ?_
  ·refine awp_loop (X := {q : Nat // laws_eqAtomSS_L1 b_2 (a_1.drop q) q = some p36}) (fun q => ([(0, (.lst 1 (a_1.map (encL 3 encGAtom)))), (1, (.lst 1 (b_2.map (encL 3 encGAtom)))), (5, (.int .i64 (q.1 : Int)))], [])) (fun q => a_1.length - q.1) ⟨0, hb1⟩ ⟨[], [], _, _, rfl, rfl, ⟨.refl _, ⟨.refl _, ⟨.refl _, trivial⟩⟩⟩, (.refl _)⟩ ?_
   rintro ⟨i_25, hc1⟩
   have hc1 : laws_eqAtomSS_L1 b_2 (a_1.drop i_25) i_25 = some p36 := hc1
   refine (show awp Try.prog false 0 _ (ofL [(0, (.lst 1 (a_1.map (encL 3 encGAtom)))), (1, (.lst 1 (b_2.map (encL 3 encGAtom)))), (5, (.int .i64 (i_25 : Int)))]) [] _ from ?_)
   rcases dropc a_1 i_25 with ⟨hie39, hd42⟩ | ⟨hlt37, x_43, hx38, hd42⟩
   ·rw [hd42, laws_eqAtomSS_L1.eq_1] at hc1
    have hq41 := dlf hie39
    refine awp_seq <| awp_seq <| w_reg <| s_mov (.int .i64 (i_25 : Int)) rfl <| s_mov (.lst 1 (a_1.map (encL 3 encGAtom))) rfl <| s_dof (o_len (enc := (encL 3 encGAtom)) rfl) fun hl44 => s_q (.bool (decide ((i_25 : Int) < (a_1.length : Int)))) rfl rfl rfl <| w_done <| k_seq <| w_condf rfl hq41 <| w_exit <| k_seqx <| k_loopx <| k_blkx <| ?_; obtain rfl := os hc1; exact k_cutn ⟨_, rfl⟩ ⟨[], [], _, _, rfl, rfl, trivial, (.refl _)⟩
   ·rw [hd42, laws_eqAtomSS_L1.eq_2] at hc1
    have hq41 := dlt hlt37
    refine awp_seq <| awp_seq <| w_reg <| s_mov (.int .i64 (i_25 : Int)) rfl <| s_mov (.lst 1 (a_1.map (encL 3 encGAtom))) rfl <| s_dof (o_len (enc := (encL 3 encGAtom)) rfl) fun hl45 => s_q (.bool (decide ((i_25 : Int) < (a_1.length : Int)))) rfl rfl rfl <| w_done <| k_seq <| w_condt rfl hq41 <| w_skip <| k_seq <| awp_seq <| w_blk <| awp_seq <| w_reg <| ?_
    obtain ⟨x_46, ex47, hc1⟩ := ob hc1
    obtain ⟨r_48, er49, hc1⟩ := ob hc1
    refine s_mov (.lst 1 (a_1.map (encL 3 encGAtom))) rfl <| s_mov (.int .i64 (i_25 : Int)) rfl <| s_do (o_iaddrn (enc := (encL 3 encGAtom)) rfl rfl hx38) <| s_q (.lst 3 (x_43.map encGAtom)) rfl ⟨rfl, rfl⟩ rfl <| s_mov (.lst 1 (b_2.map (encL 3 encGAtom))) rfl <| s_mov (.int .i64 (i_25 : Int)) rfl <| s_do (o_iaddr (enc := (encL 3 encGAtom)) rfl rfl (idx0 ex47) (idx1 ex47)) <| s_q (.lst 3 (x_46.map encGAtom)) rfl ⟨rfl, rfl⟩ rfl <| s_dol (o_call (w_laws_eqAtomS _ _ _ er49) rfl (.refl _) rfl) a_same trivial <| s_q (.bool (!r_48)) rfl trivial rfl <| w_done <| k_seq <| ?_
    rcases oi hc1 with ⟨c50, hc1⟩ | ⟨c50, hc1⟩
    ·refine w_condt rfl c50 <| awp_seq <| w_reg <| s_mov (.bool false) rfl <| w_done <| k_seq <| w_ret <| ?_; obtain rfl := os hc1; obtain rfl := os hf; exact r_flat ⟨trivial, trivial⟩ rfl (.refl _)
    ·refine w_condf rfl (bf c50) <| w_skip <| k_blk <| k_seq <| w_reg <| s_mov (.int .i64 (i_25 : Int)) rfl <| s_q (.int .i64 (w64 ((i_25 : Int) + 1))) rfl rfl rfl <| s_mov (.int .i64 (w64 ((i_25 : Int) + 1))) rfl <| w_done <| ?_; exact k_loopn ⟨(i_25 + 1), hc1⟩ (mul hlt37) ⟨[], [], _, _, rfl, rfl, ⟨.refl _, ⟨.refl _, ⟨.of_eq (congrArg (AV.int _) (w64_incr hlt37 hl45)), trivial⟩⟩⟩, (.refl _)⟩
  ·rintro ⟨_, rfl⟩
   refine awp_seq <| w_reg <| s_mov (.bool true) rfl <| w_done <| k_seq <| w_ret <| ?_; obtain rfl := os hf; exact r_flat ⟨trivial, trivial⟩ rfl (.refl _)

/- laws.eqRow -/
def c51 : ACode :=
 (.seq (.reg (tq 2 (.box 2 (.t 0)) (tq 3 (.box 2 (.t 1)) (tm 4 (.c (.bool false)) .done))))
 (.seq (.seq (.reg (tq 5 (.faddr 0 (.t 2)) (tq 6 (.load 1 false (.t 5)) (tq 7 (.faddr 0 (.t 3)) (tq 8 (.load 1 false (.t 7)) (tq 9 (.bin .neq (.t 6) (.t 8)) .done))))))
 (.cond (.t 9) (.seq (.reg (tm 4 (.c (.bool false)) .done))
 .ret)
 .skip))
 (.seq (.seq (.reg (tq 10 (.faddr 1 (.t 2)) (tq 11 (.load 1 false (.t 10)) (tq 12 (.faddr 1 (.t 3)) (tq 13 (.load 1 false (.t 12)) (tq 14 (.call 82 [(.t 11), (.t 13)]) (tq 15 (.not (.t 14)) .done)))))))
 (.cond (.t 15) (.seq (.reg (tm 4 (.c (.bool false)) .done))
 .ret)
 .skip))
 (.seq (.reg (tm 4 (.c (.bool true)) .done))
 .ret))))
theorem fc51 : fcomp Try.prog Try.f51 = some (c51.erase, [.mov (.t 4)], 16) := by kernel_rfl
def laws_eqRow (a_1 : GRow) (b_2 : GRow) : Option Bool :=
    if (a_1.Id != b_2.Id) then
    some false
    else
    (laws_eqAtomSS a_1.Cells b_2.Cells).bind fun r_4 =>
    if (!r_4) then
    some false
    else
    some true
theorem w_laws_eqRow (a_1 : GRow) (b_2 : GRow) (r : Bool) (hf : laws_eqRow a_1 b_2 = some r) : CallOK Try.prog 51 .flat [(encGRow a_1), (encGRow b_2)] (.bool r) := by
 refine CallOK.of_awp mixed Try.func51 fc51 nle ?_; rw [argT_eq]; unfold laws_eqRow at hf; unfold c51; refine (show awp Try.prog false 0 _ (ofL [(0, (encGRow a_1)), (1, (encGRow b_2))]) [] _ from ?_); refine awp_seq <| w_reg <| s_do (o_box (j := 0) (c := (.agg [(.int .i64 a_1.Id), (.lst 1 (a_1.Cells.map (encL 3 encGAtom)))])) rfl trivial rfl rfl) <| s_do (o_box (j := 1) (c := (.agg [(.int .i64 b_2.Id), (.lst 1 (b_2.Cells.map (encL 3 encGAtom)))])) rfl trivial rfl rfl) <| s_mov (.bool false) rfl <| w_done <| k_seq <| awp_seq <| awp_seq <| w_reg <| s_q (.ptr 0 0 0) rfl trivial rfl <| s_q (.int .i64 a_1.Id) rfl nle rfl <| s_q (.ptr 1 0 0) rfl trivial rfl <| s_q (.int .i64 b_2.Id) rfl nle rfl <| s_q (.bool (a_1.Id != b_2.Id)) rfl rfl rfl <| ?_
 refine w_done <| k_seq <| ?_
 rcases oi hf with ⟨c3, hf⟩ | ⟨c3, hf⟩
 ·refine w_condt rfl c3 <| awp_seq <| w_reg <| s_mov (.bool false) rfl <| w_done <| k_seq <| w_ret <| ?_; obtain rfl := os hf; exact r_flat ⟨trivial, trivial⟩ rfl (.refl _)
 ·refine w_condf rfl (bf c3) <| w_skip <| k_seq <| awp_seq <| awp_seq <| w_reg <| ?_
  obtain ⟨r_4, er5, hf⟩ := ob hf
  refine s_q (.ptr 0 0 1) rfl trivial rfl <| s_q (.lst 1 (a_1.Cells.map (encL 3 encGAtom))) rfl nle rfl <| s_q (.ptr 1 0 1) rfl trivial rfl <| s_q (.lst 1 (b_2.Cells.map (encL 3 encGAtom))) rfl nle rfl <| s_do (o_call (w_laws_eqAtomSS _ _ _ er5) rfl (.refl _) rfl) <| s_q (.bool (!r_4)) rfl trivial rfl <| w_done <| k_seq <| ?_
  rcases oi hf with ⟨c6, hf⟩ | ⟨c6, hf⟩
  ·refine w_condt rfl c6 <| awp_seq <| w_reg <| s_mov (.bool false) rfl <| w_done <| k_seq <| w_ret <| ?_; obtain rfl := os hf; exact r_flat ⟨trivial, trivial⟩ rfl (.refl _)
  ·refine w_condf rfl (bf c6) <| w_skip <| k_seq <| awp_seq <| w_reg <| s_mov (.bool true) rfl <| w_done <| k_seq <| w_ret <| ?_; obtain rfl := os hf; exact r_flat ⟨trivial, trivial⟩ rfl (.refl _)

/- laws.eqRowS -/
def c13 : ACode :=
 (.seq (.reg (tm 4 (.c (.bool false)) .done))
 (.seq (.seq (.reg (tm 6 (.t 0) (tq 7 (.len (.t 6)) (tm 8 (.t 1) (tq 9 (.len (.t 8)) (tq 10 (.bin .neq (.t 7) (.t 9)) .done))))))
 (.cond (.t 10) (.seq (.reg (tm 4 (.c (.bool false)) .done))
 .ret)
 .skip))
 (.seq (.seq (.reg (tm 5 (.c (.int .i64 0)) .done))
 (.block 0 (.loop (.seq (.seq (.reg (tm 11 (.t 5) (tm 12 (.t 0) (tq 13 (.len (.t 12)) (tq 14 (.bin .lss (.t 11) (.t 13)) .done)))))
 (.cond (.t 14) .skip
 (.exit 0)))
 (.seq (.block 1 (.seq (.reg (tm 17 (.t 0) (tm 18 (.t 5) (tq 19 (.iaddr 2 (.t 17) (.t 18)) (tq 20 (.load 2 true (.t 19)) (tm 21 (.t 1) (tm 22 (.t 5) (tq 23 (.iaddr 2 (.t 21) (.t 22)) (tq 24 (.load 2 true (.t 23)) (.l ⟨(some 25), none, .call 51 [(.t 20), (.t 24)]⟩ []
 (tq 26 (.not (.t 25)) .done) .non))))))))))
 (.cond (.t 26) (.seq (.reg (tm 4 (.c (.bool false)) .done))
 .ret)
 .skip)))
 (.reg (tm 15 (.t 5) (tq 16 (.bin .add (.t 15) (.c (.int .i64 1))) (tm 5 (.t 16) .done)))))))))
 (.cut (.seq (.reg (tm 4 (.c (.bool true)) .done))
 .ret)))))
theorem fc13 : fcomp Try.prog Try.f13 = some (c13.erase, [.mov (.t 4)], 27) := by kernel_rfl
def laws_eqRowS_L1 (b_2 : (List GRow)) : List GRow → Nat → Option (Fl Bool Unit)
  | [], i_25 =>
    some (.go ())
  | x_43 :: xs, i_25 =>
    (idx b_2 (i_25 : Int)).bind fun x_46 =>
    (laws_eqRow x_43 x_46).bind fun r_48 =>
    if (!r_48) then
    some (.ret false)
    else
    laws_eqRowS_L1 b_2 xs (i_25 + 1)

def laws_eqRowS (a_1 : (List GRow)) (b_2 : (List GRow)) : Option Bool :=
    if ((a_1.length : Int) != (b_2.length : Int)) then
    some false
    else
    (laws_eqRowS_L1 b_2 a_1 0).bind fun q => (match q with
    | .ret r => some r
    | .go _ =>
    some true)
theorem w_laws_eqRowS (a_1 : (List GRow)) (b_2 : (List GRow)) (r : Bool) (hf : laws_eqRowS a_1 b_2 = some r) : CallOK Try.prog 13 .flat [(.lst 2 (a_1.map encGRow)), (.lst 2 (b_2.map encGRow))] (.bool r) := by
 refine CallOK.of_awp mixed Try.func13 fc13 nle ?_; rw [argT_eq]; unfold laws_eqRowS at hf; unfold c13; refine (show awp Try.prog false 0 _ (ofL [(0, (.lst 2 (a_1.map encGRow))), (1, (.lst 2 (b_2.map encGRow)))]) [] _ from ?_); refine awp_seq <| w_reg <| s_mov (.bool false) rfl <| w_done <| k_seq <| awp_seq <| awp_seq <| w_reg <| s_mov (.lst 2 (a_1.map encGRow)) rfl <| s_dof (o_len (enc := encGRow) rfl) fun hl3 => s_mov (.lst 2 (b_2.map encGRow)) rfl <| s_dof (o_len (enc := encGRow) rfl) fun hl4 => s_q (.bool ((a_1.length : Int) != (b_2.length : Int))) rfl rfl rfl <| w_done <| k_seq <| ?_
 rcases oi hf with ⟨c5, hf⟩ | ⟨c5, hf⟩
 ·refine w_condt rfl c5 <| awp_seq <| w_reg <| s_mov (.bool false) rfl <| w_done <| k_seq <| w_ret <| ?_; obtain rfl := os hf; exact r_flat ⟨trivial, trivial⟩ rfl (.refl _)
 ·refine w_condf rfl (bf c5) <| w_skip <| k_seq <| awp_seq <| awp_seq <| w_reg <| s_mov (.int .i64 0) rfl <| w_done <| k_seq <| ?_
  obtain ⟨p36, hb1, hf⟩ := ob hf
  refine awp_cutx (X := {q : Unit // p36 = .go q}) (fun q => ([], [])) ?_ ?_
  ·refine awp_loop (X := {q : Nat // laws_eqRowS_L1 b_2 (a_1.drop q) q = some p36}) (fun q => ([(0, (.lst 2 (a_1.map encGRow))), (1, (.lst 2 (b_2.map encGRow))), (5, (.int .i64 (q.1 : Int)))], [])) (fun q => a_1.length - q.1) ⟨0, hb1⟩ ⟨[], [], _, _, rfl, rfl, ⟨.refl _, ⟨.refl _, ⟨.refl _, trivial⟩⟩⟩, (.refl _)⟩ ?_
   rintro ⟨i_25, hc1⟩
   have hc1 : laws_eqRowS_L1 b_2 (a_1.drop i_25) i_25 = some p36 := hc1
   refine (show awp Try.prog false 0 _ (ofL [(0, (.lst 2 (a_1.map encGRow))), (1, (.lst 2 (b_2.map encGRow))), (5, (.int .i64 (i_25 : Int)))]) [] _ from ?_)
   rcases dropc a_1 i_25 with ⟨hie39, hd42⟩ | ⟨hlt37, x_43, hx38, hd42⟩
   ·rw [hd42, laws_eqRowS_L1.eq_1] at hc1
    have hq41 := dlf hie39
    refine awp_seq <| awp_seq <| w_reg <| s_mov (.int .i64 (i_25 : Int)) rfl <| s_mov (.lst 2 (a_1.map encGRow)) rfl <| s_dof (o_len (enc := encGRow) rfl) fun hl44 => s_q (.bool (decide ((i_25 : Int) < (a_1.length : Int)))) rfl rfl rfl <| w_done <| k_seq <| w_condf rfl hq41 <| w_exit <| k_seqx <| k_loopx <| k_blkx <| ?_; obtain rfl := os hc1; exact k_cutn ⟨_, rfl⟩ ⟨[], [], _, _, rfl, rfl, trivial, (.refl _)⟩
   ·rw [hd42, laws_eqRowS_L1.eq_2] at hc1
    have hq41 := dlt hlt37
    refine awp_seq <| awp_seq <| w_reg <| s_mov (.int .i64 (i_25 : Int)) rfl <| s_mov (.lst 2 (a_1.map encGRow)) rfl <| s_dof (o_len (enc := encGRow) rfl) fun hl45 => s_q (.bool (decide ((i_25 : Int) < (a_1.length : Int)))) rfl rfl rfl <| w_done <| k_seq <| w_condt rfl hq41 <| w_skip <| k_seq <| awp_seq <| w_blk <| awp_seq <| w_reg <| ?_
    obtain ⟨x_46, ex47, hc1⟩ := ob hc1
    obtain ⟨r_48, er49, hc1⟩ := ob hc1
    refine s_mov (.lst 2 (a_1.map encGRow)) rfl <| s_mov (.int .i64 (i_25 : Int)) rfl <| s_do (o_iaddrn (enc := encGRow) rfl rfl hx38) <| s_q (encGRow x_43) rfl nle rfl <| s_mov (.lst 2 (b_2.map encGRow)) rfl <| s_mov (.int .i64 (i_25 : Int)) rfl <| s_do (o_iaddr (enc := encGRow) rfl rfl (idx0 ex47) (idx1 ex47)) <| s_q (encGRow x_46) rfl nle rfl <| s_dol (o_call (w_laws_eqRow _ _ _ er49) rfl (.refl _) rfl) a_same trivial <| s_q (.bool (!r_48)) rfl trivial rfl <| w_done <| k_seq <| ?_
    rcases oi hc1 with ⟨c50, hc1⟩ | ⟨c50, hc1⟩
    ·refine w_condt rfl c50 <| awp_seq <| w_reg <| s_mov (.bool false) rfl <| w_done <| k_seq <| w_ret <| ?_; obtain rfl := os hc1; obtain rfl := os hf; exact r_flat ⟨trivial, trivial⟩ rfl (.refl _)
    ·refine w_condf rfl (bf c50) <| w_skip <| k_blk <| k_seq <| w_reg <| s_mov (.int .i64 (i_25 : Int)) rfl <| s_q (.int .i64 (w64 ((i_25 : Int) + 1))) rfl rfl rfl <| s_mov (.int .i64 (w64 ((i_25 : Int) + 1))) rfl <| w_done <| ?_; exact k_loopn ⟨(i_25 + 1), hc1⟩ (mul hlt37) ⟨[], [], _, _, rfl, rfl, ⟨.refl _, ⟨.refl _, ⟨.of_eq (congrArg (AV.int _) (w64_incr hlt37 hl45)), trivial⟩⟩⟩, (.refl _)⟩
  ·rintro ⟨_, rfl⟩
   refine awp_seq <| w_reg <| s_mov (.bool true) rfl <| w_done <| k_seq <| w_ret <| ?_; obtain rfl := os hf; exact r_flat ⟨trivial, trivial⟩ rfl (.refl _)

/- laws.eqUpdate -/
def c52 : ACode :=
 (.seq (.reg (tq 2 (.box 5 (.t 0)) (tq 3 (.box 5 (.t 1)) (tm 4 (.c (.bool false)) .done))))
 (.seq (.seq (.reg (tq 5 (.faddr 0 (.t 2)) (tq 6 (.load 1 false (.t 5)) (tq 7 (.faddr 0 (.t 3)) (tq 8 (.load 1 false (.t 7)) (tq 9 (.bin .neq (.t 6) (.t 8)) .done))))))
 (.cond (.t 9) (.seq (.reg (tm 4 (.c (.bool false)) .done))
 .ret)
 .skip))
 (.seq (.seq (.reg (tq 10 (.faddr 1 (.t 2)) (tq 11 (.load 2 true (.t 10)) (tq 12 (.faddr 1 (.t 3)) (tq 13 (.load 2 true (.t 12)) (tq 14 (.call 51 [(.t 11), (.t 13)]) (tq 15 (.not (.t 14)) .done)))))))
 (.cond (.t 15) (.seq (.reg (tm 4 (.c (.bool false)) .done))
 .ret)
 .skip))
 (.seq (.seq (.reg (tq 16 (.faddr 3 (.t 2)) (tq 17 (.load 2 true (.t 16)) (tq 18 (.faddr 3 (.t 3)) (tq 19 (.load 2 true (.t 18)) (tq 20 (.call 51 [(.t 17), (.t 19)]) (tq 21 (.not (.t 20)) .done)))))))
 (.cond (.t 21) (.seq (.reg (tm 4 (.c (.bool false)) .done))
 .ret)
 .skip))
 (.seq (.reg (tm 4 (.c (.bool true)) .done))
 .ret)))))
theorem fc52 : fcomp Try.prog Try.f52 = some (c52.erase, [.mov (.t 4)], 22) := by kernel_rfl
def laws_eqUpdate (a_1 : GUpdate) (b_2 : GUpdate) : Option Bool :=
    if (a_1.Id != b_2.Id) then
    some false
    else
    (laws_eqRow a_1.Old b_2.Old).bind fun r_4 =>
    if (!r_4) then
    some false
    else
    (laws_eqRow a_1.New b_2.New).bind fun r_7 =>
    if (!r_7) then
    some false
    else
    some true
theorem w_laws_eqUpdate (a_1 : GUpdate) (b_2 : GUpdate) (r : Bool) (hf : laws_eqUpdate a_1 b_2 = some r) : CallOK Try.prog 52 .flat [(encGUpdate a_1), (encGUpdate b_2)] (.bool r) := by
 refine CallOK.of_awp mixed Try.func52 fc52 nle ?_; rw [argT_eq]; unfold laws_eqUpdate at hf; unfold c52; refine (show awp Try.prog false 0 _ (ofL [(0, (encGUpdate a_1)), (1, (encGUpdate b_2))]) [] _ from ?_); refine awp_seq <| w_reg <| s_do (o_box (j := 0) (c := (.agg [(.int .i64 a_1.Id), (.int .i64 a_1.Old.Id), (.lst 1 (a_1.Old.Cells.map (encL 3 encGAtom))), (.int .i64 a_1.New.Id), (.lst 1 (a_1.New.Cells.map (encL 3 encGAtom)))])) rfl trivial rfl rfl) <| s_do (o_box (j := 1) (c := (.agg [(.int .i64 b_2.Id), (.int .i64 b_2.Old.Id), (.lst 1 (b_2.Old.Cells.map (encL 3 encGAtom))), (.int .i64 b_2.New.Id), (.lst 1 (b_2.New.Cells.map (encL 3 encGAtom)))])) rfl trivial rfl rfl) <| s_mov (.bool false) rfl <| w_done <| k_seq <| awp_seq <| ?_
 refine awp_seq <| w_reg <| s_q (.ptr 0 0 0) rfl trivial rfl <| s_q (.int .i64 a_1.Id) rfl nle rfl <| s_q (.ptr 1 0 0) rfl trivial rfl <| s_q (.int .i64 b_2.Id) rfl nle rfl <| s_q (.bool (a_1.Id != b_2.Id)) rfl rfl rfl <| w_done <| k_seq <| ?_
 rcases oi hf with ⟨c3, hf⟩ | ⟨c3, hf⟩
 ·refine w_condt rfl c3 <| awp_seq <| w_reg <| s_mov (.bool false) rfl <| w_done <| k_seq <| w_ret <| ?_; obtain rfl := os hf; exact r_flat ⟨trivial, trivial⟩ rfl (.refl _)
 ·refine w_condf rfl (bf c3) <| w_skip <| k_seq <| awp_seq <| awp_seq <| w_reg <| ?_
  obtain ⟨r_4, er5, hf⟩ := ob hf
  refine s_q (.ptr 0 0 1) rfl trivial rfl <| s_q (.agg [(.int .i64 a_1.Old.Id), (.lst 1 (a_1.Old.Cells.map (encL 3 encGAtom)))]) rfl nle rfl <| s_q (.ptr 1 0 1) rfl trivial rfl <| s_q (.agg [(.int .i64 b_2.Old.Id), (.lst 1 (b_2.Old.Cells.map (encL 3 encGAtom)))]) rfl nle rfl <| s_do (o_call (w_laws_eqRow _ _ _ er5) rfl (.refl _) rfl) <| s_q (.bool (!r_4)) rfl trivial rfl <| w_done <| k_seq <| ?_
  rcases oi hf with ⟨c6, hf⟩ | ⟨c6, hf⟩
  ·refine w_condt rfl c6 <| awp_seq <| w_reg <| s_mov (.bool false) rfl <| w_done <| k_seq <| w_ret <| ?_; obtain rfl := os hf; exact r_flat ⟨trivial, trivial⟩ rfl (.refl _)
  ·refine w_condf rfl (bf c6) <| w_skip <| k_seq <| awp_seq <| awp_seq <| w_reg <| ?_
   obtain ⟨r_7, er8, hf⟩ := ob hf
   refine s_q (.ptr 0 0 3) rfl trivial rfl <| s_q (.agg [(.int .i64 a_1.New.Id), (.lst 1 (a_1.New.Cells.map (encL 3 encGAtom)))]) rfl nle rfl <| s_q (.ptr 1 0 3) rfl trivial rfl <| s_q (.agg [(.int .i64 b_2.New.Id), (.lst 1 (b_2.New.Cells.map (encL 3 encGAtom)))]) rfl nle rfl <| s_do (o_call (w_laws_eqRow _ _ _ er8) rfl (.refl _) rfl) <| s_q (.bool (!r_7)) rfl trivial rfl <| w_done <| k_seq <| ?_
   rcases oi hf with ⟨c9, hf⟩ | ⟨c9, hf⟩
   ·refine w_condt rfl c9 <| awp_seq <| w_reg <| s_mov (.bool false) rfl <| w_done <| k_seq <| w_ret <| ?_; obtain rfl := os hf; exact r_flat ⟨trivial, trivial⟩ rfl (.refl _)
   ·refine w_condf rfl (bf c9) <| w_skip <| k_seq <| awp_seq <| w_reg <| s_mov (.bool true) rfl <| w_done <| k_seq <| w_ret <| ?_; obtain rfl := os hf; exact r_flat ⟨trivial, trivial⟩ rfl (.refl _)

/- laws.eqUpdateS -/
def c14 : ACode :=
 (.seq (.reg (tm 4 (.c (.bool false)) .done))
 (.seq (.seq (.reg (tm 6 (.t 0) (tq 7 (.len (.t 6)) (tm 8 (.t 1) (tq 9 (.len (.t 8)) (tq 10 (.bin .neq (.t 7) (.t 9)) .done))))))
 (.cond (.t 10) (.seq (.reg (tm 4 (.c (.bool false)) .done))
 .ret)
 .skip))
 (.seq (.seq (.reg (tm 5 (.c (.int .i64 0)) .done))
 (.block 0 (.loop (.seq (.seq (.reg (tm 11 (.t 5) (tm 12 (.t 0) (tq 13 (.len (.t 12)) (tq 14 (.bin .lss (.t 11) (.t 13)) .done)))))
 (.cond (.t 14) .skip
 (.exit 0)))
 (.seq (.block 1 (.seq (.reg (tm 17 (.t 0) (tm 18 (.t 5) (tq 19 (.iaddr 5 (.t 17) (.t 18)) (tq 20 (.load 5 true (.t 19)) (tm 21 (.t 1) (tm 22 (.t 5) (tq 23 (.iaddr 5 (.t 21) (.t 22)) (tq 24 (.load 5 true (.t 23)) (.l ⟨(some 25), none, .call 52 [(.t 20), (.t 24)]⟩ []
 (tq 26 (.not (.t 25)) .done) .non))))))))))
 (.cond (.t 26) (.seq (.reg (tm 4 (.c (.bool false)) .done))
 .ret)
 .skip)))
 (.reg (tm 15 (.t 5) (tq 16 (.bin .add (.t 15) (.c (.int .i64 1))) (tm 5 (.t 16) .done)))))))))
 (.cut (.seq (.reg (tm 4 (.c (.bool true)) .done))
 .ret)))))
theorem fc14 : fcomp Try.prog Try.f14 = some (c14.erase, [.mov (.t 4)], 27) := by kernel_rfl
def laws_eqUpdateS_L1 (b_2 : (List GUpdate)) : List GUpdate → Nat → Option (Fl Bool Unit)
  | [], i_25 =>
    some (.go ())
  | x_43 :: xs, i_25 =>
    (idx b_2 (i_25 : Int)).bind fun x_46 =>
    (laws_eqUpdate x_43 x_46).bind fun r_48 =>
    if (!r_48) then
    some (.ret false)
    else
    laws_eqUpdateS_L1 b_2 xs (i_25 + 1)

def laws_eqUpdateS (a_1 : (List GUpdate)) (b_2 : (List GUpdate)) : Option Bool :=
    if ((a_1.length : Int) != (b_2.length : Int)) then
    some false
    else
    (laws_eqUpdateS_L1 b_2 a_1 0).bind fun q => (match q with
    | .ret r => some r
    | .go _ =>
    some true)
theorem w_laws_eqUpdateS (a_1 : (List GUpdate)) (b_2 : (List GUpdate)) (r : Bool) (hf : laws_eqUpdateS a_1 b_2 = some r) : CallOK Try.prog 14 .flat [(.lst 5 (a_1.map encGUpdate)), (.lst 5 (b_2.map encGUpdate))] (.bool r) := by
 refine CallOK.of_awp mixed Try.func14 fc14 nle ?_; rw [argT_eq]; unfold laws_eqUpdateS at hf; unfold c14; refine (show awp Try.prog false 0 _ (ofL [(0, (.lst 5 (a_1.map encGUpdate))), (1, (.lst 5 (b_2.map encGUpdate)))]) [] _ from ?_); refine awp_seq <| w_reg <| s_mov (.bool false) rfl <| w_done <| k_seq <| awp_seq <| awp_seq <| w_reg <| s_mov (.lst 5 (a_1.map encGUpdate)) rfl <| s_dof (o_len (enc := encGUpdate) rfl) fun hl3 => s_mov (.lst 5 (b_2.map encGUpdate)) rfl <| s_dof (o_len (enc := encGUpdate) rfl) fun hl4 => s_q (.bool ((a_1.length : Int) != (b_2.length : Int))) rfl rfl rfl <| w_done <| k_seq <| ?_
 rcases oi hf with ⟨c5, hf⟩ | ⟨c5, hf⟩
 ·refine w_condt rfl c5 <| awp_seq <| w_reg <| s_mov (.bool false) rfl <| w_done <| k_seq <| w_ret <| ?_; obtain rfl := os hf; exact r_flat ⟨trivial, trivial⟩ rfl (.refl _)
 ·refine w_condf rfl (bf c5) <| w_skip <| k_seq <| awp_seq <| awp_seq <| w_reg <| s_mov (.int .i64 0) rfl <| w_done <| k_seq <| ?_
  obtain ⟨p36, hb1, hf⟩ := ob hf
  refine awp_cutx (X := {q : Unit // p36 = .go q}) (fun q => ([], [])) ?_ ?_
  ·refine awp_loop (X := {q : Nat // laws_eqUpdateS_L1 b_2 (a_1.drop q) q = some p36}) (fun q => ([(0, (.lst 5 (a_1.map encGUpdate))), (1, (.lst 5 (b_2.map encGUpdate))), (5, (.int .i64 (q.1 : Int)))], [])) (fun q => a_1.length - q.1) ⟨0, hb1⟩ ⟨[], [], _, _, rfl, rfl, ⟨.refl _, ⟨.refl _, ⟨.refl _, trivial⟩⟩⟩, (.refl _)⟩ ?_
   rintro ⟨i_25, hc1⟩
   have hc1 : laws_eqUpdateS_L1 b_2 (a_1.drop i_25) i_25 = some p36 := hc1
   refine (show awp Try.prog false 0 _ (ofL [(0, (.lst 5 (a_1.map encGUpdate))), (1, (.lst 5 (b_2.map encGUpdate))), (5, (.int .i64 (i_25 : Int)))]) [] _ from ?_)
   rcases dropc a_1 i_25 with ⟨hie39, hd42⟩ | ⟨hlt37, x_43, hx38, hd42⟩
   ·rw [hd42, laws_eqUpdateS_L1.eq_1] at hc1
    have hq41 := dlf hie39
    refine awp_seq <| awp_seq <| w_reg <| s_mov (.int .i64 (i_25 : Int)) rfl <| s_mov (.lst 5 (a_1.map encGUpdate)) rfl <| s_dof (o_len (enc := encGUpdate) rfl) fun hl44 => s_q (.bool (decide ((i_25 : Int) < (a_1.length : Int)))) rfl rfl rfl <| w_done <| k_seq <| w_condf rfl hq41 <| w_exit <| k_seqx <| k_loopx <| k_blkx <| ?_; obtain rfl := os hc1; exact k_cutn ⟨_, rfl⟩ ⟨[], [], _, _, rfl, rfl, trivial, (.refl _)⟩
   ·rw [hd42, laws_eqUpdateS_L1.eq_2] at hc1
    have hq41 := dlt hlt37
    refine awp_seq <| awp_seq <| w_reg <| s_mov (.int .i64 (i_25 : Int)) rfl <| s_mov (.lst 5 (a_1.map encGUpdate)) rfl <| s_dof (o_len (enc := encGUpdate) rfl) fun hl45 => s_q (.bool (decide ((i_25 : Int) < (a_1.length : Int)))) rfl rfl rfl <| w_done <| k_seq <| w_condt rfl hq41 <| w_skip <| k_seq <| awp_seq <| w_blk <| awp_seq <| w_reg <| ?_
    obtain ⟨x_46, ex47, hc1⟩ := ob hc1
    obtain ⟨r_48, er49, hc1⟩ := ob hc1
    refine s_mov (.lst 5 (a_1.map encGUpdate)) rfl <| s_mov (.int .i64 (i_25 : Int)) rfl <| s_do (o_iaddrn (enc := encGUpdate) rfl rfl hx38) <| s_q (encGUpdate x_43) rfl nle rfl <| s_mov (.lst 5 (b_2.map encGUpdate)) rfl <| s_mov (.int .i64 (i_25 : Int)) rfl <| s_do (o_iaddr (enc := encGUpdate) rfl rfl (idx0 ex47) (idx1 ex47)) <| s_q (encGUpdate x_46) rfl nle rfl <| s_dol (o_call (w_laws_eqUpdate _ _ _ er49) rfl (.refl _) rfl) a_same trivial <| s_q (.bool (!r_48)) rfl trivial rfl <| w_done <| k_seq <| ?_
    rcases oi hc1 with ⟨c50, hc1⟩ | ⟨c50, hc1⟩
    ·refine w_condt rfl c50 <| awp_seq <| w_reg <| s_mov (.bool false) rfl <| w_done <| k_seq <| w_ret <| ?_; obtain rfl := os hc1; obtain rfl := os hf; exact r_flat ⟨trivial, trivial⟩ rfl (.refl _)
    ·refine w_condf rfl (bf c50) <| w_skip <| k_blk <| k_seq <| w_reg <| s_mov (.int .i64 (i_25 : Int)) rfl <| s_q (.int .i64 (w64 ((i_25 : Int) + 1))) rfl rfl rfl <| s_mov (.int .i64 (w64 ((i_25 : Int) + 1))) rfl <| w_done <| ?_; exact k_loopn ⟨(i_25 + 1), hc1⟩ (mul hlt37) ⟨[], [], _, _, rfl, rfl, ⟨.refl _, ⟨.refl _, ⟨.of_eq (congrArg (AV.int _) (w64_incr hlt37 hl45)), trivial⟩⟩⟩, (.refl _)⟩
  ·rintro ⟨_, rfl⟩
   refine awp_seq <| w_reg <| s_mov (.bool true) rfl <| w_done <| k_seq <| w_ret <| ?_; obtain rfl := os hf; exact r_flat ⟨trivial, trivial⟩ rfl (.refl _)

/- laws.markText -/
def c105 : ACode :=
 (.seq (.reg (tm 2 (.c (.str [])) .done))
 (.seq (.seq (.reg (tm 4 (.t 0) (tq 5 (.bin .leq (.t 4) (.c (.int .i64 0))) .done)))
 (.cond (.t 5) (.seq (.reg (tm 2 (.c (.str [109, 48])) .done))
 .ret)
 .skip))
 (.seq (.reg (tm 3 (.c (.str [])) .done))
 (.seq (.block 0 (.loop (.seq (.seq (.reg (tm 6 (.t 0) (tq 7 (.bin .gtr (.t 6) (.c (.int .i64 0))) .done)))
 (.cond (.t 7) .skip
 (.exit 0)))
 (.block 1 (.seq (.reg (tm 8 (.t 0) (tq 9 (.bin .rem (.t 8) (.c (.int .i64 10))) (tq 10 (.bin .add (.c (.int .i64 48)) (.t 9)) (tq 11 (.convI .u8 (.t 10)) (tq 12 (.bslice 1 [(.t 11)]) (tq 13 (.convBS (.t 12)) (tm 14 (.t 3) (tq 15 (.bin .add (.t 13) (.t 14)) (tm 3 (.t 15) .done))))))))))
 (.reg (tm 16 (.t 0) (tq 17 (.bin .quo (.t 16) (.c (.int .i64 10))) (tm 0 (.t 17) .done)))))))))
 (.cut (.seq (.reg (tm 18 (.t 3) (tq 19 (.bin .add (.c (.str [109])) (.t 18)) (tm 2 (.t 19) .done))))
 .ret))))))
theorem fc105 : fcomp Try.prog Try.f105 = some (c105.erase, [.mov (.t 2)], 20) := by kernel_rfl
def laws_markText_L1  : Nat → Int → Str → Option Str
  | 0, _, _ => none
  | k + 1, k_9, out_10 =>
    if (decide (k_9 > 0)) then
    if (bstr [IntKind.u8.wrap (w64 (48 + (k_9.tmod 10)))]).length + out_10.length ≤ maxLen then
    laws_markText_L1 k (w64 (k_9.tdiv 10)) ((bstr [IntKind.u8.wrap (w64 (48 + (k_9.tmod 10)))]) ++ out_10)
    else none
    else
    some out_10

def laws_markText (k_1 : Int) : Option Str :=
    if (decide (k_1 ≤ 0)) then
    some [109, 48]
    else
    (laws_markText_L1 FUEL k_1 []).bind fun out_13 =>
    if [109].length + out_13.length ≤ maxLen then
    some ([109] ++ out_13)
    else none
theorem w_laws_markText (k_1 : Int) (r : Str) (hf : laws_markText k_1 = some r) : CallOK Try.prog 105 .flat [(.int .i64 k_1)] (.str r) := by
 refine CallOK.of_awp mixed Try.func105 fc105 nle ?_; rw [argT_eq]; unfold laws_markText at hf; unfold c105; refine (show awp Try.prog false 0 _ (ofL [(0, (.int .i64 k_1))]) [] _ from ?_); refine awp_seq <| w_reg <| s_mov (.str []) rfl <| w_done <| k_seq <| awp_seq <| awp_seq <| w_reg <| s_mov (.int .i64 k_1) rfl <| s_q (.bool (decide (k_1 ≤ 0))) rfl rfl rfl <| w_done <| k_seq <| ?_
 rcases oi hf with ⟨c2, hf⟩ | ⟨c2, hf⟩
 ·refine w_condt rfl c2 <| awp_seq <| w_reg <| s_mov (.str [109, 48]) rfl <| w_done <| k_seq <| w_ret <| ?_; obtain rfl := os hf; exact r_flat ⟨trivial, trivial⟩ rfl (.refl _)
 ·refine w_condf rfl (bf c2) <| w_skip <| k_seq <| awp_seq <| w_reg <| s_mov (.str []) rfl <| w_done <| k_seq <| awp_seq <| ?_
  obtain ⟨out_13, hb1, hf⟩ := ob hf
  refine awp_cut ([(3, (.str out_13))], []) ?_ ?_
  ·refine awp_loop (X := {q : (Nat × Int × Str) // laws_markText_L1 q.1 q.2.1 q.2.2 = some out_13}) (fun q => ([(0, (.int .i64 q.1.2.1)), (3, (.str q.1.2.2))], [])) (fun q => q.1.1) ⟨(FUEL, k_1, []), hb1⟩ ⟨[], [], _, _, rfl, rfl, ⟨.refl _, ⟨.refl _, trivial⟩⟩, (.refl _)⟩ ?_
   rintro ⟨⟨k, k_9, out_10⟩, hc1⟩
   have hc1 : laws_markText_L1 k k_9 out_10 = some out_13 := hc1
   refine (show awp Try.prog false 0 _ (ofL [(0, (.int .i64 k_9)), (3, (.str out_10))]) [] _ from ?_)
   rcases k with _ | k
   ·rw [laws_markText_L1.eq_1] at hc1
    cases hc1
   ·rw [laws_markText_L1.eq_2] at hc1; refine awp_seq <| awp_seq <| w_reg <| s_mov (.int .i64 k_9) rfl <| s_q (.bool (decide (k_9 > 0))) rfl rfl rfl <| w_done <| k_seq <| ?_
    rcases oi hc1 with ⟨c15, hc1⟩ | ⟨c15, hc1⟩
    ·refine w_condt rfl c15 <| w_skip <| k_seq <| w_blk <| awp_seq <| w_reg <| ?_
     obtain ⟨g16, hc1⟩ := og hc1
     refine s_mov (.int .i64 k_9) rfl <| s_q (.int .i64 (k_9.tmod 10)) rfl ⟨rfl, by decide⟩ rfl <| s_q (.int .i64 (w64 (48 + (k_9.tmod 10)))) rfl rfl rfl <| s_q (.int .u8 (IntKind.u8.wrap (w64 (48 + (k_9.tmod 10))))) rfl trivial rfl <| ?_; refine s_do (o_bslice (j := 0) (as' := [(.int .u8 (IntKind.u8.wrap (w64 (48 + (k_9.tmod 10)))))]) rfl (fun _ => by decide) ⟨rfl, trivial⟩ (.refl _) rfl rfl rfl) ?_; refine s_do (o_convbso (l := [IntKind.u8.wrap (w64 (48 + (k_9.tmod 10)))]) rfl rfl (by simp)) <| s_mov (.str out_10) rfl <| s_q (.str ((bstr [IntKind.u8.wrap (w64 (48 + (k_9.tmod 10)))]) ++ out_10)) rfl g16 rfl <| s_mov (.str ((bstr [IntKind.u8.wrap (w64 (48 + (k_9.tmod 10)))]) ++ out_10)) rfl <| w_done <| k_seq <| w_reg <| s_mov (.int .i64 k_9) rfl <| ?_
     refine s_q (.int .i64 (w64 (k_9.tdiv 10))) rfl ⟨rfl, by decide⟩ rfl <| s_mov (.int .i64 (w64 (k_9.tdiv 10))) rfl <| w_done <| k_blk <| ?_; exact k_loopn ⟨(k, w64 (k_9.tdiv 10), (bstr [IntKind.u8.wrap (w64 (48 + (k_9.tmod 10)))]) ++ out_10), hc1⟩ (Nat.lt_succ_self _) ⟨[], [], _, _, rfl, rfl, ⟨.refl _, ⟨.refl _, trivial⟩⟩, (.refl _)⟩
    ·refine w_condf rfl (bf c15) <| w_exit <| k_seqx <| k_loopx <| k_blkx <| ?_; obtain rfl := os hc1; exact ⟨[], [], _, _, rfl, rfl, ⟨.refl _, trivial⟩, (.refl _)⟩
  ·refine awp_seq <| w_reg <| ?_
   obtain ⟨g17, hf⟩ := og hf
   refine s_mov (.str out_13) rfl <| s_q (.str ([109] ++ out_13)) rfl g17 rfl <| s_mov (.str ([109] ++ out_13)) rfl <| w_done <| k_seq <| w_ret <| ?_; obtain rfl := os hf; exact r_flat ⟨trivial, trivial⟩ rfl (.refl _)

/- laws.markAtomS -/
def c83_h0 : ACode :=
 (.seq (.reg (tm 4 (.c (.int .i64 0)) .done))
 (.seq (.seq (.reg (tm 5 (.c (.int .i64 0)) .done))
 (.block 0 (.loop (.seq (.seq (.reg (tm 6 (.t 5) (tm 7 (.t 0) (tq 8 (.len (.t 7)) (tq 9 (.bin .lss (.t 6) (.t 8)) .done)))))
 (.cond (.t 9) .skip
 (.exit 0)))
 (.seq (.block 1 (.seq (.reg (tm 12 (.t 0) (tm 13 (.t 5) (tm 14 (.t 1) (tq 15 (.iaddr 3 (.t 12) (.t 13)) (tq 16 (.faddr 0 (.t 15)) (.q ⟨none, none, .store 1 (.t 16) (.t 14)⟩
 .done)))))))
 (.seq (.reg (tm 17 (.t 1) (tq 18 (.bin .add (.t 17) (.c (.int .i64 1))) (tm 1 (.t 18) .done))))
 (.seq (.reg (tm 19 (.t 0) (tm 20 (.t 5) (tm 21 (.t 1) (tq 22 (.iaddr 3 (.t 19) (.t 20)) (tq 23 (.faddr 1 (.t 22)) (.q ⟨none, none, .store 1 (.t 23) (.t 21)⟩
 .done)))))))
 (.seq (.reg (tm 24 (.t 1) (tq 25 (.bin .add (.t 24) (.c (.int .i64 1))) (tm 1 (.t 25) .done))))
 (.seq (.reg (tm 26 (.t 0) (tm 27 (.t 5) (tm 28 (.t 1) (tq 29 (.call 105 [(.t 28)]) (tq 30 (.iaddr 3 (.t 26) (.t 27)) (tq 31 (.faddr 2 (.t 30)) (.q ⟨none, none, .store 1 (.t 31) (.t 29)⟩
 .done))))))))
 (.reg (tm 32 (.t 1) (tq 33 (.bin .add (.t 32) (.c (.int .i64 1))) (tm 1 (.t 33) .done))))))))))
 (.reg (tm 10 (.t 5) (tq 11 (.bin .add (.t 10) (.c (.int .i64 1))) (tm 5 (.t 11) .done)))))))))
 (.cut (.seq (.reg (tm 34 (.t 1) (tm 4 (.t 34) .done)))
 .ret))))
theorem fc83_h0 : fcomp Try.prog Try.f83 = some (c83_h0.erase, [.mov (.t 4)], 35) := by kernel_rfl
def laws_markAtomS_L1  : Nat → Int → Int → (List GAtom) → Option (Int × (List GAtom))
  | 0, _, _, _ => none
  | k + 1, k_58, i_59, a_60 =>
    if (decide (i_59 < (a_60.length : Int))) then
    if (0 : Int) ≤ i_59 ∧ i_59 < (a_60.length : Int) then
    (a_60[(0 + i_59.toNat)]?).bind fun x_76 =>
    if (0 : Int) ≤ i_59 ∧ i_59 < (a_60.length : Int) then
    (laws_markText (w64 ((w64 (k_58 + 1)) + 1))).bind fun r_79 =>
    if (0 : Int) ≤ i_59 ∧ i_59 < (a_60.length : Int) then
    laws_markAtomS_L1 k (w64 ((w64 ((w64 (k_58 + 1)) + 1)) + 1)) (w64 (i_59 + 1)) (((a_60.set (0 + i_59.toNat) (⟨k_58, x_76.N, x_76.T⟩ : GAtom)).set (0 + i_59.toNat) (⟨k_58, w64 (k_58 + 1), x_76.T⟩ : GAtom)).set (0 + i_59.toNat) (⟨k_58, w64 (k_58 + 1), r_79⟩ : GAtom))
    else none
    else none
    else none
    else
    some (k_58, a_60)

def laws_markAtomS (a_1 : (List GAtom)) (k_2 : Int) : Option (Int × (List GAtom)) :=
    (laws_markAtomS_L1 FUEL k_2 0 a_1).bind fun p72 =>
    (match p72 with
    | (k_70, l_71) =>
    some (k_70, l_71))
theorem w_laws_markAtomS (a_1 : (List GAtom)) (k_2 : Int) (r : (Int × (List GAtom))) (hf : laws_markAtomS a_1 k_2 = some r) : CallHeap Try.prog ⟨true, true, false⟩ 83 [(.own 0 0 a_1.length), (.int .i64 k_2)] [.row 3 (a_1.map encGAtom)] (.int .i64 r.1) [.row 3 (r.2.map encGAtom)] := by
 refine CallHeap.of_awp mixed Try.func83 fc83_h0 nle ?_; rw [argT_eq]; unfold laws_markAtomS at hf; unfold c83_h0; refine (show awp Try.prog ⟨true, true, false⟩ 1 _ (ofL [(0, (.own 0 0 a_1.length)), (1, (.int .i64 k_2))]) [.row 3 (a_1.map encGAtom)] _ from ?_); refine awp_seq <| w_reg <| s_mov (.int .i64 0) rfl <| w_done <| k_seq <| awp_seq <| awp_seq <| w_reg <| s_mov (.int .i64 0) rfl <| w_done <| k_seq <| ?_
 obtain ⟨p72, hb1, hf⟩ := ob hf
 refine awp_cut ([(1, (.int .i64 p72.1))], [.row 3 (p72.2.map encGAtom)]) ?_ ?_
 ·refine awp_loop (X := {q : (Nat × Int × Int × (List GAtom)) // laws_markAtomS_L1 q.1 q.2.1 q.2.2.1 q.2.2.2 = some p72}) (fun q => ([(0, (.own 0 0 q.1.2.2.2.length)), (1, (.int .i64 q.1.2.1)), (5, (.int .i64 q.1.2.2.1))], [.row 3 (q.1.2.2.2.map encGAtom)])) (fun q => q.1.1) ⟨(FUEL, k_2, 0, a_1), hb1⟩ ⟨[], [0], _, _, rfl, rfl, ⟨.refl _, ⟨.refl _, ⟨.refl _, trivial⟩⟩⟩, (.refl _)⟩ ?_
  rintro ⟨⟨k, k_58, i_59, a_60⟩, hc1⟩
  have hc1 : laws_markAtomS_L1 k k_58 i_59 a_60 = some p72 := hc1
  refine (show awp Try.prog ⟨true, true, false⟩ 1 _ (ofL [(0, (.own 0 0 a_60.length)), (1, (.int .i64 k_58)), (5, (.int .i64 i_59))]) [.row 3 (a_60.map encGAtom)] _ from ?_)
  rcases k with _ | k
  ·rw [laws_markAtomS_L1.eq_1] at hc1
   cases hc1
  ·rw [laws_markAtomS_L1.eq_2] at hc1; refine awp_seq <| awp_seq <| w_reg <| s_mov (.int .i64 i_59) rfl <| s_mov (.own 0 0 a_60.length) rfl <| s_dof (o_lenown rfl rfl) fun hl73 => s_q (.bool (decide (i_59 < (a_60.length : Int)))) rfl (.of rfl trivial) rfl <| w_done <| k_seq <| ?_
   rcases oi hc1 with ⟨c74, hc1⟩ | ⟨c74, hc1⟩
   ·refine w_condt rfl c74 <| w_skip <| k_seq <| awp_seq <| w_blk <| awp_seq <| w_reg <| ?_
    obtain ⟨g75, hc1⟩ := og hc1
    obtain ⟨x_76, ex77, hc1⟩ := ob hc1
    refine s_mov (.own 0 0 a_60.length) rfl <| s_mov (.int .i64 i_59) rfl <| s_mov (.int .i64 k_58) rfl <| s_do (o_iaddrown rfl rfl g75.1 g75.2 rfl rfl) <| s_q (.ptr 0 (0 + i_59.toNat) 0) rfl (.of trivial trivial) rfl <| ?_; refine s_do0 (o_storerow (v' := (.int .i64 k_58)) (e' := (⟨k_58, x_76.N, x_76.T⟩ : GAtom)) rfl rfl ex77 rfl rfl rfl (by decide) (fun _ => by decide) ⟨rfl, nle⟩ (.refl _) rfl) ?_; refine w_done <| k_seq <| awp_seq <| w_reg <| s_mov (.int .i64 k_58) rfl <| s_q (.int .i64 (w64 (k_58 + 1))) rfl (.of rfl trivial) rfl <| s_mov (.int .i64 (w64 (k_58 + 1))) rfl <| w_done <| k_seq <| awp_seq <| w_reg <| ?_
    obtain ⟨g78, hc1⟩ := og hc1
    refine s_mov (.own 0 0 a_60.length) rfl <| s_mov (.int .i64 i_59) rfl <| s_mov (.int .i64 (w64 (k_58 + 1))) rfl <| s_do (o_iaddrown rfl rfl g78.1 g78.2 rfl rfl) <| s_q (.ptr 0 (0 + i_59.toNat) 1) rfl (.of trivial trivial) rfl <| ?_; refine s_do0 (o_storerow (v' := (.int .i64 (w64 (k_58 + 1)))) (e' := (⟨k_58, w64 (k_58 + 1), x_76.T⟩ : GAtom)) rfl rfl (setget ex77) rfl rfl rfl (by decide) (fun _ => by decide) ⟨rfl, nle⟩ (.refl _) rfl) ?_; refine w_done <| k_seq <| awp_seq <| w_reg <| s_mov (.int .i64 (w64 (k_58 + 1))) rfl <| s_q (.int .i64 (w64 ((w64 (k_58 + 1)) + 1))) rfl (.of rfl trivial) rfl <| s_mov (.int .i64 (w64 ((w64 (k_58 + 1)) + 1))) rfl <| w_done <| k_seq <| awp_seq <| w_reg <| ?_
    obtain ⟨r_79, er80, hc1⟩ := ob hc1
    obtain ⟨g81, hc1⟩ := og hc1
    refine s_mov (.own 0 0 a_60.length) rfl <| s_mov (.int .i64 i_59) rfl <| s_mov (.int .i64 (w64 ((w64 (k_58 + 1)) + 1))) rfl <| s_do (o_call (w_laws_markText _ _ er80) rfl (.refl _) rfl) <| s_do (o_iaddrown rfl rfl g81.1 g81.2 rfl rfl) <| s_q (.ptr 0 (0 + i_59.toNat) 2) rfl (.of trivial trivial) rfl <| ?_; refine s_do0 (o_storerow (v' := (.str r_79)) (e' := (⟨k_58, w64 (k_58 + 1), r_79⟩ : GAtom)) rfl rfl (setget (setget ex77)) rfl rfl rfl (by decide) (fun _ => by decide) ⟨rfl, nle⟩ (.refl _) rfl) ?_; refine w_done <| k_seq <| w_reg <| s_mov (.int .i64 (w64 ((w64 (k_58 + 1)) + 1))) rfl <| s_q (.int .i64 (w64 ((w64 ((w64 (k_58 + 1)) + 1)) + 1))) rfl (.of rfl trivial) rfl <| s_mov (.int .i64 (w64 ((w64 ((w64 (k_58 + 1)) + 1)) + 1))) rfl <| ?_
    refine w_done <| k_blk <| k_seq <| w_reg <| s_mov (.int .i64 i_59) rfl <| s_q (.int .i64 (w64 (i_59 + 1))) rfl (.of rfl trivial) rfl <| s_mov (.int .i64 (w64 (i_59 + 1))) rfl <| w_done <| ?_; exact k_loopn ⟨(k, w64 ((w64 ((w64 (k_58 + 1)) + 1)) + 1), w64 (i_59 + 1), ((a_60.set (0 + i_59.toNat) (⟨k_58, x_76.N, x_76.T⟩ : GAtom)).set (0 + i_59.toNat) (⟨k_58, w64 (k_58 + 1), x_76.T⟩ : GAtom)).set (0 + i_59.toNat) (⟨k_58, w64 (k_58 + 1), r_79⟩ : GAtom)), hc1⟩ (Nat.lt_succ_self _) ⟨[], [0], _, _, rfl, rfl, ⟨.of_eq (congrArg (AV.own _ 0) (by simp)), ⟨.refl _, ⟨.refl _, trivial⟩⟩⟩, (.refl _)⟩
   ·refine w_condf rfl (bf c74) <| w_exit <| k_seqx <| k_loopx <| k_blkx <| ?_; obtain rfl := os hc1; exact ⟨[], [0], _, _, rfl, rfl, ⟨.refl _, trivial⟩, (.refl _)⟩
 ·obtain ⟨k_70, l_71⟩ := p72
  refine awp_seq <| w_reg <| s_mov (.int .i64 k_70) rfl <| s_mov (.int .i64 k_70) rfl <| w_done <| k_seq <| w_ret <| ?_; obtain rfl := os hf; exact r_heap [] [0] rfl ⟨.of trivial trivial, trivial⟩ rfl (.refl _) (.refl _)

end Go.R
