/- Walks. -/
import Derived.Test.YtdnjjfoooagphaaFL2
set_option linter.all false
namespace Go.R
open Go Go.Proofs
set_option linter.unusedVariables false
set_option linter.unusedSimpArgs false
set_option maxHeartbeats 8000000
/- slices.BinarySearchFunc[[]impl.Lock,impl.Lock,string] -/
def c182_h0 : ACode :=
 (.seq (.reg (tm 6 (.c (.int .i64 0)) (tm 7 (.c (.bool false)) .done)))
 (.seq (.reg (tm 12 (.t 0) (tq 13 (.len (.t 12)) (tm 8 (.t 13) .done))))
 (.seq (.reg (tm 14 (.t 8) (tm 9 (.c (.int .i64 0)) (tm 10 (.t 14) .done))))
 (.seq (.block 0 (.loop (.seq (.seq (.reg (tm 15 (.t 9) (tm 16 (.t 10) (tq 17 (.bin .lss (.t 15) (.t 16)) .done))))
 (.cond (.t 17) .skip
 (.exit 0)))
 (.block 1 (.seq (.reg (tm 18 (.t 9) (tm 19 (.t 10) (tq 20 (.bin .add (.t 18) (.t 19)) (tq 21 (.convI .u64 (.t 20)) (tq 22 (.bin .shr (.t 21) (.c (.int .u64 1))) (tq 23 (.convI .i64 (.t 22)) (tm 11 (.t 23) .done))))))))
 (.seq (.rev (.reg (tm 24 (.t 2) (tm 25 (.t 0) (tm 26 (.t 11) (tq 27 (.iaddr 2 (.t 25) (.t 26)) (tq 28 (.load 2 true (.t 27)) (tm 29 (.t 1) (tq 30 (.calv (.t 24) [(.t 28), (.t 29)]) (tq 31 (.bin .lss (.t 30) (.c (.int .i64 0))) .done))))))))))
 (.cond (.t 31) (.reg (tm 32 (.t 11) (tq 33 (.bin .add (.t 32) (.c (.int .i64 1))) (tm 9 (.t 33) .done))))
 (.reg (tm 34 (.t 11) (tm 10 (.t 34) .done))))))))))
 (.cut (.seq (.rev (.reg (tm 35 (.t 9) (tm 36 (.t 9) (tm 37 (.t 8) (tq 38 (.bin .lss (.t 36) (.t 37)) (tm 39 (.t 38) (tg 40 39 true (.mov (.t 2)) (tg 41 39 true (.mov (.t 0)) (tg 42 39 true (.mov (.t 9)) (tg 43 39 true (.iaddr 2 (.t 41) (.t 42)) (tg 44 39 true (.load 2 true (.t 43)) (tg 45 39 true (.mov (.t 1)) (tg 46 39 true (.calv (.t 40) [(.t 44), (.t 45)]) (tg 47 39 true (.bin .eql (.t 46) (.c (.int .i64 0))) (tq 48 (.pick (.t 39) (.t 47) (.c (.bool false))) (tm 6 (.t 35) (tm 7 (.t 48) .done))))))))))))))))))
 (.rev .ret)))))))
theorem fc182_h0 : fcomp Try.prog Try.f182 = some (c182_h0.erase, [.mov (.t 6), .mov (.t 7)], 49) := by kernel_rfl
def slices_BinarySearchFunc_impl_Lock_impl_Lock_string_h0_L1 (x_1 : (List GLock)) (target_2 : Str) : Nat → Int → Int → Option Int
  | 0, _, _ => none
  | k + 1, i_50, j_51 =>
    if (decide (i_50 < j_51)) then
    ((x_1[(0 + (w64 (Int.fdiv (IntKind.u64.wrap (w64 (i_50 + j_51))) (2 ^ (min (Int.toNat 1) (IntKind.bits .u64))))).toNat)]?)).bind fun x_64 =>
    if (0 : Int) ≤ w64 (Int.fdiv (IntKind.u64.wrap (w64 (i_50 + j_51))) (2 ^ (min (Int.toNat 1) (IntKind.bits .u64)))) ∧ w64 (Int.fdiv (IntKind.u64.wrap (w64 (i_50 + j_51))) (2 ^ (min (Int.toNat 1) (IntKind.bits .u64)))) < (x_1.length : Int) then
    (impl_lockAt_1_h0 x_64.Name x_64.Queue target_2).bind fun r_67 =>
    if (decide (r_67 < 0)) then
    slices_BinarySearchFunc_impl_Lock_impl_Lock_string_h0_L1 x_1 target_2 k (w64 ((w64 (Int.fdiv (IntKind.u64.wrap (w64 (i_50 + j_51))) (2 ^ (min (Int.toNat 1) (IntKind.bits .u64))))) + 1)) j_51
    else
    slices_BinarySearchFunc_impl_Lock_impl_Lock_string_h0_L1 x_1 target_2 k i_50 (w64 (Int.fdiv (IntKind.u64.wrap (w64 (i_50 + j_51))) (2 ^ (min (Int.toNat 1) (IntKind.bits .u64)))))
    else none
    else
    some i_50

def slices_BinarySearchFunc_impl_Lock_impl_Lock_string_h0 (x_1 : (List GLock)) (target_2 : Str) : Option (Int × Bool) :=
    (slices_BinarySearchFunc_impl_Lock_impl_Lock_string_h0_L1 x_1 target_2 FUEL 0 (x_1.length : Int)).bind fun i_60 =>
    onIdx (x_1[(0 + i_60.toNat)]?) (fun x_72 =>
    if (decide (i_60 < (x_1.length : Int))) then
    if (0 : Int) ≤ i_60 ∧ i_60 < (x_1.length : Int) then
    (impl_lockAt_1_h0 x_72.Name x_72.Queue target_2).bind fun r_76 =>
    some (i_60, (r_76 == 0))
    else none
    else
    some (i_60, false)) (
    if (decide (i_60 < (x_1.length : Int))) then
    if (0 : Int) ≤ i_60 ∧ i_60 < (x_1.length : Int) then
    none
    else none
    else
    some (i_60, false))
theorem w_slices_BinarySearchFunc_impl_Lock_impl_Lock_string_h0 (x_1 : (List GLock)) (target_2 : Str) (r : (Int × Bool)) (hf : slices_BinarySearchFunc_impl_Lock_impl_Lock_string_h0 x_1 target_2 = some r) : CallHeap Try.prog ⟨true, true⟩ 182 [(.own 0 0 x_1.length), (.str target_2), (.fn 183 [])] [.row 2 (x_1.map encGLock)] (.tup [(.int .i64 r.1), (.bool r.2)]) [.row 2 (x_1.map encGLock)] := by
 refine CallHeap.of_awp mixed Try.func182 fc182_h0 nle ?_; rw [argT_eq]; unfold slices_BinarySearchFunc_impl_Lock_impl_Lock_string_h0 at hf; unfold c182_h0; refine (show awp Try.prog ⟨true, true⟩ 1 _ (ofL [(0, (.own 0 0 x_1.length)), (1, (.str target_2)), (2, (.fn 183 []))]) [.row 2 (x_1.map encGLock)] _ from ?_); refine awp_seq <| w_reg <| s_mov (.int .i64 0) rfl <| s_mov (.bool false) rfl <| w_done <| k_seq <| awp_seq <| w_reg <| s_mov (.own 0 0 x_1.length) rfl <| s_dof (o_lenown rfl rfl) fun hl3 => s_mov (.int .i64 (x_1.length : Int)) rfl <| w_done <| k_seq <| awp_seq <| w_reg <| s_mov (.int .i64 (x_1.length : Int)) rfl <| s_mov (.int .i64 0) rfl <| s_mov (.int .i64 (x_1.length : Int)) rfl <| w_done <| k_seq <| awp_seq <| ?_
 obtain ⟨i_60, hb1, hf⟩ := ob hf
 refine awp_cut ([(0, (.own 0 0 x_1.length)), (1, (.str target_2)), (2, (.fn 183 [])), (8, (.int .i64 (x_1.length : Int))), (9, (.int .i64 i_60))], [.row 2 (x_1.map encGLock)]) ?_ ?_
 ·refine awp_loop (X := {q : (Nat × Int × Int) // slices_BinarySearchFunc_impl_Lock_impl_Lock_string_h0_L1 x_1 target_2 q.1 q.2.1 q.2.2 = some i_60}) (fun q => ([(0, (.own 0 0 x_1.length)), (1, (.str target_2)), (2, (.fn 183 [])), (8, (.int .i64 (x_1.length : Int))), (9, (.int .i64 q.1.2.1)), (10, (.int .i64 q.1.2.2))], [.row 2 (x_1.map encGLock)])) (fun q => q.1.1) ⟨(FUEL, 0, (x_1.length : Int)), hb1⟩ ⟨[], [0], _, _, rfl, rfl, ⟨.refl _, ⟨.refl _, ⟨.refl _, ⟨.refl _, ⟨.refl _, ⟨.refl _, trivial⟩⟩⟩⟩⟩⟩, (.refl _)⟩ ?_
  rintro ⟨⟨k, i_50, j_51⟩, hc1⟩
  have hc1 : slices_BinarySearchFunc_impl_Lock_impl_Lock_string_h0_L1 x_1 target_2 k i_50 j_51 = some i_60 := hc1
  refine (show awp Try.prog ⟨true, true⟩ 1 _ (ofL [(0, (.own 0 0 x_1.length)), (1, (.str target_2)), (2, (.fn 183 [])), (8, (.int .i64 (x_1.length : Int))), (9, (.int .i64 i_50)), (10, (.int .i64 j_51))]) [.row 2 (x_1.map encGLock)] _ from ?_)
  rcases k with _ | k
  ·rw [slices_BinarySearchFunc_impl_Lock_impl_Lock_string_h0_L1.eq_1] at hc1
   cases hc1
  ·rw [slices_BinarySearchFunc_impl_Lock_impl_Lock_string_h0_L1.eq_2] at hc1; refine awp_seq <| awp_seq <| w_reg <| s_mov (.int .i64 i_50) rfl <| s_mov (.int .i64 j_51) rfl <| s_q (.bool (decide (i_50 < j_51))) rfl (.of rfl trivial) rfl <| w_done <| k_seq <| ?_
   rcases oi hc1 with ⟨c62, hc1⟩ | ⟨c62, hc1⟩
   ·refine w_condt rfl c62 <| w_skip <| k_seq <| w_blk <| awp_seq <| w_reg <| s_mov (.int .i64 i_50) rfl <| s_mov (.int .i64 j_51) rfl <| s_q (.int .i64 (w64 (i_50 + j_51))) rfl (.of rfl trivial) rfl <| s_q (.int .u64 (IntKind.u64.wrap (w64 (i_50 + j_51)))) rfl (.of trivial trivial) rfl <| ?_; refine s_do (o_q (.int .u64 (Int.fdiv (IntKind.u64.wrap (w64 (i_50 + j_51))) (2 ^ (min (Int.toNat 1) (IntKind.bits .u64))))) rfl (.of (show (0:Int) ≤ 1 by decide) trivial) rfl) ?_; refine s_q (.int .i64 (w64 (Int.fdiv (IntKind.u64.wrap (w64 (i_50 + j_51))) (2 ^ (min (Int.toNat 1) (IntKind.bits .u64)))))) rfl (.of trivial trivial) rfl <| s_mov (.int .i64 (w64 (Int.fdiv (IntKind.u64.wrap (w64 (i_50 + j_51))) (2 ^ (min (Int.toNat 1) (IntKind.bits .u64)))))) rfl <| ?_
    refine w_done <| k_seq <| awp_seq <| ?_
    obtain ⟨x_64, ex65, hc1⟩ := ob hc1
    refine w_opn (o := 0) (i := (0 + (w64 (Int.fdiv (IntKind.u64.wrap (w64 (i_50 + j_51))) (2 ^ (min (Int.toNat 1) (IntKind.bits .u64))))).toNat)) (el := (.agg [(.str x_64.Name), (.lst 1 (x_64.Queue.map encI))])) (el2 := (.agg [(.str x_64.Name), (.own 1 0 x_64.Queue.length)])) (xs := [.row 1 (x_64.Queue.map encI)]) rfl rfl rfl ex65 rfl (by simp only [AV.cells, openVs, openV, List.length_map, List.nil_append, List.append_nil, List.cons_append]; rfl) <| w_reg <| ?_
    obtain ⟨g66, hc1⟩ := og hc1
    obtain ⟨r_67, er68, hc1⟩ := ob hc1
    refine s_mov (.fn 183 []) rfl <| s_mov (.own 0 0 x_1.length) rfl <| s_mov (.int .i64 (w64 (Int.fdiv (IntKind.u64.wrap (w64 (i_50 + j_51))) (2 ^ (min (Int.toNat 1) (IntKind.bits .u64)))))) rfl <| s_do (o_iaddrx rfl rfl g66.1 g66.2 rfl rfl) <| s_do (o_loadx rfl rfl nle rfl) <| s_mov (.str target_2) rfl <| ?_; refine s_do (o_calvh (v := (.int .i64 r_67)) (h2 := [.rowx 2 (x_1.map encGLock) (0 + (w64 (Int.fdiv (IntKind.u64.wrap (w64 (i_50 + j_51))) (2 ^ (min (Int.toNat 1) (IntKind.bits .u64))))).toNat) (.agg [(.str x_64.Name), (.own 1 0 x_64.Queue.length)]), .row 1 (x_64.Queue.map encI)]) [] [1] (fun _ => rfl) rfl (by kernel_rfl) (w_impl_lockAt_1_h0 _ _ _ _ er68) rfl rfl (.refl _) (.refl _) rfl rfl) ?_; refine s_q (.bool (decide (r_67 < 0))) rfl (.of rfl trivial) rfl ?_
    refine w_done <| k_seq <| ?_
    rcases oi hc1 with ⟨c69, hc1⟩ | ⟨c69, hc1⟩
    ·refine w_condt rfl c69 <| w_reg <| s_mov (.int .i64 (w64 (Int.fdiv (IntKind.u64.wrap (w64 (i_50 + j_51))) (2 ^ (min (Int.toNat 1) (IntKind.bits .u64)))))) rfl <| s_q (.int .i64 (w64 ((w64 (Int.fdiv (IntKind.u64.wrap (w64 (i_50 + j_51))) (2 ^ (min (Int.toNat 1) (IntKind.bits .u64))))) + 1))) rfl (.of rfl trivial) rfl <| s_mov (.int .i64 (w64 ((w64 (Int.fdiv (IntKind.u64.wrap (w64 (i_50 + j_51))) (2 ^ (min (Int.toNat 1) (IntKind.bits .u64))))) + 1))) rfl <| w_done <| k_blk <| ?_; exact k_loopn ⟨(k, w64 ((w64 (Int.fdiv (IntKind.u64.wrap (w64 (i_50 + j_51))) (2 ^ (min (Int.toNat 1) (IntKind.bits .u64))))) + 1), j_51), hc1⟩ (Nat.lt_succ_self _) ⟨[.cls 0], [0], _, _, rfl, rfl, ⟨.refl _, ⟨.refl _, ⟨.refl _, ⟨.refl _, ⟨.refl _, ⟨.refl _, trivial⟩⟩⟩⟩⟩⟩, (.cons ((leo_cls0 ex65 (.agg (.cons (.refl _) (.cons (.of_eq (congrArg (AV.lst _) (tk (enc := encI) x_64.Queue))) .nil))))) .nil)⟩
    ·refine w_condf rfl (bf c69) <| w_reg <| s_mov (.int .i64 (w64 (Int.fdiv (IntKind.u64.wrap (w64 (i_50 + j_51))) (2 ^ (min (Int.toNat 1) (IntKind.bits .u64)))))) rfl <| s_mov (.int .i64 (w64 (Int.fdiv (IntKind.u64.wrap (w64 (i_50 + j_51))) (2 ^ (min (Int.toNat 1) (IntKind.bits .u64)))))) rfl <| w_done <| k_blk <| ?_; exact k_loopn ⟨(k, i_50, w64 (Int.fdiv (IntKind.u64.wrap (w64 (i_50 + j_51))) (2 ^ (min (Int.toNat 1) (IntKind.bits .u64))))), hc1⟩ (Nat.lt_succ_self _) ⟨[.cls 0], [0], _, _, rfl, rfl, ⟨.refl _, ⟨.refl _, ⟨.refl _, ⟨.refl _, ⟨.refl _, ⟨.refl _, trivial⟩⟩⟩⟩⟩⟩, (.cons ((leo_cls0 ex65 (.agg (.cons (.refl _) (.cons (.of_eq (congrArg (AV.lst _) (tk (enc := encI) x_64.Queue))) .nil))))) .nil)⟩
   ·refine w_condf rfl (bf c62) <| w_exit <| k_seqx <| k_loopx <| k_blkx <| ?_; obtain rfl := os hc1; exact ⟨[], [0], _, _, rfl, rfl, ⟨.refl _, ⟨.refl _, ⟨.refl _, ⟨.refl _, ⟨.refl _, trivial⟩⟩⟩⟩⟩, (.refl _)⟩
 ·refine awp_seq ?_
  rcases oo hf with ⟨x_72, ex73, hf⟩ | ⟨ex73, hf⟩
  ·refine w_opn (o := 0) (i := (0 + i_60.toNat)) (el := (.agg [(.str x_72.Name), (.lst 1 (x_72.Queue.map encI))])) (el2 := (.agg [(.str x_72.Name), (.own 1 0 x_72.Queue.length)])) (xs := [.row 1 (x_72.Queue.map encI)]) rfl rfl rfl ex73 rfl (by simp only [AV.cells, openVs, openV, List.length_map, List.nil_append, List.append_nil, List.cons_append]; rfl) <| w_reg <| s_mov (.int .i64 i_60) rfl <| s_mov (.int .i64 i_60) rfl <| s_mov (.int .i64 (x_1.length : Int)) rfl <| s_q (.bool (decide (i_60 < (x_1.length : Int)))) rfl (.of rfl trivial) rfl <| s_mov (.bool (decide (i_60 < (x_1.length : Int)))) rfl <| ?_
   rcases oi hf with ⟨c74, hf⟩ | ⟨c74, hf⟩
   ·refine s_lit (s := 39) (b := true) rfl c74 <| s_on rfl <| s_mov (.fn 183 []) rfl <| s_on rfl <| s_mov (.own 0 0 x_1.length) rfl <| s_on rfl <| s_mov (.int .i64 i_60) rfl <| s_on rfl <| ?_
    obtain ⟨g75, hf⟩ := og hf
    refine s_do (o_iaddrx rfl rfl g75.1 g75.2 rfl rfl) <| s_on rfl <| s_do (o_loadx rfl rfl nle rfl) <| s_on rfl <| s_mov (.str target_2) rfl <| s_on rfl <| ?_
    obtain ⟨r_76, er77, hf⟩ := ob hf
    refine s_do (o_calvh (v := (.int .i64 r_76)) (h2 := [.rowx 2 (x_1.map encGLock) (0 + i_60.toNat) (.agg [(.str x_72.Name), (.own 1 0 x_72.Queue.length)]), .row 1 (x_72.Queue.map encI)]) [] [1] (fun _ => rfl) rfl (by kernel_rfl) (w_impl_lockAt_1_h0 _ _ _ _ er77) rfl rfl (.refl _) (.refl _) rfl rfl) ?_; refine s_on rfl <| s_q (.bool (r_76 == 0)) rfl (.of rfl trivial) rfl <| s_q (.bool (r_76 == 0)) rfl (.of trivial trivial) rfl <| s_mov (.int .i64 i_60) rfl <| s_mov (.bool (r_76 == 0)) rfl <| w_done <| k_seq <| w_cls0 (o := 0) (h2 := [.rowx 2 (x_1.map encGLock) (0 + i_60.toNat) (.agg [(.str x_72.Name), (.own 1 0 x_72.Queue.length)]), .dead]) ex73 rfl rfl rfl (.agg (.cons (.refl _) (.cons (.of_eq (congrArg (AV.lst _) (tk (enc := encI) x_72.Queue))) .nil))) rfl <| ?_
    refine w_ret ?_; obtain rfl := os hf; exact r_heap [] [0] rfl ⟨.of trivial trivial, ⟨.of trivial trivial, trivial⟩⟩ rfl (.refl _) (.refl _)
   ·refine s_lit (s := 39) (b := false) rfl (bf c74) <| s_off rfl rfl <| s_off rfl rfl <| s_off rfl rfl <| s_off rfl rfl <| s_off rfl rfl <| s_off rfl rfl <| s_off rfl rfl <| s_off rfl rfl <| s_q (.bool false) rfl (.of trivial trivial) rfl <| s_mov (.int .i64 i_60) rfl <| s_mov (.bool false) rfl <| w_done <| k_seq <| w_cls0 (o := 0) (h2 := [.rowx 2 (x_1.map encGLock) (0 + i_60.toNat) (.agg [(.str x_72.Name), (.own 1 0 x_72.Queue.length)]), .dead]) ex73 rfl rfl rfl (.agg (.cons (.refl _) (.cons (.of_eq (congrArg (AV.lst _) (tk (enc := encI) x_72.Queue))) .nil))) rfl <| w_ret <| ?_; obtain rfl := os hf; exact r_heap [] [0] rfl ⟨.of trivial trivial, ⟨.of trivial trivial, trivial⟩⟩ rfl (.refl _) (.refl _)
  ·refine w_rev0 <| w_reg <| s_mov (.int .i64 i_60) rfl <| s_mov (.int .i64 i_60) rfl <| s_mov (.int .i64 (x_1.length : Int)) rfl <| s_q (.bool (decide (i_60 < (x_1.length : Int)))) rfl (.of rfl trivial) rfl <| s_mov (.bool (decide (i_60 < (x_1.length : Int)))) rfl <| ?_
   rcases oi hf with ⟨c78, hf⟩ | ⟨c78, hf⟩
   ·refine s_lit (s := 39) (b := true) rfl c78 <| s_on rfl <| s_mov (.fn 183 []) rfl <| s_on rfl <| s_mov (.own 0 0 x_1.length) rfl <| s_on rfl <| s_mov (.int .i64 i_60) rfl <| s_on rfl <| ?_
    obtain ⟨g79, hf⟩ := og hf
    refine s_do (o_iaddrown rfl rfl g79.1 g79.2 rfl rfl) ?_
    cases hf
   ·refine s_lit (s := 39) (b := false) rfl (bf c78) <| s_off rfl rfl <| s_off rfl rfl <| s_off rfl rfl <| s_off rfl rfl <| s_off rfl rfl <| s_off rfl rfl <| s_off rfl rfl <| s_off rfl rfl <| s_q (.bool false) rfl (.of trivial trivial) rfl <| s_mov (.int .i64 i_60) rfl <| s_mov (.bool false) rfl <| w_done <| k_seq <| w_rev0 <| w_ret <| ?_; obtain rfl := os hf; exact r_heap [] [0] rfl ⟨.of trivial trivial, ⟨.of trivial trivial, trivial⟩⟩ rfl (.refl _) (.refl _)

/- impl.lockAt -/
def c99_h0 : ACode :=
 (.seq (.reg (tm 4 (.c (.int .i64 0)) (tm 5 (.c (.bool false)) .done)))
 (.seq (.reg (tm 6 (.t 0) (tm 7 (.t 1) (tq 8 (.call 182 [(.t 6), (.t 7), (.c (.fn 183 []))]) (tq 9 (.extract 0 (.t 8)) (tq 10 (.extract 1 (.t 8)) (tm 4 (.t 9) (tm 5 (.t 10) .done))))))))
 .ret))
theorem fc99_h0 : fcomp Try.prog Try.f99 = some (c99_h0.erase, [.mov (.t 4), .mov (.t 5)], 11) := by kernel_rfl
def impl_lockAt_h0 (list_1 : (List GLock)) (name_2 : Str) : Option (Int × Bool) :=
    (slices_BinarySearchFunc_impl_Lock_impl_Lock_string_h0 list_1 name_2).bind fun r_3 =>
    some (r_3.1, r_3.2)
theorem w_impl_lockAt_h0 (list_1 : (List GLock)) (name_2 : Str) (r : (Int × Bool)) (hf : impl_lockAt_h0 list_1 name_2 = some r) : CallHeap Try.prog ⟨true, true⟩ 99 [(.own 0 0 list_1.length), (.str name_2)] [.row 2 (list_1.map encGLock)] (.tup [(.int .i64 r.1), (.bool r.2)]) [.row 2 (list_1.map encGLock)] := by
 refine CallHeap.of_awp mixed Try.func99 fc99_h0 nle ?_; rw [argT_eq]; unfold impl_lockAt_h0 at hf; unfold c99_h0; refine (show awp Try.prog ⟨true, true⟩ 1 _ (ofL [(0, (.own 0 0 list_1.length)), (1, (.str name_2))]) [.row 2 (list_1.map encGLock)] _ from ?_); refine awp_seq <| w_reg <| s_mov (.int .i64 0) rfl <| s_mov (.bool false) rfl <| w_done <| k_seq <| awp_seq <| w_reg <| ?_
 obtain ⟨r_3, er4, hf⟩ := ob hf
 refine s_mov (.own 0 0 list_1.length) rfl <| s_mov (.str name_2) rfl <| ?_; refine s_do (o_callh (v := (.tup [(.int .i64 r_3.1), (.bool r_3.2)])) (h2 := [.row 2 (list_1.map encGLock)]) [] [0] (fun _ => rfl) (w_slices_BinarySearchFunc_impl_Lock_impl_Lock_string_h0 _ _ _ er4) rfl (.refl _) (.refl _) rfl rfl) ?_; refine s_q (.int .i64 r_3.1) rfl (.of nle trivial) rfl <| s_q (.bool r_3.2) rfl (.of nle trivial) rfl <| s_mov (.int .i64 r_3.1) rfl <| s_mov (.bool r_3.2) rfl <| w_done <| k_seq <| w_ret <| ?_; obtain rfl := os hf; exact r_heap [] [0] rfl ⟨.of trivial trivial, ⟨.of trivial trivial, trivial⟩⟩ rfl (.refl _) (.refl _)

/- slices.IndexFunc[[]int,int] -/
def c202_h0 : ACode :=
 (.seq (.reg (tm 4 (.c (.int .i64 0)) .done))
 (.seq (.seq (.reg (tm 6 (.t 0) (tq 7 (.len (.t 6)) (tm 8 (.c (.int .i64 0)) .done))))
 (.block 0 (.loop (.seq (.reg (tq 9 (.bin .lss (.t 8) (.t 7)) .done))
 (.seq (.cond (.t 9) .skip
 (.exit 0))
 (.seq (.block 1 (.seq (.reg (tm 10 (.t 8) (tm 5 (.t 10) .done)))
 (.seq (.reg (tm 11 (.t 1) (tm 12 (.t 0) (tm 13 (.t 5) (tq 14 (.iaddr 1 (.t 12) (.t 13)) (tq 15 (.load 1 false (.t 14)) (tq 16 (.calv (.t 11) [(.t 15)]) .done)))))))
 (.cond (.t 16) (.seq (.reg (tm 17 (.t 5) (tm 4 (.t 17) .done)))
 .ret)
 .skip))))
 (.reg (tq 18 (.bin .add (.t 8) (.c (.int .i64 1))) (tm 8 (.t 18) .done)))))))))
 (.cut (.seq (.reg (tq 4 (.mov (.c (.int .i64 (-1)))) .done))
 .ret))))
theorem fc202_h0 : fcomp Try.prog Try.f202 = some (c202_h0.erase, [.mov (.t 4)], 19) := by kernel_rfl
def slices_IndexFunc_int_int_h0_L1 (s_1 : (List Int)) (c_2 : Int) : List Int → Nat → Option (Fl (Int × Int) Unit)
  | [], s8_19 =>
    some (.go ())
  | x_34 :: xs, s8_19 =>
    if s8_19 < s_1.length then
    (impl_leave_1 x_34 c_2).bind fun r_36 =>
    if r_36 then
    some (.ret ((s8_19 : Int), c_2))
    else
    slices_IndexFunc_int_int_h0_L1 s_1 c_2 xs (s8_19 + 1)
    else none

def slices_IndexFunc_int_int_h0 (s_1 : (List Int)) (c_2 : Int) : Option (Int × Int) :=
    (slices_IndexFunc_int_int_h0_L1 s_1 c_2 s_1 0).bind fun q => (match q with
    | .ret r => some r
    | .go _ =>
    some ((-1), c_2))
theorem w_slices_IndexFunc_int_int_h0 (s_1 : (List Int)) (c_2 : Int) (r : (Int × Int)) (hf : slices_IndexFunc_int_int_h0 s_1 c_2 = some r) : CallHeap Try.prog ⟨true, true⟩ 202 [(.own 0 0 s_1.length), (.fn 186 [(.ptr 1 0 0)])] [.row 1 (s_1.map encI), .box 1 (.int .i64 c_2)] (.int .i64 r.1) [.row 1 (s_1.map encI), .box 1 (.int .i64 r.2)] := by
 refine CallHeap.of_awp mixed Try.func202 fc202_h0 nle ?_; rw [argT_eq]; unfold slices_IndexFunc_int_int_h0 at hf; unfold c202_h0; refine (show awp Try.prog ⟨true, true⟩ 2 _ (ofL [(0, (.own 0 0 s_1.length)), (1, (.fn 186 [(.ptr 1 0 0)]))]) [.row 1 (s_1.map encI), .box 1 (.int .i64 c_2)] _ from ?_); refine awp_seq <| w_reg <| s_mov (.int .i64 0) rfl <| w_done <| k_seq <| awp_seq <| awp_seq <| w_reg <| s_mov (.own 0 0 s_1.length) rfl <| s_dof (o_lenown rfl rfl) fun hl3 => s_mov (.int .i64 0) rfl <| w_done <| k_seq <| ?_
 obtain ⟨p27, hb1, hf⟩ := ob hf
 refine awp_cutx (X := {q : Unit // p27 = .go q}) (fun q => ([], [.row 1 (s_1.map encI), .box 1 (.int .i64 c_2)])) ?_ ?_
 ·refine awp_loop (X := {q : Nat // slices_IndexFunc_int_int_h0_L1 s_1 c_2 (s_1.drop q) q = some p27}) (fun q => ([(0, (.own 0 0 s_1.length)), (1, (.fn 186 [(.ptr 1 0 0)])), (7, (.int .i64 (s_1.length : Int))), (8, (.int .i64 (q.1 : Int)))], [.row 1 (s_1.map encI), .box 1 (.int .i64 c_2)])) (fun q => s_1.length - q.1) ⟨0, hb1⟩ ⟨[], [0, 1], _, _, rfl, rfl, ⟨.refl _, ⟨.refl _, ⟨.refl _, ⟨.refl _, trivial⟩⟩⟩⟩, (.refl _)⟩ ?_
  rintro ⟨s8_19, hc1⟩
  have hc1 : slices_IndexFunc_int_int_h0_L1 s_1 c_2 (s_1.drop s8_19) s8_19 = some p27 := hc1
  refine (show awp Try.prog ⟨true, true⟩ 2 _ (ofL [(0, (.own 0 0 s_1.length)), (1, (.fn 186 [(.ptr 1 0 0)])), (7, (.int .i64 (s_1.length : Int))), (8, (.int .i64 (s8_19 : Int)))]) [.row 1 (s_1.map encI), .box 1 (.int .i64 c_2)] _ from ?_)
  rcases dropc s_1 s8_19 with ⟨hie30, hd33⟩ | ⟨hlt28, x_34, hx29, hd33⟩
  ·rw [hd33, slices_IndexFunc_int_int_h0_L1.eq_1] at hc1
   have hq32 := dlf hie30
   refine awp_seq <| w_reg <| s_q (.bool (decide ((s8_19 : Int) < (s_1.length : Int)))) rfl (.of rfl trivial) rfl <| w_done <| k_seq <| awp_seq <| w_condf rfl hq32 <| w_exit <| k_seqx <| k_loopx <| k_blkx <| ?_; obtain rfl := os hc1; exact k_cutn ⟨_, rfl⟩ ⟨[], [0, 1], _, _, rfl, rfl, trivial, (.refl _)⟩
  ·rw [hd33, slices_IndexFunc_int_int_h0_L1.eq_2] at hc1
   have hq32 := dlt hlt28
   refine awp_seq <| w_reg <| s_q (.bool (decide ((s8_19 : Int) < (s_1.length : Int)))) rfl (.of rfl trivial) rfl <| w_done <| k_seq <| awp_seq <| w_condt rfl hq32 <| w_skip <| k_seq <| awp_seq <| w_blk <| awp_seq <| w_reg <| s_mov (.int .i64 (s8_19 : Int)) rfl <| s_mov (.int .i64 (s8_19 : Int)) rfl <| w_done <| k_seq <| awp_seq <| w_reg <| ?_
   obtain ⟨g35, hc1⟩ := og hc1
   obtain ⟨r_36, er37, hc1⟩ := ob hc1
   refine s_mov (.fn 186 [(.ptr 1 0 0)]) rfl <| s_mov (.own 0 0 s_1.length) rfl <| s_mov (.int .i64 (s8_19 : Int)) rfl <| s_do (o_iaddrownn rfl rfl g35 rfl rfl) <| s_do (o_loadrowm (enc := encI) (v := (.int .i64 x_34)) rfl rfl hx29 ⟨rfl, rfl⟩ rfl rfl) <| s_do (o_calvk (v := (.bool r_36)) rfl (by kernel_rfl) (w_impl_leave_1 _ _ _ er37) rfl rfl (.refl _) rfl) <| w_done <| k_seq <| ?_
   rcases oi hc1 with ⟨c38, hc1⟩ | ⟨c38, hc1⟩
   ·refine w_condt rfl c38 <| awp_seq <| w_reg <| s_mov (.int .i64 (s8_19 : Int)) rfl <| s_mov (.int .i64 (s8_19 : Int)) rfl <| w_done <| k_seq <| w_ret <| ?_; obtain rfl := os hc1; obtain rfl := os hf; exact r_heap [] [0, 1] rfl ⟨.of trivial trivial, trivial⟩ rfl (.refl _) (.refl _)
   ·refine w_condf rfl (bf c38) <| w_skip <| k_blk <| k_seq <| w_reg <| s_q (.int .i64 (w64 ((s8_19 : Int) + 1))) rfl (.of rfl trivial) rfl <| s_mov (.int .i64 (w64 ((s8_19 : Int) + 1))) rfl <| w_done <| ?_; exact k_loopn ⟨(s8_19 + 1), hc1⟩ (mul hlt28) ⟨[], [0, 1], _, _, rfl, rfl, ⟨.refl _, ⟨.refl _, ⟨.refl _, ⟨.of_eq (congrArg (AV.int _) (w64_incr hlt28 hl3)), trivial⟩⟩⟩⟩, (.refl _)⟩
 ·rintro ⟨_, rfl⟩
  refine awp_seq <| w_reg <| s_mov (.int .i64 (-1)) rfl <| w_done <| k_seq <| w_ret <| ?_; obtain rfl := os hf; exact r_heap [] [0, 1] rfl ⟨.of trivial trivial, trivial⟩ rfl (.refl _) (.refl _)

/- slices.DeleteFunc[[]int,int] -/
def c119_h4 : ACode :=
 (.seq (.reg (tm 4 (.c .nil) .done))
 (.seq (.reg (tm 8 (.t 0) (tm 9 (.t 1) (tq 10 (.call 202 [(.t 8), (.t 9)]) (tm 5 (.t 10) .done)))))
 (.seq (.seq (.reg (tm 11 (.t 5) (tq 12 (.bin .eql (.t 11) (.c (.int .i64 (-1)))) .done)))
 (.cond (.t 12) (.seq (.reg (tm 13 (.t 0) (tm 4 (.t 13) .done)))
 .ret)
 .skip))
 (.seq (.seq (.reg (tm 14 (.t 5) (tq 15 (.bin .add (.t 14) (.c (.int .i64 1))) (tm 6 (.t 15) .done))))
 (.block 0 (.loop (.seq (.seq (.reg (tm 16 (.t 6) (tm 17 (.t 0) (tq 18 (.len (.t 17)) (tq 19 (.bin .lss (.t 16) (.t 18)) .done)))))
 (.cond (.t 19) .skip
 (.exit 0)))
 (.seq (.block 1 (.seq (.reg (tm 22 (.t 0) (tm 23 (.t 6) (tq 24 (.iaddr 1 (.t 22) (.t 23)) (tq 25 (.load 1 false (.t 24)) (tm 7 (.t 25) .done))))))
 (.seq (.reg (tm 26 (.t 1) (tm 27 (.t 7) (tq 28 (.calv (.t 26) [(.t 27)]) (tq 29 (.not (.t 28)) .done)))))
 (.cond (.t 29) (.seq (.reg (tm 30 (.t 0) (tm 31 (.t 5) (tm 32 (.t 7) (tq 33 (.iaddr 1 (.t 30) (.t 31)) (.q ⟨none, none, .store 1 (.t 33) (.t 32)⟩
 .done))))))
 (.reg (tm 34 (.t 5) (tq 35 (.bin .add (.t 34) (.c (.int .i64 1))) (tm 5 (.t 35) .done)))))
 .skip))))
 (.reg (tm 20 (.t 6) (tq 21 (.bin .add (.t 20) (.c (.int .i64 1))) (tm 6 (.t 21) .done)))))))))
 (.cut (.seq (.reg (tm 36 (.t 0) (tm 37 (.t 5) (tq 38 (.slice 1 (.t 36) (some (.t 37)) none) (.q ⟨none, none, .clr 1 (.int .i64 0) (.t 38)⟩
 .done)))))
 (.seq (.reg (tm 39 (.t 0) (tm 40 (.t 5) (tq 41 (.slice 1 (.t 39) none (some (.t 40))) (tm 4 (.t 41) .done)))))
 .ret)))))))
theorem fc119_h4 : fcomp Try.prog Try.f119 = some (c119_h4.erase, [.mov (.t 4)], 42) := by kernel_rfl
def slices_DeleteFunc_int_int_h4_L1 (r_3 : (Int × Int)) : Nat → Int → Int → (List Int) → Option (Int × (List Int))
  | 0, _, _, _ => none
  | k + 1, i_71, j_72, s_73 =>
    if (decide (j_72 < (s_73.length : Int))) then
    if (0 : Int) ≤ j_72 ∧ j_72 < (s_73.length : Int) then
    (s_73[(0 + j_72.toNat)]?).bind fun x_91 =>
    (impl_leave_1 x_91 r_3.2).bind fun r_93 =>
    if (!r_93) then
    if (0 : Int) ≤ i_71 ∧ i_71 < (s_73.length : Int) then
    (s_73[(0 + i_71.toNat)]?).bind fun x_97 =>
    slices_DeleteFunc_int_int_h4_L1 r_3 k (w64 (i_71 + 1)) (w64 (j_72 + 1)) (s_73.set (0 + i_71.toNat) x_91)
    else none
    else
    slices_DeleteFunc_int_int_h4_L1 r_3 k i_71 (w64 (j_72 + 1)) s_73
    else none
    else
    some (i_71, s_73)

def slices_DeleteFunc_int_int_h4 (s_1 : (List Int)) (c_2 : Int) : Option ((List Int) × Int) :=
    (slices_IndexFunc_int_int_h0 s_1 c_2).bind fun r_3 =>
    if (r_3.1 == (-1)) then
    some (s_1, r_3.2)
    else
    (slices_DeleteFunc_int_int_h4_L1 r_3 FUEL r_3.1 (w64 (r_3.1 + 1)) s_1).bind fun p87 =>
    (match p87 with
    | (i_85, s_86) =>
    if (0 : Int) ≤ i_85 ∧ i_85 ≤ (s_86.length : Int) then
    if (0 : Int) ≤ i_85 ∧ i_85 ≤ (s_86.length : Int) then
    some ((s_86.take i_85.toNat ++ List.replicate (s_86.length - i_85.toNat) 0 ++ s_86.drop (i_85.toNat + (s_86.length - i_85.toNat))).take i_85.toNat, r_3.2)
    else none
    else none)
theorem w_slices_DeleteFunc_int_int_h4 (s_1 : (List Int)) (c_2 : Int) (r : ((List Int) × Int)) (hf : slices_DeleteFunc_int_int_h4 s_1 c_2 = some r) : CallHeap Try.prog ⟨true, true⟩ 119 [(.own 0 0 s_1.length), (.fn 186 [(.ptr 1 0 0)])] [.row 1 (s_1.map encI), .box 1 (.int .i64 c_2)] (.own 2 0 r.1.length) [.dead, .box 1 (.int .i64 r.2), .row 1 (r.1.map encI)] := by
 refine CallHeap.of_awp mixed Try.func119 fc119_h4 nle ?_; rw [argT_eq]; unfold slices_DeleteFunc_int_int_h4 at hf; unfold c119_h4; refine (show awp Try.prog ⟨true, true⟩ 2 _ (ofL [(0, (.own 0 0 s_1.length)), (1, (.fn 186 [(.ptr 1 0 0)]))]) [.row 1 (s_1.map encI), .box 1 (.int .i64 c_2)] _ from ?_); refine awp_seq <| w_reg <| s_mov .nil rfl <| w_done <| k_seq <| awp_seq <| w_reg <| ?_
 obtain ⟨r_3, er4, hf⟩ := ob hf
 refine s_mov (.own 0 0 s_1.length) rfl <| s_mov (.fn 186 [(.ptr 1 0 0)]) rfl <| ?_; refine s_do (o_callh (v := (.int .i64 r_3.1)) (h2 := [.row 1 (s_1.map encI), .box 1 (.int .i64 r_3.2)]) [] [0, 1] (fun _ => rfl) (w_slices_IndexFunc_int_int_h0 _ _ _ er4) rfl (.refl _) (.refl _) rfl rfl) ?_; refine s_mov (.int .i64 r_3.1) rfl <| w_done <| k_seq <| awp_seq <| awp_seq <| w_reg <| s_mov (.int .i64 r_3.1) rfl <| s_q (.bool (r_3.1 == (-1))) rfl (.of rfl trivial) rfl <| w_done <| k_seq <| ?_
 rcases oi hf with ⟨c5, hf⟩ | ⟨c5, hf⟩
 ·refine w_condt rfl c5 <| awp_seq <| w_reg <| s_mov (.own 0 0 s_1.length) rfl <| s_mov (.own 0 0 s_1.length) rfl <| w_done <| k_seq <| w_ret <| ?_; obtain rfl := os hf; exact r_heap [.mv 0] [0, 1, 2] rfl ⟨.of trivial trivial, trivial⟩ rfl (.refl _) (.refl _)
 ·refine w_condf rfl (bf c5) <| w_skip <| k_seq <| awp_seq <| awp_seq <| w_reg <| s_mov (.int .i64 r_3.1) rfl <| s_q (.int .i64 (w64 (r_3.1 + 1))) rfl (.of rfl trivial) rfl <| s_mov (.int .i64 (w64 (r_3.1 + 1))) rfl <| w_done <| k_seq <| ?_
  obtain ⟨p87, hb1, hf⟩ := ob hf
  refine awp_cut ([(0, (.own 0 0 p87.2.length)), (5, (.int .i64 p87.1))], [.row 1 (p87.2.map encI), .box 1 (.int .i64 r_3.2)]) ?_ ?_
  ·refine awp_loop (X := {q : (Nat × Int × Int × (List Int)) // slices_DeleteFunc_int_int_h4_L1 r_3 q.1 q.2.1 q.2.2.1 q.2.2.2 = some p87}) (fun q => ([(0, (.own 0 0 q.1.2.2.2.length)), (1, (.fn 186 [(.ptr 1 0 0)])), (5, (.int .i64 q.1.2.1)), (6, (.int .i64 q.1.2.2.1))], [.row 1 (q.1.2.2.2.map encI), .box 1 (.int .i64 r_3.2)])) (fun q => q.1.1) ⟨(FUEL, r_3.1, w64 (r_3.1 + 1), s_1), hb1⟩ ⟨[], [0, 1], _, _, rfl, rfl, ⟨.refl _, ⟨.refl _, ⟨.refl _, ⟨.refl _, trivial⟩⟩⟩⟩, (.refl _)⟩ ?_
   rintro ⟨⟨k, i_71, j_72, s_73⟩, hc1⟩
   have hc1 : slices_DeleteFunc_int_int_h4_L1 r_3 k i_71 j_72 s_73 = some p87 := hc1
   refine (show awp Try.prog ⟨true, true⟩ 2 _ (ofL [(0, (.own 0 0 s_73.length)), (1, (.fn 186 [(.ptr 1 0 0)])), (5, (.int .i64 i_71)), (6, (.int .i64 j_72))]) [.row 1 (s_73.map encI), .box 1 (.int .i64 r_3.2)] _ from ?_)
   rcases k with _ | k
   ·rw [slices_DeleteFunc_int_int_h4_L1.eq_1] at hc1
    cases hc1
   ·rw [slices_DeleteFunc_int_int_h4_L1.eq_2] at hc1; refine awp_seq <| awp_seq <| w_reg <| s_mov (.int .i64 j_72) rfl <| s_mov (.own 0 0 s_73.length) rfl <| s_dof (o_lenown rfl rfl) fun hl88 => s_q (.bool (decide (j_72 < (s_73.length : Int)))) rfl (.of rfl trivial) rfl <| w_done <| k_seq <| ?_
    rcases oi hc1 with ⟨c89, hc1⟩ | ⟨c89, hc1⟩
    ·refine w_condt rfl c89 <| w_skip <| k_seq <| awp_seq <| w_blk <| awp_seq <| w_reg <| ?_
     obtain ⟨g90, hc1⟩ := og hc1
     obtain ⟨x_91, ex92, hc1⟩ := ob hc1
     refine s_mov (.own 0 0 s_73.length) rfl <| s_mov (.int .i64 j_72) rfl <| s_do (o_iaddrown rfl rfl g90.1 g90.2 rfl rfl) <| s_do (o_loadrowm (enc := encI) (v := (.int .i64 x_91)) rfl rfl ex92 ⟨rfl, rfl⟩ rfl rfl) <| s_mov (.int .i64 x_91) rfl <| w_done <| k_seq <| awp_seq <| w_reg <| ?_
     obtain ⟨r_93, er94, hc1⟩ := ob hc1
     refine s_mov (.fn 186 [(.ptr 1 0 0)]) rfl <| s_mov (.int .i64 x_91) rfl <| s_do (o_calvk (v := (.bool r_93)) rfl (by kernel_rfl) (w_impl_leave_1 _ _ _ er94) rfl rfl (.refl _) rfl) <| s_q (.bool (!r_93)) rfl (.of trivial trivial) rfl <| w_done <| k_seq <| ?_
     rcases oi hc1 with ⟨c95, hc1⟩ | ⟨c95, hc1⟩
     ·refine w_condt rfl c95 <| awp_seq <| w_reg <| ?_
      obtain ⟨g96, hc1⟩ := og hc1
      obtain ⟨x_97, ex98, hc1⟩ := ob hc1
      refine s_mov (.own 0 0 s_73.length) rfl <| s_mov (.int .i64 i_71) rfl <| s_mov (.int .i64 x_91) rfl <| s_do (o_iaddrown rfl rfl g96.1 g96.2 rfl rfl) <| ?_; refine s_do0 (o_storerow (v' := (.int .i64 x_91)) (e' := x_91) rfl rfl ex98 rfl rfl rfl (by decide) (fun _ => by decide) ⟨rfl, rfl, rfl⟩ (.refl _) rfl) ?_; refine w_done <| k_seq <| w_reg <| s_mov (.int .i64 i_71) rfl <| s_q (.int .i64 (w64 (i_71 + 1))) rfl (.of rfl trivial) rfl <| s_mov (.int .i64 (w64 (i_71 + 1))) rfl <| w_done <| k_blk <| k_seq <| w_reg <| s_mov (.int .i64 j_72) rfl <| s_q (.int .i64 (w64 (j_72 + 1))) rfl (.of rfl trivial) rfl <| s_mov (.int .i64 (w64 (j_72 + 1))) rfl <| w_done <| ?_; exact k_loopn ⟨(k, w64 (i_71 + 1), w64 (j_72 + 1), s_73.set (0 + i_71.toNat) x_91), hc1⟩ (Nat.lt_succ_self _) ⟨[], [0, 1], _, _, rfl, rfl, ⟨.of_eq (congrArg (AV.own _ 0) (by simp)), ⟨.refl _, ⟨.refl _, ⟨.refl _, trivial⟩⟩⟩⟩, (.refl _)⟩
     ·refine w_condf rfl (bf c95) <| w_skip <| k_blk <| k_seq <| w_reg <| s_mov (.int .i64 j_72) rfl <| s_q (.int .i64 (w64 (j_72 + 1))) rfl (.of rfl trivial) rfl <| s_mov (.int .i64 (w64 (j_72 + 1))) rfl <| w_done <| ?_; exact k_loopn ⟨(k, i_71, w64 (j_72 + 1), s_73), hc1⟩ (Nat.lt_succ_self _) ⟨[], [0, 1], _, _, rfl, rfl, ⟨.refl _, ⟨.refl _, ⟨.refl _, ⟨.refl _, trivial⟩⟩⟩⟩, (.refl _)⟩
    ·refine w_condf rfl (bf c89) <| w_exit <| k_seqx <| k_loopx <| k_blkx <| ?_; obtain rfl := os hc1; exact ⟨[], [0, 1], _, _, rfl, rfl, ⟨.refl _, ⟨.refl _, trivial⟩⟩, (.refl _)⟩
  ·obtain ⟨i_85, s_86⟩ := p87
   refine awp_seq <| w_reg <| ?_
   obtain ⟨g99, hf⟩ := og hf
   refine s_mov (.own 0 0 s_86.length) rfl <| s_mov (.int .i64 i_85) rfl <| s_do (o_sldo rfl rfl rfl g99.1 g99.2) <| s_do0 (o_clr (enc := encI) (y := 0) rfl rfl (.refl _) rfl) <| w_done <| k_seq <| awp_seq <| w_reg <| ?_
   obtain ⟨g100, hf⟩ := og hf
   refine s_mov (.own 0 0 s_86.length) rfl <| s_mov (.int .i64 i_85) rfl <| s_do (o_slto rfl rfl rfl g100.1 g100.2) <| s_mov (.own 0 0 i_85.toNat) rfl <| w_done <| k_seq <| w_ret <| ?_; obtain rfl := os hf; exact r_heap [.trim 4] [0, 1, 2] rfl ⟨.of trivial trivial, trivial⟩ rfl ((.cons (.refl _) (.cons (.refl _) (.cons ((LeO.tk (enc := encI) (s_86.take i_85.toNat ++ List.replicate (s_86.length - i_85.toNat) 0 ++ s_86.drop (i_85.toNat + (s_86.length - i_85.toNat))) _)) .nil)))) (.of_eq (congrArg (AV.own _ 0) (by simp)))

/- slices.Delete[[]impl.Lock,impl.Lock] -/
def slices_Delete_impl_Lock_impl_Lock_h1 (a0 : List GLock) (a1 a2 : Int) : Option (List GLock) :=
    if (0 ≤ a1 ∧ a1 < a2) ∧ a2 ≤ (a0.length : Int) then
    some (a0.take a1.toNat ++ a0.drop a2.toNat)
    else none
/- HAND -/
open Go.RowKit
set_option maxRecDepth 100000 in
theorem del_slices_Delete_impl_Lock_impl_Lock_h1 (w : World) (g n c i j : Nat) (A1 A2 : Array Value) (hij : i < j) (hj : j ≤ n) (hnc : n ≤ c) (hc : c ≤ maxLen)
    (hap : ∀ ty, (Builtin.append_ #[38, 38] ty #[.slice (some ⟨g, 0, none⟩) i c, .slice (if c = j then some ⟨g, 0, none⟩ else some ⟨g, j * 2, none⟩) (n - j) (c - j)]).run Try.prog w.drew = .ok (.slice (some ⟨g, 0, none⟩) (i + (n - j)) c) (w.drew.setRow g A1))
    (hcl : ∀ ty, (Builtin.clear_ #[38] ty #[.slice (some ⟨g, (i + (n - j)) * 2, none⟩) (n - (i + (n - j))) (c - (i + (n - j)))]).run Try.prog (w.drew.setRow g A1) = .ok (.tuple #[]) ((w.drew.setRow g A1).setRow g A2)) :
    Calls Try.prog 187 #[.slice (some ⟨g, 0, none⟩) n c, .int .i64 i, .int .i64 j] w fun e' w' =>
      e' = .returned (.slice (some ⟨g, 0, none⟩) (i + (n - j)) c) ∧ w' = (w.drew.setRow g A1).setRow g A2 := by
  have h1 : ¬ ((i : Int) = (j : Int)) := by omega
  have hic : i ≤ c := by omega
  have hci : ¬ (c = i) := by omega
  have hjc : j ≤ c := by omega
  have hcj : ¬ (c = i + (n - j)) := by omega
  have hle : i + (n - j) ≤ c := by omega
  have hle2 : ((i + (n - j) : Nat) : Int) ≤ (n : Int) := by omega
  have hle3 : (i + (n - j) : Nat) ≤ n := by omega
  have hc63 : c ≤ 9223372036854775807 := by unfold maxLen at hc; omega
  have mixed : Try.prog.follows .mixedOrders = true := by kernel_rfl
  go_enter Try.func187, (show Try.f187.ntmps = 33 from rfl)
  go_wp2_with fail
  go_region_law_o (refine step_append_runI rfl _ _ 38 38 rfl (.slice (some ⟨g, 0, none⟩) i c) (.slice (if c = j then some ⟨g, 0, none⟩ else some ⟨g, j * 2, none⟩) (n - j) (c - j)) (by simp [Act.eval, Act.put]) (by simp [Act.eval, Act.put]) (hap _) ?_)
  all_goals go_wp2_with (simp only [hcl])
  all_goals go_ret
  all_goals exact ⟨rfl, rfl⟩

theorem info_slices_Delete_impl_Lock_impl_Lock_h1 : ∃ i : TypeInfo, Try.prog.info? 125 = some i ∧ i.size = 2 ∧ i.bytes = 40 ∧ i.zero = some (.agg #[.string ⟨#[]⟩, .slice none 0 0]) := info_of (by kernel_rfl)
theorem undS_slices_Delete_impl_Lock_impl_Lock_h1 : Try.prog.underlying 38 = some (.slice 125) := by kernel_rfl
theorem delH_slices_Delete_impl_Lock_impl_Lock_h1 (dm : Md) (l : List AV) (i j : Nat) (hij : i < j) (hj : j ≤ l.length) : CallHeap Try.prog dm 187 [.own 0 0 l.length, .int .i64 i, .int .i64 j] [.row 2 l] (.own 1 0 (i + (l.length - j))) [.dead, .row 2 (l.take i ++ l.drop j)] := by
  intro C σ φ w vals _ _ hok hb hr hv
  simp only [RVs] at hv
  obtain ⟨v1, _, rfl, h1, v2, _, rfl, h2, v3, _, rfl, h3, rfl⟩ := hv
  have e2 : v2 = .int .i64 i := by simpa only [RV] using h2
  have e3 : v3 = .int .i64 j := by simpa only [RV] using h3
  subst e2 e3
  obtain ⟨ti, hti, hts, htb, htz⟩ := info_slices_Delete_impl_Lock_impl_Lock_h1
  have hr' := (Grows.drew w).heap hr
  rcases own_raw hr rfl h1 rfl with ⟨_, rfl, _⟩ | ⟨g, c, cur, e, hσ, rfl, hnc, hcm, hg, hcs, hrep⟩
  · simp at hj; omega
  have hrepD : RepS C.dm w.drew 2 l cur.toList (φ 0) := RepS.world (w := w) (w' := w.drew) _ _ _ (fun _ _ => rfl) hrep
  obtain ⟨fa, fb, hfab, ra, rb⟩ := hrepD.split i
  obtain ⟨fc, fd, hfcd, rd⟩ := rb.drop (j - i)
  rw [List.drop_drop, List.drop_drop, ← Nat.add_mul, show i + (j - i) = j by omega] at rd
  have hsub : List.Sublist (fa ++ fd) (φ 0) := by
    rw [hfab, hfcd]
    exact List.Sublist.append (List.Sublist.refl _) (List.sublist_append_right fc _)
  have hl0 : (l.take i).length = i := by rw [List.length_take]; omega
  have hl1 : (l.drop j).length = l.length - j := by rw [List.length_drop]
  have hlen := hrep.length
  have hcl : cur.toList.length = c * 2 := by rw [← hcs]; simp
  have hc0 : (cur.toList.take (i * 2)).length = i * 2 := by rw [List.length_take]; omega
  have hg' : w.drew.heap[g]? = some (.cells cur e (0, 0)) := hg
  obtain ⟨news, hsrc, hnews, hrep1⟩ := srcOk (P := Try.prog) hr' (t := 38) undS_slices_Delete_impl_Lock_impl_Lock_h1 (sz := 2) (m := l.length - j) (a := if c = j then some ⟨g, 0, none⟩ else some ⟨g, j * 2, none⟩) (c := c - j) (fp := fd) hl1 (by
    by_cases hm : l.length - j = 0
    · refine .inl ⟨hm, ?_⟩
      have : l.drop j = [] := List.eq_nil_of_length_eq_zero (by rw [hl1]; exact hm)
      rw [this] at rd
      simpa only [RepS] using rd
    · exact .inr ⟨g, j * 2, cur, e, (0, 0), if_neg (by omega), hg', rd⟩)
  have hap := fun ty => run_append_room_at (P := Try.prog) (w := w.drew) 38 38 ty 125 e ti undS_slices_Delete_impl_Lock_impl_Lock_h1 hti g i c cur hg' _ (l.length - j) news (by rw [hts]; exact hsrc) (by omega) (by rw [hts, hnews]; omega)
  obtain ⟨A1, hA1⟩ : ∃ A1, A1 = (cur.toList.take (i * ti.size) ++ news ++ cur.toList.drop (i * ti.size + news.length)).toArray := ⟨_, rfl⟩
  rw [← hA1] at hap
  have hs1 : A1.size = c * 2 := by
    rw [hA1, hts]
    simp only [List.size_toArray, List.length_append, List.length_drop, hc0, hnews, hcl]
    omega
  have hp1 : A1.toList.take ((i + (l.length - j)) * 2) = cur.toList.take (i * 2) ++ news := by
    rw [hA1, hts, Nat.add_mul]
    simp only [List.append_assoc]
    rw [take_add hc0, List.take_left' hnews]
  have hclr := fun ty => run_clear_rowz (P := Try.prog) (w.drew.setRow g A1) 38 ty 125 ti _ g ((i + (l.length - j)) * 2) (l.length - (i + (l.length - j))) (c - (i + (l.length - j))) A1 e undS_slices_Delete_impl_Lock_impl_Lock_h1 hti htz (by rw [hts]; rfl) (by decide) (setRow_heap w.drew g cur A1 e _ hg') (by omega) (by rw [hts, hs1]; omega)
  obtain ⟨A2, hA2⟩ : ∃ A2, A2 = (A1.toList.take ((i + (l.length - j)) * 2) ++ (Builtin.zeroCells (Value.agg #[.string ⟨#[]⟩, .slice none 0 0]).cells (l.length - (i + (l.length - j)))).toList ++ A1.toList.drop ((i + (l.length - j)) * 2 + (l.length - (i + (l.length - j))) * ti.size)).toArray := ⟨_, rfl⟩
  rw [← hA2] at hclr
  have hl3 : (A1.toList.take ((i + (l.length - j)) * 2)).length = (i + (l.length - j)) * 2 := by
    have : A1.toList.length = c * 2 := by simpa using hs1
    rw [List.length_take, this]; omega
  have hs2 : A2.size = c * 2 := by
    rw [hA2, hts]
    have h5 : A1.toList.length = c * 2 := by simpa using hs1
    have h6 : (Builtin.zeroCells (Value.agg #[.string ⟨#[]⟩, .slice none 0 0]).cells (l.length - (i + (l.length - j)))).toList.length = (l.length - (i + (l.length - j))) * 2 := by rw [Array.length_toList, size_zeroCells]; rfl
    simp only [List.size_toArray, List.length_append, List.length_drop, hl3, h5, h6]
    omega
  have hp2 : A2.toList.take ((i + (l.length - j)) * 2) = cur.toList.take (i * 2) ++ news := by
    rw [hA2]
    simp only [List.append_assoc]
    rw [List.take_left' hl3, hp1]
  refine (del_slices_Delete_impl_Lock_impl_Lock_h1 w g l.length c i j A1 A2 hij hj hnc hcm hap hclr).mono ?_
  rintro e' w' ⟨rfl, rfl⟩
  have hA := RepS.append (RepS.congr (cs' := cur.toList.take (i * 2)) (by rw [hl0, List.take_take, Nat.min_self]) ra) (by rw [hc0, hl0]) hrep1
  obtain ⟨σ', φ', k1, k2, k3⟩ := sub_fin (w' := (w.drew.setRow g A1).setRow g A2) hr (by simp) hσ hcm (fun b _ hbg => by rw [setRow_other _ _ _ _ hbg, setRow_other _ _ _ _ hbg]; rfl) (setRow_heap _ g A1 A2 e _ (setRow_heap w.drew g cur A1 e _ hg')) hs2 hsub (RepS.world (w := w.drew) (w' := w) _ _ _ (fun _ _ => rfl) hA) (by
    rw [List.length_append, hl0, hl1, hp2]
    exact (List.take_of_length_le (by rw [List.length_append, hc0, hnews]; omega)).symm)
  have hgb : C.mine g := hr.base 0 _ g c rfl rfl hσ
  refine ⟨σ', φ', k1, k2.x, ?_, ⟨rfl, rfl, rfl, by simp, fun k hk => by rw [setRow_other _ _ _ _ (by have := hgb.1; omega), setRow_other _ _ _ _ (by have := hgb.1; omega)]; rfl⟩⟩
  simp only [RV, List.getElem?_cons_succ, List.getElem?_cons_zero]
  exact ⟨_, c, rfl, by rw [List.length_append, hl0, hl1]; omega, by omega, hcm, by rw [k3]; simp⟩
theorem w_slices_Delete_impl_Lock_impl_Lock_h1 (a0 : List GLock) (a1 a2 : Int) (r : List GLock) (hf : slices_Delete_impl_Lock_impl_Lock_h1 a0 a1 a2 = some r) : CallHeap Try.prog ⟨true, true⟩ 187 [.own 0 0 a0.length, .int .i64 a1, .int .i64 a2] [.row 2 (a0.map encGLock)] (.own 1 0 r.length) [.dead, .row 2 (r.map encGLock)] := by
  unfold slices_Delete_impl_Lock_impl_Lock_h1 at hf
  split at hf
  · rename_i h
    obtain rfl := os hf
    obtain ⟨i, rfl⟩ : ∃ i : Nat, a1 = i := ⟨a1.toNat, by omega⟩
    obtain ⟨j, rfl⟩ : ∃ j : Nat, a2 = j := ⟨a2.toNat, by omega⟩
    have := delH_slices_Delete_impl_Lock_impl_Lock_h1 ⟨true, true⟩ (a0.map encGLock) i j (by omega) (by rw [List.length_map]; omega)
    rw [List.length_map] at this
    simp only [Int.toNat_natCast, List.map_append, List.map_take, List.map_drop, List.length_append, List.length_take, List.length_drop]
    rw [Nat.min_eq_left (by omega)]
    exact this
  · cases hf

/- impl.leave -/
def c101_h2 : ACode :=
 (.seq (.reg (tq 5 (.box 1 (.t 2)) (tm 6 (.c .nil) (tm 7 (.c .nil) .done))))
 (.seq (.reg (tm 11 (.t 0) (tm 12 (.t 1) (tq 13 (.iaddr 2 (.t 11) (.t 12)) (tq 14 (.bslice 3 []) (tm 8 (.t 13) (tm 9 (.t 14) .done)))))))
 (.seq (.rev (.reg (tm 15 (.t 8) (tq 16 (.nilck (.t 15)) (tq 17 (.faddr 1 (.t 16)) (tq 18 (.load 1 false (.t 17)) (tq 19 (.iaddr 1 (.t 18) (.c (.int .i64 0))) (tq 20 (.load 1 false (.t 19)) (tq 21 (.load 1 false (.t 5)) (tq 22 (.bin .eql (.t 20) (.t 21)) (tm 10 (.t 22) .done)))))))))))
 (.seq (.reg (tm 23 (.t 8) (tm 24 (.t 8) (tq 25 (.nilck (.t 24)) (tq 26 (.faddr 1 (.t 25)) (tq 27 (.load 1 false (.t 26)) (tq 28 (.mkfn 186 [(.t 5)]) (tq 29 (.call 119 [(.t 27), (.t 28)]) (tq 30 (.nilck (.t 23)) (tq 31 (.faddr 1 (.t 30)) (.q ⟨none, none, .store 1 (.t 31) (.t 29)⟩
 .done)))))))))))
 (.seq (.seq (.reg (tm 32 (.t 8) (tq 33 (.nilck (.t 32)) (tq 34 (.faddr 1 (.t 33)) (tq 35 (.load 1 false (.t 34)) (tq 36 (.len (.t 35)) (tq 37 (.bin .eql (.t 36) (.c (.int .i64 0))) .done)))))))
 (.cond (.t 37) (.seq (.rev (.reg (tm 38 (.t 0) (tm 39 (.t 1) (tm 40 (.t 1) (tq 41 (.bin .add (.t 40) (.c (.int .i64 1))) (tq 42 (.call 187 [(.t 38), (.t 39), (.t 41)]) (tm 43 (.t 9) (tm 6 (.t 42) (tm 7 (.t 43) .done))))))))))
 .ret)
 .skip))
 (.seq (.seq (.reg (tm 44 (.t 10) .done))
 (.cond (.t 44) (.reg (tm 45 (.t 9) (tm 46 (.t 8) (tq 47 (.nilck (.t 46)) (tq 48 (.faddr 1 (.t 47)) (tq 49 (.load 1 false (.t 48)) (tq 50 (.iaddr 1 (.t 49) (.c (.int .i64 0))) (tq 51 (.load 1 false (.t 50)) (tm 52 (.t 8) (tq 53 (.nilck (.t 52)) (tq 54 (.faddr 0 (.t 53)) (tq 55 (.load 1 false (.t 54)) (tq 56 (.build [(.int .i64 0), (.str []), (.str [])] [(0, 1, (.t 51)), (1, 1, (.c (.str [108, 111, 99, 107, 101, 100]))), (2, 1, (.t 55))]) (.l ⟨(some 57), none, .bslice 3 [(.t 56)]⟩ []
 (.l ⟨(some 58), none, .append 3 40 (.t 45) (.t 57)⟩ []
 (.l ⟨(some 9), none, .mov (.t 58)⟩ []
 .done .non) .non) .non))))))))))))))
 .skip))
 (.seq (.reg (tm 59 (.t 0) (tm 60 (.t 9) (tm 6 (.t 59) (tm 7 (.t 60) .done)))))
 (.rev .ret))))))))
theorem fc101_h2 : fcomp Try.prog Try.f101 = some (c101_h2.erase, [.mov (.t 6), .mov (.t 7)], 61) := by kernel_rfl
def impl_leave_h2 (list_1 : (List GLock)) (k_2 : Int) (session_3 : Int) : Option ((List GLock) × (List GTold)) :=
    if (0 : Int) ≤ k_2 ∧ k_2 < (list_1.length : Int) then
    ((list_1[(0 + k_2.toNat)]?)).bind fun x_5 =>
    if 0 < x_5.Queue.length then
    (x_5.Queue[0]?).bind fun x_8 =>
    (slices_DeleteFunc_int_int_h4 x_5.Queue session_3).bind fun r_10 =>
    if ((r_10.1.length : Int) == 0) then
    (slices_Delete_impl_Lock_impl_Lock_h1 (list_1.set (0 + k_2.toNat) (⟨x_5.Name, r_10.1⟩ : GLock)) k_2 (w64 (k_2 + 1))).bind fun r_14 =>
    some (r_14, [])
    else
    if (x_8 == session_3) then
    if 0 < r_10.1.length then
    (r_10.1[0]?).bind fun x_18 =>
    if ([] ++ [(⟨x_18, [108, 111, 99, 107, 101, 100], x_5.Name⟩ : GTold)]).length ≤ 2 ^ 30 then
    some (list_1.set (0 + k_2.toNat) (⟨x_5.Name, r_10.1⟩ : GLock), [] ++ [(⟨x_18, [108, 111, 99, 107, 101, 100], x_5.Name⟩ : GTold)])
    else none
    else none
    else
    some (list_1.set (0 + k_2.toNat) (⟨x_5.Name, r_10.1⟩ : GLock), [])
    else none
    else none
theorem w_impl_leave_h2 (list_1 : (List GLock)) (k_2 : Int) (session_3 : Int) (r : ((List GLock) × (List GTold))) (hf : impl_leave_h2 list_1 k_2 session_3 = some r) : CallHeap Try.prog ⟨true, true⟩ 101 [(.own 0 0 list_1.length), (.int .i64 k_2), (.int .i64 session_3)] [.row 2 (list_1.map encGLock)] (.tup [(.own 1 0 r.1.length), (.own 2 0 r.2.length)]) [.dead, .row 2 (r.1.map encGLock), .row 3 (r.2.map encGTold)] := by
 refine CallHeap.of_awp mixed Try.func101 fc101_h2 nle ?_; rw [argT_eq]; unfold impl_leave_h2 at hf; unfold c101_h2; refine (show awp Try.prog ⟨true, true⟩ 1 _ (ofL [(0, (.own 0 0 list_1.length)), (1, (.int .i64 k_2)), (2, (.int .i64 session_3))]) [.row 2 (list_1.map encGLock)] _ from ?_); refine awp_seq <| w_reg <| s_do (o_box (j := 1) (c := (.int .i64 session_3)) rfl trivial rfl rfl) <| s_mov .nil rfl <| s_mov .nil rfl <| w_done <| k_seq <| awp_seq <| w_reg <| ?_
 obtain ⟨g4, hf⟩ := og hf
 refine s_mov (.own 0 0 list_1.length) rfl <| s_mov (.int .i64 k_2) rfl <| s_do (o_iaddrown rfl rfl g4.1 g4.2 rfl rfl) <| ?_; refine s_do (o_bslice (j := 2) (as' := []) rfl (fun _ => by decide) trivial (.refl _) rfl rfl rfl) ?_; refine s_mov (.ptr 0 (0 + k_2.toNat) 0) rfl <| s_mov (.own 2 0 0) rfl <| w_done <| k_seq <| awp_seq <| ?_
 obtain ⟨x_5, ex6, hf⟩ := ob hf
 refine w_opn (o := 0) (i := (0 + k_2.toNat)) (el := (.agg [(.str x_5.Name), (.lst 1 (x_5.Queue.map encI))])) (el2 := (.agg [(.str x_5.Name), (.own 3 0 x_5.Queue.length)])) (xs := [.row 1 (x_5.Queue.map encI)]) rfl rfl rfl ex6 rfl (by simp only [AV.cells, openVs, openV, List.length_map, List.nil_append, List.append_nil, List.cons_append]; rfl) <| w_reg <| ?_
 obtain ⟨g7, hf⟩ := og hf
 obtain ⟨x_8, ex9, hf⟩ := ob hf
 refine s_mov (.ptr 0 (0 + k_2.toNat) 0) rfl <| s_q (.ptr 0 (0 + k_2.toNat) 0) rfl (.of trivial trivial) rfl <| s_do (o_faddrx rfl rfl) <| s_do (o_loadx rfl rfl nle rfl) <| s_do (o_iaddrownn rfl rfl g7 rfl rfl) <| s_do (o_loadrowm (enc := encI) (v := (.int .i64 x_8)) rfl rfl ex9 ⟨rfl, rfl⟩ rfl rfl) <| s_q (.int .i64 session_3) rfl (.of ⟨rfl, rfl⟩ trivial) rfl <| s_q (.bool (x_8 == session_3)) rfl (.of rfl trivial) rfl <| s_mov (.bool (x_8 == session_3)) rfl <| w_done <| k_seq <| awp_seq <| w_reg <| ?_
 obtain ⟨r_10, er11, hf⟩ := ob hf
 refine s_mov (.ptr 0 (0 + k_2.toNat) 0) rfl <| s_mov (.ptr 0 (0 + k_2.toNat) 0) rfl <| s_q (.ptr 0 (0 + k_2.toNat) 0) rfl (.of trivial trivial) rfl <| s_do (o_faddrx rfl rfl) <| s_do (o_loadx rfl rfl nle rfl) <| s_q (.fn 186 [(.ptr 1 0 0)]) rfl (.of trivial trivial) rfl <| ?_; refine s_do (o_callh (v := (.own 4 0 r_10.1.length)) (h2 := [.rowx 2 (list_1.map encGLock) (0 + k_2.toNat) (.agg [(.str x_5.Name), (.own 3 0 x_5.Queue.length)]), .box 1 (.int .i64 r_10.2), .row 3 ([].map encGTold), .dead, .row 1 (r_10.1.map encI)]) [] [3, 1] (fun _ => rfl) (w_slices_DeleteFunc_int_int_h4 _ _ _ er11) rfl (.refl _) (.refl _) rfl rfl) ?_; refine s_q (.ptr 0 (0 + k_2.toNat) 0) rfl (.of trivial trivial) rfl <| s_do (o_faddrx rfl rfl) <| ?_
 refine s_do0 (o_storex (v := (.own 4 0 r_10.1.length)) (y' := (.agg [(.str x_5.Name), (.own 4 0 r_10.1.length)])) rfl rfl rfl trivial ⟨rfl, nle⟩ ⟨⟨rfl, trivial⟩, trivial⟩ rfl) <| w_done <| k_seq <| awp_seq <| awp_seq <| w_reg <| s_mov (.ptr 0 (0 + k_2.toNat) 0) rfl <| s_q (.ptr 0 (0 + k_2.toNat) 0) rfl (.of trivial trivial) rfl <| s_do (o_faddrx rfl rfl) <| s_do (o_loadx rfl rfl nle rfl) <| s_dof (o_lenown rfl rfl) fun hl12 => s_q (.bool ((r_10.1.length : Int) == 0)) rfl (.of rfl trivial) rfl <| w_done <| k_seq <| ?_
 rcases oi hf with ⟨c13, hf⟩ | ⟨c13, hf⟩
 ·refine w_condt rfl c13 <| awp_seq <| w_cls (o := 0) (y := (⟨x_5.Name, r_10.1⟩ : GLock)) (h2 := [.rowx 2 (list_1.map encGLock) (0 + k_2.toNat) (.agg [(.str x_5.Name), (.own 4 0 r_10.1.length)]), .box 1 (.int .i64 r_10.2), .row 3 ([].map encGTold), .dead, .dead]) rfl rfl rfl (.agg (.cons (.refl _) (.cons (.of_eq (congrArg (AV.lst _) (tk (enc := encI) r_10.1))) .nil))) rfl <| w_reg <| ?_
  obtain ⟨r_14, er15, hf⟩ := ob hf
  refine s_mov (.own 0 0 list_1.length) rfl <| s_mov (.int .i64 k_2) rfl <| s_mov (.int .i64 k_2) rfl <| s_q (.int .i64 (w64 (k_2 + 1))) rfl (.of rfl trivial) rfl <| ?_; refine s_do (o_callh (v := (.own 5 0 r_14.length)) (h2 := [.dead, .box 1 (.int .i64 r_10.2), .row 3 ([].map encGTold), .dead, .dead, .row 2 (r_14.map encGLock)]) [] [0] (fun _ => rfl) (w_slices_Delete_impl_Lock_impl_Lock_h1 _ _ _ _ er15) rfl (.cons (.of_eq (congrArg (AV.own _ 0) (by simp))) (.cons (.refl _) (.cons (.refl _) .nil))) (.refl _) rfl rfl) ?_; refine s_mov (.own 2 0 0) rfl <| s_mov (.own 5 0 r_14.length) rfl <| s_mov (.own 2 0 0) rfl <| w_done <| k_seq <| w_ret <| ?_; obtain rfl := os hf; exact r_heap [] [0, 5, 2] rfl ⟨.of trivial trivial, ⟨.of trivial trivial, trivial⟩⟩ rfl (.refl _) (.refl _)
 ·refine w_condf rfl (bf c13) <| w_skip <| k_seq <| awp_seq <| awp_seq <| w_reg <| s_mov (.bool (x_8 == session_3)) rfl <| w_done <| k_seq <| ?_
  rcases oi hf with ⟨c16, hf⟩ | ⟨c16, hf⟩
  ·refine w_condt rfl c16 <| w_reg <| s_mov (.own 2 0 0) rfl <| s_mov (.ptr 0 (0 + k_2.toNat) 0) rfl <| s_q (.ptr 0 (0 + k_2.toNat) 0) rfl (.of trivial trivial) rfl <| s_do (o_faddrx rfl rfl) <| s_do (o_loadx rfl rfl nle rfl) <| ?_
   obtain ⟨g17, hf⟩ := og hf
   refine s_do (o_iaddrownn rfl rfl g17 rfl rfl) ?_
   obtain ⟨x_18, ex19, hf⟩ := ob hf
   refine s_do (o_loadrowm (enc := encI) (v := (.int .i64 x_18)) rfl rfl ex19 ⟨rfl, rfl⟩ rfl rfl) <| s_mov (.ptr 0 (0 + k_2.toNat) 0) rfl <| s_q (.ptr 0 (0 + k_2.toNat) 0) rfl (.of trivial trivial) rfl <| s_do (o_faddrx rfl rfl) <| s_do (o_loadx rfl rfl nle rfl) <| s_q (.agg [(.int .i64 x_18), (.str [108, 111, 99, 107, 101, 100]), (.str x_5.Name)]) rfl (.of ⟨⟨rfl, nle, trivial⟩, ⟨⟨rfl, nle, trivial⟩, ⟨⟨rfl, nle, trivial⟩, trivial⟩⟩⟩ trivial) rfl <| ?_; refine s_dol (o_bslice (j := 5) (as' := [(encGTold (⟨x_18, [108, 111, 99, 107, 101, 100], x_5.Name⟩ : GTold))]) rfl (fun _ => by decide) ⟨rfl, trivial⟩ (.refl _) rfl rfl rfl) trivial trivial ?_
   obtain ⟨g20, hf⟩ := og hf
   refine s_dol (o_appendd (j := 6) (L := (([] ++ [(⟨x_18, [108, 111, 99, 107, 101, 100], x_5.Name⟩ : GTold)]).map encGTold)) (len := ([] ++ [(⟨x_18, [108, 111, 99, 107, 101, 100], x_5.Name⟩ : GTold)]).length) rfl false rfl rfl (fun _ => flo (enc := encGTold) (fun _ => rfl) [(⟨x_18, [108, 111, 99, 107, 101, 100], x_5.Name⟩ : GTold)] _) (fun _ _ h => (ownl (show AV.own _ _ _ = AV.lst _ _ from h)).elim) (by decide) ((by simp [← List.map_take])) (by simp <;> omega) g20 rfl rfl) trivial trivial ?_
   refine s_dol (o_mov (.own 6 0 (([] ++ [(⟨x_18, [108, 111, 99, 107, 101, 100], x_5.Name⟩ : GTold)]).length)) rfl) a_same trivial <| w_done <| k_seq <| awp_seq <| w_reg <| s_mov (.own 0 0 list_1.length) rfl <| s_mov (.own 6 0 (([] ++ [(⟨x_18, [108, 111, 99, 107, 101, 100], x_5.Name⟩ : GTold)]).length)) rfl <| s_mov (.own 0 0 list_1.length) rfl <| s_mov (.own 6 0 (([] ++ [(⟨x_18, [108, 111, 99, 107, 101, 100], x_5.Name⟩ : GTold)]).length)) rfl <| w_done <| k_seq <| w_cls (o := 0) (y := (⟨x_5.Name, r_10.1⟩ : GLock)) (h2 := [.rowx 2 (list_1.map encGLock) (0 + k_2.toNat) (.agg [(.str x_5.Name), (.own 4 0 r_10.1.length)]), .box 1 (.int .i64 r_10.2), .dead, .dead, .dead, .row 3 ([(⟨x_18, [108, 111, 99, 107, 101, 100], x_5.Name⟩ : GTold)].map encGTold), .row 3 (([] ++ [(⟨x_18, [108, 111, 99, 107, 101, 100], x_5.Name⟩ : GTold)]).map encGTold)]) rfl rfl rfl (.agg (.cons (.refl _) (.cons (.of_eq (congrArg (AV.lst _) (tk (enc := encI) r_10.1))) .nil))) rfl <| ?_
   refine w_ret ?_; obtain rfl := os hf; exact r_heap [.mv 0] [0, 7, 6] rfl ⟨.of trivial trivial, ⟨.of trivial trivial, trivial⟩⟩ rfl (.refl _) (.tup (.cons (.of_eq (congrArg (AV.own _ 0) (by simp))) (.cons (.refl _) .nil)))
  ·refine w_condf rfl (bf c16) <| w_skip <| k_seq <| awp_seq <| w_reg <| s_mov (.own 0 0 list_1.length) rfl <| s_mov (.own 2 0 0) rfl <| s_mov (.own 0 0 list_1.length) rfl <| s_mov (.own 2 0 0) rfl <| w_done <| k_seq <| w_cls (o := 0) (y := (⟨x_5.Name, r_10.1⟩ : GLock)) (h2 := [.rowx 2 (list_1.map encGLock) (0 + k_2.toNat) (.agg [(.str x_5.Name), (.own 4 0 r_10.1.length)]), .box 1 (.int .i64 r_10.2), .row 3 ([].map encGTold), .dead, .dead]) rfl rfl rfl (.agg (.cons (.refl _) (.cons (.of_eq (congrArg (AV.lst _) (tk (enc := encI) r_10.1))) .nil))) rfl <| w_ret <| ?_; obtain rfl := os hf; exact r_heap [.mv 0] [0, 5, 2] rfl ⟨.of trivial trivial, ⟨.of trivial trivial, trivial⟩⟩ rfl (.refl _) (.tup (.cons (.of_eq (congrArg (AV.own _ 0) (by simp))) (.cons (.refl _) .nil)))

/- impl.LeaveLock -/
def c35 : ACode :=
 (.seq (.reg (tm 6 (.c .nil) (tm 7 (.c .nil) (tm 8 (.c (.int .i64 0)) .done))))
 (.seq (.seq (.reg (tm 14 (.t 0) (tm 15 (.t 1) (tm 16 (.t 2) (tq 17 (.call 111 [(.t 14), (.t 15), (.t 16)]) (tm 9 (.t 17) .done))))))
 (.seq (.reg (tm 18 (.t 9) (tq 19 (.bin .neq (.t 18) (.c (.int .i64 0))) .done)))
 (.cond (.t 19) (.seq (.reg (tm 20 (.t 9) (tm 6 (.c .nil) (tm 7 (.c .nil) (tm 8 (.t 20) .done)))))
 .ret)
 .skip)))
 (.seq (.reg (tm 21 (.t 0) (tq 22 (.call 98 [(.t 21)]) (tm 10 (.t 22) .done))))
 (.seq (.reg (tm 24 (.t 10) (tm 25 (.t 2) (tq 26 (.call 99 [(.t 24), (.t 25)]) (tm 23 (.t 26) (tq 27 (.extract 0 (.t 23)) (tq 28 (.extract 1 (.t 23)) (tm 11 (.t 27) (tm 12 (.t 28) .done)))))))))
 (.seq (.seq (.rev (.reg (tm 29 (.t 12) (tq 30 (.not (.t 29)) (tm 31 (.t 30) (tg 32 31 false (.mov (.t 10)) (tg 33 31 false (.mov (.t 11)) (tg 34 31 false (.iaddr 2 (.t 32) (.t 33)) (tg 35 31 false (.faddr 1 (.t 34)) (tg 36 31 false (.load 1 false (.t 35)) (tg 37 31 false (.mov (.t 1)) (tg 38 31 false (.call 100 [(.t 36), (.t 37)]) (tg 39 31 false (.not (.t 38)) (tq 40 (.pick (.t 31) (.c (.bool true)) (.t 39)) .done))))))))))))))
 (.cut (.cond (.t 40) (.seq (.reg (tm 41 (.t 10) (tm 6 (.t 41) (tm 7 (.c .nil) (tm 8 (.c (.int .i64 5)) .done)))))
 .ret)
 .skip)))
 (.seq (.reg (tm 43 (.t 10) (tm 44 (.t 11) (tm 45 (.t 1) (tq 46 (.call 101 [(.t 43), (.t 44), (.t 45)]) (tm 42 (.t 46) (tq 47 (.extract 0 (.t 42)) (tq 48 (.extract 1 (.t 42)) (tm 10 (.t 47) (tm 13 (.t 48) .done))))))))))
 (.seq (.reg (tm 49 (.t 10) (tm 50 (.t 13) (tm 6 (.t 49) (tm 7 (.t 50) (tm 8 (.c (.int .i64 0)) .done))))))
 .ret)))))))
theorem fc35 : fcomp Try.prog Try.f35 = some (c35.erase, [.mov (.t 6), .mov (.t 7), .mov (.t 8)], 51) := by kernel_rfl
def impl_LeaveLock (list_1 : (List GLock)) (session_2 : Int) (name_3 : Str) : Option ((List GLock) × (List GTold) × Int) :=
    (impl_locksCode list_1 session_2 name_3).bind fun r_4 =>
    if (r_4 != 0) then
    some ([], [], r_4)
    else
    (impl_copyLocks list_1).bind fun r_7 =>
    (impl_lockAt_h0 r_7 name_3).bind fun r_9 =>
    ((onIdx (r_7[(0 + r_9.1.toNat)]?) (fun x_25 =>
    if (!r_9.2) then
    some true
    else
    if (0 : Int) ≤ r_9.1 ∧ r_9.1 < (r_7.length : Int) then
    (slices_Contains_int_int_h0 x_25.Queue session_2).bind fun r_29 =>
    some (!r_29)
    else none) (
    if (!r_9.2) then
    some true
    else
    if (0 : Int) ≤ r_9.1 ∧ r_9.1 < (r_7.length : Int) then
    none
    else none) : Option Bool)).bind fun s40_21 =>
    if s40_21 then
    some (r_7, [], 5)
    else
    (impl_leave_h2 r_7 r_9.1 session_2).bind fun r_34 =>
    some (r_34.1, r_34.2, 0)
theorem w_impl_LeaveLock (list_1 : (List GLock)) (session_2 : Int) (name_3 : Str) (r : ((List GLock) × (List GTold) × Int)) (hf : impl_LeaveLock list_1 session_2 name_3 = some r) : CallOK Try.prog 35 .fresh [(.lst 2 (list_1.map encGLock)), (.int .i64 session_2), (.str name_3)] (.tup [(.lst 2 (r.1.map encGLock)), (.lst 3 (r.2.1.map encGTold)), (.int .i64 r.2.2)]) := by
 refine CallOK.of_awp' (md := ⟨true, true⟩) (fun _ => rfl) (fun _ => rfl) (fun h => by cases h) mixed Try.func35 fc35 nle ?_; rw [argT_eq]; unfold impl_LeaveLock at hf; unfold c35; refine (show awp Try.prog ⟨true, true⟩ 0 _ (ofL [(0, (.lst 2 (list_1.map encGLock))), (1, (.int .i64 session_2)), (2, (.str name_3))]) [] _ from ?_); refine awp_seq <| w_reg <| s_mov .nil rfl <| s_mov .nil rfl <| s_mov (.int .i64 0) rfl <| w_done <| k_seq <| awp_seq <| awp_seq <| w_reg <| ?_
 obtain ⟨r_4, er5, hf⟩ := ob hf
 refine s_mov (.lst 2 (list_1.map encGLock)) rfl <| s_mov (.int .i64 session_2) rfl <| s_mov (.str name_3) rfl <| s_do (o_call (w_impl_locksCode _ _ _ _ er5) rfl (.refl _) rfl) <| s_mov (.int .i64 r_4) rfl <| w_done <| k_seq <| awp_seq <| w_reg <| s_mov (.int .i64 r_4) rfl <| s_q (.bool (r_4 != 0)) rfl (.of rfl trivial) rfl <| w_done <| k_seq <| ?_
 rcases oi hf with ⟨c6, hf⟩ | ⟨c6, hf⟩
 ·refine w_condt rfl c6 <| awp_seq <| w_reg <| s_mov (.int .i64 r_4) rfl <| s_mov .nil rfl <| s_mov .nil rfl <| s_mov (.int .i64 r_4) rfl <| w_done <| k_seq <| w_ret <| ?_; obtain rfl := os hf; exact r_fresh ⟨.of trivial trivial, ⟨.of trivial trivial, ⟨.of trivial trivial, trivial⟩⟩⟩ rfl (by decide) (.tup (.cons (.nil _) (.cons (.nil _) (.cons (.refl _) .nil))))
 ·refine w_condf rfl (bf c6) <| w_skip <| k_seq <| awp_seq <| w_reg <| ?_
  obtain ⟨r_7, er8, hf⟩ := ob hf
  refine s_mov (.lst 2 (list_1.map encGLock)) rfl <| s_do (o_callf (v := (.own 0 0 r_7.length)) (h' := [.row 2 (r_7.map encGLock)]) (w_impl_copyLocks _ _ er8) rfl (.refl _) (by simp only [openV, openVs, List.length_map, List.nil_append, List.append_nil, List.cons_append]; rfl)) <| s_mov (.own 0 0 r_7.length) rfl <| w_done <| k_seq <| awp_seq <| w_reg <| ?_
  obtain ⟨r_9, er10, hf⟩ := ob hf
  refine s_mov (.own 0 0 r_7.length) rfl <| s_mov (.str name_3) rfl <| ?_; refine s_do (o_callh (v := (.tup [(.int .i64 r_9.1), (.bool r_9.2)])) (h2 := [.row 2 (r_7.map encGLock)]) [] [0] (fun _ => rfl) (w_impl_lockAt_h0 _ _ _ er10) rfl (.refl _) (.refl _) rfl rfl) ?_; refine s_mov (.tup [(.int .i64 r_9.1), (.bool r_9.2)]) rfl <| s_q (.int .i64 r_9.1) rfl (.of nle trivial) rfl <| s_q (.bool r_9.2) rfl (.of nle trivial) rfl <| s_mov (.int .i64 r_9.1) rfl <| s_mov (.bool r_9.2) rfl <| w_done <| k_seq <| awp_seq <| awp_seq <| ?_
  obtain ⟨s40_21, hb1, hf⟩ := ob hf
  refine awp_cut ([(1, (.int .i64 session_2)), (10, (.own 0 0 r_7.length)), (11, (.int .i64 r_9.1)), (40, (.bool s40_21))], [.row 2 (r_7.map encGLock)]) ?_ ?_
  ·rcases oo hb1 with ⟨x_25, ex26, hb1⟩ | ⟨ex26, hb1⟩
   ·refine w_opn (o := 0) (i := (0 + r_9.1.toNat)) (el := (.agg [(.str x_25.Name), (.lst 1 (x_25.Queue.map encI))])) (el2 := (.agg [(.str x_25.Name), (.own 1 0 x_25.Queue.length)])) (xs := [.row 1 (x_25.Queue.map encI)]) rfl rfl rfl ex26 rfl (by simp only [AV.cells, openVs, openV, List.length_map, List.nil_append, List.append_nil, List.cons_append]; rfl) <| w_reg <| ?_
    rcases oi hb1 with ⟨c27, hb1⟩ | ⟨c27, hb1⟩
    ·refine s_mov (.bool r_9.2) rfl <| s_q (.bool (!r_9.2)) rfl (.of trivial trivial) rfl <| s_mov (.bool (!r_9.2)) rfl <| s_lit (s := 31) (b := true) rfl c27 <| s_off rfl rfl <| s_off rfl rfl <| s_off rfl rfl <| s_off rfl rfl <| s_off rfl rfl <| s_off rfl rfl <| s_off rfl rfl <| s_off rfl rfl <| s_q (.bool true) rfl (.of trivial trivial) rfl <| w_done <| ?_; obtain rfl := os hb1; exact ⟨[.cls 0], [0], _, _, rfl, rfl, ⟨.refl _, ⟨.refl _, ⟨.refl _, ⟨.refl _, trivial⟩⟩⟩⟩, (.cons ((leo_cls0 ex26 (.agg (.cons (.refl _) (.cons (.of_eq (congrArg (AV.lst _) (tk (enc := encI) x_25.Queue))) .nil))))) .nil)⟩
    ·obtain ⟨g28, hb1⟩ := og hb1
     obtain ⟨r_29, er30, hb1⟩ := ob hb1
     refine s_mov (.bool r_9.2) rfl <| s_q (.bool (!r_9.2)) rfl (.of trivial trivial) rfl <| s_mov (.bool (!r_9.2)) rfl <| s_lit (s := 31) (b := false) rfl (bf c27) <| s_on rfl <| s_mov (.own 0 0 r_7.length) rfl <| s_on rfl <| s_mov (.int .i64 r_9.1) rfl <| s_on rfl <| s_do (o_iaddrx rfl rfl g28.1 g28.2 rfl rfl) <| s_on rfl <| s_do (o_faddrx rfl rfl) <| s_on rfl <| s_do (o_loadx rfl rfl nle rfl) <| s_on rfl <| s_mov (.int .i64 session_2) rfl <| s_on rfl <| ?_; refine s_do (o_callh (v := (.bool r_29)) (h2 := [.rowx 2 (r_7.map encGLock) (0 + r_9.1.toNat) (.agg [(.str x_25.Name), (.own 1 0 x_25.Queue.length)]), .row 1 (x_25.Queue.map encI)]) [] [1] (fun _ => rfl) (w_slices_Contains_int_int_h0 _ _ _ er30) rfl (.refl _) (.refl _) rfl rfl) ?_
     refine s_on rfl <| s_q (.bool (!r_29)) rfl (.of trivial trivial) rfl <| s_q (.bool (!r_29)) rfl (.of trivial trivial) rfl <| w_done <| ?_; obtain rfl := os hb1; exact ⟨[.cls 0], [0], _, _, rfl, rfl, ⟨.refl _, ⟨.refl _, ⟨.refl _, ⟨.refl _, trivial⟩⟩⟩⟩, (.cons ((leo_cls0 ex26 (.agg (.cons (.refl _) (.cons (.of_eq (congrArg (AV.lst _) (tk (enc := encI) x_25.Queue))) .nil))))) .nil)⟩
   ·refine w_rev0 <| w_reg <| ?_
    rcases oi hb1 with ⟨c31, hb1⟩ | ⟨c31, hb1⟩
    ·refine s_mov (.bool r_9.2) rfl <| s_q (.bool (!r_9.2)) rfl (.of trivial trivial) rfl <| s_mov (.bool (!r_9.2)) rfl <| s_lit (s := 31) (b := true) rfl c31 <| s_off rfl rfl <| s_off rfl rfl <| s_off rfl rfl <| s_off rfl rfl <| s_off rfl rfl <| s_off rfl rfl <| s_off rfl rfl <| s_off rfl rfl <| s_q (.bool true) rfl (.of trivial trivial) rfl <| w_done <| ?_; obtain rfl := os hb1; exact ⟨[], [0], _, _, rfl, rfl, ⟨.refl _, ⟨.refl _, ⟨.refl _, ⟨.refl _, trivial⟩⟩⟩⟩, (.refl _)⟩
    ·obtain ⟨g32, hb1⟩ := og hb1
     cases hb1
  ·rcases oi hf with ⟨c33, hf⟩ | ⟨c33, hf⟩
   ·refine w_condt rfl c33 <| awp_seq <| w_reg <| s_mov (.own 0 0 r_7.length) rfl <| s_mov (.own 0 0 r_7.length) rfl <| s_mov .nil rfl <| s_mov (.int .i64 5) rfl <| w_done <| k_seq <| w_ret <| ?_; obtain rfl := os hf; exact r_fresh ⟨.of trivial trivial, ⟨.of trivial trivial, ⟨.of trivial trivial, trivial⟩⟩⟩ rfl (by decide) (.tup (.cons (.of_eq (congrArg (AV.lst _) (tk (enc := encGLock) r_7))) (.cons (.nil _) (.cons (.refl _) .nil))))
   ·refine w_condf rfl (bf c33) <| w_skip <| k_seq <| awp_seq <| w_reg <| ?_
    obtain ⟨r_34, er35, hf⟩ := ob hf
    refine s_mov (.own 0 0 r_7.length) rfl <| s_mov (.int .i64 r_9.1) rfl <| s_mov (.int .i64 session_2) rfl <| ?_; refine s_do (o_callh (v := (.tup [(.own 1 0 r_34.1.length), (.own 2 0 r_34.2.length)])) (h2 := [.dead, .row 2 (r_34.1.map encGLock), .row 3 (r_34.2.map encGTold)]) [] [0] (fun _ => rfl) (w_impl_leave_h2 _ _ _ _ er35) rfl (.refl _) (.refl _) rfl rfl) ?_; refine s_mov (.tup [(.own 1 0 r_34.1.length), (.own 2 0 r_34.2.length)]) rfl <| s_q (.own 1 0 r_34.1.length) rfl (.of nle trivial) rfl <| s_q (.own 2 0 r_34.2.length) rfl (.of nle trivial) rfl <| s_mov (.own 1 0 r_34.1.length) rfl <| s_mov (.own 2 0 r_34.2.length) rfl <| w_done <| k_seq <| awp_seq <| w_reg <| s_mov (.own 1 0 r_34.1.length) rfl <| s_mov (.own 2 0 r_34.2.length) rfl <| ?_
    refine s_mov (.own 1 0 r_34.1.length) rfl <| s_mov (.own 2 0 r_34.2.length) rfl <| s_mov (.int .i64 0) rfl <| w_done <| k_seq <| w_ret <| ?_; obtain rfl := os hf; exact r_fresh ⟨.of trivial trivial, ⟨.of trivial trivial, ⟨.of trivial trivial, trivial⟩⟩⟩ rfl (by decide) (.tup (.cons (.of_eq (congrArg (AV.lst _) (tk (enc := encGLock) r_34.1))) (.cons (.of_eq (congrArg (AV.lst _) (tk (enc := encGTold) r_34.2))) (.cons (.refl _) .nil))))

/- spec.LeaveLock -/
def c33 : ACode :=
 (.seq (.reg (tm 6 (.c .nil) (tm 7 (.c .nil) (tm 8 (.c (.int .i64 0)) .done))))
 (.seq (.seq (.reg (tm 10 (.t 0) (tq 11 (.len (.t 10)) (tq 12 (.bin .gtr (.t 11) (.c (.int .i64 4096))) (tm 13 (.t 12) (tg 14 13 false (.mov (.t 2)) (tg 15 13 false (.lenS (.t 14)) (tg 16 13 false (.bin .gtr (.t 15) (.c (.int .i64 65536))) (tq 17 (.pick (.t 13) (.c (.bool true)) (.t 16)) .done)))))))))
 (.cut (.cond (.t 17) (.seq (.reg (tq 18 (.bslice 2 []) (tq 19 (.bslice 3 []) (tm 6 (.t 18) (tm 7 (.t 19) (tm 8 (.c (.int .i64 2)) .done))))))
 .ret)
 .skip)))
 (.seq (.seq (.reg (tm 20 (.t 0) (tm 21 (.t 1) (tm 22 (.t 2) (tq 23 (.call 102 [(.t 20), (.t 21), (.t 22)]) (tm 9 (.t 23) .done))))))
 (.seq (.reg (tm 24 (.t 9) (tq 25 (.bin .neq (.t 24) (.c (.int .i64 0))) .done)))
 (.cond (.t 25) (.seq (.reg (tq 26 (.bslice 2 []) (tq 27 (.bslice 3 []) (tm 28 (.t 9) (tm 6 (.t 26) (tm 7 (.t 27) (tm 8 (.t 28) .done)))))))
 .ret)
 .skip)))
 (.seq (.reg (tm 29 (.t 0) (tm 30 (.t 1) (tm 31 (.t 2) (tq 32 (.call 109 [(.t 29), (.t 30), (.t 31)]) (tq 33 (.extract 0 (.t 32)) (tq 34 (.extract 1 (.t 32)) (tq 35 (.extract 2 (.t 32)) (tm 6 (.t 33) (tm 7 (.t 34) (tm 8 (.t 35) .done)))))))))))
 .ret))))
theorem fc33 : fcomp Try.prog Try.f33 = some (c33.erase, [.mov (.t 6), .mov (.t 7), .mov (.t 8)], 36) := by kernel_rfl
def spec_LeaveLock (list_1 : (List GLock)) (session_2 : Int) (name_3 : Str) : Option ((List GLock) × (List GTold) × Int) :=
    ((if (decide ((list_1.length : Int) > 4096)) then
    some true
    else
    some (decide ((name_3.length : Int) > 65536)) : Option Bool)).bind fun s17_7 =>
    if s17_7 then
    some ([], [], 2)
    else
    (spec_l12Ask list_1 session_2 name_3).bind fun r_13 =>
    if (r_13 != 0) then
    some ([], [], r_13)
    else
    (spec_l12Leave list_1 session_2 name_3).bind fun r_16 =>
    some (r_16.1, r_16.2.1, r_16.2.2)
theorem w_spec_LeaveLock (list_1 : (List GLock)) (session_2 : Int) (name_3 : Str) (r : ((List GLock) × (List GTold) × Int)) (hf : spec_LeaveLock list_1 session_2 name_3 = some r) : CallOK Try.prog 33 .fresh [(.lst 2 (list_1.map encGLock)), (.int .i64 session_2), (.str name_3)] (.tup [(.lst 2 (r.1.map encGLock)), (.lst 3 (r.2.1.map encGTold)), (.int .i64 r.2.2)]) := by
 refine CallOK.of_awp mixed Try.func33 fc33 nle ?_; rw [argT_eq]; unfold spec_LeaveLock at hf; unfold c33; refine (show awp Try.prog true 0 _ (ofL [(0, (.lst 2 (list_1.map encGLock))), (1, (.int .i64 session_2)), (2, (.str name_3))]) [] _ from ?_); refine awp_seq <| w_reg <| s_mov .nil rfl <| s_mov .nil rfl <| s_mov (.int .i64 0) rfl <| w_done <| k_seq <| awp_seq <| awp_seq <| ?_
 obtain ⟨s17_7, hb1, hf⟩ := ob hf
 refine awp_cut ([(0, (.lst 2 (list_1.map encGLock))), (1, (.int .i64 session_2)), (2, (.str name_3)), (17, (.bool s17_7))], []) ?_ ?_
 ·refine w_reg ?_
  rcases oi hb1 with ⟨c10, hb1⟩ | ⟨c10, hb1⟩
  ·refine s_mov (.lst 2 (list_1.map encGLock)) rfl <| s_dof (o_len (enc := encGLock) rfl) fun hl9 => s_q (.bool (decide ((list_1.length : Int) > 4096))) rfl rfl rfl <| s_mov (.bool (decide ((list_1.length : Int) > 4096))) rfl <| s_lit (s := 13) (b := true) rfl c10 <| s_off rfl rfl <| s_off rfl rfl <| s_off rfl rfl <| s_q (.bool true) rfl trivial rfl <| w_done <| ?_; obtain rfl := os hb1; exact ⟨[], [], _, _, rfl, rfl, ⟨.refl _, ⟨.refl _, ⟨.refl _, ⟨.refl _, trivial⟩⟩⟩⟩, (.refl _)⟩
  ·refine s_mov (.lst 2 (list_1.map encGLock)) rfl <| s_dof (o_len (enc := encGLock) rfl) fun hl9 => s_q (.bool (decide ((list_1.length : Int) > 4096))) rfl rfl rfl <| s_mov (.bool (decide ((list_1.length : Int) > 4096))) rfl <| s_lit (s := 13) (b := false) rfl (bf c10) <| s_on rfl <| s_mov (.str name_3) rfl <| s_on rfl <| s_dof (o_lenS rfl) fun hl11 => s_on rfl <| s_q (.bool (decide ((name_3.length : Int) > 65536))) rfl rfl rfl <| s_q (.bool (decide ((name_3.length : Int) > 65536))) rfl trivial rfl <| w_done <| ?_; obtain rfl := os hb1; exact ⟨[], [], _, _, rfl, rfl, ⟨.refl _, ⟨.refl _, ⟨.refl _, ⟨.refl _, trivial⟩⟩⟩⟩, (.refl _)⟩
 ·rcases oi hf with ⟨c12, hf⟩ | ⟨c12, hf⟩
  ·refine w_condt rfl c12 <| awp_seq <| w_reg <| ?_; refine s_do (o_bslice (j := 0) (as' := []) rfl (fun _ => by decide) trivial (.refl _) rfl rfl rfl) ?_; refine s_do (o_bslice (j := 1) (as' := []) rfl (fun _ => by decide) trivial (.refl _) rfl rfl rfl) ?_; refine s_mov (.own 0 0 0) rfl <| s_mov (.own 1 0 0) rfl <| s_mov (.int .i64 2) rfl <| w_done <| k_seq <| w_ret <| ?_; obtain rfl := os hf; exact r_fresh ⟨trivial, ⟨trivial, ⟨trivial, trivial⟩⟩⟩ rfl (by decide) (.refl _)
  ·refine w_condf rfl (bf c12) <| w_skip <| k_seq <| awp_seq <| awp_seq <| w_reg <| ?_
   obtain ⟨r_13, er14, hf⟩ := ob hf
   refine s_mov (.lst 2 (list_1.map encGLock)) rfl <| s_mov (.int .i64 session_2) rfl <| s_mov (.str name_3) rfl <| s_do (o_call (w_spec_l12Ask _ _ _ _ er14) rfl (.refl _) rfl) <| s_mov (.int .i64 r_13) rfl <| w_done <| k_seq <| awp_seq <| w_reg <| s_mov (.int .i64 r_13) rfl <| s_q (.bool (r_13 != 0)) rfl rfl rfl <| w_done <| k_seq <| ?_
   rcases oi hf with ⟨c15, hf⟩ | ⟨c15, hf⟩
   ·refine w_condt rfl c15 <| awp_seq <| w_reg <| ?_; refine s_do (o_bslice (j := 0) (as' := []) rfl (fun _ => by decide) trivial (.refl _) rfl rfl rfl) ?_; refine s_do (o_bslice (j := 1) (as' := []) rfl (fun _ => by decide) trivial (.refl _) rfl rfl rfl) ?_; refine s_mov (.int .i64 r_13) rfl <| s_mov (.own 0 0 0) rfl <| s_mov (.own 1 0 0) rfl <| s_mov (.int .i64 r_13) rfl <| w_done <| k_seq <| w_ret <| ?_; obtain rfl := os hf; exact r_fresh ⟨trivial, ⟨trivial, ⟨trivial, trivial⟩⟩⟩ rfl (by decide) (.refl _)
   ·refine w_condf rfl (bf c15) <| w_skip <| k_seq <| awp_seq <| w_reg <| ?_
    obtain ⟨r_16, er17, hf⟩ := ob hf
    refine s_mov (.lst 2 (list_1.map encGLock)) rfl <| s_mov (.int .i64 session_2) rfl <| s_mov (.str name_3) rfl <| s_do (o_callf (v := (.tup [(.own 0 0 r_16.1.length), (.own 1 0 r_16.2.1.length), (.int .i64 r_16.2.2)])) (h' := [.row 2 (r_16.1.map encGLock), .row 3 (r_16.2.1.map encGTold)]) (w_spec_l12Leave _ _ _ _ er17) rfl (.refl _) (by simp only [openV, openVs, List.length_map, List.nil_append, List.append_nil, List.cons_append]; rfl)) <| s_q (.own 0 0 r_16.1.length) rfl nle rfl <| s_q (.own 1 0 r_16.2.1.length) rfl nle rfl <| s_q (.int .i64 r_16.2.2) rfl nle rfl <| s_mov (.own 0 0 r_16.1.length) rfl <| s_mov (.own 1 0 r_16.2.1.length) rfl <| s_mov (.int .i64 r_16.2.2) rfl <| w_done <| k_seq <| w_ret <| ?_
    obtain rfl := os hf; exact r_fresh ⟨trivial, ⟨trivial, ⟨trivial, trivial⟩⟩⟩ rfl (by decide) (.tup (.cons (.of_eq (congrArg (AV.lst _) (tk (enc := encGLock) r_16.1))) (.cons (.of_eq (congrArg (AV.lst _) (tk (enc := encGTold) r_16.2.1))) (.cons (.refl _) .nil))))

/- laws.sameInts -/
def c104 : ACode :=
 (.seq (.reg (tm 4 (.c (.bool false)) .done))
 (.seq (.seq (.reg (tm 6 (.t 0) (tq 7 (.len (.t 6)) (tm 8 (.t 1) (tq 9 (.len (.t 8)) (tq 10 (.bin .neq (.t 7) (.t 9)) .done))))))
 (.cond (.t 10) (.seq (.reg (tm 4 (.c (.bool false)) .done))
 .ret)
 .skip))
 (.seq (.seq (.reg (tm 5 (.c (.int .i64 0)) .done))
 (.block 0 (.loop (.seq (.seq (.reg (tm 11 (.t 5) (tm 12 (.t 0) (tq 13 (.len (.t 12)) (tq 14 (.bin .lss (.t 11) (.t 13)) .done)))))
 (.cond (.t 14) .skip
 (.exit 0)))
 (.seq (.block 1 (.seq (.reg (tm 17 (.t 0) (tm 18 (.t 5) (tq 19 (.iaddr 1 (.t 17) (.t 18)) (tq 20 (.load 1 false (.t 19)) (tm 21 (.t 1) (tm 22 (.t 5) (tq 23 (.iaddr 1 (.t 21) (.t 22)) (tq 24 (.load 1 false (.t 23)) (tq 25 (.bin .neq (.t 20) (.t 24)) .done))))))))))
 (.cond (.t 25) (.seq (.reg (tm 4 (.c (.bool false)) .done))
 .ret)
 .skip)))
 (.reg (tm 15 (.t 5) (tq 16 (.bin .add (.t 15) (.c (.int .i64 1))) (tm 5 (.t 16) .done)))))))))
 (.cut (.seq (.reg (tm 4 (.c (.bool true)) .done))
 .ret)))))
theorem fc104 : fcomp Try.prog Try.f104 = some (c104.erase, [.mov (.t 4)], 26) := by kernel_rfl
def laws_sameInts_L1 (b_2 : (List Int)) : List Int → Nat → Option (Fl Bool Unit)
  | [], i_21 =>
    some (.go ())
  | x_37 :: xs, i_21 =>
    (idx b_2 (i_21 : Int)).bind fun x_40 =>
    if (x_37 != x_40) then
    some (.ret false)
    else
    laws_sameInts_L1 b_2 xs (i_21 + 1)

def laws_sameInts (a_1 : (List Int)) (b_2 : (List Int)) : Option Bool :=
    if ((a_1.length : Int) != (b_2.length : Int)) then
    some false
    else
    (laws_sameInts_L1 b_2 a_1 0).bind fun q => (match q with
    | .ret r => some r
    | .go _ =>
    some true)
theorem w_laws_sameInts (a_1 : (List Int)) (b_2 : (List Int)) (r : Bool) (hf : laws_sameInts a_1 b_2 = some r) : CallOK Try.prog 104 .flat [(.lst 1 (a_1.map encI)), (.lst 1 (b_2.map encI))] (.bool r) := by
 refine CallOK.of_awp mixed Try.func104 fc104 nle ?_; rw [argT_eq]; unfold laws_sameInts at hf; unfold c104; refine (show awp Try.prog false 0 _ (ofL [(0, (.lst 1 (a_1.map encI))), (1, (.lst 1 (b_2.map encI)))]) [] _ from ?_); refine awp_seq <| w_reg <| s_mov (.bool false) rfl <| w_done <| k_seq <| awp_seq <| awp_seq <| w_reg <| s_mov (.lst 1 (a_1.map encI)) rfl <| s_dof (o_len (enc := encI) rfl) fun hl3 => s_mov (.lst 1 (b_2.map encI)) rfl <| s_dof (o_len (enc := encI) rfl) fun hl4 => s_q (.bool ((a_1.length : Int) != (b_2.length : Int))) rfl rfl rfl <| w_done <| k_seq <| ?_
 rcases oi hf with ⟨c5, hf⟩ | ⟨c5, hf⟩
 ·refine w_condt rfl c5 <| awp_seq <| w_reg <| s_mov (.bool false) rfl <| w_done <| k_seq <| w_ret <| ?_; obtain rfl := os hf; exact r_flat ⟨trivial, trivial⟩ rfl (.refl _)
 ·refine w_condf rfl (bf c5) <| w_skip <| k_seq <| awp_seq <| awp_seq <| w_reg <| s_mov (.int .i64 0) rfl <| w_done <| k_seq <| ?_
  obtain ⟨p30, hb1, hf⟩ := ob hf
  refine awp_cutx (X := {q : Unit // p30 = .go q}) (fun q => ([], [])) ?_ ?_
  ·refine awp_loop (X := {q : Nat // laws_sameInts_L1 b_2 (a_1.drop q) q = some p30}) (fun q => ([(0, (.lst 1 (a_1.map encI))), (1, (.lst 1 (b_2.map encI))), (5, (.int .i64 (q.1 : Int)))], [])) (fun q => a_1.length - q.1) ⟨0, hb1⟩ ⟨[], [], _, _, rfl, rfl, ⟨.refl _, ⟨.refl _, ⟨.refl _, trivial⟩⟩⟩, (.refl _)⟩ ?_
   rintro ⟨i_21, hc1⟩
   have hc1 : laws_sameInts_L1 b_2 (a_1.drop i_21) i_21 = some p30 := hc1
   refine (show awp Try.prog false 0 _ (ofL [(0, (.lst 1 (a_1.map encI))), (1, (.lst 1 (b_2.map encI))), (5, (.int .i64 (i_21 : Int)))]) [] _ from ?_)
   rcases dropc a_1 i_21 with ⟨hie33, hd36⟩ | ⟨hlt31, x_37, hx32, hd36⟩
   ·rw [hd36, laws_sameInts_L1.eq_1] at hc1
    have hq35 := dlf hie33
    refine awp_seq <| awp_seq <| w_reg <| s_mov (.int .i64 (i_21 : Int)) rfl <| s_mov (.lst 1 (a_1.map encI)) rfl <| s_dof (o_len (enc := encI) rfl) fun hl38 => s_q (.bool (decide ((i_21 : Int) < (a_1.length : Int)))) rfl rfl rfl <| w_done <| k_seq <| w_condf rfl hq35 <| w_exit <| k_seqx <| k_loopx <| k_blkx <| ?_; obtain rfl := os hc1; exact k_cutn ⟨_, rfl⟩ ⟨[], [], _, _, rfl, rfl, trivial, (.refl _)⟩
   ·rw [hd36, laws_sameInts_L1.eq_2] at hc1
    have hq35 := dlt hlt31
    refine awp_seq <| awp_seq <| w_reg <| s_mov (.int .i64 (i_21 : Int)) rfl <| s_mov (.lst 1 (a_1.map encI)) rfl <| s_dof (o_len (enc := encI) rfl) fun hl39 => s_q (.bool (decide ((i_21 : Int) < (a_1.length : Int)))) rfl rfl rfl <| w_done <| k_seq <| w_condt rfl hq35 <| w_skip <| k_seq <| awp_seq <| w_blk <| awp_seq <| w_reg <| ?_
    obtain ⟨x_40, ex41, hc1⟩ := ob hc1
    refine s_mov (.lst 1 (a_1.map encI)) rfl <| s_mov (.int .i64 (i_21 : Int)) rfl <| s_do (o_iaddrn (enc := encI) rfl rfl hx32) <| s_q (.int .i64 x_37) rfl ⟨rfl, rfl⟩ rfl <| s_mov (.lst 1 (b_2.map encI)) rfl <| s_mov (.int .i64 (i_21 : Int)) rfl <| s_do (o_iaddr (enc := encI) rfl rfl (idx0 ex41) (idx1 ex41)) <| s_q (.int .i64 x_40) rfl ⟨rfl, rfl⟩ rfl <| s_q (.bool (x_37 != x_40)) rfl rfl rfl <| w_done <| k_seq <| ?_
    rcases oi hc1 with ⟨c42, hc1⟩ | ⟨c42, hc1⟩
    ·refine w_condt rfl c42 <| awp_seq <| w_reg <| s_mov (.bool false) rfl <| w_done <| k_seq <| w_ret <| ?_; obtain rfl := os hc1; obtain rfl := os hf; exact r_flat ⟨trivial, trivial⟩ rfl (.refl _)
    ·refine w_condf rfl (bf c42) <| w_skip <| k_blk <| k_seq <| w_reg <| s_mov (.int .i64 (i_21 : Int)) rfl <| s_q (.int .i64 (w64 ((i_21 : Int) + 1))) rfl rfl rfl <| s_mov (.int .i64 (w64 ((i_21 : Int) + 1))) rfl <| w_done <| ?_; exact k_loopn ⟨(i_21 + 1), hc1⟩ (mul hlt31) ⟨[], [], _, _, rfl, rfl, ⟨.refl _, ⟨.refl _, ⟨.of_eq (congrArg (AV.int _) (w64_incr hlt31 hl39)), trivial⟩⟩⟩, (.refl _)⟩
  ·rintro ⟨_, rfl⟩
   refine awp_seq <| w_reg <| s_mov (.bool true) rfl <| w_done <| k_seq <| w_ret <| ?_; obtain rfl := os hf; exact r_flat ⟨trivial, trivial⟩ rfl (.refl _)

/- laws.sameLocks -/
def c29 : ACode :=
 (.seq (.reg (tm 4 (.c (.bool false)) .done))
 (.seq (.seq (.reg (tm 6 (.t 0) (tq 7 (.len (.t 6)) (tm 8 (.t 1) (tq 9 (.len (.t 8)) (tq 10 (.bin .neq (.t 7) (.t 9)) .done))))))
 (.cond (.t 10) (.seq (.reg (tm 4 (.c (.bool false)) .done))
 .ret)
 .skip))
 (.seq (.seq (.reg (tm 5 (.c (.int .i64 0)) .done))
 (.block 0 (.loop (.seq (.seq (.reg (tm 11 (.t 5) (tm 12 (.t 0) (tq 13 (.len (.t 12)) (tq 14 (.bin .lss (.t 11) (.t 13)) .done)))))
 (.cond (.t 14) .skip
 (.exit 0)))
 (.seq (.block 1 (.seq (.reg (tm 17 (.t 0) (tm 18 (.t 5) (tq 19 (.iaddr 2 (.t 17) (.t 18)) (tq 20 (.faddr 0 (.t 19)) (tq 21 (.load 1 false (.t 20)) (tm 22 (.t 1) (tm 23 (.t 5) (tq 24 (.iaddr 2 (.t 22) (.t 23)) (tq 25 (.faddr 0 (.t 24)) (tq 26 (.load 1 false (.t 25)) (tq 27 (.bin .neq (.t 21) (.t 26)) (tm 28 (.t 27) (tg 29 28 false (.mov (.t 0)) (tg 30 28 false (.mov (.t 5)) (tg 31 28 false (.iaddr 2 (.t 29) (.t 30)) (tg 32 28 false (.faddr 1 (.t 31)) (tg 33 28 false (.load 1 false (.t 32)) (tg 34 28 false (.mov (.t 1)) (tg 35 28 false (.mov (.t 5)) (tg 36 28 false (.iaddr 2 (.t 34) (.t 35)) (tg 37 28 false (.faddr 1 (.t 36)) (tg 38 28 false (.load 1 false (.t 37)) (.l ⟨(some 39), (some (28, false)), .call 104 [(.t 33), (.t 38)]⟩ []
 (tg 40 28 false (.not (.t 39)) (tq 41 (.pick (.t 28) (.c (.bool true)) (.t 40)) .done)) .non))))))))))))))))))))))))
 (.cut (.cond (.t 41) (.seq (.reg (tm 4 (.c (.bool false)) .done))
 .ret)
 .skip))))
 (.reg (tm 15 (.t 5) (tq 16 (.bin .add (.t 15) (.c (.int .i64 1))) (tm 5 (.t 16) .done)))))))))
 (.cut (.seq (.reg (tm 4 (.c (.bool true)) .done))
 .ret)))))
theorem fc29 : fcomp Try.prog Try.f29 = some (c29.erase, [.mov (.t 4)], 42) := by kernel_rfl
def laws_sameLocks_L1 (b_2 : (List GLock)) : List GLock → Nat → Option (Fl Bool Unit)
  | [], i_61 =>
    some (.go ())
  | x_97 :: xs, i_61 =>
    (((idx b_2 (i_61 : Int)).bind fun x_109 =>
    if (!(x_97.Name == x_109.Name)) then
    some true
    else
    (idx b_2 (i_61 : Int)).bind fun x_112 =>
    (laws_sameInts x_97.Queue x_112.Queue).bind fun r_114 =>
    some (!r_114) : Option Bool)).bind fun s41_107 =>
    if s41_107 then
    some (.ret false)
    else
    laws_sameLocks_L1 b_2 xs (i_61 + 1)

def laws_sameLocks (a_1 : (List GLock)) (b_2 : (List GLock)) : Option Bool :=
    if ((a_1.length : Int) != (b_2.length : Int)) then
    some false
    else
    (laws_sameLocks_L1 b_2 a_1 0).bind fun q => (match q with
    | .ret r => some r
    | .go _ =>
    some true)
theorem w_laws_sameLocks (a_1 : (List GLock)) (b_2 : (List GLock)) (r : Bool) (hf : laws_sameLocks a_1 b_2 = some r) : CallOK Try.prog 29 .flat [(.lst 2 (a_1.map encGLock)), (.lst 2 (b_2.map encGLock))] (.bool r) := by
 refine CallOK.of_awp mixed Try.func29 fc29 nle ?_; rw [argT_eq]; unfold laws_sameLocks at hf; unfold c29; refine (show awp Try.prog false 0 _ (ofL [(0, (.lst 2 (a_1.map encGLock))), (1, (.lst 2 (b_2.map encGLock)))]) [] _ from ?_); refine awp_seq <| w_reg <| s_mov (.bool false) rfl <| w_done <| k_seq <| awp_seq <| awp_seq <| w_reg <| s_mov (.lst 2 (a_1.map encGLock)) rfl <| s_dof (o_len (enc := encGLock) rfl) fun hl3 => s_mov (.lst 2 (b_2.map encGLock)) rfl <| s_dof (o_len (enc := encGLock) rfl) fun hl4 => s_q (.bool ((a_1.length : Int) != (b_2.length : Int))) rfl rfl rfl <| w_done <| k_seq <| ?_
 rcases oi hf with ⟨c5, hf⟩ | ⟨c5, hf⟩
 ·refine w_condt rfl c5 <| awp_seq <| w_reg <| s_mov (.bool false) rfl <| w_done <| k_seq <| w_ret <| ?_; obtain rfl := os hf; exact r_flat ⟨trivial, trivial⟩ rfl (.refl _)
 ·refine w_condf rfl (bf c5) <| w_skip <| k_seq <| awp_seq <| awp_seq <| w_reg <| s_mov (.int .i64 0) rfl <| w_done <| k_seq <| ?_
  obtain ⟨p90, hb1, hf⟩ := ob hf
  refine awp_cutx (X := {q : Unit // p90 = .go q}) (fun q => ([], [])) ?_ ?_
  ·refine awp_loop (X := {q : Nat // laws_sameLocks_L1 b_2 (a_1.drop q) q = some p90}) (fun q => ([(0, (.lst 2 (a_1.map encGLock))), (1, (.lst 2 (b_2.map encGLock))), (5, (.int .i64 (q.1 : Int)))], [])) (fun q => a_1.length - q.1) ⟨0, hb1⟩ ⟨[], [], _, _, rfl, rfl, ⟨.refl _, ⟨.refl _, ⟨.refl _, trivial⟩⟩⟩, (.refl _)⟩ ?_
   rintro ⟨i_61, hc1⟩
   have hc1 : laws_sameLocks_L1 b_2 (a_1.drop i_61) i_61 = some p90 := hc1
   refine (show awp Try.prog false 0 _ (ofL [(0, (.lst 2 (a_1.map encGLock))), (1, (.lst 2 (b_2.map encGLock))), (5, (.int .i64 (i_61 : Int)))]) [] _ from ?_)
   rcases dropc a_1 i_61 with ⟨hie93, hd96⟩ | ⟨hlt91, x_97, hx92, hd96⟩
   ·rw [hd96, laws_sameLocks_L1.eq_1] at hc1
    have hq95 := dlf hie93
    refine awp_seq <| awp_seq <| w_reg <| s_mov (.int .i64 (i_61 : Int)) rfl <| s_mov (.lst 2 (a_1.map encGLock)) rfl <| s_dof (o_len (enc := encGLock) rfl) fun hl98 => s_q (.bool (decide ((i_61 : Int) < (a_1.length : Int)))) rfl rfl rfl <| w_done <| k_seq <| w_condf rfl hq95 <| w_exit <| k_seqx <| k_loopx <| k_blkx <| ?_; obtain rfl := os hc1; exact k_cutn ⟨_, rfl⟩ ⟨[], [], _, _, rfl, rfl, trivial, (.refl _)⟩
   ·rw [hd96, laws_sameLocks_L1.eq_2] at hc1
    have hq95 := dlt hlt91
    refine awp_seq <| awp_seq <| w_reg <| s_mov (.int .i64 (i_61 : Int)) rfl <| s_mov (.lst 2 (a_1.map encGLock)) rfl <| s_dof (o_len (enc := encGLock) rfl) fun hl99 => s_q (.bool (decide ((i_61 : Int) < (a_1.length : Int)))) rfl rfl rfl <| w_done <| k_seq <| w_condt rfl hq95 <| w_skip <| k_seq <| awp_seq <| w_blk <| awp_seq <| ?_
    obtain ⟨s41_107, hb2, hc1⟩ := ob hc1
    refine awp_cut ([(0, (.lst 2 (a_1.map encGLock))), (1, (.lst 2 (b_2.map encGLock))), (5, (.int .i64 (i_61 : Int))), (41, (.bool s41_107))], []) ?_ ?_
    ·refine w_reg <| s_mov (.lst 2 (a_1.map encGLock)) rfl <| s_mov (.int .i64 (i_61 : Int)) rfl <| s_do (o_iaddrn (enc := encGLock) rfl rfl hx92) <| s_q (.iptr (encGLock x_97) 0) rfl trivial rfl <| s_q (.str x_97.Name) rfl nle rfl <| s_mov (.lst 2 (b_2.map encGLock)) rfl <| s_mov (.int .i64 (i_61 : Int)) rfl <| ?_
     obtain ⟨x_109, ex110, hb2⟩ := ob hb2
     refine s_do (o_iaddr (enc := encGLock) rfl rfl (idx0 ex110) (idx1 ex110)) <| s_q (.iptr (encGLock x_109) 0) rfl trivial rfl <| s_q (.str x_109.Name) rfl nle rfl <| s_q (.bool (!(x_97.Name == x_109.Name))) rfl trivial rfl <| s_mov (.bool (!(x_97.Name == x_109.Name))) rfl <| ?_
     rcases oi hb2 with ⟨c111, hb2⟩ | ⟨c111, hb2⟩
     ·refine s_lit (s := 28) (b := true) rfl c111 <| s_off rfl rfl <| s_off rfl rfl <| s_off rfl rfl <| s_off rfl rfl <| s_off rfl rfl <| s_off rfl rfl <| s_off rfl rfl <| s_off rfl rfl <| s_off rfl rfl <| s_off rfl rfl <| s_offl rfl rfl trivial <| s_off rfl rfl <| s_q (.bool true) rfl trivial rfl <| w_done <| ?_; obtain rfl := os hb2; exact ⟨[], [], _, _, rfl, rfl, ⟨.refl _, ⟨.refl _, ⟨.refl _, ⟨.refl _, trivial⟩⟩⟩⟩, (.refl _)⟩
     ·refine s_lit (s := 28) (b := false) rfl (bf c111) <| s_on rfl <| s_mov (.lst 2 (a_1.map encGLock)) rfl <| s_on rfl <| s_mov (.int .i64 (i_61 : Int)) rfl <| s_on rfl <| s_do (o_iaddrn (enc := encGLock) rfl rfl hx92) <| s_on rfl <| s_q (.iptr (encGLock x_97) 1) rfl trivial rfl <| s_on rfl <| s_q (.lst 1 (x_97.Queue.map encI)) rfl nle rfl <| s_on rfl <| s_mov (.lst 2 (b_2.map encGLock)) rfl <| s_on rfl <| s_mov (.int .i64 (i_61 : Int)) rfl <| s_on rfl <| ?_
      obtain ⟨x_112, ex113, hb2⟩ := ob hb2
      refine s_do (o_iaddr (enc := encGLock) rfl rfl (idx0 ex113) (idx1 ex113)) <| s_on rfl <| s_q (.iptr (encGLock x_112) 1) rfl trivial rfl <| s_on rfl <| s_q (.lst 1 (x_112.Queue.map encI)) rfl nle rfl <| s_onl rfl <| ?_
      obtain ⟨r_114, er115, hb2⟩ := ob hb2
      refine s_dol (o_call (w_laws_sameInts _ _ _ er115) rfl (.refl _) rfl) a_same trivial <| s_on rfl <| s_q (.bool (!r_114)) rfl trivial rfl <| s_q (.bool (!r_114)) rfl trivial rfl <| w_done <| ?_; obtain rfl := os hb2; exact ⟨[], [], _, _, rfl, rfl, ⟨.refl _, ⟨.refl _, ⟨.refl _, ⟨.refl _, trivial⟩⟩⟩⟩, (.refl _)⟩
    ·rcases oi hc1 with ⟨c116, hc1⟩ | ⟨c116, hc1⟩
     ·refine w_condt rfl c116 <| awp_seq <| w_reg <| s_mov (.bool false) rfl <| w_done <| k_seq <| w_ret <| ?_; obtain rfl := os hc1; obtain rfl := os hf; exact r_flat ⟨trivial, trivial⟩ rfl (.refl _)
     ·refine w_condf rfl (bf c116) <| w_skip <| k_blk <| k_seq <| w_reg <| s_mov (.int .i64 (i_61 : Int)) rfl <| s_q (.int .i64 (w64 ((i_61 : Int) + 1))) rfl rfl rfl <| s_mov (.int .i64 (w64 ((i_61 : Int) + 1))) rfl <| w_done <| ?_; exact k_loopn ⟨(i_61 + 1), hc1⟩ (mul hlt91) ⟨[], [], _, _, rfl, rfl, ⟨.refl _, ⟨.refl _, ⟨.of_eq (congrArg (AV.int _) (w64_incr hlt91 hl99)), trivial⟩⟩⟩, (.refl _)⟩
  ·rintro ⟨_, rfl⟩
   refine awp_seq <| w_reg <| s_mov (.bool true) rfl <| w_done <| k_seq <| w_ret <| ?_; obtain rfl := os hf; exact r_flat ⟨trivial, trivial⟩ rfl (.refl _)

/- laws.sameTold -/
def c30 : ACode :=
 (.seq (.reg (tm 4 (.c (.bool false)) .done))
 (.seq (.seq (.reg (tm 6 (.t 0) (tq 7 (.len (.t 6)) (tm 8 (.t 1) (tq 9 (.len (.t 8)) (tq 10 (.bin .neq (.t 7) (.t 9)) .done))))))
 (.cond (.t 10) (.seq (.reg (tm 4 (.c (.bool false)) .done))
 .ret)
 .skip))
 (.seq (.seq (.reg (tm 5 (.c (.int .i64 0)) .done))
 (.block 0 (.loop (.seq (.seq (.reg (tm 11 (.t 5) (tm 12 (.t 0) (tq 13 (.len (.t 12)) (tq 14 (.bin .lss (.t 11) (.t 13)) .done)))))
 (.cond (.t 14) .skip
 (.exit 0)))
 (.seq (.block 1 (.seq (.reg (tm 17 (.t 0) (tm 18 (.t 5) (tq 19 (.iaddr 3 (.t 17) (.t 18)) (tq 20 (.load 3 true (.t 19)) (tm 21 (.t 1) (tm 22 (.t 5) (tq 23 (.iaddr 3 (.t 21) (.t 22)) (tq 24 (.load 3 true (.t 23)) (tq 25 (.eqs true [0, 2, 2] (.t 20) (.t 24)) .done))))))))))
 (.cond (.t 25) (.seq (.reg (tm 4 (.c (.bool false)) .done))
 .ret)
 .skip)))
 (.reg (tm 15 (.t 5) (tq 16 (.bin .add (.t 15) (.c (.int .i64 1))) (tm 5 (.t 16) .done)))))))))
 (.cut (.seq (.reg (tm 4 (.c (.bool true)) .done))
 .ret)))))
theorem fc30 : fcomp Try.prog Try.f30 = some (c30.erase, [.mov (.t 4)], 26) := by kernel_rfl
def laws_sameTold_L1 (b_2 : (List GTold)) : List GTold → Nat → Option (Fl Bool Unit)
  | [], i_21 =>
    some (.go ())
  | x_37 :: xs, i_21 =>
    (idx b_2 (i_21 : Int)).bind fun x_40 =>
    if (!(x_37.Session == x_40.Session && (x_37.Word == x_40.Word && (x_37.Name == x_40.Name && true)))) then
    some (.ret false)
    else
    laws_sameTold_L1 b_2 xs (i_21 + 1)

def laws_sameTold (a_1 : (List GTold)) (b_2 : (List GTold)) : Option Bool :=
    if ((a_1.length : Int) != (b_2.length : Int)) then
    some false
    else
    (laws_sameTold_L1 b_2 a_1 0).bind fun q => (match q with
    | .ret r => some r
    | .go _ =>
    some true)
theorem w_laws_sameTold (a_1 : (List GTold)) (b_2 : (List GTold)) (r : Bool) (hf : laws_sameTold a_1 b_2 = some r) : CallOK Try.prog 30 .flat [(.lst 3 (a_1.map encGTold)), (.lst 3 (b_2.map encGTold))] (.bool r) := by
 refine CallOK.of_awp mixed Try.func30 fc30 nle ?_; rw [argT_eq]; unfold laws_sameTold at hf; unfold c30; refine (show awp Try.prog false 0 _ (ofL [(0, (.lst 3 (a_1.map encGTold))), (1, (.lst 3 (b_2.map encGTold)))]) [] _ from ?_); refine awp_seq <| w_reg <| s_mov (.bool false) rfl <| w_done <| k_seq <| awp_seq <| awp_seq <| w_reg <| s_mov (.lst 3 (a_1.map encGTold)) rfl <| s_dof (o_len (enc := encGTold) rfl) fun hl3 => s_mov (.lst 3 (b_2.map encGTold)) rfl <| s_dof (o_len (enc := encGTold) rfl) fun hl4 => s_q (.bool ((a_1.length : Int) != (b_2.length : Int))) rfl rfl rfl <| w_done <| k_seq <| ?_
 rcases oi hf with ⟨c5, hf⟩ | ⟨c5, hf⟩
 ·refine w_condt rfl c5 <| awp_seq <| w_reg <| s_mov (.bool false) rfl <| w_done <| k_seq <| w_ret <| ?_; obtain rfl := os hf; exact r_flat ⟨trivial, trivial⟩ rfl (.refl _)
 ·refine w_condf rfl (bf c5) <| w_skip <| k_seq <| awp_seq <| awp_seq <| w_reg <| s_mov (.int .i64 0) rfl <| w_done <| k_seq <| ?_
  obtain ⟨p30, hb1, hf⟩ := ob hf
  refine awp_cutx (X := {q : Unit // p30 = .go q}) (fun q => ([], [])) ?_ ?_
  ·refine awp_loop (X := {q : Nat // laws_sameTold_L1 b_2 (a_1.drop q) q = some p30}) (fun q => ([(0, (.lst 3 (a_1.map encGTold))), (1, (.lst 3 (b_2.map encGTold))), (5, (.int .i64 (q.1 : Int)))], [])) (fun q => a_1.length - q.1) ⟨0, hb1⟩ ⟨[], [], _, _, rfl, rfl, ⟨.refl _, ⟨.refl _, ⟨.refl _, trivial⟩⟩⟩, (.refl _)⟩ ?_
   rintro ⟨i_21, hc1⟩
   have hc1 : laws_sameTold_L1 b_2 (a_1.drop i_21) i_21 = some p30 := hc1
   refine (show awp Try.prog false 0 _ (ofL [(0, (.lst 3 (a_1.map encGTold))), (1, (.lst 3 (b_2.map encGTold))), (5, (.int .i64 (i_21 : Int)))]) [] _ from ?_)
   rcases dropc a_1 i_21 with ⟨hie33, hd36⟩ | ⟨hlt31, x_37, hx32, hd36⟩
   ·rw [hd36, laws_sameTold_L1.eq_1] at hc1
    have hq35 := dlf hie33
    refine awp_seq <| awp_seq <| w_reg <| s_mov (.int .i64 (i_21 : Int)) rfl <| s_mov (.lst 3 (a_1.map encGTold)) rfl <| s_dof (o_len (enc := encGTold) rfl) fun hl38 => s_q (.bool (decide ((i_21 : Int) < (a_1.length : Int)))) rfl rfl rfl <| w_done <| k_seq <| w_condf rfl hq35 <| w_exit <| k_seqx <| k_loopx <| k_blkx <| ?_; obtain rfl := os hc1; exact k_cutn ⟨_, rfl⟩ ⟨[], [], _, _, rfl, rfl, trivial, (.refl _)⟩
   ·rw [hd36, laws_sameTold_L1.eq_2] at hc1
    have hq35 := dlt hlt31
    refine awp_seq <| awp_seq <| w_reg <| s_mov (.int .i64 (i_21 : Int)) rfl <| s_mov (.lst 3 (a_1.map encGTold)) rfl <| s_dof (o_len (enc := encGTold) rfl) fun hl39 => s_q (.bool (decide ((i_21 : Int) < (a_1.length : Int)))) rfl rfl rfl <| w_done <| k_seq <| w_condt rfl hq35 <| w_skip <| k_seq <| awp_seq <| w_blk <| awp_seq <| w_reg <| ?_
    obtain ⟨x_40, ex41, hc1⟩ := ob hc1
    refine s_mov (.lst 3 (a_1.map encGTold)) rfl <| s_mov (.int .i64 (i_21 : Int)) rfl <| s_do (o_iaddrn (enc := encGTold) rfl rfl hx32) <| s_q (encGTold x_37) rfl nle rfl <| s_mov (.lst 3 (b_2.map encGTold)) rfl <| s_mov (.int .i64 (i_21 : Int)) rfl <| s_do (o_iaddr (enc := encGTold) rfl rfl (idx0 ex41) (idx1 ex41)) <| s_q (encGTold x_40) rfl nle rfl <| s_q (.bool (!(x_37.Session == x_40.Session && (x_37.Word == x_40.Word && (x_37.Name == x_40.Name && true))))) rfl ⟨⟨rfl, rfl⟩, ⟨rfl, ⟨rfl, trivial⟩⟩⟩ rfl <| w_done <| k_seq <| ?_
    rcases oi hc1 with ⟨c42, hc1⟩ | ⟨c42, hc1⟩
    ·refine w_condt rfl c42 <| awp_seq <| w_reg <| s_mov (.bool false) rfl <| w_done <| k_seq <| w_ret <| ?_; obtain rfl := os hc1; obtain rfl := os hf; exact r_flat ⟨trivial, trivial⟩ rfl (.refl _)
    ·refine w_condf rfl (bf c42) <| w_skip <| k_blk <| k_seq <| w_reg <| s_mov (.int .i64 (i_21 : Int)) rfl <| s_q (.int .i64 (w64 ((i_21 : Int) + 1))) rfl rfl rfl <| s_mov (.int .i64 (w64 ((i_21 : Int) + 1))) rfl <| w_done <| ?_; exact k_loopn ⟨(i_21 + 1), hc1⟩ (mul hlt31) ⟨[], [], _, _, rfl, rfl, ⟨.refl _, ⟨.refl _, ⟨.of_eq (congrArg (AV.int _) (w64_incr hlt31 hl39)), trivial⟩⟩⟩, (.refl _)⟩
  ·rintro ⟨_, rfl⟩
   refine awp_seq <| w_reg <| s_mov (.bool true) rfl <| w_done <| k_seq <| w_ret <| ?_; obtain rfl := os hf; exact r_flat ⟨trivial, trivial⟩ rfl (.refl _)

/- impl.sessionCode -/
def c97 : ACode :=
 (.seq (.reg (tm 4 (.c (.int .i64 0)) .done))
 (.seq (.reg (tm 5 (.t 0) (tm 6 (.t 1) (tq 7 (.call 111 [(.t 5), (.t 6), (.c (.str [110, 97, 109, 101]))]) (tm 4 (.t 7) .done)))))
 .ret))
theorem fc97 : fcomp Try.prog Try.f97 = some (c97.erase, [.mov (.t 4)], 8) := by kernel_rfl
def impl_sessionCode (list_1 : (List GLock)) (session_2 : Int) : Option Int :=
    (impl_locksCode list_1 session_2 [110, 97, 109, 101]).bind fun r_3 =>
    some r_3
theorem w_impl_sessionCode (list_1 : (List GLock)) (session_2 : Int) (r : Int) (hf : impl_sessionCode list_1 session_2 = some r) : CallOK Try.prog 97 .flat [(.lst 2 (list_1.map encGLock)), (.int .i64 session_2)] (.int .i64 r) := by
  refine CallOK.of_awp mixed Try.func97 fc97 nle ?_
  rw [argT_eq]
  unfold impl_sessionCode at hf
  unfold c97
  refine (show awp Try.prog false 0 _ (ofL [(0, (.lst 2 (list_1.map encGLock))), (1, (.int .i64 session_2))]) [] _ from ?_)
  refine awp_seq ?_
  refine w_reg ?_
  refine s_do (o_mov (.int .i64 0) rfl) ?_
  refine w_done ?_
  refine k_seq ?_
  refine awp_seq ?_
  refine w_reg ?_
  obtain ⟨r_3, er4, hf⟩ := ob hf
  refine s_do (o_mov (.lst 2 (list_1.map encGLock)) rfl) ?_
  refine s_do (o_mov (.int .i64 session_2) rfl) ?_
  refine s_do (o_call (w_impl_locksCode _ _ _ _ er4) rfl (.refl _) rfl) ?_
  refine s_do (o_mov (.int .i64 r_3) rfl) ?_
  refine w_done ?_
  refine k_seq ?_
  refine w_ret ?_
  obtain rfl := os hf
  exact r_flat ⟨trivial, trivial⟩ rfl (.refl _)

/- impl.OwnedBy -/
def c25 : ACode :=
 (.seq (.reg (tm 4 (.c .nil) (tm 5 (.c (.int .i64 0)) .done)))
 (.seq (.seq (.reg (tm 10 (.t 0) (tm 11 (.t 1) (tq 12 (.call 97 [(.t 10), (.t 11)]) (tm 6 (.t 12) .done)))))
 (.seq (.reg (tm 13 (.t 6) (tq 14 (.bin .neq (.t 13) (.c (.int .i64 0))) .done)))
 (.cond (.t 14) (.seq (.reg (tm 15 (.t 6) (tm 4 (.c .nil) (tm 5 (.t 15) .done))))
 .ret)
 .skip)))
 (.seq (.reg (tq 16 (.bslice 1 []) (tm 7 (.t 16) .done)))
 (.seq (.seq (.reg (tm 17 (.t 0) (tq 18 (.len (.t 17)) (tm 19 (.c (.int .i64 0)) .done))))
 (.block 0 (.loop (.seq (.reg (tq 20 (.bin .lss (.t 19) (.t 18)) .done))
 (.seq (.cond (.t 20) .skip
 (.exit 0))
 (.seq (.block 1 (.seq (.reg (tq 21 (.iaddr 2 (.t 17) (.t 19)) (tq 22 (.load 2 true (.t 21)) (tq 9 (.box 2 (.c (.agg [(.str []), .nil]))) (.q ⟨none, none, .store 2 (.t 9) (.t 22)⟩
 .done)))))
 (.seq (.reg (tq 23 (.faddr 1 (.t 9)) (tq 24 (.load 1 false (.t 23)) (tq 25 (.iaddr 1 (.t 24) (.c (.int .i64 0))) (tq 26 (.load 1 false (.t 25)) (tm 27 (.t 1) (tq 28 (.bin .eql (.t 26) (.t 27)) .done)))))))
 (.cond (.t 28) (.reg (tm 29 (.t 7) (tq 30 (.faddr 0 (.t 9)) (tq 31 (.load 1 false (.t 30)) (tq 32 (.bslice 1 [(.t 31)]) (tq 33 (.append 1 16 (.t 29) (.t 32)) (tm 7 (.t 33) .done)))))))
 .skip))))
 (.reg (tq 34 (.bin .add (.t 19) (.c (.int .i64 1))) (tm 19 (.t 34) .done)))))))))
 (.cut (.seq (.reg (tm 35 (.t 7) (tm 4 (.t 35) (tm 5 (.c (.int .i64 0)) .done))))
 .ret))))))
theorem fc25 : fcomp Try.prog Try.f25 = some (c25.erase, [.mov (.t 4), .mov (.t 5)], 36) := by kernel_rfl
def impl_OwnedBy_L1 (session_2 : Int) : List GLock → (List Str) → Option (List Str)
  | [], out_24 =>
    some out_24
  | x_40 :: xs, out_24 =>
    (idx x_40.Queue 0).bind fun x_41 =>
    if (x_41 == session_2) then
    if (out_24 ++ [x_40.Name]).length ≤ 2 ^ 30 then
    impl_OwnedBy_L1 session_2 xs  (out_24 ++ [x_40.Name])
    else none
    else
    impl_OwnedBy_L1 session_2 xs  out_24

def impl_OwnedBy (list_1 : (List GLock)) (session_2 : Int) : Option ((List Str) × Int) :=
    (impl_sessionCode list_1 session_2).bind fun r_3 =>
    if (r_3 != 0) then
    some ([], r_3)
    else
    (impl_OwnedBy_L1 session_2 list_1 []).bind fun out_32 =>
    some (out_32, 0)
theorem w_impl_OwnedBy (list_1 : (List GLock)) (session_2 : Int) (r : ((List Str) × Int)) (hf : impl_OwnedBy list_1 session_2 = some r) : CallOK Try.prog 25 .fresh [(.lst 2 (list_1.map encGLock)), (.int .i64 session_2)] (.tup [(.lst 1 (r.1.map AV.str)), (.int .i64 r.2)]) := by
 refine CallOK.of_awp mixed Try.func25 fc25 nle ?_; rw [argT_eq]; unfold impl_OwnedBy at hf; unfold c25; refine (show awp Try.prog true 0 _ (ofL [(0, (.lst 2 (list_1.map encGLock))), (1, (.int .i64 session_2))]) [] _ from ?_); refine awp_seq <| w_reg <| s_mov .nil rfl <| s_mov (.int .i64 0) rfl <| w_done <| k_seq <| awp_seq <| awp_seq <| w_reg <| ?_
 obtain ⟨r_3, er4, hf⟩ := ob hf
 refine s_mov (.lst 2 (list_1.map encGLock)) rfl <| s_mov (.int .i64 session_2) rfl <| s_do (o_call (w_impl_sessionCode _ _ _ er4) rfl (.refl _) rfl) <| s_mov (.int .i64 r_3) rfl <| w_done <| k_seq <| awp_seq <| w_reg <| s_mov (.int .i64 r_3) rfl <| s_q (.bool (r_3 != 0)) rfl rfl rfl <| w_done <| k_seq <| ?_
 rcases oi hf with ⟨c5, hf⟩ | ⟨c5, hf⟩
 ·refine w_condt rfl c5 <| awp_seq <| w_reg <| s_mov (.int .i64 r_3) rfl <| s_mov .nil rfl <| s_mov (.int .i64 r_3) rfl <| w_done <| k_seq <| w_ret <| ?_; obtain rfl := os hf; exact r_fresh ⟨trivial, ⟨trivial, trivial⟩⟩ rfl (by decide) (.tup (.cons (.nil _) (.cons (.refl _) .nil)))
 ·refine w_condf rfl (bf c5) <| w_skip <| k_seq <| awp_seq <| w_reg <| ?_; refine s_do (o_bslice (j := 0) (as' := []) rfl (fun _ => by decide) trivial (.refl _) rfl rfl rfl) ?_; refine s_mov (.own 0 0 0) rfl <| w_done <| k_seq <| awp_seq <| awp_seq <| w_reg <| s_mov (.lst 2 (list_1.map encGLock)) rfl <| s_dof (o_len (enc := encGLock) rfl) fun hl6 => s_mov (.int .i64 0) rfl <| w_done <| k_seq <| ?_
  obtain ⟨out_32, hb1, hf⟩ := ob hf
  refine awp_cut ([(7, (.own 0 0 out_32.length))], [.row 1 (out_32.map AV.str)]) ?_ ?_
  ·refine awp_loop (X := {q : (Nat × (List Str)) // impl_OwnedBy_L1 session_2 (list_1.drop q.1) q.2 = some out_32}) (fun q => ([(1, (.int .i64 session_2)), (7, (.own 0 0 q.1.2.length)), (17, (.lst 2 (list_1.map encGLock))), (18, (.int .i64 (list_1.length : Int))), (19, (.int .i64 (q.1.1 : Int)))], [.row 1 (q.1.2.map AV.str)])) (fun q => list_1.length - q.1.1) ⟨(0, []), hb1⟩ ⟨[], [0], _, _, rfl, rfl, ⟨.refl _, ⟨.of_eq (congrArg (AV.own _ 0) (by simp)), ⟨.refl _, ⟨.refl _, ⟨.refl _, trivial⟩⟩⟩⟩⟩, (.refl _)⟩ ?_
   rintro ⟨⟨s19_23, out_24⟩, hc1⟩
   have hc1 : impl_OwnedBy_L1 session_2 (list_1.drop s19_23) out_24 = some out_32 := hc1
   refine (show awp Try.prog true 0 _ (ofL [(1, (.int .i64 session_2)), (7, (.own 0 0 out_24.length)), (17, (.lst 2 (list_1.map encGLock))), (18, (.int .i64 (list_1.length : Int))), (19, (.int .i64 (s19_23 : Int)))]) [.row 1 (out_24.map AV.str)] _ from ?_)
   rcases dropc list_1 s19_23 with ⟨hie36, hd39⟩ | ⟨hlt34, x_40, hx35, hd39⟩
   ·rw [hd39, impl_OwnedBy_L1.eq_1] at hc1
    have hq38 := dlf hie36
    refine awp_seq <| w_reg <| s_q (.bool (decide ((s19_23 : Int) < (list_1.length : Int)))) rfl rfl rfl <| w_done <| k_seq <| awp_seq <| w_condf rfl hq38 <| w_exit <| k_seqx <| k_loopx <| k_blkx <| ?_; obtain rfl := os hc1; exact ⟨[], [0], _, _, rfl, rfl, ⟨.refl _, trivial⟩, (.refl _)⟩
   ·rw [hd39, impl_OwnedBy_L1.eq_2] at hc1
    have hq38 := dlt hlt34
    refine awp_seq <| w_reg <| s_q (.bool (decide ((s19_23 : Int) < (list_1.length : Int)))) rfl rfl rfl <| w_done <| k_seq <| awp_seq <| w_condt rfl hq38 <| w_skip <| k_seq <| awp_seq <| w_blk <| awp_seq <| w_reg <| s_do (o_iaddrn (enc := encGLock) rfl rfl hx35) <| s_q (encGLock x_40) rfl nle rfl <| s_do (o_box (j := 1) (c := (.agg [(.str []), .nil])) rfl trivial rfl rfl) <| s_do0 (o_storebox (v := (.agg [(.str x_40.Name), (.lst 1 (x_40.Queue.map encI))])) (y' := (.agg [(.str x_40.Name), (.lst 1 (x_40.Queue.map encI))])) rfl rfl rfl trivial ⟨rfl, nle⟩ ⟨⟨rfl, trivial⟩, ⟨⟨rfl, trivial⟩, trivial⟩⟩ rfl) <| w_done <| k_seq <| awp_seq <| w_reg <| ?_
    obtain ⟨x_41, ex42, hc1⟩ := ob hc1
    refine s_q (.ptr 1 0 1) rfl trivial rfl <| s_q (.lst 1 (x_40.Queue.map encI)) rfl nle rfl <| s_do (o_iaddr (enc := encI) rfl rfl (idx0 ex42) (idx1 ex42)) <| s_q (.int .i64 x_41) rfl ⟨rfl, rfl⟩ rfl <| s_mov (.int .i64 session_2) rfl <| s_q (.bool (x_41 == session_2)) rfl rfl rfl <| w_done <| k_seq <| ?_
    rcases oi hc1 with ⟨c43, hc1⟩ | ⟨c43, hc1⟩
    ·refine w_condt rfl c43 <| w_reg <| ?_
     obtain ⟨g44, hc1⟩ := og hc1
     refine s_mov (.own 0 0 out_24.length) rfl <| s_q (.ptr 1 0 0) rfl trivial rfl <| s_q (.str x_40.Name) rfl nle rfl <| ?_; refine s_do (o_bslice (j := 2) (as' := [(.str x_40.Name)]) rfl (fun _ => by decide) ⟨rfl, trivial⟩ (.refl _) rfl rfl rfl) ?_
     refine s_do (o_appendd (j := 3) (L := ((out_24 ++ [x_40.Name]).map AV.str)) (len := (out_24 ++ [x_40.Name]).length) rfl false rfl rfl (fun _ => flo (enc := AV.str) (fun _ => rfl) [x_40.Name] _) (fun _ _ h => (ownl (show AV.own _ _ _ = AV.lst _ _ from h)).elim) (by decide) (apoc (enc := AV.str) out_24 [x_40.Name] _ (by rfl)) (by simp <;> omega) g44 rfl rfl) ?_
     refine s_mov (.own 3 0 ((out_24 ++ [x_40.Name]).length)) rfl <| w_done <| k_blk <| k_seq <| w_reg <| s_q (.int .i64 (w64 ((s19_23 : Int) + 1))) rfl rfl rfl <| s_mov (.int .i64 (w64 ((s19_23 : Int) + 1))) rfl <| w_done <| ?_; exact k_loopn ⟨((s19_23 + 1), out_24 ++ [x_40.Name]), hc1⟩ (mul hlt34) ⟨[], [3], _, _, rfl, rfl, ⟨.refl _, ⟨.refl _, ⟨.refl _, ⟨.refl _, ⟨.of_eq (congrArg (AV.int _) (w64_incr hlt34 hl6)), trivial⟩⟩⟩⟩⟩, (.refl _)⟩
    ·refine w_condf rfl (bf c43) <| w_skip <| k_blk <| k_seq <| w_reg <| s_q (.int .i64 (w64 ((s19_23 : Int) + 1))) rfl rfl rfl <| s_mov (.int .i64 (w64 ((s19_23 : Int) + 1))) rfl <| w_done <| ?_; exact k_loopn ⟨((s19_23 + 1), out_24), hc1⟩ (mul hlt34) ⟨[], [0], _, _, rfl, rfl, ⟨.refl _, ⟨.refl _, ⟨.refl _, ⟨.refl _, ⟨.of_eq (congrArg (AV.int _) (w64_incr hlt34 hl6)), trivial⟩⟩⟩⟩⟩, (.refl _)⟩
  ·refine awp_seq <| w_reg <| s_mov (.own 0 0 out_32.length) rfl <| s_mov (.own 0 0 out_32.length) rfl <| s_mov (.int .i64 0) rfl <| w_done <| k_seq <| w_ret <| ?_; obtain rfl := os hf; exact r_fresh ⟨trivial, ⟨trivial, trivial⟩⟩ rfl (by decide) (.tup (.cons (.of_eq (congrArg (AV.lst _) (tk (enc := AV.str) out_32))) (.cons (.refl _) .nil)))

/- laws.FnLocks -/
def c9 : ACode :=
 (.seq (.reg (tm 4 (.c (.bool false)) .done))
 (.seq (.seq (.reg (tm 33 (.t 0) (tq 34 (.len (.t 33)) (tq 35 (.bin .gtr (.t 34) (.c (.int .i64 1048576))) (tm 36 (.t 35) (tg 37 36 false (.mov (.t 1)) (tg 38 36 false (.len (.t 37)) (tg 39 36 false (.bin .gtr (.t 38) (.c (.int .i64 1048576))) (tq 40 (.pick (.t 36) (.c (.bool true)) (.t 39)) .done)))))))))
 (.cut (.cond (.t 40) (.seq (.reg (tm 4 (.c (.bool true)) .done))
 .ret)
 .skip)))
 (.seq (.reg (tm 41 (.t 0) (tq 42 (.call 24 [(.t 41)]) (tm 5 (.t 42) .done))))
 (.seq (.reg (tm 43 (.t 1) (tq 44 (.call 46 [(.t 43)]) (tm 6 (.t 44) .done))))
 (.seq (.reg (tm 45 (.t 1) (tq 46 (.call 26 [(.t 45), (.c (.int .i64 0)), (.c (.int .i64 3))]) (tm 7 (.t 46) .done))))
 (.seq (.reg (tm 48 (.t 5) (tm 49 (.t 7) (tm 50 (.t 6) (tq 51 (.call 43 [(.t 48), (.t 49), (.t 50)]) (tm 47 (.t 51) (tq 52 (.extract 0 (.t 47)) (tq 53 (.extract 1 (.t 47)) (tq 54 (.extract 2 (.t 47)) (tm 8 (.t 52) (tm 9 (.t 53) (tm 10 (.t 54) .done))))))))))))
 (.seq (.reg (tm 56 (.t 5) (tm 57 (.t 7) (tm 58 (.t 6) (tq 59 (.call 42 [(.t 56), (.t 57), (.t 58)]) (tm 55 (.t 59) (tq 60 (.extract 0 (.t 55)) (tq 61 (.extract 1 (.t 55)) (tq 62 (.extract 2 (.t 55)) (tm 11 (.t 60) (tm 12 (.t 61) (tm 13 (.t 62) .done))))))))))))
 (.seq (.reg (tm 64 (.t 5) (tm 65 (.t 7) (tm 66 (.t 6) (tq 67 (.call 45 [(.t 64), (.t 65), (.t 66)]) (tm 63 (.t 67) (tq 68 (.extract 0 (.t 63)) (tq 69 (.extract 1 (.t 63)) (tq 70 (.extract 2 (.t 63)) (tm 14 (.t 68) (tm 15 (.t 69) (tm 16 (.t 70) .done))))))))))))
 (.seq (.reg (tm 72 (.t 5) (tm 73 (.t 7) (tm 74 (.t 6) (tq 75 (.call 44 [(.t 72), (.t 73), (.t 74)]) (tm 71 (.t 75) (tq 76 (.extract 0 (.t 71)) (tq 77 (.extract 1 (.t 71)) (tq 78 (.extract 2 (.t 71)) (tm 17 (.t 76) (tm 18 (.t 77) (tm 19 (.t 78) .done))))))))))))
 (.seq (.reg (tm 80 (.t 14) (tm 81 (.t 7) (tm 82 (.t 6) (tq 83 (.call 35 [(.t 80), (.t 81), (.t 82)]) (tm 79 (.t 83) (tq 84 (.extract 0 (.t 79)) (tq 85 (.extract 1 (.t 79)) (tq 86 (.extract 2 (.t 79)) (tm 20 (.t 84) (tm 21 (.t 85) (tm 22 (.t 86) .done))))))))))))
 (.seq (.reg (tm 88 (.t 14) (tm 89 (.t 7) (tm 90 (.t 6) (tq 91 (.call 33 [(.t 88), (.t 89), (.t 90)]) (tm 87 (.t 91) (tq 92 (.extract 0 (.t 87)) (tq 93 (.extract 1 (.t 87)) (tq 94 (.extract 2 (.t 87)) (tm 23 (.t 92) (tm 24 (.t 93) (tm 25 (.t 94) .done))))))))))))
 (.seq (.seq (.reg (tm 95 (.t 10) (tm 96 (.t 13) (tq 97 (.bin .neq (.t 95) (.t 96)) (tm 98 (.t 97) (tg 99 98 false (.mov (.t 9)) (tg 100 98 false (.mov (.t 12)) (tg 101 98 false (.eqB true (.t 99) (.t 100)) (tq 102 (.pick (.t 98) (.c (.bool true)) (.t 101)) (tm 103 (.t 102) (tg 104 103 false (.mov (.t 8)) (tg 105 103 false (.mov (.t 11)) (tg 106 103 false (.call 29 [(.t 104), (.t 105)]) (tg 107 103 false (.not (.t 106)) (tq 108 (.pick (.t 103) (.c (.bool true)) (.t 107)) (tm 109 (.t 108) (tg 110 109 false (.mov (.t 16)) (tg 111 109 false (.mov (.t 19)) (tg 112 109 false (.bin .neq (.t 110) (.t 111)) (tq 113 (.pick (.t 109) (.c (.bool true)) (.t 112)) (tm 114 (.t 113) (tg 115 114 false (.mov (.t 14)) (tg 116 114 false (.mov (.t 17)) (tg 117 114 false (.call 29 [(.t 115), (.t 116)]) (tg 118 114 false (.not (.t 117)) (tq 119 (.pick (.t 114) (.c (.bool true)) (.t 118)) (tm 120 (.t 119) (tg 121 120 false (.mov (.t 15)) (tg 122 120 false (.mov (.t 18)) (tg 123 120 false (.call 30 [(.t 121), (.t 122)]) (tg 124 120 false (.not (.t 123)) (tq 125 (.pick (.t 120) (.c (.bool true)) (.t 124)) (tm 126 (.t 125) (tg 127 126 false (.mov (.t 22)) (tg 128 126 false (.mov (.t 25)) (tg 129 126 false (.bin .neq (.t 127) (.t 128)) (tq 130 (.pick (.t 126) (.c (.bool true)) (.t 129)) (tm 131 (.t 130) (tg 132 131 false (.mov (.t 20)) (tg 133 131 false (.mov (.t 23)) (tg 134 131 false (.call 29 [(.t 132), (.t 133)]) (tg 135 131 false (.not (.t 134)) (tq 136 (.pick (.t 131) (.c (.bool true)) (.t 135)) (tm 137 (.t 136) (tg 138 137 false (.mov (.t 21)) (tg 139 137 false (.mov (.t 24)) (tg 140 137 false (.call 30 [(.t 138), (.t 139)]) (tg 141 137 false (.not (.t 140)) (tq 142 (.pick (.t 137) (.c (.bool true)) (.t 141)) (tm 143 (.t 142) (tg 144 143 false (.mov (.t 8)) (tg 145 143 false (.call 31 [(.t 144)]) (tg 146 143 false (.not (.t 145)) (tq 147 (.pick (.t 143) (.c (.bool true)) (.t 146)) (tm 148 (.t 147) (tg 149 148 false (.mov (.t 14)) (tg 150 148 false (.call 31 [(.t 149)]) (tg 151 148 false (.not (.t 150)) (tq 152 (.pick (.t 148) (.c (.bool true)) (.t 151)) (tm 153 (.t 152) (tg 154 153 false (.mov (.t 20)) (tg 155 153 false (.call 31 [(.t 154)]) (tg 156 153 false (.not (.t 155)) (tq 157 (.pick (.t 153) (.c (.bool true)) (.t 156)) .done))))))))))))))))))))))))))))))))))))))))))))))))))))))))))))))))
 (.cut (.cond (.t 157) (.seq (.reg (tm 4 (.c (.bool false)) .done))
 .ret)
 .skip)))
 (.seq (.seq (.reg (tm 158 (.t 16) (tq 159 (.bin .neq (.t 158) (.c (.int .i64 0))) .done)))
 (.cond (.t 159) (.seq (.reg (tm 4 (.c (.bool false)) .done))
 .ret)
 .skip))
 (.seq (.reg (tm 161 (.t 14) (tm 162 (.t 7) (tq 163 (.call 25 [(.t 161), (.t 162)]) (tm 160 (.t 163) (tq 164 (.extract 0 (.t 160)) (tq 165 (.extract 1 (.t 160)) (tm 26 (.t 164) (tm 27 (.t 165) .done)))))))))
 (.seq (.reg (tm 28 (.c (.bool false)) .done))
 (.seq (.seq (.reg (tm 29 (.c (.int .i64 0)) .done))
 (.block 0 (.loop (.seq (.seq (.reg (tm 166 (.t 29) (tm 167 (.t 26) (tq 168 (.len (.t 167)) (tq 169 (.bin .lss (.t 166) (.t 168)) .done)))))
 (.cond (.t 169) .skip
 (.exit 0)))
 (.seq (.block 1 (.reg (tm 172 (.t 28) (tm 173 (.t 172) (tg 174 173 false (.mov (.t 26)) (tg 175 173 false (.mov (.t 29)) (tg 176 173 false (.iaddr 1 (.t 174) (.t 175)) (tg 177 173 false (.load 1 false (.t 176)) (tg 178 173 false (.mov (.t 6)) (tg 179 173 false (.bin .eql (.t 177) (.t 178)) (tq 180 (.pick (.t 173) (.c (.bool true)) (.t 179)) (tm 28 (.t 180) .done))))))))))))
 (.reg (tm 170 (.t 29) (tq 171 (.bin .add (.t 170) (.c (.int .i64 1))) (tm 29 (.t 171) .done)))))))))
 (.cut (.seq (.reg (tm 182 (.t 20) (tm 183 (.t 7) (tq 184 (.call 25 [(.t 182), (.t 183)]) (tm 181 (.t 184) (tq 185 (.extract 0 (.t 181)) (tq 186 (.extract 1 (.t 181)) (tm 30 (.t 185) (tm 31 (.t 186) .done)))))))))
 (.seq (.seq (.reg (tm 32 (.c (.int .i64 0)) .done))
 (.block 2 (.loop (.seq (.seq (.reg (tm 187 (.t 32) (tm 188 (.t 30) (tq 189 (.len (.t 188)) (tq 190 (.bin .lss (.t 187) (.t 189)) .done)))))
 (.cond (.t 190) .skip
 (.exit 2)))
 (.seq (.block 3 (.seq (.reg (tm 193 (.t 30) (tm 194 (.t 32) (tq 195 (.iaddr 1 (.t 193) (.t 194)) (tq 196 (.load 1 false (.t 195)) (tm 197 (.t 6) (tq 198 (.bin .eql (.t 196) (.t 197)) .done)))))))
 (.cond (.t 198) (.seq (.reg (tm 4 (.c (.bool false)) .done))
 .ret)
 .skip)))
 (.reg (tm 191 (.t 32) (tq 192 (.bin .add (.t 191) (.c (.int .i64 1))) (tm 32 (.t 192) .done)))))))))
 (.cut (.seq (.reg (tm 199 (.t 27) (tq 200 (.bin .eql (.t 199) (.c (.int .i64 0))) (tm 201 (.t 200) (tg 202 201 true (.mov (.t 28)) (tq 203 (.pick (.t 201) (.t 202) (.c (.bool false))) (tm 204 (.t 203) (tg 205 204 true (.mov (.t 31)) (tg 206 204 true (.bin .eql (.t 205) (.c (.int .i64 0))) (tq 207 (.pick (.t 204) (.t 206) (.c (.bool false))) (tm 208 (.t 207) (tg 209 208 true (.mov (.t 22)) (tg 210 208 true (.bin .eql (.t 209) (.c (.int .i64 0))) (tq 211 (.pick (.t 208) (.t 210) (.c (.bool false))) (tm 212 (.t 211) (tg 213 212 true (.mov (.t 10)) (tg 214 212 true (.bin .eql (.t 213) (.c (.int .i64 0))) (tg 215 212 true (.mov (.t 214)) (tg 216 215 false (.mov (.t 10)) (tg 217 215 false (.bin .eql (.t 216) (.c (.int .i64 8))) (tg 218 215 false (.mov (.t 217)) (tg 219 218 true (.mov (.t 8)) (tg 220 218 true (.mov (.t 5)) (tg 221 218 true (.call 29 [(.t 219), (.t 220)]) (tg 222 215 false (.pick (.t 218) (.t 221) (.c (.bool false))) (tg 223 212 true (.pick (.t 215) (.c (.bool true)) (.t 222)) (tq 224 (.pick (.t 212) (.t 223) (.c (.bool false))) (tm 4 (.t 224) .done))))))))))))))))))))))))))))
 .ret)))))))))))))))))))))
theorem fc9 : fcomp Try.prog Try.f9 = some (c9.erase, [.mov (.t 4)], 225) := by kernel_rfl
def laws_FnLocks_L1 (r_14 : Str) : List Str → Bool → Option Bool
  | [], has_95 =>
    some has_95
  | x_111 :: xs, has_95 =>
    if has_95 then
    laws_FnLocks_L1 r_14 xs true 
    else
    laws_FnLocks_L1 r_14 xs (x_111 == r_14) 

def laws_FnLocks_L2 (r_14 : Str) : List Str → Option (Fl Bool Unit)
  | [] =>
    some (.go ())
  | x_142 :: xs =>
    if (x_142 == r_14) then
    some (.ret false)
    else
    laws_FnLocks_L2 r_14 xs 

def laws_FnLocks (code_1 : (List Int)) (more_2 : (List Int)) : Option Bool :=
    ((if (decide ((code_1.length : Int) > 1048576)) then
    some true
    else
    some (decide ((more_2.length : Int) > 1048576)) : Option Bool)).bind fun s40_6 =>
    if s40_6 then
    some true
    else
    (spec_LocksOf code_1).bind fun r_12 =>
    (spec_LockNameOf more_2).bind fun r_14 =>
    (laws_at more_2 0 3).bind fun r_16 =>
    (impl_TakeLock r_12 r_16 r_14).bind fun r_18 =>
    (spec_TakeLock r_12 r_16 r_14).bind fun r_20 =>
    (impl_StealLock r_12 r_16 r_14).bind fun r_22 =>
    (spec_StealLock r_12 r_16 r_14).bind fun r_24 =>
    (impl_LeaveLock r_22.1 r_16 r_14).bind fun r_26 =>
    (spec_LeaveLock r_22.1 r_16 r_14).bind fun r_28 =>
    ((if (bif (r_18.2.2 != r_20.2.2) then true else (!(r_18.2.1 == r_20.2.1))) then
    some true
    else
    (laws_sameLocks r_18.1 r_20.1).bind fun r_57 =>
    if (bif (!r_57) then true else (r_22.2.2 != r_24.2.2)) then
    some true
    else
    (laws_sameLocks r_22.1 r_24.1).bind fun r_60 =>
    if (!r_60) then
    some true
    else
    (laws_sameTold r_22.2.1 r_24.2.1).bind fun r_63 =>
    if (bif (!r_63) then true else (r_26.2.2 != r_28.2.2)) then
    some true
    else
    (laws_sameLocks r_26.1 r_28.1).bind fun r_66 =>
    if (!r_66) then
    some true
    else
    (laws_sameTold r_26.2.1 r_28.2.1).bind fun r_69 =>
    if (!r_69) then
    some true
    else
    (impl_LocksOK r_18.1).bind fun r_72 =>
    if (!r_72) then
    some true
    else
    (impl_LocksOK r_22.1).bind fun r_75 =>
    if (!r_75) then
    some true
    else
    (impl_LocksOK r_26.1).bind fun r_78 =>
    some (!r_78) : Option Bool)).bind fun s157_54 =>
    if s157_54 then
    some false
    else
    if (r_22.2.2 != 0) then
    some false
    else
    (impl_OwnedBy r_22.1 r_16).bind fun r_82 =>
    (laws_FnLocks_L1 r_14 r_82.1 false).bind fun has_103 =>
    (impl_OwnedBy r_26.1 r_16).bind fun r_115 =>
    (laws_FnLocks_L2 r_14 r_115.1 ).bind fun q => (match q with
    | .ret r => some r
    | .go _ =>
    if (bif (bif (bif (r_82.2 == 0) then has_103 else false) then (r_115.2 == 0) else false) then (r_26.2.2 == 0) else false) then
    if (r_18.2.2 == 0) then
    some true
    else
    if (r_18.2.2 == 8) then
    (laws_sameLocks r_18.1 r_12).bind fun r_149 =>
    some r_149
    else
    some false
    else
    some false)
theorem w_laws_FnLocks (code_1 : (List Int)) (more_2 : (List Int)) (r : Bool) (hf : laws_FnLocks code_1 more_2 = some r) : CallOK Try.prog 9 .flat [(.lst 1 (code_1.map enc_u8)), (.lst 1 (more_2.map enc_u8))] (.bool r) := by
 refine CallOK.of_awp mixed Try.func9 fc9 nle ?_; rw [argT_eq]; unfold laws_FnLocks at hf; unfold c9; refine (show awp Try.prog false 0 _ (ofL [(0, (.lst 1 (code_1.map enc_u8))), (1, (.lst 1 (more_2.map enc_u8)))]) [] _ from ?_); refine awp_seq <| w_reg <| s_mov (.bool false) rfl <| w_done <| k_seq <| awp_seq <| awp_seq <| ?_
 obtain ⟨s40_6, hb1, hf⟩ := ob hf
 refine awp_cut ([(0, (.lst 1 (code_1.map enc_u8))), (1, (.lst 1 (more_2.map enc_u8))), (40, (.bool s40_6))], []) ?_ ?_
 ·refine w_reg ?_
  rcases oi hb1 with ⟨c9, hb1⟩ | ⟨c9, hb1⟩
  ·refine s_mov (.lst 1 (code_1.map enc_u8)) rfl <| s_dof (o_len (enc := enc_u8) rfl) fun hl8 => s_q (.bool (decide ((code_1.length : Int) > 1048576))) rfl rfl rfl <| s_mov (.bool (decide ((code_1.length : Int) > 1048576))) rfl <| s_lit (s := 36) (b := true) rfl c9 <| s_off rfl rfl <| s_off rfl rfl <| s_off rfl rfl <| s_q (.bool true) rfl trivial rfl <| w_done <| ?_; obtain rfl := os hb1; exact ⟨[], [], _, _, rfl, rfl, ⟨.refl _, ⟨.refl _, ⟨.refl _, trivial⟩⟩⟩, (.refl _)⟩
  ·refine s_mov (.lst 1 (code_1.map enc_u8)) rfl <| s_dof (o_len (enc := enc_u8) rfl) fun hl8 => s_q (.bool (decide ((code_1.length : Int) > 1048576))) rfl rfl rfl <| s_mov (.bool (decide ((code_1.length : Int) > 1048576))) rfl <| s_lit (s := 36) (b := false) rfl (bf c9) <| s_on rfl <| s_mov (.lst 1 (more_2.map enc_u8)) rfl <| s_on rfl <| s_dof (o_len (enc := enc_u8) rfl) fun hl10 => s_on rfl <| s_q (.bool (decide ((more_2.length : Int) > 1048576))) rfl rfl rfl <| s_q (.bool (decide ((more_2.length : Int) > 1048576))) rfl trivial rfl <| w_done <| ?_; obtain rfl := os hb1; exact ⟨[], [], _, _, rfl, rfl, ⟨.refl _, ⟨.refl _, ⟨.refl _, trivial⟩⟩⟩, (.refl _)⟩
 ·rcases oi hf with ⟨c11, hf⟩ | ⟨c11, hf⟩
  ·refine w_condt rfl c11 <| awp_seq <| w_reg <| s_mov (.bool true) rfl <| w_done <| k_seq <| w_ret <| ?_; obtain rfl := os hf; exact r_flat ⟨trivial, trivial⟩ rfl (.refl _)
  ·refine w_condf rfl (bf c11) <| w_skip <| k_seq <| awp_seq <| w_reg <| ?_
   obtain ⟨r_12, er13, hf⟩ := ob hf
   refine s_mov (.lst 1 (code_1.map enc_u8)) rfl <| s_do (o_callc rfl (w_spec_LocksOf _ _ er13) rfl (.refl _) rfl) <| s_mov (.lst 2 (r_12.map encGLock)) rfl <| w_done <| k_seq <| awp_seq <| w_reg <| ?_
   obtain ⟨r_14, er15, hf⟩ := ob hf
   refine s_mov (.lst 1 (more_2.map enc_u8)) rfl <| s_do (o_call (w_spec_LockNameOf _ _ er15) rfl (.refl _) rfl) <| s_mov (.str r_14) rfl <| w_done <| k_seq <| awp_seq <| w_reg <| ?_
   obtain ⟨r_16, er17, hf⟩ := ob hf
   refine s_mov (.lst 1 (more_2.map enc_u8)) rfl <| s_do (o_call (w_laws_at _ _ _ _ er17) rfl (.refl _) rfl) <| s_mov (.int .i64 r_16) rfl <| w_done <| k_seq <| awp_seq <| w_reg <| ?_
   obtain ⟨r_18, er19, hf⟩ := ob hf
   refine s_mov (.lst 2 (r_12.map encGLock)) rfl <| s_mov (.int .i64 r_16) rfl <| s_mov (.str r_14) rfl <| s_do (o_callc rfl (w_impl_TakeLock _ _ _ _ er19) rfl (.refl _) rfl) <| s_mov (.tup [(.lst 2 (r_18.1.map encGLock)), (.bool r_18.2.1), (.int .i64 r_18.2.2)]) rfl <| s_q (.lst 2 (r_18.1.map encGLock)) rfl nle rfl <| s_q (.bool r_18.2.1) rfl nle rfl <| s_q (.int .i64 r_18.2.2) rfl nle rfl <| s_mov (.lst 2 (r_18.1.map encGLock)) rfl <| s_mov (.bool r_18.2.1) rfl <| s_mov (.int .i64 r_18.2.2) rfl <| w_done <| k_seq <| awp_seq <| w_reg <| ?_
   obtain ⟨r_20, er21, hf⟩ := ob hf
   refine s_mov (.lst 2 (r_12.map encGLock)) rfl <| s_mov (.int .i64 r_16) rfl <| s_mov (.str r_14) rfl <| s_do (o_callc rfl (w_spec_TakeLock _ _ _ _ er21) rfl (.refl _) rfl) <| s_mov (.tup [(.lst 2 (r_20.1.map encGLock)), (.bool r_20.2.1), (.int .i64 r_20.2.2)]) rfl <| s_q (.lst 2 (r_20.1.map encGLock)) rfl nle rfl <| s_q (.bool r_20.2.1) rfl nle rfl <| s_q (.int .i64 r_20.2.2) rfl nle rfl <| s_mov (.lst 2 (r_20.1.map encGLock)) rfl <| s_mov (.bool r_20.2.1) rfl <| s_mov (.int .i64 r_20.2.2) rfl <| w_done <| k_seq <| awp_seq <| w_reg <| ?_
   obtain ⟨r_22, er23, hf⟩ := ob hf
   refine s_mov (.lst 2 (r_12.map encGLock)) rfl <| s_mov (.int .i64 r_16) rfl <| s_mov (.str r_14) rfl <| s_do (o_callc rfl (w_impl_StealLock _ _ _ _ er23) rfl (.refl _) rfl) <| s_mov (.tup [(.lst 2 (r_22.1.map encGLock)), (.lst 3 (r_22.2.1.map encGTold)), (.int .i64 r_22.2.2)]) rfl <| s_q (.lst 2 (r_22.1.map encGLock)) rfl nle rfl <| s_q (.lst 3 (r_22.2.1.map encGTold)) rfl nle rfl <| s_q (.int .i64 r_22.2.2) rfl nle rfl <| s_mov (.lst 2 (r_22.1.map encGLock)) rfl <| s_mov (.lst 3 (r_22.2.1.map encGTold)) rfl <| s_mov (.int .i64 r_22.2.2) rfl <| w_done <| k_seq <| awp_seq <| w_reg <| ?_
   obtain ⟨r_24, er25, hf⟩ := ob hf
   refine s_mov (.lst 2 (r_12.map encGLock)) rfl <| s_mov (.int .i64 r_16) rfl <| s_mov (.str r_14) rfl <| s_do (o_callc rfl (w_spec_StealLock _ _ _ _ er25) rfl (.refl _) rfl) <| s_mov (.tup [(.lst 2 (r_24.1.map encGLock)), (.lst 3 (r_24.2.1.map encGTold)), (.int .i64 r_24.2.2)]) rfl <| s_q (.lst 2 (r_24.1.map encGLock)) rfl nle rfl <| s_q (.lst 3 (r_24.2.1.map encGTold)) rfl nle rfl <| s_q (.int .i64 r_24.2.2) rfl nle rfl <| s_mov (.lst 2 (r_24.1.map encGLock)) rfl <| s_mov (.lst 3 (r_24.2.1.map encGTold)) rfl <| s_mov (.int .i64 r_24.2.2) rfl <| w_done <| k_seq <| awp_seq <| w_reg <| ?_
   obtain ⟨r_26, er27, hf⟩ := ob hf
   refine s_mov (.lst 2 (r_22.1.map encGLock)) rfl <| s_mov (.int .i64 r_16) rfl <| s_mov (.str r_14) rfl <| s_do (o_callc rfl (w_impl_LeaveLock _ _ _ _ er27) rfl (.refl _) rfl) <| s_mov (.tup [(.lst 2 (r_26.1.map encGLock)), (.lst 3 (r_26.2.1.map encGTold)), (.int .i64 r_26.2.2)]) rfl <| s_q (.lst 2 (r_26.1.map encGLock)) rfl nle rfl <| s_q (.lst 3 (r_26.2.1.map encGTold)) rfl nle rfl <| s_q (.int .i64 r_26.2.2) rfl nle rfl <| s_mov (.lst 2 (r_26.1.map encGLock)) rfl <| s_mov (.lst 3 (r_26.2.1.map encGTold)) rfl <| s_mov (.int .i64 r_26.2.2) rfl <| w_done <| k_seq <| awp_seq <| w_reg <| ?_
   obtain ⟨r_28, er29, hf⟩ := ob hf
   refine s_mov (.lst 2 (r_22.1.map encGLock)) rfl <| s_mov (.int .i64 r_16) rfl <| s_mov (.str r_14) rfl <| s_do (o_callc rfl (w_spec_LeaveLock _ _ _ _ er29) rfl (.refl _) rfl) <| s_mov (.tup [(.lst 2 (r_28.1.map encGLock)), (.lst 3 (r_28.2.1.map encGTold)), (.int .i64 r_28.2.2)]) rfl <| s_q (.lst 2 (r_28.1.map encGLock)) rfl nle rfl <| s_q (.lst 3 (r_28.2.1.map encGTold)) rfl nle rfl <| s_q (.int .i64 r_28.2.2) rfl nle rfl <| s_mov (.lst 2 (r_28.1.map encGLock)) rfl <| s_mov (.lst 3 (r_28.2.1.map encGTold)) rfl <| s_mov (.int .i64 r_28.2.2) rfl <| w_done <| k_seq <| awp_seq <| awp_seq <| ?_
   obtain ⟨s157_54, hb1, hf⟩ := ob hf
   refine awp_cut ([(5, (.lst 2 (r_12.map encGLock))), (6, (.str r_14)), (7, (.int .i64 r_16)), (8, (.lst 2 (r_18.1.map encGLock))), (10, (.int .i64 r_18.2.2)), (14, (.lst 2 (r_22.1.map encGLock))), (16, (.int .i64 r_22.2.2)), (20, (.lst 2 (r_26.1.map encGLock))), (22, (.int .i64 r_26.2.2)), (157, (.bool s157_54))], []) ?_ ?_
   ·refine w_reg <| s_mov (.int .i64 r_18.2.2) rfl <| s_mov (.int .i64 r_20.2.2) rfl <| s_q (.bool (r_18.2.2 != r_20.2.2)) rfl rfl rfl <| s_mov (.bool (r_18.2.2 != r_20.2.2)) rfl <| ?_; refine s_g (v := (r_18.2.2 != r_20.2.2)) (.bool r_18.2.1) rfl (fun hv => by (try simp only [gs_on hv]); exact ⟨rfl, trivial, rfl⟩) ?_; refine s_g (v := (r_18.2.2 != r_20.2.2)) (.bool r_20.2.1) rfl (fun hv => by (try simp only [gs_on hv]); exact ⟨rfl, trivial, rfl⟩) ?_; refine s_g (v := (r_18.2.2 != r_20.2.2)) (.bool (!(r_18.2.1 == r_20.2.1))) rfl (fun hv => by (try simp only [gs_on hv]); exact ⟨rfl, trivial, rfl⟩) ?_; refine s_pick (x := true) (y := (!(r_18.2.1 == r_20.2.1))) rfl (fun hv => by (try simp only [gs_on hv]); rfl) (fun hv => by (try simp only [gs_on hv]); rfl) ?_
    refine s_mov (.bool (bif (r_18.2.2 != r_20.2.2) then true else (!(r_18.2.1 == r_20.2.1)))) rfl ?_
    rcases oi hb1 with ⟨c56, hb1⟩ | ⟨c56, hb1⟩
    ·refine s_lit (s := 103) (b := true) rfl c56 <| s_off rfl rfl <| s_off rfl rfl <| s_off rfl rfl <| s_off rfl rfl <| s_q (.bool true) rfl trivial rfl <| s_mov (.bool true) rfl <| s_off rfl rfl <| s_off rfl rfl <| s_off rfl rfl <| s_q (.bool true) rfl trivial rfl <| s_mov (.bool true) rfl <| s_off rfl rfl <| s_off rfl rfl <| s_off rfl rfl <| s_off rfl rfl <| s_q (.bool true) rfl trivial rfl <| s_mov (.bool true) rfl <| s_off rfl rfl <| s_off rfl rfl <| s_off rfl rfl <| s_off rfl rfl <| s_q (.bool true) rfl trivial rfl <| s_mov (.bool true) rfl <| s_off rfl rfl <| s_off rfl rfl <| s_off rfl rfl <| s_q (.bool true) rfl trivial rfl <| s_mov (.bool true) rfl <| s_off rfl rfl <| s_off rfl rfl <| s_off rfl rfl <| ?_
     refine s_off rfl rfl <| s_q (.bool true) rfl trivial rfl <| s_mov (.bool true) rfl <| s_off rfl rfl <| s_off rfl rfl <| s_off rfl rfl <| s_off rfl rfl <| s_q (.bool true) rfl trivial rfl <| s_mov (.bool true) rfl <| s_off rfl rfl <| s_off rfl rfl <| s_off rfl rfl <| s_q (.bool true) rfl trivial rfl <| s_mov (.bool true) rfl <| s_off rfl rfl <| s_off rfl rfl <| s_off rfl rfl <| s_q (.bool true) rfl trivial rfl <| s_mov (.bool true) rfl <| s_off rfl rfl <| s_off rfl rfl <| s_off rfl rfl <| s_q (.bool true) rfl trivial rfl <| w_done <| ?_; obtain rfl := os hb1; exact ⟨[], [], _, _, rfl, rfl, ⟨.refl _, ⟨.refl _, ⟨.refl _, ⟨.refl _, ⟨.refl _, ⟨.refl _, ⟨.refl _, ⟨.refl _, ⟨.refl _, ⟨.refl _, trivial⟩⟩⟩⟩⟩⟩⟩⟩⟩⟩, (.refl _)⟩
    ·refine s_lit (s := 103) (b := false) rfl (bf c56) <| s_on rfl <| s_mov (.lst 2 (r_18.1.map encGLock)) rfl <| s_on rfl <| s_mov (.lst 2 (r_20.1.map encGLock)) rfl <| s_on rfl <| ?_
     obtain ⟨r_57, er58, hb1⟩ := ob hb1
     refine s_do (o_call (w_laws_sameLocks _ _ _ er58) rfl (.refl _) rfl) <| s_on rfl <| s_q (.bool (!r_57)) rfl trivial rfl <| s_q (.bool (!r_57)) rfl trivial rfl <| s_mov (.bool (!r_57)) rfl <| ?_; refine s_g (v := (!r_57)) (.int .i64 r_22.2.2) rfl (fun hv => by (try simp only [gs_on hv]); exact ⟨rfl, trivial, rfl⟩) ?_; refine s_g (v := (!r_57)) (.int .i64 r_24.2.2) rfl (fun hv => by (try simp only [gs_on hv]); exact ⟨rfl, trivial, rfl⟩) ?_; refine s_g (v := (!r_57)) (.bool (r_22.2.2 != r_24.2.2)) rfl (fun hv => by (try simp only [gs_on hv]); exact ⟨rfl, rfl, rfl⟩) ?_; refine s_pick (x := true) (y := (r_22.2.2 != r_24.2.2)) rfl (fun hv => by (try simp only [gs_on hv]); rfl) (fun hv => by (try simp only [gs_on hv]); rfl) ?_
     refine s_mov (.bool (bif (!r_57) then true else (r_22.2.2 != r_24.2.2))) rfl ?_
     rcases oi hb1 with ⟨c59, hb1⟩ | ⟨c59, hb1⟩
     ·refine s_lit (s := 114) (b := true) rfl c59 <| s_off rfl rfl <| s_off rfl rfl <| s_off rfl rfl <| s_off rfl rfl <| s_q (.bool true) rfl trivial rfl <| s_mov (.bool true) rfl <| s_off rfl rfl <| s_off rfl rfl <| s_off rfl rfl <| s_off rfl rfl <| s_q (.bool true) rfl trivial rfl <| s_mov (.bool true) rfl <| s_off rfl rfl <| s_off rfl rfl <| s_off rfl rfl <| s_q (.bool true) rfl trivial rfl <| s_mov (.bool true) rfl <| s_off rfl rfl <| s_off rfl rfl <| s_off rfl rfl <| s_off rfl rfl <| s_q (.bool true) rfl trivial rfl <| s_mov (.bool true) rfl <| s_off rfl rfl <| s_off rfl rfl <| s_off rfl rfl <| s_off rfl rfl <| s_q (.bool true) rfl trivial rfl <| s_mov (.bool true) rfl <| s_off rfl rfl <| s_off rfl rfl <| ?_
      refine s_off rfl rfl <| s_q (.bool true) rfl trivial rfl <| s_mov (.bool true) rfl <| s_off rfl rfl <| s_off rfl rfl <| s_off rfl rfl <| s_q (.bool true) rfl trivial rfl <| s_mov (.bool true) rfl <| s_off rfl rfl <| s_off rfl rfl <| s_off rfl rfl <| s_q (.bool true) rfl trivial rfl <| w_done <| ?_; obtain rfl := os hb1; exact ⟨[], [], _, _, rfl, rfl, ⟨.refl _, ⟨.refl _, ⟨.refl _, ⟨.refl _, ⟨.refl _, ⟨.refl _, ⟨.refl _, ⟨.refl _, ⟨.refl _, ⟨.refl _, trivial⟩⟩⟩⟩⟩⟩⟩⟩⟩⟩, (.refl _)⟩
     ·refine s_lit (s := 114) (b := false) rfl (bf c59) <| s_on rfl <| s_mov (.lst 2 (r_22.1.map encGLock)) rfl <| s_on rfl <| s_mov (.lst 2 (r_24.1.map encGLock)) rfl <| s_on rfl <| ?_
      obtain ⟨r_60, er61, hb1⟩ := ob hb1
      refine s_do (o_call (w_laws_sameLocks _ _ _ er61) rfl (.refl _) rfl) <| s_on rfl <| s_q (.bool (!r_60)) rfl trivial rfl <| s_q (.bool (!r_60)) rfl trivial rfl <| s_mov (.bool (!r_60)) rfl <| ?_
      rcases oi hb1 with ⟨c62, hb1⟩ | ⟨c62, hb1⟩
      ·refine s_lit (s := 120) (b := true) rfl c62 <| s_off rfl rfl <| s_off rfl rfl <| s_off rfl rfl <| s_off rfl rfl <| s_q (.bool true) rfl trivial rfl <| s_mov (.bool true) rfl <| s_off rfl rfl <| s_off rfl rfl <| s_off rfl rfl <| s_q (.bool true) rfl trivial rfl <| s_mov (.bool true) rfl <| s_off rfl rfl <| s_off rfl rfl <| s_off rfl rfl <| s_off rfl rfl <| s_q (.bool true) rfl trivial rfl <| s_mov (.bool true) rfl <| s_off rfl rfl <| s_off rfl rfl <| s_off rfl rfl <| s_off rfl rfl <| s_q (.bool true) rfl trivial rfl <| s_mov (.bool true) rfl <| s_off rfl rfl <| s_off rfl rfl <| s_off rfl rfl <| s_q (.bool true) rfl trivial rfl <| s_mov (.bool true) rfl <| s_off rfl rfl <| s_off rfl rfl <| s_off rfl rfl <| ?_
       refine s_q (.bool true) rfl trivial rfl <| s_mov (.bool true) rfl <| s_off rfl rfl <| s_off rfl rfl <| s_off rfl rfl <| s_q (.bool true) rfl trivial rfl <| w_done <| ?_; obtain rfl := os hb1; exact ⟨[], [], _, _, rfl, rfl, ⟨.refl _, ⟨.refl _, ⟨.refl _, ⟨.refl _, ⟨.refl _, ⟨.refl _, ⟨.refl _, ⟨.refl _, ⟨.refl _, ⟨.refl _, trivial⟩⟩⟩⟩⟩⟩⟩⟩⟩⟩, (.refl _)⟩
      ·refine s_lit (s := 120) (b := false) rfl (bf c62) <| s_on rfl <| s_mov (.lst 3 (r_22.2.1.map encGTold)) rfl <| s_on rfl <| s_mov (.lst 3 (r_24.2.1.map encGTold)) rfl <| s_on rfl <| ?_
       obtain ⟨r_63, er64, hb1⟩ := ob hb1
       refine s_do (o_call (w_laws_sameTold _ _ _ er64) rfl (.refl _) rfl) <| s_on rfl <| s_q (.bool (!r_63)) rfl trivial rfl <| s_q (.bool (!r_63)) rfl trivial rfl <| s_mov (.bool (!r_63)) rfl <| ?_; refine s_g (v := (!r_63)) (.int .i64 r_26.2.2) rfl (fun hv => by (try simp only [gs_on hv]); exact ⟨rfl, trivial, rfl⟩) ?_; refine s_g (v := (!r_63)) (.int .i64 r_28.2.2) rfl (fun hv => by (try simp only [gs_on hv]); exact ⟨rfl, trivial, rfl⟩) ?_; refine s_g (v := (!r_63)) (.bool (r_26.2.2 != r_28.2.2)) rfl (fun hv => by (try simp only [gs_on hv]); exact ⟨rfl, rfl, rfl⟩) ?_; refine s_pick (x := true) (y := (r_26.2.2 != r_28.2.2)) rfl (fun hv => by (try simp only [gs_on hv]); rfl) (fun hv => by (try simp only [gs_on hv]); rfl) ?_
       refine s_mov (.bool (bif (!r_63) then true else (r_26.2.2 != r_28.2.2))) rfl ?_
       rcases oi hb1 with ⟨c65, hb1⟩ | ⟨c65, hb1⟩
       ·refine s_lit (s := 131) (b := true) rfl c65 <| s_off rfl rfl <| s_off rfl rfl <| s_off rfl rfl <| s_off rfl rfl <| s_q (.bool true) rfl trivial rfl <| s_mov (.bool true) rfl <| s_off rfl rfl <| s_off rfl rfl <| s_off rfl rfl <| s_off rfl rfl <| s_q (.bool true) rfl trivial rfl <| s_mov (.bool true) rfl <| s_off rfl rfl <| s_off rfl rfl <| s_off rfl rfl <| s_q (.bool true) rfl trivial rfl <| s_mov (.bool true) rfl <| s_off rfl rfl <| s_off rfl rfl <| s_off rfl rfl <| s_q (.bool true) rfl trivial rfl <| s_mov (.bool true) rfl <| s_off rfl rfl <| s_off rfl rfl <| s_off rfl rfl <| s_q (.bool true) rfl trivial rfl <| w_done <| ?_; obtain rfl := os hb1; exact ⟨[], [], _, _, rfl, rfl, ⟨.refl _, ⟨.refl _, ⟨.refl _, ⟨.refl _, ⟨.refl _, ⟨.refl _, ⟨.refl _, ⟨.refl _, ⟨.refl _, ⟨.refl _, trivial⟩⟩⟩⟩⟩⟩⟩⟩⟩⟩, (.refl _)⟩
       ·refine s_lit (s := 131) (b := false) rfl (bf c65) <| s_on rfl <| s_mov (.lst 2 (r_26.1.map encGLock)) rfl <| s_on rfl <| s_mov (.lst 2 (r_28.1.map encGLock)) rfl <| s_on rfl <| ?_
        obtain ⟨r_66, er67, hb1⟩ := ob hb1
        refine s_do (o_call (w_laws_sameLocks _ _ _ er67) rfl (.refl _) rfl) <| s_on rfl <| s_q (.bool (!r_66)) rfl trivial rfl <| s_q (.bool (!r_66)) rfl trivial rfl <| s_mov (.bool (!r_66)) rfl <| ?_
        rcases oi hb1 with ⟨c68, hb1⟩ | ⟨c68, hb1⟩
        ·refine s_lit (s := 137) (b := true) rfl c68 <| s_off rfl rfl <| s_off rfl rfl <| s_off rfl rfl <| s_off rfl rfl <| s_q (.bool true) rfl trivial rfl <| s_mov (.bool true) rfl <| s_off rfl rfl <| s_off rfl rfl <| s_off rfl rfl <| s_q (.bool true) rfl trivial rfl <| s_mov (.bool true) rfl <| s_off rfl rfl <| s_off rfl rfl <| s_off rfl rfl <| s_q (.bool true) rfl trivial rfl <| s_mov (.bool true) rfl <| s_off rfl rfl <| s_off rfl rfl <| s_off rfl rfl <| s_q (.bool true) rfl trivial rfl <| w_done <| ?_; obtain rfl := os hb1; exact ⟨[], [], _, _, rfl, rfl, ⟨.refl _, ⟨.refl _, ⟨.refl _, ⟨.refl _, ⟨.refl _, ⟨.refl _, ⟨.refl _, ⟨.refl _, ⟨.refl _, ⟨.refl _, trivial⟩⟩⟩⟩⟩⟩⟩⟩⟩⟩, (.refl _)⟩
        ·refine s_lit (s := 137) (b := false) rfl (bf c68) <| s_on rfl <| s_mov (.lst 3 (r_26.2.1.map encGTold)) rfl <| s_on rfl <| s_mov (.lst 3 (r_28.2.1.map encGTold)) rfl <| s_on rfl <| ?_
         obtain ⟨r_69, er70, hb1⟩ := ob hb1
         refine s_do (o_call (w_laws_sameTold _ _ _ er70) rfl (.refl _) rfl) <| s_on rfl <| s_q (.bool (!r_69)) rfl trivial rfl <| s_q (.bool (!r_69)) rfl trivial rfl <| s_mov (.bool (!r_69)) rfl <| ?_
         rcases oi hb1 with ⟨c71, hb1⟩ | ⟨c71, hb1⟩
         ·refine s_lit (s := 143) (b := true) rfl c71 <| s_off rfl rfl <| s_off rfl rfl <| s_off rfl rfl <| s_q (.bool true) rfl trivial rfl <| s_mov (.bool true) rfl <| s_off rfl rfl <| s_off rfl rfl <| s_off rfl rfl <| s_q (.bool true) rfl trivial rfl <| s_mov (.bool true) rfl <| s_off rfl rfl <| s_off rfl rfl <| s_off rfl rfl <| s_q (.bool true) rfl trivial rfl <| w_done <| ?_; obtain rfl := os hb1; exact ⟨[], [], _, _, rfl, rfl, ⟨.refl _, ⟨.refl _, ⟨.refl _, ⟨.refl _, ⟨.refl _, ⟨.refl _, ⟨.refl _, ⟨.refl _, ⟨.refl _, ⟨.refl _, trivial⟩⟩⟩⟩⟩⟩⟩⟩⟩⟩, (.refl _)⟩
         ·refine s_lit (s := 143) (b := false) rfl (bf c71) <| s_on rfl <| s_mov (.lst 2 (r_18.1.map encGLock)) rfl <| s_on rfl <| ?_
          obtain ⟨r_72, er73, hb1⟩ := ob hb1
          refine s_do (o_call (w_impl_LocksOK _ _ er73) rfl (.refl _) rfl) <| s_on rfl <| s_q (.bool (!r_72)) rfl trivial rfl <| s_q (.bool (!r_72)) rfl trivial rfl <| s_mov (.bool (!r_72)) rfl <| ?_
          rcases oi hb1 with ⟨c74, hb1⟩ | ⟨c74, hb1⟩
          ·refine s_lit (s := 148) (b := true) rfl c74 <| s_off rfl rfl <| s_off rfl rfl <| s_off rfl rfl <| s_q (.bool true) rfl trivial rfl <| s_mov (.bool true) rfl <| s_off rfl rfl <| s_off rfl rfl <| s_off rfl rfl <| s_q (.bool true) rfl trivial rfl <| w_done <| ?_; obtain rfl := os hb1; exact ⟨[], [], _, _, rfl, rfl, ⟨.refl _, ⟨.refl _, ⟨.refl _, ⟨.refl _, ⟨.refl _, ⟨.refl _, ⟨.refl _, ⟨.refl _, ⟨.refl _, ⟨.refl _, trivial⟩⟩⟩⟩⟩⟩⟩⟩⟩⟩, (.refl _)⟩
          ·refine s_lit (s := 148) (b := false) rfl (bf c74) <| s_on rfl <| s_mov (.lst 2 (r_22.1.map encGLock)) rfl <| s_on rfl <| ?_
           obtain ⟨r_75, er76, hb1⟩ := ob hb1
           refine s_do (o_call (w_impl_LocksOK _ _ er76) rfl (.refl _) rfl) <| s_on rfl <| s_q (.bool (!r_75)) rfl trivial rfl <| s_q (.bool (!r_75)) rfl trivial rfl <| s_mov (.bool (!r_75)) rfl <| ?_
           rcases oi hb1 with ⟨c77, hb1⟩ | ⟨c77, hb1⟩
           ·refine s_lit (s := 153) (b := true) rfl c77 <| s_off rfl rfl <| s_off rfl rfl <| s_off rfl rfl <| s_q (.bool true) rfl trivial rfl <| w_done <| ?_; obtain rfl := os hb1; exact ⟨[], [], _, _, rfl, rfl, ⟨.refl _, ⟨.refl _, ⟨.refl _, ⟨.refl _, ⟨.refl _, ⟨.refl _, ⟨.refl _, ⟨.refl _, ⟨.refl _, ⟨.refl _, trivial⟩⟩⟩⟩⟩⟩⟩⟩⟩⟩, (.refl _)⟩
           ·refine s_lit (s := 153) (b := false) rfl (bf c77) <| s_on rfl <| s_mov (.lst 2 (r_26.1.map encGLock)) rfl <| s_on rfl <| ?_
            obtain ⟨r_78, er79, hb1⟩ := ob hb1
            refine s_do (o_call (w_impl_LocksOK _ _ er79) rfl (.refl _) rfl) <| s_on rfl <| s_q (.bool (!r_78)) rfl trivial rfl <| s_q (.bool (!r_78)) rfl trivial rfl <| w_done <| ?_; obtain rfl := os hb1; exact ⟨[], [], _, _, rfl, rfl, ⟨.refl _, ⟨.refl _, ⟨.refl _, ⟨.refl _, ⟨.refl _, ⟨.refl _, ⟨.refl _, ⟨.refl _, ⟨.refl _, ⟨.refl _, trivial⟩⟩⟩⟩⟩⟩⟩⟩⟩⟩, (.refl _)⟩
   ·rcases oi hf with ⟨c80, hf⟩ | ⟨c80, hf⟩
    ·refine w_condt rfl c80 <| awp_seq <| w_reg <| s_mov (.bool false) rfl <| w_done <| k_seq <| w_ret <| ?_; obtain rfl := os hf; exact r_flat ⟨trivial, trivial⟩ rfl (.refl _)
    ·refine w_condf rfl (bf c80) <| w_skip <| k_seq <| awp_seq <| awp_seq <| w_reg <| s_mov (.int .i64 r_22.2.2) rfl <| s_q (.bool (r_22.2.2 != 0)) rfl rfl rfl <| w_done <| k_seq <| ?_
     rcases oi hf with ⟨c81, hf⟩ | ⟨c81, hf⟩
     ·refine w_condt rfl c81 <| awp_seq <| w_reg <| s_mov (.bool false) rfl <| w_done <| k_seq <| w_ret <| ?_; obtain rfl := os hf; exact r_flat ⟨trivial, trivial⟩ rfl (.refl _)
     ·refine w_condf rfl (bf c81) <| w_skip <| k_seq <| awp_seq <| w_reg <| ?_
      obtain ⟨r_82, er83, hf⟩ := ob hf
      refine s_mov (.lst 2 (r_22.1.map encGLock)) rfl <| s_mov (.int .i64 r_16) rfl <| s_do (o_callc rfl (w_impl_OwnedBy _ _ _ er83) rfl (.refl _) rfl) <| s_mov (.tup [(.lst 1 (r_82.1.map AV.str)), (.int .i64 r_82.2)]) rfl <| s_q (.lst 1 (r_82.1.map AV.str)) rfl nle rfl <| s_q (.int .i64 r_82.2) rfl nle rfl <| s_mov (.lst 1 (r_82.1.map AV.str)) rfl <| s_mov (.int .i64 r_82.2) rfl <| w_done <| k_seq <| awp_seq <| w_reg <| s_mov (.bool false) rfl <| w_done <| k_seq <| awp_seq <| awp_seq <| w_reg <| s_mov (.int .i64 0) rfl <| w_done <| k_seq <| ?_
      obtain ⟨has_103, hb1, hf⟩ := ob hf
      refine awp_cut ([(5, (.lst 2 (r_12.map encGLock))), (6, (.str r_14)), (7, (.int .i64 r_16)), (8, (.lst 2 (r_18.1.map encGLock))), (10, (.int .i64 r_18.2.2)), (20, (.lst 2 (r_26.1.map encGLock))), (22, (.int .i64 r_26.2.2)), (27, (.int .i64 r_82.2)), (28, (.bool has_103))], []) ?_ ?_
      ·refine awp_loop (X := {q : (Bool × Nat) // laws_FnLocks_L1 r_14 (r_82.1.drop q.2) q.1 = some has_103}) (fun q => ([(5, (.lst 2 (r_12.map encGLock))), (6, (.str r_14)), (7, (.int .i64 r_16)), (8, (.lst 2 (r_18.1.map encGLock))), (10, (.int .i64 r_18.2.2)), (20, (.lst 2 (r_26.1.map encGLock))), (22, (.int .i64 r_26.2.2)), (26, (.lst 1 (r_82.1.map AV.str))), (27, (.int .i64 r_82.2)), (28, (.bool q.1.1)), (29, (.int .i64 (q.1.2 : Int)))], [])) (fun q => r_82.1.length - q.1.2) ⟨(false, 0), hb1⟩ ⟨[], [], _, _, rfl, rfl, ⟨.refl _, ⟨.refl _, ⟨.refl _, ⟨.refl _, ⟨.refl _, ⟨.refl _, ⟨.refl _, ⟨.refl _, ⟨.refl _, ⟨.refl _, ⟨.refl _, trivial⟩⟩⟩⟩⟩⟩⟩⟩⟩⟩⟩, (.refl _)⟩ ?_
       rintro ⟨⟨has_95, k_96⟩, hc1⟩
       have hc1 : laws_FnLocks_L1 r_14 (r_82.1.drop k_96) has_95 = some has_103 := hc1
       refine (show awp Try.prog false 0 _ (ofL [(5, (.lst 2 (r_12.map encGLock))), (6, (.str r_14)), (7, (.int .i64 r_16)), (8, (.lst 2 (r_18.1.map encGLock))), (10, (.int .i64 r_18.2.2)), (20, (.lst 2 (r_26.1.map encGLock))), (22, (.int .i64 r_26.2.2)), (26, (.lst 1 (r_82.1.map AV.str))), (27, (.int .i64 r_82.2)), (28, (.bool has_95)), (29, (.int .i64 (k_96 : Int)))]) [] _ from ?_)
       rcases dropc r_82.1 k_96 with ⟨hie107, hd110⟩ | ⟨hlt105, x_111, hx106, hd110⟩
       ·rw [hd110, laws_FnLocks_L1.eq_1] at hc1
        have hq109 := dlf hie107
        refine awp_seq <| awp_seq <| w_reg <| s_mov (.int .i64 (k_96 : Int)) rfl <| s_mov (.lst 1 (r_82.1.map AV.str)) rfl <| s_dof (o_len (enc := AV.str) rfl) fun hl112 => s_q (.bool (decide ((k_96 : Int) < (r_82.1.length : Int)))) rfl rfl rfl <| w_done <| k_seq <| w_condf rfl hq109 <| w_exit <| k_seqx <| k_loopx <| k_blkx <| ?_; obtain rfl := os hc1; exact ⟨[], [], _, _, rfl, rfl, ⟨.refl _, ⟨.refl _, ⟨.refl _, ⟨.refl _, ⟨.refl _, ⟨.refl _, ⟨.refl _, ⟨.refl _, ⟨.refl _, trivial⟩⟩⟩⟩⟩⟩⟩⟩⟩, (.refl _)⟩
       ·rw [hd110, laws_FnLocks_L1.eq_2] at hc1
        have hq109 := dlt hlt105
        refine awp_seq <| awp_seq <| w_reg <| s_mov (.int .i64 (k_96 : Int)) rfl <| s_mov (.lst 1 (r_82.1.map AV.str)) rfl <| s_dof (o_len (enc := AV.str) rfl) fun hl113 => s_q (.bool (decide ((k_96 : Int) < (r_82.1.length : Int)))) rfl rfl rfl <| w_done <| k_seq <| w_condt rfl hq109 <| w_skip <| k_seq <| awp_seq <| w_blk <| w_reg <| ?_
        rcases oi hc1 with ⟨c114, hc1⟩ | ⟨c114, hc1⟩
        ·refine s_mov (.bool has_95) rfl <| s_mov (.bool has_95) rfl <| s_lit (s := 173) (b := true) rfl c114 <| s_off rfl rfl <| s_off rfl rfl <| s_off rfl rfl <| s_off rfl rfl <| s_off rfl rfl <| s_off rfl rfl <| s_q (.bool true) rfl trivial rfl <| s_mov (.bool true) rfl <| w_done <| k_blk <| k_seq <| w_reg <| s_mov (.int .i64 (k_96 : Int)) rfl <| s_q (.int .i64 (w64 ((k_96 : Int) + 1))) rfl rfl rfl <| s_mov (.int .i64 (w64 ((k_96 : Int) + 1))) rfl <| w_done <| ?_; exact k_loopn ⟨(true, (k_96 + 1)), hc1⟩ (mul hlt105) ⟨[], [], _, _, rfl, rfl, ⟨.refl _, ⟨.refl _, ⟨.refl _, ⟨.refl _, ⟨.refl _, ⟨.refl _, ⟨.refl _, ⟨.refl _, ⟨.refl _, ⟨.refl _, ⟨.of_eq (congrArg (AV.int _) (w64_incr hlt105 hl113)), trivial⟩⟩⟩⟩⟩⟩⟩⟩⟩⟩⟩, (.refl _)⟩
        ·refine s_mov (.bool has_95) rfl <| s_mov (.bool has_95) rfl <| s_lit (s := 173) (b := false) rfl (bf c114) <| s_on rfl <| s_mov (.lst 1 (r_82.1.map AV.str)) rfl <| s_on rfl <| s_mov (.int .i64 (k_96 : Int)) rfl <| s_on rfl <| s_do (o_iaddrn (enc := AV.str) rfl rfl hx106) <| s_on rfl <| s_q (.str x_111) rfl ⟨rfl, rfl⟩ rfl <| s_on rfl <| s_mov (.str r_14) rfl <| s_on rfl <| s_q (.bool (x_111 == r_14)) rfl trivial rfl <| s_q (.bool (x_111 == r_14)) rfl trivial rfl <| s_mov (.bool (x_111 == r_14)) rfl <| w_done <| k_blk <| k_seq <| w_reg <| s_mov (.int .i64 (k_96 : Int)) rfl <| s_q (.int .i64 (w64 ((k_96 : Int) + 1))) rfl rfl rfl <| s_mov (.int .i64 (w64 ((k_96 : Int) + 1))) rfl <| w_done <| ?_; exact k_loopn ⟨((x_111 == r_14), (k_96 + 1)), hc1⟩ (mul hlt105) ⟨[], [], _, _, rfl, rfl, ⟨.refl _, ⟨.refl _, ⟨.refl _, ⟨.refl _, ⟨.refl _, ⟨.refl _, ⟨.refl _, ⟨.refl _, ⟨.refl _, ⟨.refl _, ⟨.of_eq (congrArg (AV.int _) (w64_incr hlt105 hl113)), trivial⟩⟩⟩⟩⟩⟩⟩⟩⟩⟩⟩, (.refl _)⟩
      ·refine awp_seq <| w_reg <| ?_
       obtain ⟨r_115, er116, hf⟩ := ob hf
       refine s_mov (.lst 2 (r_26.1.map encGLock)) rfl <| s_mov (.int .i64 r_16) rfl <| s_do (o_callc rfl (w_impl_OwnedBy _ _ _ er116) rfl (.refl _) rfl) <| s_mov (.tup [(.lst 1 (r_115.1.map AV.str)), (.int .i64 r_115.2)]) rfl <| s_q (.lst 1 (r_115.1.map AV.str)) rfl nle rfl <| s_q (.int .i64 r_115.2) rfl nle rfl <| s_mov (.lst 1 (r_115.1.map AV.str)) rfl <| s_mov (.int .i64 r_115.2) rfl <| w_done <| k_seq <| awp_seq <| awp_seq <| w_reg <| s_mov (.int .i64 0) rfl <| w_done <| k_seq <| ?_
       obtain ⟨p135, hb1, hf⟩ := ob hf
       refine awp_cutx (X := {q : Unit // p135 = .go q}) (fun q => ([(5, (.lst 2 (r_12.map encGLock))), (8, (.lst 2 (r_18.1.map encGLock))), (10, (.int .i64 r_18.2.2)), (22, (.int .i64 r_26.2.2)), (27, (.int .i64 r_82.2)), (28, (.bool has_103)), (31, (.int .i64 r_115.2))], [])) ?_ ?_
       ·refine awp_loop (X := {q : Nat // laws_FnLocks_L2 r_14 (r_115.1.drop q)  = some p135}) (fun q => ([(5, (.lst 2 (r_12.map encGLock))), (6, (.str r_14)), (8, (.lst 2 (r_18.1.map encGLock))), (10, (.int .i64 r_18.2.2)), (22, (.int .i64 r_26.2.2)), (27, (.int .i64 r_82.2)), (28, (.bool has_103)), (30, (.lst 1 (r_115.1.map AV.str))), (31, (.int .i64 r_115.2)), (32, (.int .i64 (q.1 : Int)))], [])) (fun q => r_115.1.length - q.1) ⟨0, hb1⟩ ⟨[], [], _, _, rfl, rfl, ⟨.refl _, ⟨.refl _, ⟨.refl _, ⟨.refl _, ⟨.refl _, ⟨.refl _, ⟨.refl _, ⟨.refl _, ⟨.refl _, ⟨.refl _, trivial⟩⟩⟩⟩⟩⟩⟩⟩⟩⟩, (.refl _)⟩ ?_
        rintro ⟨k_128, hc1⟩
        have hc1 : laws_FnLocks_L2 r_14 (r_115.1.drop k_128)  = some p135 := hc1
        refine (show awp Try.prog false 0 _ (ofL [(5, (.lst 2 (r_12.map encGLock))), (6, (.str r_14)), (8, (.lst 2 (r_18.1.map encGLock))), (10, (.int .i64 r_18.2.2)), (22, (.int .i64 r_26.2.2)), (27, (.int .i64 r_82.2)), (28, (.bool has_103)), (30, (.lst 1 (r_115.1.map AV.str))), (31, (.int .i64 r_115.2)), (32, (.int .i64 (k_128 : Int)))]) [] _ from ?_)
        rcases dropc r_115.1 k_128 with ⟨hie138, hd141⟩ | ⟨hlt136, x_142, hx137, hd141⟩
        ·rw [hd141, laws_FnLocks_L2.eq_1] at hc1
         have hq140 := dlf hie138
         refine awp_seq <| awp_seq <| w_reg <| s_mov (.int .i64 (k_128 : Int)) rfl <| s_mov (.lst 1 (r_115.1.map AV.str)) rfl <| s_dof (o_len (enc := AV.str) rfl) fun hl143 => s_q (.bool (decide ((k_128 : Int) < (r_115.1.length : Int)))) rfl rfl rfl <| w_done <| k_seq <| w_condf rfl hq140 <| w_exit <| k_seqx <| k_loopx <| k_blkx <| ?_; obtain rfl := os hc1; exact k_cutn ⟨_, rfl⟩ ⟨[], [], _, _, rfl, rfl, ⟨.refl _, ⟨.refl _, ⟨.refl _, ⟨.refl _, ⟨.refl _, ⟨.refl _, ⟨.refl _, trivial⟩⟩⟩⟩⟩⟩⟩, (.refl _)⟩
        ·rw [hd141, laws_FnLocks_L2.eq_2] at hc1
         have hq140 := dlt hlt136
         refine awp_seq <| awp_seq <| w_reg <| s_mov (.int .i64 (k_128 : Int)) rfl <| s_mov (.lst 1 (r_115.1.map AV.str)) rfl <| s_dof (o_len (enc := AV.str) rfl) fun hl144 => s_q (.bool (decide ((k_128 : Int) < (r_115.1.length : Int)))) rfl rfl rfl <| w_done <| k_seq <| w_condt rfl hq140 <| w_skip <| k_seq <| awp_seq <| w_blk <| awp_seq <| w_reg <| s_mov (.lst 1 (r_115.1.map AV.str)) rfl <| s_mov (.int .i64 (k_128 : Int)) rfl <| s_do (o_iaddrn (enc := AV.str) rfl rfl hx137) <| s_q (.str x_142) rfl ⟨rfl, rfl⟩ rfl <| s_mov (.str r_14) rfl <| s_q (.bool (x_142 == r_14)) rfl trivial rfl <| w_done <| k_seq <| ?_
         rcases oi hc1 with ⟨c145, hc1⟩ | ⟨c145, hc1⟩
         ·refine w_condt rfl c145 <| awp_seq <| w_reg <| s_mov (.bool false) rfl <| w_done <| k_seq <| w_ret <| ?_; obtain rfl := os hc1; obtain rfl := os hf; exact r_flat ⟨trivial, trivial⟩ rfl (.refl _)
         ·refine w_condf rfl (bf c145) <| w_skip <| k_blk <| k_seq <| w_reg <| s_mov (.int .i64 (k_128 : Int)) rfl <| s_q (.int .i64 (w64 ((k_128 : Int) + 1))) rfl rfl rfl <| s_mov (.int .i64 (w64 ((k_128 : Int) + 1))) rfl <| w_done <| ?_; exact k_loopn ⟨(k_128 + 1), hc1⟩ (mul hlt136) ⟨[], [], _, _, rfl, rfl, ⟨.refl _, ⟨.refl _, ⟨.refl _, ⟨.refl _, ⟨.refl _, ⟨.refl _, ⟨.refl _, ⟨.refl _, ⟨.refl _, ⟨.of_eq (congrArg (AV.int _) (w64_incr hlt136 hl144)), trivial⟩⟩⟩⟩⟩⟩⟩⟩⟩⟩, (.refl _)⟩
       ·rintro ⟨_, rfl⟩
        refine awp_seq <| w_reg <| s_mov (.int .i64 r_82.2) rfl <| s_q (.bool (r_82.2 == 0)) rfl rfl rfl <| s_mov (.bool (r_82.2 == 0)) rfl <| ?_; refine s_g (v := (r_82.2 == 0)) (.bool has_103) rfl (fun hv => by (try simp only [gs_on hv]); exact ⟨rfl, trivial, rfl⟩) ?_; refine s_pick (x := has_103) (y := false) rfl (fun hv => by (try simp only [gs_on hv]); rfl) (fun hv => by (try simp only [gs_on hv]); rfl) ?_; refine s_mov (.bool (bif (r_82.2 == 0) then has_103 else false)) rfl ?_; refine s_g (v := (bif (r_82.2 == 0) then has_103 else false)) (.int .i64 r_115.2) rfl (fun hv => by (try simp only [gs_on hv]); exact ⟨rfl, trivial, rfl⟩) ?_; refine s_g (v := (bif (r_82.2 == 0) then has_103 else false)) (.bool (r_115.2 == 0)) rfl (fun hv => by (try simp only [gs_on hv]); exact ⟨rfl, rfl, rfl⟩) ?_
        refine s_pick (x := (r_115.2 == 0)) (y := false) rfl (fun hv => by (try simp only [gs_on hv]); rfl) (fun hv => by (try simp only [gs_on hv]); rfl) ?_; refine s_mov (.bool (bif (bif (r_82.2 == 0) then has_103 else false) then (r_115.2 == 0) else false)) rfl ?_; refine s_g (v := (bif (bif (r_82.2 == 0) then has_103 else false) then (r_115.2 == 0) else false)) (.int .i64 r_26.2.2) rfl (fun hv => by (try simp only [gs_on hv]); exact ⟨rfl, trivial, rfl⟩) ?_; refine s_g (v := (bif (bif (r_82.2 == 0) then has_103 else false) then (r_115.2 == 0) else false)) (.bool (r_26.2.2 == 0)) rfl (fun hv => by (try simp only [gs_on hv]); exact ⟨rfl, rfl, rfl⟩) ?_; refine s_pick (x := (r_26.2.2 == 0)) (y := false) rfl (fun hv => by (try simp only [gs_on hv]); rfl) (fun hv => by (try simp only [gs_on hv]); rfl) ?_
        refine s_mov (.bool (bif (bif (bif (r_82.2 == 0) then has_103 else false) then (r_115.2 == 0) else false) then (r_26.2.2 == 0) else false)) rfl ?_
        rcases oi hf with ⟨c146, hf⟩ | ⟨c146, hf⟩
        ·refine s_lit (s := 212) (b := true) rfl c146 <| s_on rfl <| s_mov (.int .i64 r_18.2.2) rfl <| s_on rfl <| s_q (.bool (r_18.2.2 == 0)) rfl rfl rfl <| s_on rfl <| s_mov (.bool (r_18.2.2 == 0)) rfl <| ?_
         rcases oi hf with ⟨c147, hf⟩ | ⟨c147, hf⟩
         ·refine s_lit (s := 215) (b := true) rfl c147 <| s_off rfl rfl <| s_off rfl rfl <| s_off rfl rfl <| s_offs rfl <| s_offs rfl <| s_offs rfl <| s_off rfl rfl <| s_on rfl <| s_q (.bool true) rfl trivial rfl <| s_q (.bool true) rfl trivial rfl <| s_mov (.bool true) rfl <| w_done <| k_seq <| w_ret <| ?_; obtain rfl := os hf; exact r_flat ⟨trivial, trivial⟩ rfl (.refl _)
         ·refine s_lit (s := 215) (b := false) rfl (bf c147) <| s_on rfl <| s_mov (.int .i64 r_18.2.2) rfl <| s_on rfl <| s_q (.bool (r_18.2.2 == 8)) rfl rfl rfl <| s_on rfl <| s_mov (.bool (r_18.2.2 == 8)) rfl <| ?_
          rcases oi hf with ⟨c148, hf⟩ | ⟨c148, hf⟩
          ·refine s_lit (s := 218) (b := true) rfl c148 <| s_on rfl <| s_mov (.lst 2 (r_18.1.map encGLock)) rfl <| s_on rfl <| s_mov (.lst 2 (r_12.map encGLock)) rfl <| s_on rfl <| ?_
           obtain ⟨r_149, er150, hf⟩ := ob hf
           refine s_do (o_call (w_laws_sameLocks _ _ _ er150) rfl (.refl _) rfl) <| s_on rfl <| s_q (.bool r_149) rfl trivial rfl <| s_on rfl <| s_q (.bool r_149) rfl trivial rfl <| s_q (.bool r_149) rfl trivial rfl <| s_mov (.bool r_149) rfl <| w_done <| k_seq <| w_ret <| ?_; obtain rfl := os hf; exact r_flat ⟨trivial, trivial⟩ rfl (.refl _)
          ·refine s_lit (s := 218) (b := false) rfl (bf c148) <| s_off rfl rfl <| s_off rfl rfl <| s_off rfl rfl <| s_on rfl <| s_q (.bool false) rfl trivial rfl <| s_on rfl <| s_q (.bool false) rfl trivial rfl <| s_q (.bool false) rfl trivial rfl <| s_mov (.bool false) rfl <| w_done <| k_seq <| w_ret <| ?_; obtain rfl := os hf; exact r_flat ⟨trivial, trivial⟩ rfl (.refl _)
        ·refine s_lit (s := 212) (b := false) rfl (bf c146) <| s_off rfl rfl <| s_off rfl rfl <| s_off rfl rfl <| s_offs rfl <| s_offs rfl <| s_offs rfl <| s_offs rfl <| s_offs rfl <| s_offs rfl <| s_offs rfl <| s_off rfl rfl <| s_q (.bool false) rfl trivial rfl <| s_mov (.bool false) rfl <| w_done <| k_seq <| w_ret <| ?_; obtain rfl := os hf; exact r_flat ⟨trivial, trivial⟩ rfl (.refl _)

end Go.R
