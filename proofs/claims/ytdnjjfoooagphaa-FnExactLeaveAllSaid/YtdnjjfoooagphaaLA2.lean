/- Walks. -/
import Derived.Test.YtdnjjfoooagphaaLA1
set_option linter.all false
namespace Go.R
open Go Go.Proofs
set_option linter.unusedVariables false
set_option linter.unusedSimpArgs false
set_option maxHeartbeats 8000000
/- impl.copyLocks -/
def c98 : ACode :=
 (.seq (.reg (tm 2 (.c .nil) .done))
 (.seq (.reg (tq 6 (.bslice 2 []) (tm 3 (.t 6) .done)))
 (.seq (.seq (.reg (tm 7 (.t 0) (tq 8 (.len (.t 7)) (tm 9 (.c (.int .i64 0)) .done))))
 (.block 0 (.loop (.seq (.reg (tq 10 (.bin .lss (.t 9) (.t 8)) .done))
 (.seq (.cond (.t 10) .skip
 (.exit 0))
 (.seq (.block 1 (.seq (.reg (tq 11 (.iaddr 2 (.t 7) (.t 9)) (tq 12 (.load 2 true (.t 11)) (tq 5 (.box 2 (.c (.agg [(.str []), .nil]))) (.q ⟨none, none, .store 2 (.t 5) (.t 12)⟩
 .done)))))
 (.reg (tm 13 (.t 3) (tq 14 (.faddr 0 (.t 5)) (tq 15 (.load 1 false (.t 14)) (tq 16 (.faddr 1 (.t 5)) (tq 17 (.load 1 false (.t 16)) (.l ⟨(some 18), none, .call 120 [(.t 17)]⟩ [⟨(some 15), none, .load 1 false (.t 14)⟩, ⟨(some 14), none, .faddr 0 (.t 5)⟩]
 (tq 19 (.build [(.str []), .nil] [(0, 1, (.t 15)), (1, 1, (.t 18))]) (.l ⟨(some 20), none, .bslice 2 [(.t 19)]⟩ []
 (.l ⟨(some 21), none, .append 2 40 (.t 13) (.t 20)⟩ []
 (.l ⟨(some 3), none, .mov (.t 21)⟩ []
 .done .non) .non) .non)) .non)))))))))
 (.reg (tq 22 (.bin .add (.t 9) (.c (.int .i64 1))) (tm 9 (.t 22) .done)))))))))
 (.cut (.seq (.reg (tm 23 (.t 3) (tm 2 (.t 23) .done)))
 .ret)))))
theorem fc98 : fcomp Try.prog Try.f98 = some (c98.erase, [.mov (.t 2)], 24) := by kernel_rfl
def impl_copyLocks_L1  : List GLock → (List GLock) → Option (List GLock)
  | [], out_18 =>
    some out_18
  | x_33 :: xs, out_18 =>
    (slices_Clone_int_int x_33.Queue).bind fun r_34 =>
    if (out_18 ++ [(⟨x_33.Name, r_34⟩ : GLock)]).length ≤ 2 ^ 30 then
    impl_copyLocks_L1 xs  (out_18 ++ [(⟨x_33.Name, r_34⟩ : GLock)])
    else none

def impl_copyLocks (list_1 : (List GLock)) : Option (List GLock) :=
    (impl_copyLocks_L1 list_1 []).bind fun out_25 =>
    some out_25
theorem w_impl_copyLocks (list_1 : (List GLock)) (r : (List GLock)) (hf : impl_copyLocks list_1 = some r) : CallOK Try.prog 98 .fresh [(.lst 2 (list_1.map encGLock))] (.lst 2 (r.map encGLock)) := by
 refine CallOK.of_awp mixed Try.func98 fc98 nle ?_; rw [argT_eq]; unfold impl_copyLocks at hf; unfold c98; refine (show awp Try.prog true 0 _ (ofL [(0, (.lst 2 (list_1.map encGLock)))]) [] _ from ?_); refine awp_seq <| w_reg <| s_mov .nil rfl <| w_done <| k_seq <| awp_seq <| w_reg <| ?_; refine s_do (o_bslice (j := 0) (as' := []) rfl (fun _ => by decide) trivial (.refl _) rfl rfl rfl) ?_; refine s_mov (.own 0 0 0) rfl <| w_done <| k_seq <| awp_seq <| awp_seq <| w_reg <| s_mov (.lst 2 (list_1.map encGLock)) rfl <| s_dof (o_len (enc := encGLock) rfl) fun hl2 => s_mov (.int .i64 0) rfl <| w_done <| k_seq <| ?_
 obtain ⟨out_25, hb1, hf⟩ := ob hf
 refine awp_cut ([(3, (.own 0 0 out_25.length))], [.row 2 (out_25.map encGLock)]) ?_ ?_
 ·refine awp_loop (X := {q : (Nat × (List GLock)) // impl_copyLocks_L1 (list_1.drop q.1) q.2 = some out_25}) (fun q => ([(3, (.own 0 0 q.1.2.length)), (7, (.lst 2 (list_1.map encGLock))), (8, (.int .i64 (list_1.length : Int))), (9, (.int .i64 (q.1.1 : Int)))], [.row 2 (q.1.2.map encGLock)])) (fun q => list_1.length - q.1.1) ⟨(0, []), hb1⟩ ⟨[], [0], _, _, rfl, rfl, ⟨.of_eq (congrArg (AV.own _ 0) (by simp)), ⟨.refl _, ⟨.refl _, ⟨.refl _, trivial⟩⟩⟩⟩, (.refl _)⟩ ?_
  rintro ⟨⟨s9_17, out_18⟩, hc1⟩
  have hc1 : impl_copyLocks_L1 (list_1.drop s9_17) out_18 = some out_25 := hc1
  refine (show awp Try.prog true 0 _ (ofL [(3, (.own 0 0 out_18.length)), (7, (.lst 2 (list_1.map encGLock))), (8, (.int .i64 (list_1.length : Int))), (9, (.int .i64 (s9_17 : Int)))]) [.row 2 (out_18.map encGLock)] _ from ?_)
  rcases dropc list_1 s9_17 with ⟨hie29, hd32⟩ | ⟨hlt27, x_33, hx28, hd32⟩
  ·rw [hd32, impl_copyLocks_L1.eq_1] at hc1
   have hq31 := dlf hie29
   refine awp_seq <| w_reg <| s_q (.bool (decide ((s9_17 : Int) < (list_1.length : Int)))) rfl rfl rfl <| w_done <| k_seq <| awp_seq <| w_condf rfl hq31 <| w_exit <| k_seqx <| k_loopx <| k_blkx <| ?_; obtain rfl := os hc1; exact ⟨[], [0], _, _, rfl, rfl, ⟨.refl _, trivial⟩, (.refl _)⟩
  ·rw [hd32, impl_copyLocks_L1.eq_2] at hc1
   have hq31 := dlt hlt27
   refine awp_seq <| w_reg <| s_q (.bool (decide ((s9_17 : Int) < (list_1.length : Int)))) rfl rfl rfl <| w_done <| k_seq <| awp_seq <| w_condt rfl hq31 <| w_skip <| k_seq <| awp_seq <| w_blk <| awp_seq <| w_reg <| s_do (o_iaddrn (enc := encGLock) rfl rfl hx28) <| s_q (encGLock x_33) rfl nle rfl <| s_do (o_box (j := 1) (c := (.agg [(.str []), .nil])) rfl trivial rfl rfl) <| s_do0 (o_storebox (v := (.agg [(.str x_33.Name), (.lst 1 (x_33.Queue.map encI))])) (y' := (.agg [(.str x_33.Name), (.lst 1 (x_33.Queue.map encI))])) rfl rfl rfl trivial ⟨rfl, nle⟩ ⟨⟨rfl, trivial⟩, ⟨⟨rfl, trivial⟩, trivial⟩⟩ rfl) <| w_done <| k_seq <| w_reg <| ?_
   obtain ⟨r_34, er35, hc1⟩ := ob hc1
   obtain ⟨g36, hc1⟩ := og hc1
   refine s_mov (.own 0 0 out_18.length) rfl <| s_q (.ptr 1 0 0) rfl trivial rfl <| s_q (.str x_33.Name) rfl nle rfl <| s_q (.ptr 1 0 1) rfl trivial rfl <| s_q (.lst 1 (x_33.Queue.map encI)) rfl nle rfl <| s_dol (o_callf (v := (.own 2 0 r_34.length)) (h' := [.row 1 (r_34.map encI)]) (w_slices_Clone_int_int _ _ er35) rfl (.refl _) (by simp only [openV, openVs, List.length_map, List.nil_append, List.append_nil, List.cons_append]; rfl)) (.inr ⟨⟨nle, rfl⟩, ⟨⟨trivial, rfl⟩, trivial⟩⟩) trivial <| s_q (.agg [(.str x_33.Name), (.own 2 0 r_34.length)]) rfl ⟨⟨rfl, nle, trivial⟩, ⟨⟨rfl, nle, trivial⟩, trivial⟩⟩ rfl <| ?_; refine s_dol (o_bslice (j := 3) (as' := [(encGLock (⟨x_33.Name, r_34⟩ : GLock))]) rfl (fun _ => by decide) ⟨rfl, trivial⟩ (.cons (.agg (.cons (.refl _) (.cons (.of_eq (congrArg (AV.lst _) (tk (enc := encI) r_34))) .nil))) .nil) rfl rfl rfl) trivial trivial ?_
   refine s_dol (o_appendd (j := 4) (L := ((out_18 ++ [(⟨x_33.Name, r_34⟩ : GLock)]).map encGLock)) (len := (out_18 ++ [(⟨x_33.Name, r_34⟩ : GLock)]).length) rfl true rfl rfl (fun h => Bool.noConfusion h) (fun _ _ h => (ownl (show AV.own _ _ _ = AV.lst _ _ from h)).elim) (by decide) (apoc (enc := encGLock) out_18 [(⟨x_33.Name, r_34⟩ : GLock)] _ (by rfl)) (by simp <;> omega) g36 rfl rfl) trivial trivial ?_
   refine s_dol (o_mov (.own 4 0 ((out_18 ++ [(⟨x_33.Name, r_34⟩ : GLock)]).length)) rfl) a_same trivial <| w_done <| k_blk <| k_seq <| w_reg <| s_q (.int .i64 (w64 ((s9_17 : Int) + 1))) rfl rfl rfl <| s_mov (.int .i64 (w64 ((s9_17 : Int) + 1))) rfl <| w_done <| ?_; exact k_loopn ⟨((s9_17 + 1), out_18 ++ [(⟨x_33.Name, r_34⟩ : GLock)]), hc1⟩ (mul hlt27) ⟨[], [4], _, _, rfl, rfl, ⟨.refl _, ⟨.refl _, ⟨.refl _, ⟨.of_eq (congrArg (AV.int _) (w64_incr hlt27 hl2)), trivial⟩⟩⟩⟩, (.refl _)⟩
 ·refine awp_seq <| w_reg <| s_mov (.own 0 0 out_25.length) rfl <| s_mov (.own 0 0 out_25.length) rfl <| w_done <| k_seq <| w_ret <| ?_; obtain rfl := os hf; exact r_fresh ⟨trivial, trivial⟩ rfl (by decide) (.of_eq (congrArg (AV.lst _) (tk (enc := encGLock) out_25)))

/- internal/bytealg.CompareString -/
def internal_bytealg_CompareString (a b : Str) : Option Int := some (Lib.compareBytes a b)
set_option maxRecDepth 100000 in
open Go.RowKit in
theorem cmps_run (a b : ByteArray) (w : World) : Calls Try.prog 251 #[.string a, .string b] w fun e w' => e = .returned (.int .i64 (Lib.compareBytes a.data.toList b.data.toList)) ∧ w' = w := by
  go_enter Try.func251, (show Try.f251.ntmps = _ from rfl)
  go_wp2
  rw [run_callFunc_extern Try.func272 (by kernel_rfl) (by kernel_rfl) (by kernel_rfl) (e := Extern.BytealgCompare.compare) (by kernel_rfl), Lib.run_compareString]
  simp only [Result.andThen]
  rw [Oper.upon_value]
  go_wp2
  go_ret
  exact ⟨rfl, rfl⟩
open Go.RowKit in
theorem w_internal_bytealg_CompareString (a b : Str) (r : Int) (hf : internal_bytealg_CompareString a b = some r) : CallOK Try.prog 251 .flat [(.str a), (.str b)] (.int .i64 r) := by
  intro w vals fps hr
  simp only [RepVs, Rep] at hr
  obtain ⟨v1, vs1, f1, f2, rfl, ⟨rfl, h1, rfl⟩, ⟨v2, vs2, f3, f4, rfl, ⟨rfl, h2, rfl⟩, ⟨rfl, rfl⟩, rfl⟩, rfl⟩ := hr
  unfold internal_bytealg_CompareString at hf
  obtain rfl := os hf
  refine (cmps_run ⟨a.toArray⟩ ⟨b.toArray⟩ w).mono ?_
  rintro e w' ⟨rfl, rfl⟩
  refine ⟨Below.refl _ _, ?_⟩
  exact ⟨[.int .i64 (Lib.compareBytes a b)], rfl, by simp [Rep]⟩

/- strings.Compare -/
def c184 : ACode :=
 (.seq (.reg (tm 4 (.c (.int .i64 0)) .done))
 (.seq (.reg (tm 5 (.t 0) (tm 6 (.t 1) (tq 7 (.call 251 [(.t 5), (.t 6)]) (tm 4 (.t 7) .done)))))
 .ret))
theorem fc184 : fcomp Try.prog Try.f184 = some (c184.erase, [.mov (.t 4)], 8) := by kernel_rfl
def strings_Compare (a_1 : Str) (b_2 : Str) : Option Int :=
    (internal_bytealg_CompareString a_1 b_2).bind fun r_3 =>
    some r_3
theorem w_strings_Compare (a_1 : Str) (b_2 : Str) (r : Int) (hf : strings_Compare a_1 b_2 = some r) : CallOK Try.prog 184 .flat [(.str a_1), (.str b_2)] (.int .i64 r) := by
  refine CallOK.of_awp mixed Try.func184 fc184 nle ?_
  rw [argT_eq]
  unfold strings_Compare at hf
  unfold c184
  refine (show awp Try.prog false 0 _ (ofL [(0, (.str a_1)), (1, (.str b_2))]) [] _ from ?_)
  refine awp_seq ?_
  refine w_reg ?_
  refine s_do (o_mov (.int .i64 0) rfl) ?_
  refine w_done ?_
  refine k_seq ?_
  refine awp_seq ?_
  refine w_reg ?_
  obtain ⟨r_3, er4, hf⟩ := ob hf
  refine s_do (o_mov (.str a_1) rfl) ?_
  refine s_do (o_mov (.str b_2) rfl) ?_
  refine s_do (o_call (w_internal_bytealg_CompareString _ _ _ er4) rfl (.refl _) rfl) ?_
  refine s_do (o_mov (.int .i64 r_3) rfl) ?_
  refine w_done ?_
  refine k_seq ?_
  refine w_ret ?_
  obtain rfl := os hf
  exact r_flat ⟨trivial, trivial⟩ rfl (.refl _)

/- impl.leave$1 -/
def c186 : ACode :=
 (.seq (.reg (tm 3 (.c (.bool false)) .done))
 (.seq (.reg (tm 4 (.t 0) (tq 5 (.load 1 false (.t 1)) (tq 6 (.bin .eql (.t 4) (.t 5)) (tm 3 (.t 6) .done)))))
 .ret))
theorem fc186 : fcomp Try.prog Try.f186 = some (c186.erase, [.mov (.t 3)], 7) := by kernel_rfl
def impl_leave_1 (own_1 : Int) (cap_2 : Int) : Option Bool :=
    some (own_1 == cap_2)
theorem w_impl_leave_1 (own_1 : Int) (cap_2 : Int) (r : Bool) (hf : impl_leave_1 own_1 cap_2 = some r) : CallOK Try.prog 186 .flat [(.int .i64 own_1), (.iptr (.int .i64 cap_2) 0)] (.bool r) := by
  refine CallOK.of_awp mixed Try.func186 fc186 nle ?_
  rw [argT_eq]
  unfold impl_leave_1 at hf
  unfold c186
  refine (show awp Try.prog false 0 _ (ofL [(0, (.int .i64 own_1)), (1, (.iptr (.int .i64 cap_2) 0))]) [] _ from ?_)
  refine awp_seq ?_
  refine w_reg ?_
  refine s_do (o_mov (.bool false) rfl) ?_
  refine w_done ?_
  refine k_seq ?_
  refine awp_seq ?_
  refine w_reg ?_
  refine s_do (o_mov (.int .i64 own_1) rfl) ?_
  refine s_do (o_q (.int .i64 cap_2) rfl ⟨rfl, rfl⟩ rfl) ?_
  refine s_do (o_q (.bool (own_1 == cap_2)) rfl rfl rfl) ?_
  refine s_do (o_mov (.bool (own_1 == cap_2)) rfl) ?_
  refine w_done ?_
  refine k_seq ?_
  refine w_ret ?_
  obtain rfl := os hf
  exact r_flat ⟨trivial, trivial⟩ rfl (.refl _)

/- impl.lockAt$1 -/
def c183_h0 : ACode :=
 (.seq (.reg (tq 2 (.box 2 (.t 0)) (tm 4 (.c (.int .i64 0)) .done)))
 (.seq (.reg (tq 5 (.faddr 0 (.t 2)) (tq 6 (.load 1 false (.t 5)) (tm 7 (.t 1) (tq 8 (.call 184 [(.t 6), (.t 7)]) (tm 4 (.t 8) .done))))))
 .ret))
theorem fc183_h0 : fcomp Try.prog Try.f183 = some (c183_h0.erase, [.mov (.t 4)], 9) := by kernel_rfl
def impl_lockAt_1_h0 (c_1 : Str) (c_2 : (List Int)) (name_3 : Str) : Option Int :=
    (strings_Compare c_1 name_3).bind fun r_4 =>
    some r_4
theorem w_impl_lockAt_1_h0 (c_1 : Str) (c_2 : (List Int)) (name_3 : Str) (r : Int) (hf : impl_lockAt_1_h0 c_1 c_2 name_3 = some r) : CallHeap Try.prog ⟨true, true⟩ 183 [(.agg [(.str c_1), (.own 0 0 c_2.length)]), (.str name_3)] [.row 1 (c_2.map encI)] (.int .i64 r) [.row 1 (c_2.map encI)] := by
  refine CallHeap.of_awp mixed Try.func183 fc183_h0 nle ?_
  rw [argT_eq]
  unfold impl_lockAt_1_h0 at hf
  unfold c183_h0
  refine (show awp Try.prog ⟨true, true⟩ 1 _ (ofL [(0, (.agg [(.str c_1), (.own 0 0 c_2.length)])), (1, (.str name_3))]) [.row 1 (c_2.map encI)] _ from ?_)
  refine awp_seq ?_
  refine w_reg ?_
  refine s_do (o_box (j := 1) (c := (.agg [(.str c_1), (.own 0 0 c_2.length)])) rfl trivial rfl rfl) ?_
  refine s_do (o_mov (.int .i64 0) rfl) ?_
  refine w_done ?_
  refine k_seq ?_
  refine awp_seq ?_
  refine w_reg ?_
  obtain ⟨r_4, er5, hf⟩ := ob hf
  refine s_do (o_q (.ptr 1 0 0) rfl (.of trivial trivial) rfl) ?_
  refine s_do (o_q (.str c_1) rfl (.of nle trivial) rfl) ?_
  refine s_do (o_mov (.str name_3) rfl) ?_
  refine s_do (o_call (w_strings_Compare _ _ _ er5) rfl (.refl _) rfl) ?_
  refine s_do (o_mov (.int .i64 r_4) rfl) ?_
  refine w_done ?_
  refine k_seq ?_
  refine w_ret ?_
  obtain rfl := os hf
  exact r_heap [] [0] rfl ⟨.of trivial trivial, trivial⟩ rfl (.refl _) (.refl _)

/- slices.BinarySearchFunc[[]impl.Lock,impl.Lock,string] -/
def c182_h0 : ACode :=
 (.seq (.reg (tm 6 (.c (.int .i64 0)) (tm 7 (.c (.bool false)) .done)))
 (.seq (.reg (tm 12 (.t 0) (tq 13 (.len (.t 12)) (tm 8 (.t 13) .done))))
 (.seq (.reg (tm 14 (.t 8) (tm 9 (.c (.int .i64 0)) (tm 10 (.t 14) .done))))
 (.seq (.block 0 (.loop (.seq (.seq (.reg (tm 15 (.t 9) (tm 16 (.t 10) (tq 17 (.bin .lss (.t 15) (.t 16)) .done))))
 (.cond (.t 17) .skip
 (.exit 0)))
 (.block 1 (.seq (.reg (tm 18 (.t 9) (tm 19 (.t 10) (tq 20 (.bin .add (.t 18) (.t 19)) (tq 21 (.convI .u64 (.t 20)) (tq 22 (.bin .shr (.t 21) (.c (.int .u64 1))) (tq 23 (.convI .i64 (.t 22)) (tm 11 (.t 23) .done))))))))
 (.seq (.rev (.reg (tm 24 (.t 2) (tm 25 (.t 0) (tm 26 (.t 11) (tq 27 (.iaddr 2 (.t 25) (.t 26)) (tq 28 (.load 2 true (.t 27)) (tm 29 (.t 1) (tq 30 (.calv (.t 24) [(.t 28), (.t 29)]) (tq 31 (.bin .lss (.t 30) (.c (.int .i64 0))) .done))))))))))
 (.cond (.t 31) (.reg (tm 32 (.t 11) (tq 33 (.bin .add (.t 32) (.c (.int .i64 1))) (tm 9 (.t 33) .done))))
 (.reg (tm 34 (.t 11) (tm 10 (.t 34) .done))))))))))
 (.cut (.seq (.rev (.reg (tm 35 (.t 9) (tm 36 (.t 9) (tm 37 (.t 8) (tq 38 (.bin .lss (.t 36) (.t 37)) (tm 39 (.t 38) (tg 40 39 true (.mov (.t 2)) (tg 41 39 true (.mov (.t 0)) (tg 42 39 true (.mov (.t 9)) (tg 43 39 true (.iaddr 2 (.t 41) (.t 42)) (tg 44 39 true (.load 2 true (.t 43)) (tg 45 39 true (.mov (.t 1)) (tg 46 39 true (.calv (.t 40) [(.t 44), (.t 45)]) (tg 47 39 true (.bin .eql (.t 46) (.c (.int .i64 0))) (tq 48 (.pick (.t 39) (.t 47) (.c (.bool false))) (tm 6 (.t 35) (tm 7 (.t 48) .done))))))))))))))))))
 (.rev .ret)))))))
theorem fc182_h0 : fcomp Try.prog Try.f182 = some (c182_h0.erase, [.mov (.t 6), .mov (.t 7)], 49) := by kernel_rfl
def slices_BinarySearchFunc_impl_Lock_impl_Lock_string_h0_L1 (x_1 : (List GLock)) (target_2 : Str) : Nat → Int → Int → Option Int
  | 0, _, _ => none
  | k + 1, i_50, j_51 =>
    if (decide (i_50 < j_51)) then
    ((x_1[(0 + (w64 (Int.fdiv (IntKind.u64.wrap (w64 (i_50 + j_51))) (2 ^ (min (Int.toNat 1) (IntKind.bits .u64))))).toNat)]?)).bind fun x_64 =>
    if (0 : Int) ≤ w64 (Int.fdiv (IntKind.u64.wrap (w64 (i_50 + j_51))) (2 ^ (min (Int.toNat 1) (IntKind.bits .u64)))) ∧ w64 (Int.fdiv (IntKind.u64.wrap (w64 (i_50 + j_51))) (2 ^ (min (Int.toNat 1) (IntKind.bits .u64)))) < (x_1.length : Int) then
    (impl_lockAt_1_h0 x_64.Name x_64.Queue target_2).bind fun r_67 =>
    if (decide (r_67 < 0)) then
    slices_BinarySearchFunc_impl_Lock_impl_Lock_string_h0_L1 x_1 target_2 k (w64 ((w64 (Int.fdiv (IntKind.u64.wrap (w64 (i_50 + j_51))) (2 ^ (min (Int.toNat 1) (IntKind.bits .u64))))) + 1)) j_51
    else
    slices_BinarySearchFunc_impl_Lock_impl_Lock_string_h0_L1 x_1 target_2 k i_50 (w64 (Int.fdiv (IntKind.u64.wrap (w64 (i_50 + j_51))) (2 ^ (min (Int.toNat 1) (IntKind.bits .u64)))))
    else none
    else
    some i_50

def slices_BinarySearchFunc_impl_Lock_impl_Lock_string_h0 (x_1 : (List GLock)) (target_2 : Str) : Option (Int × Bool) :=
    (slices_BinarySearchFunc_impl_Lock_impl_Lock_string_h0_L1 x_1 target_2 FUEL 0 (x_1.length : Int)).bind fun i_60 =>
    onIdx (x_1[(0 + i_60.toNat)]?) (fun x_72 =>
    if (decide (i_60 < (x_1.length : Int))) then
    if (0 : Int) ≤ i_60 ∧ i_60 < (x_1.length : Int) then
    (impl_lockAt_1_h0 x_72.Name x_72.Queue target_2).bind fun r_76 =>
    some (i_60, (r_76 == 0))
    else none
    else
    some (i_60, false)) (
    if (decide (i_60 < (x_1.length : Int))) then
    if (0 : Int) ≤ i_60 ∧ i_60 < (x_1.length : Int) then
    none
    else none
    else
    some (i_60, false))
theorem w_slices_BinarySearchFunc_impl_Lock_impl_Lock_string_h0 (x_1 : (List GLock)) (target_2 : Str) (r : (Int × Bool)) (hf : slices_BinarySearchFunc_impl_Lock_impl_Lock_string_h0 x_1 target_2 = some r) : CallHeap Try.prog ⟨true, true⟩ 182 [(.own 0 0 x_1.length), (.str target_2), (.fn 183 [])] [.row 2 (x_1.map encGLock)] (.tup [(.int .i64 r.1), (.bool r.2)]) [.row 2 (x_1.map encGLock)] := by
 refine CallHeap.of_awp mixed Try.func182 fc182_h0 nle ?_; rw [argT_eq]; unfold slices_BinarySearchFunc_impl_Lock_impl_Lock_string_h0 at hf; unfold c182_h0; refine (show awp Try.prog ⟨true, true⟩ 1 _ (ofL [(0, (.own 0 0 x_1.length)), (1, (.str target_2)), (2, (.fn 183 []))]) [.row 2 (x_1.map encGLock)] _ from ?_); refine awp_seq <| w_reg <| s_mov (.int .i64 0) rfl <| s_mov (.bool false) rfl <| w_done <| k_seq <| awp_seq <| w_reg <| s_mov (.own 0 0 x_1.length) rfl <| s_dof (o_lenown rfl rfl) fun hl3 => s_mov (.int .i64 (x_1.length : Int)) rfl <| w_done <| k_seq <| awp_seq <| w_reg <| s_mov (.int .i64 (x_1.length : Int)) rfl <| s_mov (.int .i64 0) rfl <| s_mov (.int .i64 (x_1.length : Int)) rfl <| w_done <| k_seq <| awp_seq <| ?_
 obtain ⟨i_60, hb1, hf⟩ := ob hf
 refine awp_cut ([(0, (.own 0 0 x_1.length)), (1, (.str target_2)), (2, (.fn 183 [])), (8, (.int .i64 (x_1.length : Int))), (9, (.int .i64 i_60))], [.row 2 (x_1.map encGLock)]) ?_ ?_
 ·refine awp_loop (X := {q : (Nat × Int × Int) // slices_BinarySearchFunc_impl_Lock_impl_Lock_string_h0_L1 x_1 target_2 q.1 q.2.1 q.2.2 = some i_60}) (fun q => ([(0, (.own 0 0 x_1.length)), (1, (.str target_2)), (2, (.fn 183 [])), (8, (.int .i64 (x_1.length : Int))), (9, (.int .i64 q.1.2.1)), (10, (.int .i64 q.1.2.2))], [.row 2 (x_1.map encGLock)])) (fun q => q.1.1) ⟨(FUEL, 0, (x_1.length : Int)), hb1⟩ ⟨[], [0], _, _, rfl, rfl, ⟨.refl _, ⟨.refl _, ⟨.refl _, ⟨.refl _, ⟨.refl _, ⟨.refl _, trivial⟩⟩⟩⟩⟩⟩, (.refl _)⟩ ?_
  rintro ⟨⟨k, i_50, j_51⟩, hc1⟩
  have hc1 : slices_BinarySearchFunc_impl_Lock_impl_Lock_string_h0_L1 x_1 target_2 k i_50 j_51 = some i_60 := hc1
  refine (show awp Try.prog ⟨true, true⟩ 1 _ (ofL [(0, (.own 0 0 x_1.length)), (1, (.str target_2)), (2, (.fn 183 [])), (8, (.int .i64 (x_1.length : Int))), (9, (.int .i64 i_50)), (10, (.int .i64 j_51))]) [.row 2 (x_1.map encGLock)] _ from ?_)
  rcases k with _ | k
  ·rw [slices_BinarySearchFunc_impl_Lock_impl_Lock_string_h0_L1.eq_1] at hc1
   cases hc1
  ·rw [slices_BinarySearchFunc_impl_Lock_impl_Lock_string_h0_L1.eq_2] at hc1; refine awp_seq <| awp_seq <| w_reg <| s_mov (.int .i64 i_50) rfl <| s_mov (.int .i64 j_51) rfl <| s_q (.bool (decide (i_50 < j_51))) rfl (.of rfl trivial) rfl <| w_done <| k_seq <| ?_
   rcases oi hc1 with ⟨c62, hc1⟩ | ⟨c62, hc1⟩
   ·refine w_condt rfl c62 <| w_skip <| k_seq <| w_blk <| awp_seq <| w_reg <| s_mov (.int .i64 i_50) rfl <| s_mov (.int .i64 j_51) rfl <| s_q (.int .i64 (w64 (i_50 + j_51))) rfl (.of rfl trivial) rfl <| s_q (.int .u64 (IntKind.u64.wrap (w64 (i_50 + j_51)))) rfl (.of trivial trivial) rfl <| ?_; refine s_do (o_q (.int .u64 (Int.fdiv (IntKind.u64.wrap (w64 (i_50 + j_51))) (2 ^ (min (Int.toNat 1) (IntKind.bits .u64))))) rfl (.of (show (0:Int) ≤ 1 by decide) trivial) rfl) ?_; refine s_q (.int .i64 (w64 (Int.fdiv (IntKind.u64.wrap (w64 (i_50 + j_51))) (2 ^ (min (Int.toNat 1) (IntKind.bits .u64)))))) rfl (.of trivial trivial) rfl <| s_mov (.int .i64 (w64 (Int.fdiv (IntKind.u64.wrap (w64 (i_50 + j_51))) (2 ^ (min (Int.toNat 1) (IntKind.bits .u64)))))) rfl <| ?_
    refine w_done <| k_seq <| awp_seq <| ?_
    obtain ⟨x_64, ex65, hc1⟩ := ob hc1
    refine w_opn (o := 0) (i := (0 + (w64 (Int.fdiv (IntKind.u64.wrap (w64 (i_50 + j_51))) (2 ^ (min (Int.toNat 1) (IntKind.bits .u64))))).toNat)) (el := (.agg [(.str x_64.Name), (.lst 1 (x_64.Queue.map encI))])) (el2 := (.agg [(.str x_64.Name), (.own 1 0 x_64.Queue.length)])) (xs := [.row 1 (x_64.Queue.map encI)]) rfl rfl rfl ex65 rfl (by simp only [AV.cells, openVs, openV, List.length_map, List.nil_append, List.append_nil, List.cons_append]; rfl) <| w_reg <| ?_
    obtain ⟨g66, hc1⟩ := og hc1
    obtain ⟨r_67, er68, hc1⟩ := ob hc1
    refine s_mov (.fn 183 []) rfl <| s_mov (.own 0 0 x_1.length) rfl <| s_mov (.int .i64 (w64 (Int.fdiv (IntKind.u64.wrap (w64 (i_50 + j_51))) (2 ^ (min (Int.toNat 1) (IntKind.bits .u64)))))) rfl <| s_do (o_iaddrx rfl rfl g66.1 g66.2 rfl rfl) <| s_do (o_loadx rfl rfl nle rfl) <| s_mov (.str target_2) rfl <| ?_; refine s_do (o_calvh (v := (.int .i64 r_67)) (h2 := [.rowx 2 (x_1.map encGLock) (0 + (w64 (Int.fdiv (IntKind.u64.wrap (w64 (i_50 + j_51))) (2 ^ (min (Int.toNat 1) (IntKind.bits .u64))))).toNat) (.agg [(.str x_64.Name), (.own 1 0 x_64.Queue.length)]), .row 1 (x_64.Queue.map encI)]) [] [1] (fun _ => rfl) rfl (by kernel_rfl) (w_impl_lockAt_1_h0 _ _ _ _ er68) rfl rfl (.refl _) (.refl _) rfl rfl) ?_; refine s_q (.bool (decide (r_67 < 0))) rfl (.of rfl trivial) rfl ?_
    refine w_done <| k_seq <| ?_
    rcases oi hc1 with ⟨c69, hc1⟩ | ⟨c69, hc1⟩
    ·refine w_condt rfl c69 <| w_reg <| s_mov (.int .i64 (w64 (Int.fdiv (IntKind.u64.wrap (w64 (i_50 + j_51))) (2 ^ (min (Int.toNat 1) (IntKind.bits .u64)))))) rfl <| s_q (.int .i64 (w64 ((w64 (Int.fdiv (IntKind.u64.wrap (w64 (i_50 + j_51))) (2 ^ (min (Int.toNat 1) (IntKind.bits .u64))))) + 1))) rfl (.of rfl trivial) rfl <| s_mov (.int .i64 (w64 ((w64 (Int.fdiv (IntKind.u64.wrap (w64 (i_50 + j_51))) (2 ^ (min (Int.toNat 1) (IntKind.bits .u64))))) + 1))) rfl <| w_done <| k_blk <| ?_; exact k_loopn ⟨(k, w64 ((w64 (Int.fdiv (IntKind.u64.wrap (w64 (i_50 + j_51))) (2 ^ (min (Int.toNat 1) (IntKind.bits .u64))))) + 1), j_51), hc1⟩ (Nat.lt_succ_self _) ⟨[.cls 0], [0], _, _, rfl, rfl, ⟨.refl _, ⟨.refl _, ⟨.refl _, ⟨.refl _, ⟨.refl _, ⟨.refl _, trivial⟩⟩⟩⟩⟩⟩, (.cons ((leo_cls0 ex65 (.agg (.cons (.refl _) (.cons (.of_eq (congrArg (AV.lst _) (tk (enc := encI) x_64.Queue))) .nil))))) .nil)⟩
    ·refine w_condf rfl (bf c69) <| w_reg <| s_mov (.int .i64 (w64 (Int.fdiv (IntKind.u64.wrap (w64 (i_50 + j_51))) (2 ^ (min (Int.toNat 1) (IntKind.bits .u64)))))) rfl <| s_mov (.int .i64 (w64 (Int.fdiv (IntKind.u64.wrap (w64 (i_50 + j_51))) (2 ^ (min (Int.toNat 1) (IntKind.bits .u64)))))) rfl <| w_done <| k_blk <| ?_; exact k_loopn ⟨(k, i_50, w64 (Int.fdiv (IntKind.u64.wrap (w64 (i_50 + j_51))) (2 ^ (min (Int.toNat 1) (IntKind.bits .u64))))), hc1⟩ (Nat.lt_succ_self _) ⟨[.cls 0], [0], _, _, rfl, rfl, ⟨.refl _, ⟨.refl _, ⟨.refl _, ⟨.refl _, ⟨.refl _, ⟨.refl _, trivial⟩⟩⟩⟩⟩⟩, (.cons ((leo_cls0 ex65 (.agg (.cons (.refl _) (.cons (.of_eq (congrArg (AV.lst _) (tk (enc := encI) x_64.Queue))) .nil))))) .nil)⟩
   ·refine w_condf rfl (bf c62) <| w_exit <| k_seqx <| k_loopx <| k_blkx <| ?_; obtain rfl := os hc1; exact ⟨[], [0], _, _, rfl, rfl, ⟨.refl _, ⟨.refl _, ⟨.refl _, ⟨.refl _, ⟨.refl _, trivial⟩⟩⟩⟩⟩, (.refl _)⟩
 ·refine awp_seq ?_
  rcases oo hf with ⟨x_72, ex73, hf⟩ | ⟨ex73, hf⟩
  ·refine w_opn (o := 0) (i := (0 + i_60.toNat)) (el := (.agg [(.str x_72.Name), (.lst 1 (x_72.Queue.map encI))])) (el2 := (.agg [(.str x_72.Name), (.own 1 0 x_72.Queue.length)])) (xs := [.row 1 (x_72.Queue.map encI)]) rfl rfl rfl ex73 rfl (by simp only [AV.cells, openVs, openV, List.length_map, List.nil_append, List.append_nil, List.cons_append]; rfl) <| w_reg <| s_mov (.int .i64 i_60) rfl <| s_mov (.int .i64 i_60) rfl <| s_mov (.int .i64 (x_1.length : Int)) rfl <| s_q (.bool (decide (i_60 < (x_1.length : Int)))) rfl (.of rfl trivial) rfl <| s_mov (.bool (decide (i_60 < (x_1.length : Int)))) rfl <| ?_
   rcases oi hf with ⟨c74, hf⟩ | ⟨c74, hf⟩
   ·refine s_lit (s := 39) (b := true) rfl c74 <| s_on rfl <| s_mov (.fn 183 []) rfl <| s_on rfl <| s_mov (.own 0 0 x_1.length) rfl <| s_on rfl <| s_mov (.int .i64 i_60) rfl <| s_on rfl <| ?_
    obtain ⟨g75, hf⟩ := og hf
    refine s_do (o_iaddrx rfl rfl g75.1 g75.2 rfl rfl) <| s_on rfl <| s_do (o_loadx rfl rfl nle rfl) <| s_on rfl <| s_mov (.str target_2) rfl <| s_on rfl <| ?_
    obtain ⟨r_76, er77, hf⟩ := ob hf
    refine s_do (o_calvh (v := (.int .i64 r_76)) (h2 := [.rowx 2 (x_1.map encGLock) (0 + i_60.toNat) (.agg [(.str x_72.Name), (.own 1 0 x_72.Queue.length)]), .row 1 (x_72.Queue.map encI)]) [] [1] (fun _ => rfl) rfl (by kernel_rfl) (w_impl_lockAt_1_h0 _ _ _ _ er77) rfl rfl (.refl _) (.refl _) rfl rfl) ?_; refine s_on rfl <| s_q (.bool (r_76 == 0)) rfl (.of rfl trivial) rfl <| s_q (.bool (r_76 == 0)) rfl (.of trivial trivial) rfl <| s_mov (.int .i64 i_60) rfl <| s_mov (.bool (r_76 == 0)) rfl <| w_done <| k_seq <| w_cls0 (o := 0) (h2 := [.rowx 2 (x_1.map encGLock) (0 + i_60.toNat) (.agg [(.str x_72.Name), (.own 1 0 x_72.Queue.length)]), .dead]) ex73 rfl rfl rfl (.agg (.cons (.refl _) (.cons (.of_eq (congrArg (AV.lst _) (tk (enc := encI) x_72.Queue))) .nil))) rfl <| ?_
    refine w_ret ?_; obtain rfl := os hf; exact r_heap [] [0] rfl ⟨.of trivial trivial, ⟨.of trivial trivial, trivial⟩⟩ rfl (.refl _) (.refl _)
   ·refine s_lit (s := 39) (b := false) rfl (bf c74) <| s_off rfl rfl <| s_off rfl rfl <| s_off rfl rfl <| s_off rfl rfl <| s_off rfl rfl <| s_off rfl rfl <| s_off rfl rfl <| s_off rfl rfl <| s_q (.bool false) rfl (.of trivial trivial) rfl <| s_mov (.int .i64 i_60) rfl <| s_mov (.bool false) rfl <| w_done <| k_seq <| w_cls0 (o := 0) (h2 := [.rowx 2 (x_1.map encGLock) (0 + i_60.toNat) (.agg [(.str x_72.Name), (.own 1 0 x_72.Queue.length)]), .dead]) ex73 rfl rfl rfl (.agg (.cons (.refl _) (.cons (.of_eq (congrArg (AV.lst _) (tk (enc := encI) x_72.Queue))) .nil))) rfl <| w_ret <| ?_; obtain rfl := os hf; exact r_heap [] [0] rfl ⟨.of trivial trivial, ⟨.of trivial trivial, trivial⟩⟩ rfl (.refl _) (.refl _)
  ·refine w_rev0 <| w_reg <| s_mov (.int .i64 i_60) rfl <| s_mov (.int .i64 i_60) rfl <| s_mov (.int .i64 (x_1.length : Int)) rfl <| s_q (.bool (decide (i_60 < (x_1.length : Int)))) rfl (.of rfl trivial) rfl <| s_mov (.bool (decide (i_60 < (x_1.length : Int)))) rfl <| ?_
   rcases oi hf with ⟨c78, hf⟩ | ⟨c78, hf⟩
   ·refine s_lit (s := 39) (b := true) rfl c78 <| s_on rfl <| s_mov (.fn 183 []) rfl <| s_on rfl <| s_mov (.own 0 0 x_1.length) rfl <| s_on rfl <| s_mov (.int .i64 i_60) rfl <| s_on rfl <| ?_
    obtain ⟨g79, hf⟩ := og hf
    refine s_do (o_iaddrown rfl rfl g79.1 g79.2 rfl rfl) ?_
    cases hf
   ·refine s_lit (s := 39) (b := false) rfl (bf c78) <| s_off rfl rfl <| s_off rfl rfl <| s_off rfl rfl <| s_off rfl rfl <| s_off rfl rfl <| s_off rfl rfl <| s_off rfl rfl <| s_off rfl rfl <| s_q (.bool false) rfl (.of trivial trivial) rfl <| s_mov (.int .i64 i_60) rfl <| s_mov (.bool false) rfl <| w_done <| k_seq <| w_rev0 <| w_ret <| ?_; obtain rfl := os hf; exact r_heap [] [0] rfl ⟨.of trivial trivial, ⟨.of trivial trivial, trivial⟩⟩ rfl (.refl _) (.refl _)

/- impl.lockAt -/
def c99_h0 : ACode :=
 (.seq (.reg (tm 4 (.c (.int .i64 0)) (tm 5 (.c (.bool false)) .done)))
 (.seq (.reg (tm 6 (.t 0) (tm 7 (.t 1) (tq 8 (.call 182 [(.t 6), (.t 7), (.c (.fn 183 []))]) (tq 9 (.extract 0 (.t 8)) (tq 10 (.extract 1 (.t 8)) (tm 4 (.t 9) (tm 5 (.t 10) .done))))))))
 .ret))
theorem fc99_h0 : fcomp Try.prog Try.f99 = some (c99_h0.erase, [.mov (.t 4), .mov (.t 5)], 11) := by kernel_rfl
def impl_lockAt_h0 (list_1 : (List GLock)) (name_2 : Str) : Option (Int × Bool) :=
    (slices_BinarySearchFunc_impl_Lock_impl_Lock_string_h0 list_1 name_2).bind fun r_3 =>
    some (r_3.1, r_3.2)
theorem w_impl_lockAt_h0 (list_1 : (List GLock)) (name_2 : Str) (r : (Int × Bool)) (hf : impl_lockAt_h0 list_1 name_2 = some r) : CallHeap Try.prog ⟨true, true⟩ 99 [(.own 0 0 list_1.length), (.str name_2)] [.row 2 (list_1.map encGLock)] (.tup [(.int .i64 r.1), (.bool r.2)]) [.row 2 (list_1.map encGLock)] := by
 refine CallHeap.of_awp mixed Try.func99 fc99_h0 nle ?_; rw [argT_eq]; unfold impl_lockAt_h0 at hf; unfold c99_h0; refine (show awp Try.prog ⟨true, true⟩ 1 _ (ofL [(0, (.own 0 0 list_1.length)), (1, (.str name_2))]) [.row 2 (list_1.map encGLock)] _ from ?_); refine awp_seq <| w_reg <| s_mov (.int .i64 0) rfl <| s_mov (.bool false) rfl <| w_done <| k_seq <| awp_seq <| w_reg <| ?_
 obtain ⟨r_3, er4, hf⟩ := ob hf
 refine s_mov (.own 0 0 list_1.length) rfl <| s_mov (.str name_2) rfl <| ?_; refine s_do (o_callh (v := (.tup [(.int .i64 r_3.1), (.bool r_3.2)])) (h2 := [.row 2 (list_1.map encGLock)]) [] [0] (fun _ => rfl) (w_slices_BinarySearchFunc_impl_Lock_impl_Lock_string_h0 _ _ _ er4) rfl (.refl _) (.refl _) rfl rfl) ?_; refine s_q (.int .i64 r_3.1) rfl (.of nle trivial) rfl <| s_q (.bool r_3.2) rfl (.of nle trivial) rfl <| s_mov (.int .i64 r_3.1) rfl <| s_mov (.bool r_3.2) rfl <| w_done <| k_seq <| w_ret <| ?_; obtain rfl := os hf; exact r_heap [] [0] rfl ⟨.of trivial trivial, ⟨.of trivial trivial, trivial⟩⟩ rfl (.refl _) (.refl _)

/- slices.IndexFunc[[]int,int] -/
def c202_h0 : ACode :=
 (.seq (.reg (tm 4 (.c (.int .i64 0)) .done))
 (.seq (.seq (.reg (tm 6 (.t 0) (tq 7 (.len (.t 6)) (tm 8 (.c (.int .i64 0)) .done))))
 (.block 0 (.loop (.seq (.reg (tq 9 (.bin .lss (.t 8) (.t 7)) .done))
 (.seq (.cond (.t 9) .skip
 (.exit 0))
 (.seq (.block 1 (.seq (.reg (tm 10 (.t 8) (tm 5 (.t 10) .done)))
 (.seq (.reg (tm 11 (.t 1) (tm 12 (.t 0) (tm 13 (.t 5) (tq 14 (.iaddr 1 (.t 12) (.t 13)) (tq 15 (.load 1 false (.t 14)) (tq 16 (.calv (.t 11) [(.t 15)]) .done)))))))
 (.cond (.t 16) (.seq (.reg (tm 17 (.t 5) (tm 4 (.t 17) .done)))
 .ret)
 .skip))))
 (.reg (tq 18 (.bin .add (.t 8) (.c (.int .i64 1))) (tm 8 (.t 18) .done)))))))))
 (.cut (.seq (.reg (tq 4 (.mov (.c (.int .i64 (-1)))) .done))
 .ret))))
theorem fc202_h0 : fcomp Try.prog Try.f202 = some (c202_h0.erase, [.mov (.t 4)], 19) := by kernel_rfl
def slices_IndexFunc_int_int_h0_L1 (s_1 : (List Int)) (c_2 : Int) : List Int → Nat → Option (Fl (Int × Int) Unit)
  | [], s8_19 =>
    some (.go ())
  | x_34 :: xs, s8_19 =>
    if s8_19 < s_1.length then
    (impl_leave_1 x_34 c_2).bind fun r_36 =>
    if r_36 then
    some (.ret ((s8_19 : Int), c_2))
    else
    slices_IndexFunc_int_int_h0_L1 s_1 c_2 xs (s8_19 + 1)
    else none

def slices_IndexFunc_int_int_h0 (s_1 : (List Int)) (c_2 : Int) : Option (Int × Int) :=
    (slices_IndexFunc_int_int_h0_L1 s_1 c_2 s_1 0).bind fun q => (match q with
    | .ret r => some r
    | .go _ =>
    some ((-1), c_2))
theorem w_slices_IndexFunc_int_int_h0 (s_1 : (List Int)) (c_2 : Int) (r : (Int × Int)) (hf : slices_IndexFunc_int_int_h0 s_1 c_2 = some r) : CallHeap Try.prog ⟨true, true⟩ 202 [(.own 0 0 s_1.length), (.fn 186 [(.ptr 1 0 0)])] [.row 1 (s_1.map encI), .box 1 (.int .i64 c_2)] (.int .i64 r.1) [.row 1 (s_1.map encI), .box 1 (.int .i64 r.2)] := by
 refine CallHeap.of_awp mixed Try.func202 fc202_h0 nle ?_; rw [argT_eq]; unfold slices_IndexFunc_int_int_h0 at hf; unfold c202_h0; refine (show awp Try.prog ⟨true, true⟩ 2 _ (ofL [(0, (.own 0 0 s_1.length)), (1, (.fn 186 [(.ptr 1 0 0)]))]) [.row 1 (s_1.map encI), .box 1 (.int .i64 c_2)] _ from ?_); refine awp_seq <| w_reg <| s_mov (.int .i64 0) rfl <| w_done <| k_seq <| awp_seq <| awp_seq <| w_reg <| s_mov (.own 0 0 s_1.length) rfl <| s_dof (o_lenown rfl rfl) fun hl3 => s_mov (.int .i64 0) rfl <| w_done <| k_seq <| ?_
 obtain ⟨p27, hb1, hf⟩ := ob hf
 refine awp_cutx (X := {q : Unit // p27 = .go q}) (fun q => ([], [.row 1 (s_1.map encI), .box 1 (.int .i64 c_2)])) ?_ ?_
 ·refine awp_loop (X := {q : Nat // slices_IndexFunc_int_int_h0_L1 s_1 c_2 (s_1.drop q) q = some p27}) (fun q => ([(0, (.own 0 0 s_1.length)), (1, (.fn 186 [(.ptr 1 0 0)])), (7, (.int .i64 (s_1.length : Int))), (8, (.int .i64 (q.1 : Int)))], [.row 1 (s_1.map encI), .box 1 (.int .i64 c_2)])) (fun q => s_1.length - q.1) ⟨0, hb1⟩ ⟨[], [0, 1], _, _, rfl, rfl, ⟨.refl _, ⟨.refl _, ⟨.refl _, ⟨.refl _, trivial⟩⟩⟩⟩, (.refl _)⟩ ?_
  rintro ⟨s8_19, hc1⟩
  have hc1 : slices_IndexFunc_int_int_h0_L1 s_1 c_2 (s_1.drop s8_19) s8_19 = some p27 := hc1
  refine (show awp Try.prog ⟨true, true⟩ 2 _ (ofL [(0, (.own 0 0 s_1.length)), (1, (.fn 186 [(.ptr 1 0 0)])), (7, (.int .i64 (s_1.length : Int))), (8, (.int .i64 (s8_19 : Int)))]) [.row 1 (s_1.map encI), .box 1 (.int .i64 c_2)] _ from ?_)
  rcases dropc s_1 s8_19 with ⟨hie30, hd33⟩ | ⟨hlt28, x_34, hx29, hd33⟩
  ·rw [hd33, slices_IndexFunc_int_int_h0_L1.eq_1] at hc1
   have hq32 := dlf hie30
   refine awp_seq <| w_reg <| s_q (.bool (decide ((s8_19 : Int) < (s_1.length : Int)))) rfl (.of rfl trivial) rfl <| w_done <| k_seq <| awp_seq <| w_condf rfl hq32 <| w_exit <| k_seqx <| k_loopx <| k_blkx <| ?_; obtain rfl := os hc1; exact k_cutn ⟨_, rfl⟩ ⟨[], [0, 1], _, _, rfl, rfl, trivial, (.refl _)⟩
  ·rw [hd33, slices_IndexFunc_int_int_h0_L1.eq_2] at hc1
   have hq32 := dlt hlt28
   refine awp_seq <| w_reg <| s_q (.bool (decide ((s8_19 : Int) < (s_1.length : Int)))) rfl (.of rfl trivial) rfl <| w_done <| k_seq <| awp_seq <| w_condt rfl hq32 <| w_skip <| k_seq <| awp_seq <| w_blk <| awp_seq <| w_reg <| s_mov (.int .i64 (s8_19 : Int)) rfl <| s_mov (.int .i64 (s8_19 : Int)) rfl <| w_done <| k_seq <| awp_seq <| w_reg <| ?_
   obtain ⟨g35, hc1⟩ := og hc1
   obtain ⟨r_36, er37, hc1⟩ := ob hc1
   refine s_mov (.fn 186 [(.ptr 1 0 0)]) rfl <| s_mov (.own 0 0 s_1.length) rfl <| s_mov (.int .i64 (s8_19 : Int)) rfl <| s_do (o_iaddrownn rfl rfl g35 rfl rfl) <| s_do (o_loadrowm (enc := encI) (v := (.int .i64 x_34)) rfl rfl hx29 ⟨rfl, rfl⟩ rfl rfl) <| s_do (o_calvk (v := (.bool r_36)) rfl (by kernel_rfl) (w_impl_leave_1 _ _ _ er37) rfl rfl (.refl _) rfl) <| w_done <| k_seq <| ?_
   rcases oi hc1 with ⟨c38, hc1⟩ | ⟨c38, hc1⟩
   ·refine w_condt rfl c38 <| awp_seq <| w_reg <| s_mov (.int .i64 (s8_19 : Int)) rfl <| s_mov (.int .i64 (s8_19 : Int)) rfl <| w_done <| k_seq <| w_ret <| ?_; obtain rfl := os hc1; obtain rfl := os hf; exact r_heap [] [0, 1] rfl ⟨.of trivial trivial, trivial⟩ rfl (.refl _) (.refl _)
   ·refine w_condf rfl (bf c38) <| w_skip <| k_blk <| k_seq <| w_reg <| s_q (.int .i64 (w64 ((s8_19 : Int) + 1))) rfl (.of rfl trivial) rfl <| s_mov (.int .i64 (w64 ((s8_19 : Int) + 1))) rfl <| w_done <| ?_; exact k_loopn ⟨(s8_19 + 1), hc1⟩ (mul hlt28) ⟨[], [0, 1], _, _, rfl, rfl, ⟨.refl _, ⟨.refl _, ⟨.refl _, ⟨.of_eq (congrArg (AV.int _) (w64_incr hlt28 hl3)), trivial⟩⟩⟩⟩, (.refl _)⟩
 ·rintro ⟨_, rfl⟩
  refine awp_seq <| w_reg <| s_mov (.int .i64 (-1)) rfl <| w_done <| k_seq <| w_ret <| ?_; obtain rfl := os hf; exact r_heap [] [0, 1] rfl ⟨.of trivial trivial, trivial⟩ rfl (.refl _) (.refl _)

/- slices.DeleteFunc[[]int,int] -/
def c119_h3 : ACode :=
 (.seq (.reg (tm 4 (.c .nil) .done))
 (.seq (.reg (tm 8 (.t 0) (tm 9 (.t 1) (tq 10 (.call 202 [(.t 8), (.t 9)]) (tm 5 (.t 10) .done)))))
 (.seq (.seq (.reg (tm 11 (.t 5) (tq 12 (.bin .eql (.t 11) (.c (.int .i64 (-1)))) .done)))
 (.cond (.t 12) (.seq (.reg (tm 13 (.t 0) (tm 4 (.t 13) .done)))
 .ret)
 .skip))
 (.seq (.seq (.reg (tm 14 (.t 5) (tq 15 (.bin .add (.t 14) (.c (.int .i64 1))) (tm 6 (.t 15) .done))))
 (.block 0 (.loop (.seq (.seq (.reg (tm 16 (.t 6) (tm 17 (.t 0) (tq 18 (.len (.t 17)) (tq 19 (.bin .lss (.t 16) (.t 18)) .done)))))
 (.cond (.t 19) .skip
 (.exit 0)))
 (.seq (.block 1 (.seq (.reg (tm 22 (.t 0) (tm 23 (.t 6) (tq 24 (.iaddr 1 (.t 22) (.t 23)) (tq 25 (.load 1 false (.t 24)) (tm 7 (.t 25) .done))))))
 (.seq (.reg (tm 26 (.t 1) (tm 27 (.t 7) (tq 28 (.calv (.t 26) [(.t 27)]) (tq 29 (.not (.t 28)) .done)))))
 (.cond (.t 29) (.seq (.reg (tm 30 (.t 0) (tm 31 (.t 5) (tm 32 (.t 7) (tq 33 (.iaddr 1 (.t 30) (.t 31)) (.q ⟨none, none, .store 1 (.t 33) (.t 32)⟩
 .done))))))
 (.reg (tm 34 (.t 5) (tq 35 (.bin .add (.t 34) (.c (.int .i64 1))) (tm 5 (.t 35) .done)))))
 .skip))))
 (.reg (tm 20 (.t 6) (tq 21 (.bin .add (.t 20) (.c (.int .i64 1))) (tm 6 (.t 21) .done)))))))))
 (.cut (.seq (.reg (tm 36 (.t 0) (tm 37 (.t 5) (tq 38 (.slice 1 (.t 36) (some (.t 37)) none) (.q ⟨none, none, .clr 1 (.int .i64 0) (.t 38)⟩
 .done)))))
 (.seq (.reg (tm 39 (.t 0) (tm 40 (.t 5) (tq 41 (.slice 1 (.t 39) none (some (.t 40))) (tm 4 (.t 41) .done)))))
 .ret)))))))
theorem fc119_h3 : fcomp Try.prog Try.f119 = some (c119_h3.erase, [.mov (.t 4)], 42) := by kernel_rfl
def slices_DeleteFunc_int_int_h3_L1 (r_3 : (Int × Int)) : Nat → Int → Int → (List Int) → Option (Int × (List Int))
  | 0, _, _, _ => none
  | k + 1, i_71, j_72, s_73 =>
    if (decide (j_72 < (s_73.length : Int))) then
    if (0 : Int) ≤ j_72 ∧ j_72 < (s_73.length : Int) then
    (s_73[(0 + j_72.toNat)]?).bind fun x_91 =>
    (impl_leave_1 x_91 r_3.2).bind fun r_93 =>
    if (!r_93) then
    if (0 : Int) ≤ i_71 ∧ i_71 < (s_73.length : Int) then
    (s_73[(0 + i_71.toNat)]?).bind fun x_97 =>
    slices_DeleteFunc_int_int_h3_L1 r_3 k (w64 (i_71 + 1)) (w64 (j_72 + 1)) (s_73.set (0 + i_71.toNat) x_91)
    else none
    else
    slices_DeleteFunc_int_int_h3_L1 r_3 k i_71 (w64 (j_72 + 1)) s_73
    else none
    else
    some (i_71, s_73)

def slices_DeleteFunc_int_int_h3 (s_1 : (List Int)) (c_2 : Int) : Option ((List Int) × Int) :=
    (slices_IndexFunc_int_int_h0 s_1 c_2).bind fun r_3 =>
    if (r_3.1 == (-1)) then
    some (s_1, r_3.2)
    else
    (slices_DeleteFunc_int_int_h3_L1 r_3 FUEL r_3.1 (w64 (r_3.1 + 1)) s_1).bind fun p87 =>
    (match p87 with
    | (i_85, s_86) =>
    if (0 : Int) ≤ i_85 ∧ i_85 ≤ (s_86.length : Int) then
    if (0 : Int) ≤ i_85 ∧ i_85 ≤ (s_86.length : Int) then
    some ((s_86.take i_85.toNat ++ List.replicate (s_86.length - i_85.toNat) 0 ++ s_86.drop (i_85.toNat + (s_86.length - i_85.toNat))).take i_85.toNat, r_3.2)
    else none
    else none)
theorem w_slices_DeleteFunc_int_int_h3 (s_1 : (List Int)) (c_2 : Int) (r : ((List Int) × Int)) (hf : slices_DeleteFunc_int_int_h3 s_1 c_2 = some r) : CallHeap Try.prog ⟨true, true⟩ 119 [(.own 0 0 s_1.length), (.fn 186 [(.ptr 1 0 0)])] [.row 1 (s_1.map encI), .box 1 (.int .i64 c_2)] (.own 2 0 r.1.length) [.dead, .box 1 (.int .i64 r.2), .row 1 (r.1.map encI)] := by
 refine CallHeap.of_awp mixed Try.func119 fc119_h3 nle ?_; rw [argT_eq]; unfold slices_DeleteFunc_int_int_h3 at hf; unfold c119_h3; refine (show awp Try.prog ⟨true, true⟩ 2 _ (ofL [(0, (.own 0 0 s_1.length)), (1, (.fn 186 [(.ptr 1 0 0)]))]) [.row 1 (s_1.map encI), .box 1 (.int .i64 c_2)] _ from ?_); refine awp_seq <| w_reg <| s_mov .nil rfl <| w_done <| k_seq <| awp_seq <| w_reg <| ?_
 obtain ⟨r_3, er4, hf⟩ := ob hf
 refine s_mov (.own 0 0 s_1.length) rfl <| s_mov (.fn 186 [(.ptr 1 0 0)]) rfl <| ?_; refine s_do (o_callh (v := (.int .i64 r_3.1)) (h2 := [.row 1 (s_1.map encI), .box 1 (.int .i64 r_3.2)]) [] [0, 1] (fun _ => rfl) (w_slices_IndexFunc_int_int_h0 _ _ _ er4) rfl (.refl _) (.refl _) rfl rfl) ?_; refine s_mov (.int .i64 r_3.1) rfl <| w_done <| k_seq <| awp_seq <| awp_seq <| w_reg <| s_mov (.int .i64 r_3.1) rfl <| s_q (.bool (r_3.1 == (-1))) rfl (.of rfl trivial) rfl <| w_done <| k_seq <| ?_
 rcases oi hf with ⟨c5, hf⟩ | ⟨c5, hf⟩
 ·refine w_condt rfl c5 <| awp_seq <| w_reg <| s_mov (.own 0 0 s_1.length) rfl <| s_mov (.own 0 0 s_1.length) rfl <| w_done <| k_seq <| w_ret <| ?_; obtain rfl := os hf; exact r_heap [.mv 0] [0, 1, 2] rfl ⟨.of trivial trivial, trivial⟩ rfl (.refl _) (.refl _)
 ·refine w_condf rfl (bf c5) <| w_skip <| k_seq <| awp_seq <| awp_seq <| w_reg <| s_mov (.int .i64 r_3.1) rfl <| s_q (.int .i64 (w64 (r_3.1 + 1))) rfl (.of rfl trivial) rfl <| s_mov (.int .i64 (w64 (r_3.1 + 1))) rfl <| w_done <| k_seq <| ?_
  obtain ⟨p87, hb1, hf⟩ := ob hf
  refine awp_cut ([(0, (.own 0 0 p87.2.length)), (5, (.int .i64 p87.1))], [.row 1 (p87.2.map encI), .box 1 (.int .i64 r_3.2)]) ?_ ?_
  ·refine awp_loop (X := {q : (Nat × Int × Int × (List Int)) // slices_DeleteFunc_int_int_h3_L1 r_3 q.1 q.2.1 q.2.2.1 q.2.2.2 = some p87}) (fun q => ([(0, (.own 0 0 q.1.2.2.2.length)), (1, (.fn 186 [(.ptr 1 0 0)])), (5, (.int .i64 q.1.2.1)), (6, (.int .i64 q.1.2.2.1))], [.row 1 (q.1.2.2.2.map encI), .box 1 (.int .i64 r_3.2)])) (fun q => q.1.1) ⟨(FUEL, r_3.1, w64 (r_3.1 + 1), s_1), hb1⟩ ⟨[], [0, 1], _, _, rfl, rfl, ⟨.refl _, ⟨.refl _, ⟨.refl _, ⟨.refl _, trivial⟩⟩⟩⟩, (.refl _)⟩ ?_
   rintro ⟨⟨k, i_71, j_72, s_73⟩, hc1⟩
   have hc1 : slices_DeleteFunc_int_int_h3_L1 r_3 k i_71 j_72 s_73 = some p87 := hc1
   refine (show awp Try.prog ⟨true, true⟩ 2 _ (ofL [(0, (.own 0 0 s_73.length)), (1, (.fn 186 [(.ptr 1 0 0)])), (5, (.int .i64 i_71)), (6, (.int .i64 j_72))]) [.row 1 (s_73.map encI), .box 1 (.int .i64 r_3.2)] _ from ?_)
   rcases k with _ | k
   ·rw [slices_DeleteFunc_int_int_h3_L1.eq_1] at hc1
    cases hc1
   ·rw [slices_DeleteFunc_int_int_h3_L1.eq_2] at hc1; refine awp_seq <| awp_seq <| w_reg <| s_mov (.int .i64 j_72) rfl <| s_mov (.own 0 0 s_73.length) rfl <| s_dof (o_lenown rfl rfl) fun hl88 => s_q (.bool (decide (j_72 < (s_73.length : Int)))) rfl (.of rfl trivial) rfl <| w_done <| k_seq <| ?_
    rcases oi hc1 with ⟨c89, hc1⟩ | ⟨c89, hc1⟩
    ·refine w_condt rfl c89 <| w_skip <| k_seq <| awp_seq <| w_blk <| awp_seq <| w_reg <| ?_
     obtain ⟨g90, hc1⟩ := og hc1
     obtain ⟨x_91, ex92, hc1⟩ := ob hc1
     refine s_mov (.own 0 0 s_73.length) rfl <| s_mov (.int .i64 j_72) rfl <| s_do (o_iaddrown rfl rfl g90.1 g90.2 rfl rfl) <| s_do (o_loadrowm (enc := encI) (v := (.int .i64 x_91)) rfl rfl ex92 ⟨rfl, rfl⟩ rfl rfl) <| s_mov (.int .i64 x_91) rfl <| w_done <| k_seq <| awp_seq <| w_reg <| ?_
     obtain ⟨r_93, er94, hc1⟩ := ob hc1
     refine s_mov (.fn 186 [(.ptr 1 0 0)]) rfl <| s_mov (.int .i64 x_91) rfl <| s_do (o_calvk (v := (.bool r_93)) rfl (by kernel_rfl) (w_impl_leave_1 _ _ _ er94) rfl rfl (.refl _) rfl) <| s_q (.bool (!r_93)) rfl (.of trivial trivial) rfl <| w_done <| k_seq <| ?_
     rcases oi hc1 with ⟨c95, hc1⟩ | ⟨c95, hc1⟩
     ·refine w_condt rfl c95 <| awp_seq <| w_reg <| ?_
      obtain ⟨g96, hc1⟩ := og hc1
      obtain ⟨x_97, ex98, hc1⟩ := ob hc1
      refine s_mov (.own 0 0 s_73.length) rfl <| s_mov (.int .i64 i_71) rfl <| s_mov (.int .i64 x_91) rfl <| s_do (o_iaddrown rfl rfl g96.1 g96.2 rfl rfl) <| ?_; refine s_do0 (o_storerow (v' := (.int .i64 x_91)) (e' := x_91) rfl rfl ex98 rfl rfl rfl (by decide) (fun _ => by decide) ⟨rfl, rfl, rfl⟩ (.refl _) rfl) ?_; refine w_done <| k_seq <| w_reg <| s_mov (.int .i64 i_71) rfl <| s_q (.int .i64 (w64 (i_71 + 1))) rfl (.of rfl trivial) rfl <| s_mov (.int .i64 (w64 (i_71 + 1))) rfl <| w_done <| k_blk <| k_seq <| w_reg <| s_mov (.int .i64 j_72) rfl <| s_q (.int .i64 (w64 (j_72 + 1))) rfl (.of rfl trivial) rfl <| s_mov (.int .i64 (w64 (j_72 + 1))) rfl <| w_done <| ?_; exact k_loopn ⟨(k, w64 (i_71 + 1), w64 (j_72 + 1), s_73.set (0 + i_71.toNat) x_91), hc1⟩ (Nat.lt_succ_self _) ⟨[], [0, 1], _, _, rfl, rfl, ⟨.of_eq (congrArg (AV.own _ 0) (by simp)), ⟨.refl _, ⟨.refl _, ⟨.refl _, trivial⟩⟩⟩⟩, (.refl _)⟩
     ·refine w_condf rfl (bf c95) <| w_skip <| k_blk <| k_seq <| w_reg <| s_mov (.int .i64 j_72) rfl <| s_q (.int .i64 (w64 (j_72 + 1))) rfl (.of rfl trivial) rfl <| s_mov (.int .i64 (w64 (j_72 + 1))) rfl <| w_done <| ?_; exact k_loopn ⟨(k, i_71, w64 (j_72 + 1), s_73), hc1⟩ (Nat.lt_succ_self _) ⟨[], [0, 1], _, _, rfl, rfl, ⟨.refl _, ⟨.refl _, ⟨.refl _, ⟨.refl _, trivial⟩⟩⟩⟩, (.refl _)⟩
    ·refine w_condf rfl (bf c89) <| w_exit <| k_seqx <| k_loopx <| k_blkx <| ?_; obtain rfl := os hc1; exact ⟨[], [0, 1], _, _, rfl, rfl, ⟨.refl _, ⟨.refl _, trivial⟩⟩, (.refl _)⟩
  ·obtain ⟨i_85, s_86⟩ := p87
   refine awp_seq <| w_reg <| ?_
   obtain ⟨g99, hf⟩ := og hf
   refine s_mov (.own 0 0 s_86.length) rfl <| s_mov (.int .i64 i_85) rfl <| s_do (o_sldo rfl rfl rfl g99.1 g99.2) <| s_do0 (o_clr (enc := encI) (y := 0) rfl rfl (.refl _) rfl) <| w_done <| k_seq <| awp_seq <| w_reg <| ?_
   obtain ⟨g100, hf⟩ := og hf
   refine s_mov (.own 0 0 s_86.length) rfl <| s_mov (.int .i64 i_85) rfl <| s_do (o_slto rfl rfl rfl g100.1 g100.2) <| s_mov (.own 0 0 i_85.toNat) rfl <| w_done <| k_seq <| w_ret <| ?_; obtain rfl := os hf; exact r_heap [.trim 4] [0, 1, 2] rfl ⟨.of trivial trivial, trivial⟩ rfl ((.cons (.refl _) (.cons (.refl _) (.cons ((LeO.tk (enc := encI) (s_86.take i_85.toNat ++ List.replicate (s_86.length - i_85.toNat) 0 ++ s_86.drop (i_85.toNat + (s_86.length - i_85.toNat))) _)) .nil)))) (.of_eq (congrArg (AV.own _ 0) (by simp)))

/- slices.Delete[[]impl.Lock,impl.Lock] -/
def slices_Delete_impl_Lock_impl_Lock_h1 (a0 : List GLock) (a1 a2 : Int) : Option (List GLock) :=
    if (0 ≤ a1 ∧ a1 < a2) ∧ a2 ≤ (a0.length : Int) then
    some (a0.take a1.toNat ++ a0.drop a2.toNat)
    else none
/- HAND -/
open Go.RowKit
set_option maxRecDepth 100000 in
theorem del_slices_Delete_impl_Lock_impl_Lock_h1 (w : World) (g n c i j : Nat) (A1 A2 : Array Value) (hij : i < j) (hj : j ≤ n) (hnc : n ≤ c) (hc : c ≤ maxLen)
    (hap : ∀ ty, (Builtin.append_ #[38, 38] ty #[.slice (some ⟨g, 0, none⟩) i c, .slice (if c = j then some ⟨g, 0, none⟩ else some ⟨g, j * 2, none⟩) (n - j) (c - j)]).run Try.prog w.drew = .ok (.slice (some ⟨g, 0, none⟩) (i + (n - j)) c) (w.drew.setRow g A1))
    (hcl : ∀ ty, (Builtin.clear_ #[38] ty #[.slice (some ⟨g, (i + (n - j)) * 2, none⟩) (n - (i + (n - j))) (c - (i + (n - j)))]).run Try.prog (w.drew.setRow g A1) = .ok (.tuple #[]) ((w.drew.setRow g A1).setRow g A2)) :
    Calls Try.prog 187 #[.slice (some ⟨g, 0, none⟩) n c, .int .i64 i, .int .i64 j] w fun e' w' =>
      e' = .returned (.slice (some ⟨g, 0, none⟩) (i + (n - j)) c) ∧ w' = (w.drew.setRow g A1).setRow g A2 := by
  have h1 : ¬ ((i : Int) = (j : Int)) := by omega
  have hic : i ≤ c := by omega
  have hci : ¬ (c = i) := by omega
  have hjc : j ≤ c := by omega
  have hcj : ¬ (c = i + (n - j)) := by omega
  have hle : i + (n - j) ≤ c := by omega
  have hle2 : ((i + (n - j) : Nat) : Int) ≤ (n : Int) := by omega
  have hle3 : (i + (n - j) : Nat) ≤ n := by omega
  have hc63 : c ≤ 9223372036854775807 := by unfold maxLen at hc; omega
  have mixed : Try.prog.follows .mixedOrders = true := by kernel_rfl
  go_enter Try.func187, (show Try.f187.ntmps = 33 from rfl)
  go_wp2_with fail
  go_region_law_o (refine step_append_runI rfl _ _ 38 38 rfl (.slice (some ⟨g, 0, none⟩) i c) (.slice (if c = j then some ⟨g, 0, none⟩ else some ⟨g, j * 2, none⟩) (n - j) (c - j)) (by simp [Act.eval, Act.put]) (by simp [Act.eval, Act.put]) (hap _) ?_)
  all_goals go_wp2_with (simp only [hcl])
  all_goals go_ret
  all_goals exact ⟨rfl, rfl⟩

theorem info_slices_Delete_impl_Lock_impl_Lock_h1 : ∃ i : TypeInfo, Try.prog.info? 125 = some i ∧ i.size = 2 ∧ i.bytes = 40 ∧ i.zero = some (.agg #[.string ⟨#[]⟩, .slice none 0 0]) := info_of (by kernel_rfl)
theorem undS_slices_Delete_impl_Lock_impl_Lock_h1 : Try.prog.underlying 38 = some (.slice 125) := by kernel_rfl
theorem delH_slices_Delete_impl_Lock_impl_Lock_h1 (dm : Md) (l : List AV) (i j : Nat) (hij : i < j) (hj : j ≤ l.length) : CallHeap Try.prog dm 187 [.own 0 0 l.length, .int .i64 i, .int .i64 j] [.row 2 l] (.own 1 0 (i + (l.length - j))) [.dead, .row 2 (l.take i ++ l.drop j)] := by
  intro C σ φ w vals _ _ hok hb hr hv
  simp only [RVs] at hv
  obtain ⟨v1, _, rfl, h1, v2, _, rfl, h2, v3, _, rfl, h3, rfl⟩ := hv
  have e2 : v2 = .int .i64 i := by simpa only [RV] using h2
  have e3 : v3 = .int .i64 j := by simpa only [RV] using h3
  subst e2 e3
  obtain ⟨ti, hti, hts, htb, htz⟩ := info_slices_Delete_impl_Lock_impl_Lock_h1
  have hr' := (Grows.drew w).heap hr
  rcases own_raw hr rfl h1 rfl with ⟨_, rfl, _⟩ | ⟨g, c, cur, e, hσ, rfl, hnc, hcm, hg, hcs, hrep⟩
  · simp at hj; omega
  have hrepD : RepS C.dm w.drew 2 l cur.toList (φ 0) := RepS.world (w := w) (w' := w.drew) _ _ _ (fun _ _ => rfl) hrep
  obtain ⟨fa, fb, hfab, ra, rb⟩ := hrepD.split i
  obtain ⟨fc, fd, hfcd, rd⟩ := rb.drop (j - i)
  rw [List.drop_drop, List.drop_drop, ← Nat.add_mul, show i + (j - i) = j by omega] at rd
  have hsub : List.Sublist (fa ++ fd) (φ 0) := by
    rw [hfab, hfcd]
    exact List.Sublist.append (List.Sublist.refl _) (List.sublist_append_right fc _)
  have hl0 : (l.take i).length = i := by rw [List.length_take]; omega
  have hl1 : (l.drop j).length = l.length - j := by rw [List.length_drop]
  have hlen := hrep.length
  have hcl : cur.toList.length = c * 2 := by rw [← hcs]; simp
  have hc0 : (cur.toList.take (i * 2)).length = i * 2 := by rw [List.length_take]; omega
  have hg' : w.drew.heap[g]? = some (.cells cur e (0, 0)) := hg
  obtain ⟨news, hsrc, hnews, hrep1⟩ := srcOk (P := Try.prog) hr' (t := 38) undS_slices_Delete_impl_Lock_impl_Lock_h1 (sz := 2) (m := l.length - j) (a := if c = j then some ⟨g, 0, none⟩ else some ⟨g, j * 2, none⟩) (c := c - j) (fp := fd) hl1 (by
    by_cases hm : l.length - j = 0
    · refine .inl ⟨hm, ?_⟩
      have : l.drop j = [] := List.eq_nil_of_length_eq_zero (by rw [hl1]; exact hm)
      rw [this] at rd
      simpa only [RepS] using rd
    · exact .inr ⟨g, j * 2, cur, e, (0, 0), if_neg (by omega), hg', rd⟩)
  have hap := fun ty => run_append_room_at (P := Try.prog) (w := w.drew) 38 38 ty 125 e ti undS_slices_Delete_impl_Lock_impl_Lock_h1 hti g i c cur hg' _ (l.length - j) news (by rw [hts]; exact hsrc) (by omega) (by rw [hts, hnews]; omega)
  obtain ⟨A1, hA1⟩ : ∃ A1, A1 = (cur.toList.take (i * ti.size) ++ news ++ cur.toList.drop (i * ti.size + news.length)).toArray := ⟨_, rfl⟩
  rw [← hA1] at hap
  have hs1 : A1.size = c * 2 := by
    rw [hA1, hts]
    simp only [List.size_toArray, List.length_append, List.length_drop, hc0, hnews, hcl]
    omega
  have hp1 : A1.toList.take ((i + (l.length - j)) * 2) = cur.toList.take (i * 2) ++ news := by
    rw [hA1, hts, Nat.add_mul]
    simp only [List.append_assoc]
    rw [take_add hc0, List.take_left' hnews]
  have hclr := fun ty => run_clear_rowz (P := Try.prog) (w.drew.setRow g A1) 38 ty 125 ti _ g ((i + (l.length - j)) * 2) (l.length - (i + (l.length - j))) (c - (i + (l.length - j))) A1 e undS_slices_Delete_impl_Lock_impl_Lock_h1 hti htz (by rw [hts]; rfl) (by decide) (setRow_heap w.drew g cur A1 e _ hg') (by omega) (by rw [hts, hs1]; omega)
  obtain ⟨A2, hA2⟩ : ∃ A2, A2 = (A1.toList.take ((i + (l.length - j)) * 2) ++ (Builtin.zeroCells (Value.agg #[.string ⟨#[]⟩, .slice none 0 0]).cells (l.length - (i + (l.length - j)))).toList ++ A1.toList.drop ((i + (l.length - j)) * 2 + (l.length - (i + (l.length - j))) * ti.size)).toArray := ⟨_, rfl⟩
  rw [← hA2] at hclr
  have hl3 : (A1.toList.take ((i + (l.length - j)) * 2)).length = (i + (l.length - j)) * 2 := by
    have : A1.toList.length = c * 2 := by simpa using hs1
    rw [List.length_take, this]; omega
  have hs2 : A2.size = c * 2 := by
    rw [hA2, hts]
    have h5 : A1.toList.length = c * 2 := by simpa using hs1
    have h6 : (Builtin.zeroCells (Value.agg #[.string ⟨#[]⟩, .slice none 0 0]).cells (l.length - (i + (l.length - j)))).toList.length = (l.length - (i + (l.length - j))) * 2 := by rw [Array.length_toList, size_zeroCells]; rfl
    simp only [List.size_toArray, List.length_append, List.length_drop, hl3, h5, h6]
    omega
  have hp2 : A2.toList.take ((i + (l.length - j)) * 2) = cur.toList.take (i * 2) ++ news := by
    rw [hA2]
    simp only [List.append_assoc]
    rw [List.take_left' hl3, hp1]
  refine (del_slices_Delete_impl_Lock_impl_Lock_h1 w g l.length c i j A1 A2 hij hj hnc hcm hap hclr).mono ?_
  rintro e' w' ⟨rfl, rfl⟩
  have hA := RepS.append (RepS.congr (cs' := cur.toList.take (i * 2)) (by rw [hl0, List.take_take, Nat.min_self]) ra) (by rw [hc0, hl0]) hrep1
  obtain ⟨σ', φ', k1, k2, k3⟩ := sub_fin (w' := (w.drew.setRow g A1).setRow g A2) hr (by simp) hσ hcm (fun b _ hbg => by rw [setRow_other _ _ _ _ hbg, setRow_other _ _ _ _ hbg]; rfl) (setRow_heap _ g A1 A2 e _ (setRow_heap w.drew g cur A1 e _ hg')) hs2 hsub (RepS.world (w := w.drew) (w' := w) _ _ _ (fun _ _ => rfl) hA) (by
    rw [List.length_append, hl0, hl1, hp2]
    exact (List.take_of_length_le (by rw [List.length_append, hc0, hnews]; omega)).symm)
  have hgb : C.mine g := hr.base 0 _ g c rfl rfl hσ
  refine ⟨σ', φ', k1, k2.x, ?_, ⟨rfl, rfl, rfl, by simp, fun k hk => by rw [setRow_other _ _ _ _ (by have := hgb.1; omega), setRow_other _ _ _ _ (by have := hgb.1; omega)]; rfl⟩⟩
  simp only [RV, List.getElem?_cons_succ, List.getElem?_cons_zero]
  exact ⟨_, c, rfl, by rw [List.length_append, hl0, hl1]; omega, by omega, hcm, by rw [k3]; simp⟩
theorem w_slices_Delete_impl_Lock_impl_Lock_h1 (a0 : List GLock) (a1 a2 : Int) (r : List GLock) (hf : slices_Delete_impl_Lock_impl_Lock_h1 a0 a1 a2 = some r) : CallHeap Try.prog ⟨true, true⟩ 187 [.own 0 0 a0.length, .int .i64 a1, .int .i64 a2] [.row 2 (a0.map encGLock)] (.own 1 0 r.length) [.dead, .row 2 (r.map encGLock)] := by
  unfold slices_Delete_impl_Lock_impl_Lock_h1 at hf
  split at hf
  · rename_i h
    obtain rfl := os hf
    obtain ⟨i, rfl⟩ : ∃ i : Nat, a1 = i := ⟨a1.toNat, by omega⟩
    obtain ⟨j, rfl⟩ : ∃ j : Nat, a2 = j := ⟨a2.toNat, by omega⟩
    have := delH_slices_Delete_impl_Lock_impl_Lock_h1 ⟨true, true⟩ (a0.map encGLock) i j (by omega) (by rw [List.length_map]; omega)
    rw [List.length_map] at this
    simp only [Int.toNat_natCast, List.map_append, List.map_take, List.map_drop, List.length_append, List.length_take, List.length_drop]
    rw [Nat.min_eq_left (by omega)]
    exact this
  · cases hf

/- impl.leave -/
def c101_h2 : ACode :=
 (.seq (.reg (tq 5 (.box 1 (.t 2)) (tm 6 (.c .nil) (tm 7 (.c .nil) .done))))
 (.seq (.reg (tm 11 (.t 0) (tm 12 (.t 1) (tq 13 (.iaddr 2 (.t 11) (.t 12)) (tq 14 (.bslice 3 []) (tm 8 (.t 13) (tm 9 (.t 14) .done)))))))
 (.seq (.rev (.reg (tm 15 (.t 8) (tq 16 (.nilck (.t 15)) (tq 17 (.faddr 1 (.t 16)) (tq 18 (.load 1 false (.t 17)) (tq 19 (.iaddr 1 (.t 18) (.c (.int .i64 0))) (tq 20 (.load 1 false (.t 19)) (tq 21 (.load 1 false (.t 5)) (tq 22 (.bin .eql (.t 20) (.t 21)) (tm 10 (.t 22) .done)))))))))))
 (.seq (.reg (tm 23 (.t 8) (tm 24 (.t 8) (tq 25 (.nilck (.t 24)) (tq 26 (.faddr 1 (.t 25)) (tq 27 (.load 1 false (.t 26)) (tq 28 (.mkfn 186 [(.t 5)]) (tq 29 (.call 119 [(.t 27), (.t 28)]) (tq 30 (.nilck (.t 23)) (tq 31 (.faddr 1 (.t 30)) (.q ⟨none, none, .store 1 (.t 31) (.t 29)⟩
 .done)))))))))))
 (.seq (.seq (.reg (tm 32 (.t 8) (tq 33 (.nilck (.t 32)) (tq 34 (.faddr 1 (.t 33)) (tq 35 (.load 1 false (.t 34)) (tq 36 (.len (.t 35)) (tq 37 (.bin .eql (.t 36) (.c (.int .i64 0))) .done)))))))
 (.cond (.t 37) (.seq (.rev (.reg (tm 38 (.t 0) (tm 39 (.t 1) (tm 40 (.t 1) (tq 41 (.bin .add (.t 40) (.c (.int .i64 1))) (tq 42 (.call 187 [(.t 38), (.t 39), (.t 41)]) (tm 43 (.t 9) (tm 6 (.t 42) (tm 7 (.t 43) .done))))))))))
 .ret)
 .skip))
 (.seq (.seq (.reg (tm 44 (.t 10) .done))
 (.cond (.t 44) (.reg (tm 45 (.t 9) (tm 46 (.t 8) (tq 47 (.nilck (.t 46)) (tq 48 (.faddr 1 (.t 47)) (tq 49 (.load 1 false (.t 48)) (tq 50 (.iaddr 1 (.t 49) (.c (.int .i64 0))) (tq 51 (.load 1 false (.t 50)) (tm 52 (.t 8) (tq 53 (.nilck (.t 52)) (tq 54 (.faddr 0 (.t 53)) (tq 55 (.load 1 false (.t 54)) (tq 56 (.build [(.int .i64 0), (.str []), (.str [])] [(0, 1, (.t 51)), (1, 1, (.c (.str [108, 111, 99, 107, 101, 100]))), (2, 1, (.t 55))]) (.l ⟨(some 57), none, .bslice 3 [(.t 56)]⟩ []
 (.l ⟨(some 58), none, .append 3 40 (.t 45) (.t 57)⟩ []
 (.l ⟨(some 9), none, .mov (.t 58)⟩ []
 .done .non) .non) .non))))))))))))))
 .skip))
 (.seq (.reg (tm 59 (.t 0) (tm 60 (.t 9) (tm 6 (.t 59) (tm 7 (.t 60) .done)))))
 (.rev .ret))))))))
theorem fc101_h2 : fcomp Try.prog Try.f101 = some (c101_h2.erase, [.mov (.t 6), .mov (.t 7)], 61) := by kernel_rfl
def impl_leave_h2 (list_1 : (List GLock)) (k_2 : Int) (session_3 : Int) : Option ((List GLock) × (List GTold)) :=
    if (0 : Int) ≤ k_2 ∧ k_2 < (list_1.length : Int) then
    ((list_1[(0 + k_2.toNat)]?)).bind fun x_5 =>
    if 0 < x_5.Queue.length then
    (x_5.Queue[0]?).bind fun x_8 =>
    (slices_DeleteFunc_int_int_h3 x_5.Queue session_3).bind fun r_10 =>
    if ((r_10.1.length : Int) == 0) then
    (slices_Delete_impl_Lock_impl_Lock_h1 (list_1.set (0 + k_2.toNat) (⟨x_5.Name, r_10.1⟩ : GLock)) k_2 (w64 (k_2 + 1))).bind fun r_14 =>
    some (r_14, [])
    else
    if (x_8 == session_3) then
    if 0 < r_10.1.length then
    (r_10.1[0]?).bind fun x_18 =>
    if ([] ++ [(⟨x_18, [108, 111, 99, 107, 101, 100], x_5.Name⟩ : GTold)]).length ≤ 2 ^ 30 then
    some (list_1.set (0 + k_2.toNat) (⟨x_5.Name, r_10.1⟩ : GLock), [] ++ [(⟨x_18, [108, 111, 99, 107, 101, 100], x_5.Name⟩ : GTold)])
    else none
    else none
    else
    some (list_1.set (0 + k_2.toNat) (⟨x_5.Name, r_10.1⟩ : GLock), [])
    else none
    else none
theorem w_impl_leave_h2 (list_1 : (List GLock)) (k_2 : Int) (session_3 : Int) (r : ((List GLock) × (List GTold))) (hf : impl_leave_h2 list_1 k_2 session_3 = some r) : CallHeap Try.prog ⟨true, true⟩ 101 [(.own 0 0 list_1.length), (.int .i64 k_2), (.int .i64 session_3)] [.row 2 (list_1.map encGLock)] (.tup [(.own 1 0 r.1.length), (.own 2 0 r.2.length)]) [.dead, .row 2 (r.1.map encGLock), .row 3 (r.2.map encGTold)] := by
 refine CallHeap.of_awp mixed Try.func101 fc101_h2 nle ?_; rw [argT_eq]; unfold impl_leave_h2 at hf; unfold c101_h2; refine (show awp Try.prog ⟨true, true⟩ 1 _ (ofL [(0, (.own 0 0 list_1.length)), (1, (.int .i64 k_2)), (2, (.int .i64 session_3))]) [.row 2 (list_1.map encGLock)] _ from ?_); refine awp_seq <| w_reg <| s_do (o_box (j := 1) (c := (.int .i64 session_3)) rfl trivial rfl rfl) <| s_mov .nil rfl <| s_mov .nil rfl <| w_done <| k_seq <| awp_seq <| w_reg <| ?_
 obtain ⟨g4, hf⟩ := og hf
 refine s_mov (.own 0 0 list_1.length) rfl <| s_mov (.int .i64 k_2) rfl <| s_do (o_iaddrown rfl rfl g4.1 g4.2 rfl rfl) <| ?_; refine s_do (o_bslice (j := 2) (as' := []) rfl (fun _ => by decide) trivial (.refl _) rfl rfl rfl) ?_; refine s_mov (.ptr 0 (0 + k_2.toNat) 0) rfl <| s_mov (.own 2 0 0) rfl <| w_done <| k_seq <| awp_seq <| ?_
 obtain ⟨x_5, ex6, hf⟩ := ob hf
 refine w_opn (o := 0) (i := (0 + k_2.toNat)) (el := (.agg [(.str x_5.Name), (.lst 1 (x_5.Queue.map encI))])) (el2 := (.agg [(.str x_5.Name), (.own 3 0 x_5.Queue.length)])) (xs := [.row 1 (x_5.Queue.map encI)]) rfl rfl rfl ex6 rfl (by simp only [AV.cells, openVs, openV, List.length_map, List.nil_append, List.append_nil, List.cons_append]; rfl) <| w_reg <| ?_
 obtain ⟨g7, hf⟩ := og hf
 obtain ⟨x_8, ex9, hf⟩ := ob hf
 refine s_mov (.ptr 0 (0 + k_2.toNat) 0) rfl <| s_q (.ptr 0 (0 + k_2.toNat) 0) rfl (.of trivial trivial) rfl <| s_do (o_faddrx rfl rfl) <| s_do (o_loadx rfl rfl nle rfl) <| s_do (o_iaddrownn rfl rfl g7 rfl rfl) <| s_do (o_loadrowm (enc := encI) (v := (.int .i64 x_8)) rfl rfl ex9 ⟨rfl, rfl⟩ rfl rfl) <| s_q (.int .i64 session_3) rfl (.of ⟨rfl, rfl⟩ trivial) rfl <| s_q (.bool (x_8 == session_3)) rfl (.of rfl trivial) rfl <| s_mov (.bool (x_8 == session_3)) rfl <| w_done <| k_seq <| awp_seq <| w_reg <| ?_
 obtain ⟨r_10, er11, hf⟩ := ob hf
 refine s_mov (.ptr 0 (0 + k_2.toNat) 0) rfl <| s_mov (.ptr 0 (0 + k_2.toNat) 0) rfl <| s_q (.ptr 0 (0 + k_2.toNat) 0) rfl (.of trivial trivial) rfl <| s_do (o_faddrx rfl rfl) <| s_do (o_loadx rfl rfl nle rfl) <| s_q (.fn 186 [(.ptr 1 0 0)]) rfl (.of trivial trivial) rfl <| ?_; refine s_do (o_callh (v := (.own 4 0 r_10.1.length)) (h2 := [.rowx 2 (list_1.map encGLock) (0 + k_2.toNat) (.agg [(.str x_5.Name), (.own 3 0 x_5.Queue.length)]), .box 1 (.int .i64 r_10.2), .row 3 ([].map encGTold), .dead, .row 1 (r_10.1.map encI)]) [] [3, 1] (fun _ => rfl) (w_slices_DeleteFunc_int_int_h3 _ _ _ er11) rfl (.refl _) (.refl _) rfl rfl) ?_; refine s_q (.ptr 0 (0 + k_2.toNat) 0) rfl (.of trivial trivial) rfl <| s_do (o_faddrx rfl rfl) <| ?_
 refine s_do0 (o_storex (v := (.own 4 0 r_10.1.length)) (y' := (.agg [(.str x_5.Name), (.own 4 0 r_10.1.length)])) rfl rfl rfl trivial ⟨rfl, nle⟩ ⟨⟨rfl, trivial⟩, trivial⟩ rfl) <| w_done <| k_seq <| awp_seq <| awp_seq <| w_reg <| s_mov (.ptr 0 (0 + k_2.toNat) 0) rfl <| s_q (.ptr 0 (0 + k_2.toNat) 0) rfl (.of trivial trivial) rfl <| s_do (o_faddrx rfl rfl) <| s_do (o_loadx rfl rfl nle rfl) <| s_dof (o_lenown rfl rfl) fun hl12 => s_q (.bool ((r_10.1.length : Int) == 0)) rfl (.of rfl trivial) rfl <| w_done <| k_seq <| ?_
 rcases oi hf with ⟨c13, hf⟩ | ⟨c13, hf⟩
 ·refine w_condt rfl c13 <| awp_seq <| w_cls (o := 0) (y := (⟨x_5.Name, r_10.1⟩ : GLock)) (h2 := [.rowx 2 (list_1.map encGLock) (0 + k_2.toNat) (.agg [(.str x_5.Name), (.own 4 0 r_10.1.length)]), .box 1 (.int .i64 r_10.2), .row 3 ([].map encGTold), .dead, .dead]) rfl rfl rfl (.agg (.cons (.refl _) (.cons (.of_eq (congrArg (AV.lst _) (tk (enc := encI) r_10.1))) .nil))) rfl <| w_reg <| ?_
  obtain ⟨r_14, er15, hf⟩ := ob hf
  refine s_mov (.own 0 0 list_1.length) rfl <| s_mov (.int .i64 k_2) rfl <| s_mov (.int .i64 k_2) rfl <| s_q (.int .i64 (w64 (k_2 + 1))) rfl (.of rfl trivial) rfl <| ?_; refine s_do (o_callh (v := (.own 5 0 r_14.length)) (h2 := [.dead, .box 1 (.int .i64 r_10.2), .row 3 ([].map encGTold), .dead, .dead, .row 2 (r_14.map encGLock)]) [] [0] (fun _ => rfl) (w_slices_Delete_impl_Lock_impl_Lock_h1 _ _ _ _ er15) rfl (.cons (.of_eq (congrArg (AV.own _ 0) (by simp))) (.cons (.refl _) (.cons (.refl _) .nil))) (.refl _) rfl rfl) ?_; refine s_mov (.own 2 0 0) rfl <| s_mov (.own 5 0 r_14.length) rfl <| s_mov (.own 2 0 0) rfl <| w_done <| k_seq <| w_ret <| ?_; obtain rfl := os hf; exact r_heap [] [0, 5, 2] rfl ⟨.of trivial trivial, ⟨.of trivial trivial, trivial⟩⟩ rfl (.refl _) (.refl _)
 ·refine w_condf rfl (bf c13) <| w_skip <| k_seq <| awp_seq <| awp_seq <| w_reg <| s_mov (.bool (x_8 == session_3)) rfl <| w_done <| k_seq <| ?_
  rcases oi hf with ⟨c16, hf⟩ | ⟨c16, hf⟩
  ·refine w_condt rfl c16 <| w_reg <| s_mov (.own 2 0 0) rfl <| s_mov (.ptr 0 (0 + k_2.toNat) 0) rfl <| s_q (.ptr 0 (0 + k_2.toNat) 0) rfl (.of trivial trivial) rfl <| s_do (o_faddrx rfl rfl) <| s_do (o_loadx rfl rfl nle rfl) <| ?_
   obtain ⟨g17, hf⟩ := og hf
   refine s_do (o_iaddrownn rfl rfl g17 rfl rfl) ?_
   obtain ⟨x_18, ex19, hf⟩ := ob hf
   refine s_do (o_loadrowm (enc := encI) (v := (.int .i64 x_18)) rfl rfl ex19 ⟨rfl, rfl⟩ rfl rfl) <| s_mov (.ptr 0 (0 + k_2.toNat) 0) rfl <| s_q (.ptr 0 (0 + k_2.toNat) 0) rfl (.of trivial trivial) rfl <| s_do (o_faddrx rfl rfl) <| s_do (o_loadx rfl rfl nle rfl) <| s_q (.agg [(.int .i64 x_18), (.str [108, 111, 99, 107, 101, 100]), (.str x_5.Name)]) rfl (.of ⟨⟨rfl, nle, trivial⟩, ⟨⟨rfl, nle, trivial⟩, ⟨⟨rfl, nle, trivial⟩, trivial⟩⟩⟩ trivial) rfl <| ?_; refine s_dol (o_bslice (j := 5) (as' := [(encGTold (⟨x_18, [108, 111, 99, 107, 101, 100], x_5.Name⟩ : GTold))]) rfl (fun _ => by decide) ⟨rfl, trivial⟩ (.refl _) rfl rfl rfl) trivial trivial ?_
   obtain ⟨g20, hf⟩ := og hf
   refine s_dol (o_appendd (j := 6) (L := (([] ++ [(⟨x_18, [108, 111, 99, 107, 101, 100], x_5.Name⟩ : GTold)]).map encGTold)) (len := ([] ++ [(⟨x_18, [108, 111, 99, 107, 101, 100], x_5.Name⟩ : GTold)]).length) rfl false rfl rfl (fun _ => flo (enc := encGTold) (fun _ => rfl) [(⟨x_18, [108, 111, 99, 107, 101, 100], x_5.Name⟩ : GTold)] _) (fun _ _ h => (ownl (show AV.own _ _ _ = AV.lst _ _ from h)).elim) (by decide) ((by simp [← List.map_take])) (by simp <;> omega) g20 rfl rfl) trivial trivial ?_
   refine s_dol (o_mov (.own 6 0 (([] ++ [(⟨x_18, [108, 111, 99, 107, 101, 100], x_5.Name⟩ : GTold)]).length)) rfl) a_same trivial <| w_done <| k_seq <| awp_seq <| w_reg <| s_mov (.own 0 0 list_1.length) rfl <| s_mov (.own 6 0 (([] ++ [(⟨x_18, [108, 111, 99, 107, 101, 100], x_5.Name⟩ : GTold)]).length)) rfl <| s_mov (.own 0 0 list_1.length) rfl <| s_mov (.own 6 0 (([] ++ [(⟨x_18, [108, 111, 99, 107, 101, 100], x_5.Name⟩ : GTold)]).length)) rfl <| w_done <| k_seq <| w_cls (o := 0) (y := (⟨x_5.Name, r_10.1⟩ : GLock)) (h2 := [.rowx 2 (list_1.map encGLock) (0 + k_2.toNat) (.agg [(.str x_5.Name), (.own 4 0 r_10.1.length)]), .box 1 (.int .i64 r_10.2), .dead, .dead, .dead, .row 3 ([(⟨x_18, [108, 111, 99, 107, 101, 100], x_5.Name⟩ : GTold)].map encGTold), .row 3 (([] ++ [(⟨x_18, [108, 111, 99, 107, 101, 100], x_5.Name⟩ : GTold)]).map encGTold)]) rfl rfl rfl (.agg (.cons (.refl _) (.cons (.of_eq (congrArg (AV.lst _) (tk (enc := encI) r_10.1))) .nil))) rfl <| ?_
   refine w_ret ?_; obtain rfl := os hf; exact r_heap [.mv 0] [0, 7, 6] rfl ⟨.of trivial trivial, ⟨.of trivial trivial, trivial⟩⟩ rfl (.refl _) (.tup (.cons (.of_eq (congrArg (AV.own _ 0) (by simp))) (.cons (.refl _) .nil)))
  ·refine w_condf rfl (bf c16) <| w_skip <| k_seq <| awp_seq <| w_reg <| s_mov (.own 0 0 list_1.length) rfl <| s_mov (.own 2 0 0) rfl <| s_mov (.own 0 0 list_1.length) rfl <| s_mov (.own 2 0 0) rfl <| w_done <| k_seq <| w_cls (o := 0) (y := (⟨x_5.Name, r_10.1⟩ : GLock)) (h2 := [.rowx 2 (list_1.map encGLock) (0 + k_2.toNat) (.agg [(.str x_5.Name), (.own 4 0 r_10.1.length)]), .box 1 (.int .i64 r_10.2), .row 3 ([].map encGTold), .dead, .dead]) rfl rfl rfl (.agg (.cons (.refl _) (.cons (.of_eq (congrArg (AV.lst _) (tk (enc := encI) r_10.1))) .nil))) rfl <| w_ret <| ?_; obtain rfl := os hf; exact r_heap [.mv 0] [0, 5, 2] rfl ⟨.of trivial trivial, ⟨.of trivial trivial, trivial⟩⟩ rfl (.refl _) (.tup (.cons (.of_eq (congrArg (AV.own _ 0) (by simp))) (.cons (.refl _) .nil)))

/- impl.LeaveAll -/
def c27 : ACode :=
 (.seq (.reg (tm 4 (.c .nil) (tm 5 (.c .nil) (tm 6 (.c (.int .i64 0)) .done))))
 (.seq (.seq (.reg (tm 16 (.t 0) (tm 17 (.t 1) (tq 18 (.call 97 [(.t 16), (.t 17)]) (tm 7 (.t 18) .done)))))
 (.seq (.reg (tm 19 (.t 7) (tq 20 (.bin .neq (.t 19) (.c (.int .i64 0))) .done)))
 (.cond (.t 20) (.seq (.reg (tm 21 (.t 7) (tm 4 (.c .nil) (tm 5 (.c .nil) (tm 6 (.t 21) .done)))))
 .ret)
 .skip)))
 (.seq (.reg (tm 22 (.t 0) (tq 23 (.call 98 [(.t 22)]) (tq 24 (.bslice 3 []) (tm 8 (.t 23) (tm 9 (.t 24) .done))))))
 (.seq (.seq (.reg (tm 25 (.t 0) (tq 26 (.len (.t 25)) (tm 27 (.c (.int .i64 0)) .done))))
 (.block 0 (.loop (.seq (.reg (tq 28 (.bin .lss (.t 27) (.t 26)) .done))
 (.seq (.cond (.t 28) .skip
 (.exit 0))
 (.seq (.block 1 (.seq (.reg (tq 29 (.iaddr 2 (.t 25) (.t 27)) (tq 30 (.load 2 true (.t 29)) (tq 11 (.box 2 (.c (.agg [(.str []), .nil]))) (.q ⟨none, none, .store 2 (.t 11) (.t 30)⟩
 .done)))))
 (.seq (.reg (tm 32 (.t 8) (tq 33 (.faddr 0 (.t 11)) (tq 34 (.load 1 false (.t 33)) (tq 35 (.call 99 [(.t 32), (.t 34)]) (tm 31 (.t 35) (tq 36 (.extract 0 (.t 31)) (tq 37 (.extract 1 (.t 31)) (tm 12 (.t 36) (tm 13 (.t 37) .done))))))))))
 (.seq (.reg (tq 38 (.faddr 1 (.t 11)) (tq 39 (.load 1 false (.t 38)) (tm 40 (.t 1) (tq 41 (.call 100 [(.t 39), (.t 40)]) .done)))))
 (.cond (.t 41) (.seq (.reg (tm 43 (.t 8) (tm 44 (.t 12) (tm 45 (.t 1) (tq 46 (.call 101 [(.t 43), (.t 44), (.t 45)]) (tm 42 (.t 46) (tq 47 (.extract 0 (.t 42)) (tq 48 (.extract 1 (.t 42)) (tm 14 (.t 47) (tm 15 (.t 48) .done))))))))))
 (.reg (tm 49 (.t 14) (tm 50 (.t 9) (tm 51 (.t 15) (tq 52 (.append 3 40 (.t 50) (.t 51)) (tm 8 (.t 49) (tm 9 (.t 52) .done))))))))
 .skip)))))
 (.reg (tq 53 (.bin .add (.t 27) (.c (.int .i64 1))) (tm 27 (.t 53) .done)))))))))
 (.cut (.seq (.reg (tm 54 (.t 8) (tm 55 (.t 9) (tm 4 (.t 54) (tm 5 (.t 55) (tm 6 (.c (.int .i64 0)) .done))))))
 .ret))))))
theorem fc27 : fcomp Try.prog Try.f27 = some (c27.erase, [.mov (.t 4), .mov (.t 5), .mov (.t 6)], 56) := by kernel_rfl
def impl_LeaveAll_L1 (session_2 : Int) : List GLock → (List GLock) → (List GTold) → Option ((List GLock) × (List GTold))
  | [], out_35, told_36 =>
    some (out_35, told_36)
  | x_57 :: xs, out_35, told_36 =>
    (impl_lockAt_h0 out_35 x_57.Name).bind fun r_58 =>
    (slices_Contains_int_int x_57.Queue session_2).bind fun r_60 =>
    if r_60 then
    (impl_leave_h2 out_35 r_58.1 session_2).bind fun r_63 =>
    if (told_36 ++ r_63.2).length ≤ 2 ^ 30 then
    impl_LeaveAll_L1 session_2 xs  r_63.1 (told_36 ++ r_63.2)
    else none
    else
    impl_LeaveAll_L1 session_2 xs  out_35 told_36

def impl_LeaveAll (list_1 : (List GLock)) (session_2 : Int) : Option ((List GLock) × (List GTold) × Int) :=
    (impl_sessionCode list_1 session_2).bind fun r_3 =>
    if (r_3 != 0) then
    some ([], [], r_3)
    else
    (impl_copyLocks list_1).bind fun r_6 =>
    (impl_LeaveAll_L1 session_2 list_1 r_6 []).bind fun p50 =>
    (match p50 with
    | (out_48, told_49) =>
    some (out_48, told_49, 0))
theorem w_impl_LeaveAll (list_1 : (List GLock)) (session_2 : Int) (r : ((List GLock) × (List GTold) × Int)) (hf : impl_LeaveAll list_1 session_2 = some r) : CallOK Try.prog 27 .fresh [(.lst 2 (list_1.map encGLock)), (.int .i64 session_2)] (.tup [(.lst 2 (r.1.map encGLock)), (.lst 3 (r.2.1.map encGTold)), (.int .i64 r.2.2)]) := by
 refine CallOK.of_awp' (md := ⟨true, true⟩) (fun _ => rfl) (fun _ => rfl) (fun h => by cases h) mixed Try.func27 fc27 nle ?_; rw [argT_eq]; unfold impl_LeaveAll at hf; unfold c27; refine (show awp Try.prog ⟨true, true⟩ 0 _ (ofL [(0, (.lst 2 (list_1.map encGLock))), (1, (.int .i64 session_2))]) [] _ from ?_); refine awp_seq <| w_reg <| s_mov .nil rfl <| s_mov .nil rfl <| s_mov (.int .i64 0) rfl <| w_done <| k_seq <| awp_seq <| awp_seq <| w_reg <| ?_
 obtain ⟨r_3, er4, hf⟩ := ob hf
 refine s_mov (.lst 2 (list_1.map encGLock)) rfl <| s_mov (.int .i64 session_2) rfl <| s_do (o_call (w_impl_sessionCode _ _ _ er4) rfl (.refl _) rfl) <| s_mov (.int .i64 r_3) rfl <| w_done <| k_seq <| awp_seq <| w_reg <| s_mov (.int .i64 r_3) rfl <| s_q (.bool (r_3 != 0)) rfl (.of rfl trivial) rfl <| w_done <| k_seq <| ?_
 rcases oi hf with ⟨c5, hf⟩ | ⟨c5, hf⟩
 ·refine w_condt rfl c5 <| awp_seq <| w_reg <| s_mov (.int .i64 r_3) rfl <| s_mov .nil rfl <| s_mov .nil rfl <| s_mov (.int .i64 r_3) rfl <| w_done <| k_seq <| w_ret <| ?_; obtain rfl := os hf; exact r_fresh ⟨.of trivial trivial, ⟨.of trivial trivial, ⟨.of trivial trivial, trivial⟩⟩⟩ rfl (by decide) (.tup (.cons (.nil _) (.cons (.nil _) (.cons (.refl _) .nil))))
 ·refine w_condf rfl (bf c5) <| w_skip <| k_seq <| awp_seq <| w_reg <| ?_
  obtain ⟨r_6, er7, hf⟩ := ob hf
  refine s_mov (.lst 2 (list_1.map encGLock)) rfl <| s_do (o_callf (v := (.own 0 0 r_6.length)) (h' := [.row 2 (r_6.map encGLock)]) (w_impl_copyLocks _ _ er7) rfl (.refl _) (by simp only [openV, openVs, List.length_map, List.nil_append, List.append_nil, List.cons_append]; rfl)) <| ?_; refine s_do (o_bslice (j := 1) (as' := []) rfl (fun _ => by decide) trivial (.refl _) rfl rfl rfl) ?_; refine s_mov (.own 0 0 r_6.length) rfl <| s_mov (.own 1 0 0) rfl <| w_done <| k_seq <| awp_seq <| awp_seq <| w_reg <| s_mov (.lst 2 (list_1.map encGLock)) rfl <| s_dof (o_len (enc := encGLock) rfl) fun hl8 => s_mov (.int .i64 0) rfl <| w_done <| k_seq <| ?_
  obtain ⟨p50, hb1, hf⟩ := ob hf
  refine awp_cut ([(8, (.own 0 0 p50.1.length)), (9, (.own 1 0 p50.2.length))], [.row 2 (p50.1.map encGLock), .row 3 (p50.2.map encGTold)]) ?_ ?_
  ·refine awp_loop (X := {q : (Nat × (List GLock) × (List GTold)) // impl_LeaveAll_L1 session_2 (list_1.drop q.1) q.2.1 q.2.2 = some p50}) (fun q => ([(1, (.int .i64 session_2)), (8, (.own 0 0 q.1.2.1.length)), (9, (.own 1 0 q.1.2.2.length)), (25, (.lst 2 (list_1.map encGLock))), (26, (.int .i64 (list_1.length : Int))), (27, (.int .i64 (q.1.1 : Int)))], [.row 2 (q.1.2.1.map encGLock), .row 3 (q.1.2.2.map encGTold)])) (fun q => list_1.length - q.1.1) ⟨(0, r_6, []), hb1⟩ ⟨[], [0, 1], _, _, rfl, rfl, ⟨.refl _, ⟨.refl _, ⟨.of_eq (congrArg (AV.own _ 0) (by simp)), ⟨.refl _, ⟨.refl _, ⟨.refl _, trivial⟩⟩⟩⟩⟩⟩, (.refl _)⟩ ?_
   rintro ⟨⟨s27_34, out_35, told_36⟩, hc1⟩
   have hc1 : impl_LeaveAll_L1 session_2 (list_1.drop s27_34) out_35 told_36 = some p50 := hc1
   refine (show awp Try.prog ⟨true, true⟩ 0 _ (ofL [(1, (.int .i64 session_2)), (8, (.own 0 0 out_35.length)), (9, (.own 1 0 told_36.length)), (25, (.lst 2 (list_1.map encGLock))), (26, (.int .i64 (list_1.length : Int))), (27, (.int .i64 (s27_34 : Int)))]) [.row 2 (out_35.map encGLock), .row 3 (told_36.map encGTold)] _ from ?_)
   rcases dropc list_1 s27_34 with ⟨hie53, hd56⟩ | ⟨hlt51, x_57, hx52, hd56⟩
   ·rw [hd56, impl_LeaveAll_L1.eq_1] at hc1
    have hq55 := dlf hie53
    refine awp_seq <| w_reg <| s_q (.bool (decide ((s27_34 : Int) < (list_1.length : Int)))) rfl (.of rfl trivial) rfl <| w_done <| k_seq <| awp_seq <| w_condf rfl hq55 <| w_exit <| k_seqx <| k_loopx <| k_blkx <| ?_; obtain rfl := os hc1; exact ⟨[], [0, 1], _, _, rfl, rfl, ⟨.refl _, ⟨.refl _, trivial⟩⟩, (.refl _)⟩
   ·rw [hd56, impl_LeaveAll_L1.eq_2] at hc1
    have hq55 := dlt hlt51
    refine awp_seq <| w_reg <| s_q (.bool (decide ((s27_34 : Int) < (list_1.length : Int)))) rfl (.of rfl trivial) rfl <| w_done <| k_seq <| awp_seq <| w_condt rfl hq55 <| w_skip <| k_seq <| awp_seq <| w_blk <| awp_seq <| w_reg <| s_do (o_iaddrn (enc := encGLock) rfl rfl hx52) <| s_q (encGLock x_57) rfl (.of nle trivial) rfl <| s_do (o_box (j := 2) (c := (.agg [(.str []), .nil])) rfl trivial rfl rfl) <| s_do0 (o_storebox (v := (.agg [(.str x_57.Name), (.lst 1 (x_57.Queue.map encI))])) (y' := (.agg [(.str x_57.Name), (.lst 1 (x_57.Queue.map encI))])) rfl rfl rfl trivial ⟨rfl, nle⟩ ⟨⟨rfl, trivial⟩, ⟨⟨rfl, trivial⟩, trivial⟩⟩ rfl) <| w_done <| k_seq <| awp_seq <| w_reg <| ?_
    obtain ⟨r_58, er59, hc1⟩ := ob hc1
    refine s_mov (.own 0 0 out_35.length) rfl <| s_q (.ptr 2 0 0) rfl (.of trivial trivial) rfl <| s_q (.str x_57.Name) rfl (.of nle trivial) rfl <| ?_; refine s_do (o_callh (v := (.tup [(.int .i64 r_58.1), (.bool r_58.2)])) (h2 := [.row 2 (out_35.map encGLock), .row 3 (told_36.map encGTold), .box 2 (.agg [(.str x_57.Name), (.lst 1 (x_57.Queue.map encI))])]) [] [0] (fun _ => rfl) (w_impl_lockAt_h0 _ _ _ er59) rfl (.refl _) (.refl _) rfl rfl) ?_; refine s_mov (.tup [(.int .i64 r_58.1), (.bool r_58.2)]) rfl <| s_q (.int .i64 r_58.1) rfl (.of nle trivial) rfl <| s_q (.bool r_58.2) rfl (.of nle trivial) rfl <| s_mov (.int .i64 r_58.1) rfl <| s_mov (.bool r_58.2) rfl <| w_done <| k_seq <| awp_seq <| w_reg <| ?_
    obtain ⟨r_60, er61, hc1⟩ := ob hc1
    refine s_q (.ptr 2 0 1) rfl (.of trivial trivial) rfl <| s_q (.lst 1 (x_57.Queue.map encI)) rfl (.of nle trivial) rfl <| s_mov (.int .i64 session_2) rfl <| s_do (o_call (w_slices_Contains_int_int _ _ _ er61) rfl (.refl _) rfl) <| w_done <| k_seq <| ?_
    rcases oi hc1 with ⟨c62, hc1⟩ | ⟨c62, hc1⟩
    ·refine w_condt rfl c62 <| awp_seq <| w_reg <| ?_
     obtain ⟨r_63, er64, hc1⟩ := ob hc1
     refine s_mov (.own 0 0 out_35.length) rfl <| s_mov (.int .i64 r_58.1) rfl <| s_mov (.int .i64 session_2) rfl <| ?_; refine s_do (o_callh (v := (.tup [(.own 3 0 r_63.1.length), (.own 4 0 r_63.2.length)])) (h2 := [.dead, .row 3 (told_36.map encGTold), .box 2 (.agg [(.str x_57.Name), (.lst 1 (x_57.Queue.map encI))]), .row 2 (r_63.1.map encGLock), .row 3 (r_63.2.map encGTold)]) [] [0] (fun _ => rfl) (w_impl_leave_h2 _ _ _ _ er64) rfl (.refl _) (.refl _) rfl rfl) ?_; refine s_mov (.tup [(.own 3 0 r_63.1.length), (.own 4 0 r_63.2.length)]) rfl <| s_q (.own 3 0 r_63.1.length) rfl (.of nle trivial) rfl <| s_q (.own 4 0 r_63.2.length) rfl (.of nle trivial) rfl <| s_mov (.own 3 0 r_63.1.length) rfl <| s_mov (.own 4 0 r_63.2.length) rfl <| ?_
     refine w_done <| k_seq <| w_reg <| ?_
     obtain ⟨g65, hc1⟩ := og hc1
     refine s_mov (.own 3 0 r_63.1.length) rfl <| s_mov (.own 1 0 told_36.length) rfl <| s_mov (.own 4 0 r_63.2.length) rfl <| ?_
     refine s_do (o_appendd (j := 5) (L := ((told_36 ++ r_63.2).map encGTold)) (len := (told_36 ++ r_63.2).length) rfl false rfl rfl (fun _ => flo (enc := encGTold) (fun _ => rfl) r_63.2 _) (fun _ _ h => (ownl (show AV.own _ _ _ = AV.lst _ _ from h)).elim) (by decide) (apo (enc := encGTold) told_36 r_63.2) (by simp <;> omega) g65 rfl rfl) ?_
     refine s_mov (.own 3 0 r_63.1.length) rfl <| s_mov (.own 5 0 ((told_36 ++ r_63.2).length)) rfl <| w_done <| k_blk <| k_seq <| w_reg <| s_q (.int .i64 (w64 ((s27_34 : Int) + 1))) rfl (.of rfl trivial) rfl <| s_mov (.int .i64 (w64 ((s27_34 : Int) + 1))) rfl <| w_done <| ?_; exact k_loopn ⟨((s27_34 + 1), r_63.1, told_36 ++ r_63.2), hc1⟩ (mul hlt51) ⟨[], [3, 5], _, _, rfl, rfl, ⟨.refl _, ⟨.refl _, ⟨.refl _, ⟨.refl _, ⟨.refl _, ⟨.of_eq (congrArg (AV.int _) (w64_incr hlt51 hl8)), trivial⟩⟩⟩⟩⟩⟩, (.refl _)⟩
    ·refine w_condf rfl (bf c62) <| w_skip <| k_blk <| k_seq <| w_reg <| s_q (.int .i64 (w64 ((s27_34 : Int) + 1))) rfl (.of rfl trivial) rfl <| s_mov (.int .i64 (w64 ((s27_34 : Int) + 1))) rfl <| w_done <| ?_; exact k_loopn ⟨((s27_34 + 1), out_35, told_36), hc1⟩ (mul hlt51) ⟨[], [0, 1], _, _, rfl, rfl, ⟨.refl _, ⟨.refl _, ⟨.refl _, ⟨.refl _, ⟨.refl _, ⟨.of_eq (congrArg (AV.int _) (w64_incr hlt51 hl8)), trivial⟩⟩⟩⟩⟩⟩, (.refl _)⟩
  ·obtain ⟨out_48, told_49⟩ := p50
   refine awp_seq <| w_reg <| s_mov (.own 0 0 out_48.length) rfl <| s_mov (.own 1 0 told_49.length) rfl <| s_mov (.own 0 0 out_48.length) rfl <| s_mov (.own 1 0 told_49.length) rfl <| s_mov (.int .i64 0) rfl <| w_done <| k_seq <| w_ret <| ?_; obtain rfl := os hf; exact r_fresh ⟨.of trivial trivial, ⟨.of trivial trivial, ⟨.of trivial trivial, trivial⟩⟩⟩ rfl (by decide) (.tup (.cons (.of_eq (congrArg (AV.lst _) (tk (enc := encGLock) out_48))) (.cons (.of_eq (congrArg (AV.lst _) (tk (enc := encGTold) told_49))) (.cons (.refl _) .nil))))

/- laws.eqIntS -/
def c199 : ACode :=
 (.seq (.reg (tm 4 (.c (.bool false)) .done))
 (.seq (.seq (.reg (tm 6 (.t 0) (tq 7 (.len (.t 6)) (tm 8 (.t 1) (tq 9 (.len (.t 8)) (tq 10 (.bin .neq (.t 7) (.t 9)) .done))))))
 (.cond (.t 10) (.seq (.reg (tm 4 (.c (.bool false)) .done))
 .ret)
 .skip))
 (.seq (.seq (.reg (tm 5 (.c (.int .i64 0)) .done))
 (.block 0 (.loop (.seq (.seq (.reg (tm 11 (.t 5) (tm 12 (.t 0) (tq 13 (.len (.t 12)) (tq 14 (.bin .lss (.t 11) (.t 13)) .done)))))
 (.cond (.t 14) .skip
 (.exit 0)))
 (.seq (.block 1 (.seq (.reg (tm 17 (.t 0) (tm 18 (.t 5) (tq 19 (.iaddr 1 (.t 17) (.t 18)) (tq 20 (.load 1 false (.t 19)) (tm 21 (.t 1) (tm 22 (.t 5) (tq 23 (.iaddr 1 (.t 21) (.t 22)) (tq 24 (.load 1 false (.t 23)) (tq 25 (.bin .neq (.t 20) (.t 24)) .done))))))))))
 (.cond (.t 25) (.seq (.reg (tm 4 (.c (.bool false)) .done))
 .ret)
 .skip)))
 (.reg (tm 15 (.t 5) (tq 16 (.bin .add (.t 15) (.c (.int .i64 1))) (tm 5 (.t 16) .done)))))))))
 (.cut (.seq (.reg (tm 4 (.c (.bool true)) .done))
 .ret)))))
theorem fc199 : fcomp Try.prog Try.f199 = some (c199.erase, [.mov (.t 4)], 26) := by kernel_rfl
def laws_eqIntS_L1 (b_2 : (List Int)) : List Int → Nat → Option (Fl Bool Unit)
  | [], i_21 =>
    some (.go ())
  | x_37 :: xs, i_21 =>
    (idx b_2 (i_21 : Int)).bind fun x_40 =>
    if (x_37 != x_40) then
    some (.ret false)
    else
    laws_eqIntS_L1 b_2 xs (i_21 + 1)

def laws_eqIntS (a_1 : (List Int)) (b_2 : (List Int)) : Option Bool :=
    if ((a_1.length : Int) != (b_2.length : Int)) then
    some false
    else
    (laws_eqIntS_L1 b_2 a_1 0).bind fun q => (match q with
    | .ret r => some r
    | .go _ =>
    some true)
theorem w_laws_eqIntS (a_1 : (List Int)) (b_2 : (List Int)) (r : Bool) (hf : laws_eqIntS a_1 b_2 = some r) : CallOK Try.prog 199 .flat [(.lst 1 (a_1.map encI)), (.lst 1 (b_2.map encI))] (.bool r) := by
 refine CallOK.of_awp mixed Try.func199 fc199 nle ?_; rw [argT_eq]; unfold laws_eqIntS at hf; unfold c199; refine (show awp Try.prog false 0 _ (ofL [(0, (.lst 1 (a_1.map encI))), (1, (.lst 1 (b_2.map encI)))]) [] _ from ?_); refine awp_seq <| w_reg <| s_mov (.bool false) rfl <| w_done <| k_seq <| awp_seq <| awp_seq <| w_reg <| s_mov (.lst 1 (a_1.map encI)) rfl <| s_dof (o_len (enc := encI) rfl) fun hl3 => s_mov (.lst 1 (b_2.map encI)) rfl <| s_dof (o_len (enc := encI) rfl) fun hl4 => s_q (.bool ((a_1.length : Int) != (b_2.length : Int))) rfl rfl rfl <| w_done <| k_seq <| ?_
 rcases oi hf with ⟨c5, hf⟩ | ⟨c5, hf⟩
 ·refine w_condt rfl c5 <| awp_seq <| w_reg <| s_mov (.bool false) rfl <| w_done <| k_seq <| w_ret <| ?_; obtain rfl := os hf; exact r_flat ⟨trivial, trivial⟩ rfl (.refl _)
 ·refine w_condf rfl (bf c5) <| w_skip <| k_seq <| awp_seq <| awp_seq <| w_reg <| s_mov (.int .i64 0) rfl <| w_done <| k_seq <| ?_
  obtain ⟨p30, hb1, hf⟩ := ob hf
  refine awp_cutx (X := {q : Unit // p30 = .go q}) (fun q => ([], [])) ?_ ?_
  ·refine awp_loop (X := {q : Nat // laws_eqIntS_L1 b_2 (a_1.drop q) q = some p30}) (fun q => ([(0, (.lst 1 (a_1.map encI))), (1, (.lst 1 (b_2.map encI))), (5, (.int .i64 (q.1 : Int)))], [])) (fun q => a_1.length - q.1) ⟨0, hb1⟩ ⟨[], [], _, _, rfl, rfl, ⟨.refl _, ⟨.refl _, ⟨.refl _, trivial⟩⟩⟩, (.refl _)⟩ ?_
   rintro ⟨i_21, hc1⟩
   have hc1 : laws_eqIntS_L1 b_2 (a_1.drop i_21) i_21 = some p30 := hc1
   refine (show awp Try.prog false 0 _ (ofL [(0, (.lst 1 (a_1.map encI))), (1, (.lst 1 (b_2.map encI))), (5, (.int .i64 (i_21 : Int)))]) [] _ from ?_)
   rcases dropc a_1 i_21 with ⟨hie33, hd36⟩ | ⟨hlt31, x_37, hx32, hd36⟩
   ·rw [hd36, laws_eqIntS_L1.eq_1] at hc1
    have hq35 := dlf hie33
    refine awp_seq <| awp_seq <| w_reg <| s_mov (.int .i64 (i_21 : Int)) rfl <| s_mov (.lst 1 (a_1.map encI)) rfl <| s_dof (o_len (enc := encI) rfl) fun hl38 => s_q (.bool (decide ((i_21 : Int) < (a_1.length : Int)))) rfl rfl rfl <| w_done <| k_seq <| w_condf rfl hq35 <| w_exit <| k_seqx <| k_loopx <| k_blkx <| ?_; obtain rfl := os hc1; exact k_cutn ⟨_, rfl⟩ ⟨[], [], _, _, rfl, rfl, trivial, (.refl _)⟩
   ·rw [hd36, laws_eqIntS_L1.eq_2] at hc1
    have hq35 := dlt hlt31
    refine awp_seq <| awp_seq <| w_reg <| s_mov (.int .i64 (i_21 : Int)) rfl <| s_mov (.lst 1 (a_1.map encI)) rfl <| s_dof (o_len (enc := encI) rfl) fun hl39 => s_q (.bool (decide ((i_21 : Int) < (a_1.length : Int)))) rfl rfl rfl <| w_done <| k_seq <| w_condt rfl hq35 <| w_skip <| k_seq <| awp_seq <| w_blk <| awp_seq <| w_reg <| ?_
    obtain ⟨x_40, ex41, hc1⟩ := ob hc1
    refine s_mov (.lst 1 (a_1.map encI)) rfl <| s_mov (.int .i64 (i_21 : Int)) rfl <| s_do (o_iaddrn (enc := encI) rfl rfl hx32) <| s_q (.int .i64 x_37) rfl ⟨rfl, rfl⟩ rfl <| s_mov (.lst 1 (b_2.map encI)) rfl <| s_mov (.int .i64 (i_21 : Int)) rfl <| s_do (o_iaddr (enc := encI) rfl rfl (idx0 ex41) (idx1 ex41)) <| s_q (.int .i64 x_40) rfl ⟨rfl, rfl⟩ rfl <| s_q (.bool (x_37 != x_40)) rfl rfl rfl <| w_done <| k_seq <| ?_
    rcases oi hc1 with ⟨c42, hc1⟩ | ⟨c42, hc1⟩
    ·refine w_condt rfl c42 <| awp_seq <| w_reg <| s_mov (.bool false) rfl <| w_done <| k_seq <| w_ret <| ?_; obtain rfl := os hc1; obtain rfl := os hf; exact r_flat ⟨trivial, trivial⟩ rfl (.refl _)
    ·refine w_condf rfl (bf c42) <| w_skip <| k_blk <| k_seq <| w_reg <| s_mov (.int .i64 (i_21 : Int)) rfl <| s_q (.int .i64 (w64 ((i_21 : Int) + 1))) rfl rfl rfl <| s_mov (.int .i64 (w64 ((i_21 : Int) + 1))) rfl <| w_done <| ?_; exact k_loopn ⟨(i_21 + 1), hc1⟩ (mul hlt31) ⟨[], [], _, _, rfl, rfl, ⟨.refl _, ⟨.refl _, ⟨.of_eq (congrArg (AV.int _) (w64_incr hlt31 hl39)), trivial⟩⟩⟩, (.refl _)⟩
  ·rintro ⟨_, rfl⟩
   refine awp_seq <| w_reg <| s_mov (.bool true) rfl <| w_done <| k_seq <| w_ret <| ?_; obtain rfl := os hf; exact r_flat ⟨trivial, trivial⟩ rfl (.refl _)

/- laws.eqLock -/
def c112 : ACode :=
 (.seq (.reg (tq 2 (.box 2 (.t 0)) (tq 3 (.box 2 (.t 1)) (tm 4 (.c (.bool false)) .done))))
 (.seq (.seq (.reg (tq 5 (.faddr 0 (.t 2)) (tq 6 (.load 1 false (.t 5)) (tq 7 (.faddr 0 (.t 3)) (tq 8 (.load 1 false (.t 7)) (tq 9 (.bin .neq (.t 6) (.t 8)) .done))))))
 (.cond (.t 9) (.seq (.reg (tm 4 (.c (.bool false)) .done))
 .ret)
 .skip))
 (.seq (.seq (.reg (tq 10 (.faddr 1 (.t 2)) (tq 11 (.load 1 false (.t 10)) (tq 12 (.faddr 1 (.t 3)) (tq 13 (.load 1 false (.t 12)) (tq 14 (.call 199 [(.t 11), (.t 13)]) (tq 15 (.not (.t 14)) .done)))))))
 (.cond (.t 15) (.seq (.reg (tm 4 (.c (.bool false)) .done))
 .ret)
 .skip))
 (.seq (.reg (tm 4 (.c (.bool true)) .done))
 .ret))))
theorem fc112 : fcomp Try.prog Try.f112 = some (c112.erase, [.mov (.t 4)], 16) := by kernel_rfl
def laws_eqLock (a_1 : GLock) (b_2 : GLock) : Option Bool :=
    if (!(a_1.Name == b_2.Name)) then
    some false
    else
    (laws_eqIntS a_1.Queue b_2.Queue).bind fun r_4 =>
    if (!r_4) then
    some false
    else
    some true
theorem w_laws_eqLock (a_1 : GLock) (b_2 : GLock) (r : Bool) (hf : laws_eqLock a_1 b_2 = some r) : CallOK Try.prog 112 .flat [(encGLock a_1), (encGLock b_2)] (.bool r) := by
 refine CallOK.of_awp mixed Try.func112 fc112 nle ?_; rw [argT_eq]; unfold laws_eqLock at hf; unfold c112; refine (show awp Try.prog false 0 _ (ofL [(0, (encGLock a_1)), (1, (encGLock b_2))]) [] _ from ?_); refine awp_seq <| w_reg <| s_do (o_box (j := 0) (c := (.agg [(.str a_1.Name), (.lst 1 (a_1.Queue.map encI))])) rfl trivial rfl rfl) <| s_do (o_box (j := 1) (c := (.agg [(.str b_2.Name), (.lst 1 (b_2.Queue.map encI))])) rfl trivial rfl rfl) <| s_mov (.bool false) rfl <| w_done <| k_seq <| awp_seq <| awp_seq <| w_reg <| s_q (.ptr 0 0 0) rfl trivial rfl <| s_q (.str a_1.Name) rfl nle rfl <| s_q (.ptr 1 0 0) rfl trivial rfl <| s_q (.str b_2.Name) rfl nle rfl <| s_q (.bool (!(a_1.Name == b_2.Name))) rfl trivial rfl <| w_done <| ?_
 refine k_seq ?_
 rcases oi hf with ⟨c3, hf⟩ | ⟨c3, hf⟩
 ·refine w_condt rfl c3 <| awp_seq <| w_reg <| s_mov (.bool false) rfl <| w_done <| k_seq <| w_ret <| ?_; obtain rfl := os hf; exact r_flat ⟨trivial, trivial⟩ rfl (.refl _)
 ·refine w_condf rfl (bf c3) <| w_skip <| k_seq <| awp_seq <| awp_seq <| w_reg <| ?_
  obtain ⟨r_4, er5, hf⟩ := ob hf
  refine s_q (.ptr 0 0 1) rfl trivial rfl <| s_q (.lst 1 (a_1.Queue.map encI)) rfl nle rfl <| s_q (.ptr 1 0 1) rfl trivial rfl <| s_q (.lst 1 (b_2.Queue.map encI)) rfl nle rfl <| s_do (o_call (w_laws_eqIntS _ _ _ er5) rfl (.refl _) rfl) <| s_q (.bool (!r_4)) rfl trivial rfl <| w_done <| k_seq <| ?_
  rcases oi hf with ⟨c6, hf⟩ | ⟨c6, hf⟩
  ·refine w_condt rfl c6 <| awp_seq <| w_reg <| s_mov (.bool false) rfl <| w_done <| k_seq <| w_ret <| ?_; obtain rfl := os hf; exact r_flat ⟨trivial, trivial⟩ rfl (.refl _)
  ·refine w_condf rfl (bf c6) <| w_skip <| k_seq <| awp_seq <| w_reg <| s_mov (.bool true) rfl <| w_done <| k_seq <| w_ret <| ?_; obtain rfl := os hf; exact r_flat ⟨trivial, trivial⟩ rfl (.refl _)

/- laws.eqLockS -/
def c36 : ACode :=
 (.seq (.reg (tm 4 (.c (.bool false)) .done))
 (.seq (.seq (.reg (tm 6 (.t 0) (tq 7 (.len (.t 6)) (tm 8 (.t 1) (tq 9 (.len (.t 8)) (tq 10 (.bin .neq (.t 7) (.t 9)) .done))))))
 (.cond (.t 10) (.seq (.reg (tm 4 (.c (.bool false)) .done))
 .ret)
 .skip))
 (.seq (.seq (.reg (tm 5 (.c (.int .i64 0)) .done))
 (.block 0 (.loop (.seq (.seq (.reg (tm 11 (.t 5) (tm 12 (.t 0) (tq 13 (.len (.t 12)) (tq 14 (.bin .lss (.t 11) (.t 13)) .done)))))
 (.cond (.t 14) .skip
 (.exit 0)))
 (.seq (.block 1 (.seq (.reg (tm 17 (.t 0) (tm 18 (.t 5) (tq 19 (.iaddr 2 (.t 17) (.t 18)) (tq 20 (.load 2 true (.t 19)) (tm 21 (.t 1) (tm 22 (.t 5) (tq 23 (.iaddr 2 (.t 21) (.t 22)) (tq 24 (.load 2 true (.t 23)) (.l ⟨(some 25), none, .call 112 [(.t 20), (.t 24)]⟩ []
 (tq 26 (.not (.t 25)) .done) .non))))))))))
 (.cond (.t 26) (.seq (.reg (tm 4 (.c (.bool false)) .done))
 .ret)
 .skip)))
 (.reg (tm 15 (.t 5) (tq 16 (.bin .add (.t 15) (.c (.int .i64 1))) (tm 5 (.t 16) .done)))))))))
 (.cut (.seq (.reg (tm 4 (.c (.bool true)) .done))
 .ret)))))
theorem fc36 : fcomp Try.prog Try.f36 = some (c36.erase, [.mov (.t 4)], 27) := by kernel_rfl
def laws_eqLockS_L1 (b_2 : (List GLock)) : List GLock → Nat → Option (Fl Bool Unit)
  | [], i_25 =>
    some (.go ())
  | x_43 :: xs, i_25 =>
    (idx b_2 (i_25 : Int)).bind fun x_46 =>
    (laws_eqLock x_43 x_46).bind fun r_48 =>
    if (!r_48) then
    some (.ret false)
    else
    laws_eqLockS_L1 b_2 xs (i_25 + 1)

def laws_eqLockS (a_1 : (List GLock)) (b_2 : (List GLock)) : Option Bool :=
    if ((a_1.length : Int) != (b_2.length : Int)) then
    some false
    else
    (laws_eqLockS_L1 b_2 a_1 0).bind fun q => (match q with
    | .ret r => some r
    | .go _ =>
    some true)
theorem w_laws_eqLockS (a_1 : (List GLock)) (b_2 : (List GLock)) (r : Bool) (hf : laws_eqLockS a_1 b_2 = some r) : CallOK Try.prog 36 .flat [(.lst 2 (a_1.map encGLock)), (.lst 2 (b_2.map encGLock))] (.bool r) := by
 refine CallOK.of_awp mixed Try.func36 fc36 nle ?_; rw [argT_eq]; unfold laws_eqLockS at hf; unfold c36; refine (show awp Try.prog false 0 _ (ofL [(0, (.lst 2 (a_1.map encGLock))), (1, (.lst 2 (b_2.map encGLock)))]) [] _ from ?_); refine awp_seq <| w_reg <| s_mov (.bool false) rfl <| w_done <| k_seq <| awp_seq <| awp_seq <| w_reg <| s_mov (.lst 2 (a_1.map encGLock)) rfl <| s_dof (o_len (enc := encGLock) rfl) fun hl3 => s_mov (.lst 2 (b_2.map encGLock)) rfl <| s_dof (o_len (enc := encGLock) rfl) fun hl4 => s_q (.bool ((a_1.length : Int) != (b_2.length : Int))) rfl rfl rfl <| w_done <| k_seq <| ?_
 rcases oi hf with ⟨c5, hf⟩ | ⟨c5, hf⟩
 ·refine w_condt rfl c5 <| awp_seq <| w_reg <| s_mov (.bool false) rfl <| w_done <| k_seq <| w_ret <| ?_; obtain rfl := os hf; exact r_flat ⟨trivial, trivial⟩ rfl (.refl _)
 ·refine w_condf rfl (bf c5) <| w_skip <| k_seq <| awp_seq <| awp_seq <| w_reg <| s_mov (.int .i64 0) rfl <| w_done <| k_seq <| ?_
  obtain ⟨p36, hb1, hf⟩ := ob hf
  refine awp_cutx (X := {q : Unit // p36 = .go q}) (fun q => ([], [])) ?_ ?_
  ·refine awp_loop (X := {q : Nat // laws_eqLockS_L1 b_2 (a_1.drop q) q = some p36}) (fun q => ([(0, (.lst 2 (a_1.map encGLock))), (1, (.lst 2 (b_2.map encGLock))), (5, (.int .i64 (q.1 : Int)))], [])) (fun q => a_1.length - q.1) ⟨0, hb1⟩ ⟨[], [], _, _, rfl, rfl, ⟨.refl _, ⟨.refl _, ⟨.refl _, trivial⟩⟩⟩, (.refl _)⟩ ?_
   rintro ⟨i_25, hc1⟩
   have hc1 : laws_eqLockS_L1 b_2 (a_1.drop i_25) i_25 = some p36 := hc1
   refine (show awp Try.prog false 0 _ (ofL [(0, (.lst 2 (a_1.map encGLock))), (1, (.lst 2 (b_2.map encGLock))), (5, (.int .i64 (i_25 : Int)))]) [] _ from ?_)
   rcases dropc a_1 i_25 with ⟨hie39, hd42⟩ | ⟨hlt37, x_43, hx38, hd42⟩
   ·rw [hd42, laws_eqLockS_L1.eq_1] at hc1
    have hq41 := dlf hie39
    refine awp_seq <| awp_seq <| w_reg <| s_mov (.int .i64 (i_25 : Int)) rfl <| s_mov (.lst 2 (a_1.map encGLock)) rfl <| s_dof (o_len (enc := encGLock) rfl) fun hl44 => s_q (.bool (decide ((i_25 : Int) < (a_1.length : Int)))) rfl rfl rfl <| w_done <| k_seq <| w_condf rfl hq41 <| w_exit <| k_seqx <| k_loopx <| k_blkx <| ?_; obtain rfl := os hc1; exact k_cutn ⟨_, rfl⟩ ⟨[], [], _, _, rfl, rfl, trivial, (.refl _)⟩
   ·rw [hd42, laws_eqLockS_L1.eq_2] at hc1
    have hq41 := dlt hlt37
    refine awp_seq <| awp_seq <| w_reg <| s_mov (.int .i64 (i_25 : Int)) rfl <| s_mov (.lst 2 (a_1.map encGLock)) rfl <| s_dof (o_len (enc := encGLock) rfl) fun hl45 => s_q (.bool (decide ((i_25 : Int) < (a_1.length : Int)))) rfl rfl rfl <| w_done <| k_seq <| w_condt rfl hq41 <| w_skip <| k_seq <| awp_seq <| w_blk <| awp_seq <| w_reg <| ?_
    obtain ⟨x_46, ex47, hc1⟩ := ob hc1
    obtain ⟨r_48, er49, hc1⟩ := ob hc1
    refine s_mov (.lst 2 (a_1.map encGLock)) rfl <| s_mov (.int .i64 (i_25 : Int)) rfl <| s_do (o_iaddrn (enc := encGLock) rfl rfl hx38) <| s_q (encGLock x_43) rfl nle rfl <| s_mov (.lst 2 (b_2.map encGLock)) rfl <| s_mov (.int .i64 (i_25 : Int)) rfl <| s_do (o_iaddr (enc := encGLock) rfl rfl (idx0 ex47) (idx1 ex47)) <| s_q (encGLock x_46) rfl nle rfl <| s_dol (o_call (w_laws_eqLock _ _ _ er49) rfl (.refl _) rfl) a_same trivial <| s_q (.bool (!r_48)) rfl trivial rfl <| w_done <| k_seq <| ?_
    rcases oi hc1 with ⟨c50, hc1⟩ | ⟨c50, hc1⟩
    ·refine w_condt rfl c50 <| awp_seq <| w_reg <| s_mov (.bool false) rfl <| w_done <| k_seq <| w_ret <| ?_; obtain rfl := os hc1; obtain rfl := os hf; exact r_flat ⟨trivial, trivial⟩ rfl (.refl _)
    ·refine w_condf rfl (bf c50) <| w_skip <| k_blk <| k_seq <| w_reg <| s_mov (.int .i64 (i_25 : Int)) rfl <| s_q (.int .i64 (w64 ((i_25 : Int) + 1))) rfl rfl rfl <| s_mov (.int .i64 (w64 ((i_25 : Int) + 1))) rfl <| w_done <| ?_; exact k_loopn ⟨(i_25 + 1), hc1⟩ (mul hlt37) ⟨[], [], _, _, rfl, rfl, ⟨.refl _, ⟨.refl _, ⟨.of_eq (congrArg (AV.int _) (w64_incr hlt37 hl45)), trivial⟩⟩⟩, (.refl _)⟩
  ·rintro ⟨_, rfl⟩
   refine awp_seq <| w_reg <| s_mov (.bool true) rfl <| w_done <| k_seq <| w_ret <| ?_; obtain rfl := os hf; exact r_flat ⟨trivial, trivial⟩ rfl (.refl _)

/- laws.eqTold -/
def c113 : ACode :=
 (.seq (.reg (tq 2 (.box 3 (.t 0)) (tq 3 (.box 3 (.t 1)) (tm 4 (.c (.bool false)) .done))))
 (.seq (.seq (.reg (tq 5 (.faddr 0 (.t 2)) (tq 6 (.load 1 false (.t 5)) (tq 7 (.faddr 0 (.t 3)) (tq 8 (.load 1 false (.t 7)) (tq 9 (.bin .neq (.t 6) (.t 8)) .done))))))
 (.cond (.t 9) (.seq (.reg (tm 4 (.c (.bool false)) .done))
 .ret)
 .skip))
 (.seq (.seq (.reg (tq 10 (.faddr 1 (.t 2)) (tq 11 (.load 1 false (.t 10)) (tq 12 (.faddr 1 (.t 3)) (tq 13 (.load 1 false (.t 12)) (tq 14 (.bin .neq (.t 11) (.t 13)) .done))))))
 (.cond (.t 14) (.seq (.reg (tm 4 (.c (.bool false)) .done))
 .ret)
 .skip))
 (.seq (.seq (.reg (tq 15 (.faddr 2 (.t 2)) (tq 16 (.load 1 false (.t 15)) (tq 17 (.faddr 2 (.t 3)) (tq 18 (.load 1 false (.t 17)) (tq 19 (.bin .neq (.t 16) (.t 18)) .done))))))
 (.cond (.t 19) (.seq (.reg (tm 4 (.c (.bool false)) .done))
 .ret)
 .skip))
 (.seq (.reg (tm 4 (.c (.bool true)) .done))
 .ret)))))
theorem fc113 : fcomp Try.prog Try.f113 = some (c113.erase, [.mov (.t 4)], 20) := by kernel_rfl
def laws_eqTold (a_1 : GTold) (b_2 : GTold) : Option Bool :=
    if (a_1.Session != b_2.Session) then
    some false
    else
    if (!(a_1.Word == b_2.Word)) then
    some false
    else
    if (!(a_1.Name == b_2.Name)) then
    some false
    else
    some true
theorem w_laws_eqTold (a_1 : GTold) (b_2 : GTold) (r : Bool) (hf : laws_eqTold a_1 b_2 = some r) : CallOK Try.prog 113 .flat [(encGTold a_1), (encGTold b_2)] (.bool r) := by
 refine CallOK.of_awp mixed Try.func113 fc113 nle ?_; rw [argT_eq]; unfold laws_eqTold at hf; unfold c113; refine (show awp Try.prog false 0 _ (ofL [(0, (encGTold a_1)), (1, (encGTold b_2))]) [] _ from ?_); refine awp_seq <| w_reg <| s_do (o_box (j := 0) (c := (.agg [(.int .i64 a_1.Session), (.str a_1.Word), (.str a_1.Name)])) rfl trivial rfl rfl) <| s_do (o_box (j := 1) (c := (.agg [(.int .i64 b_2.Session), (.str b_2.Word), (.str b_2.Name)])) rfl trivial rfl rfl) <| s_mov (.bool false) rfl <| w_done <| k_seq <| awp_seq <| awp_seq <| w_reg <| s_q (.ptr 0 0 0) rfl trivial rfl <| s_q (.int .i64 a_1.Session) rfl nle rfl <| s_q (.ptr 1 0 0) rfl trivial rfl <| s_q (.int .i64 b_2.Session) rfl nle rfl <| s_q (.bool (a_1.Session != b_2.Session)) rfl rfl rfl <| ?_
 refine w_done <| k_seq <| ?_
 rcases oi hf with ⟨c3, hf⟩ | ⟨c3, hf⟩
 ·refine w_condt rfl c3 <| awp_seq <| w_reg <| s_mov (.bool false) rfl <| w_done <| k_seq <| w_ret <| ?_; obtain rfl := os hf; exact r_flat ⟨trivial, trivial⟩ rfl (.refl _)
 ·refine w_condf rfl (bf c3) <| w_skip <| k_seq <| awp_seq <| awp_seq <| w_reg <| s_q (.ptr 0 0 1) rfl trivial rfl <| s_q (.str a_1.Word) rfl nle rfl <| s_q (.ptr 1 0 1) rfl trivial rfl <| s_q (.str b_2.Word) rfl nle rfl <| s_q (.bool (!(a_1.Word == b_2.Word))) rfl trivial rfl <| w_done <| k_seq <| ?_
  rcases oi hf with ⟨c4, hf⟩ | ⟨c4, hf⟩
  ·refine w_condt rfl c4 <| awp_seq <| w_reg <| s_mov (.bool false) rfl <| w_done <| k_seq <| w_ret <| ?_; obtain rfl := os hf; exact r_flat ⟨trivial, trivial⟩ rfl (.refl _)
  ·refine w_condf rfl (bf c4) <| w_skip <| k_seq <| awp_seq <| awp_seq <| w_reg <| s_q (.ptr 0 0 2) rfl trivial rfl <| s_q (.str a_1.Name) rfl nle rfl <| s_q (.ptr 1 0 2) rfl trivial rfl <| s_q (.str b_2.Name) rfl nle rfl <| s_q (.bool (!(a_1.Name == b_2.Name))) rfl trivial rfl <| w_done <| k_seq <| ?_
   rcases oi hf with ⟨c5, hf⟩ | ⟨c5, hf⟩
   ·refine w_condt rfl c5 <| awp_seq <| w_reg <| s_mov (.bool false) rfl <| w_done <| k_seq <| w_ret <| ?_; obtain rfl := os hf; exact r_flat ⟨trivial, trivial⟩ rfl (.refl _)
   ·refine w_condf rfl (bf c5) <| w_skip <| k_seq <| awp_seq <| w_reg <| s_mov (.bool true) rfl <| w_done <| k_seq <| w_ret <| ?_; obtain rfl := os hf; exact r_flat ⟨trivial, trivial⟩ rfl (.refl _)

/- laws.eqToldS -/
def c37 : ACode :=
 (.seq (.reg (tm 4 (.c (.bool false)) .done))
 (.seq (.seq (.reg (tm 6 (.t 0) (tq 7 (.len (.t 6)) (tm 8 (.t 1) (tq 9 (.len (.t 8)) (tq 10 (.bin .neq (.t 7) (.t 9)) .done))))))
 (.cond (.t 10) (.seq (.reg (tm 4 (.c (.bool false)) .done))
 .ret)
 .skip))
 (.seq (.seq (.reg (tm 5 (.c (.int .i64 0)) .done))
 (.block 0 (.loop (.seq (.seq (.reg (tm 11 (.t 5) (tm 12 (.t 0) (tq 13 (.len (.t 12)) (tq 14 (.bin .lss (.t 11) (.t 13)) .done)))))
 (.cond (.t 14) .skip
 (.exit 0)))
 (.seq (.block 1 (.seq (.reg (tm 17 (.t 0) (tm 18 (.t 5) (tq 19 (.iaddr 3 (.t 17) (.t 18)) (tq 20 (.load 3 true (.t 19)) (tm 21 (.t 1) (tm 22 (.t 5) (tq 23 (.iaddr 3 (.t 21) (.t 22)) (tq 24 (.load 3 true (.t 23)) (.l ⟨(some 25), none, .call 113 [(.t 20), (.t 24)]⟩ []
 (tq 26 (.not (.t 25)) .done) .non))))))))))
 (.cond (.t 26) (.seq (.reg (tm 4 (.c (.bool false)) .done))
 .ret)
 .skip)))
 (.reg (tm 15 (.t 5) (tq 16 (.bin .add (.t 15) (.c (.int .i64 1))) (tm 5 (.t 16) .done)))))))))
 (.cut (.seq (.reg (tm 4 (.c (.bool true)) .done))
 .ret)))))
theorem fc37 : fcomp Try.prog Try.f37 = some (c37.erase, [.mov (.t 4)], 27) := by kernel_rfl
def laws_eqToldS_L1 (b_2 : (List GTold)) : List GTold → Nat → Option (Fl Bool Unit)
  | [], i_25 =>
    some (.go ())
  | x_43 :: xs, i_25 =>
    (idx b_2 (i_25 : Int)).bind fun x_46 =>
    (laws_eqTold x_43 x_46).bind fun r_48 =>
    if (!r_48) then
    some (.ret false)
    else
    laws_eqToldS_L1 b_2 xs (i_25 + 1)

def laws_eqToldS (a_1 : (List GTold)) (b_2 : (List GTold)) : Option Bool :=
    if ((a_1.length : Int) != (b_2.length : Int)) then
    some false
    else
    (laws_eqToldS_L1 b_2 a_1 0).bind fun q => (match q with
    | .ret r => some r
    | .go _ =>
    some true)
theorem w_laws_eqToldS (a_1 : (List GTold)) (b_2 : (List GTold)) (r : Bool) (hf : laws_eqToldS a_1 b_2 = some r) : CallOK Try.prog 37 .flat [(.lst 3 (a_1.map encGTold)), (.lst 3 (b_2.map encGTold))] (.bool r) := by
 refine CallOK.of_awp mixed Try.func37 fc37 nle ?_; rw [argT_eq]; unfold laws_eqToldS at hf; unfold c37; refine (show awp Try.prog false 0 _ (ofL [(0, (.lst 3 (a_1.map encGTold))), (1, (.lst 3 (b_2.map encGTold)))]) [] _ from ?_); refine awp_seq <| w_reg <| s_mov (.bool false) rfl <| w_done <| k_seq <| awp_seq <| awp_seq <| w_reg <| s_mov (.lst 3 (a_1.map encGTold)) rfl <| s_dof (o_len (enc := encGTold) rfl) fun hl3 => s_mov (.lst 3 (b_2.map encGTold)) rfl <| s_dof (o_len (enc := encGTold) rfl) fun hl4 => s_q (.bool ((a_1.length : Int) != (b_2.length : Int))) rfl rfl rfl <| w_done <| k_seq <| ?_
 rcases oi hf with ⟨c5, hf⟩ | ⟨c5, hf⟩
 ·refine w_condt rfl c5 <| awp_seq <| w_reg <| s_mov (.bool false) rfl <| w_done <| k_seq <| w_ret <| ?_; obtain rfl := os hf; exact r_flat ⟨trivial, trivial⟩ rfl (.refl _)
 ·refine w_condf rfl (bf c5) <| w_skip <| k_seq <| awp_seq <| awp_seq <| w_reg <| s_mov (.int .i64 0) rfl <| w_done <| k_seq <| ?_
  obtain ⟨p36, hb1, hf⟩ := ob hf
  refine awp_cutx (X := {q : Unit // p36 = .go q}) (fun q => ([], [])) ?_ ?_
  ·refine awp_loop (X := {q : Nat // laws_eqToldS_L1 b_2 (a_1.drop q) q = some p36}) (fun q => ([(0, (.lst 3 (a_1.map encGTold))), (1, (.lst 3 (b_2.map encGTold))), (5, (.int .i64 (q.1 : Int)))], [])) (fun q => a_1.length - q.1) ⟨0, hb1⟩ ⟨[], [], _, _, rfl, rfl, ⟨.refl _, ⟨.refl _, ⟨.refl _, trivial⟩⟩⟩, (.refl _)⟩ ?_
   rintro ⟨i_25, hc1⟩
   have hc1 : laws_eqToldS_L1 b_2 (a_1.drop i_25) i_25 = some p36 := hc1
   refine (show awp Try.prog false 0 _ (ofL [(0, (.lst 3 (a_1.map encGTold))), (1, (.lst 3 (b_2.map encGTold))), (5, (.int .i64 (i_25 : Int)))]) [] _ from ?_)
   rcases dropc a_1 i_25 with ⟨hie39, hd42⟩ | ⟨hlt37, x_43, hx38, hd42⟩
   ·rw [hd42, laws_eqToldS_L1.eq_1] at hc1
    have hq41 := dlf hie39
    refine awp_seq <| awp_seq <| w_reg <| s_mov (.int .i64 (i_25 : Int)) rfl <| s_mov (.lst 3 (a_1.map encGTold)) rfl <| s_dof (o_len (enc := encGTold) rfl) fun hl44 => s_q (.bool (decide ((i_25 : Int) < (a_1.length : Int)))) rfl rfl rfl <| w_done <| k_seq <| w_condf rfl hq41 <| w_exit <| k_seqx <| k_loopx <| k_blkx <| ?_; obtain rfl := os hc1; exact k_cutn ⟨_, rfl⟩ ⟨[], [], _, _, rfl, rfl, trivial, (.refl _)⟩
   ·rw [hd42, laws_eqToldS_L1.eq_2] at hc1
    have hq41 := dlt hlt37
    refine awp_seq <| awp_seq <| w_reg <| s_mov (.int .i64 (i_25 : Int)) rfl <| s_mov (.lst 3 (a_1.map encGTold)) rfl <| s_dof (o_len (enc := encGTold) rfl) fun hl45 => s_q (.bool (decide ((i_25 : Int) < (a_1.length : Int)))) rfl rfl rfl <| w_done <| k_seq <| w_condt rfl hq41 <| w_skip <| k_seq <| awp_seq <| w_blk <| awp_seq <| w_reg <| ?_
    obtain ⟨x_46, ex47, hc1⟩ := ob hc1
    obtain ⟨r_48, er49, hc1⟩ := ob hc1
    refine s_mov (.lst 3 (a_1.map encGTold)) rfl <| s_mov (.int .i64 (i_25 : Int)) rfl <| s_do (o_iaddrn (enc := encGTold) rfl rfl hx38) <| s_q (encGTold x_43) rfl nle rfl <| s_mov (.lst 3 (b_2.map encGTold)) rfl <| s_mov (.int .i64 (i_25 : Int)) rfl <| s_do (o_iaddr (enc := encGTold) rfl rfl (idx0 ex47) (idx1 ex47)) <| s_q (encGTold x_46) rfl nle rfl <| s_dol (o_call (w_laws_eqTold _ _ _ er49) rfl (.refl _) rfl) a_same trivial <| s_q (.bool (!r_48)) rfl trivial rfl <| w_done <| k_seq <| ?_
    rcases oi hc1 with ⟨c50, hc1⟩ | ⟨c50, hc1⟩
    ·refine w_condt rfl c50 <| awp_seq <| w_reg <| s_mov (.bool false) rfl <| w_done <| k_seq <| w_ret <| ?_; obtain rfl := os hc1; obtain rfl := os hf; exact r_flat ⟨trivial, trivial⟩ rfl (.refl _)
    ·refine w_condf rfl (bf c50) <| w_skip <| k_blk <| k_seq <| w_reg <| s_mov (.int .i64 (i_25 : Int)) rfl <| s_q (.int .i64 (w64 ((i_25 : Int) + 1))) rfl rfl rfl <| s_mov (.int .i64 (w64 ((i_25 : Int) + 1))) rfl <| w_done <| ?_; exact k_loopn ⟨(i_25 + 1), hc1⟩ (mul hlt37) ⟨[], [], _, _, rfl, rfl, ⟨.refl _, ⟨.refl _, ⟨.of_eq (congrArg (AV.int _) (w64_incr hlt37 hl45)), trivial⟩⟩⟩, (.refl _)⟩
  ·rintro ⟨_, rfl⟩
   refine awp_seq <| w_reg <| s_mov (.bool true) rfl <| w_done <| k_seq <| w_ret <| ?_; obtain rfl := os hf; exact r_flat ⟨trivial, trivial⟩ rfl (.refl _)

/- laws.markText -/
def c90 : ACode :=
 (.seq (.reg (tm 2 (.c (.str [])) .done))
 (.seq (.seq (.reg (tm 4 (.t 0) (tq 5 (.bin .leq (.t 4) (.c (.int .i64 0))) .done)))
 (.cond (.t 5) (.seq (.reg (tm 2 (.c (.str [109, 48])) .done))
 .ret)
 .skip))
 (.seq (.reg (tm 3 (.c (.str [])) .done))
 (.seq (.block 0 (.loop (.seq (.seq (.reg (tm 6 (.t 0) (tq 7 (.bin .gtr (.t 6) (.c (.int .i64 0))) .done)))
 (.cond (.t 7) .skip
 (.exit 0)))
 (.block 1 (.seq (.reg (tm 8 (.t 0) (tq 9 (.bin .rem (.t 8) (.c (.int .i64 10))) (tq 10 (.bin .add (.c (.int .i64 48)) (.t 9)) (tq 11 (.convI .u8 (.t 10)) (tq 12 (.bslice 1 [(.t 11)]) (tq 13 (.convBS (.t 12)) (tm 14 (.t 3) (tq 15 (.bin .add (.t 13) (.t 14)) (tm 3 (.t 15) .done))))))))))
 (.reg (tm 16 (.t 0) (tq 17 (.bin .quo (.t 16) (.c (.int .i64 10))) (tm 0 (.t 17) .done)))))))))
 (.cut (.seq (.reg (tm 18 (.t 3) (tq 19 (.bin .add (.c (.str [109])) (.t 18)) (tm 2 (.t 19) .done))))
 .ret))))))
theorem fc90 : fcomp Try.prog Try.f90 = some (c90.erase, [.mov (.t 2)], 20) := by kernel_rfl
def laws_markText_L1  : Nat → Int → Str → Option Str
  | 0, _, _ => none
  | k + 1, k_9, out_10 =>
    if (decide (k_9 > 0)) then
    if (bstr [IntKind.u8.wrap (w64 (48 + (k_9.tmod 10)))]).length + out_10.length ≤ maxLen then
    laws_markText_L1 k (w64 (k_9.tdiv 10)) ((bstr [IntKind.u8.wrap (w64 (48 + (k_9.tmod 10)))]) ++ out_10)
    else none
    else
    some out_10

def laws_markText (k_1 : Int) : Option Str :=
    if (decide (k_1 ≤ 0)) then
    some [109, 48]
    else
    (laws_markText_L1 FUEL k_1 []).bind fun out_13 =>
    if [109].length + out_13.length ≤ maxLen then
    some ([109] ++ out_13)
    else none
theorem w_laws_markText (k_1 : Int) (r : Str) (hf : laws_markText k_1 = some r) : CallOK Try.prog 90 .flat [(.int .i64 k_1)] (.str r) := by
 refine CallOK.of_awp mixed Try.func90 fc90 nle ?_; rw [argT_eq]; unfold laws_markText at hf; unfold c90; refine (show awp Try.prog false 0 _ (ofL [(0, (.int .i64 k_1))]) [] _ from ?_); refine awp_seq <| w_reg <| s_mov (.str []) rfl <| w_done <| k_seq <| awp_seq <| awp_seq <| w_reg <| s_mov (.int .i64 k_1) rfl <| s_q (.bool (decide (k_1 ≤ 0))) rfl rfl rfl <| w_done <| k_seq <| ?_
 rcases oi hf with ⟨c2, hf⟩ | ⟨c2, hf⟩
 ·refine w_condt rfl c2 <| awp_seq <| w_reg <| s_mov (.str [109, 48]) rfl <| w_done <| k_seq <| w_ret <| ?_; obtain rfl := os hf; exact r_flat ⟨trivial, trivial⟩ rfl (.refl _)
 ·refine w_condf rfl (bf c2) <| w_skip <| k_seq <| awp_seq <| w_reg <| s_mov (.str []) rfl <| w_done <| k_seq <| awp_seq <| ?_
  obtain ⟨out_13, hb1, hf⟩ := ob hf
  refine awp_cut ([(3, (.str out_13))], []) ?_ ?_
  ·refine awp_loop (X := {q : (Nat × Int × Str) // laws_markText_L1 q.1 q.2.1 q.2.2 = some out_13}) (fun q => ([(0, (.int .i64 q.1.2.1)), (3, (.str q.1.2.2))], [])) (fun q => q.1.1) ⟨(FUEL, k_1, []), hb1⟩ ⟨[], [], _, _, rfl, rfl, ⟨.refl _, ⟨.refl _, trivial⟩⟩, (.refl _)⟩ ?_
   rintro ⟨⟨k, k_9, out_10⟩, hc1⟩
   have hc1 : laws_markText_L1 k k_9 out_10 = some out_13 := hc1
   refine (show awp Try.prog false 0 _ (ofL [(0, (.int .i64 k_9)), (3, (.str out_10))]) [] _ from ?_)
   rcases k with _ | k
   ·rw [laws_markText_L1.eq_1] at hc1
    cases hc1
   ·rw [laws_markText_L1.eq_2] at hc1; refine awp_seq <| awp_seq <| w_reg <| s_mov (.int .i64 k_9) rfl <| s_q (.bool (decide (k_9 > 0))) rfl rfl rfl <| w_done <| k_seq <| ?_
    rcases oi hc1 with ⟨c15, hc1⟩ | ⟨c15, hc1⟩
    ·refine w_condt rfl c15 <| w_skip <| k_seq <| w_blk <| awp_seq <| w_reg <| ?_
     obtain ⟨g16, hc1⟩ := og hc1
     refine s_mov (.int .i64 k_9) rfl <| s_q (.int .i64 (k_9.tmod 10)) rfl ⟨rfl, by decide⟩ rfl <| s_q (.int .i64 (w64 (48 + (k_9.tmod 10)))) rfl rfl rfl <| s_q (.int .u8 (IntKind.u8.wrap (w64 (48 + (k_9.tmod 10))))) rfl trivial rfl <| ?_; refine s_do (o_bslice (j := 0) (as' := [(.int .u8 (IntKind.u8.wrap (w64 (48 + (k_9.tmod 10)))))]) rfl (fun _ => by decide) ⟨rfl, trivial⟩ (.refl _) rfl rfl rfl) ?_; refine s_do (o_convbso (l := [IntKind.u8.wrap (w64 (48 + (k_9.tmod 10)))]) rfl rfl (by simp)) <| s_mov (.str out_10) rfl <| s_q (.str ((bstr [IntKind.u8.wrap (w64 (48 + (k_9.tmod 10)))]) ++ out_10)) rfl g16 rfl <| s_mov (.str ((bstr [IntKind.u8.wrap (w64 (48 + (k_9.tmod 10)))]) ++ out_10)) rfl <| w_done <| k_seq <| w_reg <| s_mov (.int .i64 k_9) rfl <| ?_
     refine s_q (.int .i64 (w64 (k_9.tdiv 10))) rfl ⟨rfl, by decide⟩ rfl <| s_mov (.int .i64 (w64 (k_9.tdiv 10))) rfl <| w_done <| k_blk <| ?_; exact k_loopn ⟨(k, w64 (k_9.tdiv 10), (bstr [IntKind.u8.wrap (w64 (48 + (k_9.tmod 10)))]) ++ out_10), hc1⟩ (Nat.lt_succ_self _) ⟨[], [], _, _, rfl, rfl, ⟨.refl _, ⟨.refl _, trivial⟩⟩, (.refl _)⟩
    ·refine w_condf rfl (bf c15) <| w_exit <| k_seqx <| k_loopx <| k_blkx <| ?_; obtain rfl := os hc1; exact ⟨[], [], _, _, rfl, rfl, ⟨.refl _, trivial⟩, (.refl _)⟩
  ·refine awp_seq <| w_reg <| ?_
   obtain ⟨g17, hf⟩ := og hf
   refine s_mov (.str out_13) rfl <| s_q (.str ([109] ++ out_13)) rfl g17 rfl <| s_mov (.str ([109] ++ out_13)) rfl <| w_done <| k_seq <| w_ret <| ?_; obtain rfl := os hf; exact r_flat ⟨trivial, trivial⟩ rfl (.refl _)

/- laws.markIntS -/
def c114_h0 : ACode :=
 (.seq (.reg (tm 4 (.c (.int .i64 0)) .done))
 (.seq (.seq (.reg (tm 5 (.c (.int .i64 0)) .done))
 (.block 0 (.loop (.seq (.seq (.reg (tm 6 (.t 5) (tm 7 (.t 0) (tq 8 (.len (.t 7)) (tq 9 (.bin .lss (.t 6) (.t 8)) .done)))))
 (.cond (.t 9) .skip
 (.exit 0)))
 (.seq (.block 1 (.seq (.reg (tm 12 (.t 0) (tm 13 (.t 5) (tm 14 (.t 1) (tq 15 (.iaddr 1 (.t 12) (.t 13)) (.q ⟨none, none, .store 1 (.t 15) (.t 14)⟩
 .done))))))
 (.reg (tm 16 (.t 1) (tq 17 (.bin .add (.t 16) (.c (.int .i64 1))) (tm 1 (.t 17) .done))))))
 (.reg (tm 10 (.t 5) (tq 11 (.bin .add (.t 10) (.c (.int .i64 1))) (tm 5 (.t 11) .done)))))))))
 (.cut (.seq (.reg (tm 18 (.t 1) (tm 4 (.t 18) .done)))
 .ret))))
theorem fc114_h0 : fcomp Try.prog Try.f114 = some (c114_h0.erase, [.mov (.t 4)], 19) := by kernel_rfl
def laws_markIntS_L1  : Nat → Int → Int → (List Int) → Option (Int × (List Int))
  | 0, _, _, _ => none
  | k + 1, k_38, i_39, a_40 =>
    if (decide (i_39 < (a_40.length : Int))) then
    if (0 : Int) ≤ i_39 ∧ i_39 < (a_40.length : Int) then
    (a_40[(0 + i_39.toNat)]?).bind fun x_52 =>
    laws_markIntS_L1 k (w64 (k_38 + 1)) (w64 (i_39 + 1)) (a_40.set (0 + i_39.toNat) k_38)
    else none
    else
    some (k_38, a_40)

def laws_markIntS (a_1 : (List Int)) (k_2 : Int) : Option (Int × (List Int)) :=
    (laws_markIntS_L1 FUEL k_2 0 a_1).bind fun p48 =>
    (match p48 with
    | (k_46, l_47) =>
    some (k_46, l_47))
theorem w_laws_markIntS (a_1 : (List Int)) (k_2 : Int) (r : (Int × (List Int))) (hf : laws_markIntS a_1 k_2 = some r) : CallHeap Try.prog ⟨true, true⟩ 114 [(.own 0 0 a_1.length), (.int .i64 k_2)] [.row 1 (a_1.map encI)] (.int .i64 r.1) [.row 1 (r.2.map encI)] := by
 refine CallHeap.of_awp mixed Try.func114 fc114_h0 nle ?_; rw [argT_eq]; unfold laws_markIntS at hf; unfold c114_h0; refine (show awp Try.prog ⟨true, true⟩ 1 _ (ofL [(0, (.own 0 0 a_1.length)), (1, (.int .i64 k_2))]) [.row 1 (a_1.map encI)] _ from ?_); refine awp_seq <| w_reg <| s_mov (.int .i64 0) rfl <| w_done <| k_seq <| awp_seq <| awp_seq <| w_reg <| s_mov (.int .i64 0) rfl <| w_done <| k_seq <| ?_
 obtain ⟨p48, hb1, hf⟩ := ob hf
 refine awp_cut ([(1, (.int .i64 p48.1))], [.row 1 (p48.2.map encI)]) ?_ ?_
 ·refine awp_loop (X := {q : (Nat × Int × Int × (List Int)) // laws_markIntS_L1 q.1 q.2.1 q.2.2.1 q.2.2.2 = some p48}) (fun q => ([(0, (.own 0 0 q.1.2.2.2.length)), (1, (.int .i64 q.1.2.1)), (5, (.int .i64 q.1.2.2.1))], [.row 1 (q.1.2.2.2.map encI)])) (fun q => q.1.1) ⟨(FUEL, k_2, 0, a_1), hb1⟩ ⟨[], [0], _, _, rfl, rfl, ⟨.refl _, ⟨.refl _, ⟨.refl _, trivial⟩⟩⟩, (.refl _)⟩ ?_
  rintro ⟨⟨k, k_38, i_39, a_40⟩, hc1⟩
  have hc1 : laws_markIntS_L1 k k_38 i_39 a_40 = some p48 := hc1
  refine (show awp Try.prog ⟨true, true⟩ 1 _ (ofL [(0, (.own 0 0 a_40.length)), (1, (.int .i64 k_38)), (5, (.int .i64 i_39))]) [.row 1 (a_40.map encI)] _ from ?_)
  rcases k with _ | k
  ·rw [laws_markIntS_L1.eq_1] at hc1
   cases hc1
  ·rw [laws_markIntS_L1.eq_2] at hc1; refine awp_seq <| awp_seq <| w_reg <| s_mov (.int .i64 i_39) rfl <| s_mov (.own 0 0 a_40.length) rfl <| s_dof (o_lenown rfl rfl) fun hl49 => s_q (.bool (decide (i_39 < (a_40.length : Int)))) rfl (.of rfl trivial) rfl <| w_done <| k_seq <| ?_
   rcases oi hc1 with ⟨c50, hc1⟩ | ⟨c50, hc1⟩
   ·refine w_condt rfl c50 <| w_skip <| k_seq <| awp_seq <| w_blk <| awp_seq <| w_reg <| ?_
    obtain ⟨g51, hc1⟩ := og hc1
    obtain ⟨x_52, ex53, hc1⟩ := ob hc1
    refine s_mov (.own 0 0 a_40.length) rfl <| s_mov (.int .i64 i_39) rfl <| s_mov (.int .i64 k_38) rfl <| s_do (o_iaddrown rfl rfl g51.1 g51.2 rfl rfl) <| ?_; refine s_do0 (o_storerow (v' := (.int .i64 k_38)) (e' := k_38) rfl rfl ex53 rfl rfl rfl (by decide) (fun _ => by decide) ⟨rfl, rfl, rfl⟩ (.refl _) rfl) ?_; refine w_done <| k_seq <| w_reg <| s_mov (.int .i64 k_38) rfl <| s_q (.int .i64 (w64 (k_38 + 1))) rfl (.of rfl trivial) rfl <| s_mov (.int .i64 (w64 (k_38 + 1))) rfl <| w_done <| k_blk <| k_seq <| w_reg <| s_mov (.int .i64 i_39) rfl <| s_q (.int .i64 (w64 (i_39 + 1))) rfl (.of rfl trivial) rfl <| s_mov (.int .i64 (w64 (i_39 + 1))) rfl <| w_done <| ?_; exact k_loopn ⟨(k, w64 (k_38 + 1), w64 (i_39 + 1), a_40.set (0 + i_39.toNat) k_38), hc1⟩ (Nat.lt_succ_self _) ⟨[], [0], _, _, rfl, rfl, ⟨.of_eq (congrArg (AV.own _ 0) (by simp)), ⟨.refl _, ⟨.refl _, trivial⟩⟩⟩, (.refl _)⟩
   ·refine w_condf rfl (bf c50) <| w_exit <| k_seqx <| k_loopx <| k_blkx <| ?_; obtain rfl := os hc1; exact ⟨[], [0], _, _, rfl, rfl, ⟨.refl _, trivial⟩, (.refl _)⟩
 ·obtain ⟨k_46, l_47⟩ := p48
  refine awp_seq <| w_reg <| s_mov (.int .i64 k_46) rfl <| s_mov (.int .i64 k_46) rfl <| w_done <| k_seq <| w_ret <| ?_; obtain rfl := os hf; exact r_heap [] [0] rfl ⟨.of trivial trivial, trivial⟩ rfl (.refl _) (.refl _)

/- laws.markLockS -/
def c38_h0 : ACode :=
 (.seq (.reg (tm 4 (.c (.int .i64 0)) .done))
 (.seq (.seq (.reg (tm 5 (.c (.int .i64 0)) .done))
 (.block 0 (.loop (.seq (.seq (.reg (tm 6 (.t 5) (tm 7 (.t 0) (tq 8 (.len (.t 7)) (tq 9 (.bin .lss (.t 6) (.t 8)) .done)))))
 (.cond (.t 9) .skip
 (.exit 0)))
 (.seq (.block 1 (.seq (.reg (tm 12 (.t 0) (tm 13 (.t 5) (tm 14 (.t 1) (tq 15 (.call 90 [(.t 14)]) (tq 16 (.iaddr 2 (.t 12) (.t 13)) (tq 17 (.faddr 0 (.t 16)) (.q ⟨none, none, .store 1 (.t 17) (.t 15)⟩
 .done))))))))
 (.seq (.reg (tm 18 (.t 1) (tq 19 (.bin .add (.t 18) (.c (.int .i64 1))) (tm 1 (.t 19) .done))))
 (.rev (.reg (tm 20 (.t 0) (tm 21 (.t 5) (tq 22 (.iaddr 2 (.t 20) (.t 21)) (tq 23 (.faddr 1 (.t 22)) (tq 24 (.load 1 false (.t 23)) (tm 25 (.t 1) (tq 26 (.call 114 [(.t 24), (.t 25)]) (tm 1 (.t 26) .done)))))))))))))
 (.reg (tm 10 (.t 5) (tq 11 (.bin .add (.t 10) (.c (.int .i64 1))) (tm 5 (.t 11) .done)))))))))
 (.cut (.seq (.reg (tm 27 (.t 1) (tm 4 (.t 27) .done)))
 .ret))))
theorem fc38_h0 : fcomp Try.prog Try.f38 = some (c38_h0.erase, [.mov (.t 4)], 28) := by kernel_rfl
def laws_markLockS_L1  : Nat → Int → Int → (List GLock) → Option (Int × (List GLock))
  | 0, _, _, _ => none
  | k + 1, k_73, i_74, a_75 =>
    if (decide (i_74 < (a_75.length : Int))) then
    (laws_markText k_73).bind fun r_93 =>
    if (0 : Int) ≤ i_74 ∧ i_74 < (a_75.length : Int) then
    (a_75[(0 + i_74.toNat)]?).bind fun x_96 =>
    if (0 : Int) ≤ i_74 ∧ i_74 < (a_75.length : Int) then
    (laws_markIntS x_96.Queue (w64 (k_73 + 1))).bind fun r_101 =>
    laws_markLockS_L1 k r_101.1 (w64 (i_74 + 1)) ((a_75.set (0 + i_74.toNat) (⟨r_93, x_96.Queue⟩ : GLock)).set (0 + i_74.toNat) (⟨r_93, r_101.2⟩ : GLock))
    else none
    else none
    else
    some (k_73, a_75)

def laws_markLockS (a_1 : (List GLock)) (k_2 : Int) : Option (Int × (List GLock)) :=
    (laws_markLockS_L1 FUEL k_2 0 a_1).bind fun p90 =>
    (match p90 with
    | (k_88, l_89) =>
    some (k_88, l_89))
theorem w_laws_markLockS (a_1 : (List GLock)) (k_2 : Int) (r : (Int × (List GLock))) (hf : laws_markLockS a_1 k_2 = some r) : CallHeap Try.prog ⟨true, true⟩ 38 [(.own 0 0 a_1.length), (.int .i64 k_2)] [.row 2 (a_1.map encGLock)] (.int .i64 r.1) [.row 2 (r.2.map encGLock)] := by
 refine CallHeap.of_awp mixed Try.func38 fc38_h0 nle ?_; rw [argT_eq]; unfold laws_markLockS at hf; unfold c38_h0; refine (show awp Try.prog ⟨true, true⟩ 1 _ (ofL [(0, (.own 0 0 a_1.length)), (1, (.int .i64 k_2))]) [.row 2 (a_1.map encGLock)] _ from ?_); refine awp_seq <| w_reg <| s_mov (.int .i64 0) rfl <| w_done <| k_seq <| awp_seq <| awp_seq <| w_reg <| s_mov (.int .i64 0) rfl <| w_done <| k_seq <| ?_
 obtain ⟨p90, hb1, hf⟩ := ob hf
 refine awp_cut ([(1, (.int .i64 p90.1))], [.row 2 (p90.2.map encGLock)]) ?_ ?_
 ·refine awp_loop (X := {q : (Nat × Int × Int × (List GLock)) // laws_markLockS_L1 q.1 q.2.1 q.2.2.1 q.2.2.2 = some p90}) (fun q => ([(0, (.own 0 0 q.1.2.2.2.length)), (1, (.int .i64 q.1.2.1)), (5, (.int .i64 q.1.2.2.1))], [.row 2 (q.1.2.2.2.map encGLock)])) (fun q => q.1.1) ⟨(FUEL, k_2, 0, a_1), hb1⟩ ⟨[], [0], _, _, rfl, rfl, ⟨.refl _, ⟨.refl _, ⟨.refl _, trivial⟩⟩⟩, (.refl _)⟩ ?_
  rintro ⟨⟨k, k_73, i_74, a_75⟩, hc1⟩
  have hc1 : laws_markLockS_L1 k k_73 i_74 a_75 = some p90 := hc1
  refine (show awp Try.prog ⟨true, true⟩ 1 _ (ofL [(0, (.own 0 0 a_75.length)), (1, (.int .i64 k_73)), (5, (.int .i64 i_74))]) [.row 2 (a_75.map encGLock)] _ from ?_)
  rcases k with _ | k
  ·rw [laws_markLockS_L1.eq_1] at hc1
   cases hc1
  ·rw [laws_markLockS_L1.eq_2] at hc1; refine awp_seq <| awp_seq <| w_reg <| s_mov (.int .i64 i_74) rfl <| s_mov (.own 0 0 a_75.length) rfl <| s_dof (o_lenown rfl rfl) fun hl91 => s_q (.bool (decide (i_74 < (a_75.length : Int)))) rfl (.of rfl trivial) rfl <| w_done <| k_seq <| ?_
   rcases oi hc1 with ⟨c92, hc1⟩ | ⟨c92, hc1⟩
   ·refine w_condt rfl c92 <| w_skip <| k_seq <| awp_seq <| w_blk <| awp_seq <| w_reg <| ?_
    obtain ⟨r_93, er94, hc1⟩ := ob hc1
    obtain ⟨g95, hc1⟩ := og hc1
    obtain ⟨x_96, ex97, hc1⟩ := ob hc1
    refine s_mov (.own 0 0 a_75.length) rfl <| s_mov (.int .i64 i_74) rfl <| s_mov (.int .i64 k_73) rfl <| s_do (o_call (w_laws_markText _ _ er94) rfl (.refl _) rfl) <| s_do (o_iaddrown rfl rfl g95.1 g95.2 rfl rfl) <| s_q (.ptr 0 (0 + i_74.toNat) 0) rfl (.of trivial trivial) rfl <| ?_; refine s_do0 (o_storerow (v' := (.str r_93)) (e' := (⟨r_93, x_96.Queue⟩ : GLock)) rfl rfl ex97 rfl rfl rfl (by decide) (fun _ => by decide) ⟨rfl, nle⟩ (.refl _) rfl) ?_; refine w_done <| k_seq <| awp_seq <| w_reg <| s_mov (.int .i64 k_73) rfl <| s_q (.int .i64 (w64 (k_73 + 1))) rfl (.of rfl trivial) rfl <| s_mov (.int .i64 (w64 (k_73 + 1))) rfl <| w_done <| k_seq <| ?_; refine w_rev (o := 0) (f := 1) (l' := x_96.Queue) (enc' := encI) (el := (.agg [(.str r_93), (.lst 1 (x_96.Queue.map encI))])) rfl (setget ex97) rfl rfl fun v_99 => ?_
    refine w_reg ?_
    obtain ⟨g100, hc1⟩ := og hc1
    obtain ⟨r_101, er102, hc1⟩ := ob hc1
    refine s_mov (.own 0 0 a_75.length) rfl <| s_mov (.int .i64 i_74) rfl <| s_do (o_iaddrown rfl rfl g100.1 g100.2 rfl rfl) <| s_q (.ptr 0 (0 + i_74.toNat) 1) rfl (.of trivial trivial) rfl <| s_do (o_loadhdr rfl rfl (getset (setget ex97)) nle rfl) <| s_mov (.int .i64 (w64 (k_73 + 1))) rfl <| s_do (o_callm (o := 0) (l := (a_75.set (0 + i_74.toNat) (⟨r_93, x_96.Queue⟩ : GLock))) (enc := encGLock) (enc' := encI) (l'' := r_101.2) (y := (⟨r_93, r_101.2⟩ : GLock)) (j := 1) (el := (.agg [(.str r_93), (.hdr v_99 1 (x_96.Queue.map encI))])) rfl rfl (w_laws_markIntS _ _ _ er102) rfl rfl (setget ex97) rfl (by decide) rfl) <| s_mov (.int .i64 r_101.1) rfl <| w_done <| k_blk <| k_seq <| w_reg <| s_mov (.int .i64 i_74) rfl <| ?_
    refine s_q (.int .i64 (w64 (i_74 + 1))) rfl (.of rfl trivial) rfl <| s_mov (.int .i64 (w64 (i_74 + 1))) rfl <| w_done <| ?_; exact k_loopn ⟨(k, r_101.1, w64 (i_74 + 1), (a_75.set (0 + i_74.toNat) (⟨r_93, x_96.Queue⟩ : GLock)).set (0 + i_74.toNat) (⟨r_93, r_101.2⟩ : GLock)), hc1⟩ (Nat.lt_succ_self _) ⟨[], [0], _, _, rfl, rfl, ⟨.of_eq (congrArg (AV.own _ 0) (by simp)), ⟨.refl _, ⟨.refl _, trivial⟩⟩⟩, (.refl _)⟩
   ·refine w_condf rfl (bf c92) <| w_exit <| k_seqx <| k_loopx <| k_blkx <| ?_; obtain rfl := os hc1; exact ⟨[], [0], _, _, rfl, rfl, ⟨.refl _, trivial⟩, (.refl _)⟩
 ·obtain ⟨k_88, l_89⟩ := p90
  refine awp_seq <| w_reg <| s_mov (.int .i64 k_88) rfl <| s_mov (.int .i64 k_88) rfl <| w_done <| k_seq <| w_ret <| ?_; obtain rfl := os hf; exact r_heap [] [0] rfl ⟨.of trivial trivial, trivial⟩ rfl (.refl _) (.refl _)

/- laws.markToldS -/
def c39_h0 : ACode :=
 (.seq (.reg (tm 4 (.c (.int .i64 0)) .done))
 (.seq (.seq (.reg (tm 5 (.c (.int .i64 0)) .done))
 (.block 0 (.loop (.seq (.seq (.reg (tm 6 (.t 5) (tm 7 (.t 0) (tq 8 (.len (.t 7)) (tq 9 (.bin .lss (.t 6) (.t 8)) .done)))))
 (.cond (.t 9) .skip
 (.exit 0)))
 (.seq (.block 1 (.seq (.reg (tm 12 (.t 0) (tm 13 (.t 5) (tm 14 (.t 1) (tq 15 (.iaddr 3 (.t 12) (.t 13)) (tq 16 (.faddr 0 (.t 15)) (.q ⟨none, none, .store 1 (.t 16) (.t 14)⟩
 .done)))))))
 (.seq (.reg (tm 17 (.t 1) (tq 18 (.bin .add (.t 17) (.c (.int .i64 1))) (tm 1 (.t 18) .done))))
 (.seq (.reg (tm 19 (.t 0) (tm 20 (.t 5) (tm 21 (.t 1) (tq 22 (.call 90 [(.t 21)]) (tq 23 (.iaddr 3 (.t 19) (.t 20)) (tq 24 (.faddr 1 (.t 23)) (.q ⟨none, none, .store 1 (.t 24) (.t 22)⟩
 .done))))))))
 (.seq (.reg (tm 25 (.t 1) (tq 26 (.bin .add (.t 25) (.c (.int .i64 1))) (tm 1 (.t 26) .done))))
 (.seq (.reg (tm 27 (.t 0) (tm 28 (.t 5) (tm 29 (.t 1) (tq 30 (.call 90 [(.t 29)]) (tq 31 (.iaddr 3 (.t 27) (.t 28)) (tq 32 (.faddr 2 (.t 31)) (.q ⟨none, none, .store 1 (.t 32) (.t 30)⟩
 .done))))))))
 (.reg (tm 33 (.t 1) (tq 34 (.bin .add (.t 33) (.c (.int .i64 1))) (tm 1 (.t 34) .done))))))))))
 (.reg (tm 10 (.t 5) (tq 11 (.bin .add (.t 10) (.c (.int .i64 1))) (tm 5 (.t 11) .done)))))))))
 (.cut (.seq (.reg (tm 35 (.t 1) (tm 4 (.t 35) .done)))
 .ret))))
theorem fc39_h0 : fcomp Try.prog Try.f39 = some (c39_h0.erase, [.mov (.t 4)], 36) := by kernel_rfl
def laws_markToldS_L1  : Nat → Int → Int → (List GTold) → Option (Int × (List GTold))
  | 0, _, _, _ => none
  | k + 1, k_68, i_69, a_70 =>
    if (decide (i_69 < (a_70.length : Int))) then
    if (0 : Int) ≤ i_69 ∧ i_69 < (a_70.length : Int) then
    (a_70[(0 + i_69.toNat)]?).bind fun x_88 =>
    (laws_markText (w64 (k_68 + 1))).bind fun r_90 =>
    if (0 : Int) ≤ i_69 ∧ i_69 < (a_70.length : Int) then
    (laws_markText (w64 ((w64 (k_68 + 1)) + 1))).bind fun r_93 =>
    if (0 : Int) ≤ i_69 ∧ i_69 < (a_70.length : Int) then
    laws_markToldS_L1 k (w64 ((w64 ((w64 (k_68 + 1)) + 1)) + 1)) (w64 (i_69 + 1)) (((a_70.set (0 + i_69.toNat) (⟨k_68, x_88.Word, x_88.Name⟩ : GTold)).set (0 + i_69.toNat) (⟨k_68, r_90, x_88.Name⟩ : GTold)).set (0 + i_69.toNat) (⟨k_68, r_90, r_93⟩ : GTold))
    else none
    else none
    else none
    else
    some (k_68, a_70)

def laws_markToldS (a_1 : (List GTold)) (k_2 : Int) : Option (Int × (List GTold)) :=
    (laws_markToldS_L1 FUEL k_2 0 a_1).bind fun p84 =>
    (match p84 with
    | (k_82, l_83) =>
    some (k_82, l_83))
theorem w_laws_markToldS (a_1 : (List GTold)) (k_2 : Int) (r : (Int × (List GTold))) (hf : laws_markToldS a_1 k_2 = some r) : CallHeap Try.prog ⟨true, true⟩ 39 [(.own 0 0 a_1.length), (.int .i64 k_2)] [.row 3 (a_1.map encGTold)] (.int .i64 r.1) [.row 3 (r.2.map encGTold)] := by
 refine CallHeap.of_awp mixed Try.func39 fc39_h0 nle ?_; rw [argT_eq]; unfold laws_markToldS at hf; unfold c39_h0; refine (show awp Try.prog ⟨true, true⟩ 1 _ (ofL [(0, (.own 0 0 a_1.length)), (1, (.int .i64 k_2))]) [.row 3 (a_1.map encGTold)] _ from ?_); refine awp_seq <| w_reg <| s_mov (.int .i64 0) rfl <| w_done <| k_seq <| awp_seq <| awp_seq <| w_reg <| s_mov (.int .i64 0) rfl <| w_done <| k_seq <| ?_
 obtain ⟨p84, hb1, hf⟩ := ob hf
 refine awp_cut ([(1, (.int .i64 p84.1))], [.row 3 (p84.2.map encGTold)]) ?_ ?_
 ·refine awp_loop (X := {q : (Nat × Int × Int × (List GTold)) // laws_markToldS_L1 q.1 q.2.1 q.2.2.1 q.2.2.2 = some p84}) (fun q => ([(0, (.own 0 0 q.1.2.2.2.length)), (1, (.int .i64 q.1.2.1)), (5, (.int .i64 q.1.2.2.1))], [.row 3 (q.1.2.2.2.map encGTold)])) (fun q => q.1.1) ⟨(FUEL, k_2, 0, a_1), hb1⟩ ⟨[], [0], _, _, rfl, rfl, ⟨.refl _, ⟨.refl _, ⟨.refl _, trivial⟩⟩⟩, (.refl _)⟩ ?_
  rintro ⟨⟨k, k_68, i_69, a_70⟩, hc1⟩
  have hc1 : laws_markToldS_L1 k k_68 i_69 a_70 = some p84 := hc1
  refine (show awp Try.prog ⟨true, true⟩ 1 _ (ofL [(0, (.own 0 0 a_70.length)), (1, (.int .i64 k_68)), (5, (.int .i64 i_69))]) [.row 3 (a_70.map encGTold)] _ from ?_)
  rcases k with _ | k
  ·rw [laws_markToldS_L1.eq_1] at hc1
   cases hc1
  ·rw [laws_markToldS_L1.eq_2] at hc1; refine awp_seq <| awp_seq <| w_reg <| s_mov (.int .i64 i_69) rfl <| s_mov (.own 0 0 a_70.length) rfl <| s_dof (o_lenown rfl rfl) fun hl85 => s_q (.bool (decide (i_69 < (a_70.length : Int)))) rfl (.of rfl trivial) rfl <| w_done <| k_seq <| ?_
   rcases oi hc1 with ⟨c86, hc1⟩ | ⟨c86, hc1⟩
   ·refine w_condt rfl c86 <| w_skip <| k_seq <| awp_seq <| w_blk <| awp_seq <| w_reg <| ?_
    obtain ⟨g87, hc1⟩ := og hc1
    obtain ⟨x_88, ex89, hc1⟩ := ob hc1
    refine s_mov (.own 0 0 a_70.length) rfl <| s_mov (.int .i64 i_69) rfl <| s_mov (.int .i64 k_68) rfl <| s_do (o_iaddrown rfl rfl g87.1 g87.2 rfl rfl) <| s_q (.ptr 0 (0 + i_69.toNat) 0) rfl (.of trivial trivial) rfl <| ?_; refine s_do0 (o_storerow (v' := (.int .i64 k_68)) (e' := (⟨k_68, x_88.Word, x_88.Name⟩ : GTold)) rfl rfl ex89 rfl rfl rfl (by decide) (fun _ => by decide) ⟨rfl, nle⟩ (.refl _) rfl) ?_; refine w_done <| k_seq <| awp_seq <| w_reg <| s_mov (.int .i64 k_68) rfl <| s_q (.int .i64 (w64 (k_68 + 1))) rfl (.of rfl trivial) rfl <| s_mov (.int .i64 (w64 (k_68 + 1))) rfl <| w_done <| k_seq <| awp_seq <| w_reg <| ?_
    obtain ⟨r_90, er91, hc1⟩ := ob hc1
    obtain ⟨g92, hc1⟩ := og hc1
    refine s_mov (.own 0 0 a_70.length) rfl <| s_mov (.int .i64 i_69) rfl <| s_mov (.int .i64 (w64 (k_68 + 1))) rfl <| s_do (o_call (w_laws_markText _ _ er91) rfl (.refl _) rfl) <| s_do (o_iaddrown rfl rfl g92.1 g92.2 rfl rfl) <| s_q (.ptr 0 (0 + i_69.toNat) 1) rfl (.of trivial trivial) rfl <| ?_; refine s_do0 (o_storerow (v' := (.str r_90)) (e' := (⟨k_68, r_90, x_88.Name⟩ : GTold)) rfl rfl (setget ex89) rfl rfl rfl (by decide) (fun _ => by decide) ⟨rfl, nle⟩ (.refl _) rfl) ?_; refine w_done <| k_seq <| awp_seq <| w_reg <| s_mov (.int .i64 (w64 (k_68 + 1))) rfl <| s_q (.int .i64 (w64 ((w64 (k_68 + 1)) + 1))) rfl (.of rfl trivial) rfl <| s_mov (.int .i64 (w64 ((w64 (k_68 + 1)) + 1))) rfl <| w_done <| k_seq <| awp_seq <| w_reg <| ?_
    obtain ⟨r_93, er94, hc1⟩ := ob hc1
    obtain ⟨g95, hc1⟩ := og hc1
    refine s_mov (.own 0 0 a_70.length) rfl <| s_mov (.int .i64 i_69) rfl <| s_mov (.int .i64 (w64 ((w64 (k_68 + 1)) + 1))) rfl <| s_do (o_call (w_laws_markText _ _ er94) rfl (.refl _) rfl) <| s_do (o_iaddrown rfl rfl g95.1 g95.2 rfl rfl) <| s_q (.ptr 0 (0 + i_69.toNat) 2) rfl (.of trivial trivial) rfl <| ?_; refine s_do0 (o_storerow (v' := (.str r_93)) (e' := (⟨k_68, r_90, r_93⟩ : GTold)) rfl rfl (setget (setget ex89)) rfl rfl rfl (by decide) (fun _ => by decide) ⟨rfl, nle⟩ (.refl _) rfl) ?_; refine w_done <| k_seq <| w_reg <| s_mov (.int .i64 (w64 ((w64 (k_68 + 1)) + 1))) rfl <| s_q (.int .i64 (w64 ((w64 ((w64 (k_68 + 1)) + 1)) + 1))) rfl (.of rfl trivial) rfl <| s_mov (.int .i64 (w64 ((w64 ((w64 (k_68 + 1)) + 1)) + 1))) rfl <| ?_
    refine w_done <| k_blk <| k_seq <| w_reg <| s_mov (.int .i64 i_69) rfl <| s_q (.int .i64 (w64 (i_69 + 1))) rfl (.of rfl trivial) rfl <| s_mov (.int .i64 (w64 (i_69 + 1))) rfl <| w_done <| ?_; exact k_loopn ⟨(k, w64 ((w64 ((w64 (k_68 + 1)) + 1)) + 1), w64 (i_69 + 1), ((a_70.set (0 + i_69.toNat) (⟨k_68, x_88.Word, x_88.Name⟩ : GTold)).set (0 + i_69.toNat) (⟨k_68, r_90, x_88.Name⟩ : GTold)).set (0 + i_69.toNat) (⟨k_68, r_90, r_93⟩ : GTold)), hc1⟩ (Nat.lt_succ_self _) ⟨[], [0], _, _, rfl, rfl, ⟨.of_eq (congrArg (AV.own _ 0) (by simp)), ⟨.refl _, ⟨.refl _, trivial⟩⟩⟩, (.refl _)⟩
   ·refine w_condf rfl (bf c86) <| w_exit <| k_seqx <| k_loopx <| k_blkx <| ?_; obtain rfl := os hc1; exact ⟨[], [0], _, _, rfl, rfl, ⟨.refl _, trivial⟩, (.refl _)⟩
 ·obtain ⟨k_82, l_83⟩ := p84
  refine awp_seq <| w_reg <| s_mov (.int .i64 k_82) rfl <| s_mov (.int .i64 k_82) rfl <| w_done <| k_seq <| w_ret <| ?_; obtain rfl := os hf; exact r_heap [] [0] rfl ⟨.of trivial trivial, trivial⟩ rfl (.refl _) (.refl _)

/- laws.heldIntS -/
def c115 : ACode :=
 (.seq (.reg (tm 4 (.c (.int .i64 0)) .done))
 (.seq (.seq (.reg (tm 5 (.c (.int .i64 0)) .done))
 (.block 0 (.loop (.seq (.seq (.reg (tm 6 (.t 5) (tm 7 (.t 0) (tq 8 (.len (.t 7)) (tq 9 (.bin .lss (.t 6) (.t 8)) .done)))))
 (.cond (.t 9) .skip
 (.exit 0)))
 (.seq (.block 1 (.seq (.seq (.reg (tm 12 (.t 0) (tm 13 (.t 5) (tq 14 (.iaddr 1 (.t 12) (.t 13)) (tq 15 (.load 1 false (.t 14)) (tm 16 (.t 1) (tq 17 (.bin .neq (.t 15) (.t 16)) .done)))))))
 (.cond (.t 17) (.seq (.reg (tq 4 (.mov (.c (.int .i64 (-1)))) .done))
 .ret)
 .skip))
 (.reg (tm 18 (.t 1) (tq 19 (.bin .add (.t 18) (.c (.int .i64 1))) (tm 1 (.t 19) .done))))))
 (.reg (tm 10 (.t 5) (tq 11 (.bin .add (.t 10) (.c (.int .i64 1))) (tm 5 (.t 11) .done)))))))))
 (.cut (.seq (.reg (tm 20 (.t 1) (tm 4 (.t 20) .done)))
 .ret))))
theorem fc115 : fcomp Try.prog Try.f115 = some (c115.erase, [.mov (.t 4)], 21) := by kernel_rfl
def laws_heldIntS_L1  : List Int → Int → Option (Fl Int Int)
  | [], k_15 =>
    some (.go k_15)
  | x_31 :: xs, k_15 =>
    if (x_31 != k_15) then
    some (.ret (-1))
    else
    laws_heldIntS_L1 xs (w64 (k_15 + 1)) 

def laws_heldIntS (a_1 : (List Int)) (k_2 : Int) : Option Int :=
    (laws_heldIntS_L1 a_1 k_2).bind fun q => (match q with
    | .ret r => some r
    | .go k_23 =>
    some k_23)
theorem w_laws_heldIntS (a_1 : (List Int)) (k_2 : Int) (r : Int) (hf : laws_heldIntS a_1 k_2 = some r) : CallOK Try.prog 115 .flat [(.lst 1 (a_1.map encI)), (.int .i64 k_2)] (.int .i64 r) := by
 refine CallOK.of_awp mixed Try.func115 fc115 nle ?_; rw [argT_eq]; unfold laws_heldIntS at hf; unfold c115; refine (show awp Try.prog false 0 _ (ofL [(0, (.lst 1 (a_1.map encI))), (1, (.int .i64 k_2))]) [] _ from ?_); refine awp_seq <| w_reg <| s_mov (.int .i64 0) rfl <| w_done <| k_seq <| awp_seq <| awp_seq <| w_reg <| s_mov (.int .i64 0) rfl <| w_done <| k_seq <| ?_
 obtain ⟨p24, hb1, hf⟩ := ob hf
 refine awp_cutx (X := {q : Int // p24 = .go q}) (fun q => ([(1, (.int .i64 q.1))], [])) ?_ ?_
 ·refine awp_loop (X := {q : (Int × Nat) // laws_heldIntS_L1 (a_1.drop q.2) q.1 = some p24}) (fun q => ([(0, (.lst 1 (a_1.map encI))), (1, (.int .i64 q.1.1)), (5, (.int .i64 (q.1.2 : Int)))], [])) (fun q => a_1.length - q.1.2) ⟨(k_2, 0), hb1⟩ ⟨[], [], _, _, rfl, rfl, ⟨.refl _, ⟨.refl _, ⟨.refl _, trivial⟩⟩⟩, (.refl _)⟩ ?_
  rintro ⟨⟨k_15, i_16⟩, hc1⟩
  have hc1 : laws_heldIntS_L1 (a_1.drop i_16) k_15 = some p24 := hc1
  refine (show awp Try.prog false 0 _ (ofL [(0, (.lst 1 (a_1.map encI))), (1, (.int .i64 k_15)), (5, (.int .i64 (i_16 : Int)))]) [] _ from ?_)
  rcases dropc a_1 i_16 with ⟨hie27, hd30⟩ | ⟨hlt25, x_31, hx26, hd30⟩
  ·rw [hd30, laws_heldIntS_L1.eq_1] at hc1
   have hq29 := dlf hie27
   refine awp_seq <| awp_seq <| w_reg <| s_mov (.int .i64 (i_16 : Int)) rfl <| s_mov (.lst 1 (a_1.map encI)) rfl <| s_dof (o_len (enc := encI) rfl) fun hl32 => s_q (.bool (decide ((i_16 : Int) < (a_1.length : Int)))) rfl rfl rfl <| w_done <| k_seq <| w_condf rfl hq29 <| w_exit <| k_seqx <| k_loopx <| k_blkx <| ?_; obtain rfl := os hc1; exact k_cutn ⟨_, rfl⟩ ⟨[], [], _, _, rfl, rfl, ⟨.refl _, trivial⟩, (.refl _)⟩
  ·rw [hd30, laws_heldIntS_L1.eq_2] at hc1
   have hq29 := dlt hlt25
   refine awp_seq <| awp_seq <| w_reg <| s_mov (.int .i64 (i_16 : Int)) rfl <| s_mov (.lst 1 (a_1.map encI)) rfl <| s_dof (o_len (enc := encI) rfl) fun hl33 => s_q (.bool (decide ((i_16 : Int) < (a_1.length : Int)))) rfl rfl rfl <| w_done <| k_seq <| w_condt rfl hq29 <| w_skip <| k_seq <| awp_seq <| w_blk <| awp_seq <| awp_seq <| w_reg <| s_mov (.lst 1 (a_1.map encI)) rfl <| s_mov (.int .i64 (i_16 : Int)) rfl <| s_do (o_iaddrn (enc := encI) rfl rfl hx26) <| s_q (.int .i64 x_31) rfl ⟨rfl, rfl⟩ rfl <| s_mov (.int .i64 k_15) rfl <| s_q (.bool (x_31 != k_15)) rfl rfl rfl <| w_done <| k_seq <| ?_
   rcases oi hc1 with ⟨c34, hc1⟩ | ⟨c34, hc1⟩
   ·refine w_condt rfl c34 <| awp_seq <| w_reg <| s_mov (.int .i64 (-1)) rfl <| w_done <| k_seq <| w_ret <| ?_; obtain rfl := os hc1; obtain rfl := os hf; exact r_flat ⟨trivial, trivial⟩ rfl (.refl _)
   ·refine w_condf rfl (bf c34) <| w_skip <| k_seq <| w_reg <| s_mov (.int .i64 k_15) rfl <| s_q (.int .i64 (w64 (k_15 + 1))) rfl rfl rfl <| s_mov (.int .i64 (w64 (k_15 + 1))) rfl <| w_done <| k_blk <| k_seq <| w_reg <| s_mov (.int .i64 (i_16 : Int)) rfl <| s_q (.int .i64 (w64 ((i_16 : Int) + 1))) rfl rfl rfl <| s_mov (.int .i64 (w64 ((i_16 : Int) + 1))) rfl <| w_done <| ?_; exact k_loopn ⟨(w64 (k_15 + 1), (i_16 + 1)), hc1⟩ (mul hlt25) ⟨[], [], _, _, rfl, rfl, ⟨.refl _, ⟨.refl _, ⟨.of_eq (congrArg (AV.int _) (w64_incr hlt25 hl33)), trivial⟩⟩⟩, (.refl _)⟩
 ·rintro ⟨k_23, rfl⟩
  refine awp_seq <| w_reg <| s_mov (.int .i64 k_23) rfl <| s_mov (.int .i64 k_23) rfl <| w_done <| k_seq <| w_ret <| ?_; obtain rfl := os hf; exact r_flat ⟨trivial, trivial⟩ rfl (.refl _)

/- laws.heldLockS -/
def c40 : ACode :=
 (.seq (.reg (tm 4 (.c (.int .i64 0)) .done))
 (.seq (.seq (.reg (tm 5 (.c (.int .i64 0)) .done))
 (.block 0 (.loop (.seq (.seq (.reg (tm 6 (.t 5) (tm 7 (.t 0) (tq 8 (.len (.t 7)) (tq 9 (.bin .lss (.t 6) (.t 8)) .done)))))
 (.cond (.t 9) .skip
 (.exit 0)))
 (.seq (.block 1 (.seq (.seq (.reg (tm 12 (.t 0) (tm 13 (.t 5) (tq 14 (.iaddr 2 (.t 12) (.t 13)) (tq 15 (.faddr 0 (.t 14)) (tq 16 (.load 1 false (.t 15)) (tm 17 (.t 1) (.l ⟨(some 18), none, .call 90 [(.t 17)]⟩ [⟨(some 16), none, .load 1 false (.t 15)⟩, ⟨(some 15), none, .faddr 0 (.t 14)⟩, ⟨(some 14), none, .iaddr 2 (.t 12) (.t 13)⟩]
 (tq 19 (.bin .neq (.t 16) (.t 18)) .done) .non))))))))
 (.cond (.t 19) (.seq (.reg (tq 4 (.mov (.c (.int .i64 (-1)))) .done))
 .ret)
 .skip))
 (.seq (.reg (tm 20 (.t 1) (tq 21 (.bin .add (.t 20) (.c (.int .i64 1))) (tm 1 (.t 21) .done))))
 (.seq (.reg (tm 22 (.t 0) (tm 23 (.t 5) (tq 24 (.iaddr 2 (.t 22) (.t 23)) (tq 25 (.faddr 1 (.t 24)) (tq 26 (.load 1 false (.t 25)) (tm 27 (.t 1) (tq 28 (.call 115 [(.t 26), (.t 27)]) (tm 1 (.t 28) .done)))))))))
 (.seq (.reg (tm 29 (.t 1) (tq 30 (.bin .lss (.t 29) (.c (.int .i64 0))) .done)))
 (.cond (.t 30) (.seq (.reg (tq 4 (.mov (.c (.int .i64 (-1)))) .done))
 .ret)
 .skip))))))
 (.reg (tm 10 (.t 5) (tq 11 (.bin .add (.t 10) (.c (.int .i64 1))) (tm 5 (.t 11) .done)))))))))
 (.cut (.seq (.reg (tm 31 (.t 1) (tm 4 (.t 31) .done)))
 .ret))))
theorem fc40 : fcomp Try.prog Try.f40 = some (c40.erase, [.mov (.t 4)], 32) := by kernel_rfl
def laws_heldLockS_L1  : List GLock → Int → Option (Fl Int Int)
  | [], k_29 =>
    some (.go k_29)
  | x_52 :: xs, k_29 =>
    (laws_markText k_29).bind fun r_55 =>
    if (!(x_52.Name == r_55)) then
    some (.ret (-1))
    else
    (laws_heldIntS x_52.Queue (w64 (k_29 + 1))).bind fun r_58 =>
    if (decide (r_58 < 0)) then
    some (.ret (-1))
    else
    laws_heldLockS_L1 xs r_58 

def laws_heldLockS (a_1 : (List GLock)) (k_2 : Int) : Option Int :=
    (laws_heldLockS_L1 a_1 k_2).bind fun q => (match q with
    | .ret r => some r
    | .go k_44 =>
    some k_44)
theorem w_laws_heldLockS (a_1 : (List GLock)) (k_2 : Int) (r : Int) (hf : laws_heldLockS a_1 k_2 = some r) : CallOK Try.prog 40 .flat [(.lst 2 (a_1.map encGLock)), (.int .i64 k_2)] (.int .i64 r) := by
 refine CallOK.of_awp mixed Try.func40 fc40 nle ?_; rw [argT_eq]; unfold laws_heldLockS at hf; unfold c40; refine (show awp Try.prog false 0 _ (ofL [(0, (.lst 2 (a_1.map encGLock))), (1, (.int .i64 k_2))]) [] _ from ?_); refine awp_seq <| w_reg <| s_mov (.int .i64 0) rfl <| w_done <| k_seq <| awp_seq <| awp_seq <| w_reg <| s_mov (.int .i64 0) rfl <| w_done <| k_seq <| ?_
 obtain ⟨p45, hb1, hf⟩ := ob hf
 refine awp_cutx (X := {q : Int // p45 = .go q}) (fun q => ([(1, (.int .i64 q.1))], [])) ?_ ?_
 ·refine awp_loop (X := {q : (Int × Nat) // laws_heldLockS_L1 (a_1.drop q.2) q.1 = some p45}) (fun q => ([(0, (.lst 2 (a_1.map encGLock))), (1, (.int .i64 q.1.1)), (5, (.int .i64 (q.1.2 : Int)))], [])) (fun q => a_1.length - q.1.2) ⟨(k_2, 0), hb1⟩ ⟨[], [], _, _, rfl, rfl, ⟨.refl _, ⟨.refl _, ⟨.refl _, trivial⟩⟩⟩, (.refl _)⟩ ?_
  rintro ⟨⟨k_29, i_30⟩, hc1⟩
  have hc1 : laws_heldLockS_L1 (a_1.drop i_30) k_29 = some p45 := hc1
  refine (show awp Try.prog false 0 _ (ofL [(0, (.lst 2 (a_1.map encGLock))), (1, (.int .i64 k_29)), (5, (.int .i64 (i_30 : Int)))]) [] _ from ?_)
  rcases dropc a_1 i_30 with ⟨hie48, hd51⟩ | ⟨hlt46, x_52, hx47, hd51⟩
  ·rw [hd51, laws_heldLockS_L1.eq_1] at hc1
   have hq50 := dlf hie48
   refine awp_seq <| awp_seq <| w_reg <| s_mov (.int .i64 (i_30 : Int)) rfl <| s_mov (.lst 2 (a_1.map encGLock)) rfl <| s_dof (o_len (enc := encGLock) rfl) fun hl53 => s_q (.bool (decide ((i_30 : Int) < (a_1.length : Int)))) rfl rfl rfl <| w_done <| k_seq <| w_condf rfl hq50 <| w_exit <| k_seqx <| k_loopx <| k_blkx <| ?_; obtain rfl := os hc1; exact k_cutn ⟨_, rfl⟩ ⟨[], [], _, _, rfl, rfl, ⟨.refl _, trivial⟩, (.refl _)⟩
  ·rw [hd51, laws_heldLockS_L1.eq_2] at hc1
   have hq50 := dlt hlt46
   refine awp_seq <| awp_seq <| w_reg <| s_mov (.int .i64 (i_30 : Int)) rfl <| s_mov (.lst 2 (a_1.map encGLock)) rfl <| s_dof (o_len (enc := encGLock) rfl) fun hl54 => s_q (.bool (decide ((i_30 : Int) < (a_1.length : Int)))) rfl rfl rfl <| w_done <| k_seq <| w_condt rfl hq50 <| w_skip <| k_seq <| awp_seq <| w_blk <| awp_seq <| awp_seq <| w_reg <| ?_
   obtain ⟨r_55, er56, hc1⟩ := ob hc1
   refine s_mov (.lst 2 (a_1.map encGLock)) rfl <| s_mov (.int .i64 (i_30 : Int)) rfl <| s_do (o_iaddrn (enc := encGLock) rfl rfl hx47) <| s_q (.iptr (encGLock x_52) 0) rfl trivial rfl <| s_q (.str x_52.Name) rfl nle rfl <| s_mov (.int .i64 k_29) rfl <| s_dol (o_call (w_laws_markText _ _ er56) rfl (.refl _) rfl) a_same trivial <| s_q (.bool (!(x_52.Name == r_55))) rfl trivial rfl <| w_done <| k_seq <| ?_
   rcases oi hc1 with ⟨c57, hc1⟩ | ⟨c57, hc1⟩
   ·refine w_condt rfl c57 <| awp_seq <| w_reg <| s_mov (.int .i64 (-1)) rfl <| w_done <| k_seq <| w_ret <| ?_; obtain rfl := os hc1; obtain rfl := os hf; exact r_flat ⟨trivial, trivial⟩ rfl (.refl _)
   ·refine w_condf rfl (bf c57) <| w_skip <| k_seq <| awp_seq <| w_reg <| s_mov (.int .i64 k_29) rfl <| s_q (.int .i64 (w64 (k_29 + 1))) rfl rfl rfl <| s_mov (.int .i64 (w64 (k_29 + 1))) rfl <| w_done <| k_seq <| awp_seq <| w_reg <| ?_
    obtain ⟨r_58, er59, hc1⟩ := ob hc1
    refine s_mov (.lst 2 (a_1.map encGLock)) rfl <| s_mov (.int .i64 (i_30 : Int)) rfl <| s_do (o_iaddrn (enc := encGLock) rfl rfl hx47) <| s_q (.iptr (encGLock x_52) 1) rfl trivial rfl <| s_q (.lst 1 (x_52.Queue.map encI)) rfl nle rfl <| s_mov (.int .i64 (w64 (k_29 + 1))) rfl <| s_do (o_call (w_laws_heldIntS _ _ _ er59) rfl (.refl _) rfl) <| s_mov (.int .i64 r_58) rfl <| w_done <| k_seq <| awp_seq <| w_reg <| s_mov (.int .i64 r_58) rfl <| s_q (.bool (decide (r_58 < 0))) rfl rfl rfl <| w_done <| k_seq <| ?_
    rcases oi hc1 with ⟨c60, hc1⟩ | ⟨c60, hc1⟩
    ·refine w_condt rfl c60 <| awp_seq <| w_reg <| s_mov (.int .i64 (-1)) rfl <| w_done <| k_seq <| w_ret <| ?_; obtain rfl := os hc1; obtain rfl := os hf; exact r_flat ⟨trivial, trivial⟩ rfl (.refl _)
    ·refine w_condf rfl (bf c60) <| w_skip <| k_blk <| k_seq <| w_reg <| s_mov (.int .i64 (i_30 : Int)) rfl <| s_q (.int .i64 (w64 ((i_30 : Int) + 1))) rfl rfl rfl <| s_mov (.int .i64 (w64 ((i_30 : Int) + 1))) rfl <| w_done <| ?_; exact k_loopn ⟨(r_58, (i_30 + 1)), hc1⟩ (mul hlt46) ⟨[], [], _, _, rfl, rfl, ⟨.refl _, ⟨.refl _, ⟨.of_eq (congrArg (AV.int _) (w64_incr hlt46 hl54)), trivial⟩⟩⟩, (.refl _)⟩
 ·rintro ⟨k_44, rfl⟩
  refine awp_seq <| w_reg <| s_mov (.int .i64 k_44) rfl <| s_mov (.int .i64 k_44) rfl <| w_done <| k_seq <| w_ret <| ?_; obtain rfl := os hf; exact r_flat ⟨trivial, trivial⟩ rfl (.refl _)

/- laws.heldToldS -/
def c41 : ACode :=
 (.seq (.reg (tm 4 (.c (.int .i64 0)) .done))
 (.seq (.seq (.reg (tm 5 (.c (.int .i64 0)) .done))
 (.block 0 (.loop (.seq (.seq (.reg (tm 6 (.t 5) (tm 7 (.t 0) (tq 8 (.len (.t 7)) (tq 9 (.bin .lss (.t 6) (.t 8)) .done)))))
 (.cond (.t 9) .skip
 (.exit 0)))
 (.seq (.block 1 (.seq (.seq (.reg (tm 12 (.t 0) (tm 13 (.t 5) (tq 14 (.iaddr 3 (.t 12) (.t 13)) (tq 15 (.faddr 0 (.t 14)) (tq 16 (.load 1 false (.t 15)) (tm 17 (.t 1) (tq 18 (.bin .neq (.t 16) (.t 17)) .done))))))))
 (.cond (.t 18) (.seq (.reg (tq 4 (.mov (.c (.int .i64 (-1)))) .done))
 .ret)
 .skip))
 (.seq (.reg (tm 19 (.t 1) (tq 20 (.bin .add (.t 19) (.c (.int .i64 1))) (tm 1 (.t 20) .done))))
 (.seq (.seq (.reg (tm 21 (.t 0) (tm 22 (.t 5) (tq 23 (.iaddr 3 (.t 21) (.t 22)) (tq 24 (.faddr 1 (.t 23)) (tq 25 (.load 1 false (.t 24)) (tm 26 (.t 1) (.l ⟨(some 27), none, .call 90 [(.t 26)]⟩ [⟨(some 25), none, .load 1 false (.t 24)⟩, ⟨(some 24), none, .faddr 1 (.t 23)⟩, ⟨(some 23), none, .iaddr 3 (.t 21) (.t 22)⟩]
 (tq 28 (.bin .neq (.t 25) (.t 27)) .done) .non))))))))
 (.cond (.t 28) (.seq (.reg (tq 4 (.mov (.c (.int .i64 (-1)))) .done))
 .ret)
 .skip))
 (.seq (.reg (tm 29 (.t 1) (tq 30 (.bin .add (.t 29) (.c (.int .i64 1))) (tm 1 (.t 30) .done))))
 (.seq (.seq (.reg (tm 31 (.t 0) (tm 32 (.t 5) (tq 33 (.iaddr 3 (.t 31) (.t 32)) (tq 34 (.faddr 2 (.t 33)) (tq 35 (.load 1 false (.t 34)) (tm 36 (.t 1) (.l ⟨(some 37), none, .call 90 [(.t 36)]⟩ [⟨(some 35), none, .load 1 false (.t 34)⟩, ⟨(some 34), none, .faddr 2 (.t 33)⟩, ⟨(some 33), none, .iaddr 3 (.t 31) (.t 32)⟩]
 (tq 38 (.bin .neq (.t 35) (.t 37)) .done) .non))))))))
 (.cond (.t 38) (.seq (.reg (tq 4 (.mov (.c (.int .i64 (-1)))) .done))
 .ret)
 .skip))
 (.reg (tm 39 (.t 1) (tq 40 (.bin .add (.t 39) (.c (.int .i64 1))) (tm 1 (.t 40) .done))))))))))
 (.reg (tm 10 (.t 5) (tq 11 (.bin .add (.t 10) (.c (.int .i64 1))) (tm 5 (.t 11) .done)))))))))
 (.cut (.seq (.reg (tm 41 (.t 1) (tm 4 (.t 41) .done)))
 .ret))))
theorem fc41 : fcomp Try.prog Try.f41 = some (c41.erase, [.mov (.t 4)], 42) := by kernel_rfl
def laws_heldToldS_L1  : List GTold → Int → Option (Fl Int Int)
  | [], k_35 =>
    some (.go k_35)
  | x_61 :: xs, k_35 =>
    if (x_61.Session != k_35) then
    some (.ret (-1))
    else
    (laws_markText (w64 (k_35 + 1))).bind fun r_65 =>
    if (!(x_61.Word == r_65)) then
    some (.ret (-1))
    else
    (laws_markText (w64 ((w64 (k_35 + 1)) + 1))).bind fun r_68 =>
    if (!(x_61.Name == r_68)) then
    some (.ret (-1))
    else
    laws_heldToldS_L1 xs (w64 ((w64 ((w64 (k_35 + 1)) + 1)) + 1)) 

def laws_heldToldS (a_1 : (List GTold)) (k_2 : Int) : Option Int :=
    (laws_heldToldS_L1 a_1 k_2).bind fun q => (match q with
    | .ret r => some r
    | .go k_53 =>
    some k_53)
theorem w_laws_heldToldS (a_1 : (List GTold)) (k_2 : Int) (r : Int) (hf : laws_heldToldS a_1 k_2 = some r) : CallOK Try.prog 41 .flat [(.lst 3 (a_1.map encGTold)), (.int .i64 k_2)] (.int .i64 r) := by
 refine CallOK.of_awp mixed Try.func41 fc41 nle ?_; rw [argT_eq]; unfold laws_heldToldS at hf; unfold c41; refine (show awp Try.prog false 0 _ (ofL [(0, (.lst 3 (a_1.map encGTold))), (1, (.int .i64 k_2))]) [] _ from ?_); refine awp_seq <| w_reg <| s_mov (.int .i64 0) rfl <| w_done <| k_seq <| awp_seq <| awp_seq <| w_reg <| s_mov (.int .i64 0) rfl <| w_done <| k_seq <| ?_
 obtain ⟨p54, hb1, hf⟩ := ob hf
 refine awp_cutx (X := {q : Int // p54 = .go q}) (fun q => ([(1, (.int .i64 q.1))], [])) ?_ ?_
 ·refine awp_loop (X := {q : (Int × Nat) // laws_heldToldS_L1 (a_1.drop q.2) q.1 = some p54}) (fun q => ([(0, (.lst 3 (a_1.map encGTold))), (1, (.int .i64 q.1.1)), (5, (.int .i64 (q.1.2 : Int)))], [])) (fun q => a_1.length - q.1.2) ⟨(k_2, 0), hb1⟩ ⟨[], [], _, _, rfl, rfl, ⟨.refl _, ⟨.refl _, ⟨.refl _, trivial⟩⟩⟩, (.refl _)⟩ ?_
  rintro ⟨⟨k_35, i_36⟩, hc1⟩
  have hc1 : laws_heldToldS_L1 (a_1.drop i_36) k_35 = some p54 := hc1
  refine (show awp Try.prog false 0 _ (ofL [(0, (.lst 3 (a_1.map encGTold))), (1, (.int .i64 k_35)), (5, (.int .i64 (i_36 : Int)))]) [] _ from ?_)
  rcases dropc a_1 i_36 with ⟨hie57, hd60⟩ | ⟨hlt55, x_61, hx56, hd60⟩
  ·rw [hd60, laws_heldToldS_L1.eq_1] at hc1
   have hq59 := dlf hie57
   refine awp_seq <| awp_seq <| w_reg <| s_mov (.int .i64 (i_36 : Int)) rfl <| s_mov (.lst 3 (a_1.map encGTold)) rfl <| s_dof (o_len (enc := encGTold) rfl) fun hl62 => s_q (.bool (decide ((i_36 : Int) < (a_1.length : Int)))) rfl rfl rfl <| w_done <| k_seq <| w_condf rfl hq59 <| w_exit <| k_seqx <| k_loopx <| k_blkx <| ?_; obtain rfl := os hc1; exact k_cutn ⟨_, rfl⟩ ⟨[], [], _, _, rfl, rfl, ⟨.refl _, trivial⟩, (.refl _)⟩
  ·rw [hd60, laws_heldToldS_L1.eq_2] at hc1
   have hq59 := dlt hlt55
   refine awp_seq <| awp_seq <| w_reg <| s_mov (.int .i64 (i_36 : Int)) rfl <| s_mov (.lst 3 (a_1.map encGTold)) rfl <| s_dof (o_len (enc := encGTold) rfl) fun hl63 => s_q (.bool (decide ((i_36 : Int) < (a_1.length : Int)))) rfl rfl rfl <| w_done <| k_seq <| w_condt rfl hq59 <| w_skip <| k_seq <| awp_seq <| w_blk <| awp_seq <| awp_seq <| w_reg <| s_mov (.lst 3 (a_1.map encGTold)) rfl <| s_mov (.int .i64 (i_36 : Int)) rfl <| s_do (o_iaddrn (enc := encGTold) rfl rfl hx56) <| s_q (.iptr (encGTold x_61) 0) rfl trivial rfl <| s_q (.int .i64 x_61.Session) rfl nle rfl <| s_mov (.int .i64 k_35) rfl <| s_q (.bool (x_61.Session != k_35)) rfl rfl rfl <| w_done <| k_seq <| ?_
   rcases oi hc1 with ⟨c64, hc1⟩ | ⟨c64, hc1⟩
   ·refine w_condt rfl c64 <| awp_seq <| w_reg <| s_mov (.int .i64 (-1)) rfl <| w_done <| k_seq <| w_ret <| ?_; obtain rfl := os hc1; obtain rfl := os hf; exact r_flat ⟨trivial, trivial⟩ rfl (.refl _)
   ·refine w_condf rfl (bf c64) <| w_skip <| k_seq <| awp_seq <| w_reg <| s_mov (.int .i64 k_35) rfl <| s_q (.int .i64 (w64 (k_35 + 1))) rfl rfl rfl <| s_mov (.int .i64 (w64 (k_35 + 1))) rfl <| w_done <| k_seq <| awp_seq <| awp_seq <| w_reg <| ?_
    obtain ⟨r_65, er66, hc1⟩ := ob hc1
    refine s_mov (.lst 3 (a_1.map encGTold)) rfl <| s_mov (.int .i64 (i_36 : Int)) rfl <| s_do (o_iaddrn (enc := encGTold) rfl rfl hx56) <| s_q (.iptr (encGTold x_61) 1) rfl trivial rfl <| s_q (.str x_61.Word) rfl nle rfl <| s_mov (.int .i64 (w64 (k_35 + 1))) rfl <| s_dol (o_call (w_laws_markText _ _ er66) rfl (.refl _) rfl) a_same trivial <| s_q (.bool (!(x_61.Word == r_65))) rfl trivial rfl <| w_done <| k_seq <| ?_
    rcases oi hc1 with ⟨c67, hc1⟩ | ⟨c67, hc1⟩
    ·refine w_condt rfl c67 <| awp_seq <| w_reg <| s_mov (.int .i64 (-1)) rfl <| w_done <| k_seq <| w_ret <| ?_; obtain rfl := os hc1; obtain rfl := os hf; exact r_flat ⟨trivial, trivial⟩ rfl (.refl _)
    ·refine w_condf rfl (bf c67) <| w_skip <| k_seq <| awp_seq <| w_reg <| s_mov (.int .i64 (w64 (k_35 + 1))) rfl <| s_q (.int .i64 (w64 ((w64 (k_35 + 1)) + 1))) rfl rfl rfl <| s_mov (.int .i64 (w64 ((w64 (k_35 + 1)) + 1))) rfl <| w_done <| k_seq <| awp_seq <| awp_seq <| w_reg <| ?_
     obtain ⟨r_68, er69, hc1⟩ := ob hc1
     refine s_mov (.lst 3 (a_1.map encGTold)) rfl <| s_mov (.int .i64 (i_36 : Int)) rfl <| s_do (o_iaddrn (enc := encGTold) rfl rfl hx56) <| s_q (.iptr (encGTold x_61) 2) rfl trivial rfl <| s_q (.str x_61.Name) rfl nle rfl <| s_mov (.int .i64 (w64 ((w64 (k_35 + 1)) + 1))) rfl <| s_dol (o_call (w_laws_markText _ _ er69) rfl (.refl _) rfl) a_same trivial <| s_q (.bool (!(x_61.Name == r_68))) rfl trivial rfl <| w_done <| k_seq <| ?_
     rcases oi hc1 with ⟨c70, hc1⟩ | ⟨c70, hc1⟩
     ·refine w_condt rfl c70 <| awp_seq <| w_reg <| s_mov (.int .i64 (-1)) rfl <| w_done <| k_seq <| w_ret <| ?_; obtain rfl := os hc1; obtain rfl := os hf; exact r_flat ⟨trivial, trivial⟩ rfl (.refl _)
     ·refine w_condf rfl (bf c70) <| w_skip <| k_seq <| w_reg <| s_mov (.int .i64 (w64 ((w64 (k_35 + 1)) + 1))) rfl <| s_q (.int .i64 (w64 ((w64 ((w64 (k_35 + 1)) + 1)) + 1))) rfl rfl rfl <| s_mov (.int .i64 (w64 ((w64 ((w64 (k_35 + 1)) + 1)) + 1))) rfl <| w_done <| k_blk <| k_seq <| w_reg <| s_mov (.int .i64 (i_36 : Int)) rfl <| s_q (.int .i64 (w64 ((i_36 : Int) + 1))) rfl rfl rfl <| s_mov (.int .i64 (w64 ((i_36 : Int) + 1))) rfl <| w_done <| ?_; exact k_loopn ⟨(w64 ((w64 ((w64 (k_35 + 1)) + 1)) + 1), (i_36 + 1)), hc1⟩ (mul hlt55) ⟨[], [], _, _, rfl, rfl, ⟨.refl _, ⟨.refl _, ⟨.of_eq (congrArg (AV.int _) (w64_incr hlt55 hl63)), trivial⟩⟩⟩, (.refl _)⟩
 ·rintro ⟨k_53, rfl⟩
  refine awp_seq <| w_reg <| s_mov (.int .i64 k_53) rfl <| s_mov (.int .i64 k_53) rfl <| w_done <| k_seq <| w_ret <| ?_; obtain rfl := os hf; exact r_flat ⟨trivial, trivial⟩ rfl (.refl _)

/- laws.FnExactLeaveAll -/
def c6 : ACode :=
 (.seq (.reg (tm 4 (.c (.bool false)) .done))
 (.seq (.reg (tm 5 (.c (.int .i64 1048576)) .done))
 (.seq (.reg (tm 19 (.t 0) (tm 20 (.t 5) (tq 21 (.call 32 [(.t 19), (.t 20)]) (tm 5 (.t 21) .done)))))
 (.seq (.seq (.reg (tm 22 (.t 5) (tq 23 (.bin .lss (.t 22) (.c (.int .i64 0))) .done)))
 (.cond (.t 23) (.seq (.reg (tm 4 (.c (.bool true)) .done))
 .ret)
 .skip))
 (.seq (.reg (tm 25 (.t 0) (tq 26 (.call 34 [(.t 25)]) (tm 27 (.t 1) (tq 28 (.call 28 [(.t 26), (.t 27)]) (tm 24 (.t 28) (tq 29 (.extract 0 (.t 24)) (tq 30 (.extract 1 (.t 24)) (tq 31 (.extract 2 (.t 24)) (tm 6 (.t 29) (tm 7 (.t 30) (tm 8 (.t 31) .done))))))))))))
 (.seq (.reg (tm 32 (.t 0) (tq 33 (.call 34 [(.t 32)]) (tm 9 (.t 33) .done))))
 (.seq (.reg (tm 35 (.t 9) (tm 36 (.t 1) (tq 37 (.call 27 [(.t 35), (.t 36)]) (tm 34 (.t 37) (tq 38 (.extract 0 (.t 34)) (tq 39 (.extract 1 (.t 34)) (tq 40 (.extract 2 (.t 34)) (tm 10 (.t 38) (tm 11 (.t 39) (tm 12 (.t 40) .done)))))))))))
 (.seq (.seq (.reg (tm 41 (.t 10) (tm 42 (.t 6) (tq 43 (.call 36 [(.t 41), (.t 42)]) (tq 44 (.not (.t 43)) (tm 45 (.t 44) (tg 46 45 false (.mov (.t 11)) (tg 47 45 false (.mov (.t 7)) (tg 48 45 false (.call 37 [(.t 46), (.t 47)]) (tg 49 45 false (.not (.t 48)) (tq 50 (.pick (.t 45) (.c (.bool true)) (.t 49)) (tm 51 (.t 50) (tg 52 51 false (.mov (.t 12)) (tg 53 51 false (.mov (.t 8)) (tg 54 51 false (.bin .neq (.t 52) (.t 53)) (tq 55 (.pick (.t 51) (.c (.bool true)) (.t 54)) .done))))))))))))))))
 (.cut (.cond (.t 55) (.seq (.reg (tm 4 (.c (.bool false)) .done))
 .ret)
 .skip)))
 (.seq (.seq (.reg (tm 56 (.t 9) (tm 57 (.t 0) (tq 58 (.call 34 [(.t 57)]) (tq 59 (.call 36 [(.t 56), (.t 58)]) (tq 60 (.not (.t 59)) .done))))))
 (.cond (.t 60) (.seq (.reg (tm 4 (.c (.bool false)) .done))
 .ret)
 .skip))
 (.seq (.reg (tm 13 (.c (.int .i64 1)) .done))
 (.seq (.reg (tm 61 (.t 9) (tm 62 (.t 13) (tq 63 (.call 38 [(.t 61), (.t 62)]) (tm 13 (.t 63) .done)))))
 (.seq (.seq (.reg (tm 64 (.t 13) (tq 65 (.bin .lss (.t 64) (.c (.int .i64 0))) (tm 66 (.t 65) (tg 67 66 false (.mov (.t 10)) (tg 68 66 false (.mov (.t 6)) (tg 69 66 false (.call 36 [(.t 67), (.t 68)]) (tg 70 66 false (.not (.t 69)) (tq 71 (.pick (.t 66) (.c (.bool true)) (.t 70)) (tm 72 (.t 71) (tg 73 72 false (.mov (.t 11)) (tg 74 72 false (.mov (.t 7)) (tg 75 72 false (.call 37 [(.t 73), (.t 74)]) (tg 76 72 false (.not (.t 75)) (tq 77 (.pick (.t 72) (.c (.bool true)) (.t 76)) (tm 78 (.t 77) (tg 79 78 false (.mov (.t 12)) (tg 80 78 false (.mov (.t 8)) (tg 81 78 false (.bin .neq (.t 79) (.t 80)) (tq 82 (.pick (.t 78) (.c (.bool true)) (.t 81)) .done))))))))))))))))))))
 (.cut (.cond (.t 82) (.seq (.reg (tm 4 (.c (.bool false)) .done))
 .ret)
 .skip)))
 (.seq (.reg (tm 14 (.c (.int .i64 1)) .done))
 (.seq (.reg (tm 83 (.t 10) (tm 84 (.t 14) (tq 85 (.call 38 [(.t 83), (.t 84)]) (tm 14 (.t 85) .done)))))
 (.seq (.reg (tm 86 (.t 11) (tm 87 (.t 14) (tq 88 (.call 39 [(.t 86), (.t 87)]) (tm 14 (.t 88) .done)))))
 (.seq (.reg (tm 15 (.c (.int .i64 1)) .done))
 (.seq (.reg (tm 89 (.t 10) (tm 90 (.t 15) (tq 91 (.call 40 [(.t 89), (.t 90)]) (tm 15 (.t 91) .done)))))
 (.seq (.seq (.reg (tm 92 (.t 15) (tq 93 (.bin .lss (.t 92) (.c (.int .i64 0))) .done)))
 (.cond (.t 93) (.seq (.reg (tm 4 (.c (.bool false)) .done))
 .ret)
 .skip))
 (.seq (.reg (tm 94 (.t 11) (tm 95 (.t 15) (tq 96 (.call 41 [(.t 94), (.t 95)]) (tm 15 (.t 96) .done)))))
 (.seq (.seq (.reg (tm 97 (.t 15) (tq 98 (.bin .lss (.t 97) (.c (.int .i64 0))) .done)))
 (.cond (.t 98) (.seq (.reg (tm 4 (.c (.bool false)) .done))
 .ret)
 .skip))
 (.seq (.seq (.reg (tm 99 (.t 15) (tm 100 (.t 14) (tq 101 (.bin .neq (.t 99) (.t 100)) .done))))
 (.cond (.t 101) (.seq (.reg (tm 4 (.c (.bool false)) .done))
 .ret)
 .skip))
 (.seq (.reg (tm 103 (.t 0) (tq 104 (.call 34 [(.t 103)]) (tm 105 (.t 1) (tq 106 (.call 27 [(.t 104), (.t 105)]) (tm 102 (.t 106) (tq 107 (.extract 0 (.t 102)) (tq 108 (.extract 1 (.t 102)) (tq 109 (.extract 2 (.t 102)) (tm 16 (.t 107) (tm 17 (.t 108) (tm 18 (.t 109) .done))))))))))))
 (.seq (.seq (.reg (tm 110 (.t 16) (tm 111 (.t 6) (tq 112 (.call 36 [(.t 110), (.t 111)]) (tq 113 (.not (.t 112)) (tm 114 (.t 113) (tg 115 114 false (.mov (.t 17)) (tg 116 114 false (.mov (.t 7)) (tg 117 114 false (.call 37 [(.t 115), (.t 116)]) (tg 118 114 false (.not (.t 117)) (tq 119 (.pick (.t 114) (.c (.bool true)) (.t 118)) (tm 120 (.t 119) (tg 121 120 false (.mov (.t 18)) (tg 122 120 false (.mov (.t 8)) (tg 123 120 false (.bin .neq (.t 121) (.t 122)) (tq 124 (.pick (.t 120) (.c (.bool true)) (.t 123)) .done))))))))))))))))
 (.cut (.cond (.t 124) (.seq (.reg (tm 4 (.c (.bool false)) .done))
 .ret)
 .skip)))
 (.seq (.reg (tm 15 (.c (.int .i64 1)) .done))
 (.seq (.reg (tm 125 (.t 10) (tm 126 (.t 15) (tq 127 (.call 40 [(.t 125), (.t 126)]) (tm 15 (.t 127) .done)))))
 (.seq (.seq (.reg (tm 128 (.t 15) (tq 129 (.bin .lss (.t 128) (.c (.int .i64 0))) .done)))
 (.cond (.t 129) (.seq (.reg (tm 4 (.c (.bool false)) .done))
 .ret)
 .skip))
 (.seq (.reg (tm 130 (.t 11) (tm 131 (.t 15) (tq 132 (.call 41 [(.t 130), (.t 131)]) (tm 15 (.t 132) .done)))))
 (.seq (.seq (.reg (tm 133 (.t 15) (tq 134 (.bin .lss (.t 133) (.c (.int .i64 0))) .done)))
 (.cond (.t 134) (.seq (.reg (tm 4 (.c (.bool false)) .done))
 .ret)
 .skip))
 (.seq (.seq (.reg (tm 135 (.t 15) (tm 136 (.t 14) (tq 137 (.bin .neq (.t 135) (.t 136)) .done))))
 (.cond (.t 137) (.seq (.reg (tm 4 (.c (.bool false)) .done))
 .ret)
 .skip))
 (.seq (.reg (tm 4 (.c (.bool true)) .done))
 .ret))))))))))))))))))))))))))))))
theorem fc6 : fcomp Try.prog Try.f6 = some (c6.erase, [.mov (.t 4)], 138) := by kernel_rfl
def laws_FnExactLeaveAll (aList_1 : (List GLock)) (aSession_2 : Int) : Option Bool :=
    (laws_szLockS aList_1 1048576).bind fun r_3 =>
    if (decide (r_3 < 0)) then
    some true
    else
    (laws_toLockS aList_1).bind fun r_6 =>
    (spec_LeaveAll r_6 aSession_2).bind fun r_8 =>
    (laws_toLockS aList_1).bind fun r_10 =>
    (impl_LeaveAll r_10 aSession_2).bind fun r_12 =>
    (((laws_eqLockS r_12.1 r_8.1).bind fun r_21 =>
    if (!r_21) then
    some true
    else
    (laws_eqToldS r_12.2.1 r_8.2.1).bind fun r_24 =>
    some (bif (!r_24) then true else (r_12.2.2 != r_8.2.2)) : Option Bool)).bind fun s55_19 =>
    if s55_19 then
    some false
    else
    (laws_toLockS aList_1).bind fun r_27 =>
    (laws_eqLockS r_10 r_27).bind fun r_29 =>
    if (!r_29) then
    some false
    else
    (laws_markLockS r_10 1).bind fun r_32 =>
    ((if (decide (r_32.1 < 0)) then
    some true
    else
    (laws_eqLockS r_12.1 r_8.1).bind fun r_44 =>
    if (!r_44) then
    some true
    else
    (laws_eqToldS r_12.2.1 r_8.2.1).bind fun r_47 =>
    some (bif (!r_47) then true else (r_12.2.2 != r_8.2.2)) : Option Bool)).bind fun s82_41 =>
    if s82_41 then
    some false
    else
    (laws_markLockS r_12.1 1).bind fun r_50 =>
    (laws_markToldS r_12.2.1 r_50.1).bind fun r_53 =>
    (laws_heldLockS r_50.2 1).bind fun r_56 =>
    if (decide (r_56 < 0)) then
    some false
    else
    (laws_heldToldS r_53.2 r_56).bind fun r_59 =>
    if (decide (r_59 < 0)) then
    some false
    else
    if (r_59 != r_53.1) then
    some false
    else
    (laws_toLockS aList_1).bind fun r_63 =>
    (impl_LeaveAll r_63 aSession_2).bind fun r_65 =>
    (((laws_eqLockS r_65.1 r_8.1).bind fun r_74 =>
    if (!r_74) then
    some true
    else
    (laws_eqToldS r_65.2.1 r_8.2.1).bind fun r_77 =>
    some (bif (!r_77) then true else (r_65.2.2 != r_8.2.2)) : Option Bool)).bind fun s124_72 =>
    if s124_72 then
    some false
    else
    (laws_heldLockS r_50.2 1).bind fun r_80 =>
    if (decide (r_80 < 0)) then
    some false
    else
    (laws_heldToldS r_53.2 r_80).bind fun r_83 =>
    if (decide (r_83 < 0)) then
    some false
    else
    if (r_83 != r_53.1) then
    some false
    else
    some true
theorem w_laws_FnExactLeaveAll (aList_1 : (List GLock)) (aSession_2 : Int) (r : Bool) (hf : laws_FnExactLeaveAll aList_1 aSession_2 = some r) : CallOK Try.prog 6 .flat [(.lst 2 (aList_1.map encGLock)), (.int .i64 aSession_2)] (.bool r) := by
 refine CallOK.of_awp' (md := ⟨true, true⟩) (fun _ => rfl) (fun _ => rfl) (fun h => by cases h) mixed Try.func6 fc6 nle ?_; rw [argT_eq]; unfold laws_FnExactLeaveAll at hf; unfold c6; refine (show awp Try.prog ⟨true, true⟩ 0 _ (ofL [(0, (.lst 2 (aList_1.map encGLock))), (1, (.int .i64 aSession_2))]) [] _ from ?_); refine awp_seq <| w_reg <| s_mov (.bool false) rfl <| w_done <| k_seq <| awp_seq <| w_reg <| s_mov (.int .i64 1048576) rfl <| w_done <| k_seq <| awp_seq <| w_reg <| ?_
 obtain ⟨r_3, er4, hf⟩ := ob hf
 refine s_mov (.lst 2 (aList_1.map encGLock)) rfl <| s_mov (.int .i64 1048576) rfl <| s_do (o_call (w_laws_szLockS _ _ _ er4) rfl (.refl _) rfl) <| s_mov (.int .i64 r_3) rfl <| w_done <| k_seq <| awp_seq <| awp_seq <| w_reg <| s_mov (.int .i64 r_3) rfl <| s_q (.bool (decide (r_3 < 0))) rfl (.of rfl trivial) rfl <| w_done <| k_seq <| ?_
 rcases oi hf with ⟨c5, hf⟩ | ⟨c5, hf⟩
 ·refine w_condt rfl c5 <| awp_seq <| w_reg <| s_mov (.bool true) rfl <| w_done <| k_seq <| w_ret <| ?_; obtain rfl := os hf; exact r_flat ⟨.of trivial trivial, trivial⟩ rfl (.refl _)
 ·refine w_condf rfl (bf c5) <| w_skip <| k_seq <| awp_seq <| w_reg <| ?_
  obtain ⟨r_6, er7, hf⟩ := ob hf
  obtain ⟨r_8, er9, hf⟩ := ob hf
  refine s_mov (.lst 2 (aList_1.map encGLock)) rfl <| s_do (o_callf (v := (.own 0 0 r_6.length)) (h' := [.row 2 (r_6.map encGLock)]) (w_laws_toLockS _ _ er7) rfl (.refl _) (by simp only [openV, openVs, List.length_map, List.nil_append, List.append_nil, List.cons_append]; rfl)) <| s_mov (.int .i64 aSession_2) rfl <| s_do (o_callf (v := (.tup [(.own 1 0 r_8.1.length), (.own 2 0 r_8.2.1.length), (.int .i64 r_8.2.2)])) (h' := [.row 2 (r_8.1.map encGLock), .row 3 (r_8.2.1.map encGTold)]) (w_spec_LeaveAll _ _ _ er9) rfl (.cons (.of_eq (congrArg (AV.lst _) (tko r_6))) (.cons (.refl _) .nil)) (by simp only [openV, openVs, List.length_map, List.nil_append, List.append_nil, List.cons_append]; rfl)) <| s_mov (.tup [(.own 1 0 r_8.1.length), (.own 2 0 r_8.2.1.length), (.int .i64 r_8.2.2)]) rfl <| ?_
  refine s_q (.own 1 0 r_8.1.length) rfl (.of nle trivial) rfl <| s_q (.own 2 0 r_8.2.1.length) rfl (.of nle trivial) rfl <| s_q (.int .i64 r_8.2.2) rfl (.of nle trivial) rfl <| s_mov (.own 1 0 r_8.1.length) rfl <| s_mov (.own 2 0 r_8.2.1.length) rfl <| s_mov (.int .i64 r_8.2.2) rfl <| w_done <| k_seq <| awp_seq <| w_reg <| ?_
  obtain ⟨r_10, er11, hf⟩ := ob hf
  refine s_mov (.lst 2 (aList_1.map encGLock)) rfl <| s_do (o_callf (v := (.own 3 0 r_10.length)) (h' := [.row 2 (r_10.map encGLock)]) (w_laws_toLockS _ _ er11) rfl (.refl _) (by simp only [openV, openVs, List.length_map, List.nil_append, List.append_nil, List.cons_append]; rfl)) <| s_mov (.own 3 0 r_10.length) rfl <| w_done <| k_seq <| awp_seq <| w_reg <| ?_
  obtain ⟨r_12, er13, hf⟩ := ob hf
  refine s_mov (.own 3 0 r_10.length) rfl <| s_mov (.int .i64 aSession_2) rfl <| s_do (o_callf (v := (.tup [(.own 4 0 r_12.1.length), (.own 5 0 r_12.2.1.length), (.int .i64 r_12.2.2)])) (h' := [.row 2 (r_12.1.map encGLock), .row 3 (r_12.2.1.map encGTold)]) (w_impl_LeaveAll _ _ _ er13) rfl (.cons (.of_eq (congrArg (AV.lst _) (tko r_10))) (.cons (.refl _) .nil)) (by simp only [openV, openVs, List.length_map, List.nil_append, List.append_nil, List.cons_append]; rfl)) <| s_mov (.tup [(.own 4 0 r_12.1.length), (.own 5 0 r_12.2.1.length), (.int .i64 r_12.2.2)]) rfl <| s_q (.own 4 0 r_12.1.length) rfl (.of nle trivial) rfl <| s_q (.own 5 0 r_12.2.1.length) rfl (.of nle trivial) rfl <| s_q (.int .i64 r_12.2.2) rfl (.of nle trivial) rfl <| ?_
  refine s_mov (.own 4 0 r_12.1.length) rfl <| s_mov (.own 5 0 r_12.2.1.length) rfl <| s_mov (.int .i64 r_12.2.2) rfl <| w_done <| k_seq <| awp_seq <| awp_seq <| ?_
  obtain ⟨s55_19, hb1, hf⟩ := ob hf
  refine awp_cut ([(0, (.lst 2 (aList_1.map encGLock))), (1, (.int .i64 aSession_2)), (6, (.own 0 0 r_8.1.length)), (7, (.own 1 0 r_8.2.1.length)), (8, (.int .i64 r_8.2.2)), (9, (.own 2 0 r_10.length)), (10, (.own 3 0 r_12.1.length)), (11, (.own 4 0 r_12.2.1.length)), (12, (.int .i64 r_12.2.2)), (55, (.bool s55_19))], [.row 2 (r_8.1.map encGLock), .row 3 (r_8.2.1.map encGTold), .row 2 (r_10.map encGLock), .row 2 (r_12.1.map encGLock), .row 3 (r_12.2.1.map encGTold)]) ?_ ?_
  ·refine w_reg <| s_mov (.own 4 0 r_12.1.length) rfl <| s_mov (.own 1 0 r_8.1.length) rfl <| ?_
   obtain ⟨r_21, er22, hb1⟩ := ob hb1
   refine s_do (o_call (w_laws_eqLockS _ _ _ er22) rfl (.cons (.of_eq (congrArg (AV.lst _) (tko r_12.1))) (.cons (.of_eq (congrArg (AV.lst _) (tko r_8.1))) .nil)) rfl) <| s_q (.bool (!r_21)) rfl (.of trivial trivial) rfl <| s_mov (.bool (!r_21)) rfl <| ?_
   rcases oi hb1 with ⟨c23, hb1⟩ | ⟨c23, hb1⟩
   ·refine s_lit (s := 45) (b := true) rfl c23 <| s_off rfl rfl <| s_off rfl rfl <| s_off rfl rfl <| s_off rfl rfl <| s_q (.bool true) rfl (.of trivial trivial) rfl <| s_mov (.bool true) rfl <| s_off rfl rfl <| s_off rfl rfl <| s_off rfl rfl <| s_q (.bool true) rfl (.of trivial trivial) rfl <| w_done <| ?_; obtain rfl := os hb1; exact ⟨[], [1, 2, 3, 4, 5], _, _, rfl, rfl, ⟨.refl _, ⟨.refl _, ⟨.refl _, ⟨.refl _, ⟨.refl _, ⟨.refl _, ⟨.refl _, ⟨.refl _, ⟨.refl _, ⟨.refl _, trivial⟩⟩⟩⟩⟩⟩⟩⟩⟩⟩, (.refl _)⟩
   ·refine s_lit (s := 45) (b := false) rfl (bf c23) <| s_on rfl <| s_mov (.own 5 0 r_12.2.1.length) rfl <| s_on rfl <| s_mov (.own 2 0 r_8.2.1.length) rfl <| s_on rfl <| ?_
    obtain ⟨r_24, er25, hb1⟩ := ob hb1
    refine s_do (o_call (w_laws_eqToldS _ _ _ er25) rfl (.cons (.of_eq (congrArg (AV.lst _) (tko r_12.2.1))) (.cons (.of_eq (congrArg (AV.lst _) (tko r_8.2.1))) .nil)) rfl) <| s_on rfl <| s_q (.bool (!r_24)) rfl (.of trivial trivial) rfl <| s_q (.bool (!r_24)) rfl (.of trivial trivial) rfl <| s_mov (.bool (!r_24)) rfl <| ?_; refine s_g (v := (!r_24)) (.int .i64 r_12.2.2) rfl (fun hv => by (try simp only [gs_on hv]); exact ⟨rfl, .of trivial trivial, rfl⟩) ?_; refine s_g (v := (!r_24)) (.int .i64 r_8.2.2) rfl (fun hv => by (try simp only [gs_on hv]); exact ⟨rfl, .of trivial trivial, rfl⟩) ?_; refine s_g (v := (!r_24)) (.bool (r_12.2.2 != r_8.2.2)) rfl (fun hv => by (try simp only [gs_on hv]); exact ⟨rfl, (.of rfl trivial), rfl⟩) ?_
    refine s_pick (x := true) (y := (r_12.2.2 != r_8.2.2)) rfl (fun hv => by (try simp only [gs_on hv]); rfl) (fun hv => by (try simp only [gs_on hv]); rfl) ?_; refine w_done ?_; obtain rfl := os hb1; exact ⟨[], [1, 2, 3, 4, 5], _, _, rfl, rfl, ⟨.refl _, ⟨.refl _, ⟨.refl _, ⟨.refl _, ⟨.refl _, ⟨.refl _, ⟨.refl _, ⟨.refl _, ⟨.refl _, ⟨.refl _, trivial⟩⟩⟩⟩⟩⟩⟩⟩⟩⟩, (.refl _)⟩
  ·rcases oi hf with ⟨c26, hf⟩ | ⟨c26, hf⟩
   ·refine w_condt rfl c26 <| awp_seq <| w_reg <| s_mov (.bool false) rfl <| w_done <| k_seq <| w_ret <| ?_; obtain rfl := os hf; exact r_flat ⟨.of trivial trivial, trivial⟩ rfl (.refl _)
   ·refine w_condf rfl (bf c26) <| w_skip <| k_seq <| awp_seq <| awp_seq <| w_reg <| ?_
    obtain ⟨r_27, er28, hf⟩ := ob hf
    obtain ⟨r_29, er30, hf⟩ := ob hf
    refine s_mov (.own 2 0 r_10.length) rfl <| s_mov (.lst 2 (aList_1.map encGLock)) rfl <| s_do (o_callf (v := (.own 5 0 r_27.length)) (h' := [.row 2 (r_27.map encGLock)]) (w_laws_toLockS _ _ er28) rfl (.refl _) (by simp only [openV, openVs, List.length_map, List.nil_append, List.append_nil, List.cons_append]; rfl)) <| s_do (o_call (w_laws_eqLockS _ _ _ er30) rfl (.cons (.of_eq (congrArg (AV.lst _) (tko r_10))) (.cons (.of_eq (congrArg (AV.lst _) (tko r_27))) .nil)) rfl) <| s_q (.bool (!r_29)) rfl (.of trivial trivial) rfl <| w_done <| k_seq <| ?_
    rcases oi hf with ⟨c31, hf⟩ | ⟨c31, hf⟩
    ·refine w_condt rfl c31 <| awp_seq <| w_reg <| s_mov (.bool false) rfl <| w_done <| k_seq <| w_ret <| ?_; obtain rfl := os hf; exact r_flat ⟨.of trivial trivial, trivial⟩ rfl (.refl _)
    ·refine w_condf rfl (bf c31) <| w_skip <| k_seq <| awp_seq <| w_reg <| s_mov (.int .i64 1) rfl <| w_done <| k_seq <| awp_seq <| w_reg <| ?_
     obtain ⟨r_32, er33, hf⟩ := ob hf
     refine s_mov (.own 2 0 r_10.length) rfl <| s_mov (.int .i64 1) rfl <| ?_; refine s_dof (o_callhs (v := (.int .i64 r_32.1)) (h2 := [.row 2 (r_8.1.map encGLock), .row 3 (r_8.2.1.map encGTold), .row 2 (r_32.2.map encGLock), .row 2 (r_12.1.map encGLock), .row 3 (r_12.2.1.map encGTold), .row 2 (r_27.map encGLock)]) [] [2] (fun _ => rfl) (w_laws_markLockS _ _ _ er33) rfl (.refl _) (.refl _) rfl rfl) fun hl34 => ?_; refine s_mov (.int .i64 r_32.1) rfl <| w_done <| k_seq <| awp_seq <| awp_seq <| ?_
     obtain ⟨s82_41, hb1, hf⟩ := ob hf
     refine awp_cut ([(0, (.lst 2 (aList_1.map encGLock))), (1, (.int .i64 aSession_2)), (6, (.own 0 0 r_8.1.length)), (7, (.own 1 0 r_8.2.1.length)), (8, (.int .i64 r_8.2.2)), (10, (.own 2 0 r_12.1.length)), (11, (.own 3 0 r_12.2.1.length)), (82, (.bool s82_41))], [.row 2 (r_8.1.map encGLock), .row 3 (r_8.2.1.map encGTold), .row 2 (r_12.1.map encGLock), .row 3 (r_12.2.1.map encGTold)]) ?_ ?_
     ·refine w_reg <| s_mov (.int .i64 r_32.1) rfl <| s_q (.bool (decide (r_32.1 < 0))) rfl (.of rfl trivial) rfl <| s_mov (.bool (decide (r_32.1 < 0))) rfl <| ?_
      rcases oi hb1 with ⟨c43, hb1⟩ | ⟨c43, hb1⟩
      ·refine s_lit (s := 66) (b := true) rfl c43 <| s_off rfl rfl <| s_off rfl rfl <| s_off rfl rfl <| s_off rfl rfl <| s_q (.bool true) rfl (.of trivial trivial) rfl <| s_mov (.bool true) rfl <| s_off rfl rfl <| s_off rfl rfl <| s_off rfl rfl <| s_off rfl rfl <| s_q (.bool true) rfl (.of trivial trivial) rfl <| s_mov (.bool true) rfl <| s_off rfl rfl <| s_off rfl rfl <| s_off rfl rfl <| s_q (.bool true) rfl (.of trivial trivial) rfl <| w_done <| ?_; obtain rfl := os hb1; exact ⟨[], [0, 1, 3, 4], _, _, rfl, rfl, ⟨.refl _, ⟨.refl _, ⟨.refl _, ⟨.refl _, ⟨.refl _, ⟨.refl _, ⟨.refl _, ⟨.refl _, trivial⟩⟩⟩⟩⟩⟩⟩⟩, (.refl _)⟩
      ·refine s_lit (s := 66) (b := false) rfl (bf c43) <| s_on rfl <| s_mov (.own 3 0 r_12.1.length) rfl <| s_on rfl <| s_mov (.own 0 0 r_8.1.length) rfl <| s_on rfl <| ?_
       obtain ⟨r_44, er45, hb1⟩ := ob hb1
       refine s_do (o_call (w_laws_eqLockS _ _ _ er45) rfl (.cons (.of_eq (congrArg (AV.lst _) (tko r_12.1))) (.cons (.of_eq (congrArg (AV.lst _) (tko r_8.1))) .nil)) rfl) <| s_on rfl <| s_q (.bool (!r_44)) rfl (.of trivial trivial) rfl <| s_q (.bool (!r_44)) rfl (.of trivial trivial) rfl <| s_mov (.bool (!r_44)) rfl <| ?_
       rcases oi hb1 with ⟨c46, hb1⟩ | ⟨c46, hb1⟩
       ·refine s_lit (s := 72) (b := true) rfl c46 <| s_off rfl rfl <| s_off rfl rfl <| s_off rfl rfl <| s_off rfl rfl <| s_q (.bool true) rfl (.of trivial trivial) rfl <| s_mov (.bool true) rfl <| s_off rfl rfl <| s_off rfl rfl <| s_off rfl rfl <| s_q (.bool true) rfl (.of trivial trivial) rfl <| w_done <| ?_; obtain rfl := os hb1; exact ⟨[], [0, 1, 3, 4], _, _, rfl, rfl, ⟨.refl _, ⟨.refl _, ⟨.refl _, ⟨.refl _, ⟨.refl _, ⟨.refl _, ⟨.refl _, ⟨.refl _, trivial⟩⟩⟩⟩⟩⟩⟩⟩, (.refl _)⟩
       ·refine s_lit (s := 72) (b := false) rfl (bf c46) <| s_on rfl <| s_mov (.own 4 0 r_12.2.1.length) rfl <| s_on rfl <| s_mov (.own 1 0 r_8.2.1.length) rfl <| s_on rfl <| ?_
        obtain ⟨r_47, er48, hb1⟩ := ob hb1
        refine s_do (o_call (w_laws_eqToldS _ _ _ er48) rfl (.cons (.of_eq (congrArg (AV.lst _) (tko r_12.2.1))) (.cons (.of_eq (congrArg (AV.lst _) (tko r_8.2.1))) .nil)) rfl) <| s_on rfl <| s_q (.bool (!r_47)) rfl (.of trivial trivial) rfl <| s_q (.bool (!r_47)) rfl (.of trivial trivial) rfl <| s_mov (.bool (!r_47)) rfl <| ?_; refine s_g (v := (!r_47)) (.int .i64 r_12.2.2) rfl (fun hv => by (try simp only [gs_on hv]); exact ⟨rfl, .of trivial trivial, rfl⟩) ?_; refine s_g (v := (!r_47)) (.int .i64 r_8.2.2) rfl (fun hv => by (try simp only [gs_on hv]); exact ⟨rfl, .of trivial trivial, rfl⟩) ?_; refine s_g (v := (!r_47)) (.bool (r_12.2.2 != r_8.2.2)) rfl (fun hv => by (try simp only [gs_on hv]); exact ⟨rfl, (.of rfl trivial), rfl⟩) ?_
        refine s_pick (x := true) (y := (r_12.2.2 != r_8.2.2)) rfl (fun hv => by (try simp only [gs_on hv]); rfl) (fun hv => by (try simp only [gs_on hv]); rfl) ?_; refine w_done ?_; obtain rfl := os hb1; exact ⟨[], [0, 1, 3, 4], _, _, rfl, rfl, ⟨.refl _, ⟨.refl _, ⟨.refl _, ⟨.refl _, ⟨.refl _, ⟨.refl _, ⟨.refl _, ⟨.refl _, trivial⟩⟩⟩⟩⟩⟩⟩⟩, (.refl _)⟩
     ·rcases oi hf with ⟨c49, hf⟩ | ⟨c49, hf⟩
      ·refine w_condt rfl c49 <| awp_seq <| w_reg <| s_mov (.bool false) rfl <| w_done <| k_seq <| w_ret <| ?_; obtain rfl := os hf; exact r_flat ⟨.of trivial trivial, trivial⟩ rfl (.refl _)
      ·refine w_condf rfl (bf c49) <| w_skip <| k_seq <| awp_seq <| w_reg <| s_mov (.int .i64 1) rfl <| w_done <| k_seq <| awp_seq <| w_reg <| ?_
       obtain ⟨r_50, er51, hf⟩ := ob hf
       refine s_mov (.own 2 0 r_12.1.length) rfl <| s_mov (.int .i64 1) rfl <| ?_; refine s_dof (o_callhs (v := (.int .i64 r_50.1)) (h2 := [.row 2 (r_8.1.map encGLock), .row 3 (r_8.2.1.map encGTold), .row 2 (r_50.2.map encGLock), .row 3 (r_12.2.1.map encGTold)]) [] [2] (fun _ => rfl) (w_laws_markLockS _ _ _ er51) rfl (.refl _) (.refl _) rfl rfl) fun hl52 => ?_; refine s_mov (.int .i64 r_50.1) rfl <| w_done <| k_seq <| awp_seq <| w_reg <| ?_
       obtain ⟨r_53, er54, hf⟩ := ob hf
       refine s_mov (.own 3 0 r_12.2.1.length) rfl <| s_mov (.int .i64 r_50.1) rfl <| ?_; refine s_dof (o_callhs (v := (.int .i64 r_53.1)) (h2 := [.row 2 (r_8.1.map encGLock), .row 3 (r_8.2.1.map encGTold), .row 2 (r_50.2.map encGLock), .row 3 (r_53.2.map encGTold)]) [] [3] (fun _ => rfl) (w_laws_markToldS _ _ _ er54) rfl (.refl _) (.refl _) rfl rfl) fun hl55 => ?_; refine s_mov (.int .i64 r_53.1) rfl <| w_done <| k_seq <| awp_seq <| w_reg <| s_mov (.int .i64 1) rfl <| w_done <| k_seq <| awp_seq <| w_reg <| ?_
       obtain ⟨r_56, er57, hf⟩ := ob hf
       refine s_mov (.own 2 0 r_12.1.length) rfl <| s_mov (.int .i64 1) rfl <| s_do (o_call (w_laws_heldLockS _ _ _ er57) rfl (.cons (.of_eq (congrArg (AV.lst _) (tkol (hl52 0 _ _ _ _ rfl rfl)))) (.cons (.refl _) .nil)) rfl) <| s_mov (.int .i64 r_56) rfl <| w_done <| k_seq <| awp_seq <| awp_seq <| w_reg <| s_mov (.int .i64 r_56) rfl <| s_q (.bool (decide (r_56 < 0))) rfl (.of rfl trivial) rfl <| w_done <| k_seq <| ?_
       rcases oi hf with ⟨c58, hf⟩ | ⟨c58, hf⟩
       ·refine w_condt rfl c58 <| awp_seq <| w_reg <| s_mov (.bool false) rfl <| w_done <| k_seq <| w_ret <| ?_; obtain rfl := os hf; exact r_flat ⟨.of trivial trivial, trivial⟩ rfl (.refl _)
       ·refine w_condf rfl (bf c58) <| w_skip <| k_seq <| awp_seq <| w_reg <| ?_
        obtain ⟨r_59, er60, hf⟩ := ob hf
        refine s_mov (.own 3 0 r_12.2.1.length) rfl <| s_mov (.int .i64 r_56) rfl <| s_do (o_call (w_laws_heldToldS _ _ _ er60) rfl (.cons (.of_eq (congrArg (AV.lst _) (tkol (hl55 0 _ _ _ _ rfl rfl)))) (.cons (.refl _) .nil)) rfl) <| s_mov (.int .i64 r_59) rfl <| w_done <| k_seq <| awp_seq <| awp_seq <| w_reg <| s_mov (.int .i64 r_59) rfl <| s_q (.bool (decide (r_59 < 0))) rfl (.of rfl trivial) rfl <| w_done <| k_seq <| ?_
        rcases oi hf with ⟨c61, hf⟩ | ⟨c61, hf⟩
        ·refine w_condt rfl c61 <| awp_seq <| w_reg <| s_mov (.bool false) rfl <| w_done <| k_seq <| w_ret <| ?_; obtain rfl := os hf; exact r_flat ⟨.of trivial trivial, trivial⟩ rfl (.refl _)
        ·refine w_condf rfl (bf c61) <| w_skip <| k_seq <| awp_seq <| awp_seq <| w_reg <| s_mov (.int .i64 r_59) rfl <| s_mov (.int .i64 r_53.1) rfl <| s_q (.bool (r_59 != r_53.1)) rfl (.of rfl trivial) rfl <| w_done <| k_seq <| ?_
         rcases oi hf with ⟨c62, hf⟩ | ⟨c62, hf⟩
         ·refine w_condt rfl c62 <| awp_seq <| w_reg <| s_mov (.bool false) rfl <| w_done <| k_seq <| w_ret <| ?_; obtain rfl := os hf; exact r_flat ⟨.of trivial trivial, trivial⟩ rfl (.refl _)
         ·refine w_condf rfl (bf c62) <| w_skip <| k_seq <| awp_seq <| w_reg <| ?_
          obtain ⟨r_63, er64, hf⟩ := ob hf
          obtain ⟨r_65, er66, hf⟩ := ob hf
          refine s_mov (.lst 2 (aList_1.map encGLock)) rfl <| s_do (o_callf (v := (.own 4 0 r_63.length)) (h' := [.row 2 (r_63.map encGLock)]) (w_laws_toLockS _ _ er64) rfl (.refl _) (by simp only [openV, openVs, List.length_map, List.nil_append, List.append_nil, List.cons_append]; rfl)) <| s_mov (.int .i64 aSession_2) rfl <| s_do (o_callf (v := (.tup [(.own 5 0 r_65.1.length), (.own 6 0 r_65.2.1.length), (.int .i64 r_65.2.2)])) (h' := [.row 2 (r_65.1.map encGLock), .row 3 (r_65.2.1.map encGTold)]) (w_impl_LeaveAll _ _ _ er66) rfl (.cons (.of_eq (congrArg (AV.lst _) (tko r_63))) (.cons (.refl _) .nil)) (by simp only [openV, openVs, List.length_map, List.nil_append, List.append_nil, List.cons_append]; rfl)) <| s_mov (.tup [(.own 5 0 r_65.1.length), (.own 6 0 r_65.2.1.length), (.int .i64 r_65.2.2)]) rfl <| ?_
          refine s_q (.own 5 0 r_65.1.length) rfl (.of nle trivial) rfl <| s_q (.own 6 0 r_65.2.1.length) rfl (.of nle trivial) rfl <| s_q (.int .i64 r_65.2.2) rfl (.of nle trivial) rfl <| s_mov (.own 5 0 r_65.1.length) rfl <| s_mov (.own 6 0 r_65.2.1.length) rfl <| s_mov (.int .i64 r_65.2.2) rfl <| w_done <| k_seq <| awp_seq <| awp_seq <| ?_
          obtain ⟨s124_72, hb1, hf⟩ := ob hf
          refine awp_cut ([(10, (.own 0 0 r_50.2.length)), (11, (.own 1 0 r_53.2.length)), (14, (.int .i64 r_53.1)), (124, (.bool s124_72))], [.row 2 (r_50.2.map encGLock), .row 3 (r_53.2.map encGTold)]) ?_ ?_
          ·refine w_reg <| s_mov (.own 5 0 r_65.1.length) rfl <| s_mov (.own 0 0 r_8.1.length) rfl <| ?_
           obtain ⟨r_74, er75, hb1⟩ := ob hb1
           refine s_do (o_call (w_laws_eqLockS _ _ _ er75) rfl (.cons (.of_eq (congrArg (AV.lst _) (tko r_65.1))) (.cons (.of_eq (congrArg (AV.lst _) (tko r_8.1))) .nil)) rfl) <| s_q (.bool (!r_74)) rfl (.of trivial trivial) rfl <| s_mov (.bool (!r_74)) rfl <| ?_
           rcases oi hb1 with ⟨c76, hb1⟩ | ⟨c76, hb1⟩
           ·refine s_lit (s := 114) (b := true) rfl c76 <| s_off rfl rfl <| s_off rfl rfl <| s_off rfl rfl <| s_off rfl rfl <| s_q (.bool true) rfl (.of trivial trivial) rfl <| s_mov (.bool true) rfl <| s_off rfl rfl <| s_off rfl rfl <| s_off rfl rfl <| s_q (.bool true) rfl (.of trivial trivial) rfl <| w_done <| ?_; obtain rfl := os hb1; exact ⟨[], [2, 3], _, _, rfl, rfl, ⟨.of_eq (congrArg (AV.own _ 0) (by have h := (hl52 0 _ _ _ _ rfl rfl); simpa using h.symm)), ⟨.of_eq (congrArg (AV.own _ 0) (by have h := (hl55 0 _ _ _ _ rfl rfl); simpa using h.symm)), ⟨.refl _, ⟨.refl _, trivial⟩⟩⟩⟩, (.refl _)⟩
           ·refine s_lit (s := 114) (b := false) rfl (bf c76) <| s_on rfl <| s_mov (.own 6 0 r_65.2.1.length) rfl <| s_on rfl <| s_mov (.own 1 0 r_8.2.1.length) rfl <| s_on rfl <| ?_
            obtain ⟨r_77, er78, hb1⟩ := ob hb1
            refine s_do (o_call (w_laws_eqToldS _ _ _ er78) rfl (.cons (.of_eq (congrArg (AV.lst _) (tko r_65.2.1))) (.cons (.of_eq (congrArg (AV.lst _) (tko r_8.2.1))) .nil)) rfl) <| s_on rfl <| s_q (.bool (!r_77)) rfl (.of trivial trivial) rfl <| s_q (.bool (!r_77)) rfl (.of trivial trivial) rfl <| s_mov (.bool (!r_77)) rfl <| ?_; refine s_g (v := (!r_77)) (.int .i64 r_65.2.2) rfl (fun hv => by (try simp only [gs_on hv]); exact ⟨rfl, .of trivial trivial, rfl⟩) ?_; refine s_g (v := (!r_77)) (.int .i64 r_8.2.2) rfl (fun hv => by (try simp only [gs_on hv]); exact ⟨rfl, .of trivial trivial, rfl⟩) ?_; refine s_g (v := (!r_77)) (.bool (r_65.2.2 != r_8.2.2)) rfl (fun hv => by (try simp only [gs_on hv]); exact ⟨rfl, (.of rfl trivial), rfl⟩) ?_
            refine s_pick (x := true) (y := (r_65.2.2 != r_8.2.2)) rfl (fun hv => by (try simp only [gs_on hv]); rfl) (fun hv => by (try simp only [gs_on hv]); rfl) ?_; refine w_done ?_; obtain rfl := os hb1; exact ⟨[], [2, 3], _, _, rfl, rfl, ⟨.of_eq (congrArg (AV.own _ 0) (by have h := (hl52 0 _ _ _ _ rfl rfl); simpa using h.symm)), ⟨.of_eq (congrArg (AV.own _ 0) (by have h := (hl55 0 _ _ _ _ rfl rfl); simpa using h.symm)), ⟨.refl _, ⟨.refl _, trivial⟩⟩⟩⟩, (.refl _)⟩
          ·rcases oi hf with ⟨c79, hf⟩ | ⟨c79, hf⟩
           ·refine w_condt rfl c79 <| awp_seq <| w_reg <| s_mov (.bool false) rfl <| w_done <| k_seq <| w_ret <| ?_; obtain rfl := os hf; exact r_flat ⟨.of trivial trivial, trivial⟩ rfl (.refl _)
           ·refine w_condf rfl (bf c79) <| w_skip <| k_seq <| awp_seq <| w_reg <| s_mov (.int .i64 1) rfl <| w_done <| k_seq <| awp_seq <| w_reg <| ?_
            obtain ⟨r_80, er81, hf⟩ := ob hf
            refine s_mov (.own 0 0 r_50.2.length) rfl <| s_mov (.int .i64 1) rfl <| s_do (o_call (w_laws_heldLockS _ _ _ er81) rfl (.cons (.of_eq (congrArg (AV.lst _) (tko r_50.2))) (.cons (.refl _) .nil)) rfl) <| s_mov (.int .i64 r_80) rfl <| w_done <| k_seq <| awp_seq <| awp_seq <| w_reg <| s_mov (.int .i64 r_80) rfl <| s_q (.bool (decide (r_80 < 0))) rfl (.of rfl trivial) rfl <| w_done <| k_seq <| ?_
            rcases oi hf with ⟨c82, hf⟩ | ⟨c82, hf⟩
            ·refine w_condt rfl c82 <| awp_seq <| w_reg <| s_mov (.bool false) rfl <| w_done <| k_seq <| w_ret <| ?_; obtain rfl := os hf; exact r_flat ⟨.of trivial trivial, trivial⟩ rfl (.refl _)
            ·refine w_condf rfl (bf c82) <| w_skip <| k_seq <| awp_seq <| w_reg <| ?_
             obtain ⟨r_83, er84, hf⟩ := ob hf
             refine s_mov (.own 1 0 r_53.2.length) rfl <| s_mov (.int .i64 r_80) rfl <| s_do (o_call (w_laws_heldToldS _ _ _ er84) rfl (.cons (.of_eq (congrArg (AV.lst _) (tko r_53.2))) (.cons (.refl _) .nil)) rfl) <| s_mov (.int .i64 r_83) rfl <| w_done <| k_seq <| awp_seq <| awp_seq <| w_reg <| s_mov (.int .i64 r_83) rfl <| s_q (.bool (decide (r_83 < 0))) rfl (.of rfl trivial) rfl <| w_done <| k_seq <| ?_
             rcases oi hf with ⟨c85, hf⟩ | ⟨c85, hf⟩
             ·refine w_condt rfl c85 <| awp_seq <| w_reg <| s_mov (.bool false) rfl <| w_done <| k_seq <| w_ret <| ?_; obtain rfl := os hf; exact r_flat ⟨.of trivial trivial, trivial⟩ rfl (.refl _)
             ·refine w_condf rfl (bf c85) <| w_skip <| k_seq <| awp_seq <| awp_seq <| w_reg <| s_mov (.int .i64 r_83) rfl <| s_mov (.int .i64 r_53.1) rfl <| s_q (.bool (r_83 != r_53.1)) rfl (.of rfl trivial) rfl <| w_done <| k_seq <| ?_
              rcases oi hf with ⟨c86, hf⟩ | ⟨c86, hf⟩
              ·refine w_condt rfl c86 <| awp_seq <| w_reg <| s_mov (.bool false) rfl <| w_done <| k_seq <| w_ret <| ?_; obtain rfl := os hf; exact r_flat ⟨.of trivial trivial, trivial⟩ rfl (.refl _)
              ·refine w_condf rfl (bf c86) <| w_skip <| k_seq <| awp_seq <| w_reg <| s_mov (.bool true) rfl <| w_done <| k_seq <| w_ret <| ?_; obtain rfl := os hf; exact r_flat ⟨.of trivial trivial, trivial⟩ rfl (.refl _)

end Go.R
