/- Walks. -/
import Derived.Test.YtdnjjfoooagphaaSK1
set_option linter.all false
namespace Go.R
open Go Go.Proofs
set_option linter.unusedVariables false
set_option linter.unusedSimpArgs false
set_option maxHeartbeats 8000000
/- slices.BinarySearchFunc[[]impl.Lock,impl.Lock,string] -/
def c182 : ACode :=
 (.seq (.reg (tm 6 (.c (.int .i64 0)) (tm 7 (.c (.bool false)) .done)))
 (.seq (.reg (tm 12 (.t 0) (tq 13 (.len (.t 12)) (tm 8 (.t 13) .done))))
 (.seq (.reg (tm 14 (.t 8) (tm 9 (.c (.int .i64 0)) (tm 10 (.t 14) .done))))
 (.seq (.block 0 (.loop (.seq (.seq (.reg (tm 15 (.t 9) (tm 16 (.t 10) (tq 17 (.bin .lss (.t 15) (.t 16)) .done))))
 (.cond (.t 17) .skip
 (.exit 0)))
 (.block 1 (.seq (.reg (tm 18 (.t 9) (tm 19 (.t 10) (tq 20 (.bin .add (.t 18) (.t 19)) (tq 21 (.convI .u64 (.t 20)) (tq 22 (.bin .shr (.t 21) (.c (.int .u64 1))) (tq 23 (.convI .i64 (.t 22)) (tm 11 (.t 23) .done))))))))
 (.seq (.reg (tm 24 (.t 2) (tm 25 (.t 0) (tm 26 (.t 11) (tq 27 (.iaddr 2 (.t 25) (.t 26)) (tq 28 (.load 2 true (.t 27)) (tm 29 (.t 1) (tq 30 (.calv (.t 24) [(.t 28), (.t 29)]) (tq 31 (.bin .lss (.t 30) (.c (.int .i64 0))) .done)))))))))
 (.cond (.t 31) (.reg (tm 32 (.t 11) (tq 33 (.bin .add (.t 32) (.c (.int .i64 1))) (tm 9 (.t 33) .done))))
 (.reg (tm 34 (.t 11) (tm 10 (.t 34) .done))))))))))
 (.cut (.seq (.reg (tm 35 (.t 9) (tm 36 (.t 9) (tm 37 (.t 8) (tq 38 (.bin .lss (.t 36) (.t 37)) (tm 39 (.t 38) (tg 40 39 true (.mov (.t 2)) (tg 41 39 true (.mov (.t 0)) (tg 42 39 true (.mov (.t 9)) (tg 43 39 true (.iaddr 2 (.t 41) (.t 42)) (tg 44 39 true (.load 2 true (.t 43)) (tg 45 39 true (.mov (.t 1)) (tg 46 39 true (.calv (.t 40) [(.t 44), (.t 45)]) (tg 47 39 true (.bin .eql (.t 46) (.c (.int .i64 0))) (tq 48 (.pick (.t 39) (.t 47) (.c (.bool false))) (tm 6 (.t 35) (tm 7 (.t 48) .done)))))))))))))))))
 .ret))))))
theorem fc182 : fcomp Try.prog Try.f182 = some (c182.erase, [.mov (.t 6), .mov (.t 7)], 49) := by kernel_rfl
def slices_BinarySearchFunc_impl_Lock_impl_Lock_string_L1 (x_1 : (List GLock)) (cmp_3 : (GLock → Str → Option Int)) (target_2 : Str) : Nat → Int → Int → Option Int
  | 0, _, _ => none
  | k + 1, i_41, j_42 =>
    if (decide (i_41 < j_42)) then
    (idx x_1 (w64 (Int.fdiv (IntKind.u64.wrap (w64 (i_41 + j_42))) (2 ^ (min (Int.toNat 1) (IntKind.bits .u64)))))).bind fun x_52 =>
    (cmp_3 x_52 target_2).bind fun r_54 =>
    if (decide (r_54 < 0)) then
    slices_BinarySearchFunc_impl_Lock_impl_Lock_string_L1 x_1 cmp_3 target_2 k (w64 ((w64 (Int.fdiv (IntKind.u64.wrap (w64 (i_41 + j_42))) (2 ^ (min (Int.toNat 1) (IntKind.bits .u64))))) + 1)) j_42
    else
    slices_BinarySearchFunc_impl_Lock_impl_Lock_string_L1 x_1 cmp_3 target_2 k i_41 (w64 (Int.fdiv (IntKind.u64.wrap (w64 (i_41 + j_42))) (2 ^ (min (Int.toNat 1) (IntKind.bits .u64)))))
    else
    some i_41

def slices_BinarySearchFunc_impl_Lock_impl_Lock_string (x_1 : (List GLock)) (target_2 : Str) (cmp_3 : (GLock → Str → Option Int)) : Option (Int × Bool) :=
    (slices_BinarySearchFunc_impl_Lock_impl_Lock_string_L1 x_1 cmp_3 target_2 FUEL 0 (x_1.length : Int)).bind fun i_49 =>
    if (decide (i_49 < (x_1.length : Int))) then
    (idx x_1 i_49).bind fun x_58 =>
    (cmp_3 x_58 target_2).bind fun r_60 =>
    some (i_49, (r_60 == 0))
    else
    some (i_49, false)
theorem w_slices_BinarySearchFunc_impl_Lock_impl_Lock_string (x_1 : (List GLock)) (target_2 : Str) (cmp_3 : (GLock → Str → Option Int)) (r : (Int × Bool)) (hf : slices_BinarySearchFunc_impl_Lock_impl_Lock_string x_1 target_2 cmp_3 = some r) (kf_cmp_3 : Nat) (cf_cmp_3 : List AV) (okf_cmp_3 : okFn Try.prog kf_cmp_3 = true) (hcf_cmp_3 : ∀ h p, closeWs h p cf_cmp_3 = some cf_cmp_3) (hrf_cmp_3 : ∀ f, rens f cf_cmp_3 = cf_cmp_3) (hpf_cmp_3 : ∀ a0 a1 r, cmp_3 a0 a1 = some r → CallOK Try.prog kf_cmp_3 .flat ([(encGLock a0), (.str a1)] ++ cf_cmp_3) (.int .i64 r)) : CallOK Try.prog 182 .flat [(.lst 2 (x_1.map encGLock)), (.str target_2), (.fn kf_cmp_3 cf_cmp_3)] (.tup [(.int .i64 r.1), (.bool r.2)]) := by
 refine CallOK.of_awp mixed Try.func182 fc182 nle ?_; rw [argT_eq]; unfold slices_BinarySearchFunc_impl_Lock_impl_Lock_string at hf; unfold c182; refine (show awp Try.prog false 0 _ (ofL [(0, (.lst 2 (x_1.map encGLock))), (1, (.str target_2)), (2, (.fn kf_cmp_3 cf_cmp_3))]) [] _ from ?_); refine awp_seq <| w_reg <| s_mov (.int .i64 0) rfl <| s_mov (.bool false) rfl <| w_done <| k_seq <| awp_seq <| w_reg <| s_mov (.lst 2 (x_1.map encGLock)) rfl <| s_dof (o_len (enc := encGLock) rfl) fun hl4 => s_mov (.int .i64 (x_1.length : Int)) rfl <| w_done <| k_seq <| awp_seq <| w_reg <| s_mov (.int .i64 (x_1.length : Int)) rfl <| s_mov (.int .i64 0) rfl <| s_mov (.int .i64 (x_1.length : Int)) rfl <| w_done <| k_seq <| awp_seq <| ?_
 obtain ⟨i_49, hb1, hf⟩ := ob hf
 refine awp_cut ([(0, (.lst 2 (x_1.map encGLock))), (1, (.str target_2)), (2, (.fn kf_cmp_3 cf_cmp_3)), (8, (.int .i64 (x_1.length : Int))), (9, (.int .i64 i_49))], []) ?_ ?_
 ·refine awp_loop (X := {q : (Nat × Int × Int) // slices_BinarySearchFunc_impl_Lock_impl_Lock_string_L1 x_1 cmp_3 target_2 q.1 q.2.1 q.2.2 = some i_49}) (fun q => ([(0, (.lst 2 (x_1.map encGLock))), (1, (.str target_2)), (2, (.fn kf_cmp_3 cf_cmp_3)), (8, (.int .i64 (x_1.length : Int))), (9, (.int .i64 q.1.2.1)), (10, (.int .i64 q.1.2.2))], [])) (fun q => q.1.1) ⟨(FUEL, 0, (x_1.length : Int)), hb1⟩ ⟨[], [], _, _, rfl, rfl, ⟨.refl _, ⟨.refl _, ⟨.of_eq (congrArg (AV.fn _) (hrf_cmp_3 _)), ⟨.refl _, ⟨.refl _, ⟨.refl _, trivial⟩⟩⟩⟩⟩⟩, (.refl _)⟩ ?_
  rintro ⟨⟨k, i_41, j_42⟩, hc1⟩
  have hc1 : slices_BinarySearchFunc_impl_Lock_impl_Lock_string_L1 x_1 cmp_3 target_2 k i_41 j_42 = some i_49 := hc1
  refine (show awp Try.prog false 0 _ (ofL [(0, (.lst 2 (x_1.map encGLock))), (1, (.str target_2)), (2, (.fn kf_cmp_3 cf_cmp_3)), (8, (.int .i64 (x_1.length : Int))), (9, (.int .i64 i_41)), (10, (.int .i64 j_42))]) [] _ from ?_)
  rcases k with _ | k
  ·rw [slices_BinarySearchFunc_impl_Lock_impl_Lock_string_L1.eq_1] at hc1
   cases hc1
  ·rw [slices_BinarySearchFunc_impl_Lock_impl_Lock_string_L1.eq_2] at hc1; refine awp_seq <| awp_seq <| w_reg <| s_mov (.int .i64 i_41) rfl <| s_mov (.int .i64 j_42) rfl <| s_q (.bool (decide (i_41 < j_42))) rfl rfl rfl <| w_done <| k_seq <| ?_
   rcases oi hc1 with ⟨c51, hc1⟩ | ⟨c51, hc1⟩
   ·refine w_condt rfl c51 <| w_skip <| k_seq <| w_blk <| awp_seq <| w_reg <| s_mov (.int .i64 i_41) rfl <| s_mov (.int .i64 j_42) rfl <| s_q (.int .i64 (w64 (i_41 + j_42))) rfl rfl rfl <| s_q (.int .u64 (IntKind.u64.wrap (w64 (i_41 + j_42)))) rfl trivial rfl <| ?_; refine s_do (o_q (.int .u64 (Int.fdiv (IntKind.u64.wrap (w64 (i_41 + j_42))) (2 ^ (min (Int.toNat 1) (IntKind.bits .u64))))) rfl (show (0:Int) ≤ 1 by decide) rfl) ?_; refine s_q (.int .i64 (w64 (Int.fdiv (IntKind.u64.wrap (w64 (i_41 + j_42))) (2 ^ (min (Int.toNat 1) (IntKind.bits .u64)))))) rfl trivial rfl <| s_mov (.int .i64 (w64 (Int.fdiv (IntKind.u64.wrap (w64 (i_41 + j_42))) (2 ^ (min (Int.toNat 1) (IntKind.bits .u64)))))) rfl <| w_done <| k_seq <| awp_seq <| ?_
    refine w_reg ?_
    obtain ⟨x_52, ex53, hc1⟩ := ob hc1
    obtain ⟨r_54, er55, hc1⟩ := ob hc1
    refine s_mov (.fn kf_cmp_3 cf_cmp_3) rfl <| s_mov (.lst 2 (x_1.map encGLock)) rfl <| s_mov (.int .i64 (w64 (Int.fdiv (IntKind.u64.wrap (w64 (i_41 + j_42))) (2 ^ (min (Int.toNat 1) (IntKind.bits .u64)))))) rfl <| s_do (o_iaddr (enc := encGLock) rfl rfl (idx0 ex53) (idx1 ex53)) <| s_q (encGLock x_52) rfl nle rfl <| s_mov (.str target_2) rfl <| s_do (o_calvp (v := (.int .i64 r_54)) rfl okf_cmp_3 hcf_cmp_3 (hpf_cmp_3 _ _ _ er55) rfl (.refl _) rfl) <| s_q (.bool (decide (r_54 < 0))) rfl rfl rfl <| w_done <| k_seq <| ?_
    rcases oi hc1 with ⟨c56, hc1⟩ | ⟨c56, hc1⟩
    ·refine w_condt rfl c56 <| w_reg <| s_mov (.int .i64 (w64 (Int.fdiv (IntKind.u64.wrap (w64 (i_41 + j_42))) (2 ^ (min (Int.toNat 1) (IntKind.bits .u64)))))) rfl <| s_q (.int .i64 (w64 ((w64 (Int.fdiv (IntKind.u64.wrap (w64 (i_41 + j_42))) (2 ^ (min (Int.toNat 1) (IntKind.bits .u64))))) + 1))) rfl rfl rfl <| s_mov (.int .i64 (w64 ((w64 (Int.fdiv (IntKind.u64.wrap (w64 (i_41 + j_42))) (2 ^ (min (Int.toNat 1) (IntKind.bits .u64))))) + 1))) rfl <| w_done <| k_blk <| ?_; exact k_loopn ⟨(k, w64 ((w64 (Int.fdiv (IntKind.u64.wrap (w64 (i_41 + j_42))) (2 ^ (min (Int.toNat 1) (IntKind.bits .u64))))) + 1), j_42), hc1⟩ (Nat.lt_succ_self _) ⟨[], [], _, _, rfl, rfl, ⟨.refl _, ⟨.refl _, ⟨.of_eq (congrArg (AV.fn _) (hrf_cmp_3 _)), ⟨.refl _, ⟨.refl _, ⟨.refl _, trivial⟩⟩⟩⟩⟩⟩, (.refl _)⟩
    ·refine w_condf rfl (bf c56) <| w_reg <| s_mov (.int .i64 (w64 (Int.fdiv (IntKind.u64.wrap (w64 (i_41 + j_42))) (2 ^ (min (Int.toNat 1) (IntKind.bits .u64)))))) rfl <| s_mov (.int .i64 (w64 (Int.fdiv (IntKind.u64.wrap (w64 (i_41 + j_42))) (2 ^ (min (Int.toNat 1) (IntKind.bits .u64)))))) rfl <| w_done <| k_blk <| ?_; exact k_loopn ⟨(k, i_41, w64 (Int.fdiv (IntKind.u64.wrap (w64 (i_41 + j_42))) (2 ^ (min (Int.toNat 1) (IntKind.bits .u64))))), hc1⟩ (Nat.lt_succ_self _) ⟨[], [], _, _, rfl, rfl, ⟨.refl _, ⟨.refl _, ⟨.of_eq (congrArg (AV.fn _) (hrf_cmp_3 _)), ⟨.refl _, ⟨.refl _, ⟨.refl _, trivial⟩⟩⟩⟩⟩⟩, (.refl _)⟩
   ·refine w_condf rfl (bf c51) <| w_exit <| k_seqx <| k_loopx <| k_blkx <| ?_; obtain rfl := os hc1; exact ⟨[], [], _, _, rfl, rfl, ⟨.refl _, ⟨.refl _, ⟨.of_eq (congrArg (AV.fn _) (hrf_cmp_3 _)), ⟨.refl _, ⟨.refl _, trivial⟩⟩⟩⟩⟩, (.refl _)⟩
 ·refine awp_seq <| w_reg <| s_mov (.int .i64 i_49) rfl <| s_mov (.int .i64 i_49) rfl <| s_mov (.int .i64 (x_1.length : Int)) rfl <| s_q (.bool (decide (i_49 < (x_1.length : Int)))) rfl rfl rfl <| s_mov (.bool (decide (i_49 < (x_1.length : Int)))) rfl <| ?_
  rcases oi hf with ⟨c57, hf⟩ | ⟨c57, hf⟩
  ·refine s_lit (s := 39) (b := true) rfl c57 <| s_on rfl <| s_mov (.fn kf_cmp_3 cf_cmp_3) rfl <| s_on rfl <| s_mov (.lst 2 (x_1.map encGLock)) rfl <| s_on rfl <| s_mov (.int .i64 i_49) rfl <| s_on rfl <| ?_
   obtain ⟨x_58, ex59, hf⟩ := ob hf
   refine s_do (o_iaddr (enc := encGLock) rfl rfl (idx0 ex59) (idx1 ex59)) <| s_on rfl <| s_q (encGLock x_58) rfl nle rfl <| s_on rfl <| s_mov (.str target_2) rfl <| s_on rfl <| ?_
   obtain ⟨r_60, er61, hf⟩ := ob hf
   refine s_do (o_calvp (v := (.int .i64 r_60)) rfl okf_cmp_3 hcf_cmp_3 (hpf_cmp_3 _ _ _ er61) rfl (.refl _) rfl) <| s_on rfl <| s_q (.bool (r_60 == 0)) rfl rfl rfl <| s_q (.bool (r_60 == 0)) rfl trivial rfl <| s_mov (.int .i64 i_49) rfl <| s_mov (.bool (r_60 == 0)) rfl <| w_done <| k_seq <| w_ret <| ?_; obtain rfl := os hf; exact r_flat ⟨trivial, ⟨trivial, trivial⟩⟩ rfl (.refl _)
  ·refine s_lit (s := 39) (b := false) rfl (bf c57) <| s_off rfl rfl <| s_off rfl rfl <| s_off rfl rfl <| s_off rfl rfl <| s_off rfl rfl <| s_off rfl rfl <| s_off rfl rfl <| s_off rfl rfl <| s_q (.bool false) rfl trivial rfl <| s_mov (.int .i64 i_49) rfl <| s_mov (.bool false) rfl <| w_done <| k_seq <| w_ret <| ?_; obtain rfl := os hf; exact r_flat ⟨trivial, ⟨trivial, trivial⟩⟩ rfl (.refl _)

/- internal/bytealg.CompareString -/
def internal_bytealg_CompareString (a b : Str) : Option Int := some (Lib.compareBytes a b)
set_option maxRecDepth 100000 in
open Go.RowKit in
theorem cmps_run (a b : ByteArray) (w : World) : Calls Try.prog 251 #[.string a, .string b] w fun e w' => e = .returned (.int .i64 (Lib.compareBytes a.data.toList b.data.toList)) ∧ w' = w := by
  go_enter Try.func251, (show Try.f251.ntmps = _ from rfl)
  go_wp2
  rw [run_callFunc_extern Try.func272 (by kernel_rfl) (by kernel_rfl) (by kernel_rfl) (e := Extern.BytealgCompare.compare) (by kernel_rfl), Lib.run_compareString]
  simp only [Result.andThen]
  rw [Oper.upon_value]
  go_wp2
  go_ret
  exact ⟨rfl, rfl⟩
open Go.RowKit in
theorem w_internal_bytealg_CompareString (a b : Str) (r : Int) (hf : internal_bytealg_CompareString a b = some r) : CallOK Try.prog 251 .flat [(.str a), (.str b)] (.int .i64 r) := by
  intro w vals fps hr
  simp only [RepVs, Rep] at hr
  obtain ⟨v1, vs1, f1, f2, rfl, ⟨rfl, h1, rfl⟩, ⟨v2, vs2, f3, f4, rfl, ⟨rfl, h2, rfl⟩, ⟨rfl, rfl⟩, rfl⟩, rfl⟩ := hr
  unfold internal_bytealg_CompareString at hf
  obtain rfl := os hf
  refine (cmps_run ⟨a.toArray⟩ ⟨b.toArray⟩ w).mono ?_
  rintro e w' ⟨rfl, rfl⟩
  refine ⟨Below.refl _ _, ?_⟩
  exact ⟨[.int .i64 (Lib.compareBytes a b)], rfl, by simp [Rep]⟩

/- strings.Compare -/
def c184 : ACode :=
 (.seq (.reg (tm 4 (.c (.int .i64 0)) .done))
 (.seq (.reg (tm 5 (.t 0) (tm 6 (.t 1) (tq 7 (.call 251 [(.t 5), (.t 6)]) (tm 4 (.t 7) .done)))))
 .ret))
theorem fc184 : fcomp Try.prog Try.f184 = some (c184.erase, [.mov (.t 4)], 8) := by kernel_rfl
def strings_Compare (a_1 : Str) (b_2 : Str) : Option Int :=
    (internal_bytealg_CompareString a_1 b_2).bind fun r_3 =>
    some r_3
theorem w_strings_Compare (a_1 : Str) (b_2 : Str) (r : Int) (hf : strings_Compare a_1 b_2 = some r) : CallOK Try.prog 184 .flat [(.str a_1), (.str b_2)] (.int .i64 r) := by
  refine CallOK.of_awp mixed Try.func184 fc184 nle ?_
  rw [argT_eq]
  unfold strings_Compare at hf
  unfold c184
  refine (show awp Try.prog false 0 _ (ofL [(0, (.str a_1)), (1, (.str b_2))]) [] _ from ?_)
  refine awp_seq ?_
  refine w_reg ?_
  refine s_do (o_mov (.int .i64 0) rfl) ?_
  refine w_done ?_
  refine k_seq ?_
  refine awp_seq ?_
  refine w_reg ?_
  obtain ⟨r_3, er4, hf⟩ := ob hf
  refine s_do (o_mov (.str a_1) rfl) ?_
  refine s_do (o_mov (.str b_2) rfl) ?_
  refine s_do (o_call (w_internal_bytealg_CompareString _ _ _ er4) rfl (.refl _) rfl) ?_
  refine s_do (o_mov (.int .i64 r_3) rfl) ?_
  refine w_done ?_
  refine k_seq ?_
  refine w_ret ?_
  obtain rfl := os hf
  exact r_flat ⟨trivial, trivial⟩ rfl (.refl _)

/- impl.lockAt$1 -/
def c183 : ACode :=
 (.seq (.reg (tq 2 (.box 2 (.t 0)) (tm 4 (.c (.int .i64 0)) .done)))
 (.seq (.reg (tq 5 (.faddr 0 (.t 2)) (tq 6 (.load 1 false (.t 5)) (tm 7 (.t 1) (tq 8 (.call 184 [(.t 6), (.t 7)]) (tm 4 (.t 8) .done))))))
 .ret))
theorem fc183 : fcomp Try.prog Try.f183 = some (c183.erase, [.mov (.t 4)], 9) := by kernel_rfl
def impl_lockAt_1 (l_1 : GLock) (name_2 : Str) : Option Int :=
    (strings_Compare l_1.Name name_2).bind fun r_3 =>
    some r_3
theorem w_impl_lockAt_1 (l_1 : GLock) (name_2 : Str) (r : Int) (hf : impl_lockAt_1 l_1 name_2 = some r) : CallOK Try.prog 183 .flat [(encGLock l_1), (.str name_2)] (.int .i64 r) := by
  refine CallOK.of_awp mixed Try.func183 fc183 nle ?_
  rw [argT_eq]
  unfold impl_lockAt_1 at hf
  unfold c183
  refine (show awp Try.prog false 0 _ (ofL [(0, (encGLock l_1)), (1, (.str name_2))]) [] _ from ?_)
  refine awp_seq ?_
  refine w_reg ?_
  refine s_do (o_box (j := 0) (c := (.agg [(.str l_1.Name), (.lst 1 (l_1.Queue.map encI))])) rfl trivial rfl rfl) ?_
  refine s_do (o_mov (.int .i64 0) rfl) ?_
  refine w_done ?_
  refine k_seq ?_
  refine awp_seq ?_
  refine w_reg ?_
  obtain ⟨r_3, er4, hf⟩ := ob hf
  refine s_do (o_q (.ptr 0 0 0) rfl trivial rfl) ?_
  refine s_do (o_q (.str l_1.Name) rfl nle rfl) ?_
  refine s_do (o_mov (.str name_2) rfl) ?_
  refine s_do (o_call (w_strings_Compare _ _ _ er4) rfl (.refl _) rfl) ?_
  refine s_do (o_mov (.int .i64 r_3) rfl) ?_
  refine w_done ?_
  refine k_seq ?_
  refine w_ret ?_
  obtain rfl := os hf
  exact r_flat ⟨trivial, trivial⟩ rfl (.refl _)

/- impl.lockAt -/
def c99 : ACode :=
 (.seq (.reg (tm 4 (.c (.int .i64 0)) (tm 5 (.c (.bool false)) .done)))
 (.seq (.reg (tm 6 (.t 0) (tm 7 (.t 1) (tq 8 (.call 182 [(.t 6), (.t 7), (.c (.fn 183 []))]) (tq 9 (.extract 0 (.t 8)) (tq 10 (.extract 1 (.t 8)) (tm 4 (.t 9) (tm 5 (.t 10) .done))))))))
 .ret))
theorem fc99 : fcomp Try.prog Try.f99 = some (c99.erase, [.mov (.t 4), .mov (.t 5)], 11) := by kernel_rfl
def impl_lockAt (list_1 : (List GLock)) (name_2 : Str) : Option (Int × Bool) :=
    (slices_BinarySearchFunc_impl_Lock_impl_Lock_string list_1 name_2 impl_lockAt_1).bind fun r_3 =>
    some (r_3.1, r_3.2)
theorem w_impl_lockAt (list_1 : (List GLock)) (name_2 : Str) (r : (Int × Bool)) (hf : impl_lockAt list_1 name_2 = some r) : CallOK Try.prog 99 .flat [(.lst 2 (list_1.map encGLock)), (.str name_2)] (.tup [(.int .i64 r.1), (.bool r.2)]) := by
  refine CallOK.of_awp mixed Try.func99 fc99 nle ?_
  rw [argT_eq]
  unfold impl_lockAt at hf
  unfold c99
  refine (show awp Try.prog false 0 _ (ofL [(0, (.lst 2 (list_1.map encGLock))), (1, (.str name_2))]) [] _ from ?_)
  refine awp_seq ?_
  refine w_reg ?_
  refine s_do (o_mov (.int .i64 0) rfl) ?_
  refine s_do (o_mov (.bool false) rfl) ?_
  refine w_done ?_
  refine k_seq ?_
  refine awp_seq ?_
  refine w_reg ?_
  obtain ⟨r_3, er4, hf⟩ := ob hf
  refine s_do (o_mov (.lst 2 (list_1.map encGLock)) rfl) ?_
  refine s_do (o_mov (.str name_2) rfl) ?_
  refine s_do (o_call (w_slices_BinarySearchFunc_impl_Lock_impl_Lock_string _ _ _ _ er4 183 [] (by kernel_rfl) (fun _ _ => rfl) (fun _ => rfl) (fun a0 a1 r h => w_impl_lockAt_1 a0 a1 r h)) rfl (.refl _) rfl) ?_
  refine s_do (o_q (.int .i64 r_3.1) rfl nle rfl) ?_
  refine s_do (o_q (.bool r_3.2) rfl nle rfl) ?_
  refine s_do (o_mov (.int .i64 r_3.1) rfl) ?_
  refine s_do (o_mov (.bool r_3.2) rfl) ?_
  refine w_done ?_
  refine k_seq ?_
  refine w_ret ?_
  obtain rfl := os hf
  exact r_flat ⟨trivial, ⟨trivial, trivial⟩⟩ rfl (.refl _)

/- slices.Insert[[]impl.Lock,impl.Lock] -/
def slices_Insert_impl_Lock_impl_Lock_h0 (a0 : List GLock) (a1 : Int) (a2 : List GLock) : Option (List GLock) :=
    if (0 ≤ a1 ∧ a1 ≤ (a0.length : Int)) ∧ 0 < a2.length ∧ a0.length + a2.length ≤ 2 ^ 30 then
    some (a0.take a1.toNat ++ a2 ++ a0.drop a1.toNat)
    else none
/- HAND -/
open Go.RowKit

theorem undS_slices_Insert_impl_Lock_impl_Lock_h0 : Try.prog.underlying 38 = some (.slice 125) := by kernel_rfl
theorem undN_slices_Insert_impl_Lock_impl_Lock_h0 : Try.prog.underlying 3 = some (.int .i64) := by kernel_rfl
theorem info_slices_Insert_impl_Lock_impl_Lock_h0 : ∃ i : TypeInfo, Try.prog.info? 125 = some i ∧ i.size = 2 ∧ i.bytes = 40 ∧ i.zero = some (.agg #[.string ⟨#[]⟩, .slice none 0 0]) := info_of (by kernel_rfl)
theorem ov_slices_Insert_impl_Lock_impl_Lock_h0 (w : World) (g vb o m vc lb cb : Nat) (cur curv : Array Value) (e ev : TypeId) (hg : w.heap[g]? = some (.cells cur e (0, 0))) (hv : w.heap[vb]? = some (.cells curv ev (0, 0))) (hne : vb ≠ g) (hs : cur.size ≠ 0) :
    (callFunc 253 #[.slice (some ⟨vb, 0, none⟩) m vc, .slice (some ⟨g, o, none⟩) lb cb]).run Try.prog w = .ok (.value (.bool false)) w := by
  obtain ⟨ti, hti, hts, htb, htz⟩ := info_slices_Insert_impl_Lock_impl_Lock_h0
  rw [run_callFunc_extern Try.func253 (by kernel_rfl) (by kernel_rfl) (by kernel_rfl) (e := Extern.SlicesOverlaps.overlaps #[38, 38] #[4]) (by kernel_rfl),
    Lib.run_overlaps_apart w 38 4 125 undS_slices_Insert_impl_Lock_impl_Lock_h0 2 (fun w => by simp [sizeOf, typeInfo, hti, hts]) ⟨vb, 0, none⟩ ⟨g, o, none⟩ m vc lb cb hne ev e curv.size cur.size (by simp [World.shape?, hv]) (by simp [World.shape?, hg]) hs (by simp [World.frozen?, hv]) (by simp [World.frozen?, hv])]
  rfl

set_option maxRecDepth 100000 in
theorem ins_end_slices_Insert_impl_Lock_impl_Lock_h0 (w : World) (a b : Option Addr) (n c m vc : Nat) (u : Value) (w' : World) (hm : 0 < m)
    (hap : (Builtin.append_ #[38, 38] 38 #[.slice a n c, .slice b m vc]).run Try.prog w = .ok u w') (hu : a ≠ none ∨ (n = 0 ∧ c = 0)) :
    Calls Try.prog 201 #[.slice a n c, .int .i64 n, .slice b m vc] w fun e' w'' => e' = .returned u ∧ w'' = w' := by
  have hz1 : ¬ ((m : Int) = 0) := by omega
  have mixed : Try.prog.follows .mixedOrders = true := by kernel_rfl
  go_enter Try.func201, (show Try.f201.ntmps = 95 from rfl)
  cases a with
  | none =>
    obtain ⟨rfl, rfl⟩ := hu.resolve_left (fun h => h rfl)
    go_wp2_with (at_builtin; refine Lib.wpList_append_run _ rfl _ _ _ _ rfl _ _ rfl rfl _ _ hap ?_)
    go_ret
    exact ⟨rfl, rfl⟩
  | some a =>
    obtain ⟨ab, ao, asp⟩ := a
    go_wp2_with (at_builtin; refine Lib.wpList_append_run _ rfl _ _ _ _ rfl _ _ rfl rfl _ _ hap ?_)
    all_goals (go_ret; exact ⟨rfl, rfl⟩)

set_option maxRecDepth 100000 in
theorem ins_shift_slices_Insert_impl_Lock_impl_Lock_h0 (w : World) (g n c i vb m vc : Nat) (A1 A2 : Array Value) (hi : i < n) (hm : 0 < m) (hroom : n + m ≤ c) (hc : c ≤ maxLen)
    (hov : ∀ o lb cb, (callFunc 253 #[.slice (some ⟨vb, 0, none⟩) m vc, .slice (some ⟨g, o, none⟩) lb cb]).run Try.prog w = .ok (.value (.bool false)) w)
    (h1 : ∀ ty dc sc, (Builtin.copy_ #[38, 38] ty #[.slice (some ⟨g, (i + m) * 2, none⟩) (n + m - (i + m)) dc, .slice (some ⟨g, i * 2, none⟩) (n + m - i) sc]).run Try.prog w.drew = .ok (goInt (n - i : Nat)) (w.drew.setRow g A1))
    (h2 : ∀ ty dc, (Builtin.copy_ #[38, 38] ty #[.slice (some ⟨g, i * 2, none⟩) (n + m - i) dc, .slice (some ⟨vb, 0, none⟩) m vc]).run Try.prog (w.drew.setRow g A1) = .ok (goInt m) ((w.drew.setRow g A1).setRow g A2)) :
    Calls Try.prog 201 #[.slice (some ⟨g, 0, none⟩) n c, .int .i64 i, .slice (some ⟨vb, 0, none⟩) m vc] w fun e' w' =>
      e' = .returned (.slice (some ⟨g, 0, none⟩) (n + m) c) ∧ w' = (w.drew.setRow g A1).setRow g A2 := by
  have hc63 : c ≤ 9223372036854775807 := by unfold maxLen at hc; omega
  have hz1 : ¬ ((m : Int) = 0) := by omega
  have hz2 : ¬ ((i : Int) = (n : Int)) := by omega
  have hw1 : IntKind.i64.wrap ((i : Int) + (m : Int)) = (i : Int) + (m : Int) := by rw [IntKind.wrap_i64]; omega
  have hb1 : (0 : Int) ≤ (i : Int) + (m : Int) := by omega
  have hin : i ≤ n := by omega
  have htn : ((i : Int) + (m : Int)).toNat = i + m := by omega
  have hb2 : ¬ (c = i + m) := by omega
  have hb3 : (i : Int) ≤ (n : Int) + (m : Int) := by omega
  have hb4 : ¬ (c = i) := by omega
  have mixed : Try.prog.follows .mixedOrders = true := by kernel_rfl
  go_enter Try.func201, (show Try.f201.ntmps = 95 from rfl)
  go_wp2_with (simp only [hov])

  go_region_law_o (refine step_copy_runI rfl _ _ 38 38 rfl _ _ (by simp [Act.eval, Act.put]) (by simp [Act.eval, Act.put]) (h1 _ _ _) ?_)
  go_wp2_with (simp only [h2])
  go_ret
  exact ⟨rfl, rfl⟩

set_option maxRecDepth 100000 in
theorem ins_grow_slices_Insert_impl_Lock_impl_Lock_h0 (w : World) (g n c i vb m vc G : Nat) (W1 W2 W3 : World) (hi : i < n) (hm : 0 < m) (hnc : n ≤ c) (hroom : c < n + m) (hG : n + m ≤ G) (hGm : G ≤ maxLen)
    (h0 : ∀ ty, (Builtin.append_ #[38, 3] ty #[.slice (some ⟨g, 0, none⟩) i c, .int .i64 ((n : Int) + (m : Int) - (i : Int))]).run Try.prog w = .ok (.slice (some ⟨w.heap.size, 0, none⟩) (n + m) G) W1)
    (h1 : ∀ ty dc, (Builtin.copy_ #[38, 38] ty #[.slice (some ⟨w.heap.size, i * 2, none⟩) (n + m - i) dc, .slice (some ⟨vb, 0, none⟩) m vc]).run Try.prog W1 = .ok (goInt m) W2)
    (h2 : ∀ ty dc sc, (Builtin.copy_ #[38, 38] ty #[.slice (some ⟨w.heap.size, (i + m) * 2, none⟩) (n + m - (i + m)) dc, .slice (some ⟨g, i * 2, none⟩) (n - i) sc]).run Try.prog W2.drew = .ok (goInt (n - i : Nat)) W3) :
    Calls Try.prog 201 #[.slice (some ⟨g, 0, none⟩) n c, .int .i64 i, .slice (some ⟨vb, 0, none⟩) m vc] w fun e' w' =>
      e' = .returned (.slice (some ⟨w.heap.size, 0, none⟩) (n + m) G) ∧ w' = W3 := by
  have hG63 : G ≤ 9223372036854775807 := by unfold maxLen at hGm; omega
  have hz1 : ¬ ((m : Int) = 0) := by omega
  have hz2 : ¬ ((i : Int) = (n : Int)) := by omega
  have hz3 : (c : Int) < (n : Int) + (m : Int) := by omega
  have hGi : ¬ (G = i) := by omega
  have hGim : ¬ (G = i + m) := by omega
  have hci : ¬ (c = i) := by omega
  have hw1 : IntKind.i64.wrap ((i : Int) + (m : Int)) = (i : Int) + (m : Int) := by rw [IntKind.wrap_i64]; omega
  have hb1 : (0 : Int) ≤ (i : Int) + (m : Int) := by omega
  have hin : i ≤ n := by omega
  have htn : ((i : Int) + (m : Int)).toNat = i + m := by omega
  have hb3 : (i : Int) ≤ (n : Int) := by omega
  have mixed : Try.prog.follows .mixedOrders = true := by kernel_rfl
  go_enter Try.func201, (show Try.f201.ntmps = 95 from rfl)
  go_wp2_with (first
    | (at_builtin; refine Lib.wpList_append_run _ rfl _ _ _ _ rfl _ _ rfl rfl _ _ (h0 _) ?_)
    | simp only [h1])
  go_region_law_o (refine step_copy_runI rfl _ _ 38 38 rfl (.slice (some ⟨w.heap.size, (i + m) * 2, none⟩) (n + m - (i + m)) (G - (i + m))) (.slice (some ⟨g, i * 2, none⟩) (n - i) (c - i)) (by simp [Act.eval, Act.put]) (by simp [Act.eval, Act.put]) (h2 _ _ _) ?_)
  go_wp2
  go_ret
  exact ⟨rfl, rfl⟩

theorem insH_slices_Insert_impl_Lock_impl_Lock_h0 (dm : Md) (l v : List AV) (i : Nat) (hi : i ≤ l.length) (hm : 0 < v.length) (hlim : l.length + v.length ≤ 2 ^ 30) :
    CallHeap Try.prog dm 201 [.own 0 0 l.length, .int .i64 i, .own 1 0 v.length] [.row 2 l, .row 2 v] (.own 2 0 (l.length + v.length)) [.dead, .dead, .row 2 (l.take i ++ v ++ l.drop i)] := by
  intro C σ φ w vals _ _ hok hb hr hv
  simp only [RVs] at hv
  obtain ⟨v1, _, rfl, h1, v2, _, rfl, h2, v3, _, rfl, h3, rfl⟩ := hv
  have e2 : v2 = .int .i64 i := by simpa only [RV] using h2
  subst e2
  obtain ⟨ti, hti, hts, htb, htz⟩ := info_slices_Insert_impl_Lock_impl_Lock_h0
  rcases own_raw hr (o := 1) rfl h3 rfl with ⟨_, rfl, _⟩ | ⟨vb, vc, curv, ev, hσv, rfl, hmc, hvcm, hgv, hcsv, hrepv⟩
  · simp at hm
  have hraw := own_raw hr (o := 0) rfl h1 rfl
  by_cases hin : i = l.length
  · subst hin
    obtain ⟨u, w', σ', φ', k1, k2, k3, k4, k5⟩ := append_sound (P := Try.prog) hr hb (ty' := 38) undS_slices_Insert_impl_Lock_impl_Lock_h0 hti htz (by rw [hts]; rfl) (by omega) (by omega) (cons := true) h1 h3
      (l0 := l) (l1 := v) (n := l.length) (m := v.length) (ks0 := [0]) (ks1 := [1]) (by simp [dstOf, hts]) (by simp [srcOf, hts]) (fun _ h => by cases h) (fun _ _ _ h => by cases h) (fun _ => by decide) hlim
    have key : ∀ a c, v1 = .slice a l.length c → (a ≠ none ∨ (l.length = 0 ∧ c = 0)) → Calls Try.prog 201 #[.slice a l.length c, .int .i64 l.length, .slice (some ⟨vb, 0, none⟩) v.length vc] w fun e' w'' => e' = .returned u ∧ w'' = w' := by
      rintro a c rfl hu
      exact ins_end_slices_Insert_impl_Lock_impl_Lock_h0 w a _ l.length c v.length vc u w' hm k1 hu
    have : Calls Try.prog 201 #[v1, .int .i64 l.length, .slice (some ⟨vb, 0, none⟩) v.length vc] w fun e' w'' => e' = .returned u ∧ w'' = w' := by
      rcases hraw with ⟨rfl, rfl, _⟩ | ⟨g, c, cur, e, _, rfl, _⟩
      · exact key _ _ rfl (.inr ⟨rfl, rfl⟩)
      · exact key _ _ rfl (.inl (by simp))
    refine this.mono ?_
    rintro e' w'' ⟨rfl, rfl⟩
    rw [hts] at k2 k3 k4
    have hL : l.take l.length ++ v ++ l.drop l.length = l ++ v := by simp
    rw [hL]
    exact ⟨σ', φ', k2, k3.x, k4, k5⟩
  · have hil : i < l.length := by omega
    rcases hraw with ⟨_, rfl, _⟩ | ⟨g, c, cur, e, hσ, rfl, hnc, hcm, hg, hcs, hrep⟩
    · simp at hil
    obtain ⟨n, hn⟩ : ∃ n, n = l.length := ⟨_, rfl⟩
    obtain ⟨m, hmm⟩ : ∃ m, m = v.length := ⟨_, rfl⟩
    rw [← hn] at hil hnc hi hlim h1 ⊢
    rw [← hmm] at hm hmc hlim h3 ⊢
    have hlen := hrep.length
    have hlenv := hrepv.length
    rw [← hn] at hlen
    rw [← hmm] at hlenv
    have hcl : cur.toList.length = c * 2 := by rw [← hcs]; simp
    have hone0 := hrep.oneCell
    have honev := hrepv.oneCell
    rw [← hn] at hone0
    rw [← hmm] at honev
    have hvl : (curv.toList.take (m * 2)).length = m * 2 := by rw [List.length_take]; omega
    have hcl2 : ((cur.toList.take (n * 2)).drop (i * 2)).length = (n - i) * 2 := by rw [List.length_drop, List.length_take]; omega
    have hvg : vb ≠ g := by
      rintro rfl
      have := hr.inj 0 1 _ _ vb c vc rfl rfl rfl rfl hσ hσv
      cases this
    have hgb : C.mine g := hr.base 0 _ g c rfl rfl hσ
    have hsv : ∀ j x, (curv.toList.take (m * 2))[j]? = some x → ∀ W : World, W.heap[vb]? = some (.cells curv ev (0, 0)) → W.cell? ((⟨vb, 0, none⟩ : Addr).add j) = some x := fun j x hj W hW => src_at hW 0 (m * 2) j x (by simpa using hj)
    by_cases hroom : n + m ≤ c
    · have hmin1 : Nat.min (n + m - i) (n + m - (i + m)) = n - i := by simp only [Nat.min_def]; split <;> omega
      have hmin2 : Nat.min m (n + m - i) = m := by simp only [Nat.min_def]; split <;> omega
      obtain ⟨A1, hA1⟩ : ∃ A1, A1 = (cur.toList.take ((i + m) * 2) ++ (cur.toList.take (n * 2)).drop (i * 2) ++ cur.toList.drop ((i + m) * 2 + ((cur.toList.take (n * 2)).drop (i * 2)).length)).toArray := ⟨_, rfl⟩
      obtain ⟨A2, hA2⟩ : ∃ A2, A2 = (A1.toList.take (i * 2) ++ curv.toList.take (m * 2) ++ A1.toList.drop (i * 2 + (curv.toList.take (m * 2)).length)).toArray := ⟨_, rfl⟩
      obtain ⟨s1, s2, s3⟩ := ins_cells (z := 2) hi (by omega) hvl hA1 hA2
      have hg1 : w.drew.heap[g]? = some (.cells cur e (0, 0)) := hg
      have hg2 : (w.drew.setRow g A1).heap[g]? = some (.cells A1 e (0, 0)) := setRow_heap _ g cur A1 e _ hg1
      have hv2 : (w.drew.setRow g A1).heap[vb]? = some (.cells curv ev (0, 0)) := (setRow_other _ g vb A1 hvg).trans hgv
      have c1 := fun ty dc sc => run_copy_rowz (P := Try.prog) (ty := ty) w.drew 38 38 125 ti g ((i + m) * 2) (n + m - (i + m)) dc ⟨g, i * 2, none⟩ (n + m - i) sc cur e ((cur.toList.take (n * 2)).drop (i * 2)) undS_slices_Insert_impl_Lock_impl_Lock_h0 hti hg1 (by rw [hmin1, hts]; exact hcl2) (src_at hg1 (i * 2) (n * 2)) (by omega) (fun x hx => hone0 x (List.mem_of_mem_drop hx))
      rw [← hA1, hmin1] at c1
      have c2 := fun ty dc => run_copy_rowz (P := Try.prog) (ty := ty) (w.drew.setRow g A1) 38 38 125 ti g (i * 2) (n + m - i) dc ⟨vb, 0, none⟩ m vc A1 e (curv.toList.take (m * 2)) undS_slices_Insert_impl_Lock_impl_Lock_h0 hti hg2 (by rw [hmin2, hts]; exact hvl) (fun j x hj => hsv j x hj _ hv2) (by rw [hvl]; omega) honev
      rw [← hA2, hmin2] at c2
      refine (ins_shift_slices_Insert_impl_Lock_impl_Lock_h0 w g n c i vb m vc A1 A2 hil hm hroom hcm (fun o lb cb => ov_slices_Insert_impl_Lock_impl_Lock_h0 w g vb o m vc lb cb cur curv e ev hg hgv hvg (by omega)) c1 c2).mono ?_
      rintro e' w' ⟨rfl, rfl⟩
      obtain ⟨σ', φ', k1, k2, k3⟩ := ins_fin (w' := (w.drew.setRow g A1).setRow g A2) hr hb (by simp) hrep hrepv i (by omega) (.inr ⟨c, hσ⟩) (fun b _ hbg => by rw [setRow_other _ _ _ _ hbg, setRow_other _ _ _ _ hbg]; rfl) (setRow_heap _ g A1 A2 e _ hg2) (by omega) hcm (by rw [← hn, ← hmm]; exact s3.trans (by simp))
      refine ⟨σ', φ', k1, k2.x, ?_, ⟨rfl, rfl, rfl, by simp, fun k hk => by rw [setRow_other _ _ _ _ (by have := hgb.1; omega), setRow_other _ _ _ _ (by have := hgb.1; omega)]; rfl⟩⟩
      simp only [RV, List.getElem?_cons_succ, List.getElem?_cons_zero]
      exact ⟨_, c, rfl, by simp only [List.length_append, List.length_take, List.length_drop]; omega, by omega, hcm, by rw [k3]; simp⟩
    · have hmin1 : Nat.min (n - i) (n + m - (i + m)) = n - i := by simp only [Nat.min_def]; split <;> omega
      have hmin2 : Nat.min m (n + m - i) = m := by simp only [Nat.min_def]; split <;> omega
      obtain ⟨G, hG⟩ : ∃ G, G = grownCap w (n + m) c 125 := ⟨_, rfl⟩
      have hGe : n + m ≤ G := by rw [hG]; exact grownCap_ge w (n + m) c 125
      have hGm : G ≤ maxLen := by rw [hG]; exact grownCap_le_maxLen w (n + m) c 125 (by simp only [maxLen]; omega)
      have hoT : (cur.toList.take (i * 2)).length = i * 2 := by rw [List.length_take]; omega
      have hold : (Builtin.firstCells ti.size i (.slice (some ⟨g, 0, none⟩) i c)).run Try.prog w.drew = .ok (cur.toList.take (i * 2)).toArray w.drew := by
        refine run_firstCells_some (P := Try.prog) w.drew ti.size i ⟨g, 0, none⟩ i c _ (by rw [hoT, hts]) ?_
        intro j x hj
        have := src_at (w := w.drew) hg 0 (i * 2) j x (by simpa using hj)
        exact this
      have hik : i + (n + m - i) = n + m := by omega
      have hkk : (n : Int) + (m : Int) - (i : Int) = ((n + m - i : Nat) : Int) := by omega
      have hz := fun ty => Lib.run_append_grow_zeros (P := Try.prog) w 38 3 ty 125 ti _ .i64 .i64 undS_slices_Insert_impl_Lock_impl_Lock_h0 undN_slices_Insert_impl_Lock_impl_Lock_h0 hti htz (some ⟨g, 0, none⟩) i c _ hold (n + m - i) (by omega) (by omega) (by omega) (by omega) (by rw [htb]; omega) (by rw [htb, hik]; exact growslice_fits (by omega) (by omega))
      rw [hik, ← hG] at hz
      obtain ⟨R, hR⟩ : ∃ R, R = (Builtin.zeroCells (Value.agg #[.string ⟨#[]⟩, .slice none 0 0]).cells (n + m - i)).toList ++ (Builtin.zeroCells (Value.agg #[.string ⟨#[]⟩, .slice none 0 0]).cells (G - (n + m))).toList := ⟨_, rfl⟩
      have hRl : R.length = (n + m - i) * 2 + (G - (n + m)) * 2 := by
        rw [hR, List.length_append, Array.length_toList, Array.length_toList, size_zeroCells, size_zeroCells]
        rfl
      have hrow : ((cur.toList.take (i * 2)).toArray ++ Builtin.zeroCells (Value.agg #[.string ⟨#[]⟩, .slice none 0 0]).cells (n + m - i) ++ Builtin.zeroCells (Value.agg #[.string ⟨#[]⟩, .slice none 0 0]).cells (G - (n + m))) = (cur.toList.take (i * 2) ++ R).toArray := by
        rw [hR]
        apply Array.toList_inj.1
        simp
      rw [hrow] at hz
      obtain ⟨W1, hW1⟩ : ∃ W1, W1 = w.drew.alloc (.cells (cur.toList.take (i * 2) ++ R).toArray 125) := ⟨_, rfl⟩
      rw [← hW1] at hz
      have hn1 : W1.heap[w.heap.size]? = some (.cells (cur.toList.take (i * 2) ++ R).toArray 125 (0, 0)) := by rw [hW1]; exact heap_alloc_new w.drew _
      have hold1 : ∀ b, b < w.heap.size → W1.heap[b]? = w.heap[b]? := fun b hb => by rw [hW1]; exact heap_alloc_old w.drew _ hb
      have hgl : g < w.heap.size := lt_of_heap hg
      have hvl2 : vb < w.heap.size := lt_of_heap hgv
      obtain ⟨B1, hB1⟩ : ∃ B1, B1 = (cur.toList.take (i * 2) ++ curv.toList.take (m * 2) ++ R.drop (curv.toList.take (m * 2)).length).toArray := ⟨_, rfl⟩
      obtain ⟨B2, hB2⟩ : ∃ B2, B2 = (B1.toList.take ((i + m) * 2) ++ (cur.toList.take (n * 2)).drop (i * 2) ++ B1.toList.drop ((i + m) * 2 + ((cur.toList.take (n * 2)).drop (i * 2)).length)).toArray := ⟨_, rfl⟩
      obtain ⟨s1, s2, s3⟩ := ins_cells2 (z := 2) (R := R) hi hlen hvl (by omega) hB1 hB2
      have c1 := fun ty dc => run_copy_rowz (P := Try.prog) (ty := ty) W1 38 38 125 ti w.heap.size (i * 2) (n + m - i) dc ⟨vb, 0, none⟩ m vc _ 125 (curv.toList.take (m * 2)) undS_slices_Insert_impl_Lock_impl_Lock_h0 hti hn1 (by rw [hmin2, hts]; exact hvl) (fun j x hj => hsv j x hj _ ((hold1 vb hvl2).trans hgv)) (by rw [hvl, List.size_toArray, List.length_append, hoT, hRl]; omega) honev
      have hb1 : ((cur.toList.take (i * 2) ++ R).toArray.toList.take (i * 2) ++ curv.toList.take (m * 2) ++ (cur.toList.take (i * 2) ++ R).toArray.toList.drop (i * 2 + (curv.toList.take (m * 2)).length)).toArray = B1 := by
        rw [hB1]
        simp only []
        rw [List.take_left' hoT, ← List.drop_drop, List.drop_left' hoT]
      rw [hb1, hmin2] at c1
      obtain ⟨W2, hW2⟩ : ∃ W2, W2 = W1.setRow w.heap.size B1 := ⟨_, rfl⟩
      rw [← hW2] at c1
      have hn2 : W2.drew.heap[w.heap.size]? = some (.cells B1 125 (0, 0)) := by rw [hW2]; exact setRow_heap W1 _ _ B1 125 _ hn1
      have hg2 : W2.drew.heap[g]? = some (.cells cur e (0, 0)) := by rw [hW2]; exact (setRow_other W1 _ g B1 (by omega)).trans ((hold1 g hgl).trans hg)
      have c2 := fun ty dc sc => run_copy_rowz (P := Try.prog) (ty := ty) W2.drew 38 38 125 ti w.heap.size ((i + m) * 2) (n + m - (i + m)) dc ⟨g, i * 2, none⟩ (n - i) sc B1 125 ((cur.toList.take (n * 2)).drop (i * 2)) undS_slices_Insert_impl_Lock_impl_Lock_h0 hti hn2 (by rw [hmin1, hts]; exact hcl2) (src_at hg2 (i * 2) (n * 2)) (by omega) (fun x hx => hone0 x (List.mem_of_mem_drop hx))
      rw [← hB2, hmin1] at c2
      rw [← hkk] at hz
      refine (ins_grow_slices_Insert_impl_Lock_impl_Lock_h0 w g n c i vb m vc G W1 W2 _ hil hm hnc (by omega) hGe hGm hz c1 c2).mono ?_
      rintro e' w' ⟨rfl, rfl⟩
      have hblk : ∀ b, b < w.heap.size → (W2.drew.setRow w.heap.size B2).heap[b]? = w.heap[b]? := fun b hb => by
        rw [setRow_other _ _ _ _ (by omega)]
        show W2.heap[b]? = _
        rw [hW2, setRow_other _ _ _ _ (by omega), hold1 b hb]
      have hsz : (W2.drew.setRow w.heap.size B2).heap.size = w.heap.size + 1 := by
        rw [hW2, hW1]
        simp [World.alloc]
      obtain ⟨σ', φ', k1, k2, k3⟩ := ins_fin (w' := W2.drew.setRow w.heap.size B2) (c' := G) hr hb (by omega) hrep hrepv i (by omega) (.inl (Nat.le_refl _)) (fun b hb _ => hblk b hb) (setRow_heap _ _ B1 B2 125 _ hn2) (by omega) hGm (by rw [← hn, ← hmm]; exact s3.trans (by simp))
      refine ⟨σ', φ', k1, k2.x, ?_, ⟨by rw [hW2, hW1]; rfl, by rw [hW2, hW1]; rfl, by rw [hW2, hW1]; rfl, by omega, fun k hk => hblk k (by have := (hb _ (Nat.le_refl _)).1; omega)⟩⟩
      simp only [RV, List.getElem?_cons_succ, List.getElem?_cons_zero]
      exact ⟨_, G, rfl, by simp only [List.length_append, List.length_take, List.length_drop]; omega, hGe, hGm, by rw [k3]; simp⟩
theorem w_slices_Insert_impl_Lock_impl_Lock_h0 (a0 : List GLock) (a1 : Int) (a2 : List GLock) (r : List GLock) (hf : slices_Insert_impl_Lock_impl_Lock_h0 a0 a1 a2 = some r) : CallHeap Try.prog true 201 [.own 0 0 a0.length, .int .i64 a1, .own 1 0 a2.length] [.row 2 (a0.map encGLock), .row 2 (a2.map encGLock)] (.own 2 0 r.length) [.dead, .dead, .row 2 (r.map encGLock)] := by
  unfold slices_Insert_impl_Lock_impl_Lock_h0 at hf
  split at hf
  · rename_i h
    obtain rfl := os hf
    obtain ⟨i, rfl⟩ : ∃ i : Nat, a1 = i := ⟨a1.toNat, by omega⟩
    have := insH_slices_Insert_impl_Lock_impl_Lock_h0 true (a0.map encGLock) (a2.map encGLock) i (by rw [List.length_map]; omega) (by rw [List.length_map]; omega) (by rw [List.length_map, List.length_map]; omega)
    rw [List.length_map, List.length_map] at this
    simp only [Int.toNat_natCast, List.map_append, List.map_take, List.map_drop, List.length_append, List.length_take, List.length_drop]
    rw [Nat.min_eq_left (by omega), show i + a2.length + (a0.length - i) = a0.length + a2.length by omega]
    exact this
  · cases hf

/- impl.withLock -/
def c117 : ACode :=
 (.seq (.reg (tm 4 (.c .nil) (tm 5 (.c (.int .i64 0)) (tm 6 (.c (.int .i64 0)) .done))))
 (.seq (.reg (tm 10 (.t 0) (tq 11 (.call 98 [(.t 10)]) (tm 7 (.t 11) .done))))
 (.seq (.reg (tm 13 (.t 7) (tm 14 (.t 1) (tq 15 (.call 99 [(.t 13), (.t 14)]) (tm 12 (.t 15) (tq 16 (.extract 0 (.t 12)) (tq 17 (.extract 1 (.t 12)) (tm 8 (.t 16) (tm 9 (.t 17) .done)))))))))
 (.seq (.block 0 (.seq (.reg (tm 19 (.t 9) (tm 18 (.t 19) .done)))
 (.cond (.t 18) (.seq (.reg (tm 20 (.t 7) (tm 21 (.t 8) (tm 4 (.t 20) (tm 5 (.t 21) (tm 6 (.c (.int .i64 0)) .done))))))
 .ret)
 (.seq (.reg (tm 23 (.t 7) (tq 24 (.len (.t 23)) (tq 25 (.bin .eql (.t 24) (.c (.int .i64 6))) (tm 22 (.t 25) .done)))))
 (.cond (.t 22) (.seq (.reg (tm 26 (.t 7) (tm 4 (.t 26) (tm 5 (.c (.int .i64 0)) (tm 6 (.c (.int .i64 7)) .done)))))
 .ret)
 .skip)))))
 (.seq (.reg (tm 27 (.t 7) (tm 28 (.t 8) (tm 29 (.t 1) (tq 30 (.build [(.str []), .nil] [(0, 1, (.t 29))]) (tq 31 (.bslice 2 [(.t 30)]) (tq 32 (.call 201 [(.t 27), (.t 28), (.t 31)]) (tm 33 (.t 8) (tm 4 (.t 32) (tm 5 (.t 33) (tm 6 (.c (.int .i64 0)) .done)))))))))))
 .ret)))))
theorem fc117 : fcomp Try.prog Try.f117 = some (c117.erase, [.mov (.t 4), .mov (.t 5), .mov (.t 6)], 34) := by kernel_rfl
def impl_withLock (list_1 : (List GLock)) (name_2 : Str) : Option ((List GLock) × Int × Int) :=
    (impl_copyLocks list_1).bind fun r_3 =>
    (impl_lockAt r_3 name_2).bind fun r_5 =>
    if r_5.2 then
    some (r_3, r_5.1, 0)
    else
    if ((r_3.length : Int) == 6) then
    some (r_3, 0, 7)
    else
    (slices_Insert_impl_Lock_impl_Lock_h0 r_3 r_5.1 [(⟨name_2, []⟩ : GLock)]).bind fun r_10 =>
    some (r_10, r_5.1, 0)
theorem w_impl_withLock (list_1 : (List GLock)) (name_2 : Str) (r : ((List GLock) × Int × Int)) (hf : impl_withLock list_1 name_2 = some r) : CallOK Try.prog 117 .fresh [(.lst 2 (list_1.map encGLock)), (.str name_2)] (.tup [(.lst 2 (r.1.map encGLock)), (.int .i64 r.2.1), (.int .i64 r.2.2)]) := by
 refine CallOK.of_awp mixed Try.func117 fc117 nle ?_; rw [argT_eq]; unfold impl_withLock at hf; unfold c117; refine (show awp Try.prog true 0 _ (ofL [(0, (.lst 2 (list_1.map encGLock))), (1, (.str name_2))]) [] _ from ?_); refine awp_seq <| w_reg <| s_mov .nil rfl <| s_mov (.int .i64 0) rfl <| s_mov (.int .i64 0) rfl <| w_done <| k_seq <| awp_seq <| w_reg <| ?_
 obtain ⟨r_3, er4, hf⟩ := ob hf
 refine s_mov (.lst 2 (list_1.map encGLock)) rfl <| s_do (o_callf (v := (.own 0 0 r_3.length)) (h' := [.row 2 (r_3.map encGLock)]) (w_impl_copyLocks _ _ er4) rfl (.refl _) (by simp only [openV, openVs, List.length_map, List.nil_append, List.append_nil, List.cons_append]; rfl)) <| s_mov (.own 0 0 r_3.length) rfl <| w_done <| k_seq <| awp_seq <| w_reg <| ?_
 obtain ⟨r_5, er6, hf⟩ := ob hf
 refine s_mov (.own 0 0 r_3.length) rfl <| s_mov (.str name_2) rfl <| s_do (o_call (w_impl_lockAt _ _ _ er6) rfl (.cons (.of_eq (congrArg (AV.lst _) (tko r_3))) (.cons (.refl _) .nil)) rfl) <| s_mov (.tup [(.int .i64 r_5.1), (.bool r_5.2)]) rfl <| s_q (.int .i64 r_5.1) rfl nle rfl <| s_q (.bool r_5.2) rfl nle rfl <| s_mov (.int .i64 r_5.1) rfl <| s_mov (.bool r_5.2) rfl <| w_done <| k_seq <| awp_seq <| w_blk <| awp_seq <| w_reg <| s_mov (.bool r_5.2) rfl <| s_mov (.bool r_5.2) rfl <| w_done <| k_seq <| ?_
 rcases oi hf with ⟨c7, hf⟩ | ⟨c7, hf⟩
 ·refine w_condt rfl c7 <| awp_seq <| w_reg <| s_mov (.own 0 0 r_3.length) rfl <| s_mov (.int .i64 r_5.1) rfl <| s_mov (.own 0 0 r_3.length) rfl <| s_mov (.int .i64 r_5.1) rfl <| s_mov (.int .i64 0) rfl <| w_done <| k_seq <| w_ret <| ?_; obtain rfl := os hf; exact r_fresh ⟨trivial, ⟨trivial, ⟨trivial, trivial⟩⟩⟩ rfl (by decide) (.tup (.cons (.of_eq (congrArg (AV.lst _) (tk (enc := encGLock) r_3))) (.cons (.refl _) (.cons (.refl _) .nil))))
 ·refine w_condf rfl (bf c7) <| awp_seq <| w_reg <| s_mov (.own 0 0 r_3.length) rfl <| s_dof (o_lenown rfl rfl) fun hl8 => s_q (.bool ((r_3.length : Int) == 6)) rfl rfl rfl <| s_mov (.bool ((r_3.length : Int) == 6)) rfl <| w_done <| k_seq <| ?_
  rcases oi hf with ⟨c9, hf⟩ | ⟨c9, hf⟩
  ·refine w_condt rfl c9 <| awp_seq <| w_reg <| s_mov (.own 0 0 r_3.length) rfl <| s_mov (.own 0 0 r_3.length) rfl <| s_mov (.int .i64 0) rfl <| s_mov (.int .i64 7) rfl <| w_done <| k_seq <| w_ret <| ?_; obtain rfl := os hf; exact r_fresh ⟨trivial, ⟨trivial, ⟨trivial, trivial⟩⟩⟩ rfl (by decide) (.tup (.cons (.of_eq (congrArg (AV.lst _) (tk (enc := encGLock) r_3))) (.cons (.refl _) (.cons (.refl _) .nil))))
  ·refine w_condf rfl (bf c9) <| w_skip <| k_blk <| k_seq <| awp_seq <| w_reg <| ?_
   obtain ⟨r_10, er11, hf⟩ := ob hf
   refine s_mov (.own 0 0 r_3.length) rfl <| s_mov (.int .i64 r_5.1) rfl <| s_mov (.str name_2) rfl <| s_q (.agg [(.str name_2), .nil]) rfl ⟨⟨rfl, nle, trivial⟩, trivial⟩ rfl <| ?_; refine s_do (o_bslice (j := 1) (as' := [(encGLock (⟨name_2, []⟩ : GLock))]) rfl (fun _ => by decide) ⟨rfl, trivial⟩ (.cons (.agg (.cons (.refl _) (.cons (.nil _) .nil))) .nil) rfl rfl rfl) ?_; refine s_do (o_callh (v := (.own 2 0 r_10.length)) (h2 := [.dead, .dead, .row 2 (r_10.map encGLock)]) [] [0, 1] (fun _ => rfl) (w_slices_Insert_impl_Lock_impl_Lock_h0 _ _ _ _ er11) rfl (.cons (.refl _) (.cons (.refl _) (.cons (.of_eq (congrArg (AV.own _ 0) (by simp))) .nil))) (.refl _) rfl rfl) ?_; refine s_mov (.int .i64 r_5.1) rfl <| s_mov (.own 2 0 r_10.length) rfl <| ?_
   refine s_mov (.int .i64 r_5.1) rfl <| s_mov (.int .i64 0) rfl <| w_done <| k_seq <| w_ret <| ?_; obtain rfl := os hf; exact r_fresh ⟨trivial, ⟨trivial, ⟨trivial, trivial⟩⟩⟩ rfl (by decide) (.tup (.cons (.of_eq (congrArg (AV.lst _) (tk (enc := encGLock) r_10))) (.cons (.refl _) (.cons (.refl _) .nil))))

/- slices.IndexFunc[[]int,int] -/
def c202 : ACode :=
 (.seq (.reg (tm 4 (.c (.int .i64 0)) .done))
 (.seq (.seq (.reg (tm 6 (.t 0) (tq 7 (.len (.t 6)) (tm 8 (.c (.int .i64 0)) .done))))
 (.block 0 (.loop (.seq (.reg (tq 9 (.bin .lss (.t 8) (.t 7)) .done))
 (.seq (.cond (.t 9) .skip
 (.exit 0))
 (.seq (.block 1 (.seq (.reg (tm 10 (.t 8) (tm 5 (.t 10) .done)))
 (.seq (.reg (tm 11 (.t 1) (tm 12 (.t 0) (tm 13 (.t 5) (tq 14 (.iaddr 1 (.t 12) (.t 13)) (tq 15 (.load 1 false (.t 14)) (tq 16 (.calv (.t 11) [(.t 15)]) .done)))))))
 (.cond (.t 16) (.seq (.reg (tm 17 (.t 5) (tm 4 (.t 17) .done)))
 .ret)
 .skip))))
 (.reg (tq 18 (.bin .add (.t 8) (.c (.int .i64 1))) (tm 8 (.t 18) .done)))))))))
 (.cut (.seq (.reg (tq 4 (.mov (.c (.int .i64 (-1)))) .done))
 .ret))))
theorem fc202 : fcomp Try.prog Try.f202 = some (c202.erase, [.mov (.t 4)], 19) := by kernel_rfl
def slices_IndexFunc_int_int_L1 (f_2 : (Int → Option Bool)) : List Int → Nat → Option (Fl Int Unit)
  | [], s8_17 =>
    some (.go ())
  | x_31 :: xs, s8_17 =>
    (f_2 x_31).bind fun r_32 =>
    if r_32 then
    some (.ret (s8_17 : Int))
    else
    slices_IndexFunc_int_int_L1 f_2 xs (s8_17 + 1)

def slices_IndexFunc_int_int (s_1 : (List Int)) (f_2 : (Int → Option Bool)) : Option Int :=
    (slices_IndexFunc_int_int_L1 f_2 s_1 0).bind fun q => (match q with
    | .ret r => some r
    | .go _ =>
    some (-1))
theorem w_slices_IndexFunc_int_int (s_1 : (List Int)) (f_2 : (Int → Option Bool)) (r : Int) (hf : slices_IndexFunc_int_int s_1 f_2 = some r) (kf_f_2 : Nat) (cf_f_2 : List AV) (okf_f_2 : okFn Try.prog kf_f_2 = true) (hcf_f_2 : ∀ h p, closeWs h p cf_f_2 = some cf_f_2) (hrf_f_2 : ∀ f, rens f cf_f_2 = cf_f_2) (hpf_f_2 : ∀ a0 r, f_2 a0 = some r → CallOK Try.prog kf_f_2 .flat ([(.int .i64 a0)] ++ cf_f_2) (.bool r)) : CallOK Try.prog 202 .flat [(.lst 1 (s_1.map encI)), (.fn kf_f_2 cf_f_2)] (.int .i64 r) := by
 refine CallOK.of_awp mixed Try.func202 fc202 nle ?_; rw [argT_eq]; unfold slices_IndexFunc_int_int at hf; unfold c202; refine (show awp Try.prog false 0 _ (ofL [(0, (.lst 1 (s_1.map encI))), (1, (.fn kf_f_2 cf_f_2))]) [] _ from ?_); refine awp_seq <| w_reg <| s_mov (.int .i64 0) rfl <| w_done <| k_seq <| awp_seq <| awp_seq <| w_reg <| s_mov (.lst 1 (s_1.map encI)) rfl <| s_dof (o_len (enc := encI) rfl) fun hl3 => s_mov (.int .i64 0) rfl <| w_done <| k_seq <| ?_
 obtain ⟨p24, hb1, hf⟩ := ob hf
 refine awp_cutx (X := {q : Unit // p24 = .go q}) (fun q => ([], [])) ?_ ?_
 ·refine awp_loop (X := {q : Nat // slices_IndexFunc_int_int_L1 f_2 (s_1.drop q) q = some p24}) (fun q => ([(0, (.lst 1 (s_1.map encI))), (1, (.fn kf_f_2 cf_f_2)), (7, (.int .i64 (s_1.length : Int))), (8, (.int .i64 (q.1 : Int)))], [])) (fun q => s_1.length - q.1) ⟨0, hb1⟩ ⟨[], [], _, _, rfl, rfl, ⟨.refl _, ⟨.of_eq (congrArg (AV.fn _) (hrf_f_2 _)), ⟨.refl _, ⟨.refl _, trivial⟩⟩⟩⟩, (.refl _)⟩ ?_
  rintro ⟨s8_17, hc1⟩
  have hc1 : slices_IndexFunc_int_int_L1 f_2 (s_1.drop s8_17) s8_17 = some p24 := hc1
  refine (show awp Try.prog false 0 _ (ofL [(0, (.lst 1 (s_1.map encI))), (1, (.fn kf_f_2 cf_f_2)), (7, (.int .i64 (s_1.length : Int))), (8, (.int .i64 (s8_17 : Int)))]) [] _ from ?_)
  rcases dropc s_1 s8_17 with ⟨hie27, hd30⟩ | ⟨hlt25, x_31, hx26, hd30⟩
  ·rw [hd30, slices_IndexFunc_int_int_L1.eq_1] at hc1
   have hq29 := dlf hie27
   refine awp_seq <| w_reg <| s_q (.bool (decide ((s8_17 : Int) < (s_1.length : Int)))) rfl rfl rfl <| w_done <| k_seq <| awp_seq <| w_condf rfl hq29 <| w_exit <| k_seqx <| k_loopx <| k_blkx <| ?_; obtain rfl := os hc1; exact k_cutn ⟨_, rfl⟩ ⟨[], [], _, _, rfl, rfl, trivial, (.refl _)⟩
  ·rw [hd30, slices_IndexFunc_int_int_L1.eq_2] at hc1
   have hq29 := dlt hlt25
   refine awp_seq <| w_reg <| s_q (.bool (decide ((s8_17 : Int) < (s_1.length : Int)))) rfl rfl rfl <| w_done <| k_seq <| awp_seq <| w_condt rfl hq29 <| w_skip <| k_seq <| awp_seq <| w_blk <| awp_seq <| w_reg <| s_mov (.int .i64 (s8_17 : Int)) rfl <| s_mov (.int .i64 (s8_17 : Int)) rfl <| w_done <| k_seq <| awp_seq <| w_reg <| ?_
   obtain ⟨r_32, er33, hc1⟩ := ob hc1
   refine s_mov (.fn kf_f_2 cf_f_2) rfl <| s_mov (.lst 1 (s_1.map encI)) rfl <| s_mov (.int .i64 (s8_17 : Int)) rfl <| s_do (o_iaddrn (enc := encI) rfl rfl hx26) <| s_q (.int .i64 x_31) rfl ⟨rfl, rfl⟩ rfl <| s_do (o_calvp (v := (.bool r_32)) rfl okf_f_2 hcf_f_2 (hpf_f_2 _ _ er33) rfl (.refl _) rfl) <| w_done <| k_seq <| ?_
   rcases oi hc1 with ⟨c34, hc1⟩ | ⟨c34, hc1⟩
   ·refine w_condt rfl c34 <| awp_seq <| w_reg <| s_mov (.int .i64 (s8_17 : Int)) rfl <| s_mov (.int .i64 (s8_17 : Int)) rfl <| w_done <| k_seq <| w_ret <| ?_; obtain rfl := os hc1; obtain rfl := os hf; exact r_flat ⟨trivial, trivial⟩ rfl (.refl _)
   ·refine w_condf rfl (bf c34) <| w_skip <| k_blk <| k_seq <| w_reg <| s_q (.int .i64 (w64 ((s8_17 : Int) + 1))) rfl rfl rfl <| s_mov (.int .i64 (w64 ((s8_17 : Int) + 1))) rfl <| w_done <| ?_; exact k_loopn ⟨(s8_17 + 1), hc1⟩ (mul hlt25) ⟨[], [], _, _, rfl, rfl, ⟨.refl _, ⟨.of_eq (congrArg (AV.fn _) (hrf_f_2 _)), ⟨.refl _, ⟨.of_eq (congrArg (AV.int _) (w64_incr hlt25 hl3)), trivial⟩⟩⟩⟩, (.refl _)⟩
 ·rintro ⟨_, rfl⟩
  refine awp_seq <| w_reg <| s_mov (.int .i64 (-1)) rfl <| w_done <| k_seq <| w_ret <| ?_; obtain rfl := os hf; exact r_flat ⟨trivial, trivial⟩ rfl (.refl _)

/- impl.StealLock$1 -/
def c121 : ACode :=
 (.seq (.reg (tm 3 (.c (.bool false)) .done))
 (.seq (.reg (tm 4 (.t 0) (tq 5 (.load 1 false (.t 1)) (tq 6 (.bin .eql (.t 4) (.t 5)) (tm 3 (.t 6) .done)))))
 .ret))
theorem fc121 : fcomp Try.prog Try.f121 = some (c121.erase, [.mov (.t 3)], 7) := by kernel_rfl
def impl_StealLock_1 (own_1 : Int) (cap_2 : Int) : Option Bool :=
    some (own_1 == cap_2)
theorem w_impl_StealLock_1 (own_1 : Int) (cap_2 : Int) (r : Bool) (hf : impl_StealLock_1 own_1 cap_2 = some r) : CallOK Try.prog 121 .flat [(.int .i64 own_1), (.iptr (.int .i64 cap_2) 0)] (.bool r) := by
  refine CallOK.of_awp mixed Try.func121 fc121 nle ?_
  rw [argT_eq]
  unfold impl_StealLock_1 at hf
  unfold c121
  refine (show awp Try.prog false 0 _ (ofL [(0, (.int .i64 own_1)), (1, (.iptr (.int .i64 cap_2) 0))]) [] _ from ?_)
  refine awp_seq ?_
  refine w_reg ?_
  refine s_do (o_mov (.bool false) rfl) ?_
  refine w_done ?_
  refine k_seq ?_
  refine awp_seq ?_
  refine w_reg ?_
  refine s_do (o_mov (.int .i64 own_1) rfl) ?_
  refine s_do (o_q (.int .i64 cap_2) rfl ⟨rfl, rfl⟩ rfl) ?_
  refine s_do (o_q (.bool (own_1 == cap_2)) rfl rfl rfl) ?_
  refine s_do (o_mov (.bool (own_1 == cap_2)) rfl) ?_
  refine w_done ?_
  refine k_seq ?_
  refine w_ret ?_
  obtain rfl := os hf
  exact r_flat ⟨trivial, trivial⟩ rfl (.refl _)

/- slices.DeleteFunc[[]int,int] -/
def c119_h0 : ACode :=
 (.seq (.reg (tm 4 (.c .nil) .done))
 (.seq (.reg (tm 8 (.t 0) (tm 9 (.t 1) (tq 10 (.call 202 [(.t 8), (.t 9)]) (tm 5 (.t 10) .done)))))
 (.seq (.seq (.reg (tm 11 (.t 5) (tq 12 (.bin .eql (.t 11) (.c (.int .i64 (-1)))) .done)))
 (.cond (.t 12) (.seq (.reg (tm 13 (.t 0) (tm 4 (.t 13) .done)))
 .ret)
 .skip))
 (.seq (.seq (.reg (tm 14 (.t 5) (tq 15 (.bin .add (.t 14) (.c (.int .i64 1))) (tm 6 (.t 15) .done))))
 (.block 0 (.loop (.seq (.seq (.reg (tm 16 (.t 6) (tm 17 (.t 0) (tq 18 (.len (.t 17)) (tq 19 (.bin .lss (.t 16) (.t 18)) .done)))))
 (.cond (.t 19) .skip
 (.exit 0)))
 (.seq (.block 1 (.seq (.reg (tm 22 (.t 0) (tm 23 (.t 6) (tq 24 (.iaddr 1 (.t 22) (.t 23)) (tq 25 (.load 1 false (.t 24)) (tm 7 (.t 25) .done))))))
 (.seq (.reg (tm 26 (.t 1) (tm 27 (.t 7) (tq 28 (.calv (.t 26) [(.t 27)]) (tq 29 (.not (.t 28)) .done)))))
 (.cond (.t 29) (.seq (.reg (tm 30 (.t 0) (tm 31 (.t 5) (tm 32 (.t 7) (tq 33 (.iaddr 1 (.t 30) (.t 31)) (.q ⟨none, none, .store 1 (.t 33) (.t 32)⟩
 .done))))))
 (.reg (tm 34 (.t 5) (tq 35 (.bin .add (.t 34) (.c (.int .i64 1))) (tm 5 (.t 35) .done)))))
 .skip))))
 (.reg (tm 20 (.t 6) (tq 21 (.bin .add (.t 20) (.c (.int .i64 1))) (tm 6 (.t 21) .done)))))))))
 (.cut (.seq (.reg (tm 36 (.t 0) (tm 37 (.t 5) (tq 38 (.slice 1 (.t 36) (some (.t 37)) none) (.q ⟨none, none, .clr 1 (.int .i64 0) (.t 38)⟩
 .done)))))
 (.seq (.reg (tm 39 (.t 0) (tm 40 (.t 5) (tq 41 (.slice 1 (.t 39) none (some (.t 40))) (tm 4 (.t 41) .done)))))
 .ret)))))))
theorem fc119_h0 : fcomp Try.prog Try.f119 = some (c119_h0.erase, [.mov (.t 4)], 42) := by kernel_rfl
def slices_DeleteFunc_int_int_h0_L1 (c_2 : Int) : Nat → Int → Int → (List Int) → Option (Int × (List Int))
  | 0, _, _, _ => none
  | k + 1, i_71, j_72, s_73 =>
    if (decide (j_72 < (s_73.length : Int))) then
    if (0 : Int) ≤ j_72 ∧ j_72 < (s_73.length : Int) then
    (s_73[(0 + j_72.toNat)]?).bind fun x_91 =>
    (impl_StealLock_1 x_91 c_2).bind fun r_93 =>
    if (!r_93) then
    if (0 : Int) ≤ i_71 ∧ i_71 < (s_73.length : Int) then
    (s_73[(0 + i_71.toNat)]?).bind fun x_97 =>
    slices_DeleteFunc_int_int_h0_L1 c_2 k (w64 (i_71 + 1)) (w64 (j_72 + 1)) (s_73.set (0 + i_71.toNat) x_91)
    else none
    else
    slices_DeleteFunc_int_int_h0_L1 c_2 k i_71 (w64 (j_72 + 1)) s_73
    else none
    else
    some (i_71, s_73)

def slices_DeleteFunc_int_int_h0 (s_1 : (List Int)) (c_2 : Int) : Option ((List Int) × Int) :=
    (slices_IndexFunc_int_int s_1 (fun a0 => impl_StealLock_1 a0 c_2)).bind fun r_3 =>
    if (r_3 == (-1)) then
    some (s_1, c_2)
    else
    (slices_DeleteFunc_int_int_h0_L1 c_2 FUEL r_3 (w64 (r_3 + 1)) s_1).bind fun p87 =>
    (match p87 with
    | (i_85, s_86) =>
    if (0 : Int) ≤ i_85 ∧ i_85 ≤ (s_86.length : Int) then
    if (0 : Int) ≤ i_85 ∧ i_85 ≤ (s_86.length : Int) then
    some ((s_86.take i_85.toNat ++ List.replicate (s_86.length - i_85.toNat) 0 ++ s_86.drop (i_85.toNat + (s_86.length - i_85.toNat))).take i_85.toNat, c_2)
    else none
    else none)
theorem w_slices_DeleteFunc_int_int_h0 (s_1 : (List Int)) (c_2 : Int) (r : ((List Int) × Int)) (hf : slices_DeleteFunc_int_int_h0 s_1 c_2 = some r) : CallHeap Try.prog true 119 [(.own 0 0 s_1.length), (.fn 121 [(.ptr 1 0 0)])] [.row 1 (s_1.map encI), .box 1 (.int .i64 c_2)] (.own 2 0 r.1.length) [.dead, .box 1 (.int .i64 r.2), .row 1 (r.1.map encI)] := by
 refine CallHeap.of_awp mixed Try.func119 fc119_h0 nle ?_; rw [argT_eq]; unfold slices_DeleteFunc_int_int_h0 at hf; unfold c119_h0; refine (show awp Try.prog true 2 _ (ofL [(0, (.own 0 0 s_1.length)), (1, (.fn 121 [(.ptr 1 0 0)]))]) [.row 1 (s_1.map encI), .box 1 (.int .i64 c_2)] _ from ?_); refine awp_seq <| w_reg <| s_mov .nil rfl <| w_done <| k_seq <| awp_seq <| w_reg <| ?_
 obtain ⟨r_3, er4, hf⟩ := ob hf
 refine s_mov (.own 0 0 s_1.length) rfl <| s_mov (.fn 121 [(.ptr 1 0 0)]) rfl <| ?_; refine s_do (o_call (w_slices_IndexFunc_int_int _ _ _ er4 121 [(.iptr (.int .i64 c_2) 0)] (by kernel_rfl) (fun _ _ => rfl) (fun _ => rfl) (fun a0 r h => w_impl_StealLock_1 a0 c_2 r h)) rfl (.cons (.of_eq (congrArg (AV.lst _) (tko s_1))) (.cons (.refl _) .nil)) rfl) ?_; refine s_mov (.int .i64 r_3) rfl <| w_done <| k_seq <| awp_seq <| awp_seq <| w_reg <| s_mov (.int .i64 r_3) rfl <| s_q (.bool (r_3 == (-1))) rfl rfl rfl <| w_done <| k_seq <| ?_
 rcases oi hf with ⟨c5, hf⟩ | ⟨c5, hf⟩
 ·refine w_condt rfl c5 <| awp_seq <| w_reg <| s_mov (.own 0 0 s_1.length) rfl <| s_mov (.own 0 0 s_1.length) rfl <| w_done <| k_seq <| w_ret <| ?_; obtain rfl := os hf; exact r_heap [.mv 0] [0, 1, 2] rfl ⟨trivial, trivial⟩ rfl (.refl _) (.refl _)
 ·refine w_condf rfl (bf c5) <| w_skip <| k_seq <| awp_seq <| awp_seq <| w_reg <| s_mov (.int .i64 r_3) rfl <| s_q (.int .i64 (w64 (r_3 + 1))) rfl rfl rfl <| s_mov (.int .i64 (w64 (r_3 + 1))) rfl <| w_done <| k_seq <| ?_
  obtain ⟨p87, hb1, hf⟩ := ob hf
  refine awp_cut ([(0, (.own 0 0 p87.2.length)), (5, (.int .i64 p87.1))], [.row 1 (p87.2.map encI), .box 1 (.int .i64 c_2)]) ?_ ?_
  ·refine awp_loop (X := {q : (Nat × Int × Int × (List Int)) // slices_DeleteFunc_int_int_h0_L1 c_2 q.1 q.2.1 q.2.2.1 q.2.2.2 = some p87}) (fun q => ([(0, (.own 0 0 q.1.2.2.2.length)), (1, (.fn 121 [(.ptr 1 0 0)])), (5, (.int .i64 q.1.2.1)), (6, (.int .i64 q.1.2.2.1))], [.row 1 (q.1.2.2.2.map encI), .box 1 (.int .i64 c_2)])) (fun q => q.1.1) ⟨(FUEL, r_3, w64 (r_3 + 1), s_1), hb1⟩ ⟨[], [0, 1], _, _, rfl, rfl, ⟨.refl _, ⟨.refl _, ⟨.refl _, ⟨.refl _, trivial⟩⟩⟩⟩, (.refl _)⟩ ?_
   rintro ⟨⟨k, i_71, j_72, s_73⟩, hc1⟩
   have hc1 : slices_DeleteFunc_int_int_h0_L1 c_2 k i_71 j_72 s_73 = some p87 := hc1
   refine (show awp Try.prog true 2 _ (ofL [(0, (.own 0 0 s_73.length)), (1, (.fn 121 [(.ptr 1 0 0)])), (5, (.int .i64 i_71)), (6, (.int .i64 j_72))]) [.row 1 (s_73.map encI), .box 1 (.int .i64 c_2)] _ from ?_)
   rcases k with _ | k
   ·rw [slices_DeleteFunc_int_int_h0_L1.eq_1] at hc1
    cases hc1
   ·rw [slices_DeleteFunc_int_int_h0_L1.eq_2] at hc1; refine awp_seq <| awp_seq <| w_reg <| s_mov (.int .i64 j_72) rfl <| s_mov (.own 0 0 s_73.length) rfl <| s_dof (o_lenown rfl rfl) fun hl88 => s_q (.bool (decide (j_72 < (s_73.length : Int)))) rfl rfl rfl <| w_done <| k_seq <| ?_
    rcases oi hc1 with ⟨c89, hc1⟩ | ⟨c89, hc1⟩
    ·refine w_condt rfl c89 <| w_skip <| k_seq <| awp_seq <| w_blk <| awp_seq <| w_reg <| ?_
     obtain ⟨g90, hc1⟩ := og hc1
     obtain ⟨x_91, ex92, hc1⟩ := ob hc1
     refine s_mov (.own 0 0 s_73.length) rfl <| s_mov (.int .i64 j_72) rfl <| s_do (o_iaddrown rfl rfl g90.1 g90.2 rfl rfl) <| s_do (o_loadrow (enc := encI) (v := (.int .i64 x_91)) rfl rfl ex92 ⟨rfl, rfl⟩ rfl) <| s_mov (.int .i64 x_91) rfl <| w_done <| k_seq <| awp_seq <| w_reg <| ?_
     obtain ⟨r_93, er94, hc1⟩ := ob hc1
     refine s_mov (.fn 121 [(.ptr 1 0 0)]) rfl <| s_mov (.int .i64 x_91) rfl <| s_do (o_calvk (v := (.bool r_93)) rfl (by kernel_rfl) (w_impl_StealLock_1 _ _ _ er94) rfl rfl (.refl _) rfl) <| s_q (.bool (!r_93)) rfl trivial rfl <| w_done <| k_seq <| ?_
     rcases oi hc1 with ⟨c95, hc1⟩ | ⟨c95, hc1⟩
     ·refine w_condt rfl c95 <| awp_seq <| w_reg <| ?_
      obtain ⟨g96, hc1⟩ := og hc1
      obtain ⟨x_97, ex98, hc1⟩ := ob hc1
      refine s_mov (.own 0 0 s_73.length) rfl <| s_mov (.int .i64 i_71) rfl <| s_mov (.int .i64 x_91) rfl <| s_do (o_iaddrown rfl rfl g96.1 g96.2 rfl rfl) <| ?_; refine s_do0 (o_storerow (v' := (.int .i64 x_91)) (e' := x_91) rfl rfl ex98 rfl rfl rfl (by decide) (fun _ => by decide) ⟨rfl, rfl, rfl⟩ (.refl _) rfl) ?_; refine w_done <| k_seq <| w_reg <| s_mov (.int .i64 i_71) rfl <| s_q (.int .i64 (w64 (i_71 + 1))) rfl rfl rfl <| s_mov (.int .i64 (w64 (i_71 + 1))) rfl <| w_done <| k_blk <| k_seq <| w_reg <| s_mov (.int .i64 j_72) rfl <| s_q (.int .i64 (w64 (j_72 + 1))) rfl rfl rfl <| s_mov (.int .i64 (w64 (j_72 + 1))) rfl <| w_done <| ?_; exact k_loopn ⟨(k, w64 (i_71 + 1), w64 (j_72 + 1), s_73.set (0 + i_71.toNat) x_91), hc1⟩ (Nat.lt_succ_self _) ⟨[], [0, 1], _, _, rfl, rfl, ⟨.of_eq (congrArg (AV.own _ 0) (by simp)), ⟨.refl _, ⟨.refl _, ⟨.refl _, trivial⟩⟩⟩⟩, (.refl _)⟩
     ·refine w_condf rfl (bf c95) <| w_skip <| k_blk <| k_seq <| w_reg <| s_mov (.int .i64 j_72) rfl <| s_q (.int .i64 (w64 (j_72 + 1))) rfl rfl rfl <| s_mov (.int .i64 (w64 (j_72 + 1))) rfl <| w_done <| ?_; exact k_loopn ⟨(k, i_71, w64 (j_72 + 1), s_73), hc1⟩ (Nat.lt_succ_self _) ⟨[], [0, 1], _, _, rfl, rfl, ⟨.refl _, ⟨.refl _, ⟨.refl _, ⟨.refl _, trivial⟩⟩⟩⟩, (.refl _)⟩
    ·refine w_condf rfl (bf c89) <| w_exit <| k_seqx <| k_loopx <| k_blkx <| ?_; obtain rfl := os hc1; exact ⟨[], [0, 1], _, _, rfl, rfl, ⟨.refl _, ⟨.refl _, trivial⟩⟩, (.refl _)⟩
  ·obtain ⟨i_85, s_86⟩ := p87
   refine awp_seq <| w_reg <| ?_
   obtain ⟨g99, hf⟩ := og hf
   refine s_mov (.own 0 0 s_86.length) rfl <| s_mov (.int .i64 i_85) rfl <| s_do (o_sldo rfl rfl rfl g99.1 g99.2) <| s_do0 (o_clr (enc := encI) (y := 0) rfl rfl (.refl _) rfl) <| w_done <| k_seq <| awp_seq <| w_reg <| ?_
   obtain ⟨g100, hf⟩ := og hf
   refine s_mov (.own 0 0 s_86.length) rfl <| s_mov (.int .i64 i_85) rfl <| s_do (o_slto rfl rfl rfl g100.1 g100.2) <| s_mov (.own 0 0 i_85.toNat) rfl <| w_done <| k_seq <| w_ret <| ?_; obtain rfl := os hf; exact r_heap [.trim 4] [0, 1, 2] rfl ⟨trivial, trivial⟩ rfl ((.cons (.refl _) (.cons (.refl _) (.cons ((LeO.tk (enc := encI) (s_86.take i_85.toNat ++ List.replicate (s_86.length - i_85.toNat) 0 ++ s_86.drop (i_85.toNat + (s_86.length - i_85.toNat))) _)) .nil)))) (.of_eq (congrArg (AV.own _ 0) (by simp)))

/- impl.StealLock -/
def c45 : ACode :=
 (.seq (.reg (tq 4 (.box 1 (.t 1)) (tm 6 (.c .nil) (tm 7 (.c .nil) (tm 8 (.c (.int .i64 0)) .done)))))
 (.seq (.seq (.reg (tm 16 (.t 0) (tq 17 (.load 1 false (.t 4)) (tm 18 (.t 2) (tq 19 (.call 111 [(.t 16), (.t 17), (.t 18)]) (tm 9 (.t 19) .done))))))
 (.seq (.reg (tm 20 (.t 9) (tq 21 (.bin .neq (.t 20) (.c (.int .i64 0))) .done)))
 (.cond (.t 21) (.seq (.reg (tm 22 (.t 9) (tm 6 (.c .nil) (tm 7 (.c .nil) (tm 8 (.t 22) .done)))))
 .ret)
 .skip)))
 (.seq (.reg (tm 24 (.t 0) (tm 25 (.t 2) (tq 26 (.call 117 [(.t 24), (.t 25)]) (tm 23 (.t 26) (tq 27 (.extract 0 (.t 23)) (tq 28 (.extract 1 (.t 23)) (tq 29 (.extract 2 (.t 23)) (tm 10 (.t 27) (tm 11 (.t 28) (tm 12 (.t 29) .done)))))))))))
 (.seq (.seq (.reg (tm 30 (.t 12) (tq 31 (.bin .neq (.t 30) (.c (.int .i64 0))) .done)))
 (.cond (.t 31) (.seq (.reg (tm 32 (.t 10) (tm 33 (.t 12) (tm 6 (.t 32) (tm 7 (.c .nil) (tm 8 (.t 33) .done))))))
 .ret)
 .skip))
 (.seq (.reg (tm 35 (.t 10) (tm 36 (.t 11) (tq 37 (.iaddr 2 (.t 35) (.t 36)) (tq 38 (.faddr 1 (.t 37)) (tq 39 (.load 1 false (.t 38)) (.l ⟨(some 34), none, .bslice 3 []⟩ [⟨(some 39), none, .load 1 false (.t 38)⟩, ⟨(some 38), none, .faddr 1 (.t 37)⟩, ⟨(some 37), none, .iaddr 2 (.t 35) (.t 36)⟩]
 (tm 13 (.t 34) (tm 14 (.t 39) .done)) .non)))))))
 (.seq (.seq (.reg (tm 40 (.t 14) (tq 41 (.len (.t 40)) (tq 42 (.bin .gtr (.t 41) (.c (.int .i64 0))) (tm 43 (.t 42) (tg 44 43 true (.mov (.t 14)) (tg 45 43 true (.iaddr 1 (.t 44) (.c (.int .i64 0))) (tg 46 43 true (.load 1 false (.t 45)) (tg 47 43 true (.load 1 false (.t 4)) (tg 48 43 true (.bin .neq (.t 46) (.t 47)) (tq 49 (.pick (.t 43) (.t 48) (.c (.bool false))) .done)))))))))))
 (.cut (.cond (.t 49) (.reg (tm 50 (.t 13) (tm 51 (.t 14) (tq 52 (.iaddr 1 (.t 51) (.c (.int .i64 0))) (tq 53 (.load 1 false (.t 52)) (tm 54 (.t 2) (tq 55 (.build [(.int .i64 0), (.str []), (.str [])] [(0, 1, (.t 53)), (1, 1, (.c (.str [115, 116, 111, 108, 101, 110]))), (2, 1, (.t 54))]) (tq 56 (.bslice 3 [(.t 55)]) (tq 57 (.append 3 40 (.t 50) (.t 56)) (tm 13 (.t 57) .done))))))))))
 .skip)))
 (.cut (.seq (.reg (tm 58 (.t 14) (tq 59 (.call 120 [(.t 58)]) (tq 60 (.mkfn 121 [(.t 4)]) (tq 61 (.call 119 [(.t 59), (.t 60)]) (tm 15 (.t 61) .done))))))
 (.seq (.reg (tm 62 (.t 10) (tm 63 (.t 11) (tq 64 (.load 1 false (.t 4)) (tq 65 (.bslice 1 [(.t 64)]) (tm 66 (.t 15) (tq 67 (.append 1 8 (.t 65) (.t 66)) (tq 68 (.iaddr 2 (.t 62) (.t 63)) (tq 69 (.faddr 1 (.t 68)) (.q ⟨none, none, .store 1 (.t 69) (.t 67)⟩
 .done))))))))))
 (.seq (.reg (tm 70 (.t 10) (tm 71 (.t 13) (tm 6 (.t 70) (tm 7 (.t 71) (tm 8 (.c (.int .i64 0)) .done))))))
 .ret))))))))))
theorem fc45 : fcomp Try.prog Try.f45 = some (c45.erase, [.mov (.t 6), .mov (.t 7), .mov (.t 8)], 72) := by kernel_rfl
def impl_StealLock (list_1 : (List GLock)) (session_2 : Int) (name_3 : Str) : Option ((List GLock) × (List GTold) × Int) :=
    (impl_locksCode list_1 session_2 name_3).bind fun r_4 =>
    if (r_4 != 0) then
    some ([], [], r_4)
    else
    (impl_withLock list_1 name_3).bind fun r_7 =>
    if (r_7.2.2 != 0) then
    some (r_7.1, [], r_7.2.2)
    else
    if (0 : Int) ≤ r_7.2.1 ∧ r_7.2.1 < (r_7.1.length : Int) then
    (r_7.1[(0 + r_7.2.1.toNat)]?).bind fun x_11 =>
    ((((if (decide ((x_11.Queue.length : Int) > 0)) then
    (idx x_11.Queue 0).bind fun x_37 =>
    some (x_37 != session_2)
    else
    some false : Option Bool)).bind fun s49_33 =>
    if s49_33 then
    (idx x_11.Queue 0).bind fun x_40 =>
    if ([] ++ [(⟨x_40, [115, 116, 111, 108, 101, 110], name_3⟩ : GTold)]).length ≤ 2 ^ 30 then
    some ([] ++ [(⟨x_40, [115, 116, 111, 108, 101, 110], name_3⟩ : GTold)])
    else none
    else
    some [] : Option (List GTold))).bind fun told_27 =>
    (slices_Clone_int_int x_11.Queue).bind fun r_43 =>
    (slices_DeleteFunc_int_int_h0 r_43 session_2).bind fun r_45 =>
    if ([r_45.2] ++ r_45.1).length ≤ 2 ^ 30 then
    if (0 : Int) ≤ r_7.2.1 ∧ r_7.2.1 < (r_7.1.length : Int) then
    some (r_7.1.set (0 + r_7.2.1.toNat) (⟨x_11.Name, [r_45.2] ++ r_45.1⟩ : GLock), told_27, 0)
    else none
    else none
    else none
theorem w_impl_StealLock (list_1 : (List GLock)) (session_2 : Int) (name_3 : Str) (r : ((List GLock) × (List GTold) × Int)) (hf : impl_StealLock list_1 session_2 name_3 = some r) : CallOK Try.prog 45 .fresh [(.lst 2 (list_1.map encGLock)), (.int .i64 session_2), (.str name_3)] (.tup [(.lst 2 (r.1.map encGLock)), (.lst 3 (r.2.1.map encGTold)), (.int .i64 r.2.2)]) := by
 refine CallOK.of_awp mixed Try.func45 fc45 nle ?_; rw [argT_eq]; unfold impl_StealLock at hf; unfold c45; refine (show awp Try.prog true 0 _ (ofL [(0, (.lst 2 (list_1.map encGLock))), (1, (.int .i64 session_2)), (2, (.str name_3))]) [] _ from ?_); refine awp_seq <| w_reg <| s_do (o_box (j := 0) (c := (.int .i64 session_2)) rfl trivial rfl rfl) <| s_mov .nil rfl <| s_mov .nil rfl <| s_mov (.int .i64 0) rfl <| w_done <| k_seq <| awp_seq <| awp_seq <| w_reg <| ?_
 obtain ⟨r_4, er5, hf⟩ := ob hf
 refine s_mov (.lst 2 (list_1.map encGLock)) rfl <| s_q (.int .i64 session_2) rfl ⟨rfl, rfl⟩ rfl <| s_mov (.str name_3) rfl <| s_do (o_call (w_impl_locksCode _ _ _ _ er5) rfl (.refl _) rfl) <| s_mov (.int .i64 r_4) rfl <| w_done <| k_seq <| awp_seq <| w_reg <| s_mov (.int .i64 r_4) rfl <| s_q (.bool (r_4 != 0)) rfl rfl rfl <| w_done <| k_seq <| ?_
 rcases oi hf with ⟨c6, hf⟩ | ⟨c6, hf⟩
 ·refine w_condt rfl c6 <| awp_seq <| w_reg <| s_mov (.int .i64 r_4) rfl <| s_mov .nil rfl <| s_mov .nil rfl <| s_mov (.int .i64 r_4) rfl <| w_done <| k_seq <| w_ret <| ?_; obtain rfl := os hf; exact r_fresh ⟨trivial, ⟨trivial, ⟨trivial, trivial⟩⟩⟩ rfl (by decide) (.tup (.cons (.nil _) (.cons (.nil _) (.cons (.refl _) .nil))))
 ·refine w_condf rfl (bf c6) <| w_skip <| k_seq <| awp_seq <| w_reg <| ?_
  obtain ⟨r_7, er8, hf⟩ := ob hf
  refine s_mov (.lst 2 (list_1.map encGLock)) rfl <| s_mov (.str name_3) rfl <| s_do (o_callf (v := (.tup [(.own 1 0 r_7.1.length), (.int .i64 r_7.2.1), (.int .i64 r_7.2.2)])) (h' := [.row 2 (r_7.1.map encGLock)]) (w_impl_withLock _ _ _ er8) rfl (.refl _) (by simp only [openV, openVs, List.length_map, List.nil_append, List.append_nil, List.cons_append]; rfl)) <| s_mov (.tup [(.own 1 0 r_7.1.length), (.int .i64 r_7.2.1), (.int .i64 r_7.2.2)]) rfl <| s_q (.own 1 0 r_7.1.length) rfl nle rfl <| s_q (.int .i64 r_7.2.1) rfl nle rfl <| s_q (.int .i64 r_7.2.2) rfl nle rfl <| s_mov (.own 1 0 r_7.1.length) rfl <| s_mov (.int .i64 r_7.2.1) rfl <| s_mov (.int .i64 r_7.2.2) rfl <| w_done <| k_seq <| awp_seq <| awp_seq <| ?_
  refine w_reg <| s_mov (.int .i64 r_7.2.2) rfl <| s_q (.bool (r_7.2.2 != 0)) rfl rfl rfl <| w_done <| k_seq <| ?_
  rcases oi hf with ⟨c9, hf⟩ | ⟨c9, hf⟩
  ·refine w_condt rfl c9 <| awp_seq <| w_reg <| s_mov (.own 1 0 r_7.1.length) rfl <| s_mov (.int .i64 r_7.2.2) rfl <| s_mov (.own 1 0 r_7.1.length) rfl <| s_mov .nil rfl <| s_mov (.int .i64 r_7.2.2) rfl <| w_done <| k_seq <| w_ret <| ?_; obtain rfl := os hf; exact r_fresh ⟨trivial, ⟨trivial, ⟨trivial, trivial⟩⟩⟩ rfl (by decide) (.tup (.cons (.of_eq (congrArg (AV.lst _) (tk (enc := encGLock) r_7.1))) (.cons (.nil _) (.cons (.refl _) .nil))))
  ·refine w_condf rfl (bf c9) <| w_skip <| k_seq <| awp_seq <| w_reg <| ?_
   obtain ⟨g10, hf⟩ := og hf
   obtain ⟨x_11, ex12, hf⟩ := ob hf
   refine s_mov (.own 1 0 r_7.1.length) rfl <| s_mov (.int .i64 r_7.2.1) rfl <| s_do (o_iaddrown rfl rfl g10.1 g10.2 rfl rfl) <| s_q (.ptr 1 (0 + r_7.2.1.toNat) 1) rfl trivial rfl <| s_do (o_loadrow (enc := encGLock) (v := (.lst 1 (x_11.Queue.map encI))) rfl rfl ex12 nle rfl) <| ?_; refine s_dol (o_bslice (j := 2) (as' := []) rfl (fun _ => by decide) trivial (.refl _) rfl rfl rfl) (.inr ⟨(ag_loadrow (enc := encGLock) (v := (.lst 1 (x_11.Queue.map encI))) rfl rfl ex12 nle rfl), ⟨⟨trivial, rfl⟩, ⟨(ag_iaddrown rfl rfl g10.1 g10.2 rfl rfl), trivial⟩⟩⟩) trivial ?_; refine s_mov (.own 2 0 0) rfl <| s_mov (.lst 1 (x_11.Queue.map encI)) rfl <| w_done <| k_seq <| awp_seq <| ?_
   obtain ⟨told_27, hb1, hf⟩ := ob hf
   refine awp_cut ([(4, (.ptr 0 0 0)), (10, (.own 1 0 r_7.1.length)), (11, (.int .i64 r_7.2.1)), (13, (.own 2 0 told_27.length)), (14, (.lst 1 (x_11.Queue.map encI)))], [.box 1 (.int .i64 session_2), .row 2 (r_7.1.map encGLock), .row 3 (told_27.map encGTold)]) ?_ ?_
   ·refine awp_seq ?_
    obtain ⟨s49_33, hb2, hb1⟩ := ob hb1
    refine awp_cut ([(2, (.str name_3)), (4, (.ptr 0 0 0)), (10, (.own 1 0 r_7.1.length)), (11, (.int .i64 r_7.2.1)), (13, (.own 2 0 0)), (14, (.lst 1 (x_11.Queue.map encI))), (49, (.bool s49_33))], [.box 1 (.int .i64 session_2), .row 2 (r_7.1.map encGLock), .row 3 ([].map encGTold)]) ?_ ?_
    ·refine w_reg ?_
     rcases oi hb2 with ⟨c36, hb2⟩ | ⟨c36, hb2⟩
     ·obtain ⟨x_37, ex38, hb2⟩ := ob hb2
      refine s_mov (.lst 1 (x_11.Queue.map encI)) rfl <| s_dof (o_len (enc := encI) rfl) fun hl35 => s_q (.bool (decide ((x_11.Queue.length : Int) > 0))) rfl rfl rfl <| s_mov (.bool (decide ((x_11.Queue.length : Int) > 0))) rfl <| s_lit (s := 43) (b := true) rfl c36 <| s_on rfl <| s_mov (.lst 1 (x_11.Queue.map encI)) rfl <| s_on rfl <| s_do (o_iaddr (enc := encI) rfl rfl (idx0 ex38) (idx1 ex38)) <| s_on rfl <| s_q (.int .i64 x_37) rfl ⟨rfl, rfl⟩ rfl <| s_on rfl <| s_q (.int .i64 session_2) rfl ⟨rfl, rfl⟩ rfl <| s_on rfl <| s_q (.bool (x_37 != session_2)) rfl rfl rfl <| s_q (.bool (x_37 != session_2)) rfl trivial rfl <| w_done <| ?_; obtain rfl := os hb2; exact ⟨[], [0, 1, 2], _, _, rfl, rfl, ⟨.refl _, ⟨.refl _, ⟨.refl _, ⟨.refl _, ⟨.of_eq (congrArg (AV.own _ 0) (by simp)), ⟨.refl _, ⟨.refl _, trivial⟩⟩⟩⟩⟩⟩⟩, (.refl _)⟩
     ·refine s_mov (.lst 1 (x_11.Queue.map encI)) rfl <| s_dof (o_len (enc := encI) rfl) fun hl35 => s_q (.bool (decide ((x_11.Queue.length : Int) > 0))) rfl rfl rfl <| s_mov (.bool (decide ((x_11.Queue.length : Int) > 0))) rfl <| s_lit (s := 43) (b := false) rfl (bf c36) <| s_off rfl rfl <| s_off rfl rfl <| s_off rfl rfl <| s_off rfl rfl <| s_off rfl rfl <| s_q (.bool false) rfl trivial rfl <| w_done <| ?_; obtain rfl := os hb2; exact ⟨[], [0, 1, 2], _, _, rfl, rfl, ⟨.refl _, ⟨.refl _, ⟨.refl _, ⟨.refl _, ⟨.of_eq (congrArg (AV.own _ 0) (by simp)), ⟨.refl _, ⟨.refl _, trivial⟩⟩⟩⟩⟩⟩⟩, (.refl _)⟩
    ·rcases oi hb1 with ⟨c39, hb1⟩ | ⟨c39, hb1⟩
     ·refine w_condt rfl c39 <| w_reg <| ?_
      obtain ⟨x_40, ex41, hb1⟩ := ob hb1
      obtain ⟨g42, hb1⟩ := og hb1
      refine s_mov (.own 2 0 0) rfl <| s_mov (.lst 1 (x_11.Queue.map encI)) rfl <| s_do (o_iaddr (enc := encI) rfl rfl (idx0 ex41) (idx1 ex41)) <| s_q (.int .i64 x_40) rfl ⟨rfl, rfl⟩ rfl <| s_mov (.str name_3) rfl <| s_q (.agg [(.int .i64 x_40), (.str [115, 116, 111, 108, 101, 110]), (.str name_3)]) rfl ⟨⟨rfl, nle, trivial⟩, ⟨⟨rfl, nle, trivial⟩, ⟨⟨rfl, nle, trivial⟩, trivial⟩⟩⟩ rfl <| ?_; refine s_do (o_bslice (j := 3) (as' := [(encGTold (⟨x_40, [115, 116, 111, 108, 101, 110], name_3⟩ : GTold))]) rfl (fun _ => by decide) ⟨rfl, trivial⟩ (.refl _) rfl rfl rfl) ?_
      refine s_do (o_appendd (j := 4) (L := (([] ++ [(⟨x_40, [115, 116, 111, 108, 101, 110], name_3⟩ : GTold)]).map encGTold)) (len := ([] ++ [(⟨x_40, [115, 116, 111, 108, 101, 110], name_3⟩ : GTold)]).length) rfl false rfl rfl (fun _ => flo (enc := encGTold) (fun _ => rfl) [(⟨x_40, [115, 116, 111, 108, 101, 110], name_3⟩ : GTold)] _) (fun _ _ h => (ownl (show AV.own _ _ _ = AV.lst _ _ from h)).elim) (by decide) ((by simp [← List.map_take])) (by simp <;> omega) g42 rfl rfl) ?_
      refine s_mov (.own 4 0 (([] ++ [(⟨x_40, [115, 116, 111, 108, 101, 110], name_3⟩ : GTold)]).length)) rfl <| w_done <| ?_; obtain rfl := os hb1; exact ⟨[], [0, 1, 4], _, _, rfl, rfl, ⟨.refl _, ⟨.refl _, ⟨.refl _, ⟨.refl _, ⟨.refl _, trivial⟩⟩⟩⟩⟩, (.refl _)⟩
     ·refine w_condf rfl (bf c39) <| w_skip <| ?_; obtain rfl := os hb1; exact ⟨[], [0, 1, 2], _, _, rfl, rfl, ⟨.refl _, ⟨.refl _, ⟨.refl _, ⟨.refl _, ⟨.refl _, trivial⟩⟩⟩⟩⟩, (.refl _)⟩
   ·refine awp_seq <| w_reg <| ?_
    obtain ⟨r_43, er44, hf⟩ := ob hf
    obtain ⟨r_45, er46, hf⟩ := ob hf
    refine s_mov (.lst 1 (x_11.Queue.map encI)) rfl <| s_do (o_callf (v := (.own 3 0 r_43.length)) (h' := [.row 1 (r_43.map encI)]) (w_slices_Clone_int_int _ _ er44) rfl (.refl _) (by simp only [openV, openVs, List.length_map, List.nil_append, List.append_nil, List.cons_append]; rfl)) <| s_q (.fn 121 [(.ptr 0 0 0)]) rfl trivial rfl <| ?_; refine s_do (o_callh (v := (.own 4 0 r_45.1.length)) (h2 := [.box 1 (.int .i64 r_45.2), .row 2 (r_7.1.map encGLock), .row 3 (told_27.map encGTold), .dead, .row 1 (r_45.1.map encI)]) [] [3, 0] (fun _ => rfl) (w_slices_DeleteFunc_int_int_h0 _ _ _ er46) rfl (.refl _) (.refl _) rfl rfl) ?_; refine s_mov (.own 4 0 r_45.1.length) rfl <| w_done <| k_seq <| awp_seq <| w_reg <| ?_
    obtain ⟨g47, hf⟩ := og hf
    obtain ⟨g48, hf⟩ := og hf
    refine s_mov (.own 1 0 r_7.1.length) rfl <| s_mov (.int .i64 r_7.2.1) rfl <| s_q (.int .i64 r_45.2) rfl ⟨rfl, rfl⟩ rfl <| ?_; refine s_do (o_bslice (j := 5) (as' := [(.int .i64 r_45.2)]) rfl (fun _ => by decide) ⟨rfl, trivial⟩ (.refl _) rfl rfl rfl) ?_; refine s_mov (.own 4 0 r_45.1.length) rfl ?_
    refine s_do (o_appendd (j := 6) (L := (([r_45.2] ++ r_45.1).map encI)) (len := ([r_45.2] ++ r_45.1).length) rfl false rfl rfl (fun _ => flo (enc := encI) (fun _ => rfl) r_45.1 _) (fun _ _ h => (ownl (show AV.own _ _ _ = AV.lst _ _ from h)).elim) (by decide) (apo (enc := encI) [r_45.2] r_45.1) (by simp <;> omega) g47 rfl rfl) ?_
    refine s_do (o_iaddrown rfl rfl g48.1 g48.2 rfl rfl) <| s_q (.ptr 1 (0 + r_7.2.1.toNat) 1) rfl trivial rfl <| ?_
    refine s_do0 (o_storerow (v' := (.lst 1 (([r_45.2] ++ r_45.1).map encI))) (e' := (⟨x_11.Name, [r_45.2] ++ r_45.1⟩ : GLock)) rfl rfl ex12 rfl rfl (by first | (simp only [tk, tko, List.take_length]; done) | rfl | simp) (by decide) (fun _ => by decide) ⟨rfl, nle⟩ (.refl _) rfl) ?_
    refine w_done <| k_seq <| awp_seq <| w_reg <| s_mov (.own 1 0 r_7.1.length) rfl <| s_mov (.own 2 0 told_27.length) rfl <| s_mov (.own 1 0 r_7.1.length) rfl <| s_mov (.own 2 0 told_27.length) rfl <| s_mov (.int .i64 0) rfl <| w_done <| k_seq <| w_ret <| ?_; obtain rfl := os hf
    exact r_fresh ⟨trivial, ⟨trivial, ⟨trivial, trivial⟩⟩⟩ rfl (by decide) (.tup (.cons (.of_eq (congrArg (AV.lst _) (tkl (enc := encGLock) (a := r_7.1.set (0 + r_7.2.1.toNat) (⟨x_11.Name, [r_45.2] ++ r_45.1⟩ : GLock)) (by first | (simp; done) | (simp <;> omega))))) (.cons (.of_eq (congrArg (AV.lst _) (tk (enc := encGTold) told_27))) (.cons (.refl _) .nil))))

/- laws.eqIntS -/
def c199 : ACode :=
 (.seq (.reg (tm 4 (.c (.bool false)) .done))
 (.seq (.seq (.reg (tm 6 (.t 0) (tq 7 (.len (.t 6)) (tm 8 (.t 1) (tq 9 (.len (.t 8)) (tq 10 (.bin .neq (.t 7) (.t 9)) .done))))))
 (.cond (.t 10) (.seq (.reg (tm 4 (.c (.bool false)) .done))
 .ret)
 .skip))
 (.seq (.seq (.reg (tm 5 (.c (.int .i64 0)) .done))
 (.block 0 (.loop (.seq (.seq (.reg (tm 11 (.t 5) (tm 12 (.t 0) (tq 13 (.len (.t 12)) (tq 14 (.bin .lss (.t 11) (.t 13)) .done)))))
 (.cond (.t 14) .skip
 (.exit 0)))
 (.seq (.block 1 (.seq (.reg (tm 17 (.t 0) (tm 18 (.t 5) (tq 19 (.iaddr 1 (.t 17) (.t 18)) (tq 20 (.load 1 false (.t 19)) (tm 21 (.t 1) (tm 22 (.t 5) (tq 23 (.iaddr 1 (.t 21) (.t 22)) (tq 24 (.load 1 false (.t 23)) (tq 25 (.bin .neq (.t 20) (.t 24)) .done))))))))))
 (.cond (.t 25) (.seq (.reg (tm 4 (.c (.bool false)) .done))
 .ret)
 .skip)))
 (.reg (tm 15 (.t 5) (tq 16 (.bin .add (.t 15) (.c (.int .i64 1))) (tm 5 (.t 16) .done)))))))))
 (.cut (.seq (.reg (tm 4 (.c (.bool true)) .done))
 .ret)))))
theorem fc199 : fcomp Try.prog Try.f199 = some (c199.erase, [.mov (.t 4)], 26) := by kernel_rfl
def laws_eqIntS_L1 (b_2 : (List Int)) : List Int → Nat → Option (Fl Bool Unit)
  | [], i_21 =>
    some (.go ())
  | x_37 :: xs, i_21 =>
    (idx b_2 (i_21 : Int)).bind fun x_40 =>
    if (x_37 != x_40) then
    some (.ret false)
    else
    laws_eqIntS_L1 b_2 xs (i_21 + 1)

def laws_eqIntS (a_1 : (List Int)) (b_2 : (List Int)) : Option Bool :=
    if ((a_1.length : Int) != (b_2.length : Int)) then
    some false
    else
    (laws_eqIntS_L1 b_2 a_1 0).bind fun q => (match q with
    | .ret r => some r
    | .go _ =>
    some true)
theorem w_laws_eqIntS (a_1 : (List Int)) (b_2 : (List Int)) (r : Bool) (hf : laws_eqIntS a_1 b_2 = some r) : CallOK Try.prog 199 .flat [(.lst 1 (a_1.map encI)), (.lst 1 (b_2.map encI))] (.bool r) := by
 refine CallOK.of_awp mixed Try.func199 fc199 nle ?_; rw [argT_eq]; unfold laws_eqIntS at hf; unfold c199; refine (show awp Try.prog false 0 _ (ofL [(0, (.lst 1 (a_1.map encI))), (1, (.lst 1 (b_2.map encI)))]) [] _ from ?_); refine awp_seq <| w_reg <| s_mov (.bool false) rfl <| w_done <| k_seq <| awp_seq <| awp_seq <| w_reg <| s_mov (.lst 1 (a_1.map encI)) rfl <| s_dof (o_len (enc := encI) rfl) fun hl3 => s_mov (.lst 1 (b_2.map encI)) rfl <| s_dof (o_len (enc := encI) rfl) fun hl4 => s_q (.bool ((a_1.length : Int) != (b_2.length : Int))) rfl rfl rfl <| w_done <| k_seq <| ?_
 rcases oi hf with ⟨c5, hf⟩ | ⟨c5, hf⟩
 ·refine w_condt rfl c5 <| awp_seq <| w_reg <| s_mov (.bool false) rfl <| w_done <| k_seq <| w_ret <| ?_; obtain rfl := os hf; exact r_flat ⟨trivial, trivial⟩ rfl (.refl _)
 ·refine w_condf rfl (bf c5) <| w_skip <| k_seq <| awp_seq <| awp_seq <| w_reg <| s_mov (.int .i64 0) rfl <| w_done <| k_seq <| ?_
  obtain ⟨p30, hb1, hf⟩ := ob hf
  refine awp_cutx (X := {q : Unit // p30 = .go q}) (fun q => ([], [])) ?_ ?_
  ·refine awp_loop (X := {q : Nat // laws_eqIntS_L1 b_2 (a_1.drop q) q = some p30}) (fun q => ([(0, (.lst 1 (a_1.map encI))), (1, (.lst 1 (b_2.map encI))), (5, (.int .i64 (q.1 : Int)))], [])) (fun q => a_1.length - q.1) ⟨0, hb1⟩ ⟨[], [], _, _, rfl, rfl, ⟨.refl _, ⟨.refl _, ⟨.refl _, trivial⟩⟩⟩, (.refl _)⟩ ?_
   rintro ⟨i_21, hc1⟩
   have hc1 : laws_eqIntS_L1 b_2 (a_1.drop i_21) i_21 = some p30 := hc1
   refine (show awp Try.prog false 0 _ (ofL [(0, (.lst 1 (a_1.map encI))), (1, (.lst 1 (b_2.map encI))), (5, (.int .i64 (i_21 : Int)))]) [] _ from ?_)
   rcases dropc a_1 i_21 with ⟨hie33, hd36⟩ | ⟨hlt31, x_37, hx32, hd36⟩
   ·rw [hd36, laws_eqIntS_L1.eq_1] at hc1
    have hq35 := dlf hie33
    refine awp_seq <| awp_seq <| w_reg <| s_mov (.int .i64 (i_21 : Int)) rfl <| s_mov (.lst 1 (a_1.map encI)) rfl <| s_dof (o_len (enc := encI) rfl) fun hl38 => s_q (.bool (decide ((i_21 : Int) < (a_1.length : Int)))) rfl rfl rfl <| w_done <| k_seq <| w_condf rfl hq35 <| w_exit <| k_seqx <| k_loopx <| k_blkx <| ?_; obtain rfl := os hc1; exact k_cutn ⟨_, rfl⟩ ⟨[], [], _, _, rfl, rfl, trivial, (.refl _)⟩
   ·rw [hd36, laws_eqIntS_L1.eq_2] at hc1
    have hq35 := dlt hlt31
    refine awp_seq <| awp_seq <| w_reg <| s_mov (.int .i64 (i_21 : Int)) rfl <| s_mov (.lst 1 (a_1.map encI)) rfl <| s_dof (o_len (enc := encI) rfl) fun hl39 => s_q (.bool (decide ((i_21 : Int) < (a_1.length : Int)))) rfl rfl rfl <| w_done <| k_seq <| w_condt rfl hq35 <| w_skip <| k_seq <| awp_seq <| w_blk <| awp_seq <| w_reg <| ?_
    obtain ⟨x_40, ex41, hc1⟩ := ob hc1
    refine s_mov (.lst 1 (a_1.map encI)) rfl <| s_mov (.int .i64 (i_21 : Int)) rfl <| s_do (o_iaddrn (enc := encI) rfl rfl hx32) <| s_q (.int .i64 x_37) rfl ⟨rfl, rfl⟩ rfl <| s_mov (.lst 1 (b_2.map encI)) rfl <| s_mov (.int .i64 (i_21 : Int)) rfl <| s_do (o_iaddr (enc := encI) rfl rfl (idx0 ex41) (idx1 ex41)) <| s_q (.int .i64 x_40) rfl ⟨rfl, rfl⟩ rfl <| s_q (.bool (x_37 != x_40)) rfl rfl rfl <| w_done <| k_seq <| ?_
    rcases oi hc1 with ⟨c42, hc1⟩ | ⟨c42, hc1⟩
    ·refine w_condt rfl c42 <| awp_seq <| w_reg <| s_mov (.bool false) rfl <| w_done <| k_seq <| w_ret <| ?_; obtain rfl := os hc1; obtain rfl := os hf; exact r_flat ⟨trivial, trivial⟩ rfl (.refl _)
    ·refine w_condf rfl (bf c42) <| w_skip <| k_blk <| k_seq <| w_reg <| s_mov (.int .i64 (i_21 : Int)) rfl <| s_q (.int .i64 (w64 ((i_21 : Int) + 1))) rfl rfl rfl <| s_mov (.int .i64 (w64 ((i_21 : Int) + 1))) rfl <| w_done <| ?_; exact k_loopn ⟨(i_21 + 1), hc1⟩ (mul hlt31) ⟨[], [], _, _, rfl, rfl, ⟨.refl _, ⟨.refl _, ⟨.of_eq (congrArg (AV.int _) (w64_incr hlt31 hl39)), trivial⟩⟩⟩, (.refl _)⟩
  ·rintro ⟨_, rfl⟩
   refine awp_seq <| w_reg <| s_mov (.bool true) rfl <| w_done <| k_seq <| w_ret <| ?_; obtain rfl := os hf; exact r_flat ⟨trivial, trivial⟩ rfl (.refl _)

/- laws.eqLock -/
def c112 : ACode :=
 (.seq (.reg (tq 2 (.box 2 (.t 0)) (tq 3 (.box 2 (.t 1)) (tm 4 (.c (.bool false)) .done))))
 (.seq (.seq (.reg (tq 5 (.faddr 0 (.t 2)) (tq 6 (.load 1 false (.t 5)) (tq 7 (.faddr 0 (.t 3)) (tq 8 (.load 1 false (.t 7)) (tq 9 (.bin .neq (.t 6) (.t 8)) .done))))))
 (.cond (.t 9) (.seq (.reg (tm 4 (.c (.bool false)) .done))
 .ret)
 .skip))
 (.seq (.seq (.reg (tq 10 (.faddr 1 (.t 2)) (tq 11 (.load 1 false (.t 10)) (tq 12 (.faddr 1 (.t 3)) (tq 13 (.load 1 false (.t 12)) (tq 14 (.call 199 [(.t 11), (.t 13)]) (tq 15 (.not (.t 14)) .done)))))))
 (.cond (.t 15) (.seq (.reg (tm 4 (.c (.bool false)) .done))
 .ret)
 .skip))
 (.seq (.reg (tm 4 (.c (.bool true)) .done))
 .ret))))
theorem fc112 : fcomp Try.prog Try.f112 = some (c112.erase, [.mov (.t 4)], 16) := by kernel_rfl
def laws_eqLock (a_1 : GLock) (b_2 : GLock) : Option Bool :=
    if (!(a_1.Name == b_2.Name)) then
    some false
    else
    (laws_eqIntS a_1.Queue b_2.Queue).bind fun r_4 =>
    if (!r_4) then
    some false
    else
    some true
theorem w_laws_eqLock (a_1 : GLock) (b_2 : GLock) (r : Bool) (hf : laws_eqLock a_1 b_2 = some r) : CallOK Try.prog 112 .flat [(encGLock a_1), (encGLock b_2)] (.bool r) := by
 refine CallOK.of_awp mixed Try.func112 fc112 nle ?_; rw [argT_eq]; unfold laws_eqLock at hf; unfold c112; refine (show awp Try.prog false 0 _ (ofL [(0, (encGLock a_1)), (1, (encGLock b_2))]) [] _ from ?_); refine awp_seq <| w_reg <| s_do (o_box (j := 0) (c := (.agg [(.str a_1.Name), (.lst 1 (a_1.Queue.map encI))])) rfl trivial rfl rfl) <| s_do (o_box (j := 1) (c := (.agg [(.str b_2.Name), (.lst 1 (b_2.Queue.map encI))])) rfl trivial rfl rfl) <| s_mov (.bool false) rfl <| w_done <| k_seq <| awp_seq <| awp_seq <| w_reg <| s_q (.ptr 0 0 0) rfl trivial rfl <| s_q (.str a_1.Name) rfl nle rfl <| s_q (.ptr 1 0 0) rfl trivial rfl <| s_q (.str b_2.Name) rfl nle rfl <| s_q (.bool (!(a_1.Name == b_2.Name))) rfl trivial rfl <| w_done <| ?_
 refine k_seq ?_
 rcases oi hf with ⟨c3, hf⟩ | ⟨c3, hf⟩
 ·refine w_condt rfl c3 <| awp_seq <| w_reg <| s_mov (.bool false) rfl <| w_done <| k_seq <| w_ret <| ?_; obtain rfl := os hf; exact r_flat ⟨trivial, trivial⟩ rfl (.refl _)
 ·refine w_condf rfl (bf c3) <| w_skip <| k_seq <| awp_seq <| awp_seq <| w_reg <| ?_
  obtain ⟨r_4, er5, hf⟩ := ob hf
  refine s_q (.ptr 0 0 1) rfl trivial rfl <| s_q (.lst 1 (a_1.Queue.map encI)) rfl nle rfl <| s_q (.ptr 1 0 1) rfl trivial rfl <| s_q (.lst 1 (b_2.Queue.map encI)) rfl nle rfl <| s_do (o_call (w_laws_eqIntS _ _ _ er5) rfl (.refl _) rfl) <| s_q (.bool (!r_4)) rfl trivial rfl <| w_done <| k_seq <| ?_
  rcases oi hf with ⟨c6, hf⟩ | ⟨c6, hf⟩
  ·refine w_condt rfl c6 <| awp_seq <| w_reg <| s_mov (.bool false) rfl <| w_done <| k_seq <| w_ret <| ?_; obtain rfl := os hf; exact r_flat ⟨trivial, trivial⟩ rfl (.refl _)
  ·refine w_condf rfl (bf c6) <| w_skip <| k_seq <| awp_seq <| w_reg <| s_mov (.bool true) rfl <| w_done <| k_seq <| w_ret <| ?_; obtain rfl := os hf; exact r_flat ⟨trivial, trivial⟩ rfl (.refl _)

/- laws.eqLockS -/
def c36 : ACode :=
 (.seq (.reg (tm 4 (.c (.bool false)) .done))
 (.seq (.seq (.reg (tm 6 (.t 0) (tq 7 (.len (.t 6)) (tm 8 (.t 1) (tq 9 (.len (.t 8)) (tq 10 (.bin .neq (.t 7) (.t 9)) .done))))))
 (.cond (.t 10) (.seq (.reg (tm 4 (.c (.bool false)) .done))
 .ret)
 .skip))
 (.seq (.seq (.reg (tm 5 (.c (.int .i64 0)) .done))
 (.block 0 (.loop (.seq (.seq (.reg (tm 11 (.t 5) (tm 12 (.t 0) (tq 13 (.len (.t 12)) (tq 14 (.bin .lss (.t 11) (.t 13)) .done)))))
 (.cond (.t 14) .skip
 (.exit 0)))
 (.seq (.block 1 (.seq (.reg (tm 17 (.t 0) (tm 18 (.t 5) (tq 19 (.iaddr 2 (.t 17) (.t 18)) (tq 20 (.load 2 true (.t 19)) (tm 21 (.t 1) (tm 22 (.t 5) (tq 23 (.iaddr 2 (.t 21) (.t 22)) (tq 24 (.load 2 true (.t 23)) (.l ⟨(some 25), none, .call 112 [(.t 20), (.t 24)]⟩ []
 (tq 26 (.not (.t 25)) .done) .non))))))))))
 (.cond (.t 26) (.seq (.reg (tm 4 (.c (.bool false)) .done))
 .ret)
 .skip)))
 (.reg (tm 15 (.t 5) (tq 16 (.bin .add (.t 15) (.c (.int .i64 1))) (tm 5 (.t 16) .done)))))))))
 (.cut (.seq (.reg (tm 4 (.c (.bool true)) .done))
 .ret)))))
theorem fc36 : fcomp Try.prog Try.f36 = some (c36.erase, [.mov (.t 4)], 27) := by kernel_rfl
def laws_eqLockS_L1 (b_2 : (List GLock)) : List GLock → Nat → Option (Fl Bool Unit)
  | [], i_25 =>
    some (.go ())
  | x_43 :: xs, i_25 =>
    (idx b_2 (i_25 : Int)).bind fun x_46 =>
    (laws_eqLock x_43 x_46).bind fun r_48 =>
    if (!r_48) then
    some (.ret false)
    else
    laws_eqLockS_L1 b_2 xs (i_25 + 1)

def laws_eqLockS (a_1 : (List GLock)) (b_2 : (List GLock)) : Option Bool :=
    if ((a_1.length : Int) != (b_2.length : Int)) then
    some false
    else
    (laws_eqLockS_L1 b_2 a_1 0).bind fun q => (match q with
    | .ret r => some r
    | .go _ =>
    some true)
theorem w_laws_eqLockS (a_1 : (List GLock)) (b_2 : (List GLock)) (r : Bool) (hf : laws_eqLockS a_1 b_2 = some r) : CallOK Try.prog 36 .flat [(.lst 2 (a_1.map encGLock)), (.lst 2 (b_2.map encGLock))] (.bool r) := by
 refine CallOK.of_awp mixed Try.func36 fc36 nle ?_; rw [argT_eq]; unfold laws_eqLockS at hf; unfold c36; refine (show awp Try.prog false 0 _ (ofL [(0, (.lst 2 (a_1.map encGLock))), (1, (.lst 2 (b_2.map encGLock)))]) [] _ from ?_); refine awp_seq <| w_reg <| s_mov (.bool false) rfl <| w_done <| k_seq <| awp_seq <| awp_seq <| w_reg <| s_mov (.lst 2 (a_1.map encGLock)) rfl <| s_dof (o_len (enc := encGLock) rfl) fun hl3 => s_mov (.lst 2 (b_2.map encGLock)) rfl <| s_dof (o_len (enc := encGLock) rfl) fun hl4 => s_q (.bool ((a_1.length : Int) != (b_2.length : Int))) rfl rfl rfl <| w_done <| k_seq <| ?_
 rcases oi hf with ⟨c5, hf⟩ | ⟨c5, hf⟩
 ·refine w_condt rfl c5 <| awp_seq <| w_reg <| s_mov (.bool false) rfl <| w_done <| k_seq <| w_ret <| ?_; obtain rfl := os hf; exact r_flat ⟨trivial, trivial⟩ rfl (.refl _)
 ·refine w_condf rfl (bf c5) <| w_skip <| k_seq <| awp_seq <| awp_seq <| w_reg <| s_mov (.int .i64 0) rfl <| w_done <| k_seq <| ?_
  obtain ⟨p36, hb1, hf⟩ := ob hf
  refine awp_cutx (X := {q : Unit // p36 = .go q}) (fun q => ([], [])) ?_ ?_
  ·refine awp_loop (X := {q : Nat // laws_eqLockS_L1 b_2 (a_1.drop q) q = some p36}) (fun q => ([(0, (.lst 2 (a_1.map encGLock))), (1, (.lst 2 (b_2.map encGLock))), (5, (.int .i64 (q.1 : Int)))], [])) (fun q => a_1.length - q.1) ⟨0, hb1⟩ ⟨[], [], _, _, rfl, rfl, ⟨.refl _, ⟨.refl _, ⟨.refl _, trivial⟩⟩⟩, (.refl _)⟩ ?_
   rintro ⟨i_25, hc1⟩
   have hc1 : laws_eqLockS_L1 b_2 (a_1.drop i_25) i_25 = some p36 := hc1
   refine (show awp Try.prog false 0 _ (ofL [(0, (.lst 2 (a_1.map encGLock))), (1, (.lst 2 (b_2.map encGLock))), (5, (.int .i64 (i_25 : Int)))]) [] _ from ?_)
   rcases dropc a_1 i_25 with ⟨hie39, hd42⟩ | ⟨hlt37, x_43, hx38, hd42⟩
   ·rw [hd42, laws_eqLockS_L1.eq_1] at hc1
    have hq41 := dlf hie39
    refine awp_seq <| awp_seq <| w_reg <| s_mov (.int .i64 (i_25 : Int)) rfl <| s_mov (.lst 2 (a_1.map encGLock)) rfl <| s_dof (o_len (enc := encGLock) rfl) fun hl44 => s_q (.bool (decide ((i_25 : Int) < (a_1.length : Int)))) rfl rfl rfl <| w_done <| k_seq <| w_condf rfl hq41 <| w_exit <| k_seqx <| k_loopx <| k_blkx <| ?_; obtain rfl := os hc1; exact k_cutn ⟨_, rfl⟩ ⟨[], [], _, _, rfl, rfl, trivial, (.refl _)⟩
   ·rw [hd42, laws_eqLockS_L1.eq_2] at hc1
    have hq41 := dlt hlt37
    refine awp_seq <| awp_seq <| w_reg <| s_mov (.int .i64 (i_25 : Int)) rfl <| s_mov (.lst 2 (a_1.map encGLock)) rfl <| s_dof (o_len (enc := encGLock) rfl) fun hl45 => s_q (.bool (decide ((i_25 : Int) < (a_1.length : Int)))) rfl rfl rfl <| w_done <| k_seq <| w_condt rfl hq41 <| w_skip <| k_seq <| awp_seq <| w_blk <| awp_seq <| w_reg <| ?_
    obtain ⟨x_46, ex47, hc1⟩ := ob hc1
    obtain ⟨r_48, er49, hc1⟩ := ob hc1
    refine s_mov (.lst 2 (a_1.map encGLock)) rfl <| s_mov (.int .i64 (i_25 : Int)) rfl <| s_do (o_iaddrn (enc := encGLock) rfl rfl hx38) <| s_q (encGLock x_43) rfl nle rfl <| s_mov (.lst 2 (b_2.map encGLock)) rfl <| s_mov (.int .i64 (i_25 : Int)) rfl <| s_do (o_iaddr (enc := encGLock) rfl rfl (idx0 ex47) (idx1 ex47)) <| s_q (encGLock x_46) rfl nle rfl <| s_dol (o_call (w_laws_eqLock _ _ _ er49) rfl (.refl _) rfl) a_same trivial <| s_q (.bool (!r_48)) rfl trivial rfl <| w_done <| k_seq <| ?_
    rcases oi hc1 with ⟨c50, hc1⟩ | ⟨c50, hc1⟩
    ·refine w_condt rfl c50 <| awp_seq <| w_reg <| s_mov (.bool false) rfl <| w_done <| k_seq <| w_ret <| ?_; obtain rfl := os hc1; obtain rfl := os hf; exact r_flat ⟨trivial, trivial⟩ rfl (.refl _)
    ·refine w_condf rfl (bf c50) <| w_skip <| k_blk <| k_seq <| w_reg <| s_mov (.int .i64 (i_25 : Int)) rfl <| s_q (.int .i64 (w64 ((i_25 : Int) + 1))) rfl rfl rfl <| s_mov (.int .i64 (w64 ((i_25 : Int) + 1))) rfl <| w_done <| ?_; exact k_loopn ⟨(i_25 + 1), hc1⟩ (mul hlt37) ⟨[], [], _, _, rfl, rfl, ⟨.refl _, ⟨.refl _, ⟨.of_eq (congrArg (AV.int _) (w64_incr hlt37 hl45)), trivial⟩⟩⟩, (.refl _)⟩
  ·rintro ⟨_, rfl⟩
   refine awp_seq <| w_reg <| s_mov (.bool true) rfl <| w_done <| k_seq <| w_ret <| ?_; obtain rfl := os hf; exact r_flat ⟨trivial, trivial⟩ rfl (.refl _)

/- laws.eqTold -/
def c113 : ACode :=
 (.seq (.reg (tq 2 (.box 3 (.t 0)) (tq 3 (.box 3 (.t 1)) (tm 4 (.c (.bool false)) .done))))
 (.seq (.seq (.reg (tq 5 (.faddr 0 (.t 2)) (tq 6 (.load 1 false (.t 5)) (tq 7 (.faddr 0 (.t 3)) (tq 8 (.load 1 false (.t 7)) (tq 9 (.bin .neq (.t 6) (.t 8)) .done))))))
 (.cond (.t 9) (.seq (.reg (tm 4 (.c (.bool false)) .done))
 .ret)
 .skip))
 (.seq (.seq (.reg (tq 10 (.faddr 1 (.t 2)) (tq 11 (.load 1 false (.t 10)) (tq 12 (.faddr 1 (.t 3)) (tq 13 (.load 1 false (.t 12)) (tq 14 (.bin .neq (.t 11) (.t 13)) .done))))))
 (.cond (.t 14) (.seq (.reg (tm 4 (.c (.bool false)) .done))
 .ret)
 .skip))
 (.seq (.seq (.reg (tq 15 (.faddr 2 (.t 2)) (tq 16 (.load 1 false (.t 15)) (tq 17 (.faddr 2 (.t 3)) (tq 18 (.load 1 false (.t 17)) (tq 19 (.bin .neq (.t 16) (.t 18)) .done))))))
 (.cond (.t 19) (.seq (.reg (tm 4 (.c (.bool false)) .done))
 .ret)
 .skip))
 (.seq (.reg (tm 4 (.c (.bool true)) .done))
 .ret)))))
theorem fc113 : fcomp Try.prog Try.f113 = some (c113.erase, [.mov (.t 4)], 20) := by kernel_rfl
def laws_eqTold (a_1 : GTold) (b_2 : GTold) : Option Bool :=
    if (a_1.Session != b_2.Session) then
    some false
    else
    if (!(a_1.Word == b_2.Word)) then
    some false
    else
    if (!(a_1.Name == b_2.Name)) then
    some false
    else
    some true
theorem w_laws_eqTold (a_1 : GTold) (b_2 : GTold) (r : Bool) (hf : laws_eqTold a_1 b_2 = some r) : CallOK Try.prog 113 .flat [(encGTold a_1), (encGTold b_2)] (.bool r) := by
 refine CallOK.of_awp mixed Try.func113 fc113 nle ?_; rw [argT_eq]; unfold laws_eqTold at hf; unfold c113; refine (show awp Try.prog false 0 _ (ofL [(0, (encGTold a_1)), (1, (encGTold b_2))]) [] _ from ?_); refine awp_seq <| w_reg <| s_do (o_box (j := 0) (c := (.agg [(.int .i64 a_1.Session), (.str a_1.Word), (.str a_1.Name)])) rfl trivial rfl rfl) <| s_do (o_box (j := 1) (c := (.agg [(.int .i64 b_2.Session), (.str b_2.Word), (.str b_2.Name)])) rfl trivial rfl rfl) <| s_mov (.bool false) rfl <| w_done <| k_seq <| awp_seq <| awp_seq <| w_reg <| s_q (.ptr 0 0 0) rfl trivial rfl <| s_q (.int .i64 a_1.Session) rfl nle rfl <| s_q (.ptr 1 0 0) rfl trivial rfl <| s_q (.int .i64 b_2.Session) rfl nle rfl <| s_q (.bool (a_1.Session != b_2.Session)) rfl rfl rfl <| ?_
 refine w_done <| k_seq <| ?_
 rcases oi hf with ⟨c3, hf⟩ | ⟨c3, hf⟩
 ·refine w_condt rfl c3 <| awp_seq <| w_reg <| s_mov (.bool false) rfl <| w_done <| k_seq <| w_ret <| ?_; obtain rfl := os hf; exact r_flat ⟨trivial, trivial⟩ rfl (.refl _)
 ·refine w_condf rfl (bf c3) <| w_skip <| k_seq <| awp_seq <| awp_seq <| w_reg <| s_q (.ptr 0 0 1) rfl trivial rfl <| s_q (.str a_1.Word) rfl nle rfl <| s_q (.ptr 1 0 1) rfl trivial rfl <| s_q (.str b_2.Word) rfl nle rfl <| s_q (.bool (!(a_1.Word == b_2.Word))) rfl trivial rfl <| w_done <| k_seq <| ?_
  rcases oi hf with ⟨c4, hf⟩ | ⟨c4, hf⟩
  ·refine w_condt rfl c4 <| awp_seq <| w_reg <| s_mov (.bool false) rfl <| w_done <| k_seq <| w_ret <| ?_; obtain rfl := os hf; exact r_flat ⟨trivial, trivial⟩ rfl (.refl _)
  ·refine w_condf rfl (bf c4) <| w_skip <| k_seq <| awp_seq <| awp_seq <| w_reg <| s_q (.ptr 0 0 2) rfl trivial rfl <| s_q (.str a_1.Name) rfl nle rfl <| s_q (.ptr 1 0 2) rfl trivial rfl <| s_q (.str b_2.Name) rfl nle rfl <| s_q (.bool (!(a_1.Name == b_2.Name))) rfl trivial rfl <| w_done <| k_seq <| ?_
   rcases oi hf with ⟨c5, hf⟩ | ⟨c5, hf⟩
   ·refine w_condt rfl c5 <| awp_seq <| w_reg <| s_mov (.bool false) rfl <| w_done <| k_seq <| w_ret <| ?_; obtain rfl := os hf; exact r_flat ⟨trivial, trivial⟩ rfl (.refl _)
   ·refine w_condf rfl (bf c5) <| w_skip <| k_seq <| awp_seq <| w_reg <| s_mov (.bool true) rfl <| w_done <| k_seq <| w_ret <| ?_; obtain rfl := os hf; exact r_flat ⟨trivial, trivial⟩ rfl (.refl _)

/- laws.eqToldS -/
def c37 : ACode :=
 (.seq (.reg (tm 4 (.c (.bool false)) .done))
 (.seq (.seq (.reg (tm 6 (.t 0) (tq 7 (.len (.t 6)) (tm 8 (.t 1) (tq 9 (.len (.t 8)) (tq 10 (.bin .neq (.t 7) (.t 9)) .done))))))
 (.cond (.t 10) (.seq (.reg (tm 4 (.c (.bool false)) .done))
 .ret)
 .skip))
 (.seq (.seq (.reg (tm 5 (.c (.int .i64 0)) .done))
 (.block 0 (.loop (.seq (.seq (.reg (tm 11 (.t 5) (tm 12 (.t 0) (tq 13 (.len (.t 12)) (tq 14 (.bin .lss (.t 11) (.t 13)) .done)))))
 (.cond (.t 14) .skip
 (.exit 0)))
 (.seq (.block 1 (.seq (.reg (tm 17 (.t 0) (tm 18 (.t 5) (tq 19 (.iaddr 3 (.t 17) (.t 18)) (tq 20 (.load 3 true (.t 19)) (tm 21 (.t 1) (tm 22 (.t 5) (tq 23 (.iaddr 3 (.t 21) (.t 22)) (tq 24 (.load 3 true (.t 23)) (.l ⟨(some 25), none, .call 113 [(.t 20), (.t 24)]⟩ []
 (tq 26 (.not (.t 25)) .done) .non))))))))))
 (.cond (.t 26) (.seq (.reg (tm 4 (.c (.bool false)) .done))
 .ret)
 .skip)))
 (.reg (tm 15 (.t 5) (tq 16 (.bin .add (.t 15) (.c (.int .i64 1))) (tm 5 (.t 16) .done)))))))))
 (.cut (.seq (.reg (tm 4 (.c (.bool true)) .done))
 .ret)))))
theorem fc37 : fcomp Try.prog Try.f37 = some (c37.erase, [.mov (.t 4)], 27) := by kernel_rfl
def laws_eqToldS_L1 (b_2 : (List GTold)) : List GTold → Nat → Option (Fl Bool Unit)
  | [], i_25 =>
    some (.go ())
  | x_43 :: xs, i_25 =>
    (idx b_2 (i_25 : Int)).bind fun x_46 =>
    (laws_eqTold x_43 x_46).bind fun r_48 =>
    if (!r_48) then
    some (.ret false)
    else
    laws_eqToldS_L1 b_2 xs (i_25 + 1)

def laws_eqToldS (a_1 : (List GTold)) (b_2 : (List GTold)) : Option Bool :=
    if ((a_1.length : Int) != (b_2.length : Int)) then
    some false
    else
    (laws_eqToldS_L1 b_2 a_1 0).bind fun q => (match q with
    | .ret r => some r
    | .go _ =>
    some true)
theorem w_laws_eqToldS (a_1 : (List GTold)) (b_2 : (List GTold)) (r : Bool) (hf : laws_eqToldS a_1 b_2 = some r) : CallOK Try.prog 37 .flat [(.lst 3 (a_1.map encGTold)), (.lst 3 (b_2.map encGTold))] (.bool r) := by
 refine CallOK.of_awp mixed Try.func37 fc37 nle ?_; rw [argT_eq]; unfold laws_eqToldS at hf; unfold c37; refine (show awp Try.prog false 0 _ (ofL [(0, (.lst 3 (a_1.map encGTold))), (1, (.lst 3 (b_2.map encGTold)))]) [] _ from ?_); refine awp_seq <| w_reg <| s_mov (.bool false) rfl <| w_done <| k_seq <| awp_seq <| awp_seq <| w_reg <| s_mov (.lst 3 (a_1.map encGTold)) rfl <| s_dof (o_len (enc := encGTold) rfl) fun hl3 => s_mov (.lst 3 (b_2.map encGTold)) rfl <| s_dof (o_len (enc := encGTold) rfl) fun hl4 => s_q (.bool ((a_1.length : Int) != (b_2.length : Int))) rfl rfl rfl <| w_done <| k_seq <| ?_
 rcases oi hf with ⟨c5, hf⟩ | ⟨c5, hf⟩
 ·refine w_condt rfl c5 <| awp_seq <| w_reg <| s_mov (.bool false) rfl <| w_done <| k_seq <| w_ret <| ?_; obtain rfl := os hf; exact r_flat ⟨trivial, trivial⟩ rfl (.refl _)
 ·refine w_condf rfl (bf c5) <| w_skip <| k_seq <| awp_seq <| awp_seq <| w_reg <| s_mov (.int .i64 0) rfl <| w_done <| k_seq <| ?_
  obtain ⟨p36, hb1, hf⟩ := ob hf
  refine awp_cutx (X := {q : Unit // p36 = .go q}) (fun q => ([], [])) ?_ ?_
  ·refine awp_loop (X := {q : Nat // laws_eqToldS_L1 b_2 (a_1.drop q) q = some p36}) (fun q => ([(0, (.lst 3 (a_1.map encGTold))), (1, (.lst 3 (b_2.map encGTold))), (5, (.int .i64 (q.1 : Int)))], [])) (fun q => a_1.length - q.1) ⟨0, hb1⟩ ⟨[], [], _, _, rfl, rfl, ⟨.refl _, ⟨.refl _, ⟨.refl _, trivial⟩⟩⟩, (.refl _)⟩ ?_
   rintro ⟨i_25, hc1⟩
   have hc1 : laws_eqToldS_L1 b_2 (a_1.drop i_25) i_25 = some p36 := hc1
   refine (show awp Try.prog false 0 _ (ofL [(0, (.lst 3 (a_1.map encGTold))), (1, (.lst 3 (b_2.map encGTold))), (5, (.int .i64 (i_25 : Int)))]) [] _ from ?_)
   rcases dropc a_1 i_25 with ⟨hie39, hd42⟩ | ⟨hlt37, x_43, hx38, hd42⟩
   ·rw [hd42, laws_eqToldS_L1.eq_1] at hc1
    have hq41 := dlf hie39
    refine awp_seq <| awp_seq <| w_reg <| s_mov (.int .i64 (i_25 : Int)) rfl <| s_mov (.lst 3 (a_1.map encGTold)) rfl <| s_dof (o_len (enc := encGTold) rfl) fun hl44 => s_q (.bool (decide ((i_25 : Int) < (a_1.length : Int)))) rfl rfl rfl <| w_done <| k_seq <| w_condf rfl hq41 <| w_exit <| k_seqx <| k_loopx <| k_blkx <| ?_; obtain rfl := os hc1; exact k_cutn ⟨_, rfl⟩ ⟨[], [], _, _, rfl, rfl, trivial, (.refl _)⟩
   ·rw [hd42, laws_eqToldS_L1.eq_2] at hc1
    have hq41 := dlt hlt37
    refine awp_seq <| awp_seq <| w_reg <| s_mov (.int .i64 (i_25 : Int)) rfl <| s_mov (.lst 3 (a_1.map encGTold)) rfl <| s_dof (o_len (enc := encGTold) rfl) fun hl45 => s_q (.bool (decide ((i_25 : Int) < (a_1.length : Int)))) rfl rfl rfl <| w_done <| k_seq <| w_condt rfl hq41 <| w_skip <| k_seq <| awp_seq <| w_blk <| awp_seq <| w_reg <| ?_
    obtain ⟨x_46, ex47, hc1⟩ := ob hc1
    obtain ⟨r_48, er49, hc1⟩ := ob hc1
    refine s_mov (.lst 3 (a_1.map encGTold)) rfl <| s_mov (.int .i64 (i_25 : Int)) rfl <| s_do (o_iaddrn (enc := encGTold) rfl rfl hx38) <| s_q (encGTold x_43) rfl nle rfl <| s_mov (.lst 3 (b_2.map encGTold)) rfl <| s_mov (.int .i64 (i_25 : Int)) rfl <| s_do (o_iaddr (enc := encGTold) rfl rfl (idx0 ex47) (idx1 ex47)) <| s_q (encGTold x_46) rfl nle rfl <| s_dol (o_call (w_laws_eqTold _ _ _ er49) rfl (.refl _) rfl) a_same trivial <| s_q (.bool (!r_48)) rfl trivial rfl <| w_done <| k_seq <| ?_
    rcases oi hc1 with ⟨c50, hc1⟩ | ⟨c50, hc1⟩
    ·refine w_condt rfl c50 <| awp_seq <| w_reg <| s_mov (.bool false) rfl <| w_done <| k_seq <| w_ret <| ?_; obtain rfl := os hc1; obtain rfl := os hf; exact r_flat ⟨trivial, trivial⟩ rfl (.refl _)
    ·refine w_condf rfl (bf c50) <| w_skip <| k_blk <| k_seq <| w_reg <| s_mov (.int .i64 (i_25 : Int)) rfl <| s_q (.int .i64 (w64 ((i_25 : Int) + 1))) rfl rfl rfl <| s_mov (.int .i64 (w64 ((i_25 : Int) + 1))) rfl <| w_done <| ?_; exact k_loopn ⟨(i_25 + 1), hc1⟩ (mul hlt37) ⟨[], [], _, _, rfl, rfl, ⟨.refl _, ⟨.refl _, ⟨.of_eq (congrArg (AV.int _) (w64_incr hlt37 hl45)), trivial⟩⟩⟩, (.refl _)⟩
  ·rintro ⟨_, rfl⟩
   refine awp_seq <| w_reg <| s_mov (.bool true) rfl <| w_done <| k_seq <| w_ret <| ?_; obtain rfl := os hf; exact r_flat ⟨trivial, trivial⟩ rfl (.refl _)

/- laws.markText -/
def c90 : ACode :=
 (.seq (.reg (tm 2 (.c (.str [])) .done))
 (.seq (.seq (.reg (tm 4 (.t 0) (tq 5 (.bin .leq (.t 4) (.c (.int .i64 0))) .done)))
 (.cond (.t 5) (.seq (.reg (tm 2 (.c (.str [109, 48])) .done))
 .ret)
 .skip))
 (.seq (.reg (tm 3 (.c (.str [])) .done))
 (.seq (.block 0 (.loop (.seq (.seq (.reg (tm 6 (.t 0) (tq 7 (.bin .gtr (.t 6) (.c (.int .i64 0))) .done)))
 (.cond (.t 7) .skip
 (.exit 0)))
 (.block 1 (.seq (.reg (tm 8 (.t 0) (tq 9 (.bin .rem (.t 8) (.c (.int .i64 10))) (tq 10 (.bin .add (.c (.int .i64 48)) (.t 9)) (tq 11 (.convI .u8 (.t 10)) (tq 12 (.bslice 1 [(.t 11)]) (tq 13 (.convBS (.t 12)) (tm 14 (.t 3) (tq 15 (.bin .add (.t 13) (.t 14)) (tm 3 (.t 15) .done))))))))))
 (.reg (tm 16 (.t 0) (tq 17 (.bin .quo (.t 16) (.c (.int .i64 10))) (tm 0 (.t 17) .done)))))))))
 (.cut (.seq (.reg (tm 18 (.t 3) (tq 19 (.bin .add (.c (.str [109])) (.t 18)) (tm 2 (.t 19) .done))))
 .ret))))))
theorem fc90 : fcomp Try.prog Try.f90 = some (c90.erase, [.mov (.t 2)], 20) := by kernel_rfl
def laws_markText_L1  : Nat → Int → Str → Option Str
  | 0, _, _ => none
  | k + 1, k_9, out_10 =>
    if (decide (k_9 > 0)) then
    if (bstr [IntKind.u8.wrap (w64 (48 + (k_9.tmod 10)))]).length + out_10.length ≤ maxLen then
    laws_markText_L1 k (w64 (k_9.tdiv 10)) ((bstr [IntKind.u8.wrap (w64 (48 + (k_9.tmod 10)))]) ++ out_10)
    else none
    else
    some out_10

def laws_markText (k_1 : Int) : Option Str :=
    if (decide (k_1 ≤ 0)) then
    some [109, 48]
    else
    (laws_markText_L1 FUEL k_1 []).bind fun out_13 =>
    if [109].length + out_13.length ≤ maxLen then
    some ([109] ++ out_13)
    else none
theorem w_laws_markText (k_1 : Int) (r : Str) (hf : laws_markText k_1 = some r) : CallOK Try.prog 90 .flat [(.int .i64 k_1)] (.str r) := by
 refine CallOK.of_awp mixed Try.func90 fc90 nle ?_; rw [argT_eq]; unfold laws_markText at hf; unfold c90; refine (show awp Try.prog false 0 _ (ofL [(0, (.int .i64 k_1))]) [] _ from ?_); refine awp_seq <| w_reg <| s_mov (.str []) rfl <| w_done <| k_seq <| awp_seq <| awp_seq <| w_reg <| s_mov (.int .i64 k_1) rfl <| s_q (.bool (decide (k_1 ≤ 0))) rfl rfl rfl <| w_done <| k_seq <| ?_
 rcases oi hf with ⟨c2, hf⟩ | ⟨c2, hf⟩
 ·refine w_condt rfl c2 <| awp_seq <| w_reg <| s_mov (.str [109, 48]) rfl <| w_done <| k_seq <| w_ret <| ?_; obtain rfl := os hf; exact r_flat ⟨trivial, trivial⟩ rfl (.refl _)
 ·refine w_condf rfl (bf c2) <| w_skip <| k_seq <| awp_seq <| w_reg <| s_mov (.str []) rfl <| w_done <| k_seq <| awp_seq <| ?_
  obtain ⟨out_13, hb1, hf⟩ := ob hf
  refine awp_cut ([(3, (.str out_13))], []) ?_ ?_
  ·refine awp_loop (X := {q : (Nat × Int × Str) // laws_markText_L1 q.1 q.2.1 q.2.2 = some out_13}) (fun q => ([(0, (.int .i64 q.1.2.1)), (3, (.str q.1.2.2))], [])) (fun q => q.1.1) ⟨(FUEL, k_1, []), hb1⟩ ⟨[], [], _, _, rfl, rfl, ⟨.refl _, ⟨.refl _, trivial⟩⟩, (.refl _)⟩ ?_
   rintro ⟨⟨k, k_9, out_10⟩, hc1⟩
   have hc1 : laws_markText_L1 k k_9 out_10 = some out_13 := hc1
   refine (show awp Try.prog false 0 _ (ofL [(0, (.int .i64 k_9)), (3, (.str out_10))]) [] _ from ?_)
   rcases k with _ | k
   ·rw [laws_markText_L1.eq_1] at hc1
    cases hc1
   ·rw [laws_markText_L1.eq_2] at hc1; refine awp_seq <| awp_seq <| w_reg <| s_mov (.int .i64 k_9) rfl <| s_q (.bool (decide (k_9 > 0))) rfl rfl rfl <| w_done <| k_seq <| ?_
    rcases oi hc1 with ⟨c15, hc1⟩ | ⟨c15, hc1⟩
    ·refine w_condt rfl c15 <| w_skip <| k_seq <| w_blk <| awp_seq <| w_reg <| ?_
     obtain ⟨g16, hc1⟩ := og hc1
     refine s_mov (.int .i64 k_9) rfl <| s_q (.int .i64 (k_9.tmod 10)) rfl ⟨rfl, by decide⟩ rfl <| s_q (.int .i64 (w64 (48 + (k_9.tmod 10)))) rfl rfl rfl <| s_q (.int .u8 (IntKind.u8.wrap (w64 (48 + (k_9.tmod 10))))) rfl trivial rfl <| ?_; refine s_do (o_bslice (j := 0) (as' := [(.int .u8 (IntKind.u8.wrap (w64 (48 + (k_9.tmod 10)))))]) rfl (fun _ => by decide) ⟨rfl, trivial⟩ (.refl _) rfl rfl rfl) ?_; refine s_do (o_convbso (l := [IntKind.u8.wrap (w64 (48 + (k_9.tmod 10)))]) rfl rfl (by simp)) <| s_mov (.str out_10) rfl <| s_q (.str ((bstr [IntKind.u8.wrap (w64 (48 + (k_9.tmod 10)))]) ++ out_10)) rfl g16 rfl <| s_mov (.str ((bstr [IntKind.u8.wrap (w64 (48 + (k_9.tmod 10)))]) ++ out_10)) rfl <| w_done <| k_seq <| w_reg <| s_mov (.int .i64 k_9) rfl <| ?_
     refine s_q (.int .i64 (w64 (k_9.tdiv 10))) rfl ⟨rfl, by decide⟩ rfl <| s_mov (.int .i64 (w64 (k_9.tdiv 10))) rfl <| w_done <| k_blk <| ?_; exact k_loopn ⟨(k, w64 (k_9.tdiv 10), (bstr [IntKind.u8.wrap (w64 (48 + (k_9.tmod 10)))]) ++ out_10), hc1⟩ (Nat.lt_succ_self _) ⟨[], [], _, _, rfl, rfl, ⟨.refl _, ⟨.refl _, trivial⟩⟩, (.refl _)⟩
    ·refine w_condf rfl (bf c15) <| w_exit <| k_seqx <| k_loopx <| k_blkx <| ?_; obtain rfl := os hc1; exact ⟨[], [], _, _, rfl, rfl, ⟨.refl _, trivial⟩, (.refl _)⟩
  ·refine awp_seq <| w_reg <| ?_
   obtain ⟨g17, hf⟩ := og hf
   refine s_mov (.str out_13) rfl <| s_q (.str ([109] ++ out_13)) rfl g17 rfl <| s_mov (.str ([109] ++ out_13)) rfl <| w_done <| k_seq <| w_ret <| ?_; obtain rfl := os hf; exact r_flat ⟨trivial, trivial⟩ rfl (.refl _)

/- laws.markIntS -/
def c114_h0 : ACode :=
 (.seq (.reg (tm 4 (.c (.int .i64 0)) .done))
 (.seq (.seq (.reg (tm 5 (.c (.int .i64 0)) .done))
 (.block 0 (.loop (.seq (.seq (.reg (tm 6 (.t 5) (tm 7 (.t 0) (tq 8 (.len (.t 7)) (tq 9 (.bin .lss (.t 6) (.t 8)) .done)))))
 (.cond (.t 9) .skip
 (.exit 0)))
 (.seq (.block 1 (.seq (.reg (tm 12 (.t 0) (tm 13 (.t 5) (tm 14 (.t 1) (tq 15 (.iaddr 1 (.t 12) (.t 13)) (.q ⟨none, none, .store 1 (.t 15) (.t 14)⟩
 .done))))))
 (.reg (tm 16 (.t 1) (tq 17 (.bin .add (.t 16) (.c (.int .i64 1))) (tm 1 (.t 17) .done))))))
 (.reg (tm 10 (.t 5) (tq 11 (.bin .add (.t 10) (.c (.int .i64 1))) (tm 5 (.t 11) .done)))))))))
 (.cut (.seq (.reg (tm 18 (.t 1) (tm 4 (.t 18) .done)))
 .ret))))
theorem fc114_h0 : fcomp Try.prog Try.f114 = some (c114_h0.erase, [.mov (.t 4)], 19) := by kernel_rfl
def laws_markIntS_L1  : Nat → Int → Int → (List Int) → Option (Int × (List Int))
  | 0, _, _, _ => none
  | k + 1, k_38, i_39, a_40 =>
    if (decide (i_39 < (a_40.length : Int))) then
    if (0 : Int) ≤ i_39 ∧ i_39 < (a_40.length : Int) then
    (a_40[(0 + i_39.toNat)]?).bind fun x_52 =>
    laws_markIntS_L1 k (w64 (k_38 + 1)) (w64 (i_39 + 1)) (a_40.set (0 + i_39.toNat) k_38)
    else none
    else
    some (k_38, a_40)

def laws_markIntS (a_1 : (List Int)) (k_2 : Int) : Option (Int × (List Int)) :=
    (laws_markIntS_L1 FUEL k_2 0 a_1).bind fun p48 =>
    (match p48 with
    | (k_46, l_47) =>
    some (k_46, l_47))
theorem w_laws_markIntS (a_1 : (List Int)) (k_2 : Int) (r : (Int × (List Int))) (hf : laws_markIntS a_1 k_2 = some r) : CallHeap Try.prog ⟨true, true⟩ 114 [(.own 0 0 a_1.length), (.int .i64 k_2)] [.row 1 (a_1.map encI)] (.int .i64 r.1) [.row 1 (r.2.map encI)] := by
 refine CallHeap.of_awp mixed Try.func114 fc114_h0 nle ?_; rw [argT_eq]; unfold laws_markIntS at hf; unfold c114_h0; refine (show awp Try.prog ⟨true, true⟩ 1 _ (ofL [(0, (.own 0 0 a_1.length)), (1, (.int .i64 k_2))]) [.row 1 (a_1.map encI)] _ from ?_); refine awp_seq <| w_reg <| s_mov (.int .i64 0) rfl <| w_done <| k_seq <| awp_seq <| awp_seq <| w_reg <| s_mov (.int .i64 0) rfl <| w_done <| k_seq <| ?_
 obtain ⟨p48, hb1, hf⟩ := ob hf
 refine awp_cut ([(1, (.int .i64 p48.1))], [.row 1 (p48.2.map encI)]) ?_ ?_
 ·refine awp_loop (X := {q : (Nat × Int × Int × (List Int)) // laws_markIntS_L1 q.1 q.2.1 q.2.2.1 q.2.2.2 = some p48}) (fun q => ([(0, (.own 0 0 q.1.2.2.2.length)), (1, (.int .i64 q.1.2.1)), (5, (.int .i64 q.1.2.2.1))], [.row 1 (q.1.2.2.2.map encI)])) (fun q => q.1.1) ⟨(FUEL, k_2, 0, a_1), hb1⟩ ⟨[], [0], _, _, rfl, rfl, ⟨.refl _, ⟨.refl _, ⟨.refl _, trivial⟩⟩⟩, (.refl _)⟩ ?_
  rintro ⟨⟨k, k_38, i_39, a_40⟩, hc1⟩
  have hc1 : laws_markIntS_L1 k k_38 i_39 a_40 = some p48 := hc1
  refine (show awp Try.prog ⟨true, true⟩ 1 _ (ofL [(0, (.own 0 0 a_40.length)), (1, (.int .i64 k_38)), (5, (.int .i64 i_39))]) [.row 1 (a_40.map encI)] _ from ?_)
  rcases k with _ | k
  ·rw [laws_markIntS_L1.eq_1] at hc1
   cases hc1
  ·rw [laws_markIntS_L1.eq_2] at hc1; refine awp_seq <| awp_seq <| w_reg <| s_mov (.int .i64 i_39) rfl <| s_mov (.own 0 0 a_40.length) rfl <| s_dof (o_lenown rfl rfl) fun hl49 => s_q (.bool (decide (i_39 < (a_40.length : Int)))) rfl (.of rfl trivial) rfl <| w_done <| k_seq <| ?_
   rcases oi hc1 with ⟨c50, hc1⟩ | ⟨c50, hc1⟩
   ·refine w_condt rfl c50 <| w_skip <| k_seq <| awp_seq <| w_blk <| awp_seq <| w_reg <| ?_
    obtain ⟨g51, hc1⟩ := og hc1
    obtain ⟨x_52, ex53, hc1⟩ := ob hc1
    refine s_mov (.own 0 0 a_40.length) rfl <| s_mov (.int .i64 i_39) rfl <| s_mov (.int .i64 k_38) rfl <| s_do (o_iaddrown rfl rfl g51.1 g51.2 rfl rfl) <| ?_; refine s_do0 (o_storerow (v' := (.int .i64 k_38)) (e' := k_38) rfl rfl ex53 rfl rfl rfl (by decide) (fun _ => by decide) ⟨rfl, rfl, rfl⟩ (.refl _) rfl) ?_; refine w_done <| k_seq <| w_reg <| s_mov (.int .i64 k_38) rfl <| s_q (.int .i64 (w64 (k_38 + 1))) rfl (.of rfl trivial) rfl <| s_mov (.int .i64 (w64 (k_38 + 1))) rfl <| w_done <| k_blk <| k_seq <| w_reg <| s_mov (.int .i64 i_39) rfl <| s_q (.int .i64 (w64 (i_39 + 1))) rfl (.of rfl trivial) rfl <| s_mov (.int .i64 (w64 (i_39 + 1))) rfl <| w_done <| ?_; exact k_loopn ⟨(k, w64 (k_38 + 1), w64 (i_39 + 1), a_40.set (0 + i_39.toNat) k_38), hc1⟩ (Nat.lt_succ_self _) ⟨[], [0], _, _, rfl, rfl, ⟨.of_eq (congrArg (AV.own _ 0) (by simp)), ⟨.refl _, ⟨.refl _, trivial⟩⟩⟩, (.refl _)⟩
   ·refine w_condf rfl (bf c50) <| w_exit <| k_seqx <| k_loopx <| k_blkx <| ?_; obtain rfl := os hc1; exact ⟨[], [0], _, _, rfl, rfl, ⟨.refl _, trivial⟩, (.refl _)⟩
 ·obtain ⟨k_46, l_47⟩ := p48
  refine awp_seq <| w_reg <| s_mov (.int .i64 k_46) rfl <| s_mov (.int .i64 k_46) rfl <| w_done <| k_seq <| w_ret <| ?_; obtain rfl := os hf; exact r_heap [] [0] rfl ⟨.of trivial trivial, trivial⟩ rfl (.refl _) (.refl _)

/- laws.markLockS -/
def c38_h0 : ACode :=
 (.seq (.reg (tm 4 (.c (.int .i64 0)) .done))
 (.seq (.seq (.reg (tm 5 (.c (.int .i64 0)) .done))
 (.block 0 (.loop (.seq (.seq (.reg (tm 6 (.t 5) (tm 7 (.t 0) (tq 8 (.len (.t 7)) (tq 9 (.bin .lss (.t 6) (.t 8)) .done)))))
 (.cond (.t 9) .skip
 (.exit 0)))
 (.seq (.block 1 (.seq (.reg (tm 12 (.t 0) (tm 13 (.t 5) (tm 14 (.t 1) (tq 15 (.call 90 [(.t 14)]) (tq 16 (.iaddr 2 (.t 12) (.t 13)) (tq 17 (.faddr 0 (.t 16)) (.q ⟨none, none, .store 1 (.t 17) (.t 15)⟩
 .done))))))))
 (.seq (.reg (tm 18 (.t 1) (tq 19 (.bin .add (.t 18) (.c (.int .i64 1))) (tm 1 (.t 19) .done))))
 (.rev (.reg (tm 20 (.t 0) (tm 21 (.t 5) (tq 22 (.iaddr 2 (.t 20) (.t 21)) (tq 23 (.faddr 1 (.t 22)) (tq 24 (.load 1 false (.t 23)) (tm 25 (.t 1) (tq 26 (.call 114 [(.t 24), (.t 25)]) (tm 1 (.t 26) .done)))))))))))))
 (.reg (tm 10 (.t 5) (tq 11 (.bin .add (.t 10) (.c (.int .i64 1))) (tm 5 (.t 11) .done)))))))))
 (.cut (.seq (.reg (tm 27 (.t 1) (tm 4 (.t 27) .done)))
 .ret))))
theorem fc38_h0 : fcomp Try.prog Try.f38 = some (c38_h0.erase, [.mov (.t 4)], 28) := by kernel_rfl
def laws_markLockS_L1  : Nat → Int → Int → (List GLock) → Option (Int × (List GLock))
  | 0, _, _, _ => none
  | k + 1, k_73, i_74, a_75 =>
    if (decide (i_74 < (a_75.length : Int))) then
    (laws_markText k_73).bind fun r_93 =>
    if (0 : Int) ≤ i_74 ∧ i_74 < (a_75.length : Int) then
    (a_75[(0 + i_74.toNat)]?).bind fun x_96 =>
    if (0 : Int) ≤ i_74 ∧ i_74 < (a_75.length : Int) then
    (laws_markIntS x_96.Queue (w64 (k_73 + 1))).bind fun r_101 =>
    laws_markLockS_L1 k r_101.1 (w64 (i_74 + 1)) ((a_75.set (0 + i_74.toNat) (⟨r_93, x_96.Queue⟩ : GLock)).set (0 + i_74.toNat) (⟨r_93, r_101.2⟩ : GLock))
    else none
    else none
    else
    some (k_73, a_75)

def laws_markLockS (a_1 : (List GLock)) (k_2 : Int) : Option (Int × (List GLock)) :=
    (laws_markLockS_L1 FUEL k_2 0 a_1).bind fun p90 =>
    (match p90 with
    | (k_88, l_89) =>
    some (k_88, l_89))
theorem w_laws_markLockS (a_1 : (List GLock)) (k_2 : Int) (r : (Int × (List GLock))) (hf : laws_markLockS a_1 k_2 = some r) : CallHeap Try.prog ⟨true, true⟩ 38 [(.own 0 0 a_1.length), (.int .i64 k_2)] [.row 2 (a_1.map encGLock)] (.int .i64 r.1) [.row 2 (r.2.map encGLock)] := by
 refine CallHeap.of_awp mixed Try.func38 fc38_h0 nle ?_; rw [argT_eq]; unfold laws_markLockS at hf; unfold c38_h0; refine (show awp Try.prog ⟨true, true⟩ 1 _ (ofL [(0, (.own 0 0 a_1.length)), (1, (.int .i64 k_2))]) [.row 2 (a_1.map encGLock)] _ from ?_); refine awp_seq <| w_reg <| s_mov (.int .i64 0) rfl <| w_done <| k_seq <| awp_seq <| awp_seq <| w_reg <| s_mov (.int .i64 0) rfl <| w_done <| k_seq <| ?_
 obtain ⟨p90, hb1, hf⟩ := ob hf
 refine awp_cut ([(1, (.int .i64 p90.1))], [.row 2 (p90.2.map encGLock)]) ?_ ?_
 ·refine awp_loop (X := {q : (Nat × Int × Int × (List GLock)) // laws_markLockS_L1 q.1 q.2.1 q.2.2.1 q.2.2.2 = some p90}) (fun q => ([(0, (.own 0 0 q.1.2.2.2.length)), (1, (.int .i64 q.1.2.1)), (5, (.int .i64 q.1.2.2.1))], [.row 2 (q.1.2.2.2.map encGLock)])) (fun q => q.1.1) ⟨(FUEL, k_2, 0, a_1), hb1⟩ ⟨[], [0], _, _, rfl, rfl, ⟨.refl _, ⟨.refl _, ⟨.refl _, trivial⟩⟩⟩, (.refl _)⟩ ?_
  rintro ⟨⟨k, k_73, i_74, a_75⟩, hc1⟩
  have hc1 : laws_markLockS_L1 k k_73 i_74 a_75 = some p90 := hc1
  refine (show awp Try.prog ⟨true, true⟩ 1 _ (ofL [(0, (.own 0 0 a_75.length)), (1, (.int .i64 k_73)), (5, (.int .i64 i_74))]) [.row 2 (a_75.map encGLock)] _ from ?_)
  rcases k with _ | k
  ·rw [laws_markLockS_L1.eq_1] at hc1
   cases hc1
  ·rw [laws_markLockS_L1.eq_2] at hc1; refine awp_seq <| awp_seq <| w_reg <| s_mov (.int .i64 i_74) rfl <| s_mov (.own 0 0 a_75.length) rfl <| s_dof (o_lenown rfl rfl) fun hl91 => s_q (.bool (decide (i_74 < (a_75.length : Int)))) rfl (.of rfl trivial) rfl <| w_done <| k_seq <| ?_
   rcases oi hc1 with ⟨c92, hc1⟩ | ⟨c92, hc1⟩
   ·refine w_condt rfl c92 <| w_skip <| k_seq <| awp_seq <| w_blk <| awp_seq <| w_reg <| ?_
    obtain ⟨r_93, er94, hc1⟩ := ob hc1
    obtain ⟨g95, hc1⟩ := og hc1
    obtain ⟨x_96, ex97, hc1⟩ := ob hc1
    refine s_mov (.own 0 0 a_75.length) rfl <| s_mov (.int .i64 i_74) rfl <| s_mov (.int .i64 k_73) rfl <| s_do (o_call (w_laws_markText _ _ er94) rfl (.refl _) rfl) <| s_do (o_iaddrown rfl rfl g95.1 g95.2 rfl rfl) <| s_q (.ptr 0 (0 + i_74.toNat) 0) rfl (.of trivial trivial) rfl <| ?_; refine s_do0 (o_storerow (v' := (.str r_93)) (e' := (⟨r_93, x_96.Queue⟩ : GLock)) rfl rfl ex97 rfl rfl rfl (by decide) (fun _ => by decide) ⟨rfl, nle⟩ (.refl _) rfl) ?_; refine w_done <| k_seq <| awp_seq <| w_reg <| s_mov (.int .i64 k_73) rfl <| s_q (.int .i64 (w64 (k_73 + 1))) rfl (.of rfl trivial) rfl <| s_mov (.int .i64 (w64 (k_73 + 1))) rfl <| w_done <| k_seq <| ?_; refine w_rev (o := 0) (f := 1) (l' := x_96.Queue) (enc' := encI) (el := (.agg [(.str r_93), (.lst 1 (x_96.Queue.map encI))])) rfl (setget ex97) rfl rfl fun v_99 => ?_
    refine w_reg ?_
    obtain ⟨g100, hc1⟩ := og hc1
    obtain ⟨r_101, er102, hc1⟩ := ob hc1
    refine s_mov (.own 0 0 a_75.length) rfl <| s_mov (.int .i64 i_74) rfl <| s_do (o_iaddrown rfl rfl g100.1 g100.2 rfl rfl) <| s_q (.ptr 0 (0 + i_74.toNat) 1) rfl (.of trivial trivial) rfl <| s_do (o_loadhdr rfl rfl (getset (setget ex97)) nle rfl) <| s_mov (.int .i64 (w64 (k_73 + 1))) rfl <| s_do (o_callm (o := 0) (l := (a_75.set (0 + i_74.toNat) (⟨r_93, x_96.Queue⟩ : GLock))) (enc := encGLock) (enc' := encI) (l'' := r_101.2) (y := (⟨r_93, r_101.2⟩ : GLock)) (j := 1) (el := (.agg [(.str r_93), (.hdr v_99 1 (x_96.Queue.map encI))])) rfl rfl (w_laws_markIntS _ _ _ er102) rfl rfl (setget ex97) rfl (by decide) rfl) <| s_mov (.int .i64 r_101.1) rfl <| w_done <| k_blk <| k_seq <| w_reg <| s_mov (.int .i64 i_74) rfl <| ?_
    refine s_q (.int .i64 (w64 (i_74 + 1))) rfl (.of rfl trivial) rfl <| s_mov (.int .i64 (w64 (i_74 + 1))) rfl <| w_done <| ?_; exact k_loopn ⟨(k, r_101.1, w64 (i_74 + 1), (a_75.set (0 + i_74.toNat) (⟨r_93, x_96.Queue⟩ : GLock)).set (0 + i_74.toNat) (⟨r_93, r_101.2⟩ : GLock)), hc1⟩ (Nat.lt_succ_self _) ⟨[], [0], _, _, rfl, rfl, ⟨.of_eq (congrArg (AV.own _ 0) (by simp)), ⟨.refl _, ⟨.refl _, trivial⟩⟩⟩, (.refl _)⟩
   ·refine w_condf rfl (bf c92) <| w_exit <| k_seqx <| k_loopx <| k_blkx <| ?_; obtain rfl := os hc1; exact ⟨[], [0], _, _, rfl, rfl, ⟨.refl _, trivial⟩, (.refl _)⟩
 ·obtain ⟨k_88, l_89⟩ := p90
  refine awp_seq <| w_reg <| s_mov (.int .i64 k_88) rfl <| s_mov (.int .i64 k_88) rfl <| w_done <| k_seq <| w_ret <| ?_; obtain rfl := os hf; exact r_heap [] [0] rfl ⟨.of trivial trivial, trivial⟩ rfl (.refl _) (.refl _)

/- laws.markToldS -/
def c39_h0 : ACode :=
 (.seq (.reg (tm 4 (.c (.int .i64 0)) .done))
 (.seq (.seq (.reg (tm 5 (.c (.int .i64 0)) .done))
 (.block 0 (.loop (.seq (.seq (.reg (tm 6 (.t 5) (tm 7 (.t 0) (tq 8 (.len (.t 7)) (tq 9 (.bin .lss (.t 6) (.t 8)) .done)))))
 (.cond (.t 9) .skip
 (.exit 0)))
 (.seq (.block 1 (.seq (.reg (tm 12 (.t 0) (tm 13 (.t 5) (tm 14 (.t 1) (tq 15 (.iaddr 3 (.t 12) (.t 13)) (tq 16 (.faddr 0 (.t 15)) (.q ⟨none, none, .store 1 (.t 16) (.t 14)⟩
 .done)))))))
 (.seq (.reg (tm 17 (.t 1) (tq 18 (.bin .add (.t 17) (.c (.int .i64 1))) (tm 1 (.t 18) .done))))
 (.seq (.reg (tm 19 (.t 0) (tm 20 (.t 5) (tm 21 (.t 1) (tq 22 (.call 90 [(.t 21)]) (tq 23 (.iaddr 3 (.t 19) (.t 20)) (tq 24 (.faddr 1 (.t 23)) (.q ⟨none, none, .store 1 (.t 24) (.t 22)⟩
 .done))))))))
 (.seq (.reg (tm 25 (.t 1) (tq 26 (.bin .add (.t 25) (.c (.int .i64 1))) (tm 1 (.t 26) .done))))
 (.seq (.reg (tm 27 (.t 0) (tm 28 (.t 5) (tm 29 (.t 1) (tq 30 (.call 90 [(.t 29)]) (tq 31 (.iaddr 3 (.t 27) (.t 28)) (tq 32 (.faddr 2 (.t 31)) (.q ⟨none, none, .store 1 (.t 32) (.t 30)⟩
 .done))))))))
 (.reg (tm 33 (.t 1) (tq 34 (.bin .add (.t 33) (.c (.int .i64 1))) (tm 1 (.t 34) .done))))))))))
 (.reg (tm 10 (.t 5) (tq 11 (.bin .add (.t 10) (.c (.int .i64 1))) (tm 5 (.t 11) .done)))))))))
 (.cut (.seq (.reg (tm 35 (.t 1) (tm 4 (.t 35) .done)))
 .ret))))
theorem fc39_h0 : fcomp Try.prog Try.f39 = some (c39_h0.erase, [.mov (.t 4)], 36) := by kernel_rfl
def laws_markToldS_L1  : Nat → Int → Int → (List GTold) → Option (Int × (List GTold))
  | 0, _, _, _ => none
  | k + 1, k_68, i_69, a_70 =>
    if (decide (i_69 < (a_70.length : Int))) then
    if (0 : Int) ≤ i_69 ∧ i_69 < (a_70.length : Int) then
    (a_70[(0 + i_69.toNat)]?).bind fun x_88 =>
    (laws_markText (w64 (k_68 + 1))).bind fun r_90 =>
    if (0 : Int) ≤ i_69 ∧ i_69 < (a_70.length : Int) then
    (laws_markText (w64 ((w64 (k_68 + 1)) + 1))).bind fun r_93 =>
    if (0 : Int) ≤ i_69 ∧ i_69 < (a_70.length : Int) then
    laws_markToldS_L1 k (w64 ((w64 ((w64 (k_68 + 1)) + 1)) + 1)) (w64 (i_69 + 1)) (((a_70.set (0 + i_69.toNat) (⟨k_68, x_88.Word, x_88.Name⟩ : GTold)).set (0 + i_69.toNat) (⟨k_68, r_90, x_88.Name⟩ : GTold)).set (0 + i_69.toNat) (⟨k_68, r_90, r_93⟩ : GTold))
    else none
    else none
    else none
    else
    some (k_68, a_70)

def laws_markToldS (a_1 : (List GTold)) (k_2 : Int) : Option (Int × (List GTold)) :=
    (laws_markToldS_L1 FUEL k_2 0 a_1).bind fun p84 =>
    (match p84 with
    | (k_82, l_83) =>
    some (k_82, l_83))
theorem w_laws_markToldS (a_1 : (List GTold)) (k_2 : Int) (r : (Int × (List GTold))) (hf : laws_markToldS a_1 k_2 = some r) : CallHeap Try.prog ⟨true, true⟩ 39 [(.own 0 0 a_1.length), (.int .i64 k_2)] [.row 3 (a_1.map encGTold)] (.int .i64 r.1) [.row 3 (r.2.map encGTold)] := by
 refine CallHeap.of_awp mixed Try.func39 fc39_h0 nle ?_; rw [argT_eq]; unfold laws_markToldS at hf; unfold c39_h0; refine (show awp Try.prog ⟨true, true⟩ 1 _ (ofL [(0, (.own 0 0 a_1.length)), (1, (.int .i64 k_2))]) [.row 3 (a_1.map encGTold)] _ from ?_); refine awp_seq <| w_reg <| s_mov (.int .i64 0) rfl <| w_done <| k_seq <| awp_seq <| awp_seq <| w_reg <| s_mov (.int .i64 0) rfl <| w_done <| k_seq <| ?_
 obtain ⟨p84, hb1, hf⟩ := ob hf
 refine awp_cut ([(1, (.int .i64 p84.1))], [.row 3 (p84.2.map encGTold)]) ?_ ?_
 ·refine awp_loop (X := {q : (Nat × Int × Int × (List GTold)) // laws_markToldS_L1 q.1 q.2.1 q.2.2.1 q.2.2.2 = some p84}) (fun q => ([(0, (.own 0 0 q.1.2.2.2.length)), (1, (.int .i64 q.1.2.1)), (5, (.int .i64 q.1.2.2.1))], [.row 3 (q.1.2.2.2.map encGTold)])) (fun q => q.1.1) ⟨(FUEL, k_2, 0, a_1), hb1⟩ ⟨[], [0], _, _, rfl, rfl, ⟨.refl _, ⟨.refl _, ⟨.refl _, trivial⟩⟩⟩, (.refl _)⟩ ?_
  rintro ⟨⟨k, k_68, i_69, a_70⟩, hc1⟩
  have hc1 : laws_markToldS_L1 k k_68 i_69 a_70 = some p84 := hc1
  refine (show awp Try.prog ⟨true, true⟩ 1 _ (ofL [(0, (.own 0 0 a_70.length)), (1, (.int .i64 k_68)), (5, (.int .i64 i_69))]) [.row 3 (a_70.map encGTold)] _ from ?_)
  rcases k with _ | k
  ·rw [laws_markToldS_L1.eq_1] at hc1
   cases hc1
  ·rw [laws_markToldS_L1.eq_2] at hc1; refine awp_seq <| awp_seq <| w_reg <| s_mov (.int .i64 i_69) rfl <| s_mov (.own 0 0 a_70.length) rfl <| s_dof (o_lenown rfl rfl) fun hl85 => s_q (.bool (decide (i_69 < (a_70.length : Int)))) rfl (.of rfl trivial) rfl <| w_done <| k_seq <| ?_
   rcases oi hc1 with ⟨c86, hc1⟩ | ⟨c86, hc1⟩
   ·refine w_condt rfl c86 <| w_skip <| k_seq <| awp_seq <| w_blk <| awp_seq <| w_reg <| ?_
    obtain ⟨g87, hc1⟩ := og hc1
    obtain ⟨x_88, ex89, hc1⟩ := ob hc1
    refine s_mov (.own 0 0 a_70.length) rfl <| s_mov (.int .i64 i_69) rfl <| s_mov (.int .i64 k_68) rfl <| s_do (o_iaddrown rfl rfl g87.1 g87.2 rfl rfl) <| s_q (.ptr 0 (0 + i_69.toNat) 0) rfl (.of trivial trivial) rfl <| ?_; refine s_do0 (o_storerow (v' := (.int .i64 k_68)) (e' := (⟨k_68, x_88.Word, x_88.Name⟩ : GTold)) rfl rfl ex89 rfl rfl rfl (by decide) (fun _ => by decide) ⟨rfl, nle⟩ (.refl _) rfl) ?_; refine w_done <| k_seq <| awp_seq <| w_reg <| s_mov (.int .i64 k_68) rfl <| s_q (.int .i64 (w64 (k_68 + 1))) rfl (.of rfl trivial) rfl <| s_mov (.int .i64 (w64 (k_68 + 1))) rfl <| w_done <| k_seq <| awp_seq <| w_reg <| ?_
    obtain ⟨r_90, er91, hc1⟩ := ob hc1
    obtain ⟨g92, hc1⟩ := og hc1
    refine s_mov (.own 0 0 a_70.length) rfl <| s_mov (.int .i64 i_69) rfl <| s_mov (.int .i64 (w64 (k_68 + 1))) rfl <| s_do (o_call (w_laws_markText _ _ er91) rfl (.refl _) rfl) <| s_do (o_iaddrown rfl rfl g92.1 g92.2 rfl rfl) <| s_q (.ptr 0 (0 + i_69.toNat) 1) rfl (.of trivial trivial) rfl <| ?_; refine s_do0 (o_storerow (v' := (.str r_90)) (e' := (⟨k_68, r_90, x_88.Name⟩ : GTold)) rfl rfl (setget ex89) rfl rfl rfl (by decide) (fun _ => by decide) ⟨rfl, nle⟩ (.refl _) rfl) ?_; refine w_done <| k_seq <| awp_seq <| w_reg <| s_mov (.int .i64 (w64 (k_68 + 1))) rfl <| s_q (.int .i64 (w64 ((w64 (k_68 + 1)) + 1))) rfl (.of rfl trivial) rfl <| s_mov (.int .i64 (w64 ((w64 (k_68 + 1)) + 1))) rfl <| w_done <| k_seq <| awp_seq <| w_reg <| ?_
    obtain ⟨r_93, er94, hc1⟩ := ob hc1
    obtain ⟨g95, hc1⟩ := og hc1
    refine s_mov (.own 0 0 a_70.length) rfl <| s_mov (.int .i64 i_69) rfl <| s_mov (.int .i64 (w64 ((w64 (k_68 + 1)) + 1))) rfl <| s_do (o_call (w_laws_markText _ _ er94) rfl (.refl _) rfl) <| s_do (o_iaddrown rfl rfl g95.1 g95.2 rfl rfl) <| s_q (.ptr 0 (0 + i_69.toNat) 2) rfl (.of trivial trivial) rfl <| ?_; refine s_do0 (o_storerow (v' := (.str r_93)) (e' := (⟨k_68, r_90, r_93⟩ : GTold)) rfl rfl (setget (setget ex89)) rfl rfl rfl (by decide) (fun _ => by decide) ⟨rfl, nle⟩ (.refl _) rfl) ?_; refine w_done <| k_seq <| w_reg <| s_mov (.int .i64 (w64 ((w64 (k_68 + 1)) + 1))) rfl <| s_q (.int .i64 (w64 ((w64 ((w64 (k_68 + 1)) + 1)) + 1))) rfl (.of rfl trivial) rfl <| s_mov (.int .i64 (w64 ((w64 ((w64 (k_68 + 1)) + 1)) + 1))) rfl <| ?_
    refine w_done <| k_blk <| k_seq <| w_reg <| s_mov (.int .i64 i_69) rfl <| s_q (.int .i64 (w64 (i_69 + 1))) rfl (.of rfl trivial) rfl <| s_mov (.int .i64 (w64 (i_69 + 1))) rfl <| w_done <| ?_; exact k_loopn ⟨(k, w64 ((w64 ((w64 (k_68 + 1)) + 1)) + 1), w64 (i_69 + 1), ((a_70.set (0 + i_69.toNat) (⟨k_68, x_88.Word, x_88.Name⟩ : GTold)).set (0 + i_69.toNat) (⟨k_68, r_90, x_88.Name⟩ : GTold)).set (0 + i_69.toNat) (⟨k_68, r_90, r_93⟩ : GTold)), hc1⟩ (Nat.lt_succ_self _) ⟨[], [0], _, _, rfl, rfl, ⟨.of_eq (congrArg (AV.own _ 0) (by simp)), ⟨.refl _, ⟨.refl _, trivial⟩⟩⟩, (.refl _)⟩
   ·refine w_condf rfl (bf c86) <| w_exit <| k_seqx <| k_loopx <| k_blkx <| ?_; obtain rfl := os hc1; exact ⟨[], [0], _, _, rfl, rfl, ⟨.refl _, trivial⟩, (.refl _)⟩
 ·obtain ⟨k_82, l_83⟩ := p84
  refine awp_seq <| w_reg <| s_mov (.int .i64 k_82) rfl <| s_mov (.int .i64 k_82) rfl <| w_done <| k_seq <| w_ret <| ?_; obtain rfl := os hf; exact r_heap [] [0] rfl ⟨.of trivial trivial, trivial⟩ rfl (.refl _) (.refl _)

/- laws.heldIntS -/
def c115 : ACode :=
 (.seq (.reg (tm 4 (.c (.int .i64 0)) .done))
 (.seq (.seq (.reg (tm 5 (.c (.int .i64 0)) .done))
 (.block 0 (.loop (.seq (.seq (.reg (tm 6 (.t 5) (tm 7 (.t 0) (tq 8 (.len (.t 7)) (tq 9 (.bin .lss (.t 6) (.t 8)) .done)))))
 (.cond (.t 9) .skip
 (.exit 0)))
 (.seq (.block 1 (.seq (.seq (.reg (tm 12 (.t 0) (tm 13 (.t 5) (tq 14 (.iaddr 1 (.t 12) (.t 13)) (tq 15 (.load 1 false (.t 14)) (tm 16 (.t 1) (tq 17 (.bin .neq (.t 15) (.t 16)) .done)))))))
 (.cond (.t 17) (.seq (.reg (tq 4 (.mov (.c (.int .i64 (-1)))) .done))
 .ret)
 .skip))
 (.reg (tm 18 (.t 1) (tq 19 (.bin .add (.t 18) (.c (.int .i64 1))) (tm 1 (.t 19) .done))))))
 (.reg (tm 10 (.t 5) (tq 11 (.bin .add (.t 10) (.c (.int .i64 1))) (tm 5 (.t 11) .done)))))))))
 (.cut (.seq (.reg (tm 20 (.t 1) (tm 4 (.t 20) .done)))
 .ret))))
theorem fc115 : fcomp Try.prog Try.f115 = some (c115.erase, [.mov (.t 4)], 21) := by kernel_rfl
def laws_heldIntS_L1  : List Int → Int → Option (Fl Int Int)
  | [], k_15 =>
    some (.go k_15)
  | x_31 :: xs, k_15 =>
    if (x_31 != k_15) then
    some (.ret (-1))
    else
    laws_heldIntS_L1 xs (w64 (k_15 + 1)) 

def laws_heldIntS (a_1 : (List Int)) (k_2 : Int) : Option Int :=
    (laws_heldIntS_L1 a_1 k_2).bind fun q => (match q with
    | .ret r => some r
    | .go k_23 =>
    some k_23)
theorem w_laws_heldIntS (a_1 : (List Int)) (k_2 : Int) (r : Int) (hf : laws_heldIntS a_1 k_2 = some r) : CallOK Try.prog 115 .flat [(.lst 1 (a_1.map encI)), (.int .i64 k_2)] (.int .i64 r) := by
 refine CallOK.of_awp mixed Try.func115 fc115 nle ?_; rw [argT_eq]; unfold laws_heldIntS at hf; unfold c115; refine (show awp Try.prog false 0 _ (ofL [(0, (.lst 1 (a_1.map encI))), (1, (.int .i64 k_2))]) [] _ from ?_); refine awp_seq <| w_reg <| s_mov (.int .i64 0) rfl <| w_done <| k_seq <| awp_seq <| awp_seq <| w_reg <| s_mov (.int .i64 0) rfl <| w_done <| k_seq <| ?_
 obtain ⟨p24, hb1, hf⟩ := ob hf
 refine awp_cutx (X := {q : Int // p24 = .go q}) (fun q => ([(1, (.int .i64 q.1))], [])) ?_ ?_
 ·refine awp_loop (X := {q : (Int × Nat) // laws_heldIntS_L1 (a_1.drop q.2) q.1 = some p24}) (fun q => ([(0, (.lst 1 (a_1.map encI))), (1, (.int .i64 q.1.1)), (5, (.int .i64 (q.1.2 : Int)))], [])) (fun q => a_1.length - q.1.2) ⟨(k_2, 0), hb1⟩ ⟨[], [], _, _, rfl, rfl, ⟨.refl _, ⟨.refl _, ⟨.refl _, trivial⟩⟩⟩, (.refl _)⟩ ?_
  rintro ⟨⟨k_15, i_16⟩, hc1⟩
  have hc1 : laws_heldIntS_L1 (a_1.drop i_16) k_15 = some p24 := hc1
  refine (show awp Try.prog false 0 _ (ofL [(0, (.lst 1 (a_1.map encI))), (1, (.int .i64 k_15)), (5, (.int .i64 (i_16 : Int)))]) [] _ from ?_)
  rcases dropc a_1 i_16 with ⟨hie27, hd30⟩ | ⟨hlt25, x_31, hx26, hd30⟩
  ·rw [hd30, laws_heldIntS_L1.eq_1] at hc1
   have hq29 := dlf hie27
   refine awp_seq <| awp_seq <| w_reg <| s_mov (.int .i64 (i_16 : Int)) rfl <| s_mov (.lst 1 (a_1.map encI)) rfl <| s_dof (o_len (enc := encI) rfl) fun hl32 => s_q (.bool (decide ((i_16 : Int) < (a_1.length : Int)))) rfl rfl rfl <| w_done <| k_seq <| w_condf rfl hq29 <| w_exit <| k_seqx <| k_loopx <| k_blkx <| ?_; obtain rfl := os hc1; exact k_cutn ⟨_, rfl⟩ ⟨[], [], _, _, rfl, rfl, ⟨.refl _, trivial⟩, (.refl _)⟩
  ·rw [hd30, laws_heldIntS_L1.eq_2] at hc1
   have hq29 := dlt hlt25
   refine awp_seq <| awp_seq <| w_reg <| s_mov (.int .i64 (i_16 : Int)) rfl <| s_mov (.lst 1 (a_1.map encI)) rfl <| s_dof (o_len (enc := encI) rfl) fun hl33 => s_q (.bool (decide ((i_16 : Int) < (a_1.length : Int)))) rfl rfl rfl <| w_done <| k_seq <| w_condt rfl hq29 <| w_skip <| k_seq <| awp_seq <| w_blk <| awp_seq <| awp_seq <| w_reg <| s_mov (.lst 1 (a_1.map encI)) rfl <| s_mov (.int .i64 (i_16 : Int)) rfl <| s_do (o_iaddrn (enc := encI) rfl rfl hx26) <| s_q (.int .i64 x_31) rfl ⟨rfl, rfl⟩ rfl <| s_mov (.int .i64 k_15) rfl <| s_q (.bool (x_31 != k_15)) rfl rfl rfl <| w_done <| k_seq <| ?_
   rcases oi hc1 with ⟨c34, hc1⟩ | ⟨c34, hc1⟩
   ·refine w_condt rfl c34 <| awp_seq <| w_reg <| s_mov (.int .i64 (-1)) rfl <| w_done <| k_seq <| w_ret <| ?_; obtain rfl := os hc1; obtain rfl := os hf; exact r_flat ⟨trivial, trivial⟩ rfl (.refl _)
   ·refine w_condf rfl (bf c34) <| w_skip <| k_seq <| w_reg <| s_mov (.int .i64 k_15) rfl <| s_q (.int .i64 (w64 (k_15 + 1))) rfl rfl rfl <| s_mov (.int .i64 (w64 (k_15 + 1))) rfl <| w_done <| k_blk <| k_seq <| w_reg <| s_mov (.int .i64 (i_16 : Int)) rfl <| s_q (.int .i64 (w64 ((i_16 : Int) + 1))) rfl rfl rfl <| s_mov (.int .i64 (w64 ((i_16 : Int) + 1))) rfl <| w_done <| ?_; exact k_loopn ⟨(w64 (k_15 + 1), (i_16 + 1)), hc1⟩ (mul hlt25) ⟨[], [], _, _, rfl, rfl, ⟨.refl _, ⟨.refl _, ⟨.of_eq (congrArg (AV.int _) (w64_incr hlt25 hl33)), trivial⟩⟩⟩, (.refl _)⟩
 ·rintro ⟨k_23, rfl⟩
  refine awp_seq <| w_reg <| s_mov (.int .i64 k_23) rfl <| s_mov (.int .i64 k_23) rfl <| w_done <| k_seq <| w_ret <| ?_; obtain rfl := os hf; exact r_flat ⟨trivial, trivial⟩ rfl (.refl _)

/- laws.heldLockS -/
def c40 : ACode :=
 (.seq (.reg (tm 4 (.c (.int .i64 0)) .done))
 (.seq (.seq (.reg (tm 5 (.c (.int .i64 0)) .done))
 (.block 0 (.loop (.seq (.seq (.reg (tm 6 (.t 5) (tm 7 (.t 0) (tq 8 (.len (.t 7)) (tq 9 (.bin .lss (.t 6) (.t 8)) .done)))))
 (.cond (.t 9) .skip
 (.exit 0)))
 (.seq (.block 1 (.seq (.seq (.reg (tm 12 (.t 0) (tm 13 (.t 5) (tq 14 (.iaddr 2 (.t 12) (.t 13)) (tq 15 (.faddr 0 (.t 14)) (tq 16 (.load 1 false (.t 15)) (tm 17 (.t 1) (.l ⟨(some 18), none, .call 90 [(.t 17)]⟩ [⟨(some 16), none, .load 1 false (.t 15)⟩, ⟨(some 15), none, .faddr 0 (.t 14)⟩, ⟨(some 14), none, .iaddr 2 (.t 12) (.t 13)⟩]
 (tq 19 (.bin .neq (.t 16) (.t 18)) .done) .non))))))))
 (.cond (.t 19) (.seq (.reg (tq 4 (.mov (.c (.int .i64 (-1)))) .done))
 .ret)
 .skip))
 (.seq (.reg (tm 20 (.t 1) (tq 21 (.bin .add (.t 20) (.c (.int .i64 1))) (tm 1 (.t 21) .done))))
 (.seq (.reg (tm 22 (.t 0) (tm 23 (.t 5) (tq 24 (.iaddr 2 (.t 22) (.t 23)) (tq 25 (.faddr 1 (.t 24)) (tq 26 (.load 1 false (.t 25)) (tm 27 (.t 1) (tq 28 (.call 115 [(.t 26), (.t 27)]) (tm 1 (.t 28) .done)))))))))
 (.seq (.reg (tm 29 (.t 1) (tq 30 (.bin .lss (.t 29) (.c (.int .i64 0))) .done)))
 (.cond (.t 30) (.seq (.reg (tq 4 (.mov (.c (.int .i64 (-1)))) .done))
 .ret)
 .skip))))))
 (.reg (tm 10 (.t 5) (tq 11 (.bin .add (.t 10) (.c (.int .i64 1))) (tm 5 (.t 11) .done)))))))))
 (.cut (.seq (.reg (tm 31 (.t 1) (tm 4 (.t 31) .done)))
 .ret))))
theorem fc40 : fcomp Try.prog Try.f40 = some (c40.erase, [.mov (.t 4)], 32) := by kernel_rfl
def laws_heldLockS_L1  : List GLock → Int → Option (Fl Int Int)
  | [], k_29 =>
    some (.go k_29)
  | x_52 :: xs, k_29 =>
    (laws_markText k_29).bind fun r_55 =>
    if (!(x_52.Name == r_55)) then
    some (.ret (-1))
    else
    (laws_heldIntS x_52.Queue (w64 (k_29 + 1))).bind fun r_58 =>
    if (decide (r_58 < 0)) then
    some (.ret (-1))
    else
    laws_heldLockS_L1 xs r_58 

def laws_heldLockS (a_1 : (List GLock)) (k_2 : Int) : Option Int :=
    (laws_heldLockS_L1 a_1 k_2).bind fun q => (match q with
    | .ret r => some r
    | .go k_44 =>
    some k_44)
theorem w_laws_heldLockS (a_1 : (List GLock)) (k_2 : Int) (r : Int) (hf : laws_heldLockS a_1 k_2 = some r) : CallOK Try.prog 40 .flat [(.lst 2 (a_1.map encGLock)), (.int .i64 k_2)] (.int .i64 r) := by
 refine CallOK.of_awp mixed Try.func40 fc40 nle ?_; rw [argT_eq]; unfold laws_heldLockS at hf; unfold c40; refine (show awp Try.prog false 0 _ (ofL [(0, (.lst 2 (a_1.map encGLock))), (1, (.int .i64 k_2))]) [] _ from ?_); refine awp_seq <| w_reg <| s_mov (.int .i64 0) rfl <| w_done <| k_seq <| awp_seq <| awp_seq <| w_reg <| s_mov (.int .i64 0) rfl <| w_done <| k_seq <| ?_
 obtain ⟨p45, hb1, hf⟩ := ob hf
 refine awp_cutx (X := {q : Int // p45 = .go q}) (fun q => ([(1, (.int .i64 q.1))], [])) ?_ ?_
 ·refine awp_loop (X := {q : (Int × Nat) // laws_heldLockS_L1 (a_1.drop q.2) q.1 = some p45}) (fun q => ([(0, (.lst 2 (a_1.map encGLock))), (1, (.int .i64 q.1.1)), (5, (.int .i64 (q.1.2 : Int)))], [])) (fun q => a_1.length - q.1.2) ⟨(k_2, 0), hb1⟩ ⟨[], [], _, _, rfl, rfl, ⟨.refl _, ⟨.refl _, ⟨.refl _, trivial⟩⟩⟩, (.refl _)⟩ ?_
  rintro ⟨⟨k_29, i_30⟩, hc1⟩
  have hc1 : laws_heldLockS_L1 (a_1.drop i_30) k_29 = some p45 := hc1
  refine (show awp Try.prog false 0 _ (ofL [(0, (.lst 2 (a_1.map encGLock))), (1, (.int .i64 k_29)), (5, (.int .i64 (i_30 : Int)))]) [] _ from ?_)
  rcases dropc a_1 i_30 with ⟨hie48, hd51⟩ | ⟨hlt46, x_52, hx47, hd51⟩
  ·rw [hd51, laws_heldLockS_L1.eq_1] at hc1
   have hq50 := dlf hie48
   refine awp_seq <| awp_seq <| w_reg <| s_mov (.int .i64 (i_30 : Int)) rfl <| s_mov (.lst 2 (a_1.map encGLock)) rfl <| s_dof (o_len (enc := encGLock) rfl) fun hl53 => s_q (.bool (decide ((i_30 : Int) < (a_1.length : Int)))) rfl rfl rfl <| w_done <| k_seq <| w_condf rfl hq50 <| w_exit <| k_seqx <| k_loopx <| k_blkx <| ?_; obtain rfl := os hc1; exact k_cutn ⟨_, rfl⟩ ⟨[], [], _, _, rfl, rfl, ⟨.refl _, trivial⟩, (.refl _)⟩
  ·rw [hd51, laws_heldLockS_L1.eq_2] at hc1
   have hq50 := dlt hlt46
   refine awp_seq <| awp_seq <| w_reg <| s_mov (.int .i64 (i_30 : Int)) rfl <| s_mov (.lst 2 (a_1.map encGLock)) rfl <| s_dof (o_len (enc := encGLock) rfl) fun hl54 => s_q (.bool (decide ((i_30 : Int) < (a_1.length : Int)))) rfl rfl rfl <| w_done <| k_seq <| w_condt rfl hq50 <| w_skip <| k_seq <| awp_seq <| w_blk <| awp_seq <| awp_seq <| w_reg <| ?_
   obtain ⟨r_55, er56, hc1⟩ := ob hc1
   refine s_mov (.lst 2 (a_1.map encGLock)) rfl <| s_mov (.int .i64 (i_30 : Int)) rfl <| s_do (o_iaddrn (enc := encGLock) rfl rfl hx47) <| s_q (.iptr (encGLock x_52) 0) rfl trivial rfl <| s_q (.str x_52.Name) rfl nle rfl <| s_mov (.int .i64 k_29) rfl <| s_dol (o_call (w_laws_markText _ _ er56) rfl (.refl _) rfl) a_same trivial <| s_q (.bool (!(x_52.Name == r_55))) rfl trivial rfl <| w_done <| k_seq <| ?_
   rcases oi hc1 with ⟨c57, hc1⟩ | ⟨c57, hc1⟩
   ·refine w_condt rfl c57 <| awp_seq <| w_reg <| s_mov (.int .i64 (-1)) rfl <| w_done <| k_seq <| w_ret <| ?_; obtain rfl := os hc1; obtain rfl := os hf; exact r_flat ⟨trivial, trivial⟩ rfl (.refl _)
   ·refine w_condf rfl (bf c57) <| w_skip <| k_seq <| awp_seq <| w_reg <| s_mov (.int .i64 k_29) rfl <| s_q (.int .i64 (w64 (k_29 + 1))) rfl rfl rfl <| s_mov (.int .i64 (w64 (k_29 + 1))) rfl <| w_done <| k_seq <| awp_seq <| w_reg <| ?_
    obtain ⟨r_58, er59, hc1⟩ := ob hc1
    refine s_mov (.lst 2 (a_1.map encGLock)) rfl <| s_mov (.int .i64 (i_30 : Int)) rfl <| s_do (o_iaddrn (enc := encGLock) rfl rfl hx47) <| s_q (.iptr (encGLock x_52) 1) rfl trivial rfl <| s_q (.lst 1 (x_52.Queue.map encI)) rfl nle rfl <| s_mov (.int .i64 (w64 (k_29 + 1))) rfl <| s_do (o_call (w_laws_heldIntS _ _ _ er59) rfl (.refl _) rfl) <| s_mov (.int .i64 r_58) rfl <| w_done <| k_seq <| awp_seq <| w_reg <| s_mov (.int .i64 r_58) rfl <| s_q (.bool (decide (r_58 < 0))) rfl rfl rfl <| w_done <| k_seq <| ?_
    rcases oi hc1 with ⟨c60, hc1⟩ | ⟨c60, hc1⟩
    ·refine w_condt rfl c60 <| awp_seq <| w_reg <| s_mov (.int .i64 (-1)) rfl <| w_done <| k_seq <| w_ret <| ?_; obtain rfl := os hc1; obtain rfl := os hf; exact r_flat ⟨trivial, trivial⟩ rfl (.refl _)
    ·refine w_condf rfl (bf c60) <| w_skip <| k_blk <| k_seq <| w_reg <| s_mov (.int .i64 (i_30 : Int)) rfl <| s_q (.int .i64 (w64 ((i_30 : Int) + 1))) rfl rfl rfl <| s_mov (.int .i64 (w64 ((i_30 : Int) + 1))) rfl <| w_done <| ?_; exact k_loopn ⟨(r_58, (i_30 + 1)), hc1⟩ (mul hlt46) ⟨[], [], _, _, rfl, rfl, ⟨.refl _, ⟨.refl _, ⟨.of_eq (congrArg (AV.int _) (w64_incr hlt46 hl54)), trivial⟩⟩⟩, (.refl _)⟩
 ·rintro ⟨k_44, rfl⟩
  refine awp_seq <| w_reg <| s_mov (.int .i64 k_44) rfl <| s_mov (.int .i64 k_44) rfl <| w_done <| k_seq <| w_ret <| ?_; obtain rfl := os hf; exact r_flat ⟨trivial, trivial⟩ rfl (.refl _)

/- laws.heldToldS -/
def c41 : ACode :=
 (.seq (.reg (tm 4 (.c (.int .i64 0)) .done))
 (.seq (.seq (.reg (tm 5 (.c (.int .i64 0)) .done))
 (.block 0 (.loop (.seq (.seq (.reg (tm 6 (.t 5) (tm 7 (.t 0) (tq 8 (.len (.t 7)) (tq 9 (.bin .lss (.t 6) (.t 8)) .done)))))
 (.cond (.t 9) .skip
 (.exit 0)))
 (.seq (.block 1 (.seq (.seq (.reg (tm 12 (.t 0) (tm 13 (.t 5) (tq 14 (.iaddr 3 (.t 12) (.t 13)) (tq 15 (.faddr 0 (.t 14)) (tq 16 (.load 1 false (.t 15)) (tm 17 (.t 1) (tq 18 (.bin .neq (.t 16) (.t 17)) .done))))))))
 (.cond (.t 18) (.seq (.reg (tq 4 (.mov (.c (.int .i64 (-1)))) .done))
 .ret)
 .skip))
 (.seq (.reg (tm 19 (.t 1) (tq 20 (.bin .add (.t 19) (.c (.int .i64 1))) (tm 1 (.t 20) .done))))
 (.seq (.seq (.reg (tm 21 (.t 0) (tm 22 (.t 5) (tq 23 (.iaddr 3 (.t 21) (.t 22)) (tq 24 (.faddr 1 (.t 23)) (tq 25 (.load 1 false (.t 24)) (tm 26 (.t 1) (.l ⟨(some 27), none, .call 90 [(.t 26)]⟩ [⟨(some 25), none, .load 1 false (.t 24)⟩, ⟨(some 24), none, .faddr 1 (.t 23)⟩, ⟨(some 23), none, .iaddr 3 (.t 21) (.t 22)⟩]
 (tq 28 (.bin .neq (.t 25) (.t 27)) .done) .non))))))))
 (.cond (.t 28) (.seq (.reg (tq 4 (.mov (.c (.int .i64 (-1)))) .done))
 .ret)
 .skip))
 (.seq (.reg (tm 29 (.t 1) (tq 30 (.bin .add (.t 29) (.c (.int .i64 1))) (tm 1 (.t 30) .done))))
 (.seq (.seq (.reg (tm 31 (.t 0) (tm 32 (.t 5) (tq 33 (.iaddr 3 (.t 31) (.t 32)) (tq 34 (.faddr 2 (.t 33)) (tq 35 (.load 1 false (.t 34)) (tm 36 (.t 1) (.l ⟨(some 37), none, .call 90 [(.t 36)]⟩ [⟨(some 35), none, .load 1 false (.t 34)⟩, ⟨(some 34), none, .faddr 2 (.t 33)⟩, ⟨(some 33), none, .iaddr 3 (.t 31) (.t 32)⟩]
 (tq 38 (.bin .neq (.t 35) (.t 37)) .done) .non))))))))
 (.cond (.t 38) (.seq (.reg (tq 4 (.mov (.c (.int .i64 (-1)))) .done))
 .ret)
 .skip))
 (.reg (tm 39 (.t 1) (tq 40 (.bin .add (.t 39) (.c (.int .i64 1))) (tm 1 (.t 40) .done))))))))))
 (.reg (tm 10 (.t 5) (tq 11 (.bin .add (.t 10) (.c (.int .i64 1))) (tm 5 (.t 11) .done)))))))))
 (.cut (.seq (.reg (tm 41 (.t 1) (tm 4 (.t 41) .done)))
 .ret))))
theorem fc41 : fcomp Try.prog Try.f41 = some (c41.erase, [.mov (.t 4)], 42) := by kernel_rfl
def laws_heldToldS_L1  : List GTold → Int → Option (Fl Int Int)
  | [], k_35 =>
    some (.go k_35)
  | x_61 :: xs, k_35 =>
    if (x_61.Session != k_35) then
    some (.ret (-1))
    else
    (laws_markText (w64 (k_35 + 1))).bind fun r_65 =>
    if (!(x_61.Word == r_65)) then
    some (.ret (-1))
    else
    (laws_markText (w64 ((w64 (k_35 + 1)) + 1))).bind fun r_68 =>
    if (!(x_61.Name == r_68)) then
    some (.ret (-1))
    else
    laws_heldToldS_L1 xs (w64 ((w64 ((w64 (k_35 + 1)) + 1)) + 1)) 

def laws_heldToldS (a_1 : (List GTold)) (k_2 : Int) : Option Int :=
    (laws_heldToldS_L1 a_1 k_2).bind fun q => (match q with
    | .ret r => some r
    | .go k_53 =>
    some k_53)
theorem w_laws_heldToldS (a_1 : (List GTold)) (k_2 : Int) (r : Int) (hf : laws_heldToldS a_1 k_2 = some r) : CallOK Try.prog 41 .flat [(.lst 3 (a_1.map encGTold)), (.int .i64 k_2)] (.int .i64 r) := by
 refine CallOK.of_awp mixed Try.func41 fc41 nle ?_; rw [argT_eq]; unfold laws_heldToldS at hf; unfold c41; refine (show awp Try.prog false 0 _ (ofL [(0, (.lst 3 (a_1.map encGTold))), (1, (.int .i64 k_2))]) [] _ from ?_); refine awp_seq <| w_reg <| s_mov (.int .i64 0) rfl <| w_done <| k_seq <| awp_seq <| awp_seq <| w_reg <| s_mov (.int .i64 0) rfl <| w_done <| k_seq <| ?_
 obtain ⟨p54, hb1, hf⟩ := ob hf
 refine awp_cutx (X := {q : Int // p54 = .go q}) (fun q => ([(1, (.int .i64 q.1))], [])) ?_ ?_
 ·refine awp_loop (X := {q : (Int × Nat) // laws_heldToldS_L1 (a_1.drop q.2) q.1 = some p54}) (fun q => ([(0, (.lst 3 (a_1.map encGTold))), (1, (.int .i64 q.1.1)), (5, (.int .i64 (q.1.2 : Int)))], [])) (fun q => a_1.length - q.1.2) ⟨(k_2, 0), hb1⟩ ⟨[], [], _, _, rfl, rfl, ⟨.refl _, ⟨.refl _, ⟨.refl _, trivial⟩⟩⟩, (.refl _)⟩ ?_
  rintro ⟨⟨k_35, i_36⟩, hc1⟩
  have hc1 : laws_heldToldS_L1 (a_1.drop i_36) k_35 = some p54 := hc1
  refine (show awp Try.prog false 0 _ (ofL [(0, (.lst 3 (a_1.map encGTold))), (1, (.int .i64 k_35)), (5, (.int .i64 (i_36 : Int)))]) [] _ from ?_)
  rcases dropc a_1 i_36 with ⟨hie57, hd60⟩ | ⟨hlt55, x_61, hx56, hd60⟩
  ·rw [hd60, laws_heldToldS_L1.eq_1] at hc1
   have hq59 := dlf hie57
   refine awp_seq <| awp_seq <| w_reg <| s_mov (.int .i64 (i_36 : Int)) rfl <| s_mov (.lst 3 (a_1.map encGTold)) rfl <| s_dof (o_len (enc := encGTold) rfl) fun hl62 => s_q (.bool (decide ((i_36 : Int) < (a_1.length : Int)))) rfl rfl rfl <| w_done <| k_seq <| w_condf rfl hq59 <| w_exit <| k_seqx <| k_loopx <| k_blkx <| ?_; obtain rfl := os hc1; exact k_cutn ⟨_, rfl⟩ ⟨[], [], _, _, rfl, rfl, ⟨.refl _, trivial⟩, (.refl _)⟩
  ·rw [hd60, laws_heldToldS_L1.eq_2] at hc1
   have hq59 := dlt hlt55
   refine awp_seq <| awp_seq <| w_reg <| s_mov (.int .i64 (i_36 : Int)) rfl <| s_mov (.lst 3 (a_1.map encGTold)) rfl <| s_dof (o_len (enc := encGTold) rfl) fun hl63 => s_q (.bool (decide ((i_36 : Int) < (a_1.length : Int)))) rfl rfl rfl <| w_done <| k_seq <| w_condt rfl hq59 <| w_skip <| k_seq <| awp_seq <| w_blk <| awp_seq <| awp_seq <| w_reg <| s_mov (.lst 3 (a_1.map encGTold)) rfl <| s_mov (.int .i64 (i_36 : Int)) rfl <| s_do (o_iaddrn (enc := encGTold) rfl rfl hx56) <| s_q (.iptr (encGTold x_61) 0) rfl trivial rfl <| s_q (.int .i64 x_61.Session) rfl nle rfl <| s_mov (.int .i64 k_35) rfl <| s_q (.bool (x_61.Session != k_35)) rfl rfl rfl <| w_done <| k_seq <| ?_
   rcases oi hc1 with ⟨c64, hc1⟩ | ⟨c64, hc1⟩
   ·refine w_condt rfl c64 <| awp_seq <| w_reg <| s_mov (.int .i64 (-1)) rfl <| w_done <| k_seq <| w_ret <| ?_; obtain rfl := os hc1; obtain rfl := os hf; exact r_flat ⟨trivial, trivial⟩ rfl (.refl _)
   ·refine w_condf rfl (bf c64) <| w_skip <| k_seq <| awp_seq <| w_reg <| s_mov (.int .i64 k_35) rfl <| s_q (.int .i64 (w64 (k_35 + 1))) rfl rfl rfl <| s_mov (.int .i64 (w64 (k_35 + 1))) rfl <| w_done <| k_seq <| awp_seq <| awp_seq <| w_reg <| ?_
    obtain ⟨r_65, er66, hc1⟩ := ob hc1
    refine s_mov (.lst 3 (a_1.map encGTold)) rfl <| s_mov (.int .i64 (i_36 : Int)) rfl <| s_do (o_iaddrn (enc := encGTold) rfl rfl hx56) <| s_q (.iptr (encGTold x_61) 1) rfl trivial rfl <| s_q (.str x_61.Word) rfl nle rfl <| s_mov (.int .i64 (w64 (k_35 + 1))) rfl <| s_dol (o_call (w_laws_markText _ _ er66) rfl (.refl _) rfl) a_same trivial <| s_q (.bool (!(x_61.Word == r_65))) rfl trivial rfl <| w_done <| k_seq <| ?_
    rcases oi hc1 with ⟨c67, hc1⟩ | ⟨c67, hc1⟩
    ·refine w_condt rfl c67 <| awp_seq <| w_reg <| s_mov (.int .i64 (-1)) rfl <| w_done <| k_seq <| w_ret <| ?_; obtain rfl := os hc1; obtain rfl := os hf; exact r_flat ⟨trivial, trivial⟩ rfl (.refl _)
    ·refine w_condf rfl (bf c67) <| w_skip <| k_seq <| awp_seq <| w_reg <| s_mov (.int .i64 (w64 (k_35 + 1))) rfl <| s_q (.int .i64 (w64 ((w64 (k_35 + 1)) + 1))) rfl rfl rfl <| s_mov (.int .i64 (w64 ((w64 (k_35 + 1)) + 1))) rfl <| w_done <| k_seq <| awp_seq <| awp_seq <| w_reg <| ?_
     obtain ⟨r_68, er69, hc1⟩ := ob hc1
     refine s_mov (.lst 3 (a_1.map encGTold)) rfl <| s_mov (.int .i64 (i_36 : Int)) rfl <| s_do (o_iaddrn (enc := encGTold) rfl rfl hx56) <| s_q (.iptr (encGTold x_61) 2) rfl trivial rfl <| s_q (.str x_61.Name) rfl nle rfl <| s_mov (.int .i64 (w64 ((w64 (k_35 + 1)) + 1))) rfl <| s_dol (o_call (w_laws_markText _ _ er69) rfl (.refl _) rfl) a_same trivial <| s_q (.bool (!(x_61.Name == r_68))) rfl trivial rfl <| w_done <| k_seq <| ?_
     rcases oi hc1 with ⟨c70, hc1⟩ | ⟨c70, hc1⟩
     ·refine w_condt rfl c70 <| awp_seq <| w_reg <| s_mov (.int .i64 (-1)) rfl <| w_done <| k_seq <| w_ret <| ?_; obtain rfl := os hc1; obtain rfl := os hf; exact r_flat ⟨trivial, trivial⟩ rfl (.refl _)
     ·refine w_condf rfl (bf c70) <| w_skip <| k_seq <| w_reg <| s_mov (.int .i64 (w64 ((w64 (k_35 + 1)) + 1))) rfl <| s_q (.int .i64 (w64 ((w64 ((w64 (k_35 + 1)) + 1)) + 1))) rfl rfl rfl <| s_mov (.int .i64 (w64 ((w64 ((w64 (k_35 + 1)) + 1)) + 1))) rfl <| w_done <| k_blk <| k_seq <| w_reg <| s_mov (.int .i64 (i_36 : Int)) rfl <| s_q (.int .i64 (w64 ((i_36 : Int) + 1))) rfl rfl rfl <| s_mov (.int .i64 (w64 ((i_36 : Int) + 1))) rfl <| w_done <| ?_; exact k_loopn ⟨(w64 ((w64 ((w64 (k_35 + 1)) + 1)) + 1), (i_36 + 1)), hc1⟩ (mul hlt55) ⟨[], [], _, _, rfl, rfl, ⟨.refl _, ⟨.refl _, ⟨.of_eq (congrArg (AV.int _) (w64_incr hlt55 hl63)), trivial⟩⟩⟩, (.refl _)⟩
 ·rintro ⟨k_53, rfl⟩
  refine awp_seq <| w_reg <| s_mov (.int .i64 k_53) rfl <| s_mov (.int .i64 k_53) rfl <| w_done <| k_seq <| w_ret <| ?_; obtain rfl := os hf; exact r_flat ⟨trivial, trivial⟩ rfl (.refl _)

/- laws.FnExactStealLock -/
def c8 : ACode :=
 (.seq (.reg (tm 6 (.c (.bool false)) .done))
 (.seq (.seq (.reg (tm 21 (.t 2) (tq 22 (.lenS (.t 21)) (tq 23 (.bin .gtr (.t 22) (.c (.int .i64 1048576))) .done))))
 (.cond (.t 23) (.seq (.reg (tm 6 (.c (.bool true)) .done))
 .ret)
 .skip))
 (.seq (.reg (tm 7 (.c (.int .i64 1048576)) .done))
 (.seq (.reg (tm 24 (.t 0) (tm 25 (.t 7) (tq 26 (.call 32 [(.t 24), (.t 25)]) (tm 7 (.t 26) .done)))))
 (.seq (.seq (.reg (tm 27 (.t 7) (tq 28 (.bin .lss (.t 27) (.c (.int .i64 0))) .done)))
 (.cond (.t 28) (.seq (.reg (tm 6 (.c (.bool true)) .done))
 .ret)
 .skip))
 (.seq (.reg (tm 30 (.t 0) (tq 31 (.call 34 [(.t 30)]) (tm 32 (.t 1) (tm 33 (.t 2) (tq 34 (.call 44 [(.t 31), (.t 32), (.t 33)]) (tm 29 (.t 34) (tq 35 (.extract 0 (.t 29)) (tq 36 (.extract 1 (.t 29)) (tq 37 (.extract 2 (.t 29)) (tm 8 (.t 35) (tm 9 (.t 36) (tm 10 (.t 37) .done)))))))))))))
 (.seq (.reg (tm 38 (.t 0) (tq 39 (.call 34 [(.t 38)]) (tm 11 (.t 39) .done))))
 (.seq (.reg (tm 41 (.t 11) (tm 42 (.t 1) (tm 43 (.t 2) (tq 44 (.call 45 [(.t 41), (.t 42), (.t 43)]) (tm 40 (.t 44) (tq 45 (.extract 0 (.t 40)) (tq 46 (.extract 1 (.t 40)) (tq 47 (.extract 2 (.t 40)) (tm 12 (.t 45) (tm 13 (.t 46) (tm 14 (.t 47) .done))))))))))))
 (.seq (.seq (.reg (tm 48 (.t 12) (tm 49 (.t 8) (tq 50 (.call 36 [(.t 48), (.t 49)]) (tq 51 (.not (.t 50)) (tm 52 (.t 51) (tg 53 52 false (.mov (.t 13)) (tg 54 52 false (.mov (.t 9)) (tg 55 52 false (.call 37 [(.t 53), (.t 54)]) (tg 56 52 false (.not (.t 55)) (tq 57 (.pick (.t 52) (.c (.bool true)) (.t 56)) (tm 58 (.t 57) (tg 59 58 false (.mov (.t 14)) (tg 60 58 false (.mov (.t 10)) (tg 61 58 false (.bin .neq (.t 59) (.t 60)) (tq 62 (.pick (.t 58) (.c (.bool true)) (.t 61)) .done))))))))))))))))
 (.cut (.cond (.t 62) (.seq (.reg (tm 6 (.c (.bool false)) .done))
 .ret)
 .skip)))
 (.seq (.seq (.reg (tm 63 (.t 11) (tm 64 (.t 0) (tq 65 (.call 34 [(.t 64)]) (tq 66 (.call 36 [(.t 63), (.t 65)]) (tq 67 (.not (.t 66)) .done))))))
 (.cond (.t 67) (.seq (.reg (tm 6 (.c (.bool false)) .done))
 .ret)
 .skip))
 (.seq (.reg (tm 15 (.c (.int .i64 1)) .done))
 (.seq (.reg (tm 68 (.t 11) (tm 69 (.t 15) (tq 70 (.call 38 [(.t 68), (.t 69)]) (tm 15 (.t 70) .done)))))
 (.seq (.seq (.reg (tm 71 (.t 15) (tq 72 (.bin .lss (.t 71) (.c (.int .i64 0))) (tm 73 (.t 72) (tg 74 73 false (.mov (.t 12)) (tg 75 73 false (.mov (.t 8)) (tg 76 73 false (.call 36 [(.t 74), (.t 75)]) (tg 77 73 false (.not (.t 76)) (tq 78 (.pick (.t 73) (.c (.bool true)) (.t 77)) (tm 79 (.t 78) (tg 80 79 false (.mov (.t 13)) (tg 81 79 false (.mov (.t 9)) (tg 82 79 false (.call 37 [(.t 80), (.t 81)]) (tg 83 79 false (.not (.t 82)) (tq 84 (.pick (.t 79) (.c (.bool true)) (.t 83)) (tm 85 (.t 84) (tg 86 85 false (.mov (.t 14)) (tg 87 85 false (.mov (.t 10)) (tg 88 85 false (.bin .neq (.t 86) (.t 87)) (tq 89 (.pick (.t 85) (.c (.bool true)) (.t 88)) .done))))))))))))))))))))
 (.cut (.cond (.t 89) (.seq (.reg (tm 6 (.c (.bool false)) .done))
 .ret)
 .skip)))
 (.seq (.reg (tm 16 (.c (.int .i64 1)) .done))
 (.seq (.reg (tm 90 (.t 12) (tm 91 (.t 16) (tq 92 (.call 38 [(.t 90), (.t 91)]) (tm 16 (.t 92) .done)))))
 (.seq (.reg (tm 93 (.t 13) (tm 94 (.t 16) (tq 95 (.call 39 [(.t 93), (.t 94)]) (tm 16 (.t 95) .done)))))
 (.seq (.reg (tm 17 (.c (.int .i64 1)) .done))
 (.seq (.reg (tm 96 (.t 12) (tm 97 (.t 17) (tq 98 (.call 40 [(.t 96), (.t 97)]) (tm 17 (.t 98) .done)))))
 (.seq (.seq (.reg (tm 99 (.t 17) (tq 100 (.bin .lss (.t 99) (.c (.int .i64 0))) .done)))
 (.cond (.t 100) (.seq (.reg (tm 6 (.c (.bool false)) .done))
 .ret)
 .skip))
 (.seq (.reg (tm 101 (.t 13) (tm 102 (.t 17) (tq 103 (.call 41 [(.t 101), (.t 102)]) (tm 17 (.t 103) .done)))))
 (.seq (.seq (.reg (tm 104 (.t 17) (tq 105 (.bin .lss (.t 104) (.c (.int .i64 0))) .done)))
 (.cond (.t 105) (.seq (.reg (tm 6 (.c (.bool false)) .done))
 .ret)
 .skip))
 (.seq (.seq (.reg (tm 106 (.t 17) (tm 107 (.t 16) (tq 108 (.bin .neq (.t 106) (.t 107)) .done))))
 (.cond (.t 108) (.seq (.reg (tm 6 (.c (.bool false)) .done))
 .ret)
 .skip))
 (.seq (.reg (tm 110 (.t 0) (tq 111 (.call 34 [(.t 110)]) (tm 112 (.t 1) (tm 113 (.t 2) (tq 114 (.call 45 [(.t 111), (.t 112), (.t 113)]) (tm 109 (.t 114) (tq 115 (.extract 0 (.t 109)) (tq 116 (.extract 1 (.t 109)) (tq 117 (.extract 2 (.t 109)) (tm 18 (.t 115) (tm 19 (.t 116) (tm 20 (.t 117) .done)))))))))))))
 (.seq (.seq (.reg (tm 118 (.t 18) (tm 119 (.t 8) (tq 120 (.call 36 [(.t 118), (.t 119)]) (tq 121 (.not (.t 120)) (tm 122 (.t 121) (tg 123 122 false (.mov (.t 19)) (tg 124 122 false (.mov (.t 9)) (tg 125 122 false (.call 37 [(.t 123), (.t 124)]) (tg 126 122 false (.not (.t 125)) (tq 127 (.pick (.t 122) (.c (.bool true)) (.t 126)) (tm 128 (.t 127) (tg 129 128 false (.mov (.t 20)) (tg 130 128 false (.mov (.t 10)) (tg 131 128 false (.bin .neq (.t 129) (.t 130)) (tq 132 (.pick (.t 128) (.c (.bool true)) (.t 131)) .done))))))))))))))))
 (.cut (.cond (.t 132) (.seq (.reg (tm 6 (.c (.bool false)) .done))
 .ret)
 .skip)))
 (.seq (.reg (tm 17 (.c (.int .i64 1)) .done))
 (.seq (.reg (tm 133 (.t 12) (tm 134 (.t 17) (tq 135 (.call 40 [(.t 133), (.t 134)]) (tm 17 (.t 135) .done)))))
 (.seq (.seq (.reg (tm 136 (.t 17) (tq 137 (.bin .lss (.t 136) (.c (.int .i64 0))) .done)))
 (.cond (.t 137) (.seq (.reg (tm 6 (.c (.bool false)) .done))
 .ret)
 .skip))
 (.seq (.reg (tm 138 (.t 13) (tm 139 (.t 17) (tq 140 (.call 41 [(.t 138), (.t 139)]) (tm 17 (.t 140) .done)))))
 (.seq (.seq (.reg (tm 141 (.t 17) (tq 142 (.bin .lss (.t 141) (.c (.int .i64 0))) .done)))
 (.cond (.t 142) (.seq (.reg (tm 6 (.c (.bool false)) .done))
 .ret)
 .skip))
 (.seq (.seq (.reg (tm 143 (.t 17) (tm 144 (.t 16) (tq 145 (.bin .neq (.t 143) (.t 144)) .done))))
 (.cond (.t 145) (.seq (.reg (tm 6 (.c (.bool false)) .done))
 .ret)
 .skip))
 (.seq (.reg (tm 6 (.c (.bool true)) .done))
 .ret)))))))))))))))))))))))))))))))
theorem fc8 : fcomp Try.prog Try.f8 = some (c8.erase, [.mov (.t 6)], 146) := by kernel_rfl
def laws_FnExactStealLock (aList_1 : (List GLock)) (aSession_2 : Int) (aName_3 : Str) : Option Bool :=
    if (decide ((aName_3.length : Int) > 1048576)) then
    some true
    else
    (laws_szLockS aList_1 1048576).bind fun r_6 =>
    if (decide (r_6 < 0)) then
    some true
    else
    (laws_toLockS aList_1).bind fun r_9 =>
    (spec_StealLock r_9 aSession_2 aName_3).bind fun r_11 =>
    (laws_toLockS aList_1).bind fun r_13 =>
    (impl_StealLock r_13 aSession_2 aName_3).bind fun r_15 =>
    (((laws_eqLockS r_15.1 r_11.1).bind fun r_24 =>
    if (!r_24) then
    some true
    else
    (laws_eqToldS r_15.2.1 r_11.2.1).bind fun r_27 =>
    some (bif (!r_27) then true else (r_15.2.2 != r_11.2.2)) : Option Bool)).bind fun s62_22 =>
    if s62_22 then
    some false
    else
    (laws_toLockS aList_1).bind fun r_30 =>
    (laws_eqLockS r_13 r_30).bind fun r_32 =>
    if (!r_32) then
    some false
    else
    (laws_markLockS r_13 1).bind fun r_35 =>
    ((if (decide (r_35.1 < 0)) then
    some true
    else
    (laws_eqLockS r_15.1 r_11.1).bind fun r_47 =>
    if (!r_47) then
    some true
    else
    (laws_eqToldS r_15.2.1 r_11.2.1).bind fun r_50 =>
    some (bif (!r_50) then true else (r_15.2.2 != r_11.2.2)) : Option Bool)).bind fun s89_44 =>
    if s89_44 then
    some false
    else
    (laws_markLockS r_15.1 1).bind fun r_53 =>
    (laws_markToldS r_15.2.1 r_53.1).bind fun r_56 =>
    (laws_heldLockS r_53.2 1).bind fun r_59 =>
    if (decide (r_59 < 0)) then
    some false
    else
    (laws_heldToldS r_56.2 r_59).bind fun r_62 =>
    if (decide (r_62 < 0)) then
    some false
    else
    if (r_62 != r_56.1) then
    some false
    else
    (laws_toLockS aList_1).bind fun r_66 =>
    (impl_StealLock r_66 aSession_2 aName_3).bind fun r_68 =>
    (((laws_eqLockS r_68.1 r_11.1).bind fun r_77 =>
    if (!r_77) then
    some true
    else
    (laws_eqToldS r_68.2.1 r_11.2.1).bind fun r_80 =>
    some (bif (!r_80) then true else (r_68.2.2 != r_11.2.2)) : Option Bool)).bind fun s132_75 =>
    if s132_75 then
    some false
    else
    (laws_heldLockS r_53.2 1).bind fun r_83 =>
    if (decide (r_83 < 0)) then
    some false
    else
    (laws_heldToldS r_56.2 r_83).bind fun r_86 =>
    if (decide (r_86 < 0)) then
    some false
    else
    if (r_86 != r_56.1) then
    some false
    else
    some true
theorem w_laws_FnExactStealLock (aList_1 : (List GLock)) (aSession_2 : Int) (aName_3 : Str) (r : Bool) (hf : laws_FnExactStealLock aList_1 aSession_2 aName_3 = some r) : CallOK Try.prog 8 .flat [(.lst 2 (aList_1.map encGLock)), (.int .i64 aSession_2), (.str aName_3)] (.bool r) := by
 refine CallOK.of_awp' (md := ⟨true, true⟩) (fun _ => rfl) (fun _ => rfl) (fun h => by cases h) mixed Try.func8 fc8 nle ?_; rw [argT_eq]; unfold laws_FnExactStealLock at hf; unfold c8; refine (show awp Try.prog ⟨true, true⟩ 0 _ (ofL [(0, (.lst 2 (aList_1.map encGLock))), (1, (.int .i64 aSession_2)), (2, (.str aName_3))]) [] _ from ?_); refine awp_seq <| w_reg <| s_mov (.bool false) rfl <| w_done <| k_seq <| awp_seq <| awp_seq <| w_reg <| s_mov (.str aName_3) rfl <| s_dof (o_lenS rfl) fun hl4 => s_q (.bool (decide ((aName_3.length : Int) > 1048576))) rfl (.of rfl trivial) rfl <| w_done <| k_seq <| ?_
 rcases oi hf with ⟨c5, hf⟩ | ⟨c5, hf⟩
 ·refine w_condt rfl c5 <| awp_seq <| w_reg <| s_mov (.bool true) rfl <| w_done <| k_seq <| w_ret <| ?_; obtain rfl := os hf; exact r_flat ⟨.of trivial trivial, trivial⟩ rfl (.refl _)
 ·refine w_condf rfl (bf c5) <| w_skip <| k_seq <| awp_seq <| w_reg <| s_mov (.int .i64 1048576) rfl <| w_done <| k_seq <| awp_seq <| w_reg <| ?_
  obtain ⟨r_6, er7, hf⟩ := ob hf
  refine s_mov (.lst 2 (aList_1.map encGLock)) rfl <| s_mov (.int .i64 1048576) rfl <| s_do (o_call (w_laws_szLockS _ _ _ er7) rfl (.refl _) rfl) <| s_mov (.int .i64 r_6) rfl <| w_done <| k_seq <| awp_seq <| awp_seq <| w_reg <| s_mov (.int .i64 r_6) rfl <| s_q (.bool (decide (r_6 < 0))) rfl (.of rfl trivial) rfl <| w_done <| k_seq <| ?_
  rcases oi hf with ⟨c8, hf⟩ | ⟨c8, hf⟩
  ·refine w_condt rfl c8 <| awp_seq <| w_reg <| s_mov (.bool true) rfl <| w_done <| k_seq <| w_ret <| ?_; obtain rfl := os hf; exact r_flat ⟨.of trivial trivial, trivial⟩ rfl (.refl _)
  ·refine w_condf rfl (bf c8) <| w_skip <| k_seq <| awp_seq <| w_reg <| ?_
   obtain ⟨r_9, er10, hf⟩ := ob hf
   obtain ⟨r_11, er12, hf⟩ := ob hf
   refine s_mov (.lst 2 (aList_1.map encGLock)) rfl <| s_do (o_callf (v := (.own 0 0 r_9.length)) (h' := [.row 2 (r_9.map encGLock)]) (w_laws_toLockS _ _ er10) rfl (.refl _) (by simp only [openV, openVs, List.length_map, List.nil_append, List.append_nil, List.cons_append]; rfl)) <| s_mov (.int .i64 aSession_2) rfl <| s_mov (.str aName_3) rfl <| s_do (o_callf (v := (.tup [(.own 1 0 r_11.1.length), (.own 2 0 r_11.2.1.length), (.int .i64 r_11.2.2)])) (h' := [.row 2 (r_11.1.map encGLock), .row 3 (r_11.2.1.map encGTold)]) (w_spec_StealLock _ _ _ _ er12) rfl (.cons (.of_eq (congrArg (AV.lst _) (tko r_9))) (.cons (.refl _) (.cons (.refl _) .nil))) (by simp only [openV, openVs, List.length_map, List.nil_append, List.append_nil, List.cons_append]; rfl)) <| ?_
   refine s_mov (.tup [(.own 1 0 r_11.1.length), (.own 2 0 r_11.2.1.length), (.int .i64 r_11.2.2)]) rfl <| s_q (.own 1 0 r_11.1.length) rfl (.of nle trivial) rfl <| s_q (.own 2 0 r_11.2.1.length) rfl (.of nle trivial) rfl <| s_q (.int .i64 r_11.2.2) rfl (.of nle trivial) rfl <| s_mov (.own 1 0 r_11.1.length) rfl <| s_mov (.own 2 0 r_11.2.1.length) rfl <| s_mov (.int .i64 r_11.2.2) rfl <| w_done <| k_seq <| awp_seq <| w_reg <| ?_
   obtain ⟨r_13, er14, hf⟩ := ob hf
   refine s_mov (.lst 2 (aList_1.map encGLock)) rfl <| s_do (o_callf (v := (.own 3 0 r_13.length)) (h' := [.row 2 (r_13.map encGLock)]) (w_laws_toLockS _ _ er14) rfl (.refl _) (by simp only [openV, openVs, List.length_map, List.nil_append, List.append_nil, List.cons_append]; rfl)) <| s_mov (.own 3 0 r_13.length) rfl <| w_done <| k_seq <| awp_seq <| w_reg <| ?_
   obtain ⟨r_15, er16, hf⟩ := ob hf
   refine s_mov (.own 3 0 r_13.length) rfl <| s_mov (.int .i64 aSession_2) rfl <| s_mov (.str aName_3) rfl <| s_do (o_callf (v := (.tup [(.own 4 0 r_15.1.length), (.own 5 0 r_15.2.1.length), (.int .i64 r_15.2.2)])) (h' := [.row 2 (r_15.1.map encGLock), .row 3 (r_15.2.1.map encGTold)]) (w_impl_StealLock _ _ _ _ er16) rfl (.cons (.of_eq (congrArg (AV.lst _) (tko r_13))) (.cons (.refl _) (.cons (.refl _) .nil))) (by simp only [openV, openVs, List.length_map, List.nil_append, List.append_nil, List.cons_append]; rfl)) <| s_mov (.tup [(.own 4 0 r_15.1.length), (.own 5 0 r_15.2.1.length), (.int .i64 r_15.2.2)]) rfl <| s_q (.own 4 0 r_15.1.length) rfl (.of nle trivial) rfl <| s_q (.own 5 0 r_15.2.1.length) rfl (.of nle trivial) rfl <| ?_
   refine s_q (.int .i64 r_15.2.2) rfl (.of nle trivial) rfl <| s_mov (.own 4 0 r_15.1.length) rfl <| s_mov (.own 5 0 r_15.2.1.length) rfl <| s_mov (.int .i64 r_15.2.2) rfl <| w_done <| k_seq <| awp_seq <| awp_seq <| ?_
   obtain ⟨s62_22, hb1, hf⟩ := ob hf
   refine awp_cut ([(0, (.lst 2 (aList_1.map encGLock))), (1, (.int .i64 aSession_2)), (2, (.str aName_3)), (8, (.own 0 0 r_11.1.length)), (9, (.own 1 0 r_11.2.1.length)), (10, (.int .i64 r_11.2.2)), (11, (.own 2 0 r_13.length)), (12, (.own 3 0 r_15.1.length)), (13, (.own 4 0 r_15.2.1.length)), (14, (.int .i64 r_15.2.2)), (62, (.bool s62_22))], [.row 2 (r_11.1.map encGLock), .row 3 (r_11.2.1.map encGTold), .row 2 (r_13.map encGLock), .row 2 (r_15.1.map encGLock), .row 3 (r_15.2.1.map encGTold)]) ?_ ?_
   ·refine w_reg <| s_mov (.own 4 0 r_15.1.length) rfl <| s_mov (.own 1 0 r_11.1.length) rfl <| ?_
    obtain ⟨r_24, er25, hb1⟩ := ob hb1
    refine s_do (o_call (w_laws_eqLockS _ _ _ er25) rfl (.cons (.of_eq (congrArg (AV.lst _) (tko r_15.1))) (.cons (.of_eq (congrArg (AV.lst _) (tko r_11.1))) .nil)) rfl) <| s_q (.bool (!r_24)) rfl (.of trivial trivial) rfl <| s_mov (.bool (!r_24)) rfl <| ?_
    rcases oi hb1 with ⟨c26, hb1⟩ | ⟨c26, hb1⟩
    ·refine s_lit (s := 52) (b := true) rfl c26 <| s_off rfl rfl <| s_off rfl rfl <| s_off rfl rfl <| s_off rfl rfl <| s_q (.bool true) rfl (.of trivial trivial) rfl <| s_mov (.bool true) rfl <| s_off rfl rfl <| s_off rfl rfl <| s_off rfl rfl <| s_q (.bool true) rfl (.of trivial trivial) rfl <| w_done <| ?_; obtain rfl := os hb1; exact ⟨[], [1, 2, 3, 4, 5], _, _, rfl, rfl, ⟨.refl _, ⟨.refl _, ⟨.refl _, ⟨.refl _, ⟨.refl _, ⟨.refl _, ⟨.refl _, ⟨.refl _, ⟨.refl _, ⟨.refl _, ⟨.refl _, trivial⟩⟩⟩⟩⟩⟩⟩⟩⟩⟩⟩, (.refl _)⟩
    ·refine s_lit (s := 52) (b := false) rfl (bf c26) <| s_on rfl <| s_mov (.own 5 0 r_15.2.1.length) rfl <| s_on rfl <| s_mov (.own 2 0 r_11.2.1.length) rfl <| s_on rfl <| ?_
     obtain ⟨r_27, er28, hb1⟩ := ob hb1
     refine s_do (o_call (w_laws_eqToldS _ _ _ er28) rfl (.cons (.of_eq (congrArg (AV.lst _) (tko r_15.2.1))) (.cons (.of_eq (congrArg (AV.lst _) (tko r_11.2.1))) .nil)) rfl) <| s_on rfl <| s_q (.bool (!r_27)) rfl (.of trivial trivial) rfl <| s_q (.bool (!r_27)) rfl (.of trivial trivial) rfl <| s_mov (.bool (!r_27)) rfl <| ?_; refine s_g (v := (!r_27)) (.int .i64 r_15.2.2) rfl (fun hv => by (try simp only [gs_on hv]); exact ⟨rfl, .of trivial trivial, rfl⟩) ?_; refine s_g (v := (!r_27)) (.int .i64 r_11.2.2) rfl (fun hv => by (try simp only [gs_on hv]); exact ⟨rfl, .of trivial trivial, rfl⟩) ?_; refine s_g (v := (!r_27)) (.bool (r_15.2.2 != r_11.2.2)) rfl (fun hv => by (try simp only [gs_on hv]); exact ⟨rfl, (.of rfl trivial), rfl⟩) ?_
     refine s_pick (x := true) (y := (r_15.2.2 != r_11.2.2)) rfl (fun hv => by (try simp only [gs_on hv]); rfl) (fun hv => by (try simp only [gs_on hv]); rfl) ?_; refine w_done ?_; obtain rfl := os hb1; exact ⟨[], [1, 2, 3, 4, 5], _, _, rfl, rfl, ⟨.refl _, ⟨.refl _, ⟨.refl _, ⟨.refl _, ⟨.refl _, ⟨.refl _, ⟨.refl _, ⟨.refl _, ⟨.refl _, ⟨.refl _, ⟨.refl _, trivial⟩⟩⟩⟩⟩⟩⟩⟩⟩⟩⟩, (.refl _)⟩
   ·rcases oi hf with ⟨c29, hf⟩ | ⟨c29, hf⟩
    ·refine w_condt rfl c29 <| awp_seq <| w_reg <| s_mov (.bool false) rfl <| w_done <| k_seq <| w_ret <| ?_; obtain rfl := os hf; exact r_flat ⟨.of trivial trivial, trivial⟩ rfl (.refl _)
    ·refine w_condf rfl (bf c29) <| w_skip <| k_seq <| awp_seq <| awp_seq <| w_reg <| ?_
     obtain ⟨r_30, er31, hf⟩ := ob hf
     obtain ⟨r_32, er33, hf⟩ := ob hf
     refine s_mov (.own 2 0 r_13.length) rfl <| s_mov (.lst 2 (aList_1.map encGLock)) rfl <| s_do (o_callf (v := (.own 5 0 r_30.length)) (h' := [.row 2 (r_30.map encGLock)]) (w_laws_toLockS _ _ er31) rfl (.refl _) (by simp only [openV, openVs, List.length_map, List.nil_append, List.append_nil, List.cons_append]; rfl)) <| s_do (o_call (w_laws_eqLockS _ _ _ er33) rfl (.cons (.of_eq (congrArg (AV.lst _) (tko r_13))) (.cons (.of_eq (congrArg (AV.lst _) (tko r_30))) .nil)) rfl) <| s_q (.bool (!r_32)) rfl (.of trivial trivial) rfl <| w_done <| k_seq <| ?_
     rcases oi hf with ⟨c34, hf⟩ | ⟨c34, hf⟩
     ·refine w_condt rfl c34 <| awp_seq <| w_reg <| s_mov (.bool false) rfl <| w_done <| k_seq <| w_ret <| ?_; obtain rfl := os hf; exact r_flat ⟨.of trivial trivial, trivial⟩ rfl (.refl _)
     ·refine w_condf rfl (bf c34) <| w_skip <| k_seq <| awp_seq <| w_reg <| s_mov (.int .i64 1) rfl <| w_done <| k_seq <| awp_seq <| w_reg <| ?_
      obtain ⟨r_35, er36, hf⟩ := ob hf
      refine s_mov (.own 2 0 r_13.length) rfl <| s_mov (.int .i64 1) rfl <| ?_; refine s_dof (o_callhs (v := (.int .i64 r_35.1)) (h2 := [.row 2 (r_11.1.map encGLock), .row 3 (r_11.2.1.map encGTold), .row 2 (r_35.2.map encGLock), .row 2 (r_15.1.map encGLock), .row 3 (r_15.2.1.map encGTold), .row 2 (r_30.map encGLock)]) [] [2] (fun _ => rfl) (w_laws_markLockS _ _ _ er36) rfl (.refl _) (.refl _) rfl rfl) fun hl37 => ?_; refine s_mov (.int .i64 r_35.1) rfl <| w_done <| k_seq <| awp_seq <| awp_seq <| ?_
      obtain ⟨s89_44, hb1, hf⟩ := ob hf
      refine awp_cut ([(0, (.lst 2 (aList_1.map encGLock))), (1, (.int .i64 aSession_2)), (2, (.str aName_3)), (8, (.own 0 0 r_11.1.length)), (9, (.own 1 0 r_11.2.1.length)), (10, (.int .i64 r_11.2.2)), (12, (.own 2 0 r_15.1.length)), (13, (.own 3 0 r_15.2.1.length)), (89, (.bool s89_44))], [.row 2 (r_11.1.map encGLock), .row 3 (r_11.2.1.map encGTold), .row 2 (r_15.1.map encGLock), .row 3 (r_15.2.1.map encGTold)]) ?_ ?_
      ·refine w_reg <| s_mov (.int .i64 r_35.1) rfl <| s_q (.bool (decide (r_35.1 < 0))) rfl (.of rfl trivial) rfl <| s_mov (.bool (decide (r_35.1 < 0))) rfl <| ?_
       rcases oi hb1 with ⟨c46, hb1⟩ | ⟨c46, hb1⟩
       ·refine s_lit (s := 73) (b := true) rfl c46 <| s_off rfl rfl <| s_off rfl rfl <| s_off rfl rfl <| s_off rfl rfl <| s_q (.bool true) rfl (.of trivial trivial) rfl <| s_mov (.bool true) rfl <| s_off rfl rfl <| s_off rfl rfl <| s_off rfl rfl <| s_off rfl rfl <| s_q (.bool true) rfl (.of trivial trivial) rfl <| s_mov (.bool true) rfl <| s_off rfl rfl <| s_off rfl rfl <| s_off rfl rfl <| s_q (.bool true) rfl (.of trivial trivial) rfl <| w_done <| ?_; obtain rfl := os hb1; exact ⟨[], [0, 1, 3, 4], _, _, rfl, rfl, ⟨.refl _, ⟨.refl _, ⟨.refl _, ⟨.refl _, ⟨.refl _, ⟨.refl _, ⟨.refl _, ⟨.refl _, ⟨.refl _, trivial⟩⟩⟩⟩⟩⟩⟩⟩⟩, (.refl _)⟩
       ·refine s_lit (s := 73) (b := false) rfl (bf c46) <| s_on rfl <| s_mov (.own 3 0 r_15.1.length) rfl <| s_on rfl <| s_mov (.own 0 0 r_11.1.length) rfl <| s_on rfl <| ?_
        obtain ⟨r_47, er48, hb1⟩ := ob hb1
        refine s_do (o_call (w_laws_eqLockS _ _ _ er48) rfl (.cons (.of_eq (congrArg (AV.lst _) (tko r_15.1))) (.cons (.of_eq (congrArg (AV.lst _) (tko r_11.1))) .nil)) rfl) <| s_on rfl <| s_q (.bool (!r_47)) rfl (.of trivial trivial) rfl <| s_q (.bool (!r_47)) rfl (.of trivial trivial) rfl <| s_mov (.bool (!r_47)) rfl <| ?_
        rcases oi hb1 with ⟨c49, hb1⟩ | ⟨c49, hb1⟩
        ·refine s_lit (s := 79) (b := true) rfl c49 <| s_off rfl rfl <| s_off rfl rfl <| s_off rfl rfl <| s_off rfl rfl <| s_q (.bool true) rfl (.of trivial trivial) rfl <| s_mov (.bool true) rfl <| s_off rfl rfl <| s_off rfl rfl <| s_off rfl rfl <| s_q (.bool true) rfl (.of trivial trivial) rfl <| w_done <| ?_; obtain rfl := os hb1; exact ⟨[], [0, 1, 3, 4], _, _, rfl, rfl, ⟨.refl _, ⟨.refl _, ⟨.refl _, ⟨.refl _, ⟨.refl _, ⟨.refl _, ⟨.refl _, ⟨.refl _, ⟨.refl _, trivial⟩⟩⟩⟩⟩⟩⟩⟩⟩, (.refl _)⟩
        ·refine s_lit (s := 79) (b := false) rfl (bf c49) <| s_on rfl <| s_mov (.own 4 0 r_15.2.1.length) rfl <| s_on rfl <| s_mov (.own 1 0 r_11.2.1.length) rfl <| s_on rfl <| ?_
         obtain ⟨r_50, er51, hb1⟩ := ob hb1
         refine s_do (o_call (w_laws_eqToldS _ _ _ er51) rfl (.cons (.of_eq (congrArg (AV.lst _) (tko r_15.2.1))) (.cons (.of_eq (congrArg (AV.lst _) (tko r_11.2.1))) .nil)) rfl) <| s_on rfl <| s_q (.bool (!r_50)) rfl (.of trivial trivial) rfl <| s_q (.bool (!r_50)) rfl (.of trivial trivial) rfl <| s_mov (.bool (!r_50)) rfl <| ?_; refine s_g (v := (!r_50)) (.int .i64 r_15.2.2) rfl (fun hv => by (try simp only [gs_on hv]); exact ⟨rfl, .of trivial trivial, rfl⟩) ?_; refine s_g (v := (!r_50)) (.int .i64 r_11.2.2) rfl (fun hv => by (try simp only [gs_on hv]); exact ⟨rfl, .of trivial trivial, rfl⟩) ?_; refine s_g (v := (!r_50)) (.bool (r_15.2.2 != r_11.2.2)) rfl (fun hv => by (try simp only [gs_on hv]); exact ⟨rfl, (.of rfl trivial), rfl⟩) ?_
         refine s_pick (x := true) (y := (r_15.2.2 != r_11.2.2)) rfl (fun hv => by (try simp only [gs_on hv]); rfl) (fun hv => by (try simp only [gs_on hv]); rfl) ?_; refine w_done ?_; obtain rfl := os hb1; exact ⟨[], [0, 1, 3, 4], _, _, rfl, rfl, ⟨.refl _, ⟨.refl _, ⟨.refl _, ⟨.refl _, ⟨.refl _, ⟨.refl _, ⟨.refl _, ⟨.refl _, ⟨.refl _, trivial⟩⟩⟩⟩⟩⟩⟩⟩⟩, (.refl _)⟩
      ·rcases oi hf with ⟨c52, hf⟩ | ⟨c52, hf⟩
       ·refine w_condt rfl c52 <| awp_seq <| w_reg <| s_mov (.bool false) rfl <| w_done <| k_seq <| w_ret <| ?_; obtain rfl := os hf; exact r_flat ⟨.of trivial trivial, trivial⟩ rfl (.refl _)
       ·refine w_condf rfl (bf c52) <| w_skip <| k_seq <| awp_seq <| w_reg <| s_mov (.int .i64 1) rfl <| w_done <| k_seq <| awp_seq <| w_reg <| ?_
        obtain ⟨r_53, er54, hf⟩ := ob hf
        refine s_mov (.own 2 0 r_15.1.length) rfl <| s_mov (.int .i64 1) rfl <| ?_; refine s_dof (o_callhs (v := (.int .i64 r_53.1)) (h2 := [.row 2 (r_11.1.map encGLock), .row 3 (r_11.2.1.map encGTold), .row 2 (r_53.2.map encGLock), .row 3 (r_15.2.1.map encGTold)]) [] [2] (fun _ => rfl) (w_laws_markLockS _ _ _ er54) rfl (.refl _) (.refl _) rfl rfl) fun hl55 => ?_; refine s_mov (.int .i64 r_53.1) rfl <| w_done <| k_seq <| awp_seq <| w_reg <| ?_
        obtain ⟨r_56, er57, hf⟩ := ob hf
        refine s_mov (.own 3 0 r_15.2.1.length) rfl <| s_mov (.int .i64 r_53.1) rfl <| ?_; refine s_dof (o_callhs (v := (.int .i64 r_56.1)) (h2 := [.row 2 (r_11.1.map encGLock), .row 3 (r_11.2.1.map encGTold), .row 2 (r_53.2.map encGLock), .row 3 (r_56.2.map encGTold)]) [] [3] (fun _ => rfl) (w_laws_markToldS _ _ _ er57) rfl (.refl _) (.refl _) rfl rfl) fun hl58 => ?_; refine s_mov (.int .i64 r_56.1) rfl <| w_done <| k_seq <| awp_seq <| w_reg <| s_mov (.int .i64 1) rfl <| w_done <| k_seq <| awp_seq <| w_reg <| ?_
        obtain ⟨r_59, er60, hf⟩ := ob hf
        refine s_mov (.own 2 0 r_15.1.length) rfl <| s_mov (.int .i64 1) rfl <| s_do (o_call (w_laws_heldLockS _ _ _ er60) rfl (.cons (.of_eq (congrArg (AV.lst _) (tkol (hl55 0 _ _ _ _ rfl rfl)))) (.cons (.refl _) .nil)) rfl) <| s_mov (.int .i64 r_59) rfl <| w_done <| k_seq <| awp_seq <| awp_seq <| w_reg <| s_mov (.int .i64 r_59) rfl <| s_q (.bool (decide (r_59 < 0))) rfl (.of rfl trivial) rfl <| w_done <| k_seq <| ?_
        rcases oi hf with ⟨c61, hf⟩ | ⟨c61, hf⟩
        ·refine w_condt rfl c61 <| awp_seq <| w_reg <| s_mov (.bool false) rfl <| w_done <| k_seq <| w_ret <| ?_; obtain rfl := os hf; exact r_flat ⟨.of trivial trivial, trivial⟩ rfl (.refl _)
        ·refine w_condf rfl (bf c61) <| w_skip <| k_seq <| awp_seq <| w_reg <| ?_
         obtain ⟨r_62, er63, hf⟩ := ob hf
         refine s_mov (.own 3 0 r_15.2.1.length) rfl <| s_mov (.int .i64 r_59) rfl <| s_do (o_call (w_laws_heldToldS _ _ _ er63) rfl (.cons (.of_eq (congrArg (AV.lst _) (tkol (hl58 0 _ _ _ _ rfl rfl)))) (.cons (.refl _) .nil)) rfl) <| s_mov (.int .i64 r_62) rfl <| w_done <| k_seq <| awp_seq <| awp_seq <| w_reg <| s_mov (.int .i64 r_62) rfl <| s_q (.bool (decide (r_62 < 0))) rfl (.of rfl trivial) rfl <| w_done <| k_seq <| ?_
         rcases oi hf with ⟨c64, hf⟩ | ⟨c64, hf⟩
         ·refine w_condt rfl c64 <| awp_seq <| w_reg <| s_mov (.bool false) rfl <| w_done <| k_seq <| w_ret <| ?_; obtain rfl := os hf; exact r_flat ⟨.of trivial trivial, trivial⟩ rfl (.refl _)
         ·refine w_condf rfl (bf c64) <| w_skip <| k_seq <| awp_seq <| awp_seq <| w_reg <| s_mov (.int .i64 r_62) rfl <| s_mov (.int .i64 r_56.1) rfl <| s_q (.bool (r_62 != r_56.1)) rfl (.of rfl trivial) rfl <| w_done <| k_seq <| ?_
          rcases oi hf with ⟨c65, hf⟩ | ⟨c65, hf⟩
          ·refine w_condt rfl c65 <| awp_seq <| w_reg <| s_mov (.bool false) rfl <| w_done <| k_seq <| w_ret <| ?_; obtain rfl := os hf; exact r_flat ⟨.of trivial trivial, trivial⟩ rfl (.refl _)
          ·refine w_condf rfl (bf c65) <| w_skip <| k_seq <| awp_seq <| w_reg <| ?_
           obtain ⟨r_66, er67, hf⟩ := ob hf
           obtain ⟨r_68, er69, hf⟩ := ob hf
           refine s_mov (.lst 2 (aList_1.map encGLock)) rfl <| s_do (o_callf (v := (.own 4 0 r_66.length)) (h' := [.row 2 (r_66.map encGLock)]) (w_laws_toLockS _ _ er67) rfl (.refl _) (by simp only [openV, openVs, List.length_map, List.nil_append, List.append_nil, List.cons_append]; rfl)) <| s_mov (.int .i64 aSession_2) rfl <| s_mov (.str aName_3) rfl <| s_do (o_callf (v := (.tup [(.own 5 0 r_68.1.length), (.own 6 0 r_68.2.1.length), (.int .i64 r_68.2.2)])) (h' := [.row 2 (r_68.1.map encGLock), .row 3 (r_68.2.1.map encGTold)]) (w_impl_StealLock _ _ _ _ er69) rfl (.cons (.of_eq (congrArg (AV.lst _) (tko r_66))) (.cons (.refl _) (.cons (.refl _) .nil))) (by simp only [openV, openVs, List.length_map, List.nil_append, List.append_nil, List.cons_append]; rfl)) <| ?_
           refine s_mov (.tup [(.own 5 0 r_68.1.length), (.own 6 0 r_68.2.1.length), (.int .i64 r_68.2.2)]) rfl <| s_q (.own 5 0 r_68.1.length) rfl (.of nle trivial) rfl <| s_q (.own 6 0 r_68.2.1.length) rfl (.of nle trivial) rfl <| s_q (.int .i64 r_68.2.2) rfl (.of nle trivial) rfl <| s_mov (.own 5 0 r_68.1.length) rfl <| s_mov (.own 6 0 r_68.2.1.length) rfl <| s_mov (.int .i64 r_68.2.2) rfl <| w_done <| k_seq <| awp_seq <| awp_seq <| ?_
           obtain ⟨s132_75, hb1, hf⟩ := ob hf
           refine awp_cut ([(12, (.own 0 0 r_53.2.length)), (13, (.own 1 0 r_56.2.length)), (16, (.int .i64 r_56.1)), (132, (.bool s132_75))], [.row 2 (r_53.2.map encGLock), .row 3 (r_56.2.map encGTold)]) ?_ ?_
           ·refine w_reg <| s_mov (.own 5 0 r_68.1.length) rfl <| s_mov (.own 0 0 r_11.1.length) rfl <| ?_
            obtain ⟨r_77, er78, hb1⟩ := ob hb1
            refine s_do (o_call (w_laws_eqLockS _ _ _ er78) rfl (.cons (.of_eq (congrArg (AV.lst _) (tko r_68.1))) (.cons (.of_eq (congrArg (AV.lst _) (tko r_11.1))) .nil)) rfl) <| s_q (.bool (!r_77)) rfl (.of trivial trivial) rfl <| s_mov (.bool (!r_77)) rfl <| ?_
            rcases oi hb1 with ⟨c79, hb1⟩ | ⟨c79, hb1⟩
            ·refine s_lit (s := 122) (b := true) rfl c79 <| s_off rfl rfl <| s_off rfl rfl <| s_off rfl rfl <| s_off rfl rfl <| s_q (.bool true) rfl (.of trivial trivial) rfl <| s_mov (.bool true) rfl <| s_off rfl rfl <| s_off rfl rfl <| s_off rfl rfl <| s_q (.bool true) rfl (.of trivial trivial) rfl <| w_done <| ?_; obtain rfl := os hb1; exact ⟨[], [2, 3], _, _, rfl, rfl, ⟨.of_eq (congrArg (AV.own _ 0) (by have h := (hl55 0 _ _ _ _ rfl rfl); simpa using h.symm)), ⟨.of_eq (congrArg (AV.own _ 0) (by have h := (hl58 0 _ _ _ _ rfl rfl); simpa using h.symm)), ⟨.refl _, ⟨.refl _, trivial⟩⟩⟩⟩, (.refl _)⟩
            ·refine s_lit (s := 122) (b := false) rfl (bf c79) <| s_on rfl <| s_mov (.own 6 0 r_68.2.1.length) rfl <| s_on rfl <| s_mov (.own 1 0 r_11.2.1.length) rfl <| s_on rfl <| ?_
             obtain ⟨r_80, er81, hb1⟩ := ob hb1
             refine s_do (o_call (w_laws_eqToldS _ _ _ er81) rfl (.cons (.of_eq (congrArg (AV.lst _) (tko r_68.2.1))) (.cons (.of_eq (congrArg (AV.lst _) (tko r_11.2.1))) .nil)) rfl) <| s_on rfl <| s_q (.bool (!r_80)) rfl (.of trivial trivial) rfl <| s_q (.bool (!r_80)) rfl (.of trivial trivial) rfl <| s_mov (.bool (!r_80)) rfl <| ?_; refine s_g (v := (!r_80)) (.int .i64 r_68.2.2) rfl (fun hv => by (try simp only [gs_on hv]); exact ⟨rfl, .of trivial trivial, rfl⟩) ?_; refine s_g (v := (!r_80)) (.int .i64 r_11.2.2) rfl (fun hv => by (try simp only [gs_on hv]); exact ⟨rfl, .of trivial trivial, rfl⟩) ?_; refine s_g (v := (!r_80)) (.bool (r_68.2.2 != r_11.2.2)) rfl (fun hv => by (try simp only [gs_on hv]); exact ⟨rfl, (.of rfl trivial), rfl⟩) ?_
             refine s_pick (x := true) (y := (r_68.2.2 != r_11.2.2)) rfl (fun hv => by (try simp only [gs_on hv]); rfl) (fun hv => by (try simp only [gs_on hv]); rfl) ?_; refine w_done ?_; obtain rfl := os hb1; exact ⟨[], [2, 3], _, _, rfl, rfl, ⟨.of_eq (congrArg (AV.own _ 0) (by have h := (hl55 0 _ _ _ _ rfl rfl); simpa using h.symm)), ⟨.of_eq (congrArg (AV.own _ 0) (by have h := (hl58 0 _ _ _ _ rfl rfl); simpa using h.symm)), ⟨.refl _, ⟨.refl _, trivial⟩⟩⟩⟩, (.refl _)⟩
           ·rcases oi hf with ⟨c82, hf⟩ | ⟨c82, hf⟩
            ·refine w_condt rfl c82 <| awp_seq <| w_reg <| s_mov (.bool false) rfl <| w_done <| k_seq <| w_ret <| ?_; obtain rfl := os hf; exact r_flat ⟨.of trivial trivial, trivial⟩ rfl (.refl _)
            ·refine w_condf rfl (bf c82) <| w_skip <| k_seq <| awp_seq <| w_reg <| s_mov (.int .i64 1) rfl <| w_done <| k_seq <| awp_seq <| w_reg <| ?_
             obtain ⟨r_83, er84, hf⟩ := ob hf
             refine s_mov (.own 0 0 r_53.2.length) rfl <| s_mov (.int .i64 1) rfl <| s_do (o_call (w_laws_heldLockS _ _ _ er84) rfl (.cons (.of_eq (congrArg (AV.lst _) (tko r_53.2))) (.cons (.refl _) .nil)) rfl) <| s_mov (.int .i64 r_83) rfl <| w_done <| k_seq <| awp_seq <| awp_seq <| w_reg <| s_mov (.int .i64 r_83) rfl <| s_q (.bool (decide (r_83 < 0))) rfl (.of rfl trivial) rfl <| w_done <| k_seq <| ?_
             rcases oi hf with ⟨c85, hf⟩ | ⟨c85, hf⟩
             ·refine w_condt rfl c85 <| awp_seq <| w_reg <| s_mov (.bool false) rfl <| w_done <| k_seq <| w_ret <| ?_; obtain rfl := os hf; exact r_flat ⟨.of trivial trivial, trivial⟩ rfl (.refl _)
             ·refine w_condf rfl (bf c85) <| w_skip <| k_seq <| awp_seq <| w_reg <| ?_
              obtain ⟨r_86, er87, hf⟩ := ob hf
              refine s_mov (.own 1 0 r_56.2.length) rfl <| s_mov (.int .i64 r_83) rfl <| s_do (o_call (w_laws_heldToldS _ _ _ er87) rfl (.cons (.of_eq (congrArg (AV.lst _) (tko r_56.2))) (.cons (.refl _) .nil)) rfl) <| s_mov (.int .i64 r_86) rfl <| w_done <| k_seq <| awp_seq <| awp_seq <| w_reg <| s_mov (.int .i64 r_86) rfl <| s_q (.bool (decide (r_86 < 0))) rfl (.of rfl trivial) rfl <| w_done <| k_seq <| ?_
              rcases oi hf with ⟨c88, hf⟩ | ⟨c88, hf⟩
              ·refine w_condt rfl c88 <| awp_seq <| w_reg <| s_mov (.bool false) rfl <| w_done <| k_seq <| w_ret <| ?_; obtain rfl := os hf; exact r_flat ⟨.of trivial trivial, trivial⟩ rfl (.refl _)
              ·refine w_condf rfl (bf c88) <| w_skip <| k_seq <| awp_seq <| awp_seq <| w_reg <| s_mov (.int .i64 r_86) rfl <| s_mov (.int .i64 r_56.1) rfl <| s_q (.bool (r_86 != r_56.1)) rfl (.of rfl trivial) rfl <| w_done <| k_seq <| ?_
               rcases oi hf with ⟨c89, hf⟩ | ⟨c89, hf⟩
               ·refine w_condt rfl c89 <| awp_seq <| w_reg <| s_mov (.bool false) rfl <| w_done <| k_seq <| w_ret <| ?_; obtain rfl := os hf; exact r_flat ⟨.of trivial trivial, trivial⟩ rfl (.refl _)
               ·refine w_condf rfl (bf c89) <| w_skip <| k_seq <| awp_seq <| w_reg <| s_mov (.bool true) rfl <| w_done <| k_seq <| w_ret <| ?_; obtain rfl := os hf; exact r_flat ⟨.of trivial trivial, trivial⟩ rfl (.refl _)

end Go.R
