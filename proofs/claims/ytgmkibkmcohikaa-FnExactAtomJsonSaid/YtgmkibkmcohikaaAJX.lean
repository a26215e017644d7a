/- 'FnExactAtomJson': for every input the law returns true, and each argument reads behind the call as it read before. No condition. -/
import Derived.Test.YtgmkibkmcohikaaAJL
import Derived.WalkKit
import Derived.ProofKit
import Derived.OpenShut
import Derived.ShutString
import Derived.ChangeOld
import Derived.Below
set_option linter.all false
namespace Go.R
open Go Go.Proofs
set_option linter.unusedSimpArgs false
set_option maxHeartbeats 8000000
def TTAJ (t : TypeId) (az : List AV) : Prop :=
  bif Nat.beq t 62 then ∃ x : GAtom, az = [(.int .i64 x.Kind), (.int .i64 x.N), (.str x.T)] ∧ okGAtom x else
  bif Nat.beq t 3 then ∃ x : Int, az = [(.int .i64 x)] ∧ (okI .i64) x else
  bif Nat.beq t 9 then ∃ x : Str, az = [(.str x)] ∧ (okS) x else
  False
theorem ttAJ_62 {az : List AV} (h : ∃ x : GAtom, az = [(.int .i64 x.Kind), (.int .i64 x.N), (.str x.T)] ∧ okGAtom x) : TTAJ 62 az := h
theorem ttAJ_3 {az : List AV} (h : ∃ x : Int, az = [(.int .i64 x)] ∧ (okI .i64) x) : TTAJ 3 az := h
theorem ttAJ_9 {az : List AV} (h : ∃ x : Str, az = [(.str x)] ∧ (okS) x) : TTAJ 9 az := h
def DDAJ (t : TypeId) : Prop := t ∈ [62, 3, 9]
theorem cloAJ_62 : Clo Try.prog TTAJ DDAJ 62 := by
  refine ⟨?_⟩
  unfold CloT
  rw [Try.underlying62]
  refine ⟨(And.intro (by kernel_rfl) (And.intro (by kernel_rfl) (And.intro (by kernel_rfl) (show (_ : Nat) = _ from by kernel_rfl)))), by simp [DDAJ], fun ass h => ?_⟩
  rcases ass with _ | ⟨a0, _ | ⟨a1, _ | ⟨a2, _ | _⟩⟩⟩
  · exact absurd h (by simp [Fa])
  · exact absurd h (by simp [Fa])
  · exact absurd h (by simp [Fa])
  · obtain ⟨⟨x0, rfl, h0⟩, ⟨x1, rfl, h1⟩, ⟨x2, rfl, h2⟩, _⟩ := h
    exact ttAJ_62 ⟨⟨x0, x1, x2⟩, rfl, ⟨h0, h1, h2⟩⟩
  · exact absurd h (by simp [Fa])
theorem cloAJ_3 : Clo Try.prog TTAJ DDAJ 3 := by
  refine ⟨?_⟩
  unfold CloT
  rw [Try.underlying3]
  exact fun n h => ttAJ_3 ⟨n, rfl, h⟩
theorem cloAJ_9 : Clo Try.prog TTAJ DDAJ 9 := by
  refine ⟨?_⟩
  unfold CloT
  rw [Try.underlying9]
  exact fun s h => ttAJ_9 ⟨s, rfl, h⟩
theorem cloAJ : ∀ t, DDAJ t → Clo Try.prog TTAJ DDAJ t := by
  intro t ht
  rcases List.mem_cons.1 ht with h | ht
  · rw [h]; exact cloAJ_62
  rcases List.mem_cons.1 ht with h | ht
  · rw [h]; exact cloAJ_3
  rcases List.mem_cons.1 ht with h | ht
  · rw [h]; exact cloAJ_9
  exact absurd ht List.not_mem_nil
end Go.R
namespace Go.Proofs.Ytgmkibkmcohikaa.fnExactAtomJson
open Go.ChangeShapes Go.WideShapes Go.ChangeAt Go.RowKit Go.R
open Go.ChangeMaps (open_string shut_string)
set_option linter.unusedVariables false

theorem own : ownKnob Try.prog.godebug = none := by kernel_rfl
theorem laidOut : laidOutB Try.prog = true := by kernel_rfl

set_option maxRecDepth 100000 in
theorem lifted (os : Os) (started : os.Started) (H : Type) (enc : TypeId × Value → H) :
    ReturnsInHanded {} Try.checked os 7 .any (Rows.fnExactAtomJsonSpec.pre6 enc Try.prog Try.f7 Rows.fnExactAtomJsonRow.domain false) (Rows.fnExactAtomJsonSpec.post enc Try.prog Try.f7 false true false false) := by
  refine returnsInHanded_of_change (C := Try.checked) own started (by kernel_rfl) Try.func7
    (ChangeSpec.witness6 (enc := enc) (C := Try.checked) false ⟨#[], #[.agg #[.int .i64 0, .int .i64 0, .string ByteArray.empty]], []⟩ 8 (by kernel_rfl) (by kernel_rfl) (by kernel_rfl) (by kernel_rfl)) ?_
  intro W base args ds gs before hval0 hW hcnd _
  have hval : ∀ (j : Nat) t v, Try.f7.params[j]? = some t → args[j]? = some v → Value.okWide Try.prog W .any base t v := hval0
  have hW' := hW
  obtain ⟨p, q, hA0, hV, rfl, hfz, hnd⟩ := hW
  have hA : DataW.TrodAll enc Try.prog W 0 (fun _ => true) true Try.f7.params.toList args.toList ds p := hA0
  rw [Try.params7] at hA hval
  obtain ⟨v0, vs0, d0, ds0, p0, q0, hargs, rfl, rfl, h0, r0⟩ := trodAll_cons hA
  obtain ⟨rfl, rfl, rfl⟩ := trodAll_nil r0
  obtain rfl : args = #[v0] := by cases args; simp_all
  obtain ⟨rfl, rfl⟩ := trodVars_none hV
  have k0 := h0
  have lt0 : ∀ x ∈ p0, x.block < W.heap.size := by obtain ⟨m, hm⟩ := k0; exact DataW.trod_lt m _ _ _ hm
  obtain ⟨az0, fp0, g0, t0⟩ := openA cloAJ Try.underlying62 (by simp [DDAJ]) (hval 0 62 v0 rfl rfl) h0
  obtain ⟨x0, rfl, ok0⟩ := t0
  clear hA0 hval0
  have hc := w_laws_FnExactAtomJson x0 true (law_FnExactAtomJson x0 ok0)
  refine (flat_true hc (RepVs.cons g0 RepVs.nil)).mono fun e W' ⟨he, bel⟩ => ?_
  subst he
  exact ⟨_, rfl, _, _, _, [], _, [], hW', trodAll_mk1 (shut_bool Try.underlying4 _), (trodAll_cons_mk (Below.trod laidOut (by kernel_rfl) (of_decide_eq_true (by kernel_rfl)) k0 bel lt0) trodAll_mk0), rfl, bel.frame _, fun h => by cases h⟩

theorem over : Rows.fnExactAtomJsonRow.holds Try.pinned (OpenSpec.ofChange Rows.fnExactAtomJsonSpec) :=
  OpenClaim.holds_of_wide 7 Try.f7 rfl rfl rfl rfl rfl rfl rfl ⟨rfl, rfl, rfl, rfl, rfl⟩ rfl rfl rfl rfl rfl (by kernel_rfl) Try.func7 (by kernel_rfl)
    (of_decide_eq_true (by kernel_rfl)) (by unfold Func.isWrapper; first | (rw [if_pos (by decide +kernel)]; kernel_rfl) | (rw [if_neg (by decide +kernel)]; exact ⟨rfl, rfl⟩))
    (fun os started H enc _ => lifted os started H enc)

theorem proved : Rows.FnExactAtomJsonSaid := over
#print axioms proved
end Go.Proofs.Ytgmkibkmcohikaa.fnExactAtomJson
