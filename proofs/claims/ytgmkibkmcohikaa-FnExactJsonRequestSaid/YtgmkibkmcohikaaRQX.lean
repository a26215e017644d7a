/- 'FnExactJsonRequest': for every input the law returns true, and each argument reads behind the call as it read before. No condition. -/
import Derived.Test.YtgmkibkmcohikaaRQL
import Derived.WalkKit
import Derived.ProofKit
import Derived.OpenShut
import Derived.ShutString
import Derived.ChangeOld
import Derived.Below
set_option linter.all false
namespace Go.R
open Go Go.Proofs
set_option linter.unusedSimpArgs false
set_option maxHeartbeats 8000000
def TTRQ (t : TypeId) (az : List AV) : Prop :=
  bif Nat.beq t 77 then ∃ x : GJson, az = [(.int .i64 x.Kind), (.int .i64 x.N), (.str x.T), (.lst 1 (x.Keys.map AV.str)), (.lst 5 (x.Items.map encGJson))] ∧ okGJson x else
  bif Nat.beq t 3 then ∃ x : Int, az = [(.int .i64 x)] ∧ (okI .i64) x else
  bif Nat.beq t 9 then ∃ x : Str, az = [(.str x)] ∧ (okS) x else
  bif Nat.beq t 52 then ∃ x : (List Str), az = [(.lst 1 (x.map AV.str))] ∧ (okL (okS)) x else
  bif Nat.beq t 75 then ∃ x : (List GJson), az = [(.lst 5 (x.map encGJson))] ∧ (okL (okGJson)) x else
  False
theorem ttRQ_77 {az : List AV} (h : ∃ x : GJson, az = [(.int .i64 x.Kind), (.int .i64 x.N), (.str x.T), (.lst 1 (x.Keys.map AV.str)), (.lst 5 (x.Items.map encGJson))] ∧ okGJson x) : TTRQ 77 az := h
theorem ttRQ_3 {az : List AV} (h : ∃ x : Int, az = [(.int .i64 x)] ∧ (okI .i64) x) : TTRQ 3 az := h
theorem ttRQ_9 {az : List AV} (h : ∃ x : Str, az = [(.str x)] ∧ (okS) x) : TTRQ 9 az := h
theorem ttRQ_52 {az : List AV} (h : ∃ x : (List Str), az = [(.lst 1 (x.map AV.str))] ∧ (okL (okS)) x) : TTRQ 52 az := h
theorem ttRQ_75 {az : List AV} (h : ∃ x : (List GJson), az = [(.lst 5 (x.map encGJson))] ∧ (okL (okGJson)) x) : TTRQ 75 az := h
def DDRQ (t : TypeId) : Prop := t ∈ [77, 3, 9, 52, 75]
theorem cloRQ_77 : Clo Try.prog TTRQ DDRQ 77 := by
  refine ⟨?_⟩
  unfold CloT
  rw [Try.underlying77]
  refine ⟨(And.intro (by kernel_rfl) (And.intro (by kernel_rfl) (And.intro (by kernel_rfl) (And.intro (by kernel_rfl) (And.intro (by kernel_rfl) (show (_ : Nat) = _ from by kernel_rfl)))))), by simp [DDRQ], fun ass h => ?_⟩
  rcases ass with _ | ⟨a0, _ | ⟨a1, _ | ⟨a2, _ | ⟨a3, _ | ⟨a4, _ | _⟩⟩⟩⟩⟩
  · exact absurd h (by simp [Fa])
  · exact absurd h (by simp [Fa])
  · exact absurd h (by simp [Fa])
  · exact absurd h (by simp [Fa])
  · exact absurd h (by simp [Fa])
  · obtain ⟨⟨x0, rfl, h0⟩, ⟨x1, rfl, h1⟩, ⟨x2, rfl, h2⟩, ⟨x3, rfl, h3⟩, ⟨x4, rfl, h4⟩, _⟩ := h
    exact ttRQ_77 ⟨⟨x0, x1, x2, x3, x4⟩, rfl, .mk h0 h1 h2 h3 h4.1 h4.2⟩
  · exact absurd h (by simp [Fa])
theorem cloRQ_3 : Clo Try.prog TTRQ DDRQ 3 := by
  refine ⟨?_⟩
  unfold CloT
  rw [Try.underlying3]
  exact fun n h => ttRQ_3 ⟨n, rfl, h⟩
theorem cloRQ_9 : Clo Try.prog TTRQ DDRQ 9 := by
  refine ⟨?_⟩
  unfold CloT
  rw [Try.underlying9]
  exact fun s h => ttRQ_9 ⟨s, rfl, h⟩
theorem cloRQ_52 : Clo Try.prog TTRQ DDRQ 52 := by
  refine ⟨?_⟩
  unfold CloT
  rw [Try.underlying52]
  refine ⟨by simp [DDRQ], false, by kernel_rfl, (of_decide_eq_true (by kernel_rfl)), .inr (by kernel_rfl), fun l hl h => ?_⟩
  obtain ⟨ys, rfl, hys⟩ := map_of (enc := AV.str) (Q := okS) l (fun x hx => by
    rcases h x hx with ⟨h, _⟩ | ⟨_, y, hy, hy2⟩
    · cases h
    · simp only [List.cons.injEq, and_true] at hy
      exact ⟨y, hy, hy2⟩)
  rw [List.length_map] at hl
  have hc : Try.prog.cellsOf 9 = 1 := by kernel_rfl
  rw [hc]
  exact ttRQ_52 ⟨ys, rfl, hl, hys⟩
theorem cloRQ_75 : Clo Try.prog TTRQ DDRQ 75 := by
  refine ⟨?_⟩
  unfold CloT
  rw [Try.underlying75]
  refine ⟨by simp [DDRQ], true, by kernel_rfl, (of_decide_eq_true (by kernel_rfl)), .inl rfl, fun l hl h => ?_⟩
  obtain ⟨ys, rfl, hys⟩ := map_of (enc := encGJson) (Q := okGJson) l (fun x hx => by
    rcases h x hx with ⟨_, az, rfl, y, rfl, hy⟩ | ⟨h, _⟩
    · exact ⟨y, (encGJson_eq y).symm, hy⟩
    · cases h)
  rw [List.length_map] at hl
  have hc : Try.prog.cellsOf 77 = 5 := by kernel_rfl
  rw [hc]
  exact ttRQ_75 ⟨ys, rfl, hl, hys⟩
theorem cloRQ : ∀ t, DDRQ t → Clo Try.prog TTRQ DDRQ t := by
  intro t ht
  rcases List.mem_cons.1 ht with h | ht
  · rw [h]; exact cloRQ_77
  rcases List.mem_cons.1 ht with h | ht
  · rw [h]; exact cloRQ_3
  rcases List.mem_cons.1 ht with h | ht
  · rw [h]; exact cloRQ_9
  rcases List.mem_cons.1 ht with h | ht
  · rw [h]; exact cloRQ_52
  rcases List.mem_cons.1 ht with h | ht
  · rw [h]; exact cloRQ_75
  exact absurd ht List.not_mem_nil
end Go.R
namespace Go.Proofs.Ytgmkibkmcohikaa.fnExactJsonRequest
open Go.ChangeShapes Go.WideShapes Go.ChangeAt Go.RowKit Go.R
open Go.ChangeMaps (open_string shut_string)
set_option linter.unusedVariables false

theorem own : ownKnob Try.prog.godebug = none := by kernel_rfl
theorem laidOut : laidOutB Try.prog = true := by kernel_rfl

set_option maxRecDepth 100000 in
theorem lifted (os : Os) (started : os.Started) (H : Type) (enc : TypeId × Value → H) :
    ReturnsInHanded {} Try.checked os 11 .any (Rows.fnExactJsonRequestSpec.pre6 enc Try.prog Try.f11 Rows.fnExactJsonRequestRow.domain false) (Rows.fnExactJsonRequestSpec.post enc Try.prog Try.f11 false true false false) := by
  refine returnsInHanded_of_change (C := Try.checked) own started (by kernel_rfl) Try.func11
    (ChangeSpec.witness6 (enc := enc) (C := Try.checked) false ⟨#[], #[.agg #[.int .i64 0, .int .i64 0, .string ByteArray.empty, .slice none 0 0, .slice none 0 0]], []⟩ 8 (by kernel_rfl) (by kernel_rfl) (by kernel_rfl) (by kernel_rfl)) ?_
  intro W base args ds gs before hval0 hW hcnd _
  have hval : ∀ (j : Nat) t v, Try.f11.params[j]? = some t → args[j]? = some v → Value.okWide Try.prog W .any base t v := hval0
  have hW' := hW
  obtain ⟨p, q, hA0, hV, rfl, hfz, hnd⟩ := hW
  have hA : DataW.TrodAll enc Try.prog W 0 (fun _ => true) true Try.f11.params.toList args.toList ds p := hA0
  rw [Try.params11] at hA hval
  obtain ⟨v0, vs0, d0, ds0, p0, q0, hargs, rfl, rfl, h0, r0⟩ := trodAll_cons hA
  obtain ⟨rfl, rfl, rfl⟩ := trodAll_nil r0
  obtain rfl : args = #[v0] := by cases args; simp_all
  obtain ⟨rfl, rfl⟩ := trodVars_none hV
  have k0 := h0
  have lt0 : ∀ x ∈ p0, x.block < W.heap.size := by obtain ⟨m, hm⟩ := k0; exact DataW.trod_lt m _ _ _ hm
  obtain ⟨az0, fp0, g0, t0⟩ := openA cloRQ Try.underlying77 (by simp [DDRQ]) (hval 0 77 v0 rfl rfl) h0
  obtain ⟨x0, rfl, ok0⟩ := t0
  clear hA0 hval0
  have hc := w_laws_FnExactJsonRequest x0 true (law_FnExactJsonRequest x0 ok0)
  rw [encGJson_eq x0] at hc
  refine (flat_true hc (RepVs.cons g0 RepVs.nil)).mono fun e W' ⟨he, bel⟩ => ?_
  subst he
  exact ⟨_, rfl, _, _, _, [], _, [], hW', trodAll_mk1 (shut_bool Try.underlying4 _), (trodAll_cons_mk (Below.trod laidOut (by kernel_rfl) (of_decide_eq_true (by kernel_rfl)) k0 bel lt0) trodAll_mk0), rfl, bel.frame _, fun h => by cases h⟩

theorem over : Rows.fnExactJsonRequestRow.holds Try.pinned (OpenSpec.ofChange Rows.fnExactJsonRequestSpec) :=
  OpenClaim.holds_of_wide 11 Try.f11 rfl rfl rfl rfl rfl rfl rfl ⟨rfl, rfl, rfl, rfl, rfl⟩ rfl rfl rfl rfl rfl (by kernel_rfl) Try.func11 (by kernel_rfl)
    (of_decide_eq_true (by kernel_rfl)) (by unfold Func.isWrapper; first | (rw [if_pos (by decide +kernel)]; kernel_rfl) | (rw [if_neg (by decide +kernel)]; exact ⟨rfl, rfl⟩))
    (fun os started H enc _ => lifted os started H enc)

theorem proved : Rows.FnExactJsonRequestSaid := over
#print axioms proved
end Go.Proofs.Ytgmkibkmcohikaa.fnExactJsonRequest
