/- 'FnExactSameRows': for every input the law returns true, and each argument reads behind the call as it read before. No condition. -/
import Derived.Test.YtgmkibkmcohikaaSR
import Derived.WalkKit
import Derived.ProofKit
import Derived.OpenShut
import Derived.ShutString
import Derived.ChangeOld
import Derived.Below
set_option linter.all false
namespace Go.R
open Go Go.Proofs
set_option linter.unusedSimpArgs false
def TTSR (t : TypeId) (az : List AV) : Prop :=
  bif Nat.beq t 45 then ∃ x : (List GRow), az = [(.lst 2 (x.map encGRow))] ∧ (okL (okGRow)) x else
  bif Nat.beq t 31 then ∃ x : GRow, az = [(.int .i64 x.Id), (.lst 1 (x.Cells.map (encL 3 encGAtom)))] ∧ okGRow x else
  bif Nat.beq t 3 then ∃ x : Int, az = [(.int .i64 x)] ∧ (okI .i64) x else
  bif Nat.beq t 29 then ∃ x : (List (List GAtom)), az = [(.lst 1 (x.map (encL 3 encGAtom)))] ∧ (okL (okL (okGAtom))) x else
  bif Nat.beq t 103 then ∃ x : (List GAtom), az = [(.lst 3 (x.map encGAtom))] ∧ (okL (okGAtom)) x else
  bif Nat.beq t 62 then ∃ x : GAtom, az = [(.int .i64 x.Kind), (.int .i64 x.N), (.str x.T)] ∧ okGAtom x else
  bif Nat.beq t 9 then ∃ x : Str, az = [(.str x)] ∧ (okS) x else
  False
theorem ttSR_45 {az : List AV} (h : ∃ x : (List GRow), az = [(.lst 2 (x.map encGRow))] ∧ (okL (okGRow)) x) : TTSR 45 az := h
theorem ttSR_31 {az : List AV} (h : ∃ x : GRow, az = [(.int .i64 x.Id), (.lst 1 (x.Cells.map (encL 3 encGAtom)))] ∧ okGRow x) : TTSR 31 az := h
theorem ttSR_3 {az : List AV} (h : ∃ x : Int, az = [(.int .i64 x)] ∧ (okI .i64) x) : TTSR 3 az := h
theorem ttSR_29 {az : List AV} (h : ∃ x : (List (List GAtom)), az = [(.lst 1 (x.map (encL 3 encGAtom)))] ∧ (okL (okL (okGAtom))) x) : TTSR 29 az := h
theorem ttSR_103 {az : List AV} (h : ∃ x : (List GAtom), az = [(.lst 3 (x.map encGAtom))] ∧ (okL (okGAtom)) x) : TTSR 103 az := h
theorem ttSR_62 {az : List AV} (h : ∃ x : GAtom, az = [(.int .i64 x.Kind), (.int .i64 x.N), (.str x.T)] ∧ okGAtom x) : TTSR 62 az := h
theorem ttSR_9 {az : List AV} (h : ∃ x : Str, az = [(.str x)] ∧ (okS) x) : TTSR 9 az := h
def DDSR (t : TypeId) : Prop := t ∈ [45, 31, 3, 29, 103, 62, 9]
theorem cloSR_45 : Clo Try.prog TTSR DDSR 45 := by
  refine ⟨?_⟩
  unfold CloT
  rw [Try.underlying45]
  refine ⟨by simp [DDSR], true, by kernel_rfl, (of_decide_eq_true (by kernel_rfl)), .inl rfl, fun l hl h => ?_⟩
  obtain ⟨ys, rfl, hys⟩ := map_of (enc := encGRow) (Q := okGRow) l (fun x hx => by
    rcases h x hx with ⟨_, az, rfl, y, rfl, hy⟩ | ⟨h, _⟩
    · exact ⟨y, rfl, hy⟩
    · cases h)
  rw [List.length_map] at hl
  have hc : Try.prog.cellsOf 31 = 2 := by kernel_rfl
  rw [hc]
  exact ttSR_45 ⟨ys, rfl, hl, hys⟩
theorem cloSR_31 : Clo Try.prog TTSR DDSR 31 := by
  refine ⟨?_⟩
  unfold CloT
  rw [Try.underlying31]
  refine ⟨(And.intro (by kernel_rfl) (And.intro (by kernel_rfl) (show (_ : Nat) = _ from by kernel_rfl))), by simp [DDSR], fun ass h => ?_⟩
  rcases ass with _ | ⟨a0, _ | ⟨a1, _ | _⟩⟩
  · exact absurd h (by simp [Fa])
  · exact absurd h (by simp [Fa])
  · obtain ⟨⟨x0, rfl, h0⟩, ⟨x1, rfl, h1⟩, _⟩ := h
    exact ttSR_31 ⟨⟨x0, x1⟩, rfl, ⟨h0, h1⟩⟩
  · exact absurd h (by simp [Fa])
theorem cloSR_3 : Clo Try.prog TTSR DDSR 3 := by
  refine ⟨?_⟩
  unfold CloT
  rw [Try.underlying3]
  exact fun n h => ttSR_3 ⟨n, rfl, h⟩
theorem cloSR_29 : Clo Try.prog TTSR DDSR 29 := by
  refine ⟨?_⟩
  unfold CloT
  rw [Try.underlying29]
  refine ⟨by simp [DDSR], false, by kernel_rfl, (of_decide_eq_true (by kernel_rfl)), .inr (by kernel_rfl), fun l hl h => ?_⟩
  obtain ⟨ys, rfl, hys⟩ := map_of (enc := (encL 3 encGAtom)) (Q := okL (okGAtom)) l (fun x hx => by
    rcases h x hx with ⟨h, _⟩ | ⟨_, y, hy, hy2⟩
    · cases h
    · simp only [List.cons.injEq, and_true] at hy
      exact ⟨y, hy, hy2⟩)
  rw [List.length_map] at hl
  have hc : Try.prog.cellsOf 103 = 1 := by kernel_rfl
  rw [hc]
  exact ttSR_29 ⟨ys, rfl, hl, hys⟩
theorem cloSR_103 : Clo Try.prog TTSR DDSR 103 := by
  refine ⟨?_⟩
  unfold CloT
  rw [Try.underlying103]
  refine ⟨by simp [DDSR], true, by kernel_rfl, (of_decide_eq_true (by kernel_rfl)), .inl rfl, fun l hl h => ?_⟩
  obtain ⟨ys, rfl, hys⟩ := map_of (enc := encGAtom) (Q := okGAtom) l (fun x hx => by
    rcases h x hx with ⟨_, az, rfl, y, rfl, hy⟩ | ⟨h, _⟩
    · exact ⟨y, rfl, hy⟩
    · cases h)
  rw [List.length_map] at hl
  have hc : Try.prog.cellsOf 62 = 3 := by kernel_rfl
  rw [hc]
  exact ttSR_103 ⟨ys, rfl, hl, hys⟩
theorem cloSR_62 : Clo Try.prog TTSR DDSR 62 := by
  refine ⟨?_⟩
  unfold CloT
  rw [Try.underlying62]
  refine ⟨(And.intro (by kernel_rfl) (And.intro (by kernel_rfl) (And.intro (by kernel_rfl) (show (_ : Nat) = _ from by kernel_rfl)))), by simp [DDSR], fun ass h => ?_⟩
  rcases ass with _ | ⟨a0, _ | ⟨a1, _ | ⟨a2, _ | _⟩⟩⟩
  · exact absurd h (by simp [Fa])
  · exact absurd h (by simp [Fa])
  · exact absurd h (by simp [Fa])
  · obtain ⟨⟨x0, rfl, h0⟩, ⟨x1, rfl, h1⟩, ⟨x2, rfl, h2⟩, _⟩ := h
    exact ttSR_62 ⟨⟨x0, x1, x2⟩, rfl, ⟨h0, h1, h2⟩⟩
  · exact absurd h (by simp [Fa])
theorem cloSR_9 : Clo Try.prog TTSR DDSR 9 := by
  refine ⟨?_⟩
  unfold CloT
  rw [Try.underlying9]
  exact fun s h => ttSR_9 ⟨s, rfl, h⟩
theorem cloSR : ∀ t, DDSR t → Clo Try.prog TTSR DDSR t := by
  intro t ht
  rcases List.mem_cons.1 ht with h | ht
  · rw [h]; exact cloSR_45
  rcases List.mem_cons.1 ht with h | ht
  · rw [h]; exact cloSR_31
  rcases List.mem_cons.1 ht with h | ht
  · rw [h]; exact cloSR_3
  rcases List.mem_cons.1 ht with h | ht
  · rw [h]; exact cloSR_29
  rcases List.mem_cons.1 ht with h | ht
  · rw [h]; exact cloSR_103
  rcases List.mem_cons.1 ht with h | ht
  · rw [h]; exact cloSR_62
  rcases List.mem_cons.1 ht with h | ht
  · rw [h]; exact cloSR_9
  exact absurd ht List.not_mem_nil
end Go.R
namespace Go.Proofs.Ytgmkibkmcohikaa.fnExactSameRows
open Go.ChangeShapes Go.WideShapes Go.ChangeAt Go.RowKit Go.R
open Go.ChangeMaps (open_string shut_string)
set_option linter.unusedVariables false

theorem own : ownKnob Try.prog.godebug = none := by kernel_rfl
theorem laidOut : laidOutB Try.prog = true := by kernel_rfl

set_option maxRecDepth 100000 in
theorem lifted (os : Os) (started : os.Started) (H : Type) (enc : TypeId × Value → H) :
    ReturnsInHanded {} Try.checked os 5 .any (Rows.fnExactSameRowsSpec.pre6 enc Try.prog Try.f5 Rows.fnExactSameRowsRow.domain false) (Rows.fnExactSameRowsSpec.post enc Try.prog Try.f5 false true false false) := by
  refine returnsInHanded_of_change (C := Try.checked) own started (by kernel_rfl) Try.func5
    (ChangeSpec.witness6 (enc := enc) (C := Try.checked) false ⟨#[], #[.slice none 0 0, .slice none 0 0], []⟩ 8 (by kernel_rfl) (by kernel_rfl) (by kernel_rfl) (by kernel_rfl)) ?_
  intro W base args ds gs before hval0 hW hcnd _
  have hval : ∀ (j : Nat) t v, Try.f5.params[j]? = some t → args[j]? = some v → Value.okWide Try.prog W .any base t v := hval0
  have hW' := hW
  obtain ⟨p, q, hA0, hV, rfl, hfz, hnd⟩ := hW
  have hA : DataW.TrodAll enc Try.prog W 0 (fun _ => true) true Try.f5.params.toList args.toList ds p := hA0
  rw [Try.params5] at hA hval
  obtain ⟨v0, vs0, d0, ds0, p0, q0, hargs, rfl, rfl, h0, r0⟩ := trodAll_cons hA
  obtain ⟨v1, vs1, d1, ds1, p1, q1, rfl, rfl, rfl, h1, r1⟩ := trodAll_cons r0
  obtain ⟨rfl, rfl, rfl⟩ := trodAll_nil r1
  obtain rfl : args = #[v0, v1] := by cases args; simp_all
  obtain ⟨rfl, rfl⟩ := trodVars_none hV
  have k0 := h0
  have lt0 : ∀ x ∈ p0, x.block < W.heap.size := by obtain ⟨m, hm⟩ := k0; exact DataW.trod_lt m _ _ _ hm
  obtain ⟨a0, fp0, g0, t0⟩ := openC cloSR (by rw [Try.underlying45]; simp) (by simp [DDSR]) (hval 0 45 v0 rfl rfl) h0
  obtain ⟨x0, e0, ok0⟩ := t0
  simp only [List.cons.injEq, and_true] at e0
  subst e0
  have k1 := h1
  have lt1 : ∀ x ∈ p1, x.block < W.heap.size := by obtain ⟨m, hm⟩ := k1; exact DataW.trod_lt m _ _ _ hm
  obtain ⟨a1, fp1, g1, t1⟩ := openC cloSR (by rw [Try.underlying45]; simp) (by simp [DDSR]) (hval 1 45 v1 rfl rfl) h1
  obtain ⟨x1, e1, ok1⟩ := t1
  simp only [List.cons.injEq, and_true] at e1
  subst e1
  clear hA0 hval0
  have hc := w_laws_FnExactSameRows x0 x1 true (law_FnExactSameRows x0 x1 ok0 ok1)
  refine (flat_true hc (RepVs.cons g0 (RepVs.cons g1 RepVs.nil))).mono fun e W' ⟨he, bel⟩ => ?_
  subst he
  exact ⟨_, rfl, _, _, _, [], _, [], hW', trodAll_mk1 (shut_bool Try.underlying4 _), (trodAll_cons_mk (Below.trod laidOut (by kernel_rfl) (of_decide_eq_true (by kernel_rfl)) k0 bel lt0) (trodAll_cons_mk (Below.trod laidOut (by kernel_rfl) (of_decide_eq_true (by kernel_rfl)) k1 bel lt1) trodAll_mk0)), rfl, bel.frame _, fun h => by cases h⟩

theorem over : Rows.fnExactSameRowsRow.holds Try.pinned (OpenSpec.ofChange Rows.fnExactSameRowsSpec) :=
  OpenClaim.holds_of_wide 5 Try.f5 rfl rfl rfl rfl rfl rfl rfl ⟨rfl, rfl, rfl, rfl, rfl⟩ rfl rfl rfl rfl rfl (by kernel_rfl) Try.func5 (by kernel_rfl)
    (of_decide_eq_true (by kernel_rfl)) (by unfold Func.isWrapper; first | (rw [if_pos (by decide +kernel)]; kernel_rfl) | (rw [if_neg (by decide +kernel)]; exact ⟨rfl, rfl⟩))
    (fun os started H enc _ => lifted os started H enc)

theorem proved : Rows.FnExactSameRowsSaid := over
#print axioms proved
end Go.Proofs.Ytgmkibkmcohikaa.fnExactSameRows
