/- 'FnExactFailed': for every input the law returns true, and each argument reads behind the call as it read before. No condition. -/
import Derived.Test.YtmeckljlaaflkaaFAL
import Derived.WalkKit
import Derived.ProofKit
import Derived.OpenShut
import Derived.ShutString
import Derived.ChangeOld
import Derived.Below
set_option linter.all false
namespace Go.R
open Go Go.Proofs
set_option linter.unusedSimpArgs false
set_option maxHeartbeats 8000000
def TTFA (t : TypeId) (az : List AV) : Prop :=
  bif Nat.beq t 22 then ∃ x : (List GResult), az = [(.lst 5 (x.map encGResult))] ∧ (okL (okGResult)) x else
  bif Nat.beq t 121 then ∃ x : GResult, az = [(.int .i64 x.Code), (.int .i64 x.Count), (.int .i64 x.Id), (.lst 1 (x.Columns.map AV.str)), (.lst 2 (x.Rows.map encGRow))] ∧ okGResult x else
  bif Nat.beq t 3 then ∃ x : Int, az = [(.int .i64 x)] ∧ (okI .i64) x else
  bif Nat.beq t 68 then ∃ x : (List Str), az = [(.lst 1 (x.map AV.str))] ∧ (okL (okS)) x else
  bif Nat.beq t 9 then ∃ x : Str, az = [(.str x)] ∧ (okS) x else
  bif Nat.beq t 119 then ∃ x : (List GRow), az = [(.lst 2 (x.map encGRow))] ∧ (okL (okGRow)) x else
  bif Nat.beq t 77 then ∃ x : GRow, az = [(.int .i64 x.Id), (.lst 1 (x.Cells.map (encL 3 encGAtom)))] ∧ okGRow x else
  bif Nat.beq t 75 then ∃ x : (List (List GAtom)), az = [(.lst 1 (x.map (encL 3 encGAtom)))] ∧ (okL (okL (okGAtom))) x else
  bif Nat.beq t 225 then ∃ x : (List GAtom), az = [(.lst 3 (x.map encGAtom))] ∧ (okL (okGAtom)) x else
  bif Nat.beq t 254 then ∃ x : GAtom, az = [(.int .i64 x.Kind), (.int .i64 x.N), (.str x.T)] ∧ okGAtom x else
  False
theorem ttFA_22 {az : List AV} (h : ∃ x : (List GResult), az = [(.lst 5 (x.map encGResult))] ∧ (okL (okGResult)) x) : TTFA 22 az := h
theorem ttFA_121 {az : List AV} (h : ∃ x : GResult, az = [(.int .i64 x.Code), (.int .i64 x.Count), (.int .i64 x.Id), (.lst 1 (x.Columns.map AV.str)), (.lst 2 (x.Rows.map encGRow))] ∧ okGResult x) : TTFA 121 az := h
theorem ttFA_3 {az : List AV} (h : ∃ x : Int, az = [(.int .i64 x)] ∧ (okI .i64) x) : TTFA 3 az := h
theorem ttFA_68 {az : List AV} (h : ∃ x : (List Str), az = [(.lst 1 (x.map AV.str))] ∧ (okL (okS)) x) : TTFA 68 az := h
theorem ttFA_9 {az : List AV} (h : ∃ x : Str, az = [(.str x)] ∧ (okS) x) : TTFA 9 az := h
theorem ttFA_119 {az : List AV} (h : ∃ x : (List GRow), az = [(.lst 2 (x.map encGRow))] ∧ (okL (okGRow)) x) : TTFA 119 az := h
theorem ttFA_77 {az : List AV} (h : ∃ x : GRow, az = [(.int .i64 x.Id), (.lst 1 (x.Cells.map (encL 3 encGAtom)))] ∧ okGRow x) : TTFA 77 az := h
theorem ttFA_75 {az : List AV} (h : ∃ x : (List (List GAtom)), az = [(.lst 1 (x.map (encL 3 encGAtom)))] ∧ (okL (okL (okGAtom))) x) : TTFA 75 az := h
theorem ttFA_225 {az : List AV} (h : ∃ x : (List GAtom), az = [(.lst 3 (x.map encGAtom))] ∧ (okL (okGAtom)) x) : TTFA 225 az := h
theorem ttFA_254 {az : List AV} (h : ∃ x : GAtom, az = [(.int .i64 x.Kind), (.int .i64 x.N), (.str x.T)] ∧ okGAtom x) : TTFA 254 az := h
def DDFA (t : TypeId) : Prop := t ∈ [22, 121, 3, 68, 9, 119, 77, 75, 225, 254]
theorem cloFA_22 : Clo Try.prog TTFA DDFA 22 := by
  refine ⟨?_⟩
  unfold CloT
  rw [Try.underlying22]
  refine ⟨by simp [DDFA], true, by kernel_rfl, (of_decide_eq_true (by kernel_rfl)), .inl rfl, fun l hl h => ?_⟩
  obtain ⟨ys, rfl, hys⟩ := map_of (enc := encGResult) (Q := okGResult) l (fun x hx => by
    rcases h x hx with ⟨_, az, rfl, y, rfl, hy⟩ | ⟨h, _⟩
    · exact ⟨y, rfl, hy⟩
    · cases h)
  rw [List.length_map] at hl
  have hc : Try.prog.cellsOf 121 = 5 := by kernel_rfl
  rw [hc]
  exact ttFA_22 ⟨ys, rfl, hl, hys⟩
theorem cloFA_121 : Clo Try.prog TTFA DDFA 121 := by
  refine ⟨?_⟩
  unfold CloT
  rw [Try.underlying121]
  refine ⟨(And.intro (by kernel_rfl) (And.intro (by kernel_rfl) (And.intro (by kernel_rfl) (And.intro (by kernel_rfl) (And.intro (by kernel_rfl) (show (_ : Nat) = _ from by kernel_rfl)))))), by simp [DDFA], fun ass h => ?_⟩
  rcases ass with _ | ⟨a0, _ | ⟨a1, _ | ⟨a2, _ | ⟨a3, _ | ⟨a4, _ | _⟩⟩⟩⟩⟩
  · exact absurd h (by simp [Fa])
  · exact absurd h (by simp [Fa])
  · exact absurd h (by simp [Fa])
  · exact absurd h (by simp [Fa])
  · exact absurd h (by simp [Fa])
  · obtain ⟨⟨x0, rfl, h0⟩, ⟨x1, rfl, h1⟩, ⟨x2, rfl, h2⟩, ⟨x3, rfl, h3⟩, ⟨x4, rfl, h4⟩, _⟩ := h
    exact ttFA_121 ⟨⟨x0, x1, x2, x3, x4⟩, rfl, ⟨h0, h1, h2, h3, h4⟩⟩
  · exact absurd h (by simp [Fa])
theorem cloFA_3 : Clo Try.prog TTFA DDFA 3 := by
  refine ⟨?_⟩
  unfold CloT
  rw [Try.underlying3]
  exact fun n h => ttFA_3 ⟨n, rfl, h⟩
theorem cloFA_68 : Clo Try.prog TTFA DDFA 68 := by
  refine ⟨?_⟩
  unfold CloT
  rw [Try.underlying68]
  refine ⟨by simp [DDFA], false, by kernel_rfl, (of_decide_eq_true (by kernel_rfl)), .inr (by kernel_rfl), fun l hl h => ?_⟩
  obtain ⟨ys, rfl, hys⟩ := map_of (enc := AV.str) (Q := okS) l (fun x hx => by
    rcases h x hx with ⟨h, _⟩ | ⟨_, y, hy, hy2⟩
    · cases h
    · simp only [List.cons.injEq, and_true] at hy
      exact ⟨y, hy, hy2⟩)
  rw [List.length_map] at hl
  have hc : Try.prog.cellsOf 9 = 1 := by kernel_rfl
  rw [hc]
  exact ttFA_68 ⟨ys, rfl, hl, hys⟩
theorem cloFA_9 : Clo Try.prog TTFA DDFA 9 := by
  refine ⟨?_⟩
  unfold CloT
  rw [Try.underlying9]
  exact fun s h => ttFA_9 ⟨s, rfl, h⟩
theorem cloFA_119 : Clo Try.prog TTFA DDFA 119 := by
  refine ⟨?_⟩
  unfold CloT
  rw [Try.underlying119]
  refine ⟨by simp [DDFA], true, by kernel_rfl, (of_decide_eq_true (by kernel_rfl)), .inl rfl, fun l hl h => ?_⟩
  obtain ⟨ys, rfl, hys⟩ := map_of (enc := encGRow) (Q := okGRow) l (fun x hx => by
    rcases h x hx with ⟨_, az, rfl, y, rfl, hy⟩ | ⟨h, _⟩
    · exact ⟨y, rfl, hy⟩
    · cases h)
  rw [List.length_map] at hl
  have hc : Try.prog.cellsOf 77 = 2 := by kernel_rfl
  rw [hc]
  exact ttFA_119 ⟨ys, rfl, hl, hys⟩
theorem cloFA_77 : Clo Try.prog TTFA DDFA 77 := by
  refine ⟨?_⟩
  unfold CloT
  rw [Try.underlying77]
  refine ⟨(And.intro (by kernel_rfl) (And.intro (by kernel_rfl) (show (_ : Nat) = _ from by kernel_rfl))), by simp [DDFA], fun ass h => ?_⟩
  rcases ass with _ | ⟨a0, _ | ⟨a1, _ | _⟩⟩
  · exact absurd h (by simp [Fa])
  · exact absurd h (by simp [Fa])
  · obtain ⟨⟨x0, rfl, h0⟩, ⟨x1, rfl, h1⟩, _⟩ := h
    exact ttFA_77 ⟨⟨x0, x1⟩, rfl, ⟨h0, h1⟩⟩
  · exact absurd h (by simp [Fa])
theorem cloFA_75 : Clo Try.prog TTFA DDFA 75 := by
  refine ⟨?_⟩
  unfold CloT
  rw [Try.underlying75]
  refine ⟨by simp [DDFA], false, by kernel_rfl, (of_decide_eq_true (by kernel_rfl)), .inr (by kernel_rfl), fun l hl h => ?_⟩
  obtain ⟨ys, rfl, hys⟩ := map_of (enc := (encL 3 encGAtom)) (Q := okL (okGAtom)) l (fun x hx => by
    rcases h x hx with ⟨h, _⟩ | ⟨_, y, hy, hy2⟩
    · cases h
    · simp only [List.cons.injEq, and_true] at hy
      exact ⟨y, hy, hy2⟩)
  rw [List.length_map] at hl
  have hc : Try.prog.cellsOf 225 = 1 := by kernel_rfl
  rw [hc]
  exact ttFA_75 ⟨ys, rfl, hl, hys⟩
theorem cloFA_225 : Clo Try.prog TTFA DDFA 225 := by
  refine ⟨?_⟩
  unfold CloT
  rw [Try.underlying225]
  refine ⟨by simp [DDFA], true, by kernel_rfl, (of_decide_eq_true (by kernel_rfl)), .inl rfl, fun l hl h => ?_⟩
  obtain ⟨ys, rfl, hys⟩ := map_of (enc := encGAtom) (Q := okGAtom) l (fun x hx => by
    rcases h x hx with ⟨_, az, rfl, y, rfl, hy⟩ | ⟨h, _⟩
    · exact ⟨y, rfl, hy⟩
    · cases h)
  rw [List.length_map] at hl
  have hc : Try.prog.cellsOf 254 = 3 := by kernel_rfl
  rw [hc]
  exact ttFA_225 ⟨ys, rfl, hl, hys⟩
theorem cloFA_254 : Clo Try.prog TTFA DDFA 254 := by
  refine ⟨?_⟩
  unfold CloT
  rw [Try.underlying254]
  refine ⟨(And.intro (by kernel_rfl) (And.intro (by kernel_rfl) (And.intro (by kernel_rfl) (show (_ : Nat) = _ from by kernel_rfl)))), by simp [DDFA], fun ass h => ?_⟩
  rcases ass with _ | ⟨a0, _ | ⟨a1, _ | ⟨a2, _ | _⟩⟩⟩
  · exact absurd h (by simp [Fa])
  · exact absurd h (by simp [Fa])
  · exact absurd h (by simp [Fa])
  · obtain ⟨⟨x0, rfl, h0⟩, ⟨x1, rfl, h1⟩, ⟨x2, rfl, h2⟩, _⟩ := h
    exact ttFA_254 ⟨⟨x0, x1, x2⟩, rfl, ⟨h0, h1, h2⟩⟩
  · exact absurd h (by simp [Fa])
theorem cloFA : ∀ t, DDFA t → Clo Try.prog TTFA DDFA t := by
  intro t ht
  rcases List.mem_cons.1 ht with h | ht
  · rw [h]; exact cloFA_22
  rcases List.mem_cons.1 ht with h | ht
  · rw [h]; exact cloFA_121
  rcases List.mem_cons.1 ht with h | ht
  · rw [h]; exact cloFA_3
  rcases List.mem_cons.1 ht with h | ht
  · rw [h]; exact cloFA_68
  rcases List.mem_cons.1 ht with h | ht
  · rw [h]; exact cloFA_9
  rcases List.mem_cons.1 ht with h | ht
  · rw [h]; exact cloFA_119
  rcases List.mem_cons.1 ht with h | ht
  · rw [h]; exact cloFA_77
  rcases List.mem_cons.1 ht with h | ht
  · rw [h]; exact cloFA_75
  rcases List.mem_cons.1 ht with h | ht
  · rw [h]; exact cloFA_225
  rcases List.mem_cons.1 ht with h | ht
  · rw [h]; exact cloFA_254
  exact absurd ht List.not_mem_nil
end Go.R
namespace Go.Proofs.Ytmeckljlaaflkaa.fnExactFailed
open Go.ChangeShapes Go.WideShapes Go.ChangeAt Go.RowKit Go.R
open Go.ChangeMaps (open_string shut_string)
set_option linter.unusedVariables false

theorem own : ownKnob Try.prog.godebug = none := by kernel_rfl
theorem laidOut : laidOutB Try.prog = true := by kernel_rfl

set_option maxRecDepth 100000 in
theorem lifted (os : Os) (started : os.Started) (H : Type) (enc : TypeId × Value → H) :
    ReturnsInHanded {} Try.checked os 3 .any (Rows.fnExactFailedSpec.pre6 enc Try.prog Try.f3 Rows.fnExactFailedRow.domain false) (Rows.fnExactFailedSpec.post enc Try.prog Try.f3 false true false false) := by
  refine returnsInHanded_of_change (C := Try.checked) own started (by kernel_rfl) Try.func3
    (ChangeSpec.witness6 (enc := enc) (C := Try.checked) false ⟨#[], #[.slice none 0 0], []⟩ 8 (by kernel_rfl) (by kernel_rfl) (by kernel_rfl) (by kernel_rfl)) ?_
  intro W base args ds gs before hval0 hW hcnd _
  have hval : ∀ (j : Nat) t v, Try.f3.params[j]? = some t → args[j]? = some v → Value.okWide Try.prog W .any base t v := hval0
  have hW' := hW
  obtain ⟨p, q, hA0, hV, rfl, hfz, hnd⟩ := hW
  have hA : DataW.TrodAll enc Try.prog W 0 (fun _ => true) true Try.f3.params.toList args.toList ds p := hA0
  rw [Try.params3] at hA hval
  obtain ⟨v0, vs0, d0, ds0, p0, q0, hargs, rfl, rfl, h0, r0⟩ := trodAll_cons hA
  obtain ⟨rfl, rfl, rfl⟩ := trodAll_nil r0
  obtain rfl : args = #[v0] := by cases args; simp_all
  obtain ⟨rfl, rfl⟩ := trodVars_none hV
  have k0 := h0
  have lt0 : ∀ x ∈ p0, x.block < W.heap.size := by obtain ⟨m, hm⟩ := k0; exact DataW.trod_lt m _ _ _ hm
  obtain ⟨a0, fp0, g0, t0⟩ := openC cloFA (by rw [Try.underlying22]; simp) (by simp [DDFA]) (hval 0 22 v0 rfl rfl) h0
  obtain ⟨x0, e0, ok0⟩ := t0
  simp only [List.cons.injEq, and_true] at e0
  subst e0
  clear hA0 hval0
  have hc := w_laws_FnExactFailed x0 true (law_FnExactFailed x0 ok0)
  refine (flat_true hc (RepVs.cons g0 RepVs.nil)).mono fun e W' ⟨he, bel⟩ => ?_
  subst he
  exact ⟨_, rfl, _, _, _, [], _, [], hW', trodAll_mk1 (shut_bool Try.underlying4 _), (trodAll_cons_mk (Below.trod laidOut (by kernel_rfl) (of_decide_eq_true (by kernel_rfl)) k0 bel lt0) trodAll_mk0), rfl, bel.frame _, fun h => by cases h⟩

theorem over : Rows.fnExactFailedRow.holds Try.pinned (OpenSpec.ofChange Rows.fnExactFailedSpec) :=
  OpenClaim.holds_of_wide 3 Try.f3 rfl rfl rfl rfl rfl rfl rfl ⟨rfl, rfl, rfl, rfl, rfl⟩ rfl rfl rfl rfl rfl (by kernel_rfl) Try.func3 (by kernel_rfl)
    (of_decide_eq_true (by kernel_rfl)) (by unfold Func.isWrapper; first | (rw [if_pos (by decide +kernel)]; kernel_rfl) | (rw [if_neg (by decide +kernel)]; exact ⟨rfl, rfl⟩))
    (fun os started H enc _ => lifted os started H enc)

theorem proved : Rows.FnExactFailedSaid := over
#print axioms proved
end Go.Proofs.Ytmeckljlaaflkaa.fnExactFailed
