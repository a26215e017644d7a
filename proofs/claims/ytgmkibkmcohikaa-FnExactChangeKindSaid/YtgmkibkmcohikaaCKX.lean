/- 'FnExactChangeKind': for every input the law returns true, and each argument reads behind the call as it read before. No condition. -/
import Derived.Test.YtgmkibkmcohikaaCK
import Derived.WalkKit
import Derived.ProofKit
import Derived.OpenShut
import Derived.ShutString
import Derived.ChangeOld
import Derived.Below
set_option linter.all false
namespace Go.R
open Go Go.Proofs
set_option linter.unusedSimpArgs false
def TTCK (t : TypeId) (az : List AV) : Prop :=
  bif Nat.beq t 33 then ∃ x : GChange, az = [(.int .i64 x.Table), (.int .i64 x.Id), (.int .i64 x.Old.Id), (.lst 1 (x.Old.Cells.map (encL 3 encGAtom))), (.int .i64 x.New.Id), (.lst 1 (x.New.Cells.map (encL 3 encGAtom)))] ∧ okGChange x else
  bif Nat.beq t 3 then ∃ x : Int, az = [(.int .i64 x)] ∧ (okI .i64) x else
  bif Nat.beq t 31 then ∃ x : GRow, az = [(.int .i64 x.Id), (.lst 1 (x.Cells.map (encL 3 encGAtom)))] ∧ okGRow x else
  bif Nat.beq t 29 then ∃ x : (List (List GAtom)), az = [(.lst 1 (x.map (encL 3 encGAtom)))] ∧ (okL (okL (okGAtom))) x else
  bif Nat.beq t 103 then ∃ x : (List GAtom), az = [(.lst 3 (x.map encGAtom))] ∧ (okL (okGAtom)) x else
  bif Nat.beq t 62 then ∃ x : GAtom, az = [(.int .i64 x.Kind), (.int .i64 x.N), (.str x.T)] ∧ okGAtom x else
  bif Nat.beq t 9 then ∃ x : Str, az = [(.str x)] ∧ (okS) x else
  False
theorem ttCK_33 {az : List AV} (h : ∃ x : GChange, az = [(.int .i64 x.Table), (.int .i64 x.Id), (.int .i64 x.Old.Id), (.lst 1 (x.Old.Cells.map (encL 3 encGAtom))), (.int .i64 x.New.Id), (.lst 1 (x.New.Cells.map (encL 3 encGAtom)))] ∧ okGChange x) : TTCK 33 az := h
theorem ttCK_3 {az : List AV} (h : ∃ x : Int, az = [(.int .i64 x)] ∧ (okI .i64) x) : TTCK 3 az := h
theorem ttCK_31 {az : List AV} (h : ∃ x : GRow, az = [(.int .i64 x.Id), (.lst 1 (x.Cells.map (encL 3 encGAtom)))] ∧ okGRow x) : TTCK 31 az := h
theorem ttCK_29 {az : List AV} (h : ∃ x : (List (List GAtom)), az = [(.lst 1 (x.map (encL 3 encGAtom)))] ∧ (okL (okL (okGAtom))) x) : TTCK 29 az := h
theorem ttCK_103 {az : List AV} (h : ∃ x : (List GAtom), az = [(.lst 3 (x.map encGAtom))] ∧ (okL (okGAtom)) x) : TTCK 103 az := h
theorem ttCK_62 {az : List AV} (h : ∃ x : GAtom, az = [(.int .i64 x.Kind), (.int .i64 x.N), (.str x.T)] ∧ okGAtom x) : TTCK 62 az := h
theorem ttCK_9 {az : List AV} (h : ∃ x : Str, az = [(.str x)] ∧ (okS) x) : TTCK 9 az := h
def DDCK (t : TypeId) : Prop := t ∈ [33, 3, 31, 29, 103, 62, 9]
theorem cloCK_33 : Clo Try.prog TTCK DDCK 33 := by
  refine ⟨?_⟩
  unfold CloT
  rw [Try.underlying33]
  refine ⟨(And.intro (by kernel_rfl) (And.intro (by kernel_rfl) (And.intro (by kernel_rfl) (And.intro (by kernel_rfl) (show (_ : Nat) = _ from by kernel_rfl))))), by simp [DDCK], fun ass h => ?_⟩
  rcases ass with _ | ⟨a0, _ | ⟨a1, _ | ⟨a2, _ | ⟨a3, _ | _⟩⟩⟩⟩
  · exact absurd h (by simp [Fa])
  · exact absurd h (by simp [Fa])
  · exact absurd h (by simp [Fa])
  · exact absurd h (by simp [Fa])
  · obtain ⟨⟨x0, rfl, h0⟩, ⟨x1, rfl, h1⟩, ⟨x2, rfl, h2⟩, ⟨x3, rfl, h3⟩, _⟩ := h
    exact ttCK_33 ⟨⟨x0, x1, x2, x3⟩, rfl, ⟨h0, h1, h2, h3⟩⟩
  · exact absurd h (by simp [Fa])
theorem cloCK_3 : Clo Try.prog TTCK DDCK 3 := by
  refine ⟨?_⟩
  unfold CloT
  rw [Try.underlying3]
  exact fun n h => ttCK_3 ⟨n, rfl, h⟩
theorem cloCK_31 : Clo Try.prog TTCK DDCK 31 := by
  refine ⟨?_⟩
  unfold CloT
  rw [Try.underlying31]
  refine ⟨(And.intro (by kernel_rfl) (And.intro (by kernel_rfl) (show (_ : Nat) = _ from by kernel_rfl))), by simp [DDCK], fun ass h => ?_⟩
  rcases ass with _ | ⟨a0, _ | ⟨a1, _ | _⟩⟩
  · exact absurd h (by simp [Fa])
  · exact absurd h (by simp [Fa])
  · obtain ⟨⟨x0, rfl, h0⟩, ⟨x1, rfl, h1⟩, _⟩ := h
    exact ttCK_31 ⟨⟨x0, x1⟩, rfl, ⟨h0, h1⟩⟩
  · exact absurd h (by simp [Fa])
theorem cloCK_29 : Clo Try.prog TTCK DDCK 29 := by
  refine ⟨?_⟩
  unfold CloT
  rw [Try.underlying29]
  refine ⟨by simp [DDCK], false, by kernel_rfl, (of_decide_eq_true (by kernel_rfl)), .inr (by kernel_rfl), fun l hl h => ?_⟩
  obtain ⟨ys, rfl, hys⟩ := map_of (enc := (encL 3 encGAtom)) (Q := okL (okGAtom)) l (fun x hx => by
    rcases h x hx with ⟨h, _⟩ | ⟨_, y, hy, hy2⟩
    · cases h
    · simp only [List.cons.injEq, and_true] at hy
      exact ⟨y, hy, hy2⟩)
  rw [List.length_map] at hl
  have hc : Try.prog.cellsOf 103 = 1 := by kernel_rfl
  rw [hc]
  exact ttCK_29 ⟨ys, rfl, hl, hys⟩
theorem cloCK_103 : Clo Try.prog TTCK DDCK 103 := by
  refine ⟨?_⟩
  unfold CloT
  rw [Try.underlying103]
  refine ⟨by simp [DDCK], true, by kernel_rfl, (of_decide_eq_true (by kernel_rfl)), .inl rfl, fun l hl h => ?_⟩
  obtain ⟨ys, rfl, hys⟩ := map_of (enc := encGAtom) (Q := okGAtom) l (fun x hx => by
    rcases h x hx with ⟨_, az, rfl, y, rfl, hy⟩ | ⟨h, _⟩
    · exact ⟨y, rfl, hy⟩
    · cases h)
  rw [List.length_map] at hl
  have hc : Try.prog.cellsOf 62 = 3 := by kernel_rfl
  rw [hc]
  exact ttCK_103 ⟨ys, rfl, hl, hys⟩
theorem cloCK_62 : Clo Try.prog TTCK DDCK 62 := by
  refine ⟨?_⟩
  unfold CloT
  rw [Try.underlying62]
  refine ⟨(And.intro (by kernel_rfl) (And.intro (by kernel_rfl) (And.intro (by kernel_rfl) (show (_ : Nat) = _ from by kernel_rfl)))), by simp [DDCK], fun ass h => ?_⟩
  rcases ass with _ | ⟨a0, _ | ⟨a1, _ | ⟨a2, _ | _⟩⟩⟩
  · exact absurd h (by simp [Fa])
  · exact absurd h (by simp [Fa])
  · exact absurd h (by simp [Fa])
  · obtain ⟨⟨x0, rfl, h0⟩, ⟨x1, rfl, h1⟩, ⟨x2, rfl, h2⟩, _⟩ := h
    exact ttCK_62 ⟨⟨x0, x1, x2⟩, rfl, ⟨h0, h1, h2⟩⟩
  · exact absurd h (by simp [Fa])
theorem cloCK_9 : Clo Try.prog TTCK DDCK 9 := by
  refine ⟨?_⟩
  unfold CloT
  rw [Try.underlying9]
  exact fun s h => ttCK_9 ⟨s, rfl, h⟩
theorem cloCK : ∀ t, DDCK t → Clo Try.prog TTCK DDCK t := by
  intro t ht
  rcases List.mem_cons.1 ht with h | ht
  · rw [h]; exact cloCK_33
  rcases List.mem_cons.1 ht with h | ht
  · rw [h]; exact cloCK_3
  rcases List.mem_cons.1 ht with h | ht
  · rw [h]; exact cloCK_31
  rcases List.mem_cons.1 ht with h | ht
  · rw [h]; exact cloCK_29
  rcases List.mem_cons.1 ht with h | ht
  · rw [h]; exact cloCK_103
  rcases List.mem_cons.1 ht with h | ht
  · rw [h]; exact cloCK_62
  rcases List.mem_cons.1 ht with h | ht
  · rw [h]; exact cloCK_9
  exact absurd ht List.not_mem_nil
end Go.R
namespace Go.Proofs.Ytgmkibkmcohikaa.fnExactChangeKind
open Go.ChangeShapes Go.WideShapes Go.ChangeAt Go.RowKit Go.R
open Go.ChangeMaps (open_string shut_string)
set_option linter.unusedVariables false

theorem own : ownKnob Try.prog.godebug = none := by kernel_rfl
theorem laidOut : laidOutB Try.prog = true := by kernel_rfl

set_option maxRecDepth 100000 in
theorem lifted (os : Os) (started : os.Started) (H : Type) (enc : TypeId × Value → H) :
    ReturnsInHanded {} Try.checked os 4 .any (Rows.fnExactChangeKindSpec.pre6 enc Try.prog Try.f4 Rows.fnExactChangeKindRow.domain false) (Rows.fnExactChangeKindSpec.post enc Try.prog Try.f4 false true false false) := by
  refine returnsInHanded_of_change (C := Try.checked) own started (by kernel_rfl) Try.func4
    (ChangeSpec.witness6 (enc := enc) (C := Try.checked) false ⟨#[], #[.agg #[.int .i64 0, .int .i64 0, .int .i64 0, .slice none 0 0, .int .i64 0, .slice none 0 0]], []⟩ 8 (by kernel_rfl) (by kernel_rfl) (by kernel_rfl) (by kernel_rfl)) ?_
  intro W base args ds gs before hval0 hW hcnd _
  have hval : ∀ (j : Nat) t v, Try.f4.params[j]? = some t → args[j]? = some v → Value.okWide Try.prog W .any base t v := hval0
  have hW' := hW
  obtain ⟨p, q, hA0, hV, rfl, hfz, hnd⟩ := hW
  have hA : DataW.TrodAll enc Try.prog W 0 (fun _ => true) true Try.f4.params.toList args.toList ds p := hA0
  rw [Try.params4] at hA hval
  obtain ⟨v0, vs0, d0, ds0, p0, q0, hargs, rfl, rfl, h0, r0⟩ := trodAll_cons hA
  obtain ⟨rfl, rfl, rfl⟩ := trodAll_nil r0
  obtain rfl : args = #[v0] := by cases args; simp_all
  obtain ⟨rfl, rfl⟩ := trodVars_none hV
  have k0 := h0
  have lt0 : ∀ x ∈ p0, x.block < W.heap.size := by obtain ⟨m, hm⟩ := k0; exact DataW.trod_lt m _ _ _ hm
  obtain ⟨az0, fp0, g0, t0⟩ := openA cloCK Try.underlying33 (by simp [DDCK]) (hval 0 33 v0 rfl rfl) h0
  obtain ⟨x0, rfl, ok0⟩ := t0
  clear hA0 hval0
  have hc := w_laws_FnExactChangeKind x0 true (law_FnExactChangeKind x0 ok0)
  refine (flat_true hc (RepVs.cons g0 RepVs.nil)).mono fun e W' ⟨he, bel⟩ => ?_
  subst he
  exact ⟨_, rfl, _, _, _, [], _, [], hW', trodAll_mk1 (shut_bool Try.underlying4 _), (trodAll_cons_mk (Below.trod laidOut (by kernel_rfl) (of_decide_eq_true (by kernel_rfl)) k0 bel lt0) trodAll_mk0), rfl, bel.frame _, fun h => by cases h⟩

theorem over : Rows.fnExactChangeKindRow.holds Try.pinned (OpenSpec.ofChange Rows.fnExactChangeKindSpec) :=
  OpenClaim.holds_of_wide 4 Try.f4 rfl rfl rfl rfl rfl rfl rfl ⟨rfl, rfl, rfl, rfl, rfl⟩ rfl rfl rfl rfl rfl (by kernel_rfl) Try.func4 (by kernel_rfl)
    (of_decide_eq_true (by kernel_rfl)) (by unfold Func.isWrapper; first | (rw [if_pos (by decide +kernel)]; kernel_rfl) | (rw [if_neg (by decide +kernel)]; exact ⟨rfl, rfl⟩))
    (fun os started H enc _ => lifted os started H enc)

theorem proved : Rows.FnExactChangeKindSaid := over
#print axioms proved
end Go.Proofs.Ytgmkibkmcohikaa.fnExactChangeKind
