/- 'FnExactOpOK': for every input the law returns true, and each argument reads behind the call as it read before. No condition. -/
import Derived.Test.YthejoafcjkoahaaOOLaw
import Derived.WalkKit
import Derived.ProofKit
import Derived.OpenShut
import Derived.ShutString
import Derived.ChangeOld
import Derived.Below
set_option linter.all false
namespace Go.R
open Go Go.Proofs
set_option linter.unusedSimpArgs false
set_option maxHeartbeats 8000000
def TTOO (t : TypeId) (az : List AV) : Prop :=
  bif Nat.beq t 27 then ∃ x : GOp, az = [(.int .i64 x.Kind), (.str x.Table), (.str x.Name), (.lst 3 (x.Where.map encGCond)), (.lst 3 (x.Row.map encGSet)), (.lst 3 (x.Muts.map encGMut)), (.lst 1 (x.Columns.map AV.str)), (.bool x.Until)] ∧ okGOp x else
  bif Nat.beq t 3 then ∃ x : Int, az = [(.int .i64 x)] ∧ (okI .i64) x else
  bif Nat.beq t 9 then ∃ x : Str, az = [(.str x)] ∧ (okS) x else
  bif Nat.beq t 22 then ∃ x : (List GCond), az = [(.lst 3 (x.map encGCond))] ∧ (okL (okGCond)) x else
  bif Nat.beq t 98 then ∃ x : GCond, az = [(.str x.Column), (.int .i64 x.Func), (.lst 3 (x.Value.map encGAtom))] ∧ okGCond x else
  bif Nat.beq t 96 then ∃ x : (List GAtom), az = [(.lst 3 (x.map encGAtom))] ∧ (okL (okGAtom)) x else
  bif Nat.beq t 145 then ∃ x : GAtom, az = [(.int .i64 x.Kind), (.int .i64 x.N), (.str x.T)] ∧ okGAtom x else
  bif Nat.beq t 23 then ∃ x : (List GSet), az = [(.lst 3 (x.map encGSet))] ∧ (okL (okGSet)) x else
  bif Nat.beq t 101 then ∃ x : GSet, az = [(.str x.Column), (.lst 3 (x.Value.map encGAtom)), (.lst 1 (x.Names.map AV.str))] ∧ okGSet x else
  bif Nat.beq t 25 then ∃ x : (List Str), az = [(.lst 1 (x.map AV.str))] ∧ (okL (okS)) x else
  bif Nat.beq t 24 then ∃ x : (List GMut), az = [(.lst 3 (x.map encGMut))] ∧ (okL (okGMut)) x else
  bif Nat.beq t 103 then ∃ x : GMut, az = [(.str x.Column), (.int .i64 x.Func), (.lst 3 (x.Value.map encGAtom))] ∧ okGMut x else
  bif Nat.beq t 4 then ∃ x : Bool, az = [(.bool x)] ∧ ((fun _ => True)) x else
  False
theorem ttOO_27 {az : List AV} (h : ∃ x : GOp, az = [(.int .i64 x.Kind), (.str x.Table), (.str x.Name), (.lst 3 (x.Where.map encGCond)), (.lst 3 (x.Row.map encGSet)), (.lst 3 (x.Muts.map encGMut)), (.lst 1 (x.Columns.map AV.str)), (.bool x.Until)] ∧ okGOp x) : TTOO 27 az := h
theorem ttOO_3 {az : List AV} (h : ∃ x : Int, az = [(.int .i64 x)] ∧ (okI .i64) x) : TTOO 3 az := h
theorem ttOO_9 {az : List AV} (h : ∃ x : Str, az = [(.str x)] ∧ (okS) x) : TTOO 9 az := h
theorem ttOO_22 {az : List AV} (h : ∃ x : (List GCond), az = [(.lst 3 (x.map encGCond))] ∧ (okL (okGCond)) x) : TTOO 22 az := h
theorem ttOO_98 {az : List AV} (h : ∃ x : GCond, az = [(.str x.Column), (.int .i64 x.Func), (.lst 3 (x.Value.map encGAtom))] ∧ okGCond x) : TTOO 98 az := h
theorem ttOO_96 {az : List AV} (h : ∃ x : (List GAtom), az = [(.lst 3 (x.map encGAtom))] ∧ (okL (okGAtom)) x) : TTOO 96 az := h
theorem ttOO_145 {az : List AV} (h : ∃ x : GAtom, az = [(.int .i64 x.Kind), (.int .i64 x.N), (.str x.T)] ∧ okGAtom x) : TTOO 145 az := h
theorem ttOO_23 {az : List AV} (h : ∃ x : (List GSet), az = [(.lst 3 (x.map encGSet))] ∧ (okL (okGSet)) x) : TTOO 23 az := h
theorem ttOO_101 {az : List AV} (h : ∃ x : GSet, az = [(.str x.Column), (.lst 3 (x.Value.map encGAtom)), (.lst 1 (x.Names.map AV.str))] ∧ okGSet x) : TTOO 101 az := h
theorem ttOO_25 {az : List AV} (h : ∃ x : (List Str), az = [(.lst 1 (x.map AV.str))] ∧ (okL (okS)) x) : TTOO 25 az := h
theorem ttOO_24 {az : List AV} (h : ∃ x : (List GMut), az = [(.lst 3 (x.map encGMut))] ∧ (okL (okGMut)) x) : TTOO 24 az := h
theorem ttOO_103 {az : List AV} (h : ∃ x : GMut, az = [(.str x.Column), (.int .i64 x.Func), (.lst 3 (x.Value.map encGAtom))] ∧ okGMut x) : TTOO 103 az := h
theorem ttOO_4 {az : List AV} (h : ∃ x : Bool, az = [(.bool x)] ∧ ((fun _ => True)) x) : TTOO 4 az := h
def DDOO (t : TypeId) : Prop := t ∈ [27, 3, 9, 22, 98, 96, 145, 23, 101, 25, 24, 103, 4]
theorem cloOO_27 : Clo Try.prog TTOO DDOO 27 := by
  refine ⟨?_⟩
  unfold CloT
  rw [Try.underlying27]
  refine ⟨(And.intro (by kernel_rfl) (And.intro (by kernel_rfl) (And.intro (by kernel_rfl) (And.intro (by kernel_rfl) (And.intro (by kernel_rfl) (And.intro (by kernel_rfl) (And.intro (by kernel_rfl) (And.intro (by kernel_rfl) (show (_ : Nat) = _ from by kernel_rfl))))))))), by simp [DDOO], fun ass h => ?_⟩
  rcases ass with _ | ⟨a0, _ | ⟨a1, _ | ⟨a2, _ | ⟨a3, _ | ⟨a4, _ | ⟨a5, _ | ⟨a6, _ | ⟨a7, _ | _⟩⟩⟩⟩⟩⟩⟩⟩
  · exact absurd h (by simp [Fa])
  · exact absurd h (by simp [Fa])
  · exact absurd h (by simp [Fa])
  · exact absurd h (by simp [Fa])
  · exact absurd h (by simp [Fa])
  · exact absurd h (by simp [Fa])
  · exact absurd h (by simp [Fa])
  · exact absurd h (by simp [Fa])
  · obtain ⟨⟨x0, rfl, h0⟩, ⟨x1, rfl, h1⟩, ⟨x2, rfl, h2⟩, ⟨x3, rfl, h3⟩, ⟨x4, rfl, h4⟩, ⟨x5, rfl, h5⟩, ⟨x6, rfl, h6⟩, ⟨x7, rfl, h7⟩, _⟩ := h
    exact ttOO_27 ⟨⟨x0, x1, x2, x3, x4, x5, x6, x7⟩, rfl, ⟨h0, h1, h2, h3, h4, h5, h6, h7⟩⟩
  · exact absurd h (by simp [Fa])
theorem cloOO_3 : Clo Try.prog TTOO DDOO 3 := by
  refine ⟨?_⟩
  unfold CloT
  rw [Try.underlying3]
  exact fun n h => ttOO_3 ⟨n, rfl, h⟩
theorem cloOO_9 : Clo Try.prog TTOO DDOO 9 := by
  refine ⟨?_⟩
  unfold CloT
  rw [Try.underlying9]
  exact fun s h => ttOO_9 ⟨s, rfl, h⟩
theorem cloOO_22 : Clo Try.prog TTOO DDOO 22 := by
  refine ⟨?_⟩
  unfold CloT
  rw [Try.underlying22]
  refine ⟨by simp [DDOO], true, by kernel_rfl, (of_decide_eq_true (by kernel_rfl)), .inl rfl, fun l hl h => ?_⟩
  obtain ⟨ys, rfl, hys⟩ := map_of (enc := encGCond) (Q := okGCond) l (fun x hx => by
    rcases h x hx with ⟨_, az, rfl, y, rfl, hy⟩ | ⟨h, _⟩
    · exact ⟨y, rfl, hy⟩
    · cases h)
  rw [List.length_map] at hl
  have hc : Try.prog.cellsOf 98 = 3 := by kernel_rfl
  rw [hc]
  exact ttOO_22 ⟨ys, rfl, hl, hys⟩
theorem cloOO_98 : Clo Try.prog TTOO DDOO 98 := by
  refine ⟨?_⟩
  unfold CloT
  rw [Try.underlying98]
  refine ⟨(And.intro (by kernel_rfl) (And.intro (by kernel_rfl) (And.intro (by kernel_rfl) (show (_ : Nat) = _ from by kernel_rfl)))), by simp [DDOO], fun ass h => ?_⟩
  rcases ass with _ | ⟨a0, _ | ⟨a1, _ | ⟨a2, _ | _⟩⟩⟩
  · exact absurd h (by simp [Fa])
  · exact absurd h (by simp [Fa])
  · exact absurd h (by simp [Fa])
  · obtain ⟨⟨x0, rfl, h0⟩, ⟨x1, rfl, h1⟩, ⟨x2, rfl, h2⟩, _⟩ := h
    exact ttOO_98 ⟨⟨x0, x1, x2⟩, rfl, ⟨h0, h1, h2⟩⟩
  · exact absurd h (by simp [Fa])
theorem cloOO_96 : Clo Try.prog TTOO DDOO 96 := by
  refine ⟨?_⟩
  unfold CloT
  rw [Try.underlying96]
  refine ⟨by simp [DDOO], true, by kernel_rfl, (of_decide_eq_true (by kernel_rfl)), .inl rfl, fun l hl h => ?_⟩
  obtain ⟨ys, rfl, hys⟩ := map_of (enc := encGAtom) (Q := okGAtom) l (fun x hx => by
    rcases h x hx with ⟨_, az, rfl, y, rfl, hy⟩ | ⟨h, _⟩
    · exact ⟨y, rfl, hy⟩
    · cases h)
  rw [List.length_map] at hl
  have hc : Try.prog.cellsOf 145 = 3 := by kernel_rfl
  rw [hc]
  exact ttOO_96 ⟨ys, rfl, hl, hys⟩
theorem cloOO_145 : Clo Try.prog TTOO DDOO 145 := by
  refine ⟨?_⟩
  unfold CloT
  rw [Try.underlying145]
  refine ⟨(And.intro (by kernel_rfl) (And.intro (by kernel_rfl) (And.intro (by kernel_rfl) (show (_ : Nat) = _ from by kernel_rfl)))), by simp [DDOO], fun ass h => ?_⟩
  rcases ass with _ | ⟨a0, _ | ⟨a1, _ | ⟨a2, _ | _⟩⟩⟩
  · exact absurd h (by simp [Fa])
  · exact absurd h (by simp [Fa])
  · exact absurd h (by simp [Fa])
  · obtain ⟨⟨x0, rfl, h0⟩, ⟨x1, rfl, h1⟩, ⟨x2, rfl, h2⟩, _⟩ := h
    exact ttOO_145 ⟨⟨x0, x1, x2⟩, rfl, ⟨h0, h1, h2⟩⟩
  · exact absurd h (by simp [Fa])
theorem cloOO_23 : Clo Try.prog TTOO DDOO 23 := by
  refine ⟨?_⟩
  unfold CloT
  rw [Try.underlying23]
  refine ⟨by simp [DDOO], true, by kernel_rfl, (of_decide_eq_true (by kernel_rfl)), .inl rfl, fun l hl h => ?_⟩
  obtain ⟨ys, rfl, hys⟩ := map_of (enc := encGSet) (Q := okGSet) l (fun x hx => by
    rcases h x hx with ⟨_, az, rfl, y, rfl, hy⟩ | ⟨h, _⟩
    · exact ⟨y, rfl, hy⟩
    · cases h)
  rw [List.length_map] at hl
  have hc : Try.prog.cellsOf 101 = 3 := by kernel_rfl
  rw [hc]
  exact ttOO_23 ⟨ys, rfl, hl, hys⟩
theorem cloOO_101 : Clo Try.prog TTOO DDOO 101 := by
  refine ⟨?_⟩
  unfold CloT
  rw [Try.underlying101]
  refine ⟨(And.intro (by kernel_rfl) (And.intro (by kernel_rfl) (And.intro (by kernel_rfl) (show (_ : Nat) = _ from by kernel_rfl)))), by simp [DDOO], fun ass h => ?_⟩
  rcases ass with _ | ⟨a0, _ | ⟨a1, _ | ⟨a2, _ | _⟩⟩⟩
  · exact absurd h (by simp [Fa])
  · exact absurd h (by simp [Fa])
  · exact absurd h (by simp [Fa])
  · obtain ⟨⟨x0, rfl, h0⟩, ⟨x1, rfl, h1⟩, ⟨x2, rfl, h2⟩, _⟩ := h
    exact ttOO_101 ⟨⟨x0, x1, x2⟩, rfl, ⟨h0, h1, h2⟩⟩
  · exact absurd h (by simp [Fa])
theorem cloOO_25 : Clo Try.prog TTOO DDOO 25 := by
  refine ⟨?_⟩
  unfold CloT
  rw [Try.underlying25]
  refine ⟨by simp [DDOO], false, by kernel_rfl, (of_decide_eq_true (by kernel_rfl)), .inr (by kernel_rfl), fun l hl h => ?_⟩
  obtain ⟨ys, rfl, hys⟩ := map_of (enc := AV.str) (Q := okS) l (fun x hx => by
    rcases h x hx with ⟨h, _⟩ | ⟨_, y, hy, hy2⟩
    · cases h
    · simp only [List.cons.injEq, and_true] at hy
      exact ⟨y, hy, hy2⟩)
  rw [List.length_map] at hl
  have hc : Try.prog.cellsOf 9 = 1 := by kernel_rfl
  rw [hc]
  exact ttOO_25 ⟨ys, rfl, hl, hys⟩
theorem cloOO_24 : Clo Try.prog TTOO DDOO 24 := by
  refine ⟨?_⟩
  unfold CloT
  rw [Try.underlying24]
  refine ⟨by simp [DDOO], true, by kernel_rfl, (of_decide_eq_true (by kernel_rfl)), .inl rfl, fun l hl h => ?_⟩
  obtain ⟨ys, rfl, hys⟩ := map_of (enc := encGMut) (Q := okGMut) l (fun x hx => by
    rcases h x hx with ⟨_, az, rfl, y, rfl, hy⟩ | ⟨h, _⟩
    · exact ⟨y, rfl, hy⟩
    · cases h)
  rw [List.length_map] at hl
  have hc : Try.prog.cellsOf 103 = 3 := by kernel_rfl
  rw [hc]
  exact ttOO_24 ⟨ys, rfl, hl, hys⟩
theorem cloOO_103 : Clo Try.prog TTOO DDOO 103 := by
  refine ⟨?_⟩
  unfold CloT
  rw [Try.underlying103]
  refine ⟨(And.intro (by kernel_rfl) (And.intro (by kernel_rfl) (And.intro (by kernel_rfl) (show (_ : Nat) = _ from by kernel_rfl)))), by simp [DDOO], fun ass h => ?_⟩
  rcases ass with _ | ⟨a0, _ | ⟨a1, _ | ⟨a2, _ | _⟩⟩⟩
  · exact absurd h (by simp [Fa])
  · exact absurd h (by simp [Fa])
  · exact absurd h (by simp [Fa])
  · obtain ⟨⟨x0, rfl, h0⟩, ⟨x1, rfl, h1⟩, ⟨x2, rfl, h2⟩, _⟩ := h
    exact ttOO_103 ⟨⟨x0, x1, x2⟩, rfl, ⟨h0, h1, h2⟩⟩
  · exact absurd h (by simp [Fa])
theorem cloOO_4 : Clo Try.prog TTOO DDOO 4 := by
  refine ⟨?_⟩
  unfold CloT
  rw [Try.underlying4]
  exact fun b => ttOO_4 ⟨b, rfl, trivial⟩
theorem cloOO : ∀ t, DDOO t → Clo Try.prog TTOO DDOO t := by
  intro t ht
  rcases List.mem_cons.1 ht with h | ht
  · rw [h]; exact cloOO_27
  rcases List.mem_cons.1 ht with h | ht
  · rw [h]; exact cloOO_3
  rcases List.mem_cons.1 ht with h | ht
  · rw [h]; exact cloOO_9
  rcases List.mem_cons.1 ht with h | ht
  · rw [h]; exact cloOO_22
  rcases List.mem_cons.1 ht with h | ht
  · rw [h]; exact cloOO_98
  rcases List.mem_cons.1 ht with h | ht
  · rw [h]; exact cloOO_96
  rcases List.mem_cons.1 ht with h | ht
  · rw [h]; exact cloOO_145
  rcases List.mem_cons.1 ht with h | ht
  · rw [h]; exact cloOO_23
  rcases List.mem_cons.1 ht with h | ht
  · rw [h]; exact cloOO_101
  rcases List.mem_cons.1 ht with h | ht
  · rw [h]; exact cloOO_25
  rcases List.mem_cons.1 ht with h | ht
  · rw [h]; exact cloOO_24
  rcases List.mem_cons.1 ht with h | ht
  · rw [h]; exact cloOO_103
  rcases List.mem_cons.1 ht with h | ht
  · rw [h]; exact cloOO_4
  exact absurd ht List.not_mem_nil
end Go.R
namespace Go.Proofs.Ythejoafcjkoahaa.fnExactOpOK
open Go.ChangeShapes Go.WideShapes Go.ChangeAt Go.RowKit Go.R
open Go.ChangeMaps (open_string shut_string)
set_option linter.unusedVariables false

theorem own : ownKnob Try.prog.godebug = none := by kernel_rfl
theorem laidOut : laidOutB Try.prog = true := by kernel_rfl

set_option maxRecDepth 100000 in
theorem lifted (os : Os) (started : os.Started) (H : Type) (enc : TypeId × Value → H) :
    ReturnsInHanded {} Try.checked os 3 .any (Rows.fnExactOpOKSpec.pre6 enc Try.prog Try.f3 Rows.fnExactOpOKRow.domain false) (Rows.fnExactOpOKSpec.post enc Try.prog Try.f3 false true false false) := by
  refine returnsInHanded_of_change (C := Try.checked) own started (by kernel_rfl) Try.func3
    (ChangeSpec.witness6 (enc := enc) (C := Try.checked) false ⟨#[], #[.agg #[.int .i64 0, .string ByteArray.empty, .string ByteArray.empty, .slice none 0 0, .slice none 0 0, .slice none 0 0, .slice none 0 0, .bool false]], []⟩ 8 (by kernel_rfl) (by kernel_rfl) (by kernel_rfl) (by kernel_rfl)) ?_
  intro W base args ds gs before hval0 hW hcnd _
  have hval : ∀ (j : Nat) t v, Try.f3.params[j]? = some t → args[j]? = some v → Value.okWide Try.prog W .any base t v := hval0
  have hW' := hW
  obtain ⟨p, q, hA0, hV, rfl, hfz, hnd⟩ := hW
  have hA : DataW.TrodAll enc Try.prog W 0 (fun _ => true) true Try.f3.params.toList args.toList ds p := hA0
  rw [Try.params3] at hA hval
  obtain ⟨v0, vs0, d0, ds0, p0, q0, hargs, rfl, rfl, h0, r0⟩ := trodAll_cons hA
  obtain ⟨rfl, rfl, rfl⟩ := trodAll_nil r0
  obtain rfl : args = #[v0] := by cases args; simp_all
  obtain ⟨rfl, rfl⟩ := trodVars_none hV
  have k0 := h0
  have lt0 : ∀ x ∈ p0, x.block < W.heap.size := by obtain ⟨m, hm⟩ := k0; exact DataW.trod_lt m _ _ _ hm
  obtain ⟨az0, fp0, g0, t0⟩ := openA cloOO Try.underlying27 (by simp [DDOO]) (hval 0 27 v0 rfl rfl) h0
  obtain ⟨x0, rfl, ok0⟩ := t0
  clear hA0 hval0
  have hc := w_laws_FnExactOpOK x0 true (law_FnExactOpOK x0 ok0)
  refine (flat_true hc (RepVs.cons g0 RepVs.nil)).mono fun e W' ⟨he, bel⟩ => ?_
  subst he
  exact ⟨_, rfl, _, _, _, [], _, [], hW', trodAll_mk1 (shut_bool Try.underlying4 _), (trodAll_cons_mk (Below.trod laidOut (by kernel_rfl) (of_decide_eq_true (by kernel_rfl)) k0 bel lt0) trodAll_mk0), rfl, bel.frame _, fun h => by cases h⟩

theorem over : Rows.fnExactOpOKRow.holds Try.pinned (OpenSpec.ofChange Rows.fnExactOpOKSpec) :=
  OpenClaim.holds_of_wide 3 Try.f3 rfl rfl rfl rfl rfl rfl rfl ⟨rfl, rfl, rfl, rfl, rfl⟩ rfl rfl rfl rfl rfl (by kernel_rfl) Try.func3 (by kernel_rfl)
    (of_decide_eq_true (by kernel_rfl)) (by unfold Func.isWrapper; first | (rw [if_pos (by decide +kernel)]; kernel_rfl) | (rw [if_neg (by decide +kernel)]; exact ⟨rfl, rfl⟩))
    (fun os started H enc _ => lifted os started H enc)

theorem proved : Rows.FnExactOpOKSaid := over
#print axioms proved
end Go.Proofs.Ythejoafcjkoahaa.fnExactOpOK
