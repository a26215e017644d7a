/- 'FnExactReplyJson': for every input the law returns true, and each argument reads behind the call as it read before. No condition. -/
import Derived.Test.YtgmkibkmcohikaaRJL
import Derived.WalkKit
import Derived.ProofKit
import Derived.OpenShut
import Derived.ShutString
import Derived.ChangeOld
import Derived.Below
set_option linter.all false
namespace Go.R
open Go Go.Proofs
set_option linter.unusedSimpArgs false
set_option maxHeartbeats 8000000
def TTRJ (t : TypeId) (az : List AV) : Prop :=
  bif Nat.beq t 3 then ∃ x : Int, az = [(.int .i64 x)] ∧ (okI .i64) x else
  bif Nat.beq t 77 then ∃ x : GJson, az = [(.int .i64 x.Kind), (.int .i64 x.N), (.str x.T), (.lst 1 (x.Keys.map AV.str)), (.lst 5 (x.Items.map encGJson))] ∧ okGJson x else
  bif Nat.beq t 9 then ∃ x : Str, az = [(.str x)] ∧ (okS) x else
  bif Nat.beq t 52 then ∃ x : (List Str), az = [(.lst 1 (x.map AV.str))] ∧ (okL (okS)) x else
  bif Nat.beq t 75 then ∃ x : (List GJson), az = [(.lst 5 (x.map encGJson))] ∧ (okL (okGJson)) x else
  False
theorem ttRJ_3 {az : List AV} (h : ∃ x : Int, az = [(.int .i64 x)] ∧ (okI .i64) x) : TTRJ 3 az := h
theorem ttRJ_77 {az : List AV} (h : ∃ x : GJson, az = [(.int .i64 x.Kind), (.int .i64 x.N), (.str x.T), (.lst 1 (x.Keys.map AV.str)), (.lst 5 (x.Items.map encGJson))] ∧ okGJson x) : TTRJ 77 az := h
theorem ttRJ_9 {az : List AV} (h : ∃ x : Str, az = [(.str x)] ∧ (okS) x) : TTRJ 9 az := h
theorem ttRJ_52 {az : List AV} (h : ∃ x : (List Str), az = [(.lst 1 (x.map AV.str))] ∧ (okL (okS)) x) : TTRJ 52 az := h
theorem ttRJ_75 {az : List AV} (h : ∃ x : (List GJson), az = [(.lst 5 (x.map encGJson))] ∧ (okL (okGJson)) x) : TTRJ 75 az := h
def DDRJ (t : TypeId) : Prop := t ∈ [3, 77, 9, 52, 75]
theorem cloRJ_3 : Clo Try.prog TTRJ DDRJ 3 := by
  refine ⟨?_⟩
  unfold CloT
  rw [Try.underlying3]
  exact fun n h => ttRJ_3 ⟨n, rfl, h⟩
theorem cloRJ_77 : Clo Try.prog TTRJ DDRJ 77 := by
  refine ⟨?_⟩
  unfold CloT
  rw [Try.underlying77]
  refine ⟨(And.intro (by kernel_rfl) (And.intro (by kernel_rfl) (And.intro (by kernel_rfl) (And.intro (by kernel_rfl) (And.intro (by kernel_rfl) (show (_ : Nat) = _ from by kernel_rfl)))))), by simp [DDRJ], fun ass h => ?_⟩
  rcases ass with _ | ⟨a0, _ | ⟨a1, _ | ⟨a2, _ | ⟨a3, _ | ⟨a4, _ | _⟩⟩⟩⟩⟩
  · exact absurd h (by simp [Fa])
  · exact absurd h (by simp [Fa])
  · exact absurd h (by simp [Fa])
  · exact absurd h (by simp [Fa])
  · exact absurd h (by simp [Fa])
  · obtain ⟨⟨x0, rfl, h0⟩, ⟨x1, rfl, h1⟩, ⟨x2, rfl, h2⟩, ⟨x3, rfl, h3⟩, ⟨x4, rfl, h4⟩, _⟩ := h
    exact ttRJ_77 ⟨⟨x0, x1, x2, x3, x4⟩, rfl, .mk h0 h1 h2 h3 h4.1 h4.2⟩
  · exact absurd h (by simp [Fa])
theorem cloRJ_9 : Clo Try.prog TTRJ DDRJ 9 := by
  refine ⟨?_⟩
  unfold CloT
  rw [Try.underlying9]
  exact fun s h => ttRJ_9 ⟨s, rfl, h⟩
theorem cloRJ_52 : Clo Try.prog TTRJ DDRJ 52 := by
  refine ⟨?_⟩
  unfold CloT
  rw [Try.underlying52]
  refine ⟨by simp [DDRJ], false, by kernel_rfl, (of_decide_eq_true (by kernel_rfl)), .inr (by kernel_rfl), fun l hl h => ?_⟩
  obtain ⟨ys, rfl, hys⟩ := map_of (enc := AV.str) (Q := okS) l (fun x hx => by
    rcases h x hx with ⟨h, _⟩ | ⟨_, y, hy, hy2⟩
    · cases h
    · simp only [List.cons.injEq, and_true] at hy
      exact ⟨y, hy, hy2⟩)
  rw [List.length_map] at hl
  have hc : Try.prog.cellsOf 9 = 1 := by kernel_rfl
  rw [hc]
  exact ttRJ_52 ⟨ys, rfl, hl, hys⟩
theorem cloRJ_75 : Clo Try.prog TTRJ DDRJ 75 := by
  refine ⟨?_⟩
  unfold CloT
  rw [Try.underlying75]
  refine ⟨by simp [DDRJ], true, by kernel_rfl, (of_decide_eq_true (by kernel_rfl)), .inl rfl, fun l hl h => ?_⟩
  obtain ⟨ys, rfl, hys⟩ := map_of (enc := encGJson) (Q := okGJson) l (fun x hx => by
    rcases h x hx with ⟨_, az, rfl, y, rfl, hy⟩ | ⟨h, _⟩
    · exact ⟨y, (encGJson_eq y).symm, hy⟩
    · cases h)
  rw [List.length_map] at hl
  have hc : Try.prog.cellsOf 77 = 5 := by kernel_rfl
  rw [hc]
  exact ttRJ_75 ⟨ys, rfl, hl, hys⟩
theorem cloRJ : ∀ t, DDRJ t → Clo Try.prog TTRJ DDRJ t := by
  intro t ht
  rcases List.mem_cons.1 ht with h | ht
  · rw [h]; exact cloRJ_3
  rcases List.mem_cons.1 ht with h | ht
  · rw [h]; exact cloRJ_77
  rcases List.mem_cons.1 ht with h | ht
  · rw [h]; exact cloRJ_9
  rcases List.mem_cons.1 ht with h | ht
  · rw [h]; exact cloRJ_52
  rcases List.mem_cons.1 ht with h | ht
  · rw [h]; exact cloRJ_75
  exact absurd ht List.not_mem_nil
end Go.R
namespace Go.Proofs.Ytgmkibkmcohikaa.fnExactReplyJson
open Go.ChangeShapes Go.WideShapes Go.ChangeAt Go.RowKit Go.R
open Go.ChangeMaps (open_string shut_string)
set_option linter.unusedVariables false

theorem own : ownKnob Try.prog.godebug = none := by kernel_rfl
theorem laidOut : laidOutB Try.prog = true := by kernel_rfl

set_option maxRecDepth 100000 in
theorem lifted (os : Os) (started : os.Started) (H : Type) (enc : TypeId × Value → H) :
    ReturnsInHanded {} Try.checked os 12 .any (Rows.fnExactReplyJsonSpec.pre6 enc Try.prog Try.f12 Rows.fnExactReplyJsonRow.domain false) (Rows.fnExactReplyJsonSpec.post enc Try.prog Try.f12 false true false false) := by
  refine returnsInHanded_of_change (C := Try.checked) own started (by kernel_rfl) Try.func12
    (ChangeSpec.witness6 (enc := enc) (C := Try.checked) false ⟨#[], #[.int .i64 0, .int .i64 0, .agg #[.int .i64 0, .int .i64 0, .string ByteArray.empty, .slice none 0 0, .slice none 0 0]], []⟩ 8 (by kernel_rfl) (by kernel_rfl) (by kernel_rfl) (by kernel_rfl)) ?_
  intro W base args ds gs before hval0 hW hcnd _
  have hval : ∀ (j : Nat) t v, Try.f12.params[j]? = some t → args[j]? = some v → Value.okWide Try.prog W .any base t v := hval0
  have hW' := hW
  obtain ⟨p, q, hA0, hV, rfl, hfz, hnd⟩ := hW
  have hA : DataW.TrodAll enc Try.prog W 0 (fun _ => true) true Try.f12.params.toList args.toList ds p := hA0
  rw [Try.params12] at hA hval
  obtain ⟨v0, vs0, d0, ds0, p0, q0, hargs, rfl, rfl, h0, r0⟩ := trodAll_cons hA
  obtain ⟨v1, vs1, d1, ds1, p1, q1, rfl, rfl, rfl, h1, r1⟩ := trodAll_cons r0
  obtain ⟨v2, vs2, d2, ds2, p2, q2, rfl, rfl, rfl, h2, r2⟩ := trodAll_cons r1
  obtain ⟨rfl, rfl, rfl⟩ := trodAll_nil r2
  obtain rfl : args = #[v0, v1, v2] := by cases args; simp_all
  obtain ⟨rfl, rfl⟩ := trodVars_none hV
  have k0 := h0
  have lt0 : ∀ x ∈ p0, x.block < W.heap.size := by obtain ⟨m, hm⟩ := k0; exact DataW.trod_lt m _ _ _ hm
  obtain ⟨a0, fp0, g0, t0⟩ := openC cloRJ (by rw [Try.underlying3]; simp) (by simp [DDRJ]) (hval 0 3 v0 rfl rfl) h0
  obtain ⟨x0, e0, ok0⟩ := t0
  simp only [List.cons.injEq, and_true] at e0
  subst e0
  have k1 := h1
  have lt1 : ∀ x ∈ p1, x.block < W.heap.size := by obtain ⟨m, hm⟩ := k1; exact DataW.trod_lt m _ _ _ hm
  obtain ⟨a1, fp1, g1, t1⟩ := openC cloRJ (by rw [Try.underlying3]; simp) (by simp [DDRJ]) (hval 1 3 v1 rfl rfl) h1
  obtain ⟨x1, e1, ok1⟩ := t1
  simp only [List.cons.injEq, and_true] at e1
  subst e1
  have k2 := h2
  have lt2 : ∀ x ∈ p2, x.block < W.heap.size := by obtain ⟨m, hm⟩ := k2; exact DataW.trod_lt m _ _ _ hm
  obtain ⟨az2, fp2, g2, t2⟩ := openA cloRJ Try.underlying77 (by simp [DDRJ]) (hval 2 77 v2 rfl rfl) h2
  obtain ⟨x2, rfl, ok2⟩ := t2
  clear hA0 hval0
  have hc := w_laws_FnExactReplyJson x0 x1 x2 true (law_FnExactReplyJson x0 x1 x2 ok0 ok1 ok2)
  rw [encGJson_eq x2] at hc
  refine (flat_true hc (RepVs.cons g0 (RepVs.cons g1 (RepVs.cons g2 RepVs.nil)))).mono fun e W' ⟨he, bel⟩ => ?_
  subst he
  exact ⟨_, rfl, _, _, _, [], _, [], hW', trodAll_mk1 (shut_bool Try.underlying4 _), (trodAll_cons_mk (Below.trod laidOut (by kernel_rfl) (of_decide_eq_true (by kernel_rfl)) k0 bel lt0) (trodAll_cons_mk (Below.trod laidOut (by kernel_rfl) (of_decide_eq_true (by kernel_rfl)) k1 bel lt1) (trodAll_cons_mk (Below.trod laidOut (by kernel_rfl) (of_decide_eq_true (by kernel_rfl)) k2 bel lt2) trodAll_mk0))), rfl, bel.frame _, fun h => by cases h⟩

theorem over : Rows.fnExactReplyJsonRow.holds Try.pinned (OpenSpec.ofChange Rows.fnExactReplyJsonSpec) :=
  OpenClaim.holds_of_wide 12 Try.f12 rfl rfl rfl rfl rfl rfl rfl ⟨rfl, rfl, rfl, rfl, rfl⟩ rfl rfl rfl rfl rfl (by kernel_rfl) Try.func12 (by kernel_rfl)
    (of_decide_eq_true (by kernel_rfl)) (by unfold Func.isWrapper; first | (rw [if_pos (by decide +kernel)]; kernel_rfl) | (rw [if_neg (by decide +kernel)]; exact ⟨rfl, rfl⟩))
    (fun os started H enc _ => lifted os started H enc)

theorem proved : Rows.FnExactReplyJsonSaid := over
#print axioms proved
end Go.Proofs.Ytgmkibkmcohikaa.fnExactReplyJson
