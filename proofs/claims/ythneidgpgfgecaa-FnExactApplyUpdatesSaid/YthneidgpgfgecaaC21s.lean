/- Of the call's own heap some objects are kept, in an order that is told. -/
import Derived.Test.YthneidgpgfgecaaC21g
set_option linter.all false
namespace Go.R
open Go Go.RowKit
set_option linter.unusedVariables false
set_option linter.unusedSimpArgs false

/-- which objects are kept: the first n0 stay where they are -/
def preOK : Nat → Nat → List Nat → Bool
  | 0, _, _ => true
  | n + 1, i, j :: js => Nat.beq j i && preOK n (i + 1) js
  | _ + 1, _, [] => false
def notIn (x : Nat) : List Nat → Bool
  | [] => true
  | y :: ys => !(Nat.beq x y) && notIn x ys
def ndOK : List Nat → Bool
  | [] => true
  | x :: xs => notIn x xs && ndOK xs
def ltOK (len : Nat) : List Nat → Bool
  | [] => true
  | x :: xs => Nat.ble (x + 1) len && ltOK len xs
def keepOK (n0 len : Nat) (js : List Nat) : Bool := preOK n0 0 js && ndOK js && ltOK len js
theorem preOK_iff : ∀ (n i : Nat) (js : List Nat), preOK n i js = true → js.take n = List.range' i n ∧ n ≤ js.length
  | 0, i, js, _ => by simp
  | n + 1, i, [], h => by simp [preOK] at h
  | n + 1, i, j :: js, h => by
    simp only [preOK, Bool.and_eq_true] at h
    obtain ⟨h1, h2⟩ := preOK_iff n (i + 1) js h.2
    have : j = i := Nat.eq_of_beq_eq_true h.1
    subst this
    simp [h1, h2, List.range'_succ]
theorem notIn_iff {x : Nat} : ∀ {ys : List Nat}, notIn x ys = true → x ∉ ys
  | [], _ => by simp
  | y :: ys, h => by
    simp only [notIn, Bool.and_eq_true, Bool.not_eq_true'] at h
    have h1 := notIn_iff h.2
    have h2 : x ≠ y := Nat.ne_of_beq_eq_false h.1
    simp [h1, h2]
theorem ndOK_iff : ∀ {js : List Nat}, ndOK js = true → js.Nodup
  | [], _ => by simp
  | j :: js, h => by
    simp only [ndOK, Bool.and_eq_true] at h
    exact List.nodup_cons.2 ⟨notIn_iff h.1, ndOK_iff h.2⟩
theorem ltOK_iff {len : Nat} : ∀ {js : List Nat}, ltOK len js = true → ∀ j ∈ js, j < len
  | [], _ => by simp
  | x :: js, h => by
    simp only [ltOK, Bool.and_eq_true] at h
    intro j hj
    rcases List.mem_cons.1 hj with rfl | hj
    · exact Nat.le_of_ble_eq_true h.1
    · exact ltOK_iff h.2 j hj

section
variable {C : Ctx} {σ : Sg} {φ : Nat → List Nat} {h : List AObj} {w : World} {js : List Nat}

theorem keep_ok {K : Nat → Prop} (hn : js.Nodup) (hin : ∀ j ∈ js, j < h.length) (b : Nat) (h1 : K b) (h2 : ¬ liveAt h σ b) : K b ∧ ¬ liveAt (subH h js) (subσ σ js) b :=
  ⟨h1, fun hl => h2 (sub_liveAt hn hin hl)⟩

theorem keep_heap (hn : js.Nodup) (hin : ∀ j ∈ js, j < h.length) (hr : HeapRel C σ φ h w) : HeapRel C (subσ σ js) (subφ φ js) (subH h js) w where
  obj k y hk := by
    obtain ⟨o, x, g1, g2, rfl⟩ := (subH_get hin).1 hk
    have hob := hr.obj o x g2
    have e1 : subσ σ js k = σ o := by simp only [subσ, g1]
    have e2 : subφ φ js k = φ o := by simp only [subφ, g1]
    cases x with
    | dead => trivial
    | box sz v =>
      obtain ⟨g, cur, e, h1, h2, h3, h4⟩ := hob
      exact ⟨g, cur, e, by rw [e1]; exact h1, h2, h3, ren_cellsv (sub_ren hn hin) (keep_ok hn hin) _ _ h4⟩
    | row sz l =>
      obtain ⟨h0, hob⟩ := hob
      refine ⟨h0, ?_⟩
      rw [e1, e2]
      cases hs : σ o with
      | none => rw [hs] at hob; exact hob
      | some p =>
        rw [hs] at hob
        obtain ⟨h1, cur, e, h2, h3, h4, h5⟩ := hob
        exact ⟨h1, cur, e, h2, h3, h4, fun b hb => keep_ok hn hin b (h5 b hb).1 (h5 b hb).2⟩
    | rowx sz l i el =>
      obtain ⟨hz, hmm, hi, g, c, cur, e, f1, f2, k1, k2, k3, k4, k5, k6, k7, k7', k8, k9⟩ := hob
      exact ⟨hz, hmm, hi, g, c, cur, e, f1, f2, by rw [e1]; exact k1, k2, k3, k4, k5, ren_cellsv (sub_ren hn hin) (keep_ok hn hin) _ _ k6, k7, by rw [ren_cells_len]; exact k7', by rw [e2]; exact k8, fun b hb => by rw [e2] at hb; exact keep_ok hn hin b (k9 b hb).1 (k9 b hb).2⟩
  inj k k' y y' b c c' hk hy hk' hy' hs hs' := by
    obtain ⟨o, x, g1, g2, rfl⟩ := (subH_get hin).1 hk
    obtain ⟨o', x', g1', g2', rfl⟩ := (subH_get hin).1 hk'
    rw [renO_live] at hy hy'
    simp only [subσ, g1] at hs
    simp only [subσ, g1'] at hs'
    have := hr.inj o o' x x' b c c' g2 hy g2' hy' hs hs'
    subst this
    have e1 := (subF_spec hn).2 g1
    have e2 := (subF_spec hn).2 g1'
    rw [e1] at e2
    exact Option.some.inj e2
  base k y b c hk hy hs := by
    obtain ⟨o, x, g1, g2, rfl⟩ := (subH_get hin).1 hk
    rw [renO_live] at hy
    simp only [subσ, g1] at hs
    exact hr.base o x b c g2 hy hs
  deepx hdm k y hk hy := by
    obtain ⟨o, x, g1, g2, rfl⟩ := (subH_get hin).1 hk
    rw [renO_rw] at hy
    have e2 : subφ φ js k = φ o := by simp only [subφ, g1]
    obtain ⟨d1, d2, d3⟩ := hr.deepx hdm o x g2 hy
    rw [e2]
    refine ⟨d1, d2, ?_⟩
    intro k' y' hk' hy' hne b hb
    obtain ⟨o', x', g1', g2', rfl⟩ := (subH_get hin).1 hk'
    rw [renO_rw] at hy'
    have e2' : subφ φ js k' = φ o' := by simp only [subφ, g1']
    rw [e2']
    refine d3 o' x' g2' hy' (fun he => ?_) b hb
    subst he
    have e1 := (subF_spec hn).2 g1
    have e3 := (subF_spec hn).2 g1'
    rw [e1] at e3
    exact hne (Option.some.inj e3).symm

theorem keep_ev {n0 : Nat} {σ0 : Sg} {h0 : List AObj} {w0 : World} (hn : js.Nodup) (hin : ∀ j ∈ js, j < h.length) (hp : js.take n0 = List.range n0) (hle : n0 ≤ js.length) (h0n : h0.length ≤ n0) (ev : EvX C σ0 h0 w0 σ h w) : EvX C σ0 h0 w0 (subσ σ js) (subH h js) w where
  obj o x ho hx := by
    have hlt : o < n0 := by have := (List.getElem?_eq_some_iff.1 ho).1; omega
    have hj : js[o]? = some o := by
      have : (js.take n0)[o]? = some o := by rw [hp]; simp [hlt]
      rw [List.getElem?_take_of_lt hlt] at this
      exact this
    have key : ∀ y, h[o]? = some y → (subH h js)[o]? = some (renO (subF js) y) ∧ subσ σ js o = σ o := fun y hy => ⟨(subH_get hin).2 ⟨o, y, hj, hy, rfl⟩, by simp only [subσ, hj]⟩
    rcases ev.obj o x ho hx with hd | ⟨e, x', hx', hs⟩
    · exact .inl (key _ hd).1
    · obtain ⟨k1, k2⟩ := key _ hx'
      refine .inr ⟨k2.trans e, _, k1, ?_⟩
      cases x <;> cases x' <;> simp_all [sameShape, renO]
  gone o ho := by
    have hlt : o < n0 := by have := (List.getElem?_eq_some_iff.1 ho).1; omega
    have hj : js[o]? = some o := by
      have : (js.take n0)[o]? = some o := by rw [hp]; simp [hlt]
      rw [List.getElem?_take_of_lt hlt] at this
      exact this
    exact (subH_get hin).2 ⟨o, .dead, hj, ev.gone o ho, rfl⟩
  live b hb hl := ev.live b hb (sub_liveAt hn hin hl)
  blk := ev.blk
  size := ev.size
end

/-- **WHAT IS KNOWN IS SAID ANEW**: ghost steps, then some objects are kept. -/
def fitL (f : Nat → Option Nat) (t : Nat → AV) : List (Nat × AV) → Prop
  | [] => True
  | (k, v) :: r => Le (ren f (t k)) v ∧ fitL f t r
theorem fitL_all {f : Nat → Option Nat} {t : Nat → AV} : ∀ {bs : List (Nat × AV)}, fitL f t bs → ∀ p ∈ bs, Le (ren f (t p.1)) p.2
  | [], _, p, hp => by simp at hp
  | (k, v) :: r, hf, p, hp => by
    simp only [fitL] at hf
    rcases List.mem_cons.1 hp with rfl | hp
    · exact hf.1
    · exact fitL_all hf.2 p hp
def CutTo (m : Bool) (n0 : Nat) (t : Nat → AV) (h : List AObj) (s : List (Nat × AV) × List AObj) : Prop :=
  ∃ gs js t' h', ghs m t h gs = some (t', h') ∧ keepOK n0 h'.length js = true ∧ fitL (subF js) t' s.1 ∧ LeH (subH h' js) s.2

section
variable {C : Ctx} {w0 : World} {σ0 : Sg} {h0 : List AObj} {N n0 : Nat}
theorem keepOK_iff {len : Nat} {js : List Nat} (h : keepOK n0 len js = true) : js.take n0 = List.range n0 ∧ n0 ≤ js.length ∧ js.Nodup ∧ ∀ j ∈ js, j < len := by
  simp only [keepOK, Bool.and_eq_true] at h
  obtain ⟨h1, h2⟩ := preOK_iff _ _ _ h.1.1
  exact ⟨by rw [h1, List.range_eq_range'], h2, ndOK_iff h.1.2, ltOK_iff h.2⟩

theorem CutTo.rel {t : Nat → AV} {h : List AObj} {a : Act} {w : World} {s : List (Nat × AV) × List AObj} (hok : ∀ b, C.mine b → C.ok b) (hn : h0.length ≤ n0) (hs : St C w0 σ0 h0 N t h a w) (hf : CutTo C.mm n0 t h s) :
    ∃ F σ φ, FrX C w F ∧ HeapRel (C.frz F) σ φ s.2 w ∧ EvX C σ0 h0 w0 σ s.2 w ∧ ∀ p ∈ s.1, RV (C.frz F) σ s.2 w p.2 (a.tmps.getD p.1 Go.undef) := by
  obtain ⟨gs, js, t', h', h1, h2, f1, f2⟩ := hf
  obtain ⟨k1, k2, k3, k4⟩ := keepOK_iff h2
  have hs' := ghs_st hok hs h1
  obtain ⟨F, σ, φ, g0, g1, g2, g3⟩ := hs'.rel
  refine ⟨F, _, _, g0, f2.heap (keep_heap k3 k4 g1), (keep_ev k3 k4 k1 k2 hn g2).trans f2.ev.x, fun p hp => ?_⟩
  exact f2.ev.rv _ _ (Le.rv (fitL_all f1 p hp) _ (ren_rv (sub_ren k3 k4) (keep_ok k3 k4) _ _ (g3 p.1)))
end
end Go.R
