/- Objects that are dead are put away, and the others numbered anew. -/
import Derived.Test.YthneidgpgfgecaaC15L
set_option linter.all false
namespace Go.R
open Go Go.RowKit
set_option linter.unusedVariables false
set_option linter.unusedSimpArgs false

mutual
def ren (f : Nat → Option Nat) : AV → AV
  | .own o lo n => match f o with
    | some o' => .own o' lo n
    | none => .undef
  | .ptr o i k => match f o with
    | some o' => .ptr o' i k
    | none => .undef
  | .agg as => .agg (rens f as)
  | .tup as => .tup (rens f as)
  | .fn g as => .fn g (rens f as)
  | a => a
def rens (f : Nat → Option Nat) : List AV → List AV
  | [] => []
  | a :: as => ren f a :: rens f as
end

def kept (n0 : Nat) : List AObj → Nat → List Nat
  | [], _ => []
  | x :: xs, i => match decide (i < n0) || x.isLive with
    | true => i :: kept n0 xs (i + 1)
    | false => kept n0 xs (i + 1)
def posIn : List Nat → Nat → Nat → Option Nat
  | [], _, _ => none
  | i :: is, j, o => if o = i then some j else posIn is (j + 1) o
def renO (f : Nat → Option Nat) : AObj → AObj
  | .box z v => .box z (ren f v)
  | .rowx z l i el => .rowx z l i (ren f el)
  | x => x
def gcF (n0 : Nat) (h : List AObj) : Nat → Option Nat := posIn (kept n0 h 0) 0
def gcV (n0 : Nat) (h : List AObj) (a : AV) : AV := ren (gcF n0 h) a
def gcH (n0 : Nat) (h : List AObj) : List AObj := (kept n0 h 0).map fun i => renO (gcF n0 h) (h.getD i .dead)

theorem kept_mem {n0 : Nat} : ∀ (h : List AObj) (i o : Nat), o ∈ kept n0 h i ↔ i ≤ o ∧ ∃ x, h[o - i]? = some x ∧ (o < n0 ∨ x.isLive = true)
  | [], i, o => by simp [kept]
  | x :: xs, i, o => by
    have ih := kept_mem xs (i + 1) o (n0 := n0)
    have key : (i + 1 ≤ o ∧ ∃ y, xs[o - (i + 1)]? = some y ∧ (o < n0 ∨ y.isLive = true)) ↔ (i < o ∧ ∃ y, (x :: xs)[o - i]? = some y ∧ (o < n0 ∨ y.isLive = true)) := by
      constructor
      · rintro ⟨h1, y, h2, h3⟩
        refine ⟨by omega, y, ?_, h3⟩
        rw [show o - i = (o - (i + 1)) + 1 by omega]
        simpa using h2
      · rintro ⟨h1, y, h2, h3⟩
        refine ⟨by omega, y, ?_, h3⟩
        rw [show o - i = (o - (i + 1)) + 1 by omega] at h2
        simpa using h2
    rw [key] at ih
    simp only [kept]
    split
    · rename_i hc
      simp only [Bool.or_eq_true, decide_eq_true_eq] at hc
      rw [List.mem_cons, ih]
      constructor
      · rintro (rfl | ⟨h1, h2⟩)
        · exact ⟨Nat.le_refl _, x, by simp, hc⟩
        · exact ⟨by omega, h2⟩
      · rintro ⟨h1, h2⟩
        by_cases he : o = i
        · exact .inl he
        · exact .inr ⟨by omega, h2⟩
    · rename_i hc
      simp only [Bool.or_eq_false_iff, decide_eq_false_iff_not] at hc
      rw [ih]
      constructor
      · rintro ⟨h1, h2⟩; exact ⟨by omega, h2⟩
      · rintro ⟨h1, y, h2, h3⟩
        by_cases he : o = i
        · subst he
          simp at h2
          subst h2
          rcases h3 with h3 | h3
          · exact absurd h3 hc.1
          · rw [hc.2] at h3; cases h3
        · exact ⟨by omega, y, h2, h3⟩

theorem kept_nodup {n0 : Nat} : ∀ (h : List AObj) (i : Nat), (kept n0 h i).Nodup
  | [], i => by simp [kept]
  | x :: xs, i => by
    simp only [kept]
    split
    · rw [List.nodup_cons]
      refine ⟨fun hm => ?_, kept_nodup xs (i + 1)⟩
      have := ((kept_mem xs (i + 1) i).1 hm).1
      omega
    · exact kept_nodup xs (i + 1)

theorem posIn_spec : ∀ (l : List Nat) (j o k : Nat), l.Nodup → (posIn l j o = some k ↔ j ≤ k ∧ l[k - j]? = some o)
  | [], j, o, k, _ => by simp [posIn]
  | i :: is, j, o, k, hn => by
    rw [List.nodup_cons] at hn
    simp only [posIn]
    split
    · rename_i he
      subst he
      simp only [Option.some.injEq]
      constructor
      · rintro rfl; exact ⟨Nat.le_refl _, by simp⟩
      · rintro ⟨h1, h2⟩
        by_cases hk : j = k
        · exact hk
        · exfalso
          rw [show k - j = (k - j - 1) + 1 by omega] at h2
          simp only [List.getElem?_cons_succ] at h2
          exact hn.1 (List.mem_of_getElem? h2)
    · rename_i he
      rw [posIn_spec is (j + 1) o k hn.2]
      constructor
      · rintro ⟨h1, h2⟩
        refine ⟨by omega, ?_⟩
        rw [show k - j = (k - (j + 1)) + 1 by omega]
        simpa using h2
      · rintro ⟨h1, h2⟩
        by_cases hk : j = k
        · subst hk
          simp at h2
          exact absurd h2.symm he
        · refine ⟨by omega, ?_⟩
          rw [show k - j = (k - (j + 1)) + 1 by omega] at h2
          simpa using h2

section
variable {C : Ctx} {σ : Sg} {φ : Nat → List Nat} {h : List AObj} {w : World} {n0 : Nat}

theorem gcF_spec {o k : Nat} : gcF n0 h o = some k ↔ (kept n0 h 0)[k]? = some o := by
  unfold gcF
  rw [posIn_spec _ _ _ _ (kept_nodup h 0)]
  simp

theorem gcF_live {o : Nat} {x : AObj} (ho : h[o]? = some x) (hx : x.isLive = true) : ∃ k, gcF n0 h o = some k := by
  have hm : o ∈ kept n0 h 0 := (kept_mem h 0 o).2 ⟨Nat.zero_le _, x, by simpa using ho, .inr hx⟩
  obtain ⟨k, hk⟩ := List.mem_iff_getElem?.1 hm
  exact ⟨k, gcF_spec.2 hk⟩

theorem gcH_get {k : Nat} {y : AObj} : (gcH n0 h)[k]? = some y ↔ ∃ o x, (kept n0 h 0)[k]? = some o ∧ h[o]? = some x ∧ y = renO (gcF n0 h) x := by
  unfold gcH
  rw [List.getElem?_map, Option.map_eq_some_iff]
  constructor
  · rintro ⟨o, h1, rfl⟩
    obtain ⟨_, x, h2, _⟩ := (kept_mem h 0 o).1 (List.mem_of_getElem? h1)
    refine ⟨o, x, h1, by simpa using h2, ?_⟩
    have : h.getD o .dead = x := by simp at h2; simp [h2]
    rw [this]
  · rintro ⟨o, x, h1, h2, rfl⟩
    refine ⟨o, h1, ?_⟩
    have : h.getD o .dead = x := by simp [h2]
    rw [this]

theorem renO_live {f : Nat → Option Nat} {x : AObj} : (renO f x).isLive = x.isLive := by cases x <;> rfl
theorem renO_rw {f : Nat → Option Nat} {x : AObj} : (renO f x).rw = x.rw := by cases x <;> rfl

/-- the numbers of old -/
def gcσ (n0 : Nat) (h : List AObj) (σ : Sg) : Sg := fun k => match (kept n0 h 0)[k]? with
  | some o => σ o
  | none => none
def gcφ (n0 : Nat) (h : List AObj) (φ : Nat → List Nat) : Nat → List Nat := fun k => match (kept n0 h 0)[k]? with
  | some o => φ o
  | none => []

theorem gc_liveAt {b : Nat} : liveAt (gcH n0 h) (gcσ n0 h σ) b ↔ liveAt h σ b := by
  constructor
  · rintro ⟨k, y, c, h1, h2, h3⟩
    obtain ⟨o, x, g1, g2, rfl⟩ := gcH_get.1 h1
    rw [renO_live] at h2
    simp only [gcσ, g1] at h3
    exact ⟨o, x, c, g2, h2, h3⟩
  · rintro ⟨o, x, c, h1, h2, h3⟩
    obtain ⟨k, hk⟩ := gcF_live (n0 := n0) h1 h2
    have hk' := gcF_spec.1 hk
    refine ⟨k, renO (gcF n0 h) x, c, gcH_get.2 ⟨o, x, hk', h1, rfl⟩, by rw [renO_live]; exact h2, ?_⟩
    simp only [gcσ, hk']
    exact h3

mutual
theorem gc_rv : ∀ (a : AV) (v : Value), RV C σ h w a v → RV C (gcσ n0 h σ) (gcH n0 h) w (ren (gcF n0 h) a) v
  | .undef, _, _ => by simp only [ren, RV]
  | .skip, _, hr => by simpa only [ren, RV] using hr
  | .hdr _ _ _, _, hr => by simpa only [ren, RV] using hr
  | .int _ _, _, hr => by simpa only [ren, RV] using hr
  | .bool _, _, hr => by simpa only [ren, RV] using hr
  | .str _, _, hr => by simpa only [ren, RV] using hr
  | .nil, _, hr => by simpa only [ren, RV] using hr
  | .lst z l, v, hr => by
    simp only [ren, RV] at hr ⊢
    obtain ⟨fp, h1, h2⟩ := hr
    exact ⟨fp, h1, fun b hb => ⟨(h2 b hb).1, fun hl => (h2 b hb).2 (gc_liveAt.1 hl)⟩⟩
  | .iptr l f, v, hr => by
    simp only [ren, RV] at hr ⊢
    obtain ⟨fp, h1, h2⟩ := hr
    exact ⟨fp, h1, fun b hb => ⟨(h2 b hb).1, fun hl => (h2 b hb).2 (gc_liveAt.1 hl)⟩⟩
  | .own o lo n, v, hr => by
    simp only [ren]
    cases hf : gcF n0 h o with
    | none => simp only [RV]
    | some k =>
      have hk := gcF_spec.1 hf
      simp only [RV] at hr ⊢
      cases ho : h[o]? with
      | none => rw [ho] at hr; exact hr.elim
      | some x =>
        rw [ho] at hr
        have hg := gcH_get.2 ⟨o, x, hk, ho, rfl⟩
        rw [hg]
        have hσ : gcσ n0 h σ k = σ o := by simp only [gcσ, hk]
        cases x with
        | dead => simp only [renO]
        | box _ _ => exact hr.elim
        | row sz l =>
          simp only [renO]
          unfold ROwn at hr ⊢
          rw [hσ]
          exact hr
        | rowx sz l i el =>
          simp only [renO]
          unfold ROwn at hr ⊢
          rw [hσ]
          exact hr
  | .ptr o i f, v, hr => by
    simp only [ren]
    cases hf : gcF n0 h o with
    | none => simp only [RV]
    | some k =>
      have hk := gcF_spec.1 hf
      simp only [RV] at hr ⊢
      cases ho : h[o]? with
      | none => rw [ho] at hr; exact hr.elim
      | some x =>
        rw [ho] at hr
        have hg := gcH_get.2 ⟨o, x, hk, ho, rfl⟩
        rw [hg]
        have hσ : gcσ n0 h σ k = σ o := by simp only [gcσ, hk]
        cases x with
        | dead => simp only [renO]
        | box _ _ => simp only [renO]; rw [hσ]; exact hr
        | row sz l => simp only [renO]; rw [hσ]; exact hr
        | rowx sz l j el => simp only [renO]; rw [hσ]; exact hr
  | .agg as, v, hr => by
    simp only [ren, RV] at hr ⊢
    obtain ⟨vs, e, h1⟩ := hr
    exact ⟨vs, e, gc_rvs as _ h1⟩
  | .tup as, v, hr => by
    simp only [ren, RV] at hr ⊢
    obtain ⟨vs, e, h1⟩ := hr
    exact ⟨vs, e, gc_rvs as _ h1⟩
  | .fn f caps, v, hr => by
    simp only [ren, RV] at hr ⊢
    obtain ⟨vs, e, h1⟩ := hr
    exact ⟨vs, e, gc_rvs caps _ h1⟩
theorem gc_rvs : ∀ (as : List AV) (vs : List Value), RVs C σ h w as vs → RVs C (gcσ n0 h σ) (gcH n0 h) w (rens (gcF n0 h) as) vs
  | [], _, hr => by simpa only [rens, RVs] using hr
  | a :: as, vs, hr => by
    simp only [rens, RVs] at hr ⊢
    obtain ⟨v, vs', e, h1, h2⟩ := hr
    exact ⟨v, vs', e, gc_rv a v h1, gc_rvs as vs' h2⟩
end

theorem ren_cells {f : Nat → Option Nat} : ∀ (a : AV), (ren f a).cells = rens f a.cells ∨ ∃ o, f o = none ∧ (ren f a) = .undef
  | .own o lo n => by
    simp only [ren]
    cases hf : f o with
    | none => exact .inr ⟨o, hf, rfl⟩
    | some k => left; simp [AV.cells, rens, ren, hf]
  | .ptr o lo n => by
    simp only [ren]
    cases hf : f o with
    | none => exact .inr ⟨o, hf, rfl⟩
    | some k => left; simp [AV.cells, rens, ren, hf]
  | .agg as => by left; simp [ren, AV.cells]
  | .tup as => by left; simp [ren, AV.cells, rens]
  | .fn _ as => by left; simp [ren, AV.cells, rens]
  | .undef => by left; simp [ren, AV.cells, rens]
  | .skip => by left; simp [ren, AV.cells, rens]
  | .hdr _ _ _ => by left; simp [ren, AV.cells, rens]
  | .int _ _ => by left; simp [ren, AV.cells, rens]
  | .bool _ => by left; simp [ren, AV.cells, rens]
  | .str _ => by left; simp [ren, AV.cells, rens]
  | .nil => by left; simp [ren, AV.cells, rens]
  | .lst _ _ => by left; simp [ren, AV.cells, rens]
  | .iptr _ _ => by left; simp [ren, AV.cells, rens]

theorem rens_len {f : Nat → Option Nat} : ∀ (as : List AV), (rens f as).length = as.length
  | [] => rfl
  | a :: as => by simp only [rens, List.length_cons, rens_len as]
theorem ren_cells_len {f : Nat → Option Nat} (a : AV) : (ren f a).cells.length = a.cells.length := by
  rcases ren_cells (f := f) a with h | ⟨o, h1, h2⟩
  · rw [h, rens_len]
  · have hc : a.cells = [a] := by cases a <;> simp [ren] at h2 <;> rfl
    rw [h2, hc]; rfl
theorem gc_cells (a : AV) (vs : List Value) (hr : RVs C σ h w a.cells vs) : RVs C (gcσ n0 h σ) (gcH n0 h) w (ren (gcF n0 h) a).cells vs := by
  have h1 := gc_rvs (n0 := n0) a.cells vs hr
  rcases ren_cells (f := gcF n0 h) a with h2 | ⟨o, h2, h3⟩
  · rw [h2]; exact h1
  · have hc : a.cells = [a] := by
      cases a <;> simp [ren] at h3 <;> rfl
    rw [hc] at h1
    simpa only [rens, h3, AV.cells] using h1

theorem gc_heap (hr : HeapRel C σ φ h w) : HeapRel C (gcσ n0 h σ) (gcφ n0 h φ) (gcH n0 h) w where
  obj k y hk := by
    obtain ⟨o, x, g1, g2, rfl⟩ := gcH_get.1 hk
    have hob := hr.obj o x g2
    have e1 : gcσ n0 h σ k = σ o := by simp only [gcσ, g1]
    have e2 : gcφ n0 h φ k = φ o := by simp only [gcφ, g1]
    cases x with
    | dead => trivial
    | box sz v =>
      obtain ⟨g, cur, e, h1, h2, h3, h4⟩ := hob
      exact ⟨g, cur, e, by rw [e1]; exact h1, h2, h3, gc_cells _ _ h4⟩
    | row sz l =>
      obtain ⟨h0, hob⟩ := hob
      refine ⟨h0, ?_⟩
      rw [e1, e2]
      cases hs : σ o with
      | none => rw [hs] at hob; exact hob
      | some p =>
        rw [hs] at hob
        obtain ⟨h1, cur, e, h2, h3, h4, h5⟩ := hob
        exact ⟨h1, cur, e, h2, h3, h4, fun b hb => ⟨(h5 b hb).1, fun hl => (h5 b hb).2 (gc_liveAt.1 hl)⟩⟩
    | rowx sz l i el =>
      obtain ⟨hz, hmm, hi, g, c, cur, e, f1, f2, k1, k2, k3, k4, k5, k6, k7, k7', k8, k9⟩ := hob
      exact ⟨hz, hmm, hi, g, c, cur, e, f1, f2, by rw [e1]; exact k1, k2, k3, k4, k5, gc_cells _ _ k6, k7, by rw [ren_cells_len]; exact k7', by rw [e2]; exact k8, fun b hb => by rw [e2] at hb; exact ⟨(k9 b hb).1, fun hl => (k9 b hb).2 (gc_liveAt.1 hl)⟩⟩
  inj k k' y y' b c c' hk hy hk' hy' hs hs' := by
    obtain ⟨o, x, g1, g2, rfl⟩ := gcH_get.1 hk
    obtain ⟨o', x', g1', g2', rfl⟩ := gcH_get.1 hk'
    rw [renO_live] at hy hy'
    simp only [gcσ, g1] at hs
    simp only [gcσ, g1'] at hs'
    have := hr.inj o o' x x' b c c' g2 hy g2' hy' hs hs'
    subst this
    have e1 := gcF_spec.2 g1
    have e2 := gcF_spec.2 g1'
    rw [e1] at e2
    exact Option.some.inj e2
  base k y b c hk hy hs := by
    obtain ⟨o, x, g1, g2, rfl⟩ := gcH_get.1 hk
    rw [renO_live] at hy
    simp only [gcσ, g1] at hs
    exact hr.base o x b c g2 hy hs
  deepx hdm k y hk hy := by
    obtain ⟨o, x, g1, g2, rfl⟩ := gcH_get.1 hk
    rw [renO_rw] at hy
    have e2 : gcφ n0 h φ k = φ o := by simp only [gcφ, g1]
    obtain ⟨d1, d2, d3⟩ := hr.deepx hdm o x g2 hy
    rw [e2]
    refine ⟨d1, d2, ?_⟩
    intro k' y' hk' hy' hne b hb
    obtain ⟨o', x', g1', g2', rfl⟩ := gcH_get.1 hk'
    rw [renO_rw] at hy'
    have e2' : gcφ n0 h φ k' = φ o' := by simp only [gcφ, g1']
    rw [e2']
    refine d3 o' x' g2' hy' (fun he => ?_) b hb
    subst he
    have e1 := gcF_spec.2 g1
    have e3 := gcF_spec.2 g1'
    rw [e1] at e3
    exact hne (Option.some.inj e3).symm

theorem kept_prefix : ∀ (h : List AObj) (i j : Nat), i + j < n0 → j < h.length → (kept n0 h i)[j]? = some (i + j)
  | [], i, j, _, hj => by simp at hj
  | x :: xs, i, 0, h1, _ => by
    have : i < n0 := by omega
    simp [kept, this]
  | x :: xs, i, j + 1, h1, h2 => by
    have : i < n0 := by omega
    simp only [kept, this, decide_true, Bool.true_or]
    have := kept_prefix xs (i + 1) j (by omega) (by simpa using h2)
    simp only [List.getElem?_cons_succ]
    rw [this]
    congr 1
    omega

theorem gc_ev {σ0 : Sg} {h0 : List AObj} {w0 : World} (hn : h0.length ≤ n0) (ev : Ev σ0 h0 w0 σ h w) : Ev σ0 h0 w0 (gcσ n0 h σ) (gcH n0 h) w where
  obj o x ho hx := by
    have hlt : o < n0 := by have := (List.getElem?_eq_some_iff.1 ho).1; omega
    have key : ∀ y, h[o]? = some y → (gcH n0 h)[o]? = some (renO (gcF n0 h) y) ∧ gcσ n0 h σ o = σ o := by
      intro y hy
      have := kept_prefix h 0 o (n0 := n0) (by omega) (List.getElem?_eq_some_iff.1 hy).1
      rw [Nat.zero_add] at this
      exact ⟨gcH_get.2 ⟨o, y, this, hy, rfl⟩, by simp only [gcσ, this]⟩
    rcases ev.obj o x ho hx with hd | ⟨e, x', hx', hs⟩
    · exact .inl (key _ hd).1
    · obtain ⟨k1, k2⟩ := key _ hx'
      refine .inr ⟨k2.trans e, _, k1, ?_⟩
      cases x <;> cases x' <;> simp_all [sameShape, renO]
  gone o ho := by
    have hlt : o < n0 := by have := (List.getElem?_eq_some_iff.1 ho).1; omega
    have hd := ev.gone o ho
    have := kept_prefix h 0 o (n0 := n0) (by omega) (List.getElem?_eq_some_iff.1 hd).1
    rw [Nat.zero_add] at this
    exact gcH_get.2 ⟨o, .dead, this, hd, rfl⟩
  live b hb hl := ev.live b hb (gc_liveAt.1 hl)
  blk := ev.blk
  size := ev.size
end
/-- ghost steps -/
inductive Gh where
  | kill (o : Nat)
  | nilT (s z : Nat)
  | nilC (o i z : Nat)
  | frz (s : Nat)
  | frzC (o i : Nat)
  | nilS (s i z : Nat)
  | frzS (s i : Nat)
  /-- an own row under a new number -/
  | mv (o : Nat)
  /-- an own row, cut to what a slot's slice has of it, under a new number -/
  | trim (s : Nat)
  /-- an open row is closed -/
  | cls (o : Nat)

def nin (x : Nat) : List Nat → Bool
  | [] => true
  | y :: ys => match Nat.beq x y with
    | true => false
    | false => nin x ys
def ndn : List Nat → Bool
  | [] => true
  | y :: ys => nin y ys && ndn ys
theorem nin_iff {x : Nat} : ∀ {ys : List Nat}, nin x ys = true → x ∉ ys
  | [], _ => by simp
  | y :: ys, h => by
    simp only [nin] at h
    split at h
    · cases h
    · rename_i e
      have : x ≠ y := fun he => by subst he; rw [Nat.beq_refl] at e; cases e
      simp [this, nin_iff h]
theorem ndn_iff : ∀ {ys : List Nat}, ndn ys = true → ys.Nodup
  | [], _ => .nil
  | y :: ys, h => by
    simp only [ndn, Bool.and_eq_true] at h
    exact List.nodup_cons.2 ⟨nin_iff h.1, ndn_iff h.2⟩
def mvF (o n : Nat) (k : Nat) : Option Nat := if k = o then some n else some k
def gh1 (t : Nat → AV) (h : List AObj) : Gh → Option ((Nat → AV) × List AObj)
  | .kill o => some (t, h.set o .dead)
  | .nilT s z => match t s, z with
    | .nil, z + 1 => some (upd t s (.own h.length 0 0), h ++ [.row (z + 1) []])
    | _, _ => none
  | .nilC o i z => match h[o]?, z with
    | some (.box n (.agg cs)), z + 1 => match cs[i]? with
      | some .nil => some (t, h.set o (.box n (.agg (cs.set i (.own h.length 0 0)))) ++ [.row (z + 1) []])
      | _ => none
    | some (.box n .nil), z + 1 => some (t, h.set o (.box n (.own h.length 0 0)) ++ [.row (z + 1) []])
    | _, _ => none
  | .frz s => match t s with
    | .own o lo n => match h[o]? with
      | some (.row z l) => some (upd t s (.lst z ((l.drop lo).take n)), h.set o .dead)
      | _ => none
    | _ => none
  | .frzC o i => match h[o]? with
    | some (.box m (.agg cs)) => match cs[i]? with
      | some (.own q lo n) => match h[q]? with
        | some (.row z l) => some (t, (h.set q .dead).set o (.box m (.agg (cs.set i (.lst z ((l.drop lo).take n))))))
        | _ => none
      | _ => none
    | _ => none
  | .nilS s i z => match t s, z with
    | .agg cs, z + 1 => match cs[i]? with
      | some .nil => some (upd t s (.agg (cs.set i (.own h.length 0 0))), h ++ [.row (z + 1) []])
      | _ => none
    | _, _ => none
  | .frzS s i => match t s with
    | .agg cs => match cs[i]? with
      | some (.own q lo n) => match h[q]? with
        | some (.row z l) => some (upd t s (.agg (cs.set i (.lst z ((l.drop lo).take n)))), h.set q .dead)
        | _ => none
      | _ => none
    | _ => none
  | .mv o => match h[o]? with
    | some (.row z l) => some (fun n => ren (mvF o h.length) (t n), (h.set o .dead).map (renO (mvF o h.length)) ++ [.row z l])
    | _ => none
  | .trim s => match t s with
    | .own o 0 n => match h[o]? with
      | some (.row z l) => some (upd t s (.own h.length 0 (l.take n).length), h.set o .dead ++ [.row z (l.take n)])
      | _ => none
    | _ => none
  | .cls o => match h[o]? with
    | some (.rowx z l i el) => match absorb true h el with
      | some (el', ks) => match nin o ks && ndn ks && el'.isElem with
        | true => some (t, (kill h ks).set o (.row z (l.set i el')))
        | false => none
      | none => none
    | _ => none
/-- in mark mode nothing freezes -/
def Gh.frzs : Gh → Bool
  | .frz _ => true
  | .frzC _ _ => true
  | .frzS _ _ => true
  | _ => false
def gh1m (m : Bool) (t : Nat → AV) (h : List AObj) (g : Gh) : Option ((Nat → AV) × List AObj) := match m with
  | false => gh1 t h g
  | true => match g.frzs with
    | true => none
    | false => gh1 t h g
def ghs (m : Bool) (t : Nat → AV) (h : List AObj) : List Gh → Option ((Nat → AV) × List AObj)
  | [] => some (t, h)
  | g :: gs => match gh1m m t h g with
    | some (t', h') => ghs m t' h' gs
    | none => none

end Go.R
