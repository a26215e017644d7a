/- Marks: what the laws' own marking functions leave, and that it is read back. -/
import Derived.Test.YthneidgpgfgecaaAPU3
import Derived.Test.YthneidgpgfgecaaP0
set_option linter.all false
namespace Go.R
open Go
set_option linter.all false
set_option maxHeartbeats 1000000
theorem fuel_lt {n : Nat} (h : n < 2 ^ 90) : n < FUEL := by unfold FUEL; omega
theorem p_markText_L1 : ∀ (m f : Nat) (k : Int) (out : Str), 0 ≤ k → k < 2 ^ m → m < f → out.length + m + 1 ≤ maxLen → k < 2 ^ 62 → ∃ t, laws_markText_L1 f k out = some t ∧ t.length ≤ out.length + m
  | _, 0, _, _, _, _, h, _, _ => by omega
  | 0, f + 1, k, out, h0, h1, _, _, _ => by
    have : k = 0 := by simp at h1; omega
    subst this
    rw [laws_markText_L1, if_neg (by simp)]
    exact ⟨out, rfl, by omega⟩
  | m + 1, f + 1, k, out, h0, h1, h2, h3, h4 => by
    rw [laws_markText_L1]
    by_cases hk : k > 0
    · rw [if_pos (by simpa using hk)]
      have hb : ∀ n, (bstr [n]).length = 1 := fun _ => rfl
      rw [if_pos (by rw [hb]; omega)]
      have hd : k.tdiv 10 = k / 10 := Int.tdiv_eq_ediv_of_nonneg h0
      have hw : w64 (k.tdiv 10) = k / 10 := by rw [hd]; exact w64_id (by omega)
      rw [hw]
      have hp : (2 : Int) ^ (m + 1) = 2 * 2 ^ m := by rw [Int.pow_succ]; omega
      obtain ⟨t, e, hl⟩ := p_markText_L1 m f (k / 10) (bstr [IntKind.u8.wrap (w64 (48 + (k.tmod 10)))] ++ out) (by omega) (by omega) (by omega) (by rw [List.length_append, hb]; omega) (by omega)
      refine ⟨t, e, ?_⟩
      rw [List.length_append, hb] at hl
      omega
    · rw [if_neg (by simpa using hk)]
      exact ⟨out, rfl, by omega⟩
def tx (k : Int) : Str := (laws_markText k).getD []
theorem p_markText {k : Int} (h0 : 1 ≤ k) (h1 : k < 2 ^ 62) : laws_markText k = some (tx k) := by
  have : ∃ t, laws_markText k = some t := by
    unfold laws_markText
    rw [if_neg (by simp; omega)]
    obtain ⟨t, e, hl⟩ := p_markText_L1 62 FUEL k [] (by omega) h1 (fuel_lt (by omega)) (by simp [maxLen]) h1
    rw [e, Option.bind_some, if_pos (by simp only [List.length_cons, List.length_nil] at hl ⊢; simp only [maxLen]; omega)]
    exact ⟨_, rfl⟩
  obtain ⟨t, e⟩ := this
  unfold tx
  rw [e]
  rfl
def cntAtomS : List GAtom → Nat
  | [] => 0
  | x :: xs => (1 + 1 + 1) + cntAtomS xs
def mkAtomS : List GAtom → Int → List GAtom
  | [], _ => []
  | x :: xs, k => ⟨(k), (k + 1), (tx (k + 1 + 1))⟩ :: mkAtomS xs (k + 1 + 1 + 1)
def fitAtomS (l : List GAtom) : Prop := l.length < 2 ^ 61
theorem p_markAtomS_L1 : ∀ (n f : Nat) (l : List GAtom) (i : Nat) (k : Int), i + n = l.length → n < f → 1 ≤ k → fitAtomS l → k + (cntAtomS (l.drop i) : Nat) < 2 ^ 62 → laws_markAtomS_L1 f k i l = some (k + (cntAtomS (l.drop i) : Nat), l.take i ++ mkAtomS (l.drop i) k)
  | _, 0, _, _, _, _, h, _, _, _ => by omega
  | 0, f + 1, l, i, k, h, _, _, _, _ => by
    rw [laws_markAtomS_L1, if_neg (by simp; omega), List.drop_of_length_le (by omega), List.take_of_length_le (by omega)]
    simp [cntAtomS, mkAtomS]
  | n + 1, f + 1, l, i, k, h, hf, hk, hfit, hc => by
    have hi : i < l.length := by omega
    have hd : l.drop i = l[i] :: l.drop (i + 1) := List.drop_eq_getElem_cons hi
    rw [hd] at hc ⊢
    simp only [cntAtomS] at hc ⊢
    have hlen : l.length < 2 ^ 61 := hfit
    have w0 : w64 (k + 1) = k + 1 := w64_id (by omega)
    have w1 : w64 (k + 1 + 1) = k + 1 + 1 := w64_id (by omega)
    have t2 := p_markText (k := k + 1 + 1) (by omega) (by omega)
    have w2 : w64 (k + 1 + 1 + 1) = k + 1 + 1 + 1 := w64_id (by omega)
    have wi : w64 ((i : Int) + 1) = ((i + 1 : Nat) : Int) := by rw [w64_id (by omega)]; rfl
    have hg : l[i]? = some l[i] := List.getElem?_eq_getElem hi
    have hix : 0 + (i : Int).toNat = i := by simp
    have hlt : ((i : Int) < (l.length : Int)) = True := eq_true (by omega)
    have hge : (0 ≤ (i : Int)) = True := eq_true (by omega)
    have hds : ∀ y, (l.set i y).drop (i + 1) = l.drop (i + 1) := fun y => List.drop_set_of_lt (by omega)
    have hfit2 : fitAtomS (l.set i (⟨(k), (k + 1), (tx (k + 1 + 1))⟩)) := by
      unfold fitAtomS at hfit ⊢
      rw [List.length_set]; exact hfit
    have ih := p_markAtomS_L1 n f (l.set i (⟨(k), (k + 1), (tx (k + 1 + 1))⟩)) (i + 1) (k + 1 + 1 + 1) (by rw [List.length_set]; omega) (by omega) (by omega) hfit2 (by rw [hds]; omega)
    rw [hds] at ih
    rw [laws_markAtomS_L1]
    simp only [hlt, hge, hix, hg, decide_true, and_self, if_true, Option.bind_some, List.set_set, wi, w0, w1, t2, w2]
    rw [ih, set_fill _ _ _ _ hi, mkAtomS]
    refine congrArg some (Prod.ext ?_ rfl)
    simp only
    omega
theorem p_markAtomS (l : List GAtom) (k : Int) (hf : fitAtomS l) (h0 : 1 ≤ k) (h1 : k + (cntAtomS l : Nat) < 2 ^ 62) : laws_markAtomS l k = some (k + (cntAtomS l : Nat), mkAtomS l k) := by
  unfold laws_markAtomS
  have hl : l.length < 2 ^ 61 := hf
  rw [show (0 : Int) = ((0 : Nat) : Int) from rfl, p_markAtomS_L1 l.length FUEL l 0 k (by omega) (fuel_lt (by omega)) h0 hf (by simpa using h1)]
  simp
theorem len_mkAtomS : ∀ (l : List GAtom) (k : Int), (mkAtomS l k).length = l.length
  | [], _ => rfl
  | x :: l, k => by simp only [mkAtomS, List.length_cons, len_mkAtomS l]
theorem fit_mkAtomS (l : List GAtom) (k : Int) (h : fitAtomS l) : fitAtomS (mkAtomS l k) := by
  unfold fitAtomS at h ⊢
  rw [len_mkAtomS]; exact h
theorem p_heldAtomS_L1 : ∀ (l : List GAtom) (k : Int), fitAtomS l → 1 ≤ k → k + (cntAtomS l : Nat) < 2 ^ 62 → laws_heldAtomS_L1 (mkAtomS l k) k = some (.go (k + (cntAtomS l : Nat)))
  | [], k, _, _, _ => by simp [mkAtomS, laws_heldAtomS_L1, cntAtomS]
  | x :: l, k, hfit, h0, hc => by
    simp only [cntAtomS] at hc ⊢
    have hfit2 : fitAtomS l := by unfold fitAtomS at hfit ⊢; simp at hfit; omega
    have w0 : w64 (k + 1) = k + 1 := w64_id (by omega)
    have w1 : w64 (k + 1 + 1) = k + 1 + 1 := w64_id (by omega)
    have t2 := p_markText (k := k + 1 + 1) (by omega) (by omega)
    have w2 : w64 (k + 1 + 1 + 1) = k + 1 + 1 + 1 := w64_id (by omega)
    have ih := p_heldAtomS_L1 l (k + 1 + 1 + 1) hfit2 (by omega) (by omega)
    rw [mkAtomS, laws_heldAtomS_L1]
    simp only [w0, w1, t2, w2, Option.bind_some, beq_self_eq_true, bne_self_eq_false, Bool.not_true, Bool.false_eq_true, if_false, decide_false]
    rw [ih]
    refine congrArg (fun z => some (Fl.go z)) ?_
    omega
theorem p_heldAtomS (l : List GAtom) (k : Int) (hf : fitAtomS l) (h0 : 1 ≤ k) (h1 : k + (cntAtomS l : Nat) < 2 ^ 62) : laws_heldAtomS (mkAtomS l k) k = some (k + (cntAtomS l : Nat)) := by
  unfold laws_heldAtomS
  rw [p_heldAtomS_L1 l k hf h0 h1]
  rfl

def cntAtomSS : List (List GAtom) → Nat
  | [] => 0
  | x :: xs => (cntAtomS x) + cntAtomSS xs
def mkAtomSS : List (List GAtom) → Int → List (List GAtom)
  | [], _ => []
  | x :: xs, k => (mkAtomS x (k)) :: mkAtomSS xs (k + (cntAtomS x : Nat))
def fitAtomSS (l : List (List GAtom)) : Prop := l.length < 2 ^ 61 ∧ ∀ x ∈ l, fitAtomS x
theorem p_markAtomSS_L1 : ∀ (n f : Nat) (l : List (List GAtom)) (i : Nat) (k : Int), i + n = l.length → n < f → 1 ≤ k → fitAtomSS l → k + (cntAtomSS (l.drop i) : Nat) < 2 ^ 62 → laws_markAtomSS_L1 f k i l = some (k + (cntAtomSS (l.drop i) : Nat), l.take i ++ mkAtomSS (l.drop i) k)
  | _, 0, _, _, _, _, h, _, _, _ => by omega
  | 0, f + 1, l, i, k, h, _, _, _, _ => by
    rw [laws_markAtomSS_L1, if_neg (by simp; omega), List.drop_of_length_le (by omega), List.take_of_length_le (by omega)]
    simp [cntAtomSS, mkAtomSS]
  | n + 1, f + 1, l, i, k, h, hf, hk, hfit, hc => by
    have hi : i < l.length := by omega
    have hd : l.drop i = l[i] :: l.drop (i + 1) := List.drop_eq_getElem_cons hi
    rw [hd] at hc ⊢
    simp only [cntAtomSS] at hc ⊢
    have hlen : l.length < 2 ^ 61 := hfit.1
    have hx := hfit.2 l[i] (List.getElem_mem _)
    have m0 := p_markAtomS l[i] (k) (hx) (by omega) (by omega)
    have wi : w64 ((i : Int) + 1) = ((i + 1 : Nat) : Int) := by rw [w64_id (by omega)]; rfl
    have hg : l[i]? = some l[i] := List.getElem?_eq_getElem hi
    have hix : 0 + (i : Int).toNat = i := by simp
    have hlt : ((i : Int) < (l.length : Int)) = True := eq_true (by omega)
    have hge : (0 ≤ (i : Int)) = True := eq_true (by omega)
    have hds : ∀ y, (l.set i y).drop (i + 1) = l.drop (i + 1) := fun y => List.drop_set_of_lt (by omega)
    have hfit2 : fitAtomSS (l.set i ((mkAtomS l[i] (k)))) := by
      unfold fitAtomSS at hfit ⊢
      exact ⟨by rw [List.length_set]; exact hfit.1, fun z hz => by
        rcases List.mem_or_eq_of_mem_set hz with hz | rfl
        · exact hfit.2 z hz
        · exact fit_mkAtomS _ _ hx⟩
    have ih := p_markAtomSS_L1 n f (l.set i ((mkAtomS l[i] (k)))) (i + 1) (k + (cntAtomS l[i] : Nat)) (by rw [List.length_set]; omega) (by omega) (by omega) hfit2 (by rw [hds]; omega)
    rw [hds] at ih
    rw [laws_markAtomSS_L1]
    simp only [hlt, hge, hix, hg, decide_true, and_self, if_true, Option.bind_some, List.set_set, wi, m0]
    rw [ih, set_fill _ _ _ _ hi, mkAtomSS]
    refine congrArg some (Prod.ext ?_ rfl)
    simp only
    omega
theorem p_markAtomSS (l : List (List GAtom)) (k : Int) (hf : fitAtomSS l) (h0 : 1 ≤ k) (h1 : k + (cntAtomSS l : Nat) < 2 ^ 62) : laws_markAtomSS l k = some (k + (cntAtomSS l : Nat), mkAtomSS l k) := by
  unfold laws_markAtomSS
  have hl : l.length < 2 ^ 61 := hf.1
  rw [show (0 : Int) = ((0 : Nat) : Int) from rfl, p_markAtomSS_L1 l.length FUEL l 0 k (by omega) (fuel_lt (by omega)) h0 hf (by simpa using h1)]
  simp
theorem len_mkAtomSS : ∀ (l : List (List GAtom)) (k : Int), (mkAtomSS l k).length = l.length
  | [], _ => rfl
  | x :: l, k => by simp only [mkAtomSS, List.length_cons, len_mkAtomSS l]
theorem fit_mkAtomSS : ∀ (l : List (List GAtom)) (k : Int), fitAtomSS l → fitAtomSS (mkAtomSS l k)
  | [], _, h => h
  | x :: l, k, h => by
    have h2 : fitAtomSS l := ⟨by have := h.1; simp at this; omega, fun y hy => h.2 y (by simp [hy])⟩
    have ih := fit_mkAtomSS l (k + (cntAtomS x : Nat)) h2
    have hx := h.2 x (by simp)
    refine ⟨by rw [len_mkAtomSS]; exact h.1, fun z hz => ?_⟩
    rw [mkAtomSS] at hz
    rcases List.mem_cons.1 hz with rfl | hz
    · exact fit_mkAtomS _ _ hx
    · exact ih.2 z hz
theorem p_heldAtomSS_L1 : ∀ (l : List (List GAtom)) (k : Int), fitAtomSS l → 1 ≤ k → k + (cntAtomSS l : Nat) < 2 ^ 62 → laws_heldAtomSS_L1 (mkAtomSS l k) k = some (.go (k + (cntAtomSS l : Nat)))
  | [], k, _, _, _ => by simp [mkAtomSS, laws_heldAtomSS_L1, cntAtomSS]
  | x :: l, k, hfit, h0, hc => by
    simp only [cntAtomSS] at hc ⊢
    have hx := hfit.2 x (by simp)
    have hfit2 : fitAtomSS l := ⟨by have := hfit.1; simp at this; omega, fun y hy => hfit.2 y (by simp [hy])⟩
    have m0 := p_heldAtomS x (k) hx (by omega) (by omega)
    have n0 : (k + (cntAtomS x : Nat) < 0) = False := eq_false (by omega)
    have ih := p_heldAtomSS_L1 l (k + (cntAtomS x : Nat)) hfit2 (by omega) (by omega)
    rw [mkAtomSS, laws_heldAtomSS_L1]
    simp only [m0, n0, Option.bind_some, beq_self_eq_true, bne_self_eq_false, Bool.not_true, Bool.false_eq_true, if_false, decide_false]
    rw [ih]
    refine congrArg (fun z => some (Fl.go z)) ?_
    omega
theorem p_heldAtomSS (l : List (List GAtom)) (k : Int) (hf : fitAtomSS l) (h0 : 1 ≤ k) (h1 : k + (cntAtomSS l : Nat) < 2 ^ 62) : laws_heldAtomSS (mkAtomSS l k) k = some (k + (cntAtomSS l : Nat)) := by
  unfold laws_heldAtomSS
  rw [p_heldAtomSS_L1 l k hf h0 h1]
  rfl

def cntRowS : List GRow → Nat
  | [] => 0
  | x :: xs => (1 + cntAtomSS x.Cells) + cntRowS xs
def mkRowS : List GRow → Int → List GRow
  | [], _ => []
  | x :: xs, k => ⟨(k), (mkAtomSS x.Cells (k + 1))⟩ :: mkRowS xs (k + 1 + (cntAtomSS x.Cells : Nat))
def fitRowS (l : List GRow) : Prop := l.length < 2 ^ 61 ∧ ∀ x ∈ l, fitAtomSS x.Cells
theorem p_markRowS_L1 : ∀ (n f : Nat) (l : List GRow) (i : Nat) (k : Int), i + n = l.length → n < f → 1 ≤ k → fitRowS l → k + (cntRowS (l.drop i) : Nat) < 2 ^ 62 → laws_markRowS_L1 f k i l = some (k + (cntRowS (l.drop i) : Nat), l.take i ++ mkRowS (l.drop i) k)
  | _, 0, _, _, _, _, h, _, _, _ => by omega
  | 0, f + 1, l, i, k, h, _, _, _, _ => by
    rw [laws_markRowS_L1, if_neg (by simp; omega), List.drop_of_length_le (by omega), List.take_of_length_le (by omega)]
    simp [cntRowS, mkRowS]
  | n + 1, f + 1, l, i, k, h, hf, hk, hfit, hc => by
    have hi : i < l.length := by omega
    have hd : l.drop i = l[i] :: l.drop (i + 1) := List.drop_eq_getElem_cons hi
    rw [hd] at hc ⊢
    simp only [cntRowS] at hc ⊢
    have hlen : l.length < 2 ^ 61 := hfit.1
    have hx := hfit.2 l[i] (List.getElem_mem _)
    have w0 : w64 (k + 1) = k + 1 := w64_id (by omega)
    have m1 := p_markAtomSS l[i].Cells (k + 1) (hx) (by omega) (by omega)
    have wi : w64 ((i : Int) + 1) = ((i + 1 : Nat) : Int) := by rw [w64_id (by omega)]; rfl
    have hg : l[i]? = some l[i] := List.getElem?_eq_getElem hi
    have hix : 0 + (i : Int).toNat = i := by simp
    have hlt : ((i : Int) < (l.length : Int)) = True := eq_true (by omega)
    have hge : (0 ≤ (i : Int)) = True := eq_true (by omega)
    have hds : ∀ y, (l.set i y).drop (i + 1) = l.drop (i + 1) := fun y => List.drop_set_of_lt (by omega)
    have hfit2 : fitRowS (l.set i (⟨(k), (mkAtomSS l[i].Cells (k + 1))⟩)) := by
      unfold fitRowS at hfit ⊢
      exact ⟨by rw [List.length_set]; exact hfit.1, fun z hz => by
        rcases List.mem_or_eq_of_mem_set hz with hz | rfl
        · exact hfit.2 z hz
        · exact fit_mkAtomSS _ _ hx⟩
    have ih := p_markRowS_L1 n f (l.set i (⟨(k), (mkAtomSS l[i].Cells (k + 1))⟩)) (i + 1) (k + 1 + (cntAtomSS l[i].Cells : Nat)) (by rw [List.length_set]; omega) (by omega) (by omega) hfit2 (by rw [hds]; omega)
    rw [hds] at ih
    rw [laws_markRowS_L1]
    simp only [hlt, hge, hix, hg, decide_true, and_self, if_true, Option.bind_some, List.set_set, wi, w0, m1]
    rw [ih, set_fill _ _ _ _ hi, mkRowS]
    refine congrArg some (Prod.ext ?_ rfl)
    simp only
    omega
theorem p_markRowS (l : List GRow) (k : Int) (hf : fitRowS l) (h0 : 1 ≤ k) (h1 : k + (cntRowS l : Nat) < 2 ^ 62) : laws_markRowS l k = some (k + (cntRowS l : Nat), mkRowS l k) := by
  unfold laws_markRowS
  have hl : l.length < 2 ^ 61 := hf.1
  rw [show (0 : Int) = ((0 : Nat) : Int) from rfl, p_markRowS_L1 l.length FUEL l 0 k (by omega) (fuel_lt (by omega)) h0 hf (by simpa using h1)]
  simp
theorem len_mkRowS : ∀ (l : List GRow) (k : Int), (mkRowS l k).length = l.length
  | [], _ => rfl
  | x :: l, k => by simp only [mkRowS, List.length_cons, len_mkRowS l]
theorem fit_mkRowS : ∀ (l : List GRow) (k : Int), fitRowS l → fitRowS (mkRowS l k)
  | [], _, h => h
  | x :: l, k, h => by
    have h2 : fitRowS l := ⟨by have := h.1; simp at this; omega, fun y hy => h.2 y (by simp [hy])⟩
    have ih := fit_mkRowS l (k + 1 + (cntAtomSS x.Cells : Nat)) h2
    have hx := h.2 x (by simp)
    refine ⟨by rw [len_mkRowS]; exact h.1, fun z hz => ?_⟩
    rw [mkRowS] at hz
    rcases List.mem_cons.1 hz with rfl | hz
    · exact fit_mkAtomSS _ _ hx
    · exact ih.2 z hz
theorem p_heldRowS_L1 : ∀ (l : List GRow) (k : Int), fitRowS l → 1 ≤ k → k + (cntRowS l : Nat) < 2 ^ 62 → laws_heldRowS_L1 (mkRowS l k) k = some (.go (k + (cntRowS l : Nat)))
  | [], k, _, _, _ => by simp [mkRowS, laws_heldRowS_L1, cntRowS]
  | x :: l, k, hfit, h0, hc => by
    simp only [cntRowS] at hc ⊢
    have hx := hfit.2 x (by simp)
    have hfit2 : fitRowS l := ⟨by have := hfit.1; simp at this; omega, fun y hy => hfit.2 y (by simp [hy])⟩
    have w0 : w64 (k + 1) = k + 1 := w64_id (by omega)
    have m1 := p_heldAtomSS x.Cells (k + 1) hx (by omega) (by omega)
    have n1 : (k + 1 + (cntAtomSS x.Cells : Nat) < 0) = False := eq_false (by omega)
    have ih := p_heldRowS_L1 l (k + 1 + (cntAtomSS x.Cells : Nat)) hfit2 (by omega) (by omega)
    rw [mkRowS, laws_heldRowS_L1]
    simp only [w0, m1, n1, Option.bind_some, beq_self_eq_true, bne_self_eq_false, Bool.not_true, Bool.false_eq_true, if_false, decide_false]
    rw [ih]
    refine congrArg (fun z => some (Fl.go z)) ?_
    omega
theorem p_heldRowS (l : List GRow) (k : Int) (hf : fitRowS l) (h0 : 1 ≤ k) (h1 : k + (cntRowS l : Nat) < 2 ^ 62) : laws_heldRowS (mkRowS l k) k = some (k + (cntRowS l : Nat)) := by
  unfold laws_heldRowS
  rw [p_heldRowS_L1 l k hf h0 h1]
  rfl

def cntUpdateS : List GUpdate → Nat
  | [] => 0
  | x :: xs => (1 + 1 + cntAtomSS x.Old.Cells + 1 + cntAtomSS x.New.Cells) + cntUpdateS xs
def mkUpdateS : List GUpdate → Int → List GUpdate
  | [], _ => []
  | x :: xs, k => ⟨(k), ⟨(k + 1), (mkAtomSS x.Old.Cells (k + 1 + 1))⟩, ⟨(k + 1 + 1 + (cntAtomSS x.Old.Cells : Nat)), (mkAtomSS x.New.Cells (k + 1 + 1 + (cntAtomSS x.Old.Cells : Nat) + 1))⟩⟩ :: mkUpdateS xs (k + 1 + 1 + (cntAtomSS x.Old.Cells : Nat) + 1 + (cntAtomSS x.New.Cells : Nat))
def fitUpdateS (l : List GUpdate) : Prop := l.length < 2 ^ 61 ∧ ∀ x ∈ l, fitAtomSS x.Old.Cells ∧ fitAtomSS x.New.Cells
theorem p_markUpdateS_L1 : ∀ (n f : Nat) (l : List GUpdate) (i : Nat) (k : Int), i + n = l.length → n < f → 1 ≤ k → fitUpdateS l → k + (cntUpdateS (l.drop i) : Nat) < 2 ^ 62 → laws_markUpdateS_L1 f k i l = some (k + (cntUpdateS (l.drop i) : Nat), l.take i ++ mkUpdateS (l.drop i) k)
  | _, 0, _, _, _, _, h, _, _, _ => by omega
  | 0, f + 1, l, i, k, h, _, _, _, _ => by
    rw [laws_markUpdateS_L1, if_neg (by simp; omega), List.drop_of_length_le (by omega), List.take_of_length_le (by omega)]
    simp [cntUpdateS, mkUpdateS]
  | n + 1, f + 1, l, i, k, h, hf, hk, hfit, hc => by
    have hi : i < l.length := by omega
    have hd : l.drop i = l[i] :: l.drop (i + 1) := List.drop_eq_getElem_cons hi
    rw [hd] at hc ⊢
    simp only [cntUpdateS] at hc ⊢
    have hlen : l.length < 2 ^ 61 := hfit.1
    have hx := hfit.2 l[i] (List.getElem_mem _)
    have w0 : w64 (k + 1) = k + 1 := w64_id (by omega)
    have w1 : w64 (k + 1 + 1) = k + 1 + 1 := w64_id (by omega)
    have m2 := p_markAtomSS l[i].Old.Cells (k + 1 + 1) (hx.1) (by omega) (by omega)
    have w3 : w64 (k + 1 + 1 + (cntAtomSS l[i].Old.Cells : Nat) + 1) = k + 1 + 1 + (cntAtomSS l[i].Old.Cells : Nat) + 1 := w64_id (by omega)
    have m4 := p_markAtomSS l[i].New.Cells (k + 1 + 1 + (cntAtomSS l[i].Old.Cells : Nat) + 1) (hx.2) (by omega) (by omega)
    have wi : w64 ((i : Int) + 1) = ((i + 1 : Nat) : Int) := by rw [w64_id (by omega)]; rfl
    have hg : l[i]? = some l[i] := List.getElem?_eq_getElem hi
    have hix : 0 + (i : Int).toNat = i := by simp
    have hlt : ((i : Int) < (l.length : Int)) = True := eq_true (by omega)
    have hge : (0 ≤ (i : Int)) = True := eq_true (by omega)
    have hds : ∀ y, (l.set i y).drop (i + 1) = l.drop (i + 1) := fun y => List.drop_set_of_lt (by omega)
    have hfit2 : fitUpdateS (l.set i (⟨(k), ⟨(k + 1), (mkAtomSS l[i].Old.Cells (k + 1 + 1))⟩, ⟨(k + 1 + 1 + (cntAtomSS l[i].Old.Cells : Nat)), (mkAtomSS l[i].New.Cells (k + 1 + 1 + (cntAtomSS l[i].Old.Cells : Nat) + 1))⟩⟩)) := by
      unfold fitUpdateS at hfit ⊢
      exact ⟨by rw [List.length_set]; exact hfit.1, fun z hz => by
        rcases List.mem_or_eq_of_mem_set hz with hz | rfl
        · exact hfit.2 z hz
        · exact ⟨fit_mkAtomSS _ _ hx.1, fit_mkAtomSS _ _ hx.2⟩⟩
    have ih := p_markUpdateS_L1 n f (l.set i (⟨(k), ⟨(k + 1), (mkAtomSS l[i].Old.Cells (k + 1 + 1))⟩, ⟨(k + 1 + 1 + (cntAtomSS l[i].Old.Cells : Nat)), (mkAtomSS l[i].New.Cells (k + 1 + 1 + (cntAtomSS l[i].Old.Cells : Nat) + 1))⟩⟩)) (i + 1) (k + 1 + 1 + (cntAtomSS l[i].Old.Cells : Nat) + 1 + (cntAtomSS l[i].New.Cells : Nat)) (by rw [List.length_set]; omega) (by omega) (by omega) hfit2 (by rw [hds]; omega)
    rw [hds] at ih
    rw [laws_markUpdateS_L1]
    simp only [hlt, hge, hix, hg, decide_true, and_self, if_true, Option.bind_some, List.set_set, wi, w0, w1, m2, w3, m4]
    rw [ih, set_fill _ _ _ _ hi, mkUpdateS]
    refine congrArg some (Prod.ext ?_ rfl)
    simp only
    omega
theorem p_markUpdateS (l : List GUpdate) (k : Int) (hf : fitUpdateS l) (h0 : 1 ≤ k) (h1 : k + (cntUpdateS l : Nat) < 2 ^ 62) : laws_markUpdateS l k = some (k + (cntUpdateS l : Nat), mkUpdateS l k) := by
  unfold laws_markUpdateS
  have hl : l.length < 2 ^ 61 := hf.1
  rw [show (0 : Int) = ((0 : Nat) : Int) from rfl, p_markUpdateS_L1 l.length FUEL l 0 k (by omega) (fuel_lt (by omega)) h0 hf (by simpa using h1)]
  simp
theorem len_mkUpdateS : ∀ (l : List GUpdate) (k : Int), (mkUpdateS l k).length = l.length
  | [], _ => rfl
  | x :: l, k => by simp only [mkUpdateS, List.length_cons, len_mkUpdateS l]
theorem fit_mkUpdateS : ∀ (l : List GUpdate) (k : Int), fitUpdateS l → fitUpdateS (mkUpdateS l k)
  | [], _, h => h
  | x :: l, k, h => by
    have h2 : fitUpdateS l := ⟨by have := h.1; simp at this; omega, fun y hy => h.2 y (by simp [hy])⟩
    have ih := fit_mkUpdateS l (k + 1 + 1 + (cntAtomSS x.Old.Cells : Nat) + 1 + (cntAtomSS x.New.Cells : Nat)) h2
    have hx := h.2 x (by simp)
    refine ⟨by rw [len_mkUpdateS]; exact h.1, fun z hz => ?_⟩
    rw [mkUpdateS] at hz
    rcases List.mem_cons.1 hz with rfl | hz
    · exact ⟨fit_mkAtomSS _ _ hx.1, fit_mkAtomSS _ _ hx.2⟩
    · exact ih.2 z hz
end Go.R
