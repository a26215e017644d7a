/- Marks: what the laws' own marking functions leave, and that it is read back. -/
import Derived.Test.YtdnjjfoooagphaaLA2
import Derived.Test.YtdnjjfoooagphaaP0
set_option linter.all false
namespace Go.R
open Go
set_option linter.all false
set_option maxHeartbeats 1000000
theorem fuel_lt {n : Nat} (h : n < 2 ^ 90) : n < FUEL := by unfold FUEL; omega
theorem p_markText_L1 : ∀ (m f : Nat) (k : Int) (out : Str), 0 ≤ k → k < 2 ^ m → m < f → out.length + m + 1 ≤ maxLen → k < 2 ^ 62 → ∃ t, laws_markText_L1 f k out = some t ∧ t.length ≤ out.length + m
  | _, 0, _, _, _, _, h, _, _ => by omega
  | 0, f + 1, k, out, h0, h1, _, _, _ => by
    have : k = 0 := by simp at h1; omega
    subst this
    rw [laws_markText_L1, if_neg (by simp)]
    exact ⟨out, rfl, by omega⟩
  | m + 1, f + 1, k, out, h0, h1, h2, h3, h4 => by
    rw [laws_markText_L1]
    by_cases hk : k > 0
    · rw [if_pos (by simpa using hk)]
      have hb : ∀ n, (bstr [n]).length = 1 := fun _ => rfl
      rw [if_pos (by rw [hb]; omega)]
      have hd : k.tdiv 10 = k / 10 := Int.tdiv_eq_ediv_of_nonneg h0
      have hw : w64 (k.tdiv 10) = k / 10 := by rw [hd]; exact w64_id (by omega)
      rw [hw]
      have hp : (2 : Int) ^ (m + 1) = 2 * 2 ^ m := by rw [Int.pow_succ]; omega
      obtain ⟨t, e, hl⟩ := p_markText_L1 m f (k / 10) (bstr [IntKind.u8.wrap (w64 (48 + (k.tmod 10)))] ++ out) (by omega) (by omega) (by omega) (by rw [List.length_append, hb]; omega) (by omega)
      refine ⟨t, e, ?_⟩
      rw [List.length_append, hb] at hl
      omega
    · rw [if_neg (by simpa using hk)]
      exact ⟨out, rfl, by omega⟩
def tx (k : Int) : Str := (laws_markText k).getD []
theorem p_markText {k : Int} (h0 : 1 ≤ k) (h1 : k < 2 ^ 62) : laws_markText k = some (tx k) := by
  have : ∃ t, laws_markText k = some t := by
    unfold laws_markText
    rw [if_neg (by simp; omega)]
    obtain ⟨t, e, hl⟩ := p_markText_L1 62 FUEL k [] (by omega) h1 (fuel_lt (by omega)) (by simp [maxLen]) h1
    rw [e, Option.bind_some, if_pos (by simp only [List.length_cons, List.length_nil] at hl ⊢; simp only [maxLen]; omega)]
    exact ⟨_, rfl⟩
  obtain ⟨t, e⟩ := this
  unfold tx
  rw [e]
  rfl
def cntIntS : List Int → Nat
  | [] => 0
  | x :: xs => (1) + cntIntS xs
def mkIntS : List Int → Int → List Int
  | [], _ => []
  | x :: xs, k => (k) :: mkIntS xs (k + 1)
def fitIntS (l : List Int) : Prop := l.length < 2 ^ 61
theorem p_markIntS_L1 : ∀ (n f : Nat) (l : List Int) (i : Nat) (k : Int), i + n = l.length → n < f → 1 ≤ k → fitIntS l → k + (cntIntS (l.drop i) : Nat) < 2 ^ 62 → laws_markIntS_L1 f k i l = some (k + (cntIntS (l.drop i) : Nat), l.take i ++ mkIntS (l.drop i) k)
  | _, 0, _, _, _, _, h, _, _, _ => by omega
  | 0, f + 1, l, i, k, h, _, _, _, _ => by
    rw [laws_markIntS_L1, if_neg (by simp; omega), List.drop_of_length_le (by omega), List.take_of_length_le (by omega)]
    simp [cntIntS, mkIntS]
  | n + 1, f + 1, l, i, k, h, hf, hk, hfit, hc => by
    have hi : i < l.length := by omega
    have hd : l.drop i = l[i] :: l.drop (i + 1) := List.drop_eq_getElem_cons hi
    rw [hd] at hc ⊢
    simp only [cntIntS] at hc ⊢
    have hlen : l.length < 2 ^ 61 := hfit
    have w0 : w64 (k + 1) = k + 1 := w64_id (by omega)
    have wi : w64 ((i : Int) + 1) = ((i + 1 : Nat) : Int) := by rw [w64_id (by omega)]; rfl
    have hg : l[i]? = some l[i] := List.getElem?_eq_getElem hi
    have hix : 0 + (i : Int).toNat = i := by simp
    have hlt : ((i : Int) < (l.length : Int)) = True := eq_true (by omega)
    have hge : (0 ≤ (i : Int)) = True := eq_true (by omega)
    have hds : ∀ y, (l.set i y).drop (i + 1) = l.drop (i + 1) := fun y => List.drop_set_of_lt (by omega)
    have hfit2 : fitIntS (l.set i ((k))) := by
      unfold fitIntS at hfit ⊢
      rw [List.length_set]; exact hfit
    have ih := p_markIntS_L1 n f (l.set i ((k))) (i + 1) (k + 1) (by rw [List.length_set]; omega) (by omega) (by omega) hfit2 (by rw [hds]; omega)
    rw [hds] at ih
    rw [laws_markIntS_L1]
    simp only [hlt, hge, hix, hg, decide_true, and_self, if_true, Option.bind_some, List.set_set, wi, w0]
    rw [ih, set_fill _ _ _ _ hi, mkIntS]
    refine congrArg some (Prod.ext ?_ rfl)
    simp only
    omega
theorem p_markIntS (l : List Int) (k : Int) (hf : fitIntS l) (h0 : 1 ≤ k) (h1 : k + (cntIntS l : Nat) < 2 ^ 62) : laws_markIntS l k = some (k + (cntIntS l : Nat), mkIntS l k) := by
  unfold laws_markIntS
  have hl : l.length < 2 ^ 61 := hf
  rw [show (0 : Int) = ((0 : Nat) : Int) from rfl, p_markIntS_L1 l.length FUEL l 0 k (by omega) (fuel_lt (by omega)) h0 hf (by simpa using h1)]
  simp
theorem len_mkIntS : ∀ (l : List Int) (k : Int), (mkIntS l k).length = l.length
  | [], _ => rfl
  | x :: l, k => by simp only [mkIntS, List.length_cons, len_mkIntS l]
theorem fit_mkIntS (l : List Int) (k : Int) (h : fitIntS l) : fitIntS (mkIntS l k) := by
  unfold fitIntS at h ⊢
  rw [len_mkIntS]; exact h
theorem p_heldIntS_L1 : ∀ (l : List Int) (k : Int), fitIntS l → 1 ≤ k → k + (cntIntS l : Nat) < 2 ^ 62 → laws_heldIntS_L1 (mkIntS l k) k = some (.go (k + (cntIntS l : Nat)))
  | [], k, _, _, _ => by simp [mkIntS, laws_heldIntS_L1, cntIntS]
  | x :: l, k, hfit, h0, hc => by
    simp only [cntIntS] at hc ⊢
    have hfit2 : fitIntS l := by unfold fitIntS at hfit ⊢; simp at hfit; omega
    have w0 : w64 (k + 1) = k + 1 := w64_id (by omega)
    have ih := p_heldIntS_L1 l (k + 1) hfit2 (by omega) (by omega)
    rw [mkIntS, laws_heldIntS_L1]
    simp only [w0, Option.bind_some, beq_self_eq_true, bne_self_eq_false, Bool.not_true, Bool.false_eq_true, if_false, decide_false]
    rw [ih]
    refine congrArg (fun z => some (Fl.go z)) ?_
    omega
theorem p_heldIntS (l : List Int) (k : Int) (hf : fitIntS l) (h0 : 1 ≤ k) (h1 : k + (cntIntS l : Nat) < 2 ^ 62) : laws_heldIntS (mkIntS l k) k = some (k + (cntIntS l : Nat)) := by
  unfold laws_heldIntS
  rw [p_heldIntS_L1 l k hf h0 h1]
  rfl

def cntLockS : List GLock → Nat
  | [] => 0
  | x :: xs => (1 + cntIntS x.Queue) + cntLockS xs
def mkLockS : List GLock → Int → List GLock
  | [], _ => []
  | x :: xs, k => ⟨(tx (k)), (mkIntS x.Queue (k + 1))⟩ :: mkLockS xs (k + 1 + (cntIntS x.Queue : Nat))
def fitLockS (l : List GLock) : Prop := l.length < 2 ^ 61 ∧ ∀ x ∈ l, fitIntS x.Queue
theorem p_markLockS_L1 : ∀ (n f : Nat) (l : List GLock) (i : Nat) (k : Int), i + n = l.length → n < f → 1 ≤ k → fitLockS l → k + (cntLockS (l.drop i) : Nat) < 2 ^ 62 → laws_markLockS_L1 f k i l = some (k + (cntLockS (l.drop i) : Nat), l.take i ++ mkLockS (l.drop i) k)
  | _, 0, _, _, _, _, h, _, _, _ => by omega
  | 0, f + 1, l, i, k, h, _, _, _, _ => by
    rw [laws_markLockS_L1, if_neg (by simp; omega), List.drop_of_length_le (by omega), List.take_of_length_le (by omega)]
    simp [cntLockS, mkLockS]
  | n + 1, f + 1, l, i, k, h, hf, hk, hfit, hc => by
    have hi : i < l.length := by omega
    have hd : l.drop i = l[i] :: l.drop (i + 1) := List.drop_eq_getElem_cons hi
    rw [hd] at hc ⊢
    simp only [cntLockS] at hc ⊢
    have hlen : l.length < 2 ^ 61 := hfit.1
    have hx := hfit.2 l[i] (List.getElem_mem _)
    have t0 := p_markText (k := k) (by omega) (by omega)
    have w0 : w64 (k + 1) = k + 1 := w64_id (by omega)
    have m1 := p_markIntS l[i].Queue (k + 1) (hx) (by omega) (by omega)
    have wi : w64 ((i : Int) + 1) = ((i + 1 : Nat) : Int) := by rw [w64_id (by omega)]; rfl
    have hg : l[i]? = some l[i] := List.getElem?_eq_getElem hi
    have hix : 0 + (i : Int).toNat = i := by simp
    have hlt : ((i : Int) < (l.length : Int)) = True := eq_true (by omega)
    have hge : (0 ≤ (i : Int)) = True := eq_true (by omega)
    have hds : ∀ y, (l.set i y).drop (i + 1) = l.drop (i + 1) := fun y => List.drop_set_of_lt (by omega)
    have hfit2 : fitLockS (l.set i (⟨(tx (k)), (mkIntS l[i].Queue (k + 1))⟩)) := by
      unfold fitLockS at hfit ⊢
      exact ⟨by rw [List.length_set]; exact hfit.1, fun z hz => by
        rcases List.mem_or_eq_of_mem_set hz with hz | rfl
        · exact hfit.2 z hz
        · exact fit_mkIntS _ _ hx⟩
    have ih := p_markLockS_L1 n f (l.set i (⟨(tx (k)), (mkIntS l[i].Queue (k + 1))⟩)) (i + 1) (k + 1 + (cntIntS l[i].Queue : Nat)) (by rw [List.length_set]; omega) (by omega) (by omega) hfit2 (by rw [hds]; omega)
    rw [hds] at ih
    rw [laws_markLockS_L1]
    simp only [hlt, hge, hix, hg, decide_true, and_self, if_true, Option.bind_some, List.set_set, wi, t0, w0, m1]
    rw [ih, set_fill _ _ _ _ hi, mkLockS]
    refine congrArg some (Prod.ext ?_ rfl)
    simp only
    omega
theorem p_markLockS (l : List GLock) (k : Int) (hf : fitLockS l) (h0 : 1 ≤ k) (h1 : k + (cntLockS l : Nat) < 2 ^ 62) : laws_markLockS l k = some (k + (cntLockS l : Nat), mkLockS l k) := by
  unfold laws_markLockS
  have hl : l.length < 2 ^ 61 := hf.1
  rw [show (0 : Int) = ((0 : Nat) : Int) from rfl, p_markLockS_L1 l.length FUEL l 0 k (by omega) (fuel_lt (by omega)) h0 hf (by simpa using h1)]
  simp
theorem len_mkLockS : ∀ (l : List GLock) (k : Int), (mkLockS l k).length = l.length
  | [], _ => rfl
  | x :: l, k => by simp only [mkLockS, List.length_cons, len_mkLockS l]
theorem fit_mkLockS : ∀ (l : List GLock) (k : Int), fitLockS l → fitLockS (mkLockS l k)
  | [], _, h => h
  | x :: l, k, h => by
    have h2 : fitLockS l := ⟨by have := h.1; simp at this; omega, fun y hy => h.2 y (by simp [hy])⟩
    have ih := fit_mkLockS l (k + 1 + (cntIntS x.Queue : Nat)) h2
    have hx := h.2 x (by simp)
    refine ⟨by rw [len_mkLockS]; exact h.1, fun z hz => ?_⟩
    rw [mkLockS] at hz
    rcases List.mem_cons.1 hz with rfl | hz
    · exact fit_mkIntS _ _ hx
    · exact ih.2 z hz
theorem p_heldLockS_L1 : ∀ (l : List GLock) (k : Int), fitLockS l → 1 ≤ k → k + (cntLockS l : Nat) < 2 ^ 62 → laws_heldLockS_L1 (mkLockS l k) k = some (.go (k + (cntLockS l : Nat)))
  | [], k, _, _, _ => by simp [mkLockS, laws_heldLockS_L1, cntLockS]
  | x :: l, k, hfit, h0, hc => by
    simp only [cntLockS] at hc ⊢
    have hx := hfit.2 x (by simp)
    have hfit2 : fitLockS l := ⟨by have := hfit.1; simp at this; omega, fun y hy => hfit.2 y (by simp [hy])⟩
    have t0 := p_markText (k := k) (by omega) (by omega)
    have w0 : w64 (k + 1) = k + 1 := w64_id (by omega)
    have m1 := p_heldIntS x.Queue (k + 1) hx (by omega) (by omega)
    have n1 : (k + 1 + (cntIntS x.Queue : Nat) < 0) = False := eq_false (by omega)
    have ih := p_heldLockS_L1 l (k + 1 + (cntIntS x.Queue : Nat)) hfit2 (by omega) (by omega)
    rw [mkLockS, laws_heldLockS_L1]
    simp only [t0, w0, m1, n1, Option.bind_some, beq_self_eq_true, bne_self_eq_false, Bool.not_true, Bool.false_eq_true, if_false, decide_false]
    rw [ih]
    refine congrArg (fun z => some (Fl.go z)) ?_
    omega
theorem p_heldLockS (l : List GLock) (k : Int) (hf : fitLockS l) (h0 : 1 ≤ k) (h1 : k + (cntLockS l : Nat) < 2 ^ 62) : laws_heldLockS (mkLockS l k) k = some (k + (cntLockS l : Nat)) := by
  unfold laws_heldLockS
  rw [p_heldLockS_L1 l k hf h0 h1]
  rfl

def cntToldS : List GTold → Nat
  | [] => 0
  | x :: xs => (1 + 1 + 1) + cntToldS xs
def mkToldS : List GTold → Int → List GTold
  | [], _ => []
  | x :: xs, k => ⟨(k), (tx (k + 1)), (tx (k + 1 + 1))⟩ :: mkToldS xs (k + 1 + 1 + 1)
def fitToldS (l : List GTold) : Prop := l.length < 2 ^ 61
theorem p_markToldS_L1 : ∀ (n f : Nat) (l : List GTold) (i : Nat) (k : Int), i + n = l.length → n < f → 1 ≤ k → fitToldS l → k + (cntToldS (l.drop i) : Nat) < 2 ^ 62 → laws_markToldS_L1 f k i l = some (k + (cntToldS (l.drop i) : Nat), l.take i ++ mkToldS (l.drop i) k)
  | _, 0, _, _, _, _, h, _, _, _ => by omega
  | 0, f + 1, l, i, k, h, _, _, _, _ => by
    rw [laws_markToldS_L1, if_neg (by simp; omega), List.drop_of_length_le (by omega), List.take_of_length_le (by omega)]
    simp [cntToldS, mkToldS]
  | n + 1, f + 1, l, i, k, h, hf, hk, hfit, hc => by
    have hi : i < l.length := by omega
    have hd : l.drop i = l[i] :: l.drop (i + 1) := List.drop_eq_getElem_cons hi
    rw [hd] at hc ⊢
    simp only [cntToldS] at hc ⊢
    have hlen : l.length < 2 ^ 61 := hfit
    have w0 : w64 (k + 1) = k + 1 := w64_id (by omega)
    have t1 := p_markText (k := k + 1) (by omega) (by omega)
    have w1 : w64 (k + 1 + 1) = k + 1 + 1 := w64_id (by omega)
    have t2 := p_markText (k := k + 1 + 1) (by omega) (by omega)
    have w2 : w64 (k + 1 + 1 + 1) = k + 1 + 1 + 1 := w64_id (by omega)
    have wi : w64 ((i : Int) + 1) = ((i + 1 : Nat) : Int) := by rw [w64_id (by omega)]; rfl
    have hg : l[i]? = some l[i] := List.getElem?_eq_getElem hi
    have hix : 0 + (i : Int).toNat = i := by simp
    have hlt : ((i : Int) < (l.length : Int)) = True := eq_true (by omega)
    have hge : (0 ≤ (i : Int)) = True := eq_true (by omega)
    have hds : ∀ y, (l.set i y).drop (i + 1) = l.drop (i + 1) := fun y => List.drop_set_of_lt (by omega)
    have hfit2 : fitToldS (l.set i (⟨(k), (tx (k + 1)), (tx (k + 1 + 1))⟩)) := by
      unfold fitToldS at hfit ⊢
      rw [List.length_set]; exact hfit
    have ih := p_markToldS_L1 n f (l.set i (⟨(k), (tx (k + 1)), (tx (k + 1 + 1))⟩)) (i + 1) (k + 1 + 1 + 1) (by rw [List.length_set]; omega) (by omega) (by omega) hfit2 (by rw [hds]; omega)
    rw [hds] at ih
    rw [laws_markToldS_L1]
    simp only [hlt, hge, hix, hg, decide_true, and_self, if_true, Option.bind_some, List.set_set, wi, w0, t1, w1, t2, w2]
    rw [ih, set_fill _ _ _ _ hi, mkToldS]
    refine congrArg some (Prod.ext ?_ rfl)
    simp only
    omega
theorem p_markToldS (l : List GTold) (k : Int) (hf : fitToldS l) (h0 : 1 ≤ k) (h1 : k + (cntToldS l : Nat) < 2 ^ 62) : laws_markToldS l k = some (k + (cntToldS l : Nat), mkToldS l k) := by
  unfold laws_markToldS
  have hl : l.length < 2 ^ 61 := hf
  rw [show (0 : Int) = ((0 : Nat) : Int) from rfl, p_markToldS_L1 l.length FUEL l 0 k (by omega) (fuel_lt (by omega)) h0 hf (by simpa using h1)]
  simp
theorem len_mkToldS : ∀ (l : List GTold) (k : Int), (mkToldS l k).length = l.length
  | [], _ => rfl
  | x :: l, k => by simp only [mkToldS, List.length_cons, len_mkToldS l]
theorem fit_mkToldS (l : List GTold) (k : Int) (h : fitToldS l) : fitToldS (mkToldS l k) := by
  unfold fitToldS at h ⊢
  rw [len_mkToldS]; exact h
theorem p_heldToldS_L1 : ∀ (l : List GTold) (k : Int), fitToldS l → 1 ≤ k → k + (cntToldS l : Nat) < 2 ^ 62 → laws_heldToldS_L1 (mkToldS l k) k = some (.go (k + (cntToldS l : Nat)))
  | [], k, _, _, _ => by simp [mkToldS, laws_heldToldS_L1, cntToldS]
  | x :: l, k, hfit, h0, hc => by
    simp only [cntToldS] at hc ⊢
    have hfit2 : fitToldS l := by unfold fitToldS at hfit ⊢; simp at hfit; omega
    have w0 : w64 (k + 1) = k + 1 := w64_id (by omega)
    have t1 := p_markText (k := k + 1) (by omega) (by omega)
    have w1 : w64 (k + 1 + 1) = k + 1 + 1 := w64_id (by omega)
    have t2 := p_markText (k := k + 1 + 1) (by omega) (by omega)
    have w2 : w64 (k + 1 + 1 + 1) = k + 1 + 1 + 1 := w64_id (by omega)
    have ih := p_heldToldS_L1 l (k + 1 + 1 + 1) hfit2 (by omega) (by omega)
    rw [mkToldS, laws_heldToldS_L1]
    simp only [w0, t1, w1, t2, w2, Option.bind_some, beq_self_eq_true, bne_self_eq_false, Bool.not_true, Bool.false_eq_true, if_false, decide_false]
    rw [ih]
    refine congrArg (fun z => some (Fl.go z)) ?_
    omega
theorem p_heldToldS (l : List GTold) (k : Int) (hf : fitToldS l) (h0 : 1 ≤ k) (h1 : k + (cntToldS l : Nat) < 2 ^ 62) : laws_heldToldS (mkToldS l k) k = some (k + (cntToldS l : Nat)) := by
  unfold laws_heldToldS
  rw [p_heldToldS_L1 l k hf h0 h1]
  rfl
end Go.R
