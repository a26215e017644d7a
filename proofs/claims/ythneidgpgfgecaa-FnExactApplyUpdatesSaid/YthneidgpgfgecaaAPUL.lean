/- Plain laws of what this statement reaches. -/
import Derived.Test.YthneidgpgfgecaaAPUH
import Derived.Test.YthneidgpgfgecaaP0
set_option linter.all false
namespace Go.R
open Go
set_option linter.all false
theorem p_cmpInt (x y : Int) : cmp_Compare_int x y = some (if x < y then -1 else if x > y then 1 else 0) := by
  unfold cmp_Compare_int cmp_isNaN_int
  by_cases h1 : x < y <;> by_cases h2 : x > y <;> simp [h1, h2]
def atI (o : Option Nat) : Int := match o with | some k => (k : Int) | none => -1
theorem atI_neg {o : Option Nat} : decide (atI o < 0) = o.isNone := by
  cases o with
  | none => rfl
  | some k => exact decide_eq_false (show ¬ ((k : Nat) : Int) < 0 by omega)
theorem atomEq (x y : GAtom) : (x.Kind == y.Kind && (x.N == y.N && (x.T == y.T && true))) = decide (x = y) := by
  cases x; cases y
  rw [Bool.eq_iff_iff]
  simp
theorem fuel40 : 2 ^ 40 < FUEL := by unfold FUEL; decide
/-- Ids rise -/
def risB : List GRow → Bool
  | [] => true
  | [_] => true
  | a :: b :: l => decide (a.Id < b.Id) && risB (b :: l)
theorem risB_cons {a : GRow} {l : List GRow} (h : risB (a :: l) = true) : risB l = true ∧ ∀ b ∈ l, a.Id < b.Id := by
  induction l generalizing a with
  | nil => exact ⟨rfl, by simp⟩
  | cons b l ih =>
    simp only [risB, Bool.and_eq_true, decide_eq_true_eq] at h
    refine ⟨h.2, fun c hc => ?_⟩
    rcases List.mem_cons.1 hc with rfl | hc
    · exact h.1
    · have := (ih h.2).2 c hc; omega
theorem risB_pair {l : List GRow} (h : risB l = true) : l.Pairwise fun a b => a.Id < b.Id := by
  induction l with
  | nil => exact .nil
  | cons a l ih => exact List.pairwise_cons.2 ⟨(risB_cons h).2, ih (risB_cons h).1⟩
theorem risB_lt {l : List GRow} (h : risB l = true) {i j : Nat} {a b : GRow} (hi : l[i]? = some a) (hj : l[j]? = some b) (hij : i < j) : a.Id < b.Id := by
  obtain ⟨h1, rfl⟩ := List.getElem?_eq_some_iff.1 hi
  obtain ⟨h2, rfl⟩ := List.getElem?_eq_some_iff.1 hj
  exact List.pairwise_iff_getElem.1 (risB_pair h) i j h1 h2 hij
theorem p_areRising_L1 (rows : List GRow) : ∀ (xs : List GRow) (i : Nat) (p : GRow), rows.length ≤ maxLen → rows.drop (i + 1) = xs → rows[i]? = some p → impl_areRising_L1 rows xs (i + 1) = some (if risB (p :: xs) = true then .go () else .ret false)
  | [], i, p, _, _, _ => by rw [impl_areRising_L1]; rfl
  | x :: xs, i, p, hl, hd, hp => by
    have hlt := drop_lt hd
    rw [impl_areRising_L1]
    have e : w64 (((i + 1 : Nat) : Int) - 1) = (i : Int) := by rw [w64_id (by unfold maxLen at hl; omega)]; omega
    rw [e, idx_nat, hp, Option.bind_some]
    have hx : rows[i + 1]? = some x := by have := congrArg (·[0]?) hd; simpa using this
    by_cases c : p.Id < x.Id
    · have c' : ¬ p.Id ≥ x.Id := by omega
      rw [if_neg (by simpa using c'), p_areRising_L1 rows xs (i + 1) x hl (drop_next hd) hx]
      simp [risB, c]
    · rw [if_pos (by simp; omega)]
      simp [risB, c]
theorem p_areRising (rows : List GRow) (hl : rows.length ≤ maxLen) : impl_areRising rows = some (risB rows) := by
  unfold impl_areRising
  cases rows with
  | nil => rfl
  | cons p xs =>
    rw [show (1 : Nat) = 0 + 1 from rfl, p_areRising_L1 (p :: xs) _ 0 p hl rfl rfl]
    have : (p :: xs).drop (0 + 1) = xs := rfl
    rw [this]
    rcases Bool.eq_false_or_eq_true (risB (p :: xs)) with hz1 | hz1 <;> simp [hz1]
def hasId (l : List GRow) (id : Int) : Bool := l.any fun r => r.Id == id
theorem p_l05Place_L1 (id : Int) : ∀ (l : List GRow) (i : Nat), spec_l05Place_L1 id l i = some (match l.findIdx? (fun r => r.Id == id) with | some k => .ret ((i + k : Nat) : Int) | none => .go ())
  | [], i => by rw [spec_l05Place_L1]; rfl
  | x :: xs, i => by
    rw [spec_l05Place_L1, p_l05Place_L1 id xs (i + 1), List.findIdx?_cons]
    cases hp : (x.Id == id) with
    | true => simp
    | false =>
      cases hq : xs.findIdx? (fun r => r.Id == id) with
      | none => simp
      | some k => simp; omega
theorem p_l05Place (l : List GRow) (id : Int) : spec_l05Place l id = some (atI (l.findIdx? (fun r => r.Id == id))) := by
  unfold spec_l05Place atI
  rw [p_l05Place_L1]
  cases hq : l.findIdx? (fun r => r.Id == id) <;> simp
theorem place_neg (l : List GRow) (id : Int) : decide (atI (l.findIdx? (fun r => r.Id == id)) < 0) = !hasId l id := by
  rw [atI_neg]
  unfold hasId
  rw [← List.findIdx?_isSome]
  cases l.findIdx? (fun r => r.Id == id) <;> rfl
theorem mid_id {i j : Int} (h0 : 0 ≤ i) (h1 : i < j) (h2 : j ≤ 2 ^ 60) : w64 (Int.fdiv (IntKind.u64.wrap (w64 (i + j))) (2 ^ (min (Int.toNat 1) (IntKind.bits .u64)))) = (i + j) / 2 := by
  have e1 : w64 (i + j) = i + j := w64_id (by omega)
  have e2 : IntKind.u64.wrap (i + j) = i + j := by
    have : IntKind.u64.wrap (i + j) = (i + j) % 2 ^ 64 := rfl
    rw [this]; omega
  have e3 : min (Int.toNat 1) (IntKind.bits .u64) = 1 := by decide
  rw [e1, e2, e3, Int.fdiv_eq_ediv_of_nonneg _ (by omega)]
  have : ((2 : Int) ^ 1) = 2 := rfl
  rw [this, w64_id (by omega)]
theorem p_rowAt_1 (r : GRow) (id : Int) : impl_rowAt_1 r id = some (if r.Id < id then -1 else if r.Id > id then 1 else 0) := by
  unfold impl_rowAt_1
  rw [p_cmpInt]
  rfl
theorem p_Bin_L1 (l : List GRow) (id : Int) (hs : risB l = true) (hl : l.length ≤ 2 ^ 30) : ∀ (k i j : Nat), i ≤ j → j ≤ l.length → j - i < k → (∀ q r, q < i → l[q]? = some r → r.Id < id) → (∀ q r, j ≤ q → l[q]? = some r → id ≤ r.Id) → ∃ m : Nat, slices_BinarySearchFunc_impl_Row_impl_Row_int_L1 l impl_rowAt_1 id k i j = some (m : Int) ∧ m ≤ l.length ∧ (∀ q r, q < m → l[q]? = some r → r.Id < id) ∧ (∀ q r, m ≤ q → l[q]? = some r → id ≤ r.Id)
  | 0, i, j, _, _, h, _, _ => by omega
  | k + 1, i, j, hij, hj, hk, ha, hb => by
    rw [slices_BinarySearchFunc_impl_Row_impl_Row_int_L1]
    by_cases c : i < j
    · rw [if_pos (by simpa using c), mid_id (by omega) (by omega) (by omega)]
      have em : ((i : Int) + j) / 2 = (((i + j) / 2 : Nat) : Int) := by omega
      rw [em, idx_nat]
      have hm : (i + j) / 2 < l.length := by omega
      obtain ⟨r, hr⟩ : ∃ r, l[(i + j) / 2]? = some r := ⟨l[(i + j) / 2], List.getElem?_eq_getElem hm⟩
      rw [hr, Option.bind_some, p_rowAt_1, Option.bind_some]
      by_cases d : r.Id < id
      · rw [if_pos (by simp [d]), w64_id (by omega)]
        have : (((i + j) / 2 : Nat) : Int) + 1 = (((i + j) / 2 + 1 : Nat) : Int) := by omega
        rw [this]
        refine p_Bin_L1 l id hs hl k ((i + j) / 2 + 1) j (by omega) hj (by omega) (fun q r' hq hr' => ?_) hb
        by_cases e : q = (i + j) / 2
        · subst e; rw [hr] at hr'; cases hr'; exact d
        · have := risB_lt hs hr' hr (by omega); omega
      · rw [if_neg (by simp only [d, if_false]; split <;> simp)]
        refine p_Bin_L1 l id hs hl k i ((i + j) / 2) (by omega) (by omega) (by omega) ha (fun q r' hq hr' => ?_)
        by_cases e : q = (i + j) / 2
        · subst e; rw [hr] at hr'; cases hr'; omega
        · have := risB_lt hs hr hr' (by omega); omega
    · rw [if_neg (by simpa using c)]
      exact ⟨i, rfl, by omega, ha, fun q r hq => hb q r (by omega)⟩
theorem p_rowAt (l : List GRow) (id : Int) (hs : risB l = true) (hl : l.length ≤ 2 ^ 30) : ∃ m : Nat, impl_rowAt l id = some ((m : Int), hasId l id) ∧ m ≤ l.length ∧ (∀ q r, q < m → l[q]? = some r → r.Id < id) ∧ (∀ q r, m ≤ q → l[q]? = some r → id ≤ r.Id) := by
  have hf := fuel40
  obtain ⟨m, e, h1, h2, h3⟩ := p_Bin_L1 l id hs hl FUEL 0 l.length (by omega) (by omega) (by omega) (fun q r h => by omega) (fun q r h hr => by have := (List.getElem?_eq_some_iff.1 hr).1; omega)
  have e' : slices_BinarySearchFunc_impl_Row_impl_Row_int_L1 l impl_rowAt_1 id FUEL 0 (l.length : Int) = some (m : Int) := e
  refine ⟨m, ?_, h1, h2, h3⟩
  unfold impl_rowAt slices_BinarySearchFunc_impl_Row_impl_Row_int
  rw [e', Option.bind_some]
  by_cases c : m < l.length
  · obtain ⟨r, hr⟩ : ∃ r, l[m]? = some r := ⟨l[m], List.getElem?_eq_getElem c⟩
    rw [if_pos (by simpa using c), idx_nat, hr, Option.bind_some, p_rowAt_1, Option.bind_some, Option.bind_some]
    have hge := h3 m r (Nat.le_refl _) hr
    by_cases d : r.Id = id
    · have hh : hasId l id = true := List.any_eq_true.2 ⟨r, List.mem_of_getElem? hr, by simp [d]⟩
      rw [hh]; simp [d]
    · have hh : hasId l id = false := by
        unfold hasId
        rw [List.any_eq_false]
        intro y hy
        obtain ⟨q, hq⟩ := List.mem_iff_getElem?.1 hy
        rcases Nat.lt_trichotomy q m with g | g | g
        · have := h2 q y g hq; simp; omega
        · subst g; rw [hr] at hq; cases hq; simpa using d
        · have := risB_lt hs hr hq g; simp; omega
      have g1 : ¬ r.Id < id := by omega
      have g2 : r.Id > id := by omega
      rw [hh]; simp [g1, g2]
  · have hh : hasId l id = false := by
      unfold hasId
      rw [List.any_eq_false]
      intro y hy
      obtain ⟨q, hq⟩ := List.mem_iff_getElem?.1 hy
      have := (List.getElem?_eq_some_iff.1 hq).1
      have := h2 q y (by omega) hq
      simp; omega
    rw [if_neg (by simpa using c), Option.bind_some, hh]
theorem p_Equal_L1 (b : List GAtom) : ∀ (xs : List GAtom) (i : Nat), i + xs.length = b.length → slices_Equal_impl_Atom_impl_Atom_L1 b xs i = some (if xs = b.drop i then .go () else .ret false)
  | [], i, h => by
    rw [slices_Equal_impl_Atom_impl_Atom_L1, List.drop_of_length_le (by simp at h; omega)]; rfl
  | x :: xs, i, h => by
    simp only [List.length_cons] at h
    obtain ⟨y, hy⟩ : ∃ y, b[i]? = some y := ⟨b[i]'(by omega), List.getElem?_eq_getElem (by omega)⟩
    have ed : b.drop i = y :: b.drop (i + 1) := by
      rw [List.drop_eq_getElem_cons (by omega)]; congr 1; exact (List.getElem?_eq_some_iff.1 hy).2
    rw [slices_Equal_impl_Atom_impl_Atom_L1, idx_nat, hy, Option.bind_some, atomEq, p_Equal_L1 b xs (i + 1) (by omega), ed]
    by_cases e : x = y
    · subst e; simp
    · simp [e]
theorem p_Equal (a b : List GAtom) : slices_Equal_impl_Atom_impl_Atom a b = some (decide (a = b)) := by
  unfold slices_Equal_impl_Atom_impl_Atom
  by_cases e : a.length = b.length
  · rw [if_neg (by simp [e]), p_Equal_L1 b a 0 (by omega), List.drop_zero]
    by_cases q : a = b <;> simp [q]
  · have : a ≠ b := fun h => e (by rw [h])
    rw [if_pos (by simp; omega)]
    simp [this]
theorem p_l03Same_L1 (b : List GAtom) : ∀ (xs : List GAtom) (i : Nat), i + xs.length = b.length → spec_l03Same_L1 b xs i = some (if xs = b.drop i then .go () else .ret false)
  | [], i, h => by
    rw [spec_l03Same_L1, List.drop_of_length_le (by simp at h; omega)]; rfl
  | x :: xs, i, h => by
    simp only [List.length_cons] at h
    obtain ⟨y, hy⟩ : ∃ y, b[i]? = some y := ⟨b[i]'(by omega), List.getElem?_eq_getElem (by omega)⟩
    have ed : b.drop i = y :: b.drop (i + 1) := by
      rw [List.drop_eq_getElem_cons (by omega)]; congr 1; exact (List.getElem?_eq_some_iff.1 hy).2
    rw [spec_l03Same_L1, idx_nat, hy, Option.bind_some, atomEq, p_l03Same_L1 b xs (i + 1) (by omega), ed]
    by_cases e : x = y
    · subst e; simp
    · simp [e]
theorem p_l03Same (a b : List GAtom) : spec_l03Same a b = some (decide (a = b)) := by
  unfold spec_l03Same
  by_cases e : a.length = b.length
  · rw [if_neg (by simp [e]), p_l03Same_L1 b a 0 (by omega), List.drop_zero]
    by_cases q : a = b <;> simp [q]
  · have : a ≠ b := fun h => e (by rw [h])
    rw [if_pos (by simp; omega)]
    simp [this]
theorem p_copyRow_L1 : ∀ (xs out : List (List GAtom)), out.length + xs.length ≤ 2 ^ 30 → (∀ d ∈ xs, d.length ≤ 2 ^ 30) → impl_copyRow_L1 xs out = some (out ++ xs)
  | [], out, _, _ => by rw [impl_copyRow_L1]; simp
  | x :: xs, out, h, hd => by
    simp only [List.length_cons] at h
    have := hd x (by simp)
    rw [impl_copyRow_L1]
    unfold slices_Clone_impl_Atom_impl_Atom
    rw [if_pos (by simp; omega), Option.bind_some, if_pos (by simp; omega), p_copyRow_L1 xs _ (by simp; omega) (fun y hy => hd y (by simp [hy]))]
    simp
theorem p_copyRow (r : GRow) (h : r.Cells.length ≤ 2 ^ 30) (hd : ∀ d ∈ r.Cells, d.length ≤ 2 ^ 30) : impl_copyRow r = some r := by
  unfold impl_copyRow
  rw [p_copyRow_L1 r.Cells [] (by simp; omega) hd, Option.bind_some]
  cases r with
  | mk i c =>
    cases c with
    | nil => rfl
    | cons a c => rw [if_pos (by simp)]; simp
theorem p_l05OwnRow_L1 : ∀ (xs out : List (List GAtom)), out.length + xs.length ≤ 2 ^ 30 → (∀ d ∈ xs, d.length ≤ 2 ^ 30) → spec_l05OwnRow_L1 xs out = some (out ++ xs)
  | [], out, _, _ => by rw [spec_l05OwnRow_L1]; simp
  | x :: xs, out, h, hd => by
    simp only [List.length_cons] at h
    have := hd x (by simp)
    rw [spec_l05OwnRow_L1, if_pos (by simp; omega), if_pos (by simp; omega), p_l05OwnRow_L1 xs _ (by simp; omega) (fun y hy => hd y (by simp [hy]))]
    simp
theorem p_l05OwnRow (r : GRow) (h : r.Cells.length ≤ 2 ^ 30) (hd : ∀ d ∈ r.Cells, d.length ≤ 2 ^ 30) : spec_l05OwnRow r = some r := by
  unfold spec_l05OwnRow
  rw [p_l05OwnRow_L1 r.Cells [] (by simp; omega) hd, Option.bind_some]
  cases r
  simp
theorem rowEq (x y : GRow) : (x = y) ↔ (x.Id = y.Id ∧ x.Cells = y.Cells) := by
  cases x; cases y; simp
theorem lenne {α : Type} {a b : List α} (h : ¬ a.length = b.length) : ((a.length : Int) != (b.length : Int)) = true := by
  simp only [bne_iff_ne, ne_eq]; omega
theorem leneq {α : Type} {a b : List α} (h : a.length = b.length) : ((a.length : Int) != (b.length : Int)) = false := by
  rw [h]; simp
theorem p_EqSS_L1 (f : List GAtom → List GAtom → Option Bool) (hf : ∀ x y, f x y = some (decide (x = y))) (b : List (List GAtom)) : ∀ (xs : List (List GAtom)) (i : Nat), i + xs.length = b.length → slices_EqualFunc_impl_Atom_impl_Atom_impl_Atom_impl_AtomS_L1 b f xs i = some (if xs = b.drop i then .go () else .ret false)
  | [], i, h => by
    rw [slices_EqualFunc_impl_Atom_impl_Atom_impl_Atom_impl_AtomS_L1, List.drop_of_length_le (by simp at h; omega)]; rfl
  | x :: xs, i, h => by
    obtain ⟨y, hy⟩ := drop_prev (l := b) (i := i) (by simp at h; omega)
    have hd : b.drop i = y :: b.drop (i + 1) := by
      obtain ⟨h1, h2⟩ := List.getElem?_eq_some_iff.1 hy
      rw [List.drop_eq_getElem_cons h1, h2]
    rw [slices_EqualFunc_impl_Atom_impl_Atom_impl_Atom_impl_AtomS_L1, idx_nat, hy, Option.bind_some, hf, Option.bind_some, p_EqSS_L1 f hf b xs (i + 1) (by simp at h ⊢; omega), hd]
    by_cases h1 : x = y <;> by_cases h2 : xs = b.drop (i + 1) <;> simp [h1, h2]
theorem p_EqSS (f : List GAtom → List GAtom → Option Bool) (hf : ∀ x y, f x y = some (decide (x = y))) (a b : List (List GAtom)) : slices_EqualFunc_impl_Atom_impl_Atom_impl_Atom_impl_AtomS a b f = some (decide (a = b)) := by
  unfold slices_EqualFunc_impl_Atom_impl_Atom_impl_Atom_impl_AtomS
  by_cases h : a.length = b.length
  · rw [leneq h, if_neg (by simp), p_EqSS_L1 f hf b a 0 (by omega), Option.bind_some, List.drop_zero]
    by_cases h2 : a = b <;> simp [h2]
  · rw [lenne h, if_pos rfl, decide_eq_false (fun e => h (by rw [e]))]
theorem p_iSameRow (a b : GRow) : impl_sameRow a b = some (decide (a = b)) := by
  unfold impl_sameRow
  rw [p_EqSS _ p_Equal]
  by_cases h : a.Id = b.Id <;> simp [h, rowEq]
theorem p_l05SameRow_L1 (b : GRow) : ∀ (xs : List (List GAtom)) (i : Nat), i + xs.length = b.Cells.length → spec_l05SameRow_L1 b xs i = some (if xs = b.Cells.drop i then .go () else .ret false)
  | [], i, h => by
    rw [spec_l05SameRow_L1, List.drop_of_length_le (by simp at h; omega)]; rfl
  | x :: xs, i, h => by
    obtain ⟨y, hy⟩ := drop_prev (l := b.Cells) (i := i) (by simp at h; omega)
    have hd : b.Cells.drop i = y :: b.Cells.drop (i + 1) := by
      obtain ⟨h1, h2⟩ := List.getElem?_eq_some_iff.1 hy
      rw [List.drop_eq_getElem_cons h1, h2]
    rw [spec_l05SameRow_L1, idx_nat, hy, Option.bind_some, p_l03Same, Option.bind_some, p_l05SameRow_L1 b xs (i + 1) (by simp at h ⊢; omega), hd]
    by_cases h1 : x = y <;> by_cases h2 : xs = b.Cells.drop (i + 1) <;> simp [h1, h2]
theorem p_l05SameRow (a b : GRow) : spec_l05SameRow a b = some (decide (a = b)) := by
  unfold spec_l05SameRow
  by_cases h0 : a.Id = b.Id
  · by_cases h : a.Cells.length = b.Cells.length
    · rw [leneq h, p_l05SameRow_L1 b a.Cells 0 (by omega), List.drop_zero]
      by_cases h2 : a.Cells = b.Cells <;> simp [h0, h2, rowEq]
    · rw [lenne h]
      have : ¬ a.Cells = b.Cells := fun e => h (by rw [e])
      simp [h0, rowEq, this]
  · simp [h0, rowEq]
def smR (r : GRow) : Prop := r.Cells.length ≤ 2 ^ 30 ∧ ∀ d ∈ r.Cells, d.length ≤ 2 ^ 30
def smL (l : List GRow) : Prop := l.length ≤ 2 ^ 29 ∧ ∀ r ∈ l, smR r
def smS (x : GStore) : Prop := x.Tables.length ≤ 2 ^ 29 ∧ ∀ l ∈ x.Tables, smL l
def rowOfR (l : List GRow) (id : Int) : GRow := (l.find? fun r => r.Id == id).getD ⟨0, []⟩
def dropI (l : List GRow) (id : Int) : List GRow := l.filter fun r => !(r.Id == id)
def putR : List GRow → GRow → List GRow
  | [], r => [r]
  | x :: xs, r => if x.Id < r.Id then x :: putR xs r else if x.Id = r.Id then r :: xs else r :: x :: xs
def kindI (id : Int) (o n : GRow) : Int := if id < 1 then 0 else if o.Id = 0 ∧ n.Id = id then 1 else if o.Id = id ∧ n.Id = 0 then 2 else if o.Id = id ∧ n.Id = id then 3 else 0
theorem p_kindOf (id : Int) (o n : GRow) : impl_kindOf id o n = some (kindI id o n) := by
  unfold impl_kindOf kindI
  by_cases h1 : id < 1
  · simp [h1]
  · have h0 : ¬ (0 : Int) = id := by omega
    have h0' : ¬ id = (0 : Int) := by omega
    by_cases a : o.Id = 0 <;> by_cases b : n.Id = id <;> by_cases c : o.Id = id <;> by_cases d : n.Id = 0 <;> simp [h1, h0, h0', a, b, c, d] <;> omega
theorem p_l10Kind (t id : Int) (o n : GRow) (h1 : ¬ id < 1) : spec_l10Kind ⟨t, id, o, n⟩ = some (kindI id o n) := by
  unfold spec_l10Kind kindI
  have h0 : ¬ (0 : Int) = id := by omega
  have h0' : ¬ id = (0 : Int) := by omega
  by_cases a : o.Id = 0 <;> by_cases b : n.Id = id <;> by_cases c : o.Id = id <;> by_cases d : n.Id = 0 <;> simp [h1, h0, h0', a, b, c, d] <;> omega
theorem p_copyRows_L1 : ∀ (xs out : List GRow), out.length + xs.length ≤ 2 ^ 30 → (∀ r ∈ xs, smR r) → impl_copyRows_L1 xs out = some (out ++ xs)
  | [], out, _, _ => by rw [impl_copyRows_L1]; simp
  | x :: xs, out, h, hd => by
    simp only [List.length_cons] at h
    have := hd x (by simp)
    rw [impl_copyRows_L1, p_copyRow x this.1 this.2, Option.bind_some, if_pos (by simp; omega), p_copyRows_L1 xs _ (by simp; omega) (fun y hy => hd y (by simp [hy]))]
    simp
theorem p_copyRows (l : List GRow) (h : smL l) : impl_copyRows l = some l := by
  have := h.1
  unfold impl_copyRows
  rw [p_copyRows_L1 l [] (by simp; omega) h.2]; rfl
theorem p_l05Own_L2 : ∀ (xs out : List GRow), out.length + xs.length ≤ 2 ^ 30 → (∀ r ∈ xs, smR r) → spec_l05Own_L2 xs out = some (out ++ xs)
  | [], out, _, _ => by rw [spec_l05Own_L2]; simp
  | x :: xs, out, h, hd => by
    simp only [List.length_cons] at h
    have := hd x (by simp)
    rw [spec_l05Own_L2, p_l05OwnRow x this.1 this.2, Option.bind_some, if_pos (by simp; omega), p_l05Own_L2 xs _ (by simp; omega) (fun y hy => hd y (by simp [hy]))]
    simp
theorem p_l05Own_L1 : ∀ (xs out : List (List GRow)), out.length + xs.length ≤ 2 ^ 30 → (∀ l ∈ xs, smL l) → spec_l05Own_L1 xs out = some (out ++ xs)
  | [], out, _, _ => by rw [spec_l05Own_L1]; simp
  | x :: xs, out, h, hd => by
    simp only [List.length_cons] at h
    have := hd x (by simp)
    have h2 := this.1
    rw [spec_l05Own_L1, p_l05Own_L2 x [] (by simp; omega) this.2, Option.bind_some, if_pos (by simp; omega), p_l05Own_L1 xs _ (by simp; omega) (fun y hy => hd y (by simp [hy]))]
    simp
theorem p_l05Own (x : GStore) (h : smS x) : spec_l05Own x = some x := by
  have := h.1
  unfold spec_l05Own
  rw [p_l05Own_L1 x.Tables [] (by simp; omega) h.2]
  cases x
  rfl
theorem p_l05Plain_L2 (l : List GRow) : ∀ (xs : List GRow) (k : Nat) (p : GRow), l.length ≤ maxLen → l[k]? = some p → l.drop (k + 1) = xs → spec_l05Plain_L2 l xs (k + 1) = some (if risB (p :: xs) = true then .go () else .ret false)
  | [], k, p, _, _, _ => by rw [spec_l05Plain_L2]; rfl
  | x :: xs, k, p, hl, hp, hd => by
    have hlt := drop_lt hd
    have e : w64 (((k + 1 : Nat) : Int) - 1) = (k : Int) := by rw [w64_id (by unfold maxLen at hl; omega)]; omega
    have hx : l[k + 1]? = some x := by have := congrArg (·[0]?) hd; simpa using this
    rw [spec_l05Plain_L2, if_pos (by simp <;> omega), e, idx_nat, hp, Option.bind_some, Option.bind_some]
    by_cases c : p.Id < x.Id
    · have c' : ¬ p.Id ≥ x.Id := by omega
      rw [if_neg (by simpa using c'), p_l05Plain_L2 l xs (k + 1) x hl hx (drop_next hd)]
      simp [risB, c]
    · rw [if_pos (by simp; omega)]
      simp [risB, c]
theorem p_l05Plain_l (l : List GRow) (hl : l.length ≤ maxLen) : spec_l05Plain_L2 l l 0 = some (if risB l = true then .go () else .ret false) := by
  cases l with
  | nil => rfl
  | cons p xs =>
    rw [spec_l05Plain_L2, if_neg (by simp), Option.bind_some, if_neg (by simp)]
    exact p_l05Plain_L2 (p :: xs) xs 0 p hl rfl rfl
theorem p_l05Plain_L1 : ∀ (xs : List (List GRow)), (∀ l ∈ xs, l.length ≤ maxLen) → spec_l05Plain_L1 xs = some (if xs.all risB = true then .go () else .ret false)
  | [], _ => by rw [spec_l05Plain_L1]; rfl
  | l :: xs, h => by
    rw [spec_l05Plain_L1, p_l05Plain_l l (h l (by simp)), p_l05Plain_L1 xs (fun y hy => h y (by simp [hy]))]
    rcases Bool.eq_false_or_eq_true (risB l) with hz1 | hz1 <;> simp [hz1]
theorem p_l05Plain (x : GStore) (h : ∀ l ∈ x.Tables, l.length ≤ maxLen) : spec_l05Plain x = some (x.Tables.all risB) := by
  unfold spec_l05Plain
  rw [p_l05Plain_L1 _ h]
  rcases Bool.eq_false_or_eq_true (x.Tables.all risB) with hz1 | hz1 <;> simp [hz1]
/-! where a row stands -/
theorem rowsIn_take {l : List GRow} {m : Nat} {id : Int} (h2 : ∀ q r, q < m → l[q]? = some r → r.Id < id) : ∀ x ∈ l.take m, x.Id < id := by
  intro x hx
  obtain ⟨q, hq⟩ := List.mem_iff_getElem?.1 hx
  rw [List.getElem?_take] at hq
  split at hq
  · rename_i h; exact h2 q x h hq
  · cases hq
theorem rowsIn_drop {l : List GRow} {m : Nat} {id : Int} (h3 : ∀ q r, m ≤ q → l[q]? = some r → id ≤ r.Id) : ∀ x ∈ l.drop m, id ≤ x.Id := by
  intro x hx
  obtain ⟨q, hq⟩ := List.mem_iff_getElem?.1 hx
  rw [List.getElem?_drop] at hq
  exact h3 (m + q) x (by omega) hq
theorem row_at (l : List GRow) (id : Int) (hs : risB l = true) (hl : l.length ≤ 2 ^ 30) : ∃ m : Nat, impl_rowAt l id = some ((m : Int), hasId l id) ∧ m ≤ l.length ∧
    ((hasId l id = true ∧ ∃ A r B, l = A ++ r :: B ∧ A.length = m ∧ r.Id = id ∧ (∀ x ∈ A, x.Id < id) ∧ ∀ x ∈ B, id < x.Id) ∨
     (hasId l id = false ∧ ∃ A B, l = A ++ B ∧ A.length = m ∧ (∀ x ∈ A, x.Id < id) ∧ ∀ x ∈ B, id < x.Id)) := by
  obtain ⟨m, e, h1, h2, h3⟩ := p_rowAt l id hs hl
  refine ⟨m, e, h1, ?_⟩
  have hA := rowsIn_take h2
  have hB := rowsIn_drop h3
  have hAl : (l.take m).length = m := by rw [List.length_take]; omega
  cases hh : hasId l id with
  | true =>
    refine .inl ⟨rfl, ?_⟩
    obtain ⟨y, hy, hyi⟩ := List.any_eq_true.1 hh
    have hyi : y.Id = id := by simpa using hyi
    rw [← List.take_append_drop m l] at hy
    have hyB : y ∈ l.drop m := by
      rcases List.mem_append.1 hy with h | h
      · have := hA y h; omega
      · exact h
    cases hd : l.drop m with
    | nil => rw [hd] at hyB; simp at hyB
    | cons r B =>
      have hl2 : l = l.take m ++ r :: B := by rw [← hd, List.take_append_drop]
      have hrB : risB (r :: B) = true := by
        have : ∀ (A l : List GRow), risB (A ++ l) = true → risB l = true := by
          intro A
          induction A with
          | nil => intro l h; exact h
          | cons a A ih => intro l h; exact ih l (risB_cons h).1
        rw [hl2] at hs
        exact this _ _ hs
      have hr := hB r (by rw [hd]; simp)
      have hlt := (risB_cons hrB).2
      have hri : r.Id = id := by
        rw [hd] at hyB
        rcases List.mem_cons.1 hyB with rfl | h
        · exact hyi
        · have := hlt y h; omega
      exact ⟨l.take m, r, B, hl2, hAl, hri, hA, fun x hx => by have := hlt x hx; omega⟩
  | false =>
    refine .inr ⟨rfl, l.take m, l.drop m, (List.take_append_drop m l).symm, hAl, hA, fun x hx => ?_⟩
    have h4 := hB x hx
    have h5 : x ∈ l := List.mem_of_mem_drop hx
    have h6 := List.any_eq_false.1 hh x h5
    have h7 : ¬ x.Id = id := by simpa using h6
    omega
theorem find_split {A B : List GRow} {r : GRow} {id : Int} (hA : ∀ x ∈ A, x.Id < id) (hr : r.Id = id) : (A ++ r :: B).find? (fun r => r.Id == id) = some r := by
  induction A with
  | nil => simp [hr]
  | cons a A ih =>
    have h1 := hA a (by simp)
    rw [List.cons_append, List.find?_cons_of_neg (by simp; omega)]
    exact ih fun x hx => hA x (by simp [hx])
theorem find_none {A B : List GRow} {id : Int} (hA : ∀ x ∈ A, x.Id < id) (hB : ∀ x ∈ B, id < x.Id) : (A ++ B).find? (fun r => r.Id == id) = none := by
  rw [List.find?_eq_none]
  intro x hx
  rcases List.mem_append.1 hx with h | h
  · have := hA x h; simp; omega
  · have := hB x h; simp; omega
theorem findIdx_split {A B : List GRow} {r : GRow} {id : Int} (hA : ∀ x ∈ A, x.Id < id) (hr : r.Id = id) : (A ++ r :: B).findIdx? (fun r => r.Id == id) = some A.length := by
  induction A with
  | nil => simp [List.findIdx?_cons, hr]
  | cons a A ih =>
    have h1 := hA a (by simp)
    rw [List.cons_append, List.findIdx?_cons, ih fun x hx => hA x (by simp [hx])]
    have : ¬ a.Id = id := by omega
    simp [this]
theorem drop_split {A B : List GRow} {r : GRow} {id : Int} (hA : ∀ x ∈ A, x.Id < id) (hr : r.Id = id) (hB : ∀ x ∈ B, id < x.Id) : dropI (A ++ r :: B) id = A ++ B := by
  unfold dropI
  rw [List.filter_append, List.filter_cons, if_neg (by simp [hr]), List.filter_eq_self.2 (fun x hx => by have := hA x hx; simp; omega), List.filter_eq_self.2 (fun x hx => by have := hB x hx; simp; omega)]
theorem put_split {A B : List GRow} {r x : GRow} (hA : ∀ y ∈ A, y.Id < x.Id) (hr : r.Id = x.Id) : putR (A ++ r :: B) x = A ++ x :: B := by
  induction A with
  | nil => simp [putR, hr]
  | cons a A ih =>
    have h1 := hA a (by simp)
    rw [List.cons_append, putR, if_pos h1, ih fun y hy => hA y (by simp [hy])]; rfl
theorem put_none {A B : List GRow} {x : GRow} (hA : ∀ y ∈ A, y.Id < x.Id) (hB : ∀ y ∈ B, x.Id < y.Id) : putR (A ++ B) x = A ++ x :: B := by
  induction A with
  | nil =>
    cases B with
    | nil => rfl
    | cons b B =>
      have := hB b (by simp)
      rw [List.nil_append, putR, if_neg (by omega), if_neg (by omega)]; rfl
  | cons a A ih =>
    have h1 := hA a (by simp)
    rw [List.cons_append, putR, if_pos h1, ih fun y hy => hA y (by simp [hy])]; rfl
theorem idx_split {A B : List GRow} {r : GRow} : idx (A ++ r :: B) (A.length : Int) = some r := by rw [idx_nat]; simp
theorem p_rowOf (l : List GRow) (id : Int) (hs : risB l = true) (hl : smL l) : impl_rowOf l id = some (rowOfR l id) := by
  have := hl.1
  unfold impl_rowOf rowOfR
  obtain ⟨m, e, h1, ⟨hh, A, r, B, rfl, rfl, hr, hA, hB⟩ | ⟨hh, A, B, rfl, rfl, hA, hB⟩⟩ := row_at l id hs (by omega)
  · have h2 := hl.2 r (by simp)
    rw [e, Option.bind_some, hh, find_split hA hr]
    simp only [Bool.not_true, Bool.false_eq_true, if_false, idx_split, Option.bind_some, p_copyRow r h2.1 h2.2, Option.getD_some]
  · rw [e, Option.bind_some, hh, find_none hA hB]; rfl
theorem p_l10Row (l : List GRow) (id : Int) (hs : risB l = true) (hl : smL l) : spec_l10Row l id = some (rowOfR l id) := by
  have := hl.1
  unfold spec_l10Row rowOfR
  rw [p_l05Place, Option.bind_some, place_neg]
  obtain ⟨m, e, h1, ⟨hh, A, r, B, rfl, rfl, hr, hA, hB⟩ | ⟨hh, A, B, rfl, rfl, hA, hB⟩⟩ := row_at l id hs (by omega)
  · have h2 := hl.2 r (by simp)
    rw [hh, find_split hA hr, findIdx_split hA hr]
    simp only [Bool.not_true, Bool.false_eq_true, if_false, atI, idx_split, Option.bind_some, p_l05OwnRow r h2.1 h2.2, Option.getD_some]
  · rw [hh, find_none hA hB]; rfl
theorem p_put (l : List GRow) (r : GRow) (hs : risB l = true) (hl : smL l) : impl_put_h0 l r.Id r.Cells = some (putR l r) := by
  have := hl.1
  unfold impl_put_h0
  obtain ⟨m, e, h1, ⟨hh, A, q, B, rfl, rfl, hr, hA, hB⟩ | ⟨hh, A, B, rfl, rfl, hA, hB⟩⟩ := row_at l r.Id hs (by omega)
  · rw [e, Option.bind_some, put_split hA hr]
    simp only [hh, if_true]
    rw [if_pos (by simp <;> omega), Nat.zero_add, Int.toNat_natCast]
    have hq : (A ++ q :: B)[A.length]? = some q := by simp
    rw [hq, Option.bind_some]
    simp [List.set_append_right]
  · rw [e, Option.bind_some, put_none hA hB]
    unfold slices_Insert_impl_Row_impl_Row_h0
    simp only [hh, Bool.false_eq_true, if_false]
    simp only [List.length_append] at this
    rw [if_pos (by simp only [List.length_append, List.length_cons, List.length_nil]; omega), Option.bind_some, Int.toNat_natCast, List.take_left, List.drop_left]
    simp
theorem p_l05Put_L1 (l : List GRow) (r : GRow) (A B : List GRow) (hl : l = A ++ B) (hA : ∀ x ∈ A, x.Id < r.Id) (hB : ∀ x ∈ B, r.Id ≤ x.Id) (hs : l.length ≤ 2 ^ 40) : ∀ (n f k : Nat), k + n = A.length → n < f → spec_l05Put_L1 l r f (k : Int) = some ((A.length : Nat) : Int)
  | _, 0, _, _, h => by omega
  | 0, f + 1, k, h, _ => by
    have hk : k = A.length := by omega
    subst hk
    rw [spec_l05Put_L1]
    cases B with
    | nil => rw [if_neg (by rw [hl]; simp), Option.bind_some, if_neg (by simp)]
    | cons b B =>
      have := hB b (by simp)
      have hi : idx l (A.length : Int) = some b := by rw [hl]; exact idx_split
      rw [if_pos (by rw [hl]; simp <;> omega), hi, Option.bind_some, Option.bind_some, if_neg (by simp; omega)]
  | n + 1, f + 1, k, h, hf => by
    have hk : k < A.length := by omega
    have hla : A.length ≤ l.length := by rw [hl]; simp
    have hi : idx l (k : Int) = some A[k] := by rw [idx_nat, hl, List.getElem?_append_left hk, List.getElem?_eq_getElem hk]
    have := hA A[k] (List.getElem_mem hk)
    rw [spec_l05Put_L1, if_pos (by simp; omega), hi, Option.bind_some, Option.bind_some, if_pos (by simpa using this), w64_id (by omega)]
    exact p_l05Put_L1 l r A B hl hA hB hs n f (k + 1) (by omega) (by omega)
theorem p_l05Put (x : GStore) (t : Nat) (l : List GRow) (r : GRow) (hx : smS x) (ht : x.Tables[t]? = some l) (hs : risB l = true) (hr : smR r) : spec_l05Put x (t : Int) r = some ⟨x.Tables.set t (putR l r), x.Next⟩ := by
  have hl := hx.2 l (List.mem_of_getElem? ht)
  have h0 := hl.1
  have hf := fuel40
  have htl := (List.getElem?_eq_some_iff.1 ht).1
  unfold spec_l05Put
  rw [p_l05Own x hx, Option.bind_some, if_pos (by omega), Nat.zero_add, Int.toNat_natCast, ht, Option.bind_some]
  obtain ⟨m, e, h1, ⟨hh, A, q, B, rfl, rfl, hq, hA, hB⟩ | ⟨hh, A, B, rfl, rfl, hA, hB⟩⟩ := row_at l r.Id hs (by omega)
  · simp only [List.length_append, List.length_cons] at h0
    have hB' : ∀ y ∈ q :: B, r.Id ≤ y.Id := by
      intro y hy
      rcases List.mem_cons.1 hy with rfl | hy
      · omega
      · have := hB y hy; omega
    have e1 : spec_l05Put_L1 (A ++ q :: B) r FUEL 0 = some ((A.length : Nat) : Int) := p_l05Put_L1 _ r A (q :: B) rfl hA hB' (by simp; omega) A.length FUEL 0 (by omega) (by omega)
    rw [e1, Option.bind_some, if_pos (by simp <;> omega), if_pos (by simp <;> omega), idx_split, Option.bind_some, Option.bind_some, if_pos (by simp [hq]), w64_id (by omega), if_pos (by simp <;> omega), Option.bind_some,
      if_pos (by simp <;> omega), if_pos (by simp; omega), p_l05OwnRow r hr.1 hr.2, Option.bind_some, if_pos (by simp <;> omega)]
    have e2 : ((A.length : Int) + 1).toNat = A.length + 1 := by omega
    rw [e2, if_pos (by simp <;> omega), if_pos (by omega), put_split hA hq, Int.toNat_natCast, List.take_left]
    have e3 : (A ++ q :: B).drop (A.length + 1) = B := by rw [← List.drop_drop, List.drop_left]; rfl
    rw [e3]
    simp
  · simp only [List.length_append] at h0
    have e1 : spec_l05Put_L1 (A ++ B) r FUEL 0 = some ((A.length : Nat) : Int) := p_l05Put_L1 _ r A B rfl hA (fun y hy => by have := hB y hy; omega) (by simp; omega) A.length FUEL 0 (by omega) (by omega)
    rw [e1, Option.bind_some, if_pos (by simp <;> omega)]
    have e4 : (if decide (((A.length : Nat) : Int) < (((A ++ B).length : Nat) : Int)) = true then (idx (A ++ B) ((A.length : Nat) : Int)).bind fun x_80 => some (x_80.Id == r.Id) else some false : Option Bool) = some false := by
      cases B with
      | nil => rw [if_neg (by simp)]
      | cons b B =>
        have := hB b (by simp)
        rw [if_pos (by simp <;> omega), idx_split, Option.bind_some]
        have : ¬ b.Id = r.Id := by omega
        simp [this]
    rw [e4, Option.bind_some, if_neg (by simp), Option.bind_some, if_pos (by simp <;> omega), if_pos (by simp; omega), p_l05OwnRow r hr.1 hr.2, Option.bind_some, if_pos (by simp <;> omega), if_pos (by simp <;> omega), if_pos (by omega),
      put_none hA hB, Int.toNat_natCast, List.take_left, List.drop_left]
    simp
theorem p_l05Drop (x : GStore) (t : Nat) (l : List GRow) (id : Int) (hx : smS x) (ht : x.Tables[t]? = some l) (hs : risB l = true) (hh : hasId l id = true) : spec_l05Drop x (t : Int) (atI (l.findIdx? (fun r => r.Id == id))) = some ⟨x.Tables.set t (dropI l id), x.Next⟩ := by
  have hl := hx.2 l (List.mem_of_getElem? ht)
  have h0 := hl.1
  have htl := (List.getElem?_eq_some_iff.1 ht).1
  unfold spec_l05Drop
  rw [p_l05Own x hx, Option.bind_some, if_pos (by omega), Nat.zero_add, Int.toNat_natCast, ht, Option.bind_some]
  obtain ⟨m, e, h1, ⟨_, A, q, B, rfl, rfl, hq, hA, hB⟩ | ⟨h, _⟩⟩ := row_at l id hs (by omega)
  · simp only [List.length_append, List.length_cons] at h0
    have ea : atI (some A.length) = (A.length : Int) := rfl
    rw [findIdx_split hA hq, drop_split hA hq hB, ea]
    have e2 : ((A.length : Int) + 1).toNat = A.length + 1 := by omega
    have e3 : (A ++ q :: B).drop (A.length + 1) = B := by rw [← List.drop_drop, List.drop_left]; rfl
    rw [w64_id (by omega), if_pos (by simp <;> omega), if_pos (by omega), if_pos (by simp <;> omega), e2, e3, Int.toNat_natCast, List.take_left, if_pos (by simp <;> omega), if_pos (by simp <;> omega), if_pos (by omega)]
    simp
  · rw [hh] at h; cases h
/-! what stays -/
theorem ris_app {A B : List GRow} {r : GRow} : risB A = true → risB B = true → (∀ x ∈ A, x.Id < r.Id) → (∀ x ∈ B, r.Id < x.Id) → risB (A ++ r :: B) = true := by
  have hc : ∀ (a : GRow) (l : List GRow), risB l = true → (∀ x ∈ l, a.Id < x.Id) → risB (a :: l) = true := by
    intro a l h1 h2
    cases l with
    | nil => rfl
    | cons b l => simp only [risB, Bool.and_eq_true, decide_eq_true_eq]; exact ⟨h2 b (by simp), h1⟩
  intro h1 h2 h3 h4
  induction A with
  | nil => exact hc r B h2 h4
  | cons a A ih =>
    have ha := risB_cons h1
    have har := h3 a (by simp)
    refine hc a (A ++ r :: B) (ih ha.1 (fun x hx => h3 x (by simp [hx]))) ?_
    intro x hx
    rcases List.mem_append.1 hx with h | h
    · exact ha.2 x h
    · rcases List.mem_cons.1 h with rfl | h
      · exact har
      · have := h4 x h; omega
theorem ris_sub {A B : List GRow} (h : List.Sublist A B) (hb : risB B = true) : risB A = true := by
  have hp := (risB_pair hb).sublist h
  have : ∀ l : List GRow, l.Pairwise (fun a b => a.Id < b.Id) → risB l = true := by
    intro l
    induction l with
    | nil => intro _; rfl
    | cons a l ih =>
      intro h
      rw [List.pairwise_cons] at h
      cases l with
      | nil => rfl
      | cons b l => simp only [risB, Bool.and_eq_true, decide_eq_true_eq]; exact ⟨h.1 b (by simp), ih h.2⟩
  exact this A hp
theorem ris_drop {l : List GRow} (id : Int) (h : risB l = true) : risB (dropI l id) = true := ris_sub List.filter_sublist h
theorem ris_put {l : List GRow} (r : GRow) (h : risB l = true) (hl : l.length ≤ 2 ^ 30) : risB (putR l r) = true := by
  obtain ⟨m, e, h1, ⟨hh, A, q, B, rfl, rfl, hq, hA, hB⟩ | ⟨hh, A, B, rfl, rfl, hA, hB⟩⟩ := row_at l r.Id h hl
  · rw [put_split hA hq]
    exact ris_app (ris_sub (List.sublist_append_left _ _) h) (ris_sub ((List.sublist_cons_self q B).trans (List.sublist_append_right _ _)) h) hA hB
  · rw [put_none hA hB]
    exact ris_app (ris_sub (List.sublist_append_left _ _) h) (ris_sub (List.sublist_append_right _ _) h) hA hB
theorem put_mem {l : List GRow} {r x : GRow} (h : x ∈ putR l r) : x = r ∨ x ∈ l := by
  induction l with
  | nil => simp [putR] at h; exact .inl h
  | cons y l ih =>
    rw [putR] at h
    split at h
    · rcases List.mem_cons.1 h with rfl | h
      · exact .inr (by simp)
      · rcases ih h with h | h
        · exact .inl h
        · exact .inr (by simp [h])
    · split at h
      · rcases List.mem_cons.1 h with rfl | h
        · exact .inl rfl
        · exact .inr (by simp [h])
      · rcases List.mem_cons.1 h with rfl | h
        · exact .inl rfl
        · exact .inr h
theorem put_len (l : List GRow) (r : GRow) : (putR l r).length ≤ l.length + 1 := by
  induction l with
  | nil => simp [putR]
  | cons y l ih =>
    rw [putR]
    split
    · simp only [List.length_cons]; omega
    · split <;> simp
theorem drop_mem {l : List GRow} {id : Int} {x : GRow} (h : x ∈ dropI l id) : x ∈ l := (List.mem_filter.1 h).1
theorem drop_len (l : List GRow) (id : Int) : (dropI l id).length ≤ l.length := List.length_filter_le _ _
theorem rowOfR_has {l : List GRow} {id : Int} {r : GRow} (h : rowOfR l id = r) (hr : ¬ r.Id = 0) : hasId l id = true := by
  unfold rowOfR at h
  cases hf : l.find? (fun r => r.Id == id) with
  | none => rw [hf] at h; subst h; exact absurd rfl hr
  | some y =>
    have := List.find?_some hf
    exact List.any_eq_true.2 ⟨y, List.mem_of_find?_eq_some hf, this⟩
def appU : List GUpdate → List GRow → List GRow × Int
  | [], l => (l, 0)
  | u :: us, l => if kindI u.Id u.Old u.New = 0 then (l, 1) else if ¬ rowOfR l u.Id = u.Old then (l, 13) else if u.New.Id = 0 then appU us (dropI l u.Id) else appU us (putR l u.New)
theorem kind_ge {id : Int} {o n : GRow} (h : ¬ kindI id o n = 0) : ¬ id < 1 := fun h1 => h (by unfold kindI; rw [if_pos h1])
theorem kind_del {id : Int} {o n : GRow} (h : ¬ kindI id o n = 0) (hn : n.Id = 0) : o.Id = id := by
  have h1 := kind_ge h
  unfold kindI at h
  rw [if_neg h1] at h
  by_cases a : o.Id = 0 ∧ n.Id = id
  · omega
  · rw [if_neg a] at h
    by_cases b : o.Id = id ∧ n.Id = 0
    · exact b.1
    · rw [if_neg b] at h
      by_cases c : o.Id = id ∧ n.Id = id
      · exact c.1
      · rw [if_neg c] at h; exact absurd rfl h
theorem sm_drop {l : List GRow} (id : Int) (h : smL l) : smL (dropI l id) := ⟨Nat.le_trans (drop_len l id) h.1, fun r hr => h.2 r (drop_mem hr)⟩
theorem sm_put {l : List GRow} {r : GRow} (h : smL l) (hr : smR r) (hl : l.length + 1 ≤ 2 ^ 29) : smL (putR l r) :=
  ⟨Nat.le_trans (put_len l r) hl, fun q hq => (put_mem hq).elim (fun e => by rw [e]; exact hr) (h.2 q)⟩
theorem p_iAU_L1 : ∀ (us : List GUpdate) (l : List GRow), risB l = true → smL l → l.length + us.length ≤ 2 ^ 20 → (∀ u ∈ us, smR u.New) →
    impl_ApplyUpdates_L1 us l = some (if (appU us l).2 = 0 then .go (appU us l).1 else .ret (appU us l))
  | [], l, _, _, _, _ => by rw [impl_ApplyUpdates_L1]; rfl
  | u :: us, l, hs, hm, hl, hu => by
    simp only [List.length_cons] at hl
    have hu1 := hu u (by simp)
    have hu2 : ∀ v ∈ us, smR v.New := fun v hv => hu v (by simp [hv])
    rw [impl_ApplyUpdates_L1, appU]
    unfold impl_applyRow_h0 impl_applyRow_h1
    rw [p_kindOf]
    by_cases h1 : kindI u.Id u.Old u.New = 0
    · simp [h1, onIdx]
    · rw [p_rowOf l u.Id hs hm]
      by_cases h2 : rowOfR l u.Id = u.Old
      · rw [if_neg h1, if_neg (show ¬ ¬ rowOfR l u.Id = u.Old from fun h => h h2)]
        by_cases h3 : u.New.Id = 0
        · simp only [Option.bind_some, beq_iff_eq, h1, if_false, p_iSameRow, h2, decide_true, Bool.not_true, Bool.false_eq_true, onIdx, h3, if_true]
          exact p_iAU_L1 us (dropI l u.Id) (ris_drop _ hs) (sm_drop _ hm) (by have := drop_len l u.Id; omega) hu2
        · simp only [Option.bind_some, beq_iff_eq, h1, if_false, p_iSameRow, h2, decide_true, Bool.not_true, Bool.false_eq_true, onIdx, h3, p_copyRow u.New hu1.1 hu1.2, p_put l u.New hs hm]
          exact p_iAU_L1 us _ (ris_put _ hs (by omega)) (sm_put hm hu1 (by omega)) (by have := put_len l u.New; omega) hu2
      · rw [if_neg h1, if_pos h2]
        simp [h1, p_iSameRow, h2, onIdx]
theorem smS1 {l : List GRow} (h : smL l) : smS ⟨[l], 0⟩ := ⟨by simp, fun x hx => by simp at hx; rw [hx]; exact h⟩
theorem p_sAU_L1 : ∀ (us : List GUpdate) (l : List GRow), risB l = true → smL l → l.length + us.length ≤ 2 ^ 20 → (∀ u ∈ us, smR u.New) →
    spec_ApplyUpdates_L1 us [l] 0 = some (if (appU us l).2 = 0 then .go ([(appU us l).1], 0) else .ret (appU us l))
  | [], l, _, _, _, _ => by rw [spec_ApplyUpdates_L1]; rfl
  | u :: us, l, hs, hm, hl, hu => by
    simp only [List.length_cons] at hl
    have hu1 := hu u (by simp)
    have hu2 : ∀ v ∈ us, smR v.New := fun v hv => hu v (by simp [hv])
    have hi : idx [l] 0 = some l := rfl
    rw [spec_ApplyUpdates_L1, appU]
    have e0 : (if decide (u.Id < 1) = true then some true else (spec_l10Kind (⟨0, u.Id, u.Old, u.New⟩ : GChange)).bind fun r => some (r == 0) : Option Bool) = some (decide (kindI u.Id u.Old u.New = 0)) := by
      by_cases h : u.Id < 1
      · have : kindI u.Id u.Old u.New = 0 := by unfold kindI; rw [if_pos h]
        simp [h, this]
      · rw [p_l10Kind _ _ _ _ h]
        by_cases h2 : kindI u.Id u.Old u.New = 0 <;> simp [h, h2]
    rw [e0, Option.bind_some]
    by_cases h1 : kindI u.Id u.Old u.New = 0
    · simp [h1, hi]
    · rw [if_neg (by simpa using h1), if_neg h1, hi, Option.bind_some, p_l10Row l u.Id hs hm, Option.bind_some, p_l05SameRow, Option.bind_some]
      by_cases h2 : rowOfR l u.Id = u.Old
      · rw [if_neg (show ¬ (!decide (rowOfR l u.Id = u.Old)) = true by simp [h2]), if_neg (show ¬ ¬ rowOfR l u.Id = u.Old from fun h => h h2)]
        by_cases h3 : u.New.Id = 0
        · have hh : hasId l u.Id = true := by
            have h4 := kind_del h1 h3
            have h5 := kind_ge h1
            exact rowOfR_has h2 (by omega)
          have e1 : spec_l05Drop ⟨[l], 0⟩ 0 (atI (l.findIdx? (fun r => r.Id == u.Id))) = some ⟨[dropI l u.Id], 0⟩ := p_l05Drop ⟨[l], 0⟩ 0 l u.Id (smS1 hm) rfl hs hh
          rw [if_pos (by simpa using h3), if_pos h3, Option.bind_some, p_l05Place, Option.bind_some, e1, Option.bind_some]
          exact p_sAU_L1 us _ (ris_drop _ hs) (sm_drop _ hm) (by have := drop_len l u.Id; omega) hu2
        · have e1 : spec_l05Put ⟨[l], 0⟩ 0 u.New = some ⟨[putR l u.New], 0⟩ := p_l05Put ⟨[l], 0⟩ 0 l u.New (smS1 hm) rfl hs hu1
          rw [if_neg (by simpa using h3), if_neg h3, e1, Option.bind_some]
          exact p_sAU_L1 us _ (ris_put _ hs (by omega)) (sm_put hm hu1 (by omega)) (by have := put_len l u.New; omega) hu2
      · rw [if_pos (show (!decide (rowOfR l u.Id = u.Old)) = true by simp [h2]), if_pos (show ¬ rowOfR l u.Id = u.Old from h2)]
        simp
theorem appU_mem : ∀ (us : List GUpdate) (l : List GRow) (r : GRow), r ∈ (appU us l).1 → r ∈ l ∨ ∃ u ∈ us, r = u.New
  | [], l, r, h => .inl h
  | u :: us, l, r, h => by
    rw [appU] at h
    split at h
    · exact .inl h
    · split at h
      · exact .inl h
      · split at h
        · rcases appU_mem us _ r h with h | ⟨v, hv, e⟩
          · exact .inl (drop_mem h)
          · exact .inr ⟨v, by simp [hv], e⟩
        · rcases appU_mem us _ r h with h | ⟨v, hv, e⟩
          · rcases put_mem h with h | h
            · exact .inr ⟨u, by simp, h⟩
            · exact .inl h
          · exact .inr ⟨v, by simp [hv], e⟩
theorem appU_len : ∀ (us : List GUpdate) (l : List GRow), (appU us l).1.length ≤ l.length + us.length
  | [], l => by simp [appU]
  | u :: us, l => by
    rw [appU, List.length_cons]
    split
    · simp
    · split
      · simp
      · split
        · have := appU_len us (dropI l u.Id)
          have := drop_len l u.Id
          omega
        · have := appU_len us (putR l u.New)
          have := put_len l u.New
          omega
theorem p_ApplyUpdates (l : List GRow) (us : List GUpdate) (hm : smL l) (hu : ∀ u ∈ us, smR u.New) :
    ∃ o c, impl_ApplyUpdates l us = some (o, c) ∧ spec_ApplyUpdates l us = some (o, c) ∧ (o = [] ∨ (l.length ≤ 4096 ∧ us.length ≤ 4096 ∧ o = (appU us l).1)) := by
  have hml : l.length ≤ maxLen := Nat.le_trans hm.1 (by decide)
  unfold impl_ApplyUpdates spec_ApplyUpdates impl_isList_impl_Row impl_isList_impl_Update
  by_cases c1 : (l.length : Int) ≤ 4096
  · by_cases c2 : (us.length : Int) ≤ 4096
    · have d1 : ¬ (l.length : Int) > 4096 := by omega
      have d2 : ¬ (us.length : Int) > 4096 := by omega
      rw [p_areRising l hml, p_l05Plain ⟨[l], 0⟩ (fun x hx => by simp at hx; rw [hx]; exact hml), p_copyRows l hm, p_l05Own _ (smS1 hm)]
      cases hs : risB l with
      | false => exact ⟨[], 1, by simp [c1, c2, hs], by simp [d1, d2, hs], .inl rfl⟩
      | true =>
        have e1 := p_iAU_L1 us l hs hm (by omega) hu
        have e2 := p_sAU_L1 us l hs hm (by omega) hu
        refine ⟨(appU us l).1, (appU us l).2, ?_, ?_, .inr ⟨by omega, by omega, rfl⟩⟩
        · by_cases h : (appU us l).2 = 0 <;> simp [c1, c2, hs, e1, h]
        · have hi : ∀ x : List GRow, idx [x] 0 = some x := fun _ => rfl
          by_cases h : (appU us l).2 = 0 <;> simp [d1, d2, hs, e2, h, hi]
    · have d2 : (us.length : Int) > 4096 := by omega
      exact ⟨[], 2, by simp [c1, c2], by by_cases d1 : (l.length : Int) > 4096 <;> simp [d1, d2], .inl rfl⟩
  · have d1 : (l.length : Int) > 4096 := by omega
    exact ⟨[], 2, by simp [c1], by simp [d1], .inl rfl⟩
theorem sm_of_wt {r : GRow} (h : wtRow r ≤ 2 ^ 30) : smR r := by
  unfold wtRow wtAtomSS at h
  refine ⟨by omega, fun d hd => ?_⟩
  have := swAtomSS_mem hd
  unfold wtAtomS at this
  omega
theorem sw_bound (b : Nat) : ∀ l : List GRow, (∀ r ∈ l, wtRow r ≤ b) → swRowS l ≤ l.length * b
  | [], _ => by simp [swRowS]
  | r :: l, h => by
    have ih := sw_bound b l (fun q hq => h q (by simp [hq]))
    have := h r (by simp)
    simp only [swRowS, List.length_cons, Nat.add_mul]
    omega
theorem law_FnExactApplyUpdates (l : List GRow) (us : List GUpdate) (hl : okL okGRow l) (hus : okL okGUpdate us) : laws_FnExactApplyUpdates l us = some true := by
  unfold laws_FnExactApplyUpdates
  obtain ⟨r1, e1, hr1⟩ := p_szRowS l 1048576 (by omega) (by omega) hl
  rw [e1, Option.bind_some]
  by_cases hn1 : r1 < 0
  · rw [if_pos (decide_eq_true hn1)]
  rw [if_neg (by simpa using hn1)]
  obtain ⟨a1, a2⟩ := hr1.resolve_left hn1
  obtain ⟨r2, e2, hr2⟩ := p_szUpdateS us r1 (by omega) (by omega) hus
  rw [e2, Option.bind_some]
  by_cases hn2 : r2 < 0
  · rw [if_pos (decide_eq_true hn2)]
  rw [if_neg (by simpa using hn2)]
  obtain ⟨b1, b2⟩ := hr2.resolve_left hn2
  have t1 := p_toRowS l (by omega)
  have t2 := p_toUpdateS us (by omega)
  have hwl : ∀ r ∈ l, wtRow r ≤ 2 ^ 20 := fun r hr => by have := swRowS_mem hr; unfold wtRowS at a2; omega
  have hwu : ∀ u ∈ us, wtRow u.New ≤ 2 ^ 20 := fun u hu => by have := swUpdateS_mem hu; unfold wtUpdate at this; unfold wtUpdateS at b2; omega
  have hml : smL l := ⟨by unfold wtRowS at a2; omega, fun r hr => sm_of_wt (by have := hwl r hr; omega)⟩
  obtain ⟨o, c, f1, f2, hk⟩ := p_ApplyUpdates l us hml (fun u hu => sm_of_wt (by have := hwu u hu; omega))
  have hwo : wtRowS o < 2 ^ 50 := by
    unfold wtRowS
    rcases hk with hk | ⟨k1, k2, k3⟩
    · rw [hk]; simp [swRowS]
    · have hm := sw_bound (2 ^ 20) o (fun r hr => by
        rw [k3] at hr
        rcases appU_mem us l r hr with h | ⟨u, hu, e⟩
        · exact hwl r h
        · rw [e]; exact hwu u hu)
      have hlen := appU_len us l
      rw [← k3] at hlen
      have : o.length * 2 ^ 20 ≤ 8192 * 2 ^ 20 := Nat.mul_le_mul_right _ (by omega)
      omega
  have q1 := cnt_wtRowS l
  have q2 := cnt_wtUpdateS us
  have m1 := p_markRowS l 1 (fit_wtRowS l (by omega)) (by omega) (by omega)
  have m2 := p_markUpdateS us (1 + (cntRowS l : Nat)) (fit_wtUpdateS us (by omega)) (by omega) (by omega)
  have q4 := cnt_wtRowS o
  have m4 := p_markRowS o 1 (fit_wtRowS o (by omega)) (by omega) (by omega)
  have m5 := p_heldRowS o 1 (fit_wtRowS o (by omega)) (by omega) (by omega)
  have n1 : decide ((1 : Int) + (cntRowS l : Nat) + (cntUpdateS us : Nat) < 0) = false := decide_eq_false (by omega)
  have n2 : decide ((1 : Int) + (cntRowS o : Nat) < 0) = false := decide_eq_false (by omega)
  simp only [t1, t2, Option.bind_some, f1, f2, p_eqRowS, p_eqUpdateS, m1, m2, m4, m5, n1, n2, Bool.not_true, Bool.false_eq_true, if_false, bne_self_eq_false, cond_false]
end Go.R
