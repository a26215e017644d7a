/- The plain law of SameRows. -/
import Derived.Test.YtgmkibkmcohikaaSRH
set_option linter.all false
namespace Go.R
open Go
set_option linter.all false
theorem atomEq (x y : GAtom) : (x.Kind == y.Kind && (x.N == y.N && (x.T == y.T && true))) = decide (x = y) := by
  cases x; cases y
  rw [Bool.eq_iff_iff]
  simp
theorem rowEq (x y : GRow) : (x = y) ↔ (x.Id = y.Id ∧ x.Cells = y.Cells) := by
  cases x; cases y; simp
theorem lenne {α : Type} {a b : List α} (h : ¬ a.length = b.length) : ((a.length : Int) != (b.length : Int)) = true := by
  simp only [bne_iff_ne, ne_eq]; omega
theorem leneq {α : Type} {a b : List α} (h : a.length = b.length) : ((a.length : Int) != (b.length : Int)) = false := by
  rw [h]; simp
theorem p_slices_Equal_impl_Atom_impl_Atom_L1 (b : List GAtom) : ∀ (xs : List GAtom) (i : Nat), i + xs.length = b.length → slices_Equal_impl_Atom_impl_Atom_L1 b xs i = some (if xs = b.drop i then .go () else .ret false)
  | [], i, h => by
    rw [slices_Equal_impl_Atom_impl_Atom_L1, List.drop_of_length_le (by simp at h; omega)]; rfl
  | x :: xs, i, h => by
    obtain ⟨y, hy⟩ := drop_prev (l := b) (i := i) (by simp at h; omega)
    have hd : b.drop i = y :: b.drop (i + 1) := by
      obtain ⟨h1, h2⟩ := List.getElem?_eq_some_iff.1 hy
      rw [List.drop_eq_getElem_cons h1, h2]
    rw [slices_Equal_impl_Atom_impl_Atom_L1, idx_nat, hy, Option.bind_some, atomEq, p_slices_Equal_impl_Atom_impl_Atom_L1 b xs (i + 1) (by simp at h ⊢; omega), hd]
    by_cases h1 : x = y <;> by_cases h2 : xs = b.drop (i + 1) <;> simp [h1, h2]
theorem p_slices_Equal_impl_Atom_impl_Atom (a b : List GAtom) : slices_Equal_impl_Atom_impl_Atom a b = some (decide (a = b)) := by
  unfold slices_Equal_impl_Atom_impl_Atom
  by_cases h : a.length = b.length
  · rw [leneq h, if_neg (by simp), p_slices_Equal_impl_Atom_impl_Atom_L1 b a 0 (by omega), Option.bind_some, List.drop_zero]
    by_cases h2 : a = b <;> simp [h2]
  · rw [lenne h, if_pos rfl, decide_eq_false (fun e => h (by rw [e]))]
theorem p_spec_l03Same_L1 (b : List GAtom) : ∀ (xs : List GAtom) (i : Nat), i + xs.length = b.length → spec_l03Same_L1 b xs i = some (if xs = b.drop i then .go () else .ret false)
  | [], i, h => by
    rw [spec_l03Same_L1, List.drop_of_length_le (by simp at h; omega)]; rfl
  | x :: xs, i, h => by
    obtain ⟨y, hy⟩ := drop_prev (l := b) (i := i) (by simp at h; omega)
    have hd : b.drop i = y :: b.drop (i + 1) := by
      obtain ⟨h1, h2⟩ := List.getElem?_eq_some_iff.1 hy
      rw [List.drop_eq_getElem_cons h1, h2]
    rw [spec_l03Same_L1, idx_nat, hy, Option.bind_some, atomEq, p_spec_l03Same_L1 b xs (i + 1) (by simp at h ⊢; omega), hd]
    by_cases h1 : x = y <;> by_cases h2 : xs = b.drop (i + 1) <;> simp [h1, h2]
theorem p_spec_l03Same (a b : List GAtom) : spec_l03Same a b = some (decide (a = b)) := by
  unfold spec_l03Same
  by_cases h : a.length = b.length
  · rw [leneq h, if_neg (by simp), p_spec_l03Same_L1 b a 0 (by omega), Option.bind_some, List.drop_zero]
    by_cases h2 : a = b <;> simp [h2]
  · rw [lenne h, if_pos rfl, decide_eq_false (fun e => h (by rw [e]))]
theorem p_slices_EqualFunc_impl_Atom_impl_Atom_impl_Atom_impl_Atom_L1 (f : List GAtom → List GAtom → Option Bool) (hf : ∀ x y, f x y = some (decide (x = y))) (b : List (List GAtom)) : ∀ (xs : List (List GAtom)) (i : Nat), i + xs.length = b.length → slices_EqualFunc_impl_Atom_impl_Atom_impl_Atom_impl_Atom_L1 b f xs i = some (if xs = b.drop i then .go () else .ret false)
  | [], i, h => by
    rw [slices_EqualFunc_impl_Atom_impl_Atom_impl_Atom_impl_Atom_L1, List.drop_of_length_le (by simp at h; omega)]; rfl
  | x :: xs, i, h => by
    obtain ⟨y, hy⟩ := drop_prev (l := b) (i := i) (by simp at h; omega)
    have hd : b.drop i = y :: b.drop (i + 1) := by
      obtain ⟨h1, h2⟩ := List.getElem?_eq_some_iff.1 hy
      rw [List.drop_eq_getElem_cons h1, h2]
    rw [slices_EqualFunc_impl_Atom_impl_Atom_impl_Atom_impl_Atom_L1, idx_nat, hy, Option.bind_some, hf, Option.bind_some, p_slices_EqualFunc_impl_Atom_impl_Atom_impl_Atom_impl_Atom_L1 f hf b xs (i + 1) (by simp at h ⊢; omega), hd]
    by_cases h1 : x = y <;> by_cases h2 : xs = b.drop (i + 1) <;> simp [h1, h2]
theorem p_slices_EqualFunc_impl_Atom_impl_Atom_impl_Atom_impl_Atom (f : List GAtom → List GAtom → Option Bool) (hf : ∀ x y, f x y = some (decide (x = y))) (a b : List (List GAtom)) : slices_EqualFunc_impl_Atom_impl_Atom_impl_Atom_impl_Atom a b f = some (decide (a = b)) := by
  unfold slices_EqualFunc_impl_Atom_impl_Atom_impl_Atom_impl_Atom
  by_cases h : a.length = b.length
  · rw [leneq h, if_neg (by simp), p_slices_EqualFunc_impl_Atom_impl_Atom_impl_Atom_impl_Atom_L1 f hf b a 0 (by omega), Option.bind_some, List.drop_zero]
    by_cases h2 : a = b <;> simp [h2]
  · rw [lenne h, if_pos rfl, decide_eq_false (fun e => h (by rw [e]))]
theorem p_sameRow (a b : GRow) : impl_sameRow a b = some (decide (a = b)) := by
  unfold impl_sameRow
  rw [p_slices_EqualFunc_impl_Atom_impl_Atom_impl_Atom_impl_Atom _ p_slices_Equal_impl_Atom_impl_Atom]
  by_cases h : a.Id = b.Id <;> simp [h, rowEq]
theorem p_slices_EqualFunc_impl_Row_impl_Row_impl_Row_impl_Row_L1 (f : GRow → GRow → Option Bool) (hf : ∀ x y, f x y = some (decide (x = y))) (b : List GRow) : ∀ (xs : List GRow) (i : Nat), i + xs.length = b.length → slices_EqualFunc_impl_Row_impl_Row_impl_Row_impl_Row_L1 b f xs i = some (if xs = b.drop i then .go () else .ret false)
  | [], i, h => by
    rw [slices_EqualFunc_impl_Row_impl_Row_impl_Row_impl_Row_L1, List.drop_of_length_le (by simp at h; omega)]; rfl
  | x :: xs, i, h => by
    obtain ⟨y, hy⟩ := drop_prev (l := b) (i := i) (by simp at h; omega)
    have hd : b.drop i = y :: b.drop (i + 1) := by
      obtain ⟨h1, h2⟩ := List.getElem?_eq_some_iff.1 hy
      rw [List.drop_eq_getElem_cons h1, h2]
    rw [slices_EqualFunc_impl_Row_impl_Row_impl_Row_impl_Row_L1, idx_nat, hy, Option.bind_some, hf, Option.bind_some, p_slices_EqualFunc_impl_Row_impl_Row_impl_Row_impl_Row_L1 f hf b xs (i + 1) (by simp at h ⊢; omega), hd]
    by_cases h1 : x = y <;> by_cases h2 : xs = b.drop (i + 1) <;> simp [h1, h2]
theorem p_slices_EqualFunc_impl_Row_impl_Row_impl_Row_impl_Row (f : GRow → GRow → Option Bool) (hf : ∀ x y, f x y = some (decide (x = y))) (a b : List GRow) : slices_EqualFunc_impl_Row_impl_Row_impl_Row_impl_Row a b f = some (decide (a = b)) := by
  unfold slices_EqualFunc_impl_Row_impl_Row_impl_Row_impl_Row
  by_cases h : a.length = b.length
  · rw [leneq h, if_neg (by simp), p_slices_EqualFunc_impl_Row_impl_Row_impl_Row_impl_Row_L1 f hf b a 0 (by omega), Option.bind_some, List.drop_zero]
    by_cases h2 : a = b <;> simp [h2]
  · rw [lenne h, if_pos rfl, decide_eq_false (fun e => h (by rw [e]))]
theorem p_sameRows (a b : List GRow) : impl_sameRows a b = some (decide (a = b)) := by
  unfold impl_sameRows
  rw [p_slices_EqualFunc_impl_Row_impl_Row_impl_Row_impl_Row _ p_sameRow]; rfl
theorem p_l05SameRow_L1 (b : GRow) : ∀ (xs : List (List GAtom)) (i : Nat), i + xs.length = b.Cells.length → spec_l05SameRow_L1 b xs i = some (if xs = b.Cells.drop i then .go () else .ret false)
  | [], i, h => by
    rw [spec_l05SameRow_L1, List.drop_of_length_le (by simp at h; omega)]; rfl
  | x :: xs, i, h => by
    obtain ⟨y, hy⟩ := drop_prev (l := b.Cells) (i := i) (by simp at h; omega)
    have hd : b.Cells.drop i = y :: b.Cells.drop (i + 1) := by
      obtain ⟨h1, h2⟩ := List.getElem?_eq_some_iff.1 hy
      rw [List.drop_eq_getElem_cons h1, h2]
    rw [spec_l05SameRow_L1, idx_nat, hy, Option.bind_some, p_spec_l03Same, Option.bind_some, p_l05SameRow_L1 b xs (i + 1) (by simp at h ⊢; omega), hd]
    by_cases h1 : x = y <;> by_cases h2 : xs = b.Cells.drop (i + 1) <;> simp [h1, h2]
theorem p_l05SameRow (a b : GRow) : spec_l05SameRow a b = some (decide (a = b)) := by
  unfold spec_l05SameRow
  by_cases h0 : a.Id = b.Id
  · by_cases h : a.Cells.length = b.Cells.length
    · rw [leneq h, p_l05SameRow_L1 b a.Cells 0 (by omega), List.drop_zero]
      by_cases h2 : a.Cells = b.Cells <;> simp [h0, h2, rowEq]
    · rw [lenne h]
      have : ¬ a.Cells = b.Cells := fun e => h (by rw [e])
      simp [h0, rowEq, this]
  · simp [h0, rowEq]
theorem p_spec_SameRows_L1 (b : List GRow) : ∀ (xs : List GRow) (i : Nat), i + xs.length = b.length → spec_SameRows_L1 b xs i = some (if xs = b.drop i then .go () else .ret false)
  | [], i, h => by
    rw [spec_SameRows_L1, List.drop_of_length_le (by simp at h; omega)]; rfl
  | x :: xs, i, h => by
    obtain ⟨y, hy⟩ := drop_prev (l := b) (i := i) (by simp at h; omega)
    have hd : b.drop i = y :: b.drop (i + 1) := by
      obtain ⟨h1, h2⟩ := List.getElem?_eq_some_iff.1 hy
      rw [List.drop_eq_getElem_cons h1, h2]
    rw [spec_SameRows_L1, idx_nat, hy, Option.bind_some, p_l05SameRow, Option.bind_some, p_spec_SameRows_L1 b xs (i + 1) (by simp at h ⊢; omega), hd]
    by_cases h1 : x = y <;> by_cases h2 : xs = b.drop (i + 1) <;> simp [h1, h2]
theorem p_isList {b : List GRow} : impl_isList_impl_Row b = some (decide ((b.length : Int) ≤ 4096)) := by
  unfold impl_isList_impl_Row; rfl
theorem p_SameRows (a b : List GRow) : ∃ r, impl_SameRows a b = some r ∧ spec_SameRows a b = some r := by
  unfold impl_SameRows spec_SameRows
  rw [p_isList, p_isList, p_sameRows]
  by_cases h1 : (a.length : Int) ≤ 4096
  · have h1' : ¬ (a.length : Int) > 4096 := by omega
    by_cases h2 : (b.length : Int) ≤ 4096
    · have h2' : ¬ (b.length : Int) > 4096 := by omega
      by_cases h : a.length = b.length
      · rw [leneq h, p_spec_SameRows_L1 b a 0 (by omega), List.drop_zero]
        by_cases h3 : a = b <;> simp [h1, h2, h1', h2', h3]
      · rw [lenne h]
        have : ¬ a = b := fun e => h (by rw [e])
        simp [h1, h2, h1', h2', this]
    · have h2' : (b.length : Int) > 4096 := by omega
      simp [h1, h2, h1', h2']
  · have h1' : (a.length : Int) > 4096 := by omega
    simp [h1, h1']
theorem law_FnExactSameRows (a b : List GRow) (ha : okL okGRow a) (hb : okL okGRow b) : laws_FnExactSameRows a b = some true := by
  unfold laws_FnExactSameRows
  obtain ⟨r, e, hr⟩ := p_szRowS a 1048576 (by omega) (by omega) ha
  rw [e, Option.bind_some]
  split
  · rfl
  · rename_i hn
    simp only [decide_eq_true_eq] at hn
    have hr := hr.resolve_left hn
    obtain ⟨r2, e2, hr2⟩ := p_szRowS b r (by omega) (by omega) hb
    rw [e2, Option.bind_some]
    split
    · rfl
    · rename_i hn2
      simp only [decide_eq_true_eq] at hn2
      have hr2 := hr2.resolve_left hn2
      have t1 := p_toRowS a (smRowS_mono (by omega) hr.2.2)
      have t2 := p_toRowS b (smRowS_mono (by omega) hr2.2.2)
      obtain ⟨q, e3, e4⟩ := p_SameRows a b
      simp only [t1, t2, Option.bind_some, e3, e4, p_eqRowS]
      simp
end Go.R
