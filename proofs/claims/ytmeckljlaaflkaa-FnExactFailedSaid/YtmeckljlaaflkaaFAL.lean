/- Plain laws of what this statement reaches. -/
import Derived.Test.YtmeckljlaaflkaaFAH
import Derived.Test.YtmeckljlaaflkaaP0
set_option linter.all false
namespace Go.R
open Go
set_option linter.all false
theorem p_slices_IndexFunc_impl_Atom_impl_AtomS_L1 (f : (List GAtom) → Option Bool) (p : (List GAtom) → Bool) : ∀ (xs : List (List GAtom)) (i : Nat), (∀ x ∈ xs, f x = some (p x)) → slices_IndexFunc_impl_Atom_impl_AtomS_L1 f xs i = some (match xs.findIdx? p with | some k => .ret ((i + k : Nat) : Int) | none => .go ())
  | [], i, _ => by rw [slices_IndexFunc_impl_Atom_impl_AtomS_L1]; rfl
  | x :: xs, i, h => by
    rw [slices_IndexFunc_impl_Atom_impl_AtomS_L1, h x (by simp), Option.bind_some, p_slices_IndexFunc_impl_Atom_impl_AtomS_L1 f p xs (i + 1) (fun y hy => h y (by simp [hy])), List.findIdx?_cons]
    cases hp : p x with
    | true => simp
    | false =>
      cases hq : xs.findIdx? p with
      | none => simp
      | some k => simp; omega
theorem p_slices_IndexFunc_impl_Atom_impl_AtomS (f : (List GAtom) → Option Bool) (p : (List GAtom) → Bool) (xs : List (List GAtom)) (h : ∀ x ∈ xs, f x = some (p x)) : slices_IndexFunc_impl_Atom_impl_AtomS xs f = some (match xs.findIdx? p with | some k => (k : Int) | none => -1) := by
  unfold slices_IndexFunc_impl_Atom_impl_AtomS
  rw [p_slices_IndexFunc_impl_Atom_impl_AtomS_L1 f p xs 0 h]
  cases hq : xs.findIdx? p with
  | none => rfl
  | some k => simp
theorem p_slices_IndexFunc_impl_Result_impl_Result_L1 (f : GResult → Option Bool) (p : GResult → Bool) : ∀ (xs : List GResult) (i : Nat), (∀ x ∈ xs, f x = some (p x)) → slices_IndexFunc_impl_Result_impl_Result_L1 f xs i = some (match xs.findIdx? p with | some k => .ret ((i + k : Nat) : Int) | none => .go ())
  | [], i, _ => by rw [slices_IndexFunc_impl_Result_impl_Result_L1]; rfl
  | x :: xs, i, h => by
    rw [slices_IndexFunc_impl_Result_impl_Result_L1, h x (by simp), Option.bind_some, p_slices_IndexFunc_impl_Result_impl_Result_L1 f p xs (i + 1) (fun y hy => h y (by simp [hy])), List.findIdx?_cons]
    cases hp : p x with
    | true => simp
    | false =>
      cases hq : xs.findIdx? p with
      | none => simp
      | some k => simp; omega
theorem p_slices_IndexFunc_impl_Result_impl_Result (f : GResult → Option Bool) (p : GResult → Bool) (xs : List GResult) (h : ∀ x ∈ xs, f x = some (p x)) : slices_IndexFunc_impl_Result_impl_Result xs f = some (match xs.findIdx? p with | some k => (k : Int) | none => -1) := by
  unfold slices_IndexFunc_impl_Result_impl_Result
  rw [p_slices_IndexFunc_impl_Result_impl_Result_L1 f p xs 0 h]
  cases hq : xs.findIdx? p with
  | none => rfl
  | some k => simp
theorem p_slices_IndexFunc_impl_Row_impl_Row_L1 (f : GRow → Option Bool) (p : GRow → Bool) : ∀ (xs : List GRow) (i : Nat), (∀ x ∈ xs, f x = some (p x)) → slices_IndexFunc_impl_Row_impl_Row_L1 f xs i = some (match xs.findIdx? p with | some k => .ret ((i + k : Nat) : Int) | none => .go ())
  | [], i, _ => by rw [slices_IndexFunc_impl_Row_impl_Row_L1]; rfl
  | x :: xs, i, h => by
    rw [slices_IndexFunc_impl_Row_impl_Row_L1, h x (by simp), Option.bind_some, p_slices_IndexFunc_impl_Row_impl_Row_L1 f p xs (i + 1) (fun y hy => h y (by simp [hy])), List.findIdx?_cons]
    cases hp : p x with
    | true => simp
    | false =>
      cases hq : xs.findIdx? p with
      | none => simp
      | some k => simp; omega
theorem p_slices_IndexFunc_impl_Row_impl_Row (f : GRow → Option Bool) (p : GRow → Bool) (xs : List GRow) (h : ∀ x ∈ xs, f x = some (p x)) : slices_IndexFunc_impl_Row_impl_Row xs f = some (match xs.findIdx? p with | some k => (k : Int) | none => -1) := by
  unfold slices_IndexFunc_impl_Row_impl_Row
  rw [p_slices_IndexFunc_impl_Row_impl_Row_L1 f p xs 0 h]
  cases hq : xs.findIdx? p with
  | none => rfl
  | some k => simp
theorem p_slices_IndexFunc_string_string_L1 (f : Str → Option Bool) (p : Str → Bool) : ∀ (xs : List Str) (i : Nat), (∀ x ∈ xs, f x = some (p x)) → slices_IndexFunc_string_string_L1 f xs i = some (match xs.findIdx? p with | some k => .ret ((i + k : Nat) : Int) | none => .go ())
  | [], i, _ => by rw [slices_IndexFunc_string_string_L1]; rfl
  | x :: xs, i, h => by
    rw [slices_IndexFunc_string_string_L1, h x (by simp), Option.bind_some, p_slices_IndexFunc_string_string_L1 f p xs (i + 1) (fun y hy => h y (by simp [hy])), List.findIdx?_cons]
    cases hp : p x with
    | true => simp
    | false =>
      cases hq : xs.findIdx? p with
      | none => simp
      | some k => simp; omega
theorem p_slices_IndexFunc_string_string (f : Str → Option Bool) (p : Str → Bool) (xs : List Str) (h : ∀ x ∈ xs, f x = some (p x)) : slices_IndexFunc_string_string xs f = some (match xs.findIdx? p with | some k => (k : Int) | none => -1) := by
  unfold slices_IndexFunc_string_string
  rw [p_slices_IndexFunc_string_string_L1 f p xs 0 h]
  cases hq : xs.findIdx? p with
  | none => rfl
  | some k => simp
theorem p_slices_ContainsFunc_impl_Atom_impl_AtomS (f : (List GAtom) → Option Bool) (p : (List GAtom) → Bool) (xs : List (List GAtom)) (h : ∀ x ∈ xs, f x = some (p x)) : slices_ContainsFunc_impl_Atom_impl_AtomS xs f = some (xs.any p) := by
  unfold slices_ContainsFunc_impl_Atom_impl_AtomS
  rw [p_slices_IndexFunc_impl_Atom_impl_AtomS f p xs h, Option.bind_some]
  cases hq : xs.findIdx? p with
  | none =>
    have : xs.any p = false := by
      rw [List.any_eq_false]
      intro x hx
      have := List.findIdx?_eq_none_iff.1 hq x hx
      simp [this]
    rw [this]; rfl
  | some k =>
    have : xs.any p = true := by
      obtain ⟨x, hx, hp⟩ : ∃ x, x ∈ xs ∧ p x = true := by
        have := List.findIdx?_eq_some_iff_getElem.1 hq
        obtain ⟨hk, h1, _⟩ := this
        exact ⟨xs[k], List.getElem_mem _, h1⟩
      exact List.any_eq_true.2 ⟨x, hx, hp⟩
    rw [this]
    simp
theorem p_slices_ContainsFunc_impl_Result_impl_Result (f : GResult → Option Bool) (p : GResult → Bool) (xs : List GResult) (h : ∀ x ∈ xs, f x = some (p x)) : slices_ContainsFunc_impl_Result_impl_Result xs f = some (xs.any p) := by
  unfold slices_ContainsFunc_impl_Result_impl_Result
  rw [p_slices_IndexFunc_impl_Result_impl_Result f p xs h, Option.bind_some]
  cases hq : xs.findIdx? p with
  | none =>
    have : xs.any p = false := by
      rw [List.any_eq_false]
      intro x hx
      have := List.findIdx?_eq_none_iff.1 hq x hx
      simp [this]
    rw [this]; rfl
  | some k =>
    have : xs.any p = true := by
      obtain ⟨x, hx, hp⟩ : ∃ x, x ∈ xs ∧ p x = true := by
        have := List.findIdx?_eq_some_iff_getElem.1 hq
        obtain ⟨hk, h1, _⟩ := this
        exact ⟨xs[k], List.getElem_mem _, h1⟩
      exact List.any_eq_true.2 ⟨x, hx, hp⟩
    rw [this]
    simp
theorem p_slices_ContainsFunc_impl_Row_impl_Row (f : GRow → Option Bool) (p : GRow → Bool) (xs : List GRow) (h : ∀ x ∈ xs, f x = some (p x)) : slices_ContainsFunc_impl_Row_impl_Row xs f = some (xs.any p) := by
  unfold slices_ContainsFunc_impl_Row_impl_Row
  rw [p_slices_IndexFunc_impl_Row_impl_Row f p xs h, Option.bind_some]
  cases hq : xs.findIdx? p with
  | none =>
    have : xs.any p = false := by
      rw [List.any_eq_false]
      intro x hx
      have := List.findIdx?_eq_none_iff.1 hq x hx
      simp [this]
    rw [this]; rfl
  | some k =>
    have : xs.any p = true := by
      obtain ⟨x, hx, hp⟩ : ∃ x, x ∈ xs ∧ p x = true := by
        have := List.findIdx?_eq_some_iff_getElem.1 hq
        obtain ⟨hk, h1, _⟩ := this
        exact ⟨xs[k], List.getElem_mem _, h1⟩
      exact List.any_eq_true.2 ⟨x, hx, hp⟩
    rw [this]
    simp
theorem p_slices_ContainsFunc_string_string (f : Str → Option Bool) (p : Str → Bool) (xs : List Str) (h : ∀ x ∈ xs, f x = some (p x)) : slices_ContainsFunc_string_string xs f = some (xs.any p) := by
  unfold slices_ContainsFunc_string_string
  rw [p_slices_IndexFunc_string_string f p xs h, Option.bind_some]
  cases hq : xs.findIdx? p with
  | none =>
    have : xs.any p = false := by
      rw [List.any_eq_false]
      intro x hx
      have := List.findIdx?_eq_none_iff.1 hq x hx
      simp [this]
    rw [this]; rfl
  | some k =>
    have : xs.any p = true := by
      obtain ⟨x, hx, hp⟩ : ∃ x, x ∈ xs ∧ p x = true := by
        have := List.findIdx?_eq_some_iff_getElem.1 hq
        obtain ⟨hk, h1, _⟩ := this
        exact ⟨xs[k], List.getElem_mem _, h1⟩
      exact List.any_eq_true.2 ⟨x, hx, hp⟩
    rw [this]
    simp
def charB (c : UInt8) : Bool := !(decide ((c.toNat : Int) < 32) || decide ((c.toNat : Int) > 126))
def textB (t : Str) : Bool := t.all charB && decide ((t.length : Int) ≤ 200)
theorem p_plain_L1 : ∀ t : Str, impl_isPlain_L1 t = some (if t.all charB = true then .go () else .ret false)
  | [] => by rw [impl_isPlain_L1]; simp
  | x :: xs => by
    rw [impl_isPlain_L1, p_plain_L1 xs]
    by_cases h1 : (x.toNat : Int) < 32
    · simp [h1, charB]
    · by_cases h2 : (x.toNat : Int) > 126
      · simp [h1, h2, charB]
      · simp [h1, h2, charB]
theorem p_plain (t : Str) : impl_isPlain t = some (textB t) := by
  unfold impl_isPlain textB
  rw [p_plain_L1]
  by_cases h : t.all charB = true
  · simp only [h, if_pos, Option.bind_some, Bool.true_and]
  · simp only [h, Bool.not_eq_true] at h ⊢
    simp [h]
theorem p_within (n a b : Int) : impl_within n a b = some (decide (a ≤ n ∧ n ≤ b)) := by
  unfold impl_within
  by_cases h : a ≤ n <;> simp [h]
theorem p_text_L1 : ∀ t : Str, spec_l01Text_L1 t = some (if t.all charB = true then .go () else .ret false)
  | [] => by rw [spec_l01Text_L1]; simp
  | x :: xs => by
    rw [spec_l01Text_L1, p_text_L1 xs]
    by_cases h1 : (x.toNat : Int) < 32
    · simp [h1, charB]
    · by_cases h2 : (x.toNat : Int) > 126
      · simp [h1, h2, charB]
      · simp [h1, h2, charB]
theorem p_text (t : Str) : spec_l01Text t = some (textB t) := by
  unfold spec_l01Text textB
  rw [p_text_L1]
  by_cases h : t.all charB = true
  · simp only [h, if_pos, Option.bind_some, Bool.true_and]
  · simp only [h, Bool.not_eq_true] at h ⊢
    simp [h]
theorem p_in (n a b : Int) : spec_l01In n a b = some (decide (a ≤ n ∧ n ≤ b)) := by
  unfold spec_l01In
  by_cases h : a ≤ n <;> simp [h]
theorem cmpB_range : ∀ a b : Str, Lib.compareBytes a b = -1 ∨ Lib.compareBytes a b = 0 ∨ Lib.compareBytes a b = 1
  | [], [] => by simp [Lib.compareBytes]
  | [], _ :: _ => by simp [Lib.compareBytes]
  | _ :: _, [] => by simp [Lib.compareBytes]
  | a :: xs, b :: ys => by
    have := cmpB_range xs ys
    unfold Lib.compareBytes
    split
    · simp
    · split
      · simp
      · exact this
theorem u8_tri (a b : UInt8) : a < b ∨ a = b ∨ b < a := by
  simp only [UInt8.lt_iff_toNat_lt, ← UInt8.toNat_inj]
  omega
theorem u8_asym {a b : UInt8} (h : a < b) : ¬ b < a := by
  simp only [UInt8.lt_iff_toNat_lt] at *
  omega
theorem cmpB_zero : ∀ a b : Str, Lib.compareBytes a b = 0 ↔ a = b
  | [], [] => by simp [Lib.compareBytes]
  | [], _ :: _ => by simp [Lib.compareBytes]
  | _ :: _, [] => by simp [Lib.compareBytes]
  | a :: xs, b :: ys => by
    have ih := cmpB_zero xs ys
    unfold Lib.compareBytes
    rcases u8_tri a b with h | h | h
    · have hne : a ≠ b := by rintro rfl; exact UInt8.lt_irrefl _ h
      simp [h, hne]
    · subst h; simp [UInt8.lt_irrefl, ih]
    · have hne : a ≠ b := by rintro rfl; exact UInt8.lt_irrefl _ h
      simp [h, u8_asym h, hne]
theorem cmpB_less : ∀ a b : Str, Op.bytesLess a b = decide (Lib.compareBytes a b < 0)
  | [], [] => by simp [Lib.compareBytes, Op.bytesLess]
  | [], _ :: _ => by simp [Lib.compareBytes, Op.bytesLess]
  | _ :: _, [] => by simp [Lib.compareBytes, Op.bytesLess]
  | a :: xs, b :: ys => by
    have ih := cmpB_less xs ys
    unfold Lib.compareBytes Op.bytesLess
    rcases u8_tri a b with h | h | h
    · simp [h]
    · subst h; simp [UInt8.lt_irrefl, ih]
    · have hne : ¬ a = b := by rintro rfl; exact UInt8.lt_irrefl _ h
      simp [h, u8_asym h, hne]
def ordA (a b : GAtom) : Int := if a.Kind ≠ b.Kind then (if a.Kind < b.Kind then -1 else 1) else if a.N ≠ b.N then (if a.N < b.N then -1 else 1) else Lib.compareBytes a.T b.T
theorem p_cmpInt (x y : Int) : cmp_Compare_int x y = some (if x < y then -1 else if x > y then 1 else 0) := by
  unfold cmp_Compare_int cmp_isNaN_int
  by_cases h1 : x < y <;> by_cases h2 : x > y <;> simp [h1, h2]
theorem p_compareAtoms (a b : GAtom) : impl_compareAtoms a b = some (ordA a b) := by
  unfold impl_compareAtoms strings_Compare internal_bytealg_CompareString cmp_Or_int
  simp only [p_cmpInt, Option.bind_some]
  unfold ordA
  by_cases h1 : a.Kind = b.Kind
  · by_cases h2 : a.N = b.N
    · have e1 : (if a.Kind < b.Kind then (-1 : Int) else if a.Kind > b.Kind then 1 else 0) = 0 := by rw [h1]; simp
      have e2 : (if a.N < b.N then (-1 : Int) else if a.N > b.N then 1 else 0) = 0 := by rw [h2]; simp
      rw [e1, e2]
      simp only [cmp_Or_int_L1, h1, h2]
      by_cases h3 : Lib.compareBytes a.T b.T = 0
      · simp [h3]
      · simp [h3]
    · have e1 : (if a.Kind < b.Kind then (-1 : Int) else if a.Kind > b.Kind then 1 else 0) = 0 := by rw [h1]; simp
      rw [e1]
      rcases Int.lt_or_gt_of_ne h2 with h3 | h3
      · simp [cmp_Or_int_L1, h1, h2, h3]
      · have h4 : ¬ a.N < b.N := by omega
        simp [cmp_Or_int_L1, h1, h2, h3, h4]
  · rcases Int.lt_or_gt_of_ne h1 with h3 | h3
    · simp [cmp_Or_int_L1, h1, h3]
    · have h4 : ¬ a.Kind < b.Kind := by omega
      simp [cmp_Or_int_L1, h1, h3, h4]
theorem p_Order (a b : GAtom) : spec_l03Order a b = some (ordA a b) := by
  unfold spec_l03Order spec_l01Bit ordA
  have w0 : w64 (1 - w64 0) = 1 := by decide
  have w1 : w64 (1 - w64 2) = -1 := by decide
  by_cases h1 : a.Kind = b.Kind
  · by_cases h2 : a.N = b.N
    · simp only [h1, h2, bne_self_eq_false, Bool.false_eq_true, if_false, ne_eq, not_true_eq_false, cmpB_less]
      by_cases h3 : a.T = b.T
      · simp [h3, (cmpB_zero b.T b.T).2 rfl]
      · have hne : Lib.compareBytes a.T b.T ≠ 0 := fun h => h3 ((cmpB_zero _ _).1 h)
        rcases cmpB_range a.T b.T with h | h | h
        · simp [h3, h, w1]
        · exact absurd h hne
        · simp [h3, h, w0]
    · by_cases h3 : a.N < b.N <;> simp [h1, h2, h3, w0, w1]
  · by_cases h3 : a.Kind < b.Kind <;> simp [h1, h3, w0, w1]
def atomB (a : GAtom) : Bool :=
  (decide (a.Kind = 1) && decide (-1000000000 ≤ a.N ∧ a.N ≤ 1000000000) && decide (a.T = [])) ||
  (decide (a.Kind = 2) && decide (a.N = 0) && textB a.T) ||
  (decide (a.Kind = 3) && decide (0 ≤ a.N ∧ a.N ≤ 1) && decide (a.T = [])) ||
  (decide (a.Kind = 4) && decide (1 ≤ a.N ∧ a.N ≤ 1000000) && decide (a.T = []))
theorem p_AtomOK (a : GAtom) : impl_AtomOK a = some (atomB a) := by
  unfold impl_AtomOK impl_isNumber impl_isId atomB
  simp only [p_within, p_plain, Option.bind_some]
  by_cases h1 : a.Kind = 1
  · simp only [h1]
    by_cases c : (-1000000000 ≤ a.N ∧ a.N ≤ 1000000000) <;> by_cases d : a.T = [] <;> simp [c, d]
  by_cases h2 : a.Kind = 2
  · simp only [h2]
    by_cases c : a.N = 0 <;> simp [c]
  by_cases h3 : a.Kind = 3
  · simp only [h3]
    by_cases c : (0 ≤ a.N ∧ a.N ≤ 1) <;> by_cases d : a.T = [] <;> simp [c, d]
  by_cases h4 : a.Kind = 4
  · simp only [h4]
    by_cases c : (1 ≤ a.N ∧ a.N ≤ 1000000) <;> by_cases d : a.T = [] <;> simp [c, d]
  · simp [h1, h2, h3, h4]
def stepB (d : List GAtom) (q : Nat) (x : GAtom) : Bool :=
  atomB x && (match d[0]? with | some h => x.Kind == h.Kind | none => false) && (q == 0 || match d[q - 1]? with | some y => decide (ordA y x < 0) | none => false)
def allS (d : List GAtom) : List GAtom → Nat → Bool
  | [], _ => true
  | x :: xs, i => stepB d i x && allS d xs (i + 1)
def datB (d : List GAtom) : Bool := allS d d 0 && decide ((d.length : Int) ≤ 8)
theorem p_step (d : List GAtom) (i : Nat) (x : GAtom) (hi : i < d.length) (hl : d.length ≤ maxLen) (A : GAtom → Option Bool) (hA : ∀ a, A a = some (atomB a)) (O : GAtom → GAtom → Option Int) (hO : ∀ a b, O a b = some (ordA a b)) :
    ((A x).bind fun r_110 =>
    if (!r_110) then
    some true
    else
    (idx d 0).bind fun x_113 =>
    if (x.Kind != x_113.Kind) then
    some true
    else
    if (decide ((i : Int) > 0)) then
    (idx d (w64 ((i : Int) - 1))).bind fun x_117 =>
    (O x_117 x).bind fun r_119 =>
    some (decide (r_119 ≥ 0))
    else
    some false : Option Bool) = some (!stepB d i x) := by
  simp only [maxLen] at hl
  obtain ⟨h, hh⟩ : ∃ h, d[0]? = some h := ⟨d[0], List.getElem?_eq_getElem (by omega)⟩
  have e0 : idx d 0 = some h := by rw [show (0 : Int) = ((0 : Nat) : Int) from rfl, idx_nat, hh]
  rw [hA, Option.bind_some, e0]
  unfold stepB
  rw [hh]
  by_cases ha : atomB x = true
  · by_cases hk : x.Kind = h.Kind
    · by_cases h0 : i = 0
      · subst h0; simp [ha, hk]
      · obtain ⟨y, hy⟩ : ∃ y, d[i - 1]? = some y := ⟨d[i - 1], List.getElem?_eq_getElem (by omega)⟩
        have e1 : w64 ((i : Int) - 1) = ((i - 1 : Nat) : Int) := by rw [w64_id (by omega)]; omega
        rw [e1, idx_nat, hy]
        have hp : 0 < i := by omega
        simp [ha, hk, h0, hO, hp]
        by_cases hc : ordA y x < 0
        · have : ¬ 0 ≤ ordA y x := by omega
          simp [hc, this, h0]
        · have : 0 ≤ ordA y x := by omega
          simp [hc, this, h0]
    · simp [ha, hk]
  · simp only [Bool.not_eq_true] at ha
    simp [ha]
theorem p_DatumOK_L1 (d : List GAtom) (hl : d.length ≤ maxLen) : ∀ (xs : List GAtom) (i : Nat), d.drop i = xs → impl_DatumOK_L1 d xs i = some (if allS d xs i = true then .go () else .ret false)
  | [], i, h => by rw [impl_DatumOK_L1]; simp [allS]
  | x :: xs, i, h => by
    rw [impl_DatumOK_L1, p_step d i x (drop_lt h) hl impl_AtomOK p_AtomOK impl_compareAtoms p_compareAtoms, Option.bind_some, p_DatumOK_L1 d hl xs (i + 1) (drop_next h)]
    cases hs : stepB d i x <;> simp [allS, hs]
theorem p_DatumOK (d : List GAtom) (hl : d.length ≤ maxLen) : impl_DatumOK d = some (datB d) := by
  unfold impl_DatumOK datB
  rw [p_DatumOK_L1 d hl d 0 (by simp)]
  cases allS d d 0 <;> simp
theorem p_sAtomOK (a : GAtom) : spec_AtomOK a = some (atomB a) := by
  unfold spec_AtomOK atomB
  simp only [p_in, p_text, Option.bind_some]
  by_cases h1 : a.Kind = 1
  · simp only [h1]
    by_cases c : (-1000000000 ≤ a.N ∧ a.N ≤ 1000000000) <;> by_cases d : a.T = [] <;> simp [c, d]
  by_cases h2 : a.Kind = 2
  · simp only [h2]
    by_cases c : a.N = 0 <;> simp [c]
  by_cases h3 : a.Kind = 3
  · simp only [h3]
    by_cases c : (0 ≤ a.N ∧ a.N ≤ 1) <;> by_cases d : a.T = [] <;> simp [c, d]
  by_cases h4 : a.Kind = 4
  · simp only [h4]
    by_cases c : (1 ≤ a.N ∧ a.N ≤ 1000000) <;> by_cases d : a.T = [] <;> simp [c, d]
  · simp [h1, h2, h3, h4]
theorem p_sDatumOK_L1 (d : List GAtom) (hl : d.length ≤ maxLen) : ∀ (xs : List GAtom) (i : Nat), d.drop i = xs → spec_DatumOK_L1 d xs i = some (if allS d xs i = true then .go () else .ret false)
  | [], i, h => by rw [spec_DatumOK_L1]; simp [allS]
  | x :: xs, i, h => by
    rw [spec_DatumOK_L1, p_step d i x (drop_lt h) hl spec_AtomOK p_sAtomOK spec_l03Order p_Order, Option.bind_some, p_sDatumOK_L1 d hl xs (i + 1) (drop_next h)]
    cases hs : stepB d i x <;> simp [allS, hs]
theorem p_sDatumOK (d : List GAtom) : spec_DatumOK d = some (datB d) := by
  unfold spec_DatumOK datB
  by_cases h : (d.length : Int) > 4096
  · rw [if_pos (by simpa using h)]
    have : ¬ (d.length : Int) ≤ 8 := by omega
    simp [this]
  · rw [if_neg (by simpa using h), p_sDatumOK_L1 d (by simp only [maxLen]; omega) d 0 (by simp)]
    cases allS d d 0 <;> simp
def isLet (c : Int) : Bool := (decide (97 ≤ c) && decide (c ≤ 122)) || (decide (65 ≤ c) && decide (c ≤ 90)) || c == 95
def isDig (c : Int) : Bool := decide (48 ≤ c) && decide (c ≤ 57)
theorem p_l00Letter (c : Int) : spec_l00Letter c = some (isLet c) := by
  unfold spec_l00Letter isLet
  by_cases h1 : 97 ≤ c <;> by_cases h2 : c ≤ 122 <;> by_cases h3 : 65 ≤ c <;> by_cases h4 : c ≤ 90 <;> by_cases h5 : c = 95 <;> simp [h1, h2, h3, h4, h5]
theorem p_l00Digit (c : Int) : spec_l00Digit c = some (isDig c) := by
  unfold spec_l00Digit isDig
  by_cases h1 : 48 ≤ c <;> simp [h1]
theorem p_isDigit (c : Int) : impl_isDigit c = some (isDig c) := by
  unfold impl_isDigit isDig
  by_cases h1 : 48 ≤ c <;> simp [h1]
def isWordC (b : UInt8) : Bool := isLet b.toNat || isDig b.toNat
def nameOK (t : Str) : Bool := decide (1 ≤ t.length) && decide (t.length ≤ 40) && isLet (t.headD 0).toNat && (t.drop 1).all isWordC
theorem p_l00Word_L1 : ∀ (t : Str), spec_l00Word_L1 t = some (if t.all isWordC then .go () else .ret false)
  | [] => by rw [spec_l00Word_L1]; rfl
  | c :: t => by
    rw [spec_l00Word_L1, p_l00Letter, Option.bind_some, p_l00Digit, p_l00Word_L1 t]
    cases h1 : isLet (c.toNat : Int) <;> cases h2 : isDig (c.toNat : Int) <;> simp [isWordC, h1, h2]
theorem p_l00Word (t : Str) : spec_l00Word t = some (nameOK t) := by
  unfold spec_l00Word nameOK
  cases t with
  | nil => rfl
  | cons c t =>
    have e : idx (c :: t) 0 = some c := rfl
    rw [e, Option.bind_some, p_l00Letter, Option.bind_some, p_l00Word_L1]
    have e1 : decide (((c :: t).length : Int) < 1) = false := decide_eq_false (by simp only [List.length_cons]; omega)
    have e2 : decide (1 ≤ (c :: t).length) = true := decide_eq_true (by simp only [List.length_cons]; omega)
    rw [e1, e2]
    by_cases h : (c :: t).length ≤ 40
    · have e3 : decide (((c :: t).length : Int) > 40) = false := decide_eq_false (by omega)
      have e4 : decide ((c :: t).length ≤ 40) = true := decide_eq_true h
      rw [e3, e4]
      cases h1 : isLet (c.toNat : Int) <;> cases h3 : t.all isWordC <;> simp [h1, h3]
    · have e3 : decide (((c :: t).length : Int) > 40) = true := decide_eq_true (by omega)
      have e4 : decide ((c :: t).length ≤ 40) = false := decide_eq_false h
      rw [e3, e4]
      simp
theorem p_specNameOK (t : Str) : spec_NameOK t = some (nameOK t) := by
  unfold spec_NameOK
  rw [p_l00Word]; rfl
def nameC (p : UInt8 × Nat) : Bool := isLet p.1.toNat || (p.2 != 0 && isDig p.1.toNat)
theorem p_NameOK_L1 : ∀ (t : Str) (i : Nat), impl_NameOK_L1 t i = some (if (t.zipIdx i).all nameC then .go () else .ret false)
  | [], i => by rw [impl_NameOK_L1]; rfl
  | c :: t, i => by
    have e0 : ((i : Int) == 0) = (i == 0) := by cases i <;> simp; omega
    rw [impl_NameOK_L1, p_NameOK_L1 t (i + 1), List.zipIdx_cons, List.all_cons, p_isDigit, e0]
    unfold nameC isLet
    generalize (List.zipIdx t (i + 1)).all _ = A
    generalize isDig (c.toNat : Int) = D
    generalize (c.toNat : Int) = n
    by_cases h1 : 97 ≤ n <;> by_cases h2 : n ≤ 122 <;> by_cases h3 : 65 ≤ n <;> by_cases h4 : n ≤ 90 <;> by_cases h5 : n = 95 <;> cases D <;> by_cases h0 : i = 0 <;> simp [h1, h2, h3, h4, h5, h0]
theorem p_NameOK (t : Str) : impl_NameOK t = some (nameOK t) := by
  unfold impl_NameOK nameOK
  rw [p_NameOK_L1, Option.bind_some]
  have hz : ∀ (r : Str) (k : Nat), (r.zipIdx (k + 1)).all nameC = r.all isWordC := by
    intro r
    induction r with
    | nil => intro k; rfl
    | cons c r ih => intro k; simp only [List.zipIdx_cons, List.all_cons, ih (k + 1)]; rfl
  cases t with
  | nil => simp [p_within]
  | cons c t =>
    rw [List.zipIdx_cons, List.all_cons, hz t 0]
    have hl : decide (1 ≤ (c :: t).length) = true := decide_eq_true (by simp)
    have e : nameC (c, 0) = isLet (c.toNat : Int) := by simp [nameC]
    rw [e, hl, p_within, Bool.decide_and]
    have e2 : decide ((1 : Int) ≤ ((c :: t).length : Int)) = true := decide_eq_true (by simp only [List.length_cons]; omega)
    have e3 : decide (((c :: t).length : Int) ≤ 40) = decide ((c :: t).length ≤ 40) := by rw [decide_eq_decide]; omega
    rw [e2, e3]
    show _ = some ((true && _ && isLet (c.toNat : Int)) && t.all isWordC)
    cases isLet (c.toNat : Int) <;> cases t.all isWordC <;> simp
theorem any_notB {α : Type} (p : α → Bool) : ∀ l : List α, (l.any fun x => !p x) = !l.all p
  | [] => rfl
  | x :: l => by simp only [List.any_cons, List.all_cons, any_notB p l, Bool.not_and]
def rowB (n : Nat) (r : GRow) : Bool := decide (r.Cells.length = n) && r.Cells.all datB
def resB (r : GResult) : Bool :=
  if r.Code = 0 then decide (0 ≤ r.Count ∧ r.Count ≤ 1000) && decide (0 ≤ r.Id ∧ r.Id ≤ 1000000) && decide (r.Columns.length ≤ 7) && decide (r.Rows.length ≤ 12) && r.Columns.all nameOK && r.Rows.all (rowB r.Columns.length)
  else decide (1 ≤ r.Code ∧ r.Code ≤ 19) && decide (r.Count = 0) && decide (r.Id = 0) && decide (r.Columns.length = 0) && decide (r.Rows.length = 0)
def smallC (r : GRow) : Prop := ∀ d ∈ r.Cells, d.length ≤ maxLen
theorem p_isRowOf (r : GRow) (n : Nat) (h : smallC r) : impl_isRowOf r n = some (rowB n r) := by
  unfold impl_isRowOf rowB
  by_cases e : r.Cells.length = n
  · have e' : ((r.Cells.length : Int) == (n : Int)) = true := by simp [e]
    rw [e', if_pos rfl, p_slices_ContainsFunc_impl_Atom_impl_AtomS _ (fun d => !datB d) r.Cells (fun d hd => by unfold impl_isRowOf_1; rw [p_DatumOK d (h d hd)]; rfl), any_notB]
    simp [e]
  · have e' : ((r.Cells.length : Int) == (n : Int)) = false := by simp; omega
    rw [e', if_neg (by simp)]
    simp [e]
theorem p_ResultOK (r : GResult) (h : ∀ x ∈ r.Rows, smallC x) : impl_ResultOK r = some (resB r) := by
  unfold impl_ResultOK resB
  by_cases c : r.Code = 0
  · rw [if_pos c, if_neg (by simp [c])]
    simp only [p_within, Option.bind_some]
    rw [p_slices_ContainsFunc_string_string _ (fun t => !nameOK t) r.Columns (fun t _ => by unfold impl_ResultOK_1; rw [p_NameOK]; rfl), any_notB,
      p_slices_ContainsFunc_impl_Row_impl_Row _ (fun x => !rowB r.Columns.length x) r.Rows (fun x hx => by unfold impl_ResultOK_2; rw [p_isRowOf x _ (h x hx)]; rfl), any_notB]
    have l1 : decide ((r.Columns.length : Int) > 7) = !decide (r.Columns.length ≤ 7) := by by_cases q : r.Columns.length ≤ 7 <;> simp [q] <;> omega
    have l2 : decide ((r.Rows.length : Int) > 12) = !decide (r.Rows.length ≤ 12) := by by_cases q : r.Rows.length ≤ 12 <;> simp [q] <;> omega
    rw [l1, l2]
    cases decide (0 ≤ r.Count ∧ r.Count ≤ 1000) <;> cases decide (0 ≤ r.Id ∧ r.Id ≤ 1000000) <;> cases decide (r.Columns.length ≤ 7) <;> cases decide (r.Rows.length ≤ 12) <;> cases r.Columns.all nameOK <;> cases r.Rows.all (rowB r.Columns.length) <;> rfl
  · rw [if_neg c, if_pos (by simpa using c)]
    simp only [p_within, Option.bind_some]
    have l1 : ((r.Columns.length : Int) == 0) = decide (r.Columns.length = 0) := by by_cases q : r.Columns.length = 0 <;> simp [q]
    have l2 : ((r.Rows.length : Int) == 0) = decide (r.Rows.length = 0) := by by_cases q : r.Rows.length = 0 <;> simp [q]
    have l3 : (r.Count == 0) = decide (r.Count = 0) := by by_cases q : r.Count = 0 <;> simp [q]
    have l4 : (r.Id == 0) = decide (r.Id = 0) := by by_cases q : r.Id = 0 <;> simp [q]
    rw [l1, l2, l3, l4]
    cases decide (1 ≤ r.Code ∧ r.Code ≤ 19) <;> cases decide (r.Count = 0) <;> cases decide (r.Id = 0) <;> cases decide (r.Columns.length = 0) <;> cases decide (r.Rows.length = 0) <;> rfl
theorem p_sRes_L1 : ∀ l : List Str, spec_ResultOK_L1 l = some (if l.all nameOK = true then .go () else .ret false)
  | [] => by rw [spec_ResultOK_L1]; rfl
  | x :: l => by
    rw [spec_ResultOK_L1, p_specNameOK, Option.bind_some, p_sRes_L1 l, List.all_cons]
    cases nameOK x <;> simp
theorem p_sRes_L3 : ∀ l : List (List GAtom), spec_ResultOK_L3 l = some (if l.all datB = true then .go () else .ret false)
  | [] => by rw [spec_ResultOK_L3]; rfl
  | x :: l => by
    rw [spec_ResultOK_L3, p_sDatumOK, Option.bind_some, p_sRes_L3 l, List.all_cons]
    cases datB x <;> simp
theorem p_sRes_L2 (r : GResult) : ∀ l : List GRow, spec_ResultOK_L2 r l = some (if l.all (rowB r.Columns.length) = true then .go () else .ret false)
  | [] => by rw [spec_ResultOK_L2]; rfl
  | x :: l => by
    rw [spec_ResultOK_L2, p_sRes_L3, p_sRes_L2 r l, List.all_cons]
    unfold rowB
    by_cases e : x.Cells.length = r.Columns.length
    · have e' : ((x.Cells.length : Int) != (r.Columns.length : Int)) = false := by simp [e]
      rw [e']
      cases x.Cells.all datB <;> simp [e]
    · have e' : ((x.Cells.length : Int) != (r.Columns.length : Int)) = true := by simp; omega
      rw [e']
      simp [e]
theorem p_sResultOK (r : GResult) : spec_ResultOK r = some (resB r) := by
  unfold spec_ResultOK resB
  simp only [p_in, Option.bind_some, p_sRes_L1, p_sRes_L2]
  have l1 : decide ((r.Columns.length : Int) > 7) = !decide (r.Columns.length ≤ 7) := by by_cases q : r.Columns.length ≤ 7 <;> simp [q] <;> omega
  have l2 : decide ((r.Rows.length : Int) > 12) = !decide (r.Rows.length ≤ 12) := by by_cases q : r.Rows.length ≤ 12 <;> simp [q] <;> omega
  rw [l1, l2]
  by_cases c : r.Code = 0
  · have c1 : decide (0 ≤ r.Code ∧ r.Code ≤ 19) = true := by simp [c]
    rw [c1, if_pos c]
    simp only [c]
    cases decide (0 ≤ r.Count ∧ r.Count ≤ 1000) <;> cases decide (0 ≤ r.Id ∧ r.Id ≤ 1000000) <;> cases decide (r.Columns.length ≤ 7) <;> cases decide (r.Rows.length ≤ 12) <;> cases r.Columns.all nameOK <;> cases r.Rows.all (rowB r.Columns.length) <;> rfl
  · rw [if_neg c]
    have c0 : (r.Code == 0) = false := by simpa using c
    have c1 : decide (0 ≤ r.Code ∧ r.Code ≤ 19) = decide (1 ≤ r.Code ∧ r.Code ≤ 19) := by
      by_cases q : 1 ≤ r.Code ∧ r.Code ≤ 19
      · have : 0 ≤ r.Code ∧ r.Code ≤ 19 := by omega
        simp [q, this]
      · have : ¬ (0 ≤ r.Code ∧ r.Code ≤ 19) := by omega
        simp [q, this]
    rw [c0, c1]
    by_cases k1 : r.Count = 0
    · by_cases k2 : r.Id = 0
      · by_cases k3 : r.Columns.length = 0
        · by_cases k4 : r.Rows.length = 0
          · have h3 : r.Columns = [] := List.eq_nil_of_length_eq_zero k3
            have h4 : r.Rows = [] := List.eq_nil_of_length_eq_zero k4
            simp only [k1, k2, h3, h4]
            cases decide (1 ≤ r.Code ∧ r.Code ≤ 19) <;> rfl
          · have l4 : ((r.Rows.length : Int) == 0) = false := by simpa using k4
            rw [l4]
            simp only [k4, decide_false, Bool.and_false, cond_false]
            cases ((decide (1 ≤ r.Code ∧ r.Code ≤ 19))) <;> cases decide (0 ≤ r.Count ∧ r.Count ≤ 1000) <;> cases decide (0 ≤ r.Id ∧ r.Id ≤ 1000000) <;> cases decide (r.Columns.length ≤ 7) <;> cases decide (r.Rows.length ≤ 12) <;> cases r.Columns.all nameOK <;> cases r.Rows.all (rowB r.Columns.length) <;> cases (r.Count == 0) <;> cases (r.Id == 0) <;> rfl
        · have l3 : ((r.Columns.length : Int) == 0) = false := by simpa using k3
          rw [l3]
          simp only [k3, decide_false, Bool.and_false, Bool.false_and, cond_false]
          cases ((decide (1 ≤ r.Code ∧ r.Code ≤ 19))) <;> cases decide (0 ≤ r.Count ∧ r.Count ≤ 1000) <;> cases decide (0 ≤ r.Id ∧ r.Id ≤ 1000000) <;> cases decide (r.Columns.length ≤ 7) <;> cases decide (r.Rows.length ≤ 12) <;> cases r.Columns.all nameOK <;> cases r.Rows.all (rowB r.Columns.length) <;> cases (r.Count == 0) <;> cases (r.Id == 0) <;> cases ((r.Rows.length : Int) == 0) <;> rfl
      · have l2 : (r.Id == 0) = false := by simpa using k2
        rw [l2]
        simp only [k2, decide_false, Bool.and_false, Bool.false_and, cond_false]
        cases ((decide (1 ≤ r.Code ∧ r.Code ≤ 19))) <;> cases decide (0 ≤ r.Count ∧ r.Count ≤ 1000) <;> cases decide (0 ≤ r.Id ∧ r.Id ≤ 1000000) <;> cases decide (r.Columns.length ≤ 7) <;> cases decide (r.Rows.length ≤ 12) <;> cases r.Columns.all nameOK <;> cases r.Rows.all (rowB r.Columns.length) <;> cases (r.Count == 0) <;> rfl
    · have l1 : (r.Count == 0) = false := by simpa using k1
      rw [l1]
      simp only [k1, decide_false, Bool.and_false, Bool.false_and, cond_false]
      cases ((decide (1 ≤ r.Code ∧ r.Code ≤ 19))) <;> cases decide (0 ≤ r.Count ∧ r.Count ≤ 1000) <;> cases decide (0 ≤ r.Id ∧ r.Id ≤ 1000000) <;> cases decide (r.Columns.length ≤ 7) <;> cases decide (r.Rows.length ≤ 12) <;> cases r.Columns.all nameOK <;> cases r.Rows.all (rowB r.Columns.length) <;> rfl
theorem p_sFailed_L1 : ∀ l : List GResult, spec_Failed_L1 l = some (if l.all resB = true then .go () else .ret (false, 1))
  | [] => by rw [spec_Failed_L1]; rfl
  | x :: l => by
    rw [spec_Failed_L1, p_sResultOK, Option.bind_some, p_sFailed_L1 l, List.all_cons]
    cases resB x <;> simp
theorem okResult_small {r : GResult} (h : okGResult r) : ∀ x ∈ r.Rows, smallC x := by
  intro x hx d hd
  have h1 := h.2.2.2.2.2 x hx
  exact (h1.2.2 d hd).1
theorem p_Failed (l : List GResult) (ok : okL okGResult l) : ∃ b c, impl_Failed l = some (b, c) ∧ spec_Failed l = some (b, c) := by
  unfold impl_Failed spec_Failed impl_isList_impl_Result impl_failed
  have hl := ok.1
  simp only [maxLen] at hl
  by_cases h : (l.length : Int) > 4096
  · refine ⟨false, 2, ?_, ?_⟩
    · have : ¬ (l.length : Int) ≤ 4096 := by omega
      simp [this]
    · simp [h]
  · have h' : (l.length : Int) ≤ 4096 := by omega
    rw [p_sFailed_L1, p_slices_ContainsFunc_impl_Result_impl_Result _ (fun x => !resB x) l (fun x hx => by unfold impl_Failed_1; rw [p_ResultOK x (okResult_small (ok.2 x hx))]; rfl), any_notB]
    cases hr : l.all resB with
    | false => exact ⟨false, 1, by simp [h'], by simp [h]⟩
    | true =>
      by_cases h0 : (l.length : Int) > 0
      · obtain ⟨x, hx⟩ : ∃ x, idx l (w64 ((l.length : Int) - 1)) = some x := by
          rw [w64_id (by omega), show (l.length : Int) - 1 = ((l.length - 1 : Nat) : Int) from by omega, idx_nat]
          exact ⟨l[l.length - 1]'(by omega), List.getElem?_eq_getElem (by omega)⟩
        have g0 : 0 < l.length := by omega
        have g1 : l ≠ [] := by intro e; simp [e] at g0
        exact ⟨x.Code != 0, 0, by simp [h', g0, hx], by simp [h, g0, g1, hx]⟩
      · have g0 : l = [] := List.eq_nil_of_length_eq_zero (by omega)
        subst g0
        exact ⟨false, 0, by simp, by simp⟩
theorem law_FnExactFailed (l : List GResult) (h : okL okGResult l) : laws_FnExactFailed l = some true := by
  unfold laws_FnExactFailed
  obtain ⟨r, e, hr⟩ := p_szResultS l 1048576 (by omega) (by omega) h
  rw [e, Option.bind_some]
  split
  · rfl
  · rename_i hn
    simp only [decide_eq_true_eq] at hn
    obtain ⟨h1, h2⟩ := hr.resolve_left hn
    have et := p_toResultS l (by omega)
    obtain ⟨b, c, e1, e2⟩ := p_Failed l h
    simp only [et, Option.bind_some, e1, e2, p_eqResultS, Bool.not_true, Bool.false_eq_true, if_false, bne_self_eq_false, beq_self_eq_true]
end Go.R
