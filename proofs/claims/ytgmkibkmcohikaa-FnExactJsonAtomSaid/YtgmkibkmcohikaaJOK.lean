/- JsonOK: the two ways come to one. -/
import Derived.Test.YtgmkibkmcohikaaJH
set_option linter.all false
namespace Go.R
open Go
set_option linter.all false
def charB (c : UInt8) : Bool := !(decide ((c.toNat : Int) < 32) || decide ((c.toNat : Int) > 126))
def textB (t : Str) : Bool := t.all charB && decide ((t.length : Int) ≤ 200)
theorem p_text_L1 : ∀ t : Str, spec_l01Text_L1 t = some (if t.all charB = true then .go () else .ret false)
  | [] => by rw [spec_l01Text_L1]; simp
  | x :: xs => by
    rw [spec_l01Text_L1, p_text_L1 xs]
    by_cases h1 : (x.toNat : Int) < 32
    · simp [h1, charB]
    · by_cases h2 : (x.toNat : Int) > 126
      · simp [h1, h2, charB]
      · simp [h1, h2, charB]
theorem p_plain_L1 : ∀ t : Str, impl_isPlain_L1 t = spec_l01Text_L1 t
  | [] => by rw [impl_isPlain_L1, spec_l01Text_L1]
  | x :: xs => by rw [impl_isPlain_L1, spec_l01Text_L1, p_plain_L1 xs]
theorem p_text (t : Str) : spec_l01Text t = some (textB t) := by
  unfold spec_l01Text textB
  rw [p_text_L1]
  by_cases h : t.all charB = true
  · simp only [h, if_pos, Option.bind_some, Bool.true_and]
  · simp only [h, Bool.not_eq_true] at h ⊢
    simp [h]
theorem p_plain (t : Str) : impl_isPlain t = some (textB t) := by
  rw [← p_text]
  unfold impl_isPlain spec_l01Text
  rw [p_plain_L1]
  rfl
theorem p_in (n a b : Int) : spec_l01In n a b = some (decide (a ≤ n ∧ n ≤ b)) := by
  unfold spec_l01In
  by_cases h : a ≤ n <;> simp [h]
theorem p_within (n a b : Int) : impl_within n a b = some (decide (a ≤ n ∧ n ≤ b)) := by
  unfold impl_within
  by_cases h : a ≤ n <;> simp [h]
/-- a key at its place -/
def keyAt (ks : List Str) (i : Nat) : Bool := match ks[i]? with
  | some x => textB x && (decide (i = 0) || match ks[i - 1]? with | some y => Op.bytesLess y x | none => false)
  | none => false
theorem p_areKeys_L1 (ks : List Str) (hl : ks.length ≤ maxLen) : ∀ (xs : List Str) (i : Nat), ks.drop i = xs →
    impl_areKeys_L1 ks xs i = some (.go ()) ∧ (∀ q, i ≤ q → q < ks.length → keyAt ks q = true) ∨ impl_areKeys_L1 ks xs i = some (.ret false) ∧ ∃ q, i ≤ q ∧ q < ks.length ∧ keyAt ks q = false
  | [], i, h => by
    refine .inl ⟨by rw [impl_areKeys_L1], fun q h1 h2 => ?_⟩
    have := List.drop_eq_nil_iff.1 h
    omega
  | x :: xs, i, h => by
    have hi := drop_lt h
    have hx : ks[i]? = some x := by rw [← idx_nat]; exact idx_drop h
    rw [impl_areKeys_L1, p_plain, Option.bind_some]
    have hnext := p_areKeys_L1 ks hl xs (i + 1) (drop_next h)
    simp only [maxLen] at hl
    by_cases ht : textB x = true
    · rw [if_neg (by simp [ht])]
      by_cases h0 : i = 0
      · subst h0
        rw [if_neg (by simp), Option.bind_some, if_neg (by simp)]
        have hk : keyAt ks 0 = true := by unfold keyAt; simp [hx, ht]
        rcases hnext with ⟨e, hq⟩ | ⟨e, q, q1, q2, q3⟩
        · refine .inl ⟨e, fun q h1 h2 => ?_⟩
          by_cases hq0 : q = 0
          · rw [hq0]; exact hk
          · exact hq q (by omega) h2
        · exact .inr ⟨e, q, by omega, q2, q3⟩
      · rw [if_pos (by simp; omega), w64_id (by omega)]
        obtain ⟨y, hy⟩ : ∃ y, ks[i - 1]? = some y := ⟨ks[i - 1], List.getElem?_eq_getElem (by omega)⟩
        have e1 : (i : Int) - 1 = ((i - 1 : Nat) : Int) := by omega
        rw [e1, idx_nat, hy, Option.bind_some, Option.bind_some]
        have hk : keyAt ks i = Op.bytesLess y x := by unfold keyAt; simp [hx, ht, h0, hy]
        by_cases hb : Op.bytesLess y x = true
        · rw [if_neg (by simp [hb])]
          rcases hnext with ⟨e, hq⟩ | ⟨e, q, q1, q2, q3⟩
          · refine .inl ⟨e, fun q h1 h2 => ?_⟩
            by_cases hq0 : q = i
            · rw [hq0, hk]; exact hb
            · exact hq q (by omega) h2
          · exact .inr ⟨e, q, by omega, q2, q3⟩
        · simp only [Bool.not_eq_true] at hb
          rw [if_pos (by simp [hb])]
          exact .inr ⟨rfl, i, Nat.le_refl _, hi, by rw [hk, hb]⟩
    · simp only [Bool.not_eq_true] at ht
      rw [if_pos (by simp [ht]), Option.bind_some, if_pos rfl]
      exact .inr ⟨rfl, i, Nat.le_refl _, hi, by unfold keyAt; simp [hx, ht]⟩
theorem p_areKeys (ks : List Str) (hl : ks.length ≤ maxLen) : ∃ b, impl_areKeys ks = some b ∧ (b = true ↔ ∀ q, q < ks.length → keyAt ks q = true) := by
  unfold impl_areKeys
  rcases p_areKeys_L1 ks hl ks 0 (by simp) with ⟨e, hq⟩ | ⟨e, q, q1, q2, q3⟩
  · rw [e]; exact ⟨true, rfl, by simp; exact fun q h => hq q (by omega) h⟩
  · rw [e]; refine ⟨false, rfl, ?_⟩
    simp only [Bool.false_eq_true, false_iff]
    intro h
    rw [h q q2] at q3
    cases q3
/-- one node -/
def NodeP (j : GJson) : Prop :=
  (j.Kind = 0 ∧ j.N = 0 ∧ j.T = [] ∧ j.Keys = [] ∧ j.Items = []) ∨
  (j.Kind = 1 ∧ (0 ≤ j.N ∧ j.N ≤ 1) ∧ j.T = [] ∧ j.Keys = [] ∧ j.Items = []) ∨
  (j.Kind = 2 ∧ (-1000000000 ≤ j.N ∧ j.N ≤ 1000000000) ∧ j.T = [] ∧ j.Keys = [] ∧ j.Items = []) ∨
  (j.Kind = 3 ∧ j.N = 0 ∧ textB j.T = true ∧ j.Keys = [] ∧ j.Items = []) ∨
  (j.Kind = 4 ∧ j.N = 0 ∧ j.T = [] ∧ j.Keys = []) ∨
  (j.Kind = 5 ∧ j.N = 0 ∧ j.T = [] ∧ j.Keys.length = j.Items.length ∧ ∀ q, q < j.Keys.length → keyAt j.Keys q = true)
theorem p_partOK (j : GJson) (hl : j.Keys.length ≤ maxLen) : ∃ b, impl_Json_partOK j = some b ∧ (b = true ↔ NodeP j) := by
  obtain ⟨kb, ek, hk⟩ := p_areKeys j.Keys hl
  unfold impl_Json_partOK impl_isNumber NodeP
  simp only [p_within, p_plain, ek, Option.bind_some]
  by_cases h0 : j.Kind = 0
  · simp only [h0]
    by_cases h1 : j.N = 0 <;> by_cases h2 : j.T = [] <;> by_cases h3 : j.Keys = [] <;> by_cases h4 : j.Items = [] <;> simp_all
  by_cases h1 : j.Kind = 1
  · simp only [h1]
    by_cases c : (0 ≤ j.N ∧ j.N ≤ 1) <;> by_cases h2 : j.T = [] <;> by_cases h3 : j.Keys = [] <;> by_cases h4 : j.Items = [] <;> simp_all
  by_cases h2 : j.Kind = 2
  · simp only [h2]
    by_cases c : (-1000000000 ≤ j.N ∧ j.N ≤ 1000000000) <;> by_cases h2 : j.T = [] <;> by_cases h3 : j.Keys = [] <;> by_cases h4 : j.Items = [] <;> simp_all
  by_cases h3 : j.Kind = 3
  · simp only [h3]
    by_cases h1 : j.N = 0 <;> by_cases h2 : textB j.T = true <;> by_cases h3 : j.Keys = [] <;> by_cases h4 : j.Items = [] <;> simp_all
  by_cases h4 : j.Kind = 4
  · simp only [h4]
    by_cases h1 : j.N = 0 <;> by_cases h2 : j.T = [] <;> by_cases h3 : j.Keys = [] <;> simp_all
  by_cases h5 : j.Kind = 5
  · simp only [h5]
    by_cases h1 : j.N = 0 <;> by_cases h2 : j.T = [] <;> by_cases h3 : j.Keys.length = j.Items.length <;> simp_all <;> omega
  refine ⟨false, ?_, ?_⟩
  · simp [h0, h1, h2, h3, h4, h5]
  · simp [h0, h1, h2, h3, h4, h5]
end Go.R
