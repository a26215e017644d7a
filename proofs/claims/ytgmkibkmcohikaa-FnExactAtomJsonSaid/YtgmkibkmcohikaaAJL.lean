/- Plain laws of what this statement reaches. -/
import Derived.Test.YtgmkibkmcohikaaAJH
import Derived.Test.YtgmkibkmcohikaaP0
set_option linter.all false
namespace Go.R
open Go
set_option linter.all false
def charB (c : UInt8) : Bool := !(decide ((c.toNat : Int) < 32) || decide ((c.toNat : Int) > 126))
def textB (t : Str) : Bool := t.all charB && decide ((t.length : Int) ≤ 200)
theorem p_text_L1 : ∀ t : Str, spec_l01Text_L1 t = some (if t.all charB = true then .go () else .ret false)
  | [] => by rw [spec_l01Text_L1]; simp
  | x :: xs => by
    rw [spec_l01Text_L1, p_text_L1 xs]
    by_cases h1 : (x.toNat : Int) < 32
    · simp [h1, charB]
    · by_cases h2 : (x.toNat : Int) > 126
      · simp [h1, h2, charB]
      · simp [h1, h2, charB]
theorem p_plain_L1 : ∀ t : Str, impl_isPlain_L1 t = spec_l01Text_L1 t
  | [] => by rw [impl_isPlain_L1, spec_l01Text_L1]
  | x :: xs => by rw [impl_isPlain_L1, spec_l01Text_L1, p_plain_L1 xs]
theorem p_text (t : Str) : spec_l01Text t = some (textB t) := by
  unfold spec_l01Text textB
  rw [p_text_L1]
  by_cases h : t.all charB = true
  · simp only [h, if_pos, Option.bind_some, Bool.true_and]
  · simp only [h, Bool.not_eq_true] at h ⊢
    simp [h]
theorem p_plain (t : Str) : impl_isPlain t = some (textB t) := by
  rw [← p_text]
  unfold impl_isPlain spec_l01Text
  rw [p_plain_L1] <;> rfl
theorem p_in (n a b : Int) : spec_l01In n a b = some (decide (a ≤ n ∧ n ≤ b)) := by
  unfold spec_l01In
  by_cases h : a ≤ n <;> simp [h]
theorem p_within (n a b : Int) : impl_within n a b = some (decide (a ≤ n ∧ n ≤ b)) := by
  unfold impl_within
  by_cases h : a ≤ n <;> simp [h]
def atomB (a : GAtom) : Bool :=
  (decide (a.Kind = 1) && decide (-1000000000 ≤ a.N ∧ a.N ≤ 1000000000) && decide (a.T = [])) ||
  (decide (a.Kind = 2) && decide (a.N = 0) && textB a.T) ||
  (decide (a.Kind = 3) && decide (0 ≤ a.N ∧ a.N ≤ 1) && decide (a.T = [])) ||
  (decide (a.Kind = 4) && decide (1 ≤ a.N ∧ a.N ≤ 1000000) && decide (a.T = []))
theorem p_AtomOK (a : GAtom) : impl_AtomOK a = some (atomB a) := by
  unfold impl_AtomOK impl_isNumber impl_isId atomB
  simp only [p_within, p_plain, Option.bind_some]
  by_cases h1 : a.Kind = 1
  · simp only [h1]
    by_cases c : (-1000000000 ≤ a.N ∧ a.N ≤ 1000000000) <;> by_cases d : a.T = [] <;> simp [c, d]
  by_cases h2 : a.Kind = 2
  · simp only [h2]
    by_cases c : a.N = 0 <;> simp [c]
  by_cases h3 : a.Kind = 3
  · simp only [h3]
    by_cases c : (0 ≤ a.N ∧ a.N ≤ 1) <;> by_cases d : a.T = [] <;> simp [c, d]
  by_cases h4 : a.Kind = 4
  · simp only [h4]
    by_cases c : (1 ≤ a.N ∧ a.N ≤ 1000000) <;> by_cases d : a.T = [] <;> simp [c, d]
  · simp [h1, h2, h3, h4]
theorem p_sAtomOK (a : GAtom) : spec_AtomOK a = some (atomB a) := by
  unfold spec_AtomOK atomB
  simp only [p_in, p_text, Option.bind_some]
  by_cases h1 : a.Kind = 1
  · simp only [h1]
    by_cases c : (-1000000000 ≤ a.N ∧ a.N ≤ 1000000000) <;> by_cases d : a.T = [] <;> simp [c, d]
  by_cases h2 : a.Kind = 2
  · simp only [h2]
    by_cases c : a.N = 0 <;> simp [c]
  by_cases h3 : a.Kind = 3
  · simp only [h3]
    by_cases c : (0 ≤ a.N ∧ a.N ≤ 1) <;> by_cases d : a.T = [] <;> simp [c, d]
  by_cases h4 : a.Kind = 4
  · simp only [h4]
    by_cases c : (1 ≤ a.N ∧ a.N ≤ 1000000) <;> by_cases d : a.T = [] <;> simp [c, d]
  · simp [h1, h2, h3, h4]
theorem p_l01Own_L1 (rec : GJson → Option GJson) : ∀ (xs out : List GJson), (∀ x ∈ xs, rec x = some x) → out.length + xs.length ≤ 2 ^ 30 → spec_l01Own_B_L1 rec xs out = some (out ++ xs)
  | [], out, _, _ => by rw [spec_l01Own_B_L1]; simp
  | x :: xs, out, hr, h => by
    simp only [List.length_cons] at h
    rw [spec_l01Own_B_L1, hr x (by simp), Option.bind_some, if_pos (by simp; omega), p_l01Own_L1 rec xs _ (fun y hy => hr y (by simp [hy])) (by simp; omega)]
    simp
theorem p_l01Own_F : ∀ (k : Nat) (j : GJson), wtJson j < k → wtJson j ≤ 2 ^ 30 → spec_l01Own k j = some j
  | 0, j, h, _ => by omega
  | k + 1, j, h, h2 => by
    rw [wtJson_eq] at h h2
    have hl := wtJsonS_len j.Items
    have hk : j.Keys.length ≤ wtStringS j.Keys := by unfold wtStringS; omega
    rw [spec_l01Own]
    unfold spec_l01Own_B
    rw [if_pos (by simp; omega), Option.bind_some, p_l01Own_L1 (spec_l01Own k) j.Items [] (fun y hy => by have := wtJsonS_mem hy; exact p_l01Own_F k y (by omega) (by omega)) (by simp; omega)]
    cases j
    simp
theorem p_l01Own (j : GJson) (h : wtJson j ≤ 2 ^ 30) : spec_l01Own FUEL j = some j := p_l01Own_F FUEL j (fuel_lt (by omega)) h
theorem p_atomJson (a : GAtom) : ∃ j, impl_atomJson a = some j ∧ wtJson j ≤ a.T.length + 20 := by
  unfold impl_atomJson
  by_cases k1 : (a.Kind == 1) = true
  · rw [if_pos k1]
    exact ⟨_, rfl, by simp [wtJson, wtStringS, swStringS, wtJsonS]⟩
  rw [if_neg k1]
  by_cases k2 : (a.Kind == 2) = true
  · rw [if_pos k2]
    exact ⟨_, rfl, by simp [wtJson, wtStringS, swStringS, wtJsonS]⟩
  rw [if_neg k2]
  by_cases k3 : (a.Kind == 3) = true
  · rw [if_pos k3]
    unfold impl_jsBool
    split
    · exact ⟨_, rfl, by simp [wtJson, wtStringS, swStringS, wtJsonS]⟩
    · exact ⟨_, rfl, by simp [wtJson, wtStringS, swStringS, wtJsonS]⟩
  rw [if_neg k3]
  refine ⟨_, rfl, ?_⟩
  simp [wtJson, wtStringS, swStringS, wtJsonS]
theorem p_l13Atom (a : GAtom) : spec_l13Atom a = impl_atomJson a := by
  unfold spec_l13Atom impl_atomJson
  have h : ∀ b, spec_l13B b = impl_jsBool b := fun b => by cases b <;> rfl
  have h2 : ∀ x y : GJson, spec_l13L_h0 [x, y] = impl_jsList_h0 [x, y] := fun x y => by
    unfold spec_l13L_h0 impl_jsList_h0
    rw [if_pos (by simp)]
    rfl
  simp only [h, h2]
  rfl
theorem p_AtomJson (a : GAtom) (h : a.T.length ≤ 2 ^ 20) : ∃ j c, impl_AtomJson a = some (j, c) ∧ spec_AtomJson a = some (j, c) ∧ wtJson j ≤ 2 ^ 20 + 20 := by
  unfold impl_AtomJson spec_AtomJson
  rw [p_AtomOK, p_sAtomOK, Option.bind_some, Option.bind_some]
  cases atomB a with
  | false => exact ⟨_, _, rfl, rfl, by simp [wtJson, wtStringS, swStringS, wtJsonS]⟩
  | true =>
    obtain ⟨j, e, hj⟩ := p_atomJson a
    have eo := p_l01Own j (by omega)
    rw [p_l13Atom, e]
    simp only [Option.bind_some, Bool.not_true, Bool.false_eq_true, if_false, eo]
    exact ⟨_, _, rfl, rfl, by omega⟩
theorem law_FnExactAtomJson (a : GAtom) (h : okGAtom a) : laws_FnExactAtomJson a = some true := by
  unfold laws_FnExactAtomJson
  obtain ⟨r, e, hr⟩ := p_szAtom a 1048576 (by omega) (by omega) h
  rw [e, Option.bind_some]
  split
  · rfl
  · rename_i hn
    simp only [decide_eq_true_eq] at hn
    obtain ⟨h1, h2⟩ := hr.resolve_left hn
    have hw : wtAtom a ≤ 1048576 := by omega
    have et := p_toAtom a (by omega)
    obtain ⟨j, c, e1, e2, k1⟩ := p_AtomJson a (by unfold wtAtom at hw; omega)
    have q1 := cnt_wtJson j
    have m1 := p_markJson j 1 (fit_wtJson j (by omega)) (by omega) (by omega)
    have m2 := p_heldJson j 1 (fit_wtJson j (by omega)) (by omega) (by omega)
    have eq := p_eqJson j (by omega)
    have em : (⟨j.Kind, j.N, j.T, (mkJson j 1).Keys, (mkJson j 1).Items⟩ : GJson) = mkJson j 1 := by rw [mkJson_eq]
    have n1 : decide ((1 : Int) + (cntJson j : Nat) < 0) = false := decide_eq_false (by omega)
    simp only [et, Option.bind_some, e1, e2, eq, m1, em, m2, n1, Bool.not_true, Bool.false_eq_true, if_false, bne_self_eq_false, cond_false]
end Go.R
