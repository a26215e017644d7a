/- JsonAtom: the law. -/
import Derived.Test.YtgmkibkmcohikaaJOK3
set_option linter.all false
namespace Go.R
open Go
set_option linter.all false
theorem p_pair (j : GJson) (w : Str) : impl_Json_pairOf j w = spec_l13Pair j w := by
  unfold impl_Json_pairOf spec_l13Pair
  rfl
theorem p_pair_some (j : GJson) (w : Str) : ∃ r, spec_l13Pair j w = some r ∧ (j.Kind ≠ 4 → r.2 = false) := by
  unfold spec_l13Pair
  by_cases k4 : j.Kind = 4
  · rw [if_neg (by simp [k4])]
    by_cases h2 : j.Items.length = 2
    · rw [if_neg (by simp [h2])]
      obtain ⟨x, y, hxy⟩ : ∃ x y, j.Items = [x, y] := by
        match hj : j.Items, h2 with
        | [x, y], _ => exact ⟨x, y, rfl⟩
      have e0 : idx j.Items 0 = some x := by rw [hxy]; rfl
      have e1 : idx j.Items 1 = some y := by rw [hxy]; rfl
      simp only [e0, e1, Option.bind_some]
      by_cases h3 : x.Kind = 3
      · by_cases h4 : x.T = w <;> simp [h3, h4, k4]
      · simp [h3, k4]
    · rw [if_pos (by simp; omega)]
      exact ⟨_, rfl, fun _ => rfl⟩
  · rw [if_pos (by simp [k4])]
    exact ⟨_, rfl, fun _ => rfl⟩
theorem p_AtomOK (a : GAtom) : ∃ b, impl_AtomOK a = some b ∧ spec_AtomOK a = some b ∧ (a.Kind = 0 → b = false) := by
  unfold impl_AtomOK spec_AtomOK impl_isNumber impl_isId
  simp only [p_within, p_in, p_plain, p_text, Option.bind_some]
  by_cases h1 : a.Kind = 1
  · simp only [h1]
    by_cases c : (-1000000000 ≤ a.N ∧ a.N ≤ 1000000000) <;> simp [c]
  by_cases h2 : a.Kind = 2
  · simp only [h2]
    by_cases c : a.N = 0 <;> simp [c]
  by_cases h3 : a.Kind = 3
  · simp only [h3]
    by_cases c : (0 ≤ a.N ∧ a.N ≤ 1) <;> simp [c]
  by_cases h4 : a.Kind = 4
  · simp only [h4]
    by_cases c : (1 ≤ a.N ∧ a.N ≤ 1000000) <;> simp [c]
  · simp [h1, h2, h3, h4]
/-- an atom where it is right, the zero one where it is not -/
def cutA (r : GAtom × Bool) : GAtom × Bool := if r.2 = true then r else (⟨0, 0, []⟩, false)
theorem p_toAtom (j : GJson) : ∃ r s, impl_jsonAtom j = some r ∧ spec_l13ToAtom j = some s ∧ cutA r = s := by
  unfold impl_jsonAtom spec_l13ToAtom
  by_cases k2 : j.Kind = 2
  · obtain ⟨b, e1, e2, _⟩ := p_AtomOK ⟨1, j.N, []⟩
    simp only [k2]
    simp only [beq_self_eq_true, if_pos, Option.bind_some, e1, e2]
    cases b <;> simp [cutA]
  by_cases k3 : j.Kind = 3
  · obtain ⟨b, e1, e2, _⟩ := p_AtomOK ⟨2, 0, j.T⟩
    simp only [k3]
    simp [e1, e2]
    cases b <;> simp [cutA]
  by_cases k1 : j.Kind = 1
  · obtain ⟨b, e1, e2, _⟩ := p_AtomOK ⟨3, j.N, []⟩
    simp only [k1]
    simp [e1, e2]
    cases b <;> simp [cutA]
  have c2 : (j.Kind == 2) = false := by simp [k2]
  have c3 : (j.Kind == 3) = false := by simp [k3]
  have c1 : (j.Kind == 1) = false := by simp [k1]
  obtain ⟨r, er, hr⟩ := p_pair_some j [117, 117, 105, 100]
  simp only [c1, c2, c3, p_pair, er, Option.bind_some, Bool.false_eq_true, if_false]
  obtain ⟨rj, rb⟩ := r
  by_cases k4 : j.Kind = 4
  · rw [if_pos (by simp [k4])]
    cases rb with
    | false => simp [cutA]
    | true =>
      obtain ⟨b, e1, e2, _⟩ := p_AtomOK ⟨4, rj.N, []⟩
      by_cases h2 : rj.Kind = 2
      · simp [h2, e1, e2]
        cases b <;> simp [cutA]
      · simp [h2, cutA]
  · have hb : rb = false := hr k4
    obtain ⟨b, e1, e2, hb0⟩ := p_AtomOK ⟨0, 0, []⟩
    have hb1 : b = false := hb0 rfl
    subst hb hb1
    rw [if_neg (by simp [k4])]
    simp [e1, cutA]
theorem p_JsonAtom (j : GJson) (ok : okGJson j) : ∃ r, impl_JsonAtom j = some r ∧ spec_JsonAtom j = some r := by
  obtain ⟨b, e1, e2, _⟩ := p_JsonOK_both j ok
  obtain ⟨r, s, f1, f2, hc⟩ := p_toAtom j
  unfold impl_JsonAtom spec_JsonAtom
  rw [e1, e2, Option.bind_some, Option.bind_some, f1, f2, Option.bind_some, Option.bind_some]
  cases b with
  | false => simp
  | true =>
    subst hc
    obtain ⟨a, c⟩ := r
    cases c <;> simp [cutA]
theorem p_eqAtom (a : GAtom) : laws_eqAtom a a = some true := by
  unfold laws_eqAtom
  simp
theorem law_FnExactJsonAtom (j : GJson) (h : okGJson j) : laws_FnExactJsonAtom j = some true := by
  have hf := fuel_gt
  unfold laws_FnExactJsonAtom
  obtain ⟨r, e, hr⟩ := p_szJson FUEL j 1048576 (by omega) (by omega) (by omega) h
  rw [e, Option.bind_some]
  split
  · rfl
  · rename_i hn
    simp only [decide_eq_true_eq] at hn
    obtain ⟨h1, h2, h3⟩ := hr.resolve_left hn
    have et := p_toJson (n := 1048576) (by omega) FUEL _ j (by omega) h3
    obtain ⟨q, g1, g2⟩ := p_JsonAtom j h
    have eq := p_eqJson (n := 1048576) FUEL _ j (by omega) h3
    rw [et]
    simp only [Option.bind_some, g1, g2, et, p_eqAtom, eq]
    simp
end Go.R
