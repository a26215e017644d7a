/- The reference puts an atom into its place; behind ORDS, ATI. -/
import Derived.Test.YtgmkibkmcohikaaATS
set_option linter.all false
namespace Go.R
open Go
set_option linter.all false
theorem atomEq (x y : GAtom) : (x.Kind == y.Kind && (x.N == y.N && (x.T == y.T && true))) = decide (x = y) := by
  cases x; cases y
  rw [Bool.eq_iff_iff]
  simp
theorem p_Has_L1 (a : GAtom) : ∀ d : List GAtom, spec_l03Has_L1 a d = some (if a ∈ d then .ret true else .go ())
  | [] => by rw [spec_l03Has_L1]; simp
  | x :: xs => by
    rw [spec_l03Has_L1, atomEq, p_Has_L1 a xs]
    by_cases h : x = a
    · subst h; simp
    · simp [h, Ne.symm h]
theorem p_Has (d : List GAtom) (a : GAtom) : spec_l03Has d a = some (decide (a ∈ d)) := by
  unfold spec_l03Has
  rw [p_Has_L1]
  by_cases h : a ∈ d <;> simp [h]
theorem p_Put_L1 (d : List GAtom) (a : GAtom) : ∀ (n k : Nat), n < k → n ≤ d.length → d.length ≤ 2 ^ 29 → ∃ m : Nat, spec_l03Put_L1 d a k n = some (m : Int) ∧ m ≤ n ∧ (∀ x, 0 < m → d[m - 1]? = some x → ordA x a ≤ 0) ∧ (∀ j x, m ≤ j → j < n → d[j]? = some x → 0 < ordA x a)
  | _, 0, h, _, _ => by omega
  | 0, k + 1, _, _, _ => by
    refine ⟨0, ?_, by omega, by omega, by omega⟩
    rw [spec_l03Put_L1, if_neg (by simp), Option.bind_some, if_neg (by simp)]
  | n + 1, k + 1, h, hn, hl => by
    obtain ⟨y, hy⟩ : ∃ y, d[n]? = some y := ⟨d[n], List.getElem?_eq_getElem (by omega)⟩
    have ew : w64 (((n + 1 : Nat) : Int) - 1) = (n : Int) := by rw [w64_id (by omega)]; omega
    rw [spec_l03Put_L1, if_pos (by simp), ew, idx_nat, hy, Option.bind_some, p_Order, Option.bind_some, Option.bind_some]
    by_cases hc : ordA y a > 0
    · rw [if_pos (by simpa using hc)]
      obtain ⟨m, e, h1, h2, h3⟩ := p_Put_L1 d a n k (by omega) (by omega) hl
      refine ⟨m, e, by omega, h2, fun j x hj1 hj2 hx => ?_⟩
      by_cases hjn : j = n
      · subst hjn; rw [hy] at hx; rw [← Option.some.inj hx]; exact hc
      · exact h3 j x hj1 (by omega) hx
    · rw [if_neg (by simpa using hc)]
      refine ⟨n + 1, rfl, by omega, fun x _ hx => ?_, by omega⟩
      rw [show n + 1 - 1 = n from by omega, hy] at hx
      rw [← Option.some.inj hx]; omega
theorem ins_get (d : List GAtom) (a : GAtom) (k i : Nat) (hk : k ≤ d.length) : (d.take k ++ a :: d.drop k)[i]? = if i < k then d[i]? else if i = k then some a else d[i - 1]? := by
  by_cases h1 : i < k
  · rw [if_pos h1, List.getElem?_append_left (by simp; omega), List.getElem?_take_of_lt h1]
  · rw [if_neg h1, List.getElem?_append_right (by simp; omega)]
    have hl : (d.take k).length = k := by simp; omega
    rw [hl]
    by_cases h2 : i = k
    · subst h2; simp
    · rw [if_neg h2, show i - k = (i - k - 1) + 1 from by omega, List.getElem?_cons_succ, List.getElem?_drop]
      congr 1; omega
theorem p_Put (k : Int) (d : List GAtom) (a : GAtom) (hs : SortD k d) (ha : atomB a = true) (hk : a.Kind = k) (hl : d.length < 2 ^ 29) : ∃ d', spec_l03Put d a = some d' ∧ SortD k d' ∧ (∀ x, x ∈ d' ↔ x = a ∨ x ∈ d) ∧ d'.length ≤ d.length + 1 := by
  have hf : 2 ^ 40 < FUEL := by unfold FUEL; decide
  unfold spec_l03Put
  rw [p_Has, Option.bind_some]
  by_cases hm : a ∈ d
  · rw [if_pos (by simpa using hm)]
    exact ⟨d, rfl, hs, fun x => ⟨.inr, fun h => h.elim (fun h => h ▸ hm) id⟩, by omega⟩
  · rw [if_neg (by simpa using hm)]
    obtain ⟨m, e, h1, h2, h3⟩ := p_Put_L1 d a d.length FUEL (by omega) (by omega) (by omega)
    rw [e, Option.bind_some, if_pos (by omega), if_pos (by omega), if_pos (by simp; omega), if_pos (by simp; omega), if_pos (by simp; omega)]
    simp only [List.nil_append, Int.toNat_natCast, List.append_assoc, List.cons_append, List.nil_append]
    refine ⟨_, rfl, ⟨?_, ?_⟩, ?_, by simp; omega⟩
    · intro x hx
      simp only [List.mem_append, List.mem_cons] at hx
      rcases hx with hx | rfl | hx
      · exact hs.atom x (List.mem_of_mem_take hx)
      · exact ⟨ha, hk⟩
      · exact hs.atom x (List.mem_of_mem_drop hx)
    · intro i x y hx hy
      rw [ins_get d a m i h1] at hx
      rw [ins_get d a m (i + 1) h1] at hy
      by_cases c1 : i + 1 < m
      · rw [if_pos (by omega)] at hx
        rw [if_pos c1] at hy
        exact hs.ord i x y hx hy
      · rw [if_neg c1] at hy
        by_cases c2 : i + 1 = m
        · rw [if_pos c2] at hy
          rw [if_pos (by omega)] at hx
          have e1 := Option.some.inj hy
          subst e1
          have := h2 x (by omega) (by rw [show m - 1 = i from by omega]; exact hx)
          have hne : ordA x a ≠ 0 := fun h => hm (by rw [← (ordA_zero x a).1 h]; exact List.mem_of_getElem? hx)
          omega
        · rw [if_neg c2] at hy
          rw [if_neg (by omega)] at hx
          by_cases c3 : i = m
          · rw [if_pos c3] at hx
            have e1 := Option.some.inj hx
            subst e1
            rw [show i + 1 - 1 = i from by omega] at hy
            have := h3 i y (by omega) (List.getElem?_eq_some_iff.1 hy).1 hy
            have := ordA_anti y a
            omega
          · rw [if_neg c3] at hx
            exact hs.ord (i - 1) x y hx (by rw [show i - 1 + 1 = i + 1 - 1 from by omega]; exact hy)
    · intro x
      have : x ∈ d ↔ x ∈ d.take m ∨ x ∈ d.drop m := by rw [← List.mem_append, List.take_append_drop]
      simp only [List.mem_append, List.mem_cons, this]
      constructor
      · rintro (h | h | h)
        · exact .inr (.inl h)
        · exact .inl h
        · exact .inr (.inr h)
      · rintro (h | h | h)
        · exact .inr (.inl h)
        · exact .inl h
        · exact .inr (.inr h)
end Go.R
