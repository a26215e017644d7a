/- JsonOK: the reference's way comes to the same. -/
import Derived.Test.YtgmkibkmcohikaaJOK2
set_option linter.all false
namespace Go.R
open Go
set_option linter.all false
theorem p_key (ks : List Str) (hl : ks.length ≤ maxLen) (i : Nat) (hi : i < ks.length) : ((idx ks (i : Int)).bind fun x => (spec_l01Text x).bind fun r => if (!r) then some true else if (decide ((i : Int) > 0)) then (idx ks (w64 ((i : Int) - 1))).bind fun y => (idx ks (i : Int)).bind fun z => some (!Op.bytesLess y z) else some false) = some (!keyAt ks i) := by
  obtain ⟨x, hx⟩ : ∃ x, ks[i]? = some x := ⟨ks[i], List.getElem?_eq_getElem hi⟩
  simp only [maxLen] at hl
  rw [idx_nat, hx, Option.bind_some, p_text, Option.bind_some]
  unfold keyAt
  rw [hx]
  by_cases ht : textB x = true
  · simp only [ht]
    by_cases h0 : i = 0
    · subst h0; simp
    · obtain ⟨y, hy⟩ : ∃ y, ks[i - 1]? = some y := ⟨ks[i - 1], List.getElem?_eq_getElem (by omega)⟩
      have e1 : (i : Int) - 1 = ((i - 1 : Nat) : Int) := by omega
      rw [w64_id (by omega), e1, idx_nat, hy, if_neg (by simp), if_pos (by simp; omega)]
      simp [h0]
  · simp only [Bool.not_eq_true] at ht
    simp [ht]
theorem p_l01_L1 (j : GJson) (rec : GJson → Int → Option (Int × Bool)) (d : Nat) (deep : Int) (hkl : j.Kind = 5 → j.Keys.length = j.Items.length) (hl : j.Keys.length ≤ maxLen) : ∀ (xs : List GJson) (n : Int) (i : Nat), j.Items.drop i = xs → 0 ≤ n → n ≤ 400 →
    (∀ y ∈ xs, ∃ m b, rec y (w64 (deep - 1)) = some (m, b) ∧ (b = true ↔ OkD d y ∧ cntD d y ≤ 400) ∧ (b = true → m = cntD d y)) →
    (spec_l01OK_B_L1 j rec deep xs n i = some (.go (n + (xs.map (cntD d)).sum)) ∧ (∀ y ∈ xs, OkD d y) ∧ n + (xs.map (cntD d)).sum ≤ 400 ∧ (j.Kind = 5 → ∀ q, i ≤ q → q < j.Keys.length → keyAt j.Keys q = true)) ∨
    (spec_l01OK_B_L1 j rec deep xs n i = some (.ret (0, false)) ∧ ¬ ((∀ y ∈ xs, OkD d y) ∧ n + (xs.map (cntD d)).sum ≤ 400 ∧ (j.Kind = 5 → ∀ q, i ≤ q → q < j.Keys.length → keyAt j.Keys q = true)))
  | [], n, i, h, h0, h1, hr => by
    refine .inl ⟨by rw [spec_l01OK_B_L1]; simp, by simp, by simpa using h1, fun h5 q a b => ?_⟩
    have := List.drop_eq_nil_iff.1 h
    have := hkl h5
    omega
  | x :: xs, n, i, h, h0, h1, hr => by
    have hi := drop_lt h
    rw [spec_l01OK_B_L1]
    have hs := sum_nn (cntD d) (cntD_nn d) xs
    have hx := cntD_nn d x
    have key : ((if (j.Kind == 5) then
    (idx j.Keys (i : Int)).bind fun x_219 =>
    (spec_l01Text x_219).bind fun r_221 =>
    if (!r_221) then
    some true
    else
    if (decide ((i : Int) > 0)) then
    (idx j.Keys (w64 ((i : Int) - 1))).bind fun x_225 =>
    (idx j.Keys (i : Int)).bind fun x_227 =>
    some (!Op.bytesLess x_225 x_227)
    else
    some false
    else
    some false : Option Bool)) = some (decide (j.Kind = 5) && !keyAt j.Keys i) := by
      by_cases h5 : j.Kind = 5
      · rw [if_pos (by simp [h5]), p_key j.Keys hl i (by have := hkl h5; omega)]
        simp [h5]
      · rw [if_neg (by simp [h5])]; simp [h5]
    rw [key, Option.bind_some]
    by_cases hk : (decide (j.Kind = 5) && !keyAt j.Keys i) = true
    · rw [if_pos hk]
      refine .inr ⟨rfl, fun ⟨_, _, f⟩ => ?_⟩
      simp only [Bool.and_eq_true, decide_eq_true_eq, Bool.not_eq_true'] at hk
      have := f hk.1 i (Nat.le_refl _) (by have := hkl hk.1; omega)
      rw [this] at hk
      cases hk.2
    · rw [if_neg hk]
      obtain ⟨m, b, e, g1, g2⟩ := hr x (by simp)
      rw [e, Option.bind_some]
      cases b with
      | false =>
        simp only [Bool.not_false, if_pos, Option.bind_some]
        refine .inr ⟨trivial, fun ⟨f1, f2, _⟩ => ?_⟩
        simp only [List.map_cons, List.sum_cons] at f2
        have := g1.2 ⟨f1 x (by simp), by omega⟩
        cases this
      | true =>
        have hm := g2 rfl
        obtain ⟨k1, k2⟩ := g1.1 rfl
        simp only
        rw [if_neg (by simp), Option.bind_some, w64_id (by omega)]
        by_cases hc : n + m > 400
        · rw [if_pos (by simpa using hc)]
          refine .inr ⟨rfl, fun ⟨f1, f2, _⟩ => ?_⟩
          simp only [List.map_cons, List.sum_cons] at f2
          omega
        · rw [if_neg (by simpa using hc)]
          have hkey : j.Kind = 5 → keyAt j.Keys i = true := by
            intro h5
            simp only [h5, decide_true, Bool.true_and, Bool.not_eq_true', Bool.not_eq_false] at hk
            exact hk
          rcases p_l01_L1 j rec d deep hkl hl xs (n + m) (i + 1) (drop_next h) (by omega) (by omega) (fun y hy => hr y (by simp [hy])) with ⟨e2, q1, q2, q3⟩ | ⟨e2, q⟩
          · refine .inl ⟨?_, ?_, ?_, ?_⟩
            · rw [e2]; simp only [List.map_cons, List.sum_cons]; congr 2; omega
            · intro y hy
              rcases List.mem_cons.1 hy with rfl | hy
              · exact k1
              · exact q1 y hy
            · simp only [List.map_cons, List.sum_cons]; omega
            · intro h5 q a b
              by_cases hq : q = i
              · rw [hq]; exact hkey h5
              · exact q3 h5 q (by omega) b
          · refine .inr ⟨e2, fun ⟨f1, f2, f3⟩ => q ⟨fun y hy => f1 y (by simp [hy]), ?_, fun h5 q a b => f3 h5 q (by omega) b⟩⟩
            simp only [List.map_cons, List.sum_cons] at f2
            omega
theorem cnt_leaf {d : Nat} {j : GJson} (h : j.Items = []) : cntD (d + 1) j = 1 := by simp [cntD, h]
theorem p_l01OK : ∀ (k d : Nat) (j : GJson), d < k → d ≤ 12 → okGJson j → ∃ n b, spec_l01OK k j d = some (n, b) ∧ (b = true ↔ OkD d j ∧ cntD d j ≤ 400) ∧ (b = true → n = cntD d j)
  | 0, d, j, hk, _, _ => by omega
  | k + 1, 0, j, hk, hd, ok => by
    rw [spec_l01OK]
    unfold spec_l01OK_B
    rw [if_pos (by simp)]
    exact ⟨0, false, rfl, by simp [OkD], by simp⟩
  | k + 1, d + 1, j, hk, hd, ok => by
    obtain ⟨o1, o2, o3, o4⟩ := ok.parts
    rw [spec_l01OK]
    unfold spec_l01OK_B
    rw [if_neg (by simp; omega)]
    have hdeep : w64 (((d + 1 : Nat) : Int) - 1) = (d : Int) := by rw [w64_id (by omega)]; omega
    have leaf : ∀ c : Bool, (c = true ↔ NodeP j) → (NodeP j → j.Items = []) → ∃ n b, some ((1 : Int), c) = some (n, b) ∧ (b = true ↔ OkD (d + 1) j ∧ cntD (d + 1) j ≤ 400) ∧ (b = true → n = cntD (d + 1) j) := by
      intro c hc hi
      refine ⟨1, c, rfl, ?_, fun h => (cnt_leaf (hi (hc.1 h))).symm⟩
      rw [hc]
      constructor
      · intro h
        refine ⟨⟨h, by simp [hi h]⟩, ?_⟩
        rw [cnt_leaf (hi h)]; omega
      · rintro ⟨⟨h, _⟩, _⟩; exact h
    have plainE : ((if ((j.Keys.length : Int) == 0) then some ((j.Items.length : Int) == 0) else some false : Option Bool)) = some (decide (j.Keys = [] ∧ j.Items = [])) := by
      by_cases h1 : j.Keys = [] <;> by_cases h2 : j.Items = [] <;> simp [h1, h2]
    rw [plainE, Option.bind_some]
    by_cases k0 : j.Kind = 0
    · rw [if_pos (by simp [k0])]
      have := leaf (decide (j.Keys = [] ∧ j.Items = []) && decide (j.N = 0) && decide (j.T = [])) (by simp [NodeP, k0]; grind) (by simp [NodeP, k0])
      by_cases h1 : (j.Keys = [] ∧ j.Items = []) <;> by_cases h2 : j.N = 0 <;> by_cases h3 : j.T = [] <;> simpa [h1, h2, h3] using this
    rw [if_neg (by simp [k0])]
    by_cases k1 : j.Kind = 1
    · rw [if_pos (by simp [k1])]
      simp only [p_in, Option.bind_some]
      have := leaf (decide (j.Keys = [] ∧ j.Items = []) && decide (0 ≤ j.N ∧ j.N ≤ 1) && decide (j.T = [])) (by simp [NodeP, k1]; grind) (by simp [NodeP, k1])
      by_cases h1 : (j.Keys = [] ∧ j.Items = []) <;> by_cases h2 : (0 ≤ j.N ∧ j.N ≤ 1) <;> by_cases h3 : j.T = [] <;> simpa [h1, h2, h3] using this
    rw [if_neg (by simp [k1])]
    by_cases k2 : j.Kind = 2
    · rw [if_pos (by simp [k2])]
      simp only [p_in, Option.bind_some]
      have := leaf (decide (j.Keys = [] ∧ j.Items = []) && decide (-1000000000 ≤ j.N ∧ j.N ≤ 1000000000) && decide (j.T = [])) (by simp [NodeP, k2]; grind) (by simp [NodeP, k2])
      by_cases h1 : (j.Keys = [] ∧ j.Items = []) <;> by_cases h2 : (-1000000000 ≤ j.N ∧ j.N ≤ 1000000000) <;> by_cases h3 : j.T = [] <;> simpa [h1, h2, h3] using this
    rw [if_neg (by simp [k2])]
    by_cases k3 : j.Kind = 3
    · rw [if_pos (by simp [k3])]
      simp only [p_text, Option.bind_some]
      have := leaf (decide (j.Keys = [] ∧ j.Items = []) && decide (j.N = 0) && textB j.T) (by simp [NodeP, k3]; grind) (by simp [NodeP, k3])
      by_cases h1 : (j.Keys = [] ∧ j.Items = []) <;> by_cases h2 : j.N = 0 <;> simpa [h1, h2] using this
    rw [if_neg (by simp [k3])]
    by_cases hn : (j.Kind = 4 ∧ j.N = 0 ∧ j.T = [] ∧ j.Keys = []) ∨ (j.Kind = 5 ∧ j.N = 0 ∧ j.T = [] ∧ j.Keys.length = j.Items.length)
    · have hnode : NodeP j ↔ (j.Kind = 5 → ∀ q, q < j.Keys.length → keyAt j.Keys q = true) := by
        rcases hn with ⟨a1, a2, a3, a4⟩ | ⟨a1, a2, a3, a4⟩
        · simp [NodeP, a1, a2, a3, a4]
        · simp [NodeP, a1, a2, a3, a4]
      have hkl : j.Kind = 5 → j.Keys.length = j.Items.length := by
        intro h5
        rcases hn with ⟨a1, _⟩ | ⟨_, _, _, a4⟩
        · omega
        · exact a4
      have hloop := p_l01_L1 j (spec_l01OK k) d ((d + 1 : Nat) : Int) hkl o2.1 j.Items 1 0 (by simp) (by omega) (by omega) (fun y hy => by
        rw [hdeep]
        exact p_l01OK k d y (by omega) (by omega) (o4 y hy))
      have hcond : ∀ X : Option (Int × Bool), (((if (j.Kind != 4) then
    if (j.Kind != 5) then
    some true
    else
    if (j.N != 0) then
    some true
    else
    if (!(j.T == [])) then
    some true
    else
    if (j.Kind == 4) then
    if (decide ((j.Keys.length : Int) > 0)) then
    some true
    else
    if (j.Kind == 5) then
    some ((j.Keys.length : Int) != (j.Items.length : Int))
    else
    some false
    else
    if (j.Kind == 5) then
    some ((j.Keys.length : Int) != (j.Items.length : Int))
    else
    some false
    else
    if (j.N != 0) then
    some true
    else
    if (!(j.T == [])) then
    some true
    else
    if (j.Kind == 4) then
    if (decide ((j.Keys.length : Int) > 0)) then
    some true
    else
    if (j.Kind == 5) then
    some ((j.Keys.length : Int) != (j.Items.length : Int))
    else
    some false
    else
    if (j.Kind == 5) then
    some ((j.Keys.length : Int) != (j.Items.length : Int))
    else
    some false : Option Bool)).bind fun s => if s then some (0, false) else X) = X := by
        intro X
        rcases hn with ⟨a1, a2, a3, a4⟩ | ⟨a1, a2, a3, a4⟩
        · simp [a1, a2, a3, a4]
        · simp [a1, a2, a3, a4]
      rw [hcond]
      rcases hloop with ⟨e2, q1, q2, q3⟩ | ⟨e2, q⟩
      · rw [e2]
        refine ⟨_, true, rfl, ?_, fun _ => by simp only [cntD]⟩
        simp only [true_iff, OkD, cntD]
        exact ⟨⟨hnode.2 fun h5 q hq => q3 h5 q (by omega) hq, q1⟩, q2⟩
      · rw [e2]
        refine ⟨0, false, rfl, ?_, by simp⟩
        simp only [Bool.false_eq_true, false_iff, OkD, cntD]
        rintro ⟨⟨f1, f2⟩, f3⟩
        exact q ⟨f2, f3, fun h5 q _ hq => hnode.1 f1 h5 q hq⟩
    · have hnn : ¬ NodeP j := by
        intro h
        apply hn
        unfold NodeP at h
        rcases h with h | h | h | h | h | h
        · exact absurd h.1 k0
        · exact absurd h.1 k1
        · exact absurd h.1 k2
        · exact absurd h.1 k3
        · exact .inl h
        · exact .inr ⟨h.1, h.2.1, h.2.2.1, h.2.2.2.1⟩
      refine ⟨0, false, ?_, by simp [OkD, hnn], by simp⟩
      by_cases k4 : j.Kind = 4
      · simp only [k4]
        by_cases h1 : j.N = 0 <;> by_cases h2 : j.T = [] <;> by_cases h3 : j.Keys = [] <;> simp [h1, h2, h3, List.length_pos_iff] <;> simp_all
      · by_cases k5 : j.Kind = 5
        · simp only [k5]
          by_cases h1 : j.N = 0 <;> by_cases h2 : j.T = [] <;> by_cases h3 : j.Keys.length = j.Items.length <;> simp [h1, h2, h3] <;> first | (intro h; omega) | simp_all
        · simp [k4, k5]
theorem fuel_gt : 2 ^ 40 < FUEL := by unfold FUEL; decide
theorem p_JsonOK_both (j : GJson) (ok : okGJson j) : ∃ b, impl_JsonOK j = some b ∧ spec_JsonOK j = some b ∧ (b = true ↔ OkD 12 j ∧ cntD 12 j ≤ 400) := by
  have hf := fuel_gt
  obtain ⟨b, room', e1, _, h1, _⟩ := p_rightIn FUEL 12 j 400 (by omega) (by omega) (by omega) (by omega) ok
  obtain ⟨n, b', e2, h2, _⟩ := p_l01OK FUEL 12 j (by omega) (by omega) ok
  have hb : b = b' := by rw [Bool.eq_iff_iff, h1, h2]
  refine ⟨b, ?_, ?_, h1⟩
  · unfold impl_JsonOK
    have : (12 : Int) - ((12 : Nat) : Int) = 0 := by decide
    rw [this] at e1
    rw [e1, Option.bind_some]
  · unfold spec_JsonOK
    have e2' : spec_l01OK FUEL j 12 = some (n, b') := e2
    rw [e2', Option.bind_some, hb]
end Go.R
