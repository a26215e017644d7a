/- Sizes, copies, comparisons of JSON values: what the laws' own helpers give. -/
import Derived.Test.YtgmkibkmcohikaaJA2
import Derived.Test.YtgmkibkmcohikaaP0
set_option linter.all false
namespace Go.R
open Go
set_option linter.all false
def smS (n : Int) (t : Str) : Prop := (t.length : Int) ≤ n
theorem smS_mono {n m : Int} (h : n ≤ m) {t : Str} (ht : smS n t) : smS m t := Int.le_trans ht h
def smStringS (n : Int) (l : List Str) : Prop := (l.length : Int) ≤ n ∧ ∀ x ∈ l, smS n x
theorem smStringS_mono {n m : Int} (h : n ≤ m) {l : List Str} (hl : smStringS n l) : smStringS m l := ⟨Int.le_trans hl.1 h, fun x hx => smS_mono h (hl.2 x hx)⟩

theorem p_szStringS_L1 : ∀ (l : List Str) (n : Int), 0 ≤ n → n ≤ 2 ^ 30 → (∀ a ∈ l, okS a) → (∃ r, laws_szStringS_L1 l n = some (.ret r) ∧ r < 0) ∨ ∃ r, laws_szStringS_L1 l n = some (.go r) ∧ 0 ≤ r ∧ r ≤ n ∧ ∀ a ∈ l, smS n a
  | [], n, h0, h1, ok => .inr ⟨n, rfl, h0, Int.le_refl _, by simp⟩
  | a :: l, n, h0, h1, ok => by
    rw [laws_szStringS_L1]
    have k := ok a (by simp)
    simp only [okS, maxLen] at k
    rw [w64_id (by omega)]
    split
    · exact .inl ⟨_, rfl, by omega⟩
    · rename_i h
      simp only [decide_eq_true_eq] at h
      rcases p_szStringS_L1 l (n - a.length) (by omega) (by omega) (fun x hx => ok x (by simp [hx])) with h2 | ⟨r', e', g1, g2, g3⟩
      · exact .inl h2
      · refine .inr ⟨r', e', g1, by omega, ?_⟩
        intro x hx
        rcases List.mem_cons.1 hx with hx | hx
        · rw [hx]; unfold smS; omega
        · exact smS_mono (by omega) (g3 x hx)
theorem p_szStringS (l : List Str) (n : Int) (h0 : 0 ≤ n) (h1 : n ≤ 2 ^ 30) (ok : okL okS l) : ∃ r, laws_szStringS l n = some r ∧ (r < 0 ∨ (0 ≤ r ∧ r ≤ n ∧ smStringS n l)) := by
  unfold laws_szStringS
  have k := ok.1
  simp only [maxLen] at k
  rw [w64_id (by omega)]
  split
  · exact ⟨_, rfl, .inl (by omega)⟩
  rename_i h
  simp only [decide_eq_true_eq] at h
  rcases p_szStringS_L1 l (n - l.length) (by omega) (by omega) ok.2 with ⟨r, e, hr⟩ | ⟨r, e, g1, g2, g3⟩
  · rw [e]; exact ⟨_, rfl, .inl hr⟩
  · rw [e]; exact ⟨_, rfl, .inr ⟨g1, by omega, by omega, fun x hx => smS_mono (by omega) (g3 x hx)⟩⟩

/-- a JSON value of at most k levels, whose parts are of at most n -/
def smJ : Nat → Int → GJson → Prop
  | 0, _, _ => False
  | k + 1, n, x => smS n x.T ∧ smStringS n x.Keys ∧ (x.Items.length : Int) ≤ n ∧ ∀ y ∈ x.Items, smJ k n y
theorem smJ_mono {n m : Int} (h : n ≤ m) : ∀ {k l : Nat} {x : GJson}, k ≤ l → smJ k n x → smJ l m x
  | 0, _, _, _, hx => hx.elim
  | k + 1, 0, _, hk, _ => by omega
  | k + 1, l + 1, x, hk, hx => ⟨smS_mono h hx.1, smStringS_mono h hx.2.1, Int.le_trans hx.2.2.1 h, fun y hy => smJ_mono h (by omega) (hx.2.2.2 y hy)⟩

theorem okGJson.parts {x : GJson} (h : okGJson x) : okS x.T ∧ okL okS x.Keys ∧ x.Items.length ≤ maxLen ∧ ∀ y ∈ x.Items, okGJson y := by
  cases h with
  | mk h0 h1 h2 h3 h4 h5 => exact ⟨h2, h3, h4, h5⟩

theorem p_szJsonS_L1 (rec : GJson → Int → Option Int) (k : Nat) (n0 : Int) (hrec : ∀ a n, 0 ≤ n → n ≤ n0 → okGJson a → ∃ r, rec a n = some r ∧ (r < 0 ∨ (0 ≤ r ∧ r ≤ n ∧ smJ k n a))) : ∀ (l : List GJson) (n : Int), 0 ≤ n → n ≤ n0 → (∀ a ∈ l, okGJson a) → laws_szJsonS_L1 rec l n = some (.ret (-1)) ∨ ∃ r, laws_szJsonS_L1 rec l n = some (.go r) ∧ 0 ≤ r ∧ r ≤ n ∧ ∀ a ∈ l, smJ k n a
  | [], n, h0, h1, ok => .inr ⟨n, rfl, h0, Int.le_refl _, by simp⟩
  | a :: l, n, h0, h1, ok => by
    rw [laws_szJsonS_L1]
    obtain ⟨r, e, hr⟩ := hrec a n h0 h1 (ok a (by simp))
    rw [e, Option.bind_some]
    split
    · exact .inl rfl
    · rename_i h
      simp only [decide_eq_true_eq] at h
      have hr := hr.resolve_left h
      rcases p_szJsonS_L1 rec k n0 hrec l r (by omega) (by omega) (fun x hx => ok x (by simp [hx])) with h2 | ⟨r', e', g1, g2, g3⟩
      · exact .inl h2
      · refine .inr ⟨r', e', g1, by omega, ?_⟩
        intro x hx
        rcases List.mem_cons.1 hx with hx | hx
        · rw [hx]; exact hr.2.2
        · exact smJ_mono (by omega) (Nat.le_refl _) (g3 x hx)
theorem p_szJson : ∀ (k : Nat) (j : GJson) (n : Int), 0 ≤ n → n < k → n ≤ 2 ^ 30 → okGJson j → ∃ r, laws_szJson k j n = some r ∧ (r < 0 ∨ (0 ≤ r ∧ r ≤ n ∧ smJ (n.toNat + 1) n j))
  | 0, j, n, h0, h1, _, _ => by omega
  | k + 1, j, n, h0, h1, h2, ok => by
    rw [laws_szJson]
    unfold laws_szJson_B
    obtain ⟨o1, o2, o3, o4⟩ := ok.parts
    simp only [okS, maxLen] at o1 o3
    rw [w64_id (by omega)]
    split
    · exact ⟨_, rfl, .inl (by omega)⟩
    rename_i c1
    simp only [decide_eq_true_eq] at c1
    obtain ⟨r, e, hr⟩ := p_szStringS j.Keys (n - j.T.length) (by omega) (by omega) o2
    rw [e, Option.bind_some]
    split
    · exact ⟨_, rfl, .inl (by omega)⟩
    rename_i c2
    simp only [decide_eq_true_eq] at c2
    obtain ⟨g1, g2, g3⟩ := hr.resolve_left c2
    have key : ∃ r', laws_szJsonS (laws_szJson k) j.Items r = some r' ∧ (r' < 0 ∨ (0 ≤ r' ∧ r' ≤ r ∧ (j.Items.length : Int) ≤ n ∧ ∀ y ∈ j.Items, smJ n.toNat n y)) := by
      unfold laws_szJsonS
      rw [w64_id (by omega)]
      split
      · exact ⟨_, rfl, .inl (by omega)⟩
      rename_i c3
      simp only [decide_eq_true_eq] at c3
      cases hi : j.Items with
      | nil => exact ⟨r, by simp [laws_szJsonS_L1], .inr ⟨by omega, by omega, by simp; omega, by simp⟩⟩
      | cons y ys =>
        rw [← hi]
        have hl : 1 ≤ j.Items.length := by rw [hi]; simp
        rcases p_szJsonS_L1 (laws_szJson k) n.toNat (n - 1) (fun a m a1 a2 a3 => by
          obtain ⟨r, e, hr⟩ := p_szJson k a m a1 (by omega) (by omega) a3
          refine ⟨r, e, hr.imp id fun ⟨b1, b2, b3⟩ => ⟨b1, b2, smJ_mono (Int.le_refl _) (by omega) b3⟩⟩) j.Items (r - j.Items.length) (by omega) (by omega) o4 with h3 | ⟨r', e', f1, f2, f3⟩
        · rw [h3]; exact ⟨_, rfl, .inl (by omega)⟩
        · rw [e']; exact ⟨_, rfl, .inr ⟨f1, by omega, by omega, fun y hy => smJ_mono (by omega) (Nat.le_refl _) (f3 y hy)⟩⟩
    obtain ⟨r', e', hr'⟩ := key
    rw [e', Option.bind_some]
    split
    · exact ⟨_, rfl, .inl (by omega)⟩
    rename_i c4
    simp only [decide_eq_true_eq] at c4
    obtain ⟨q1, q2, q3, q4⟩ := hr'.resolve_left c4
    exact ⟨_, rfl, .inr ⟨q1, by omega, (show smS n j.T from by unfold smS; omega), smStringS_mono (by omega) g3, q3, q4⟩⟩

theorem p_toStringS_L1 : ∀ (xs : List Str) (i : Nat) (out : List Str), i + xs.length = out.length → laws_toStringS_L1 xs i out = some (out.take i ++ xs)
  | [], i, out, h => by rw [laws_toStringS_L1]; simp at h; simp [h]
  | x :: xs, i, out, h => by
    simp only [List.length_cons] at h
    rw [laws_toStringS_L1, if_pos (by omega), List.getElem?_eq_getElem (by omega), Option.bind_some, p_toStringS_L1 xs (i + 1) _ (by simp; omega), set_fill _ _ _ _ (by omega)]
theorem p_toStringS (l : List Str) (h : (l.length : Int) ≤ 2 ^ 30) : laws_toStringS l = some l := by
  unfold laws_toStringS
  rw [if_pos h, p_toStringS_L1 l 0 _ (by simp)]
  simp
theorem p_toJsonS_L1 (rec : GJson → Option GJson) : ∀ (xs : List GJson) (i : Nat) (out : List GJson), (∀ x ∈ xs, rec x = some x) → i + xs.length = out.length → laws_toJsonS_L1 rec xs i out = some (out.take i ++ xs)
  | [], i, out, _, h => by rw [laws_toJsonS_L1]; simp at h; simp [h]
  | x :: xs, i, out, hr, h => by
    simp only [List.length_cons] at h
    rw [laws_toJsonS_L1, hr x (by simp), Option.bind_some, if_pos (by omega), List.getElem?_eq_getElem (by omega), Option.bind_some, p_toJsonS_L1 rec xs (i + 1) _ (fun y hy => hr y (by simp [hy])) (by simp; omega), set_fill _ _ _ _ (by omega)]
theorem p_toJson {n : Int} (hn : n ≤ 2 ^ 30) : ∀ (k l : Nat) (j : GJson), l ≤ k → smJ l n j → laws_toJson k j = some j
  | _, 0, j, _, h => h.elim
  | 0, l + 1, j, hk, h => by omega
  | k + 1, l + 1, j, hk, h => by
    rw [laws_toJson]
    unfold laws_toJson_B laws_toJsonS
    rw [p_toStringS _ (Int.le_trans h.2.1.1 hn), Option.bind_some, if_pos (Int.le_trans h.2.2.1 hn), p_toJsonS_L1 (laws_toJson k) j.Items 0 _ (fun y hy => p_toJson hn k l y (by omega) (h.2.2.2 y hy)) (by simp)]
    cases j
    simp

theorem p_eqStringS_L1 (b : List Str) : ∀ (xs : List Str) (i : Nat), b.drop i = xs → laws_eqStringS_L1 b xs i = some (.go ())
  | [], i, _ => by rw [laws_eqStringS_L1]
  | x :: xs, i, h => by
    rw [laws_eqStringS_L1, idx_drop h, Option.bind_some, if_neg (by simp), p_eqStringS_L1 b xs (i + 1) (drop_next h)]
theorem p_eqStringS (a : List Str) : laws_eqStringS a a = some true := by
  unfold laws_eqStringS
  rw [if_neg (by simp), p_eqStringS_L1 a a 0 (by simp)]
  rfl
theorem p_eqJsonS_L1 (rec : GJson → GJson → Option Bool) (b : List GJson) : ∀ (xs : List GJson) (i : Nat), (∀ x ∈ xs, rec x x = some true) → b.drop i = xs → laws_eqJsonS_L1 b rec xs i = some (.go ())
  | [], i, _, _ => by rw [laws_eqJsonS_L1]
  | x :: xs, i, hr, h => by
    rw [laws_eqJsonS_L1, idx_drop h, Option.bind_some, hr x (by simp), Option.bind_some, if_neg (by simp), p_eqJsonS_L1 rec b xs (i + 1) (fun y hy => hr y (by simp [hy])) (drop_next h)]
theorem p_eqJson {n : Int} : ∀ (k l : Nat) (j : GJson), l ≤ k → smJ l n j → laws_eqJson k j j = some true
  | _, 0, j, _, h => h.elim
  | 0, l + 1, j, hk, h => by omega
  | k + 1, l + 1, j, hk, h => by
    rw [laws_eqJson]
    unfold laws_eqJson_B laws_eqJsonS
    rw [if_neg (by simp), if_neg (by simp), if_neg (by simp), p_eqStringS, Option.bind_some, if_neg (by simp), if_neg (by simp), p_eqJsonS_L1 (laws_eqJson k) j.Items j.Items 0 (fun y hy => p_eqJson k l y (by omega) (h.2.2.2 y hy)) (by simp)]
    simp
end Go.R
