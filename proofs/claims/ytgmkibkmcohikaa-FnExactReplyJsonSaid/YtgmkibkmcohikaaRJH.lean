/- Weights, sizes, copies, comparisons: what the laws' own helpers give. -/
import Derived.Test.YtgmkibkmcohikaaRJM
import Derived.Test.YtgmkibkmcohikaaP0
set_option linter.all false
namespace Go.R
open Go
set_option linter.all false
def swStringS : List Str → Nat
  | [] => 0
  | x :: xs => x.length + swStringS xs
def wtStringS (l : List Str) : Nat := l.length + swStringS l
theorem swStringS_mem : ∀ {l : List Str} {x : Str}, x ∈ l → x.length ≤ swStringS l
  | [], _, h => by simp at h
  | y :: l, x, h => by
    rw [swStringS]
    rcases List.mem_cons.1 h with rfl | h
    · omega
    · have := swStringS_mem h; omega

/- JSON values: weights. -/
mutual
def wtJson : GJson → Nat
  | ⟨_, _, t, ks, is⟩ => t.length + wtStringS ks + wtJsonS is
def wtJsonS : List GJson → Nat
  | [] => 0
  | x :: xs => 1 + wtJson x + wtJsonS xs
end
theorem wtJson_eq (x : GJson) : wtJson x = x.T.length + wtStringS x.Keys + wtJsonS x.Items := by cases x; simp only [wtJson]
theorem wtJsonS_len : ∀ l : List GJson, l.length ≤ wtJsonS l
  | [] => by simp
  | x :: l => by have := wtJsonS_len l; simp only [wtJsonS, List.length_cons]; omega
theorem wtJsonS_mem : ∀ {l : List GJson} {x : GJson}, x ∈ l → wtJson x < wtJsonS l
  | [], _, h => by simp at h
  | y :: l, x, h => by
    rw [wtJsonS]
    rcases List.mem_cons.1 h with rfl | h
    · omega
    · have := wtJsonS_mem h; omega
theorem wtJsonS_app : ∀ (l m : List GJson), wtJsonS (l ++ m) = wtJsonS l + wtJsonS m
  | [], m => by simp [wtJsonS]
  | x :: l, m => by simp only [List.cons_append, wtJsonS, wtJsonS_app l m]; omega

theorem p_eqStringS_L1 (b : List Str) : ∀ (xs : List Str) (i : Nat), b.drop i = xs → laws_eqStringS_L1 b xs i = some (.go ())
  | [], i, _ => by rw [laws_eqStringS_L1]
  | x :: xs, i, h => by
    rw [laws_eqStringS_L1, idx_drop h, Option.bind_some, if_neg (by simp), p_eqStringS_L1 b xs (i + 1) (drop_next h)]
theorem p_eqStringS (a : List Str) : laws_eqStringS a a = some true := by
  unfold laws_eqStringS
  rw [if_neg (by simp), p_eqStringS_L1 a a 0 (by simp)]
  rfl

/- JSON values: comparisons. -/
theorem p_eqJsonS_L1 (rec : GJson → GJson → Option Bool) (b : List GJson) : ∀ (xs : List GJson) (i : Nat), (∀ x ∈ xs, rec x x = some true) → b.drop i = xs → laws_eqJsonS_L1 b rec xs i = some (.go ())
  | [], i, _, _ => by rw [laws_eqJsonS_L1]
  | x :: xs, i, hr, h => by
    rw [laws_eqJsonS_L1, idx_drop h, Option.bind_some, hr x (by simp), Option.bind_some, if_neg (by simp), p_eqJsonS_L1 rec b xs (i + 1) (fun y hy => hr y (by simp [hy])) (drop_next h)]
theorem p_eqJson_F : ∀ (k : Nat) (j : GJson), wtJson j < k → laws_eqJson k j j = some true
  | 0, j, h => by omega
  | k + 1, j, h => by
    rw [wtJson_eq] at h
    rw [laws_eqJson]
    unfold laws_eqJson_B laws_eqJsonS
    rw [if_neg (by simp), if_neg (by simp), if_neg (by simp), p_eqStringS, Option.bind_some, if_neg (by simp), if_neg (by simp), p_eqJsonS_L1 (laws_eqJson k) j.Items j.Items 0 (fun y hy => p_eqJson_F k y (by have := wtJsonS_mem hy; omega)) (by simp)]
    simp
theorem p_eqJson (j : GJson) (h : wtJson j < 2 ^ 61) : laws_eqJson FUEL j j = some true := p_eqJson_F FUEL j (fuel_lt (by omega))
theorem p_eqJsonS (l : List GJson) (h : wtJsonS l < 2 ^ 61) : laws_eqJsonS (laws_eqJson FUEL) l l = some true := by
  unfold laws_eqJsonS
  rw [if_neg (by simp), p_eqJsonS_L1 _ l l 0 (fun y hy => p_eqJson y (by have := wtJsonS_mem hy; omega)) (by simp)]
  rfl

theorem p_szStringS_L1 : ∀ (l : List Str) (n : Int), 0 ≤ n → n ≤ 2 ^ 30 → (∀ a ∈ l, (okS) a) → laws_szStringS_L1 l n = some (.ret (-1)) ∨ ∃ r, laws_szStringS_L1 l n = some (.go r) ∧ r = n - (swStringS l : Nat) ∧ 0 ≤ r
  | [], n, h0, h1, ok => .inr ⟨n, rfl, by simp [swStringS], h0⟩
  | a :: l, n, h0, h1, ok => by
    rw [laws_szStringS_L1]
    have k1 := ok a (by simp)
    simp only [okS, maxLen] at k1
    rw [w64_id (by omega)]
    split
    · exact .inl rfl
    · rename_i h
      simp only [decide_eq_true_eq] at h
      rcases p_szStringS_L1 l (n - a.length) (by omega) (by omega) (fun x hx => ok x (by simp [hx])) with h2 | ⟨r', e', g2, g3⟩
      · exact .inl h2
      · exact .inr ⟨r', e', by rw [g2]; simp only [swStringS]; omega, g3⟩
theorem p_szStringS (l : List Str) (n : Int) (h0 : 0 ≤ n) (h1 : n ≤ 2 ^ 30) (ok : (okL (okS)) l) : ∃ r, laws_szStringS l n = some r ∧ (r < 0 ∨ (0 ≤ r ∧ r = n - (wtStringS l : Nat))) := by
  unfold laws_szStringS wtStringS
  have k1 := ok.1
  simp only [maxLen] at k1
  rw [w64_id (by omega)]
  split
  · exact ⟨_, rfl, .inl (by omega)⟩
  · rename_i h
    simp only [decide_eq_true_eq] at h
    rcases p_szStringS_L1 l (n - l.length) (by omega) (by omega) ok.2 with h2 | ⟨r', e', g1, g2⟩
    · exact ⟨-1, by rw [h2]; rfl, .inl (by omega)⟩
    · exact ⟨r', by rw [e']; rfl, .inr ⟨g2, by omega⟩⟩

/- JSON values: sizes. -/
theorem okGJson.parts {x : GJson} (h : okGJson x) : okS x.T ∧ okL okS x.Keys ∧ x.Items.length ≤ maxLen ∧ ∀ y ∈ x.Items, okGJson y := by
  cases h with
  | mk h0 h1 h2 h3 h4 h5 => exact ⟨h2, h3, h4, h5⟩
def swJsonS : List GJson → Nat
  | [] => 0
  | x :: xs => wtJson x + swJsonS xs
theorem swJsonS_eq : ∀ l, wtJsonS l = l.length + swJsonS l
  | [] => by simp [wtJsonS, swJsonS]
  | x :: l => by simp only [wtJsonS, swJsonS, List.length_cons, swJsonS_eq l]; omega
theorem p_szJsonS_L1 (rec : GJson → Int → Option Int) (n0 : Int) (hrec : ∀ a n, 0 ≤ n → n ≤ n0 → okGJson a → ∃ r, rec a n = some r ∧ (r < 0 ∨ (0 ≤ r ∧ r = n - (wtJson a : Nat)))) : ∀ (l : List GJson) (n : Int), 0 ≤ n → n ≤ n0 → (∀ a ∈ l, okGJson a) → laws_szJsonS_L1 rec l n = some (.ret (-1)) ∨ ∃ r, laws_szJsonS_L1 rec l n = some (.go r) ∧ 0 ≤ r ∧ r = n - (swJsonS l : Nat)
  | [], n, h0, h1, ok => .inr ⟨n, rfl, h0, by simp [swJsonS]⟩
  | a :: l, n, h0, h1, ok => by
    rw [laws_szJsonS_L1]
    obtain ⟨r, e, hr⟩ := hrec a n h0 h1 (ok a (by simp))
    rw [e, Option.bind_some]
    split
    · exact .inl rfl
    · rename_i h
      simp only [decide_eq_true_eq] at h
      have hr := hr.resolve_left h
      rcases p_szJsonS_L1 rec n0 hrec l r (by omega) (by omega) (fun x hx => ok x (by simp [hx])) with h2 | ⟨r', e', g1, g2⟩
      · exact .inl h2
      · exact .inr ⟨r', e', g1, by rw [g2, hr.2]; simp only [swJsonS]; omega⟩
theorem p_szJson_F : ∀ (k : Nat) (j : GJson) (n : Int), 0 ≤ n → n < k → n ≤ 2 ^ 30 → okGJson j → ∃ r, laws_szJson k j n = some r ∧ (r < 0 ∨ (0 ≤ r ∧ r = n - (wtJson j : Nat)))
  | 0, j, n, h0, h1, _, _ => by omega
  | k + 1, j, n, h0, h1, h2, ok => by
    rw [laws_szJson, wtJson_eq]
    unfold laws_szJson_B
    obtain ⟨o1, o2, o3, o4⟩ := ok.parts
    simp only [okS, maxLen] at o1 o3
    rw [w64_id (by omega)]
    split
    · exact ⟨_, rfl, .inl (by omega)⟩
    rename_i c1
    simp only [decide_eq_true_eq] at c1
    obtain ⟨r, e, hr⟩ := p_szStringS j.Keys (n - j.T.length) (by omega) (by omega) o2
    rw [e, Option.bind_some]
    split
    · exact ⟨_, rfl, .inl (by omega)⟩
    rename_i c2
    simp only [decide_eq_true_eq] at c2
    obtain ⟨g1, g2⟩ := hr.resolve_left c2
    have key : ∃ r', laws_szJsonS (laws_szJson k) j.Items r = some r' ∧ (r' < 0 ∨ (0 ≤ r' ∧ r' = r - (wtJsonS j.Items : Nat))) := by
      unfold laws_szJsonS
      rw [w64_id (by omega), swJsonS_eq]
      split
      · exact ⟨_, rfl, .inl (by omega)⟩
      rename_i c3
      simp only [decide_eq_true_eq] at c3
      cases hi : j.Items with
      | nil => exact ⟨r, by simp [laws_szJsonS_L1], .inr ⟨by omega, by simp [swJsonS]⟩⟩
      | cons y ys =>
        rw [← hi]
        have hl : 1 ≤ j.Items.length := by rw [hi]; simp
        rcases p_szJsonS_L1 (laws_szJson k) (n - 1) (fun a m a1 a2 a3 => p_szJson_F k a m a1 (by omega) (by omega) a3) j.Items (r - j.Items.length) (by omega) (by omega) o4 with h3 | ⟨r', e', f1, f2⟩
        · rw [h3]; exact ⟨_, rfl, .inl (by omega)⟩
        · rw [e']; exact ⟨_, rfl, .inr ⟨f1, by omega⟩⟩
    obtain ⟨r', e', hr'⟩ := key
    rw [e', Option.bind_some]
    split
    · exact ⟨_, rfl, .inl (by omega)⟩
    rename_i c4
    simp only [decide_eq_true_eq] at c4
    obtain ⟨q1, q2⟩ := hr'.resolve_left c4
    exact ⟨_, rfl, .inr ⟨q1, by omega⟩⟩
theorem p_szJson (j : GJson) (n : Int) (h0 : 0 ≤ n) (h1 : n ≤ 2 ^ 30) (ok : okGJson j) : ∃ r, laws_szJson FUEL j n = some r ∧ (r < 0 ∨ (0 ≤ r ∧ r = n - (wtJson j : Nat))) := p_szJson_F FUEL j n h0 (by have := fuel_lt (n := n.toNat) (by omega); omega) h1 ok

theorem p_toStringS_L1 : ∀ (xs : List Str) (i : Nat) (out : List Str), (∀ a ∈ xs, True) → i + xs.length = out.length → laws_toStringS_L1 xs i out = some (out.take i ++ xs)
  | [], i, out, _, h => by
    rw [laws_toStringS_L1]; simp at h; rw [h]; simp
  | x :: xs, i, out, hx, h => by
    rw [laws_toStringS_L1]
    have hi : i < out.length := by simp at h; omega
    rw [if_pos hi, List.getElem?_eq_getElem hi, Option.bind_some, p_toStringS_L1 xs (i + 1) _ (fun a ha => hx a (by simp [ha])) (by simp at h ⊢; omega), set_fill _ _ _ _ hi]
theorem p_toStringS (a : List Str) (h : wtStringS a ≤ 2 ^ 30) : laws_toStringS a = some a := by
  unfold laws_toStringS
  rw [if_pos (by unfold wtStringS at h; omega), p_toStringS_L1 a 0 _ (fun _ _ => trivial) (by simp)]
  rfl

/- JSON values: copies. -/
theorem p_toJsonS_L1 (rec : GJson → Option GJson) : ∀ (xs : List GJson) (i : Nat) (out : List GJson), (∀ x ∈ xs, rec x = some x) → i + xs.length = out.length → laws_toJsonS_L1 rec xs i out = some (out.take i ++ xs)
  | [], i, out, _, h => by rw [laws_toJsonS_L1]; simp at h; simp [h]
  | x :: xs, i, out, hr, h => by
    simp only [List.length_cons] at h
    rw [laws_toJsonS_L1, hr x (by simp), Option.bind_some, if_pos (by omega), List.getElem?_eq_getElem (by omega), Option.bind_some, p_toJsonS_L1 rec xs (i + 1) _ (fun y hy => hr y (by simp [hy])) (by simp; omega), set_fill _ _ _ _ (by omega)]
theorem p_toJson_F : ∀ (k : Nat) (j : GJson), wtJson j < k → wtJson j ≤ 2 ^ 30 → laws_toJson k j = some j
  | 0, j, h, _ => by omega
  | k + 1, j, h, h2 => by
    rw [wtJson_eq] at h h2
    have hl := wtJsonS_len j.Items
    rw [laws_toJson]
    unfold laws_toJson_B laws_toJsonS
    rw [p_toStringS _ (by omega), Option.bind_some, if_pos (by omega), p_toJsonS_L1 (laws_toJson k) j.Items 0 _ (fun y hy => by have := wtJsonS_mem hy; exact p_toJson_F k y (by omega) (by omega)) (by simp)]
    cases j
    simp
theorem p_toJson (j : GJson) (h : wtJson j ≤ 2 ^ 30) : laws_toJson FUEL j = some j := p_toJson_F FUEL j (fuel_lt (by omega)) h
theorem cnt_wtStringS : ∀ (l : List Str), cntStringS l ≤ 8 * wtStringS l
  | [] => by simp [cntStringS]
  | x :: l => by
    have ih := cnt_wtStringS l
    unfold wtStringS at ih ⊢
    simp only [cntStringS, swStringS, List.length_cons]
    omega
theorem fit_wtStringS (l : List Str) (h : wtStringS l < 2 ^ 61) : fitStringS l := by
  unfold wtStringS at h
  unfold fitStringS
  omega

mutual
theorem cnt_wtJson : ∀ (x : GJson), cntJson x ≤ 8 * wtJson x
  | ⟨_, _, _, ks, is⟩ => by
    have h1 := cnt_wtStringS ks
    have h2 := cnt_wtJsonS is
    simp only [cntJson, wtJson]
    omega
theorem cnt_wtJsonS : ∀ (l : List GJson), cntJsonS l ≤ 8 * wtJsonS l
  | [] => by simp [cntJsonS]
  | x :: l => by
    have h1 := cnt_wtJson x
    have h2 := cnt_wtJsonS l
    simp only [cntJsonS, wtJsonS]
    omega
end
mutual
theorem fit_wtJson : ∀ (x : GJson), wtJson x < 2 ^ 61 → fitJson x
  | ⟨_, _, _, ks, is⟩, h => by
    simp only [wtJson] at h
    have hl := wtJsonS_len is
    simp only [fitJson]
    exact ⟨fit_wtStringS ks (by omega), by omega, fall_wtJson is (by omega)⟩
theorem fall_wtJson : ∀ (l : List GJson), wtJsonS l < 2 ^ 61 → fallJson l
  | [], _ => by simp [fallJson]
  | x :: l, h => by
    simp only [wtJsonS] at h
    simp only [fallJson]
    exact ⟨fit_wtJson x (by omega), fall_wtJson l (by omega)⟩
end
theorem fit_wtJsonS (l : List GJson) (h : wtJsonS l < 2 ^ 61) : fitJsonS l := ⟨by have := wtJsonS_len l; omega, fall_wtJson l h⟩
end Go.R
