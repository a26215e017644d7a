/- Weights, sizes, copies, comparisons: what the laws' own helpers give. -/
import Derived.Test.YtdnjjfoooagphaaDJM
import Derived.Test.YtdnjjfoooagphaaP0
set_option linter.all false
namespace Go.R
open Go
set_option linter.all false
theorem p_eqAtom (x : GAtom) : laws_eqAtom x x = some true := by
  unfold laws_eqAtom
  simp

theorem p_eqAtomS_L1 (b : List GAtom) : ∀ (xs : List GAtom) (i : Nat), b.drop i = xs → laws_eqAtomS_L1 b xs i = some (.go ())
  | [], i, _ => by rw [laws_eqAtomS_L1]
  | x :: xs, i, h => by
    rw [laws_eqAtomS_L1, idx_drop h, Option.bind_some, p_eqAtom, Option.bind_some, if_neg (by simp), p_eqAtomS_L1 b xs (i + 1) (drop_next h)]
theorem p_eqAtomS (a : List GAtom) : laws_eqAtomS a a = some true := by
  unfold laws_eqAtomS
  rw [if_neg (by simp), p_eqAtomS_L1 a a 0 (by simp)]
  rfl

def swStringS : List Str → Nat
  | [] => 0
  | x :: xs => x.length + swStringS xs
def wtStringS (l : List Str) : Nat := l.length + swStringS l
theorem swStringS_mem : ∀ {l : List Str} {x : Str}, x ∈ l → x.length ≤ swStringS l
  | [], _, h => by simp at h
  | y :: l, x, h => by
    rw [swStringS]
    rcases List.mem_cons.1 h with rfl | h
    · omega
    · have := swStringS_mem h; omega

/- JSON values: weights. -/
mutual
def wtJson : GJson → Nat
  | ⟨_, _, t, ks, is⟩ => t.length + wtStringS ks + wtJsonS is
def wtJsonS : List GJson → Nat
  | [] => 0
  | x :: xs => 1 + wtJson x + wtJsonS xs
end
theorem wtJson_eq (x : GJson) : wtJson x = x.T.length + wtStringS x.Keys + wtJsonS x.Items := by cases x; simp only [wtJson]
theorem wtJsonS_len : ∀ l : List GJson, l.length ≤ wtJsonS l
  | [] => by simp
  | x :: l => by have := wtJsonS_len l; simp only [wtJsonS, List.length_cons]; omega
theorem wtJsonS_mem : ∀ {l : List GJson} {x : GJson}, x ∈ l → wtJson x < wtJsonS l
  | [], _, h => by simp at h
  | y :: l, x, h => by
    rw [wtJsonS]
    rcases List.mem_cons.1 h with rfl | h
    · omega
    · have := wtJsonS_mem h; omega
theorem wtJsonS_app : ∀ (l m : List GJson), wtJsonS (l ++ m) = wtJsonS l + wtJsonS m
  | [], m => by simp [wtJsonS]
  | x :: l, m => by simp only [List.cons_append, wtJsonS, wtJsonS_app l m]; omega

theorem p_eqStringS_L1 (b : List Str) : ∀ (xs : List Str) (i : Nat), b.drop i = xs → laws_eqStringS_L1 b xs i = some (.go ())
  | [], i, _ => by rw [laws_eqStringS_L1]
  | x :: xs, i, h => by
    rw [laws_eqStringS_L1, idx_drop h, Option.bind_some, if_neg (by simp), p_eqStringS_L1 b xs (i + 1) (drop_next h)]
theorem p_eqStringS (a : List Str) : laws_eqStringS a a = some true := by
  unfold laws_eqStringS
  rw [if_neg (by simp), p_eqStringS_L1 a a 0 (by simp)]
  rfl

/- JSON values: comparisons. -/
theorem p_eqJsonS_L1 (rec : GJson → GJson → Option Bool) (b : List GJson) : ∀ (xs : List GJson) (i : Nat), (∀ x ∈ xs, rec x x = some true) → b.drop i = xs → laws_eqJsonS_L1 b rec xs i = some (.go ())
  | [], i, _, _ => by rw [laws_eqJsonS_L1]
  | x :: xs, i, hr, h => by
    rw [laws_eqJsonS_L1, idx_drop h, Option.bind_some, hr x (by simp), Option.bind_some, if_neg (by simp), p_eqJsonS_L1 rec b xs (i + 1) (fun y hy => hr y (by simp [hy])) (drop_next h)]
theorem p_eqJson_F : ∀ (k : Nat) (j : GJson), wtJson j < k → laws_eqJson k j j = some true
  | 0, j, h => by omega
  | k + 1, j, h => by
    rw [wtJson_eq] at h
    rw [laws_eqJson]
    unfold laws_eqJson_B laws_eqJsonS
    rw [if_neg (by simp), if_neg (by simp), if_neg (by simp), p_eqStringS, Option.bind_some, if_neg (by simp), if_neg (by simp), p_eqJsonS_L1 (laws_eqJson k) j.Items j.Items 0 (fun y hy => p_eqJson_F k y (by have := wtJsonS_mem hy; omega)) (by simp)]
    simp
theorem p_eqJson (j : GJson) (h : wtJson j < 2 ^ 61) : laws_eqJson FUEL j j = some true := p_eqJson_F FUEL j (fuel_lt (by omega))
theorem p_eqJsonS (l : List GJson) (h : wtJsonS l < 2 ^ 61) : laws_eqJsonS (laws_eqJson FUEL) l l = some true := by
  unfold laws_eqJsonS
  rw [if_neg (by simp), p_eqJsonS_L1 _ l l 0 (fun y hy => p_eqJson y (by have := wtJsonS_mem hy; omega)) (by simp)]
  rfl

def wtAtom (x : GAtom) : Nat := x.T.length

theorem p_szAtom (x : GAtom) (n : Int) (h0 : 0 ≤ n) (h1 : n ≤ 2 ^ 30) (ok : okGAtom x) : ∃ r, laws_szAtom x n = some r ∧ (r < 0 ∨ (0 ≤ r ∧ r = n - (wtAtom x : Nat))) := by
  unfold laws_szAtom wtAtom
  have k2 := ok.2.2
  simp only [okS, maxLen] at k2
  rw [w64_id (by omega)]
  split
  · exact ⟨_, rfl, .inl (by omega)⟩
  rename_i h12
  simp only [decide_eq_true_eq] at h12
  exact ⟨_, rfl, .inr ⟨by omega, by omega⟩⟩

def swAtomS : List GAtom → Nat
  | [] => 0
  | x :: xs => wtAtom x + swAtomS xs
def wtAtomS (l : List GAtom) : Nat := l.length + swAtomS l
theorem swAtomS_mem : ∀ {l : List GAtom} {x : GAtom}, x ∈ l → wtAtom x ≤ swAtomS l
  | [], _, h => by simp at h
  | y :: l, x, h => by
    rw [swAtomS]
    rcases List.mem_cons.1 h with rfl | h
    · omega
    · have := swAtomS_mem h; omega

theorem p_szAtomS_L1 : ∀ (l : List GAtom) (n : Int), 0 ≤ n → n ≤ 2 ^ 30 → (∀ a ∈ l, (okGAtom) a) → laws_szAtomS_L1 l n = some (.ret (-1)) ∨ ∃ r, laws_szAtomS_L1 l n = some (.go r) ∧ r = n - (swAtomS l : Nat) ∧ 0 ≤ r
  | [], n, h0, h1, ok => .inr ⟨n, rfl, by simp [swAtomS], h0⟩
  | a :: l, n, h0, h1, ok => by
    rw [laws_szAtomS_L1]
    obtain ⟨r, e, hr⟩ := p_szAtom a n h0 h1 (ok a (by simp))
    rw [e, Option.bind_some]
    split
    · exact .inl rfl
    · rename_i h
      simp only [decide_eq_true_eq] at h
      have hr := hr.resolve_left h
      rcases p_szAtomS_L1 l r (by omega) (by omega) (fun x hx => ok x (by simp [hx])) with h2 | ⟨r', e', g2, g3⟩
      · exact .inl h2
      · exact .inr ⟨r', e', by rw [g2, hr.2]; simp only [swAtomS]; omega, g3⟩
theorem p_szAtomS (l : List GAtom) (n : Int) (h0 : 0 ≤ n) (h1 : n ≤ 2 ^ 30) (ok : (okL (okGAtom)) l) : ∃ r, laws_szAtomS l n = some r ∧ (r < 0 ∨ (0 ≤ r ∧ r = n - (wtAtomS l : Nat))) := by
  unfold laws_szAtomS wtAtomS
  have k1 := ok.1
  simp only [maxLen] at k1
  rw [w64_id (by omega)]
  split
  · exact ⟨_, rfl, .inl (by omega)⟩
  · rename_i h
    simp only [decide_eq_true_eq] at h
    rcases p_szAtomS_L1 l (n - l.length) (by omega) (by omega) ok.2 with h2 | ⟨r', e', g1, g2⟩
    · exact ⟨-1, by rw [h2]; rfl, .inl (by omega)⟩
    · exact ⟨r', by rw [e']; rfl, .inr ⟨g2, by omega⟩⟩

theorem p_toAtom (x : GAtom) (h : wtAtom x ≤ 2 ^ 30) : laws_toAtom x = some x := by
  unfold wtAtom at h
  unfold laws_toAtom
  rfl

theorem p_toAtomS_L1 : ∀ (xs : List GAtom) (i : Nat) (out : List GAtom), (∀ a ∈ xs, wtAtom a ≤ 2 ^ 30) → i + xs.length = out.length → laws_toAtomS_L1 xs i out = some (out.take i ++ xs)
  | [], i, out, _, h => by
    rw [laws_toAtomS_L1]; simp at h; rw [h]; simp
  | x :: xs, i, out, hx, h => by
    rw [laws_toAtomS_L1]
    have hi : i < out.length := by simp at h; omega
    rw [p_toAtom x (hx x (by simp)), Option.bind_some, if_pos hi, List.getElem?_eq_getElem hi, Option.bind_some, p_toAtomS_L1 xs (i + 1) _ (fun a ha => hx a (by simp [ha])) (by simp at h ⊢; omega), set_fill _ _ _ _ hi]
theorem p_toAtomS (a : List GAtom) (h : wtAtomS a ≤ 2 ^ 30) : laws_toAtomS a = some a := by
  unfold laws_toAtomS
  rw [if_pos (by unfold wtAtomS at h; omega), p_toAtomS_L1 a 0 _ (fun a ha => by have := swAtomS_mem ha; unfold wtAtomS at h; omega) (by simp)]
  rfl
theorem cnt_wtAtomS : ∀ (l : List GAtom), cntAtomS l ≤ 8 * wtAtomS l
  | [] => by simp [cntAtomS]
  | x :: l => by
    have ih := cnt_wtAtomS l
    unfold wtAtomS at ih ⊢
    simp only [cntAtomS, swAtomS, List.length_cons, wtAtom]
    omega
theorem fit_wtAtomS (l : List GAtom) (h : wtAtomS l < 2 ^ 61) : fitAtomS l := by
  unfold wtAtomS at h
  unfold fitAtomS
  omega

theorem cnt_wtStringS : ∀ (l : List Str), cntStringS l ≤ 8 * wtStringS l
  | [] => by simp [cntStringS]
  | x :: l => by
    have ih := cnt_wtStringS l
    unfold wtStringS at ih ⊢
    simp only [cntStringS, swStringS, List.length_cons]
    omega
theorem fit_wtStringS (l : List Str) (h : wtStringS l < 2 ^ 61) : fitStringS l := by
  unfold wtStringS at h
  unfold fitStringS
  omega

mutual
theorem cnt_wtJson : ∀ (x : GJson), cntJson x ≤ 8 * wtJson x
  | ⟨_, _, _, ks, is⟩ => by
    have h1 := cnt_wtStringS ks
    have h2 := cnt_wtJsonS is
    simp only [cntJson, wtJson]
    omega
theorem cnt_wtJsonS : ∀ (l : List GJson), cntJsonS l ≤ 8 * wtJsonS l
  | [] => by simp [cntJsonS]
  | x :: l => by
    have h1 := cnt_wtJson x
    have h2 := cnt_wtJsonS l
    simp only [cntJsonS, wtJsonS]
    omega
end
mutual
theorem fit_wtJson : ∀ (x : GJson), wtJson x < 2 ^ 61 → fitJson x
  | ⟨_, _, _, ks, is⟩, h => by
    simp only [wtJson] at h
    have hl := wtJsonS_len is
    simp only [fitJson]
    exact ⟨fit_wtStringS ks (by omega), by omega, fall_wtJson is (by omega)⟩
theorem fall_wtJson : ∀ (l : List GJson), wtJsonS l < 2 ^ 61 → fallJson l
  | [], _ => by simp [fallJson]
  | x :: l, h => by
    simp only [wtJsonS] at h
    simp only [fallJson]
    exact ⟨fit_wtJson x (by omega), fall_wtJson l (by omega)⟩
end
theorem fit_wtJsonS (l : List GJson) (h : wtJsonS l < 2 ^ 61) : fitJsonS l := ⟨by have := wtJsonS_len l; omega, fall_wtJson l h⟩
end Go.R
