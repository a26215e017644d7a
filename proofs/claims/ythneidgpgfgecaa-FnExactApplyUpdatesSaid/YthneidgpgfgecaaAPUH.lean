/- Weights, sizes, copies, comparisons: what the laws' own helpers give. -/
import Derived.Test.YthneidgpgfgecaaAPUM
import Derived.Test.YthneidgpgfgecaaP0
set_option linter.all false
namespace Go.R
open Go
set_option linter.all false
theorem p_eqAtom (x : GAtom) : laws_eqAtom x x = some true := by
  unfold laws_eqAtom
  simp

theorem p_eqAtomS_L1 (b : List GAtom) : ∀ (xs : List GAtom) (i : Nat), b.drop i = xs → laws_eqAtomS_L1 b xs i = some (.go ())
  | [], i, _ => by rw [laws_eqAtomS_L1]
  | x :: xs, i, h => by
    rw [laws_eqAtomS_L1, idx_drop h, Option.bind_some, p_eqAtom, Option.bind_some, if_neg (by simp), p_eqAtomS_L1 b xs (i + 1) (drop_next h)]
theorem p_eqAtomS (a : List GAtom) : laws_eqAtomS a a = some true := by
  unfold laws_eqAtomS
  rw [if_neg (by simp), p_eqAtomS_L1 a a 0 (by simp)]
  rfl

theorem p_eqAtomSS_L1 (b : List (List GAtom)) : ∀ (xs : List (List GAtom)) (i : Nat), b.drop i = xs → laws_eqAtomSS_L1 b xs i = some (.go ())
  | [], i, _ => by rw [laws_eqAtomSS_L1]
  | x :: xs, i, h => by
    rw [laws_eqAtomSS_L1, idx_drop h, Option.bind_some, p_eqAtomS, Option.bind_some, if_neg (by simp), p_eqAtomSS_L1 b xs (i + 1) (drop_next h)]
theorem p_eqAtomSS (a : List (List GAtom)) : laws_eqAtomSS a a = some true := by
  unfold laws_eqAtomSS
  rw [if_neg (by simp), p_eqAtomSS_L1 a a 0 (by simp)]
  rfl

theorem p_eqRow (x : GRow) : laws_eqRow x x = some true := by
  unfold laws_eqRow
  simp [p_eqAtomSS]

theorem p_eqRowS_L1 (b : List GRow) : ∀ (xs : List GRow) (i : Nat), b.drop i = xs → laws_eqRowS_L1 b xs i = some (.go ())
  | [], i, _ => by rw [laws_eqRowS_L1]
  | x :: xs, i, h => by
    rw [laws_eqRowS_L1, idx_drop h, Option.bind_some, p_eqRow, Option.bind_some, if_neg (by simp), p_eqRowS_L1 b xs (i + 1) (drop_next h)]
theorem p_eqRowS (a : List GRow) : laws_eqRowS a a = some true := by
  unfold laws_eqRowS
  rw [if_neg (by simp), p_eqRowS_L1 a a 0 (by simp)]
  rfl

theorem p_eqUpdate (x : GUpdate) : laws_eqUpdate x x = some true := by
  unfold laws_eqUpdate
  simp [p_eqRow, p_eqRow]

theorem p_eqUpdateS_L1 (b : List GUpdate) : ∀ (xs : List GUpdate) (i : Nat), b.drop i = xs → laws_eqUpdateS_L1 b xs i = some (.go ())
  | [], i, _ => by rw [laws_eqUpdateS_L1]
  | x :: xs, i, h => by
    rw [laws_eqUpdateS_L1, idx_drop h, Option.bind_some, p_eqUpdate, Option.bind_some, if_neg (by simp), p_eqUpdateS_L1 b xs (i + 1) (drop_next h)]
theorem p_eqUpdateS (a : List GUpdate) : laws_eqUpdateS a a = some true := by
  unfold laws_eqUpdateS
  rw [if_neg (by simp), p_eqUpdateS_L1 a a 0 (by simp)]
  rfl

def wtAtom (x : GAtom) : Nat := x.T.length

theorem p_szAtom (x : GAtom) (n : Int) (h0 : 0 ≤ n) (h1 : n ≤ 2 ^ 30) (ok : okGAtom x) : ∃ r, laws_szAtom x n = some r ∧ (r < 0 ∨ (0 ≤ r ∧ r = n - (wtAtom x : Nat))) := by
  unfold laws_szAtom wtAtom
  have k2 := ok.2.2
  simp only [okS, maxLen] at k2
  rw [w64_id (by omega)]
  split
  · exact ⟨_, rfl, .inl (by omega)⟩
  rename_i h12
  simp only [decide_eq_true_eq] at h12
  exact ⟨_, rfl, .inr ⟨by omega, by omega⟩⟩

def swAtomS : List GAtom → Nat
  | [] => 0
  | x :: xs => wtAtom x + swAtomS xs
def wtAtomS (l : List GAtom) : Nat := l.length + swAtomS l
theorem swAtomS_mem : ∀ {l : List GAtom} {x : GAtom}, x ∈ l → wtAtom x ≤ swAtomS l
  | [], _, h => by simp at h
  | y :: l, x, h => by
    rw [swAtomS]
    rcases List.mem_cons.1 h with rfl | h
    · omega
    · have := swAtomS_mem h; omega

theorem p_szAtomS_L1 : ∀ (l : List GAtom) (n : Int), 0 ≤ n → n ≤ 2 ^ 30 → (∀ a ∈ l, (okGAtom) a) → laws_szAtomS_L1 l n = some (.ret (-1)) ∨ ∃ r, laws_szAtomS_L1 l n = some (.go r) ∧ r = n - (swAtomS l : Nat) ∧ 0 ≤ r
  | [], n, h0, h1, ok => .inr ⟨n, rfl, by simp [swAtomS], h0⟩
  | a :: l, n, h0, h1, ok => by
    rw [laws_szAtomS_L1]
    obtain ⟨r, e, hr⟩ := p_szAtom a n h0 h1 (ok a (by simp))
    rw [e, Option.bind_some]
    split
    · exact .inl rfl
    · rename_i h
      simp only [decide_eq_true_eq] at h
      have hr := hr.resolve_left h
      rcases p_szAtomS_L1 l r (by omega) (by omega) (fun x hx => ok x (by simp [hx])) with h2 | ⟨r', e', g2, g3⟩
      · exact .inl h2
      · exact .inr ⟨r', e', by rw [g2, hr.2]; simp only [swAtomS]; omega, g3⟩
theorem p_szAtomS (l : List GAtom) (n : Int) (h0 : 0 ≤ n) (h1 : n ≤ 2 ^ 30) (ok : (okL (okGAtom)) l) : ∃ r, laws_szAtomS l n = some r ∧ (r < 0 ∨ (0 ≤ r ∧ r = n - (wtAtomS l : Nat))) := by
  unfold laws_szAtomS wtAtomS
  have k1 := ok.1
  simp only [maxLen] at k1
  rw [w64_id (by omega)]
  split
  · exact ⟨_, rfl, .inl (by omega)⟩
  · rename_i h
    simp only [decide_eq_true_eq] at h
    rcases p_szAtomS_L1 l (n - l.length) (by omega) (by omega) ok.2 with h2 | ⟨r', e', g1, g2⟩
    · exact ⟨-1, by rw [h2]; rfl, .inl (by omega)⟩
    · exact ⟨r', by rw [e']; rfl, .inr ⟨g2, by omega⟩⟩

def swAtomSS : List (List GAtom) → Nat
  | [] => 0
  | x :: xs => wtAtomS x + swAtomSS xs
def wtAtomSS (l : List (List GAtom)) : Nat := l.length + swAtomSS l
theorem swAtomSS_mem : ∀ {l : List (List GAtom)} {x : (List GAtom)}, x ∈ l → wtAtomS x ≤ swAtomSS l
  | [], _, h => by simp at h
  | y :: l, x, h => by
    rw [swAtomSS]
    rcases List.mem_cons.1 h with rfl | h
    · omega
    · have := swAtomSS_mem h; omega

theorem p_szAtomSS_L1 : ∀ (l : List (List GAtom)) (n : Int), 0 ≤ n → n ≤ 2 ^ 30 → (∀ a ∈ l, (okL (okGAtom)) a) → laws_szAtomSS_L1 l n = some (.ret (-1)) ∨ ∃ r, laws_szAtomSS_L1 l n = some (.go r) ∧ r = n - (swAtomSS l : Nat) ∧ 0 ≤ r
  | [], n, h0, h1, ok => .inr ⟨n, rfl, by simp [swAtomSS], h0⟩
  | a :: l, n, h0, h1, ok => by
    rw [laws_szAtomSS_L1]
    obtain ⟨r, e, hr⟩ := p_szAtomS a n h0 h1 (ok a (by simp))
    rw [e, Option.bind_some]
    split
    · exact .inl rfl
    · rename_i h
      simp only [decide_eq_true_eq] at h
      have hr := hr.resolve_left h
      rcases p_szAtomSS_L1 l r (by omega) (by omega) (fun x hx => ok x (by simp [hx])) with h2 | ⟨r', e', g2, g3⟩
      · exact .inl h2
      · exact .inr ⟨r', e', by rw [g2, hr.2]; simp only [swAtomSS]; omega, g3⟩
theorem p_szAtomSS (l : List (List GAtom)) (n : Int) (h0 : 0 ≤ n) (h1 : n ≤ 2 ^ 30) (ok : (okL (okL (okGAtom))) l) : ∃ r, laws_szAtomSS l n = some r ∧ (r < 0 ∨ (0 ≤ r ∧ r = n - (wtAtomSS l : Nat))) := by
  unfold laws_szAtomSS wtAtomSS
  have k1 := ok.1
  simp only [maxLen] at k1
  rw [w64_id (by omega)]
  split
  · exact ⟨_, rfl, .inl (by omega)⟩
  · rename_i h
    simp only [decide_eq_true_eq] at h
    rcases p_szAtomSS_L1 l (n - l.length) (by omega) (by omega) ok.2 with h2 | ⟨r', e', g1, g2⟩
    · exact ⟨-1, by rw [h2]; rfl, .inl (by omega)⟩
    · exact ⟨r', by rw [e']; rfl, .inr ⟨g2, by omega⟩⟩

def wtRow (x : GRow) : Nat := wtAtomSS x.Cells

theorem p_szRow (x : GRow) (n : Int) (h0 : 0 ≤ n) (h1 : n ≤ 2 ^ 30) (ok : okGRow x) : ∃ r, laws_szRow x n = some r ∧ (r < 0 ∨ (0 ≤ r ∧ r = n - (wtRow x : Nat))) := by
  unfold laws_szRow wtRow
  obtain ⟨r1, e1, hr1⟩ := p_szAtomSS x.Cells n (by omega) (by omega) ok.2
  rw [e1, Option.bind_some]
  split
  · exact ⟨_, rfl, .inl (by omega)⟩
  rename_i h11
  simp only [decide_eq_true_eq] at h11
  have hr1 := hr1.resolve_left h11
  exact ⟨_, rfl, .inr ⟨by omega, by omega⟩⟩

def swRowS : List GRow → Nat
  | [] => 0
  | x :: xs => wtRow x + swRowS xs
def wtRowS (l : List GRow) : Nat := l.length + swRowS l
theorem swRowS_mem : ∀ {l : List GRow} {x : GRow}, x ∈ l → wtRow x ≤ swRowS l
  | [], _, h => by simp at h
  | y :: l, x, h => by
    rw [swRowS]
    rcases List.mem_cons.1 h with rfl | h
    · omega
    · have := swRowS_mem h; omega

theorem p_szRowS_L1 : ∀ (l : List GRow) (n : Int), 0 ≤ n → n ≤ 2 ^ 30 → (∀ a ∈ l, (okGRow) a) → laws_szRowS_L1 l n = some (.ret (-1)) ∨ ∃ r, laws_szRowS_L1 l n = some (.go r) ∧ r = n - (swRowS l : Nat) ∧ 0 ≤ r
  | [], n, h0, h1, ok => .inr ⟨n, rfl, by simp [swRowS], h0⟩
  | a :: l, n, h0, h1, ok => by
    rw [laws_szRowS_L1]
    obtain ⟨r, e, hr⟩ := p_szRow a n h0 h1 (ok a (by simp))
    rw [e, Option.bind_some]
    split
    · exact .inl rfl
    · rename_i h
      simp only [decide_eq_true_eq] at h
      have hr := hr.resolve_left h
      rcases p_szRowS_L1 l r (by omega) (by omega) (fun x hx => ok x (by simp [hx])) with h2 | ⟨r', e', g2, g3⟩
      · exact .inl h2
      · exact .inr ⟨r', e', by rw [g2, hr.2]; simp only [swRowS]; omega, g3⟩
theorem p_szRowS (l : List GRow) (n : Int) (h0 : 0 ≤ n) (h1 : n ≤ 2 ^ 30) (ok : (okL (okGRow)) l) : ∃ r, laws_szRowS l n = some r ∧ (r < 0 ∨ (0 ≤ r ∧ r = n - (wtRowS l : Nat))) := by
  unfold laws_szRowS wtRowS
  have k1 := ok.1
  simp only [maxLen] at k1
  rw [w64_id (by omega)]
  split
  · exact ⟨_, rfl, .inl (by omega)⟩
  · rename_i h
    simp only [decide_eq_true_eq] at h
    rcases p_szRowS_L1 l (n - l.length) (by omega) (by omega) ok.2 with h2 | ⟨r', e', g1, g2⟩
    · exact ⟨-1, by rw [h2]; rfl, .inl (by omega)⟩
    · exact ⟨r', by rw [e']; rfl, .inr ⟨g2, by omega⟩⟩

def wtUpdate (x : GUpdate) : Nat := wtRow x.Old + wtRow x.New

theorem p_szUpdate (x : GUpdate) (n : Int) (h0 : 0 ≤ n) (h1 : n ≤ 2 ^ 30) (ok : okGUpdate x) : ∃ r, laws_szUpdate x n = some r ∧ (r < 0 ∨ (0 ≤ r ∧ r = n - (wtUpdate x : Nat))) := by
  unfold laws_szUpdate wtUpdate
  obtain ⟨r1, e1, hr1⟩ := p_szRow x.Old n (by omega) (by omega) ok.2.1
  rw [e1, Option.bind_some]
  split
  · exact ⟨_, rfl, .inl (by omega)⟩
  rename_i h11
  simp only [decide_eq_true_eq] at h11
  have hr1 := hr1.resolve_left h11
  obtain ⟨r2, e2, hr2⟩ := p_szRow x.New r1 (by omega) (by omega) ok.2.2
  rw [e2, Option.bind_some]
  split
  · exact ⟨_, rfl, .inl (by omega)⟩
  rename_i h12
  simp only [decide_eq_true_eq] at h12
  have hr2 := hr2.resolve_left h12
  exact ⟨_, rfl, .inr ⟨by omega, by omega⟩⟩

def swUpdateS : List GUpdate → Nat
  | [] => 0
  | x :: xs => wtUpdate x + swUpdateS xs
def wtUpdateS (l : List GUpdate) : Nat := l.length + swUpdateS l
theorem swUpdateS_mem : ∀ {l : List GUpdate} {x : GUpdate}, x ∈ l → wtUpdate x ≤ swUpdateS l
  | [], _, h => by simp at h
  | y :: l, x, h => by
    rw [swUpdateS]
    rcases List.mem_cons.1 h with rfl | h
    · omega
    · have := swUpdateS_mem h; omega

theorem p_szUpdateS_L1 : ∀ (l : List GUpdate) (n : Int), 0 ≤ n → n ≤ 2 ^ 30 → (∀ a ∈ l, (okGUpdate) a) → laws_szUpdateS_L1 l n = some (.ret (-1)) ∨ ∃ r, laws_szUpdateS_L1 l n = some (.go r) ∧ r = n - (swUpdateS l : Nat) ∧ 0 ≤ r
  | [], n, h0, h1, ok => .inr ⟨n, rfl, by simp [swUpdateS], h0⟩
  | a :: l, n, h0, h1, ok => by
    rw [laws_szUpdateS_L1]
    obtain ⟨r, e, hr⟩ := p_szUpdate a n h0 h1 (ok a (by simp))
    rw [e, Option.bind_some]
    split
    · exact .inl rfl
    · rename_i h
      simp only [decide_eq_true_eq] at h
      have hr := hr.resolve_left h
      rcases p_szUpdateS_L1 l r (by omega) (by omega) (fun x hx => ok x (by simp [hx])) with h2 | ⟨r', e', g2, g3⟩
      · exact .inl h2
      · exact .inr ⟨r', e', by rw [g2, hr.2]; simp only [swUpdateS]; omega, g3⟩
theorem p_szUpdateS (l : List GUpdate) (n : Int) (h0 : 0 ≤ n) (h1 : n ≤ 2 ^ 30) (ok : (okL (okGUpdate)) l) : ∃ r, laws_szUpdateS l n = some r ∧ (r < 0 ∨ (0 ≤ r ∧ r = n - (wtUpdateS l : Nat))) := by
  unfold laws_szUpdateS wtUpdateS
  have k1 := ok.1
  simp only [maxLen] at k1
  rw [w64_id (by omega)]
  split
  · exact ⟨_, rfl, .inl (by omega)⟩
  · rename_i h
    simp only [decide_eq_true_eq] at h
    rcases p_szUpdateS_L1 l (n - l.length) (by omega) (by omega) ok.2 with h2 | ⟨r', e', g1, g2⟩
    · exact ⟨-1, by rw [h2]; rfl, .inl (by omega)⟩
    · exact ⟨r', by rw [e']; rfl, .inr ⟨g2, by omega⟩⟩

theorem p_toAtom (x : GAtom) (h : wtAtom x ≤ 2 ^ 30) : laws_toAtom x = some x := by
  unfold wtAtom at h
  unfold laws_toAtom
  rfl

theorem p_toAtomS_L1 : ∀ (xs : List GAtom) (i : Nat) (out : List GAtom), (∀ a ∈ xs, wtAtom a ≤ 2 ^ 30) → i + xs.length = out.length → laws_toAtomS_L1 xs i out = some (out.take i ++ xs)
  | [], i, out, _, h => by
    rw [laws_toAtomS_L1]; simp at h; rw [h]; simp
  | x :: xs, i, out, hx, h => by
    rw [laws_toAtomS_L1]
    have hi : i < out.length := by simp at h; omega
    rw [p_toAtom x (hx x (by simp)), Option.bind_some, if_pos hi, List.getElem?_eq_getElem hi, Option.bind_some, p_toAtomS_L1 xs (i + 1) _ (fun a ha => hx a (by simp [ha])) (by simp at h ⊢; omega), set_fill _ _ _ _ hi]
theorem p_toAtomS (a : List GAtom) (h : wtAtomS a ≤ 2 ^ 30) : laws_toAtomS a = some a := by
  unfold laws_toAtomS
  rw [if_pos (by unfold wtAtomS at h; omega), p_toAtomS_L1 a 0 _ (fun a ha => by have := swAtomS_mem ha; unfold wtAtomS at h; omega) (by simp)]
  rfl

theorem p_toAtomSS_L1 : ∀ (xs : List (List GAtom)) (i : Nat) (out : List (List GAtom)), (∀ a ∈ xs, wtAtomS a ≤ 2 ^ 30) → i + xs.length = out.length → laws_toAtomSS_L1 xs i out = some (out.take i ++ xs)
  | [], i, out, _, h => by
    rw [laws_toAtomSS_L1]; simp at h; rw [h]; simp
  | x :: xs, i, out, hx, h => by
    rw [laws_toAtomSS_L1]
    have hi : i < out.length := by simp at h; omega
    rw [p_toAtomS x (hx x (by simp)), Option.bind_some, if_pos hi, List.getElem?_eq_getElem hi, Option.bind_some, p_toAtomSS_L1 xs (i + 1) _ (fun a ha => hx a (by simp [ha])) (by simp at h ⊢; omega), set_fill _ _ _ _ hi]
theorem p_toAtomSS (a : List (List GAtom)) (h : wtAtomSS a ≤ 2 ^ 30) : laws_toAtomSS a = some a := by
  unfold laws_toAtomSS
  rw [if_pos (by unfold wtAtomSS at h; omega), p_toAtomSS_L1 a 0 _ (fun a ha => by have := swAtomSS_mem ha; unfold wtAtomSS at h; omega) (by simp)]
  rfl

theorem p_toRow (x : GRow) (h : wtRow x ≤ 2 ^ 30) : laws_toRow x = some x := by
  unfold wtRow at h
  unfold laws_toRow
  simp only [p_toAtomSS x.Cells (by omega), Option.bind_some]

theorem p_toRowS_L1 : ∀ (xs : List GRow) (i : Nat) (out : List GRow), (∀ a ∈ xs, wtRow a ≤ 2 ^ 30) → i + xs.length = out.length → laws_toRowS_L1 xs i out = some (out.take i ++ xs)
  | [], i, out, _, h => by
    rw [laws_toRowS_L1]; simp at h; rw [h]; simp
  | x :: xs, i, out, hx, h => by
    rw [laws_toRowS_L1]
    have hi : i < out.length := by simp at h; omega
    rw [p_toRow x (hx x (by simp)), Option.bind_some, if_pos hi, List.getElem?_eq_getElem hi, Option.bind_some, p_toRowS_L1 xs (i + 1) _ (fun a ha => hx a (by simp [ha])) (by simp at h ⊢; omega), set_fill _ _ _ _ hi]
theorem p_toRowS (a : List GRow) (h : wtRowS a ≤ 2 ^ 30) : laws_toRowS a = some a := by
  unfold laws_toRowS
  rw [if_pos (by unfold wtRowS at h; omega), p_toRowS_L1 a 0 _ (fun a ha => by have := swRowS_mem ha; unfold wtRowS at h; omega) (by simp)]
  rfl

theorem p_toUpdate (x : GUpdate) (h : wtUpdate x ≤ 2 ^ 30) : laws_toUpdate x = some x := by
  unfold wtUpdate at h
  unfold laws_toUpdate
  simp only [p_toRow x.Old (by omega), Option.bind_some, p_toRow x.New (by omega), Option.bind_some]

theorem p_toUpdateS_L1 : ∀ (xs : List GUpdate) (i : Nat) (out : List GUpdate), (∀ a ∈ xs, wtUpdate a ≤ 2 ^ 30) → i + xs.length = out.length → laws_toUpdateS_L1 xs i out = some (out.take i ++ xs)
  | [], i, out, _, h => by
    rw [laws_toUpdateS_L1]; simp at h; rw [h]; simp
  | x :: xs, i, out, hx, h => by
    rw [laws_toUpdateS_L1]
    have hi : i < out.length := by simp at h; omega
    rw [p_toUpdate x (hx x (by simp)), Option.bind_some, if_pos hi, List.getElem?_eq_getElem hi, Option.bind_some, p_toUpdateS_L1 xs (i + 1) _ (fun a ha => hx a (by simp [ha])) (by simp at h ⊢; omega), set_fill _ _ _ _ hi]
theorem p_toUpdateS (a : List GUpdate) (h : wtUpdateS a ≤ 2 ^ 30) : laws_toUpdateS a = some a := by
  unfold laws_toUpdateS
  rw [if_pos (by unfold wtUpdateS at h; omega), p_toUpdateS_L1 a 0 _ (fun a ha => by have := swUpdateS_mem ha; unfold wtUpdateS at h; omega) (by simp)]
  rfl
theorem cnt_wtAtomS : ∀ (l : List GAtom), cntAtomS l ≤ 8 * wtAtomS l
  | [] => by simp [cntAtomS]
  | x :: l => by
    have ih := cnt_wtAtomS l
    unfold wtAtomS at ih ⊢
    simp only [cntAtomS, swAtomS, List.length_cons, wtAtom]
    omega
theorem fit_wtAtomS (l : List GAtom) (h : wtAtomS l < 2 ^ 61) : fitAtomS l := by
  unfold wtAtomS at h
  unfold fitAtomS
  omega

theorem cnt_wtAtomSS : ∀ (l : List (List GAtom)), cntAtomSS l ≤ 8 * wtAtomSS l
  | [] => by simp [cntAtomSS]
  | x :: l => by
    have ih := cnt_wtAtomSS l
    unfold wtAtomSS at ih ⊢
    have h0 := cnt_wtAtomS x
    simp only [cntAtomSS, swAtomSS, List.length_cons]
    omega
theorem fit_wtAtomSS (l : List (List GAtom)) (h : wtAtomSS l < 2 ^ 61) : fitAtomSS l := by
  unfold wtAtomSS at h
  refine ⟨by omega, fun x hx => ?_⟩
  have := swAtomSS_mem hx
  exact fit_wtAtomS _ (by omega)

theorem cnt_wtRowS : ∀ (l : List GRow), cntRowS l ≤ 8 * wtRowS l
  | [] => by simp [cntRowS]
  | x :: l => by
    have ih := cnt_wtRowS l
    unfold wtRowS at ih ⊢
    have h0 := cnt_wtAtomSS x.Cells
    simp only [cntRowS, swRowS, List.length_cons, wtRow]
    omega
theorem fit_wtRowS (l : List GRow) (h : wtRowS l < 2 ^ 61) : fitRowS l := by
  unfold wtRowS at h
  refine ⟨by omega, fun x hx => ?_⟩
  have := swRowS_mem hx
  simp only [wtRow] at this
  exact fit_wtAtomSS _ (by omega)

theorem cnt_wtUpdateS : ∀ (l : List GUpdate), cntUpdateS l ≤ 8 * wtUpdateS l
  | [] => by simp [cntUpdateS]
  | x :: l => by
    have ih := cnt_wtUpdateS l
    unfold wtUpdateS at ih ⊢
    have h0 := cnt_wtAtomSS x.Old.Cells
    have h1 := cnt_wtAtomSS x.New.Cells
    simp only [cntUpdateS, swUpdateS, List.length_cons, wtRow, wtUpdate]
    omega
theorem fit_wtUpdateS (l : List GUpdate) (h : wtUpdateS l < 2 ^ 61) : fitUpdateS l := by
  unfold wtUpdateS at h
  refine ⟨by omega, fun x hx => ?_⟩
  have := swUpdateS_mem hx
  simp only [wtRow, wtUpdate] at this
  exact ⟨fit_wtAtomSS _ (by omega), fit_wtAtomSS _ (by omega)⟩
end Go.R
