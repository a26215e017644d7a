/- Weights, sizes, copies, comparisons: what the laws' own helpers give. -/
import Derived.Test.YtmeckljlaaflkaaFA2
import Derived.Test.YtmeckljlaaflkaaP0
set_option linter.all false
namespace Go.R
open Go
set_option linter.all false
theorem p_eqAtom (x : GAtom) : laws_eqAtom x x = some true := by
  unfold laws_eqAtom
  simp

theorem p_eqAtomS_L1 (b : List GAtom) : ∀ (xs : List GAtom) (i : Nat), b.drop i = xs → laws_eqAtomS_L1 b xs i = some (.go ())
  | [], i, _ => by rw [laws_eqAtomS_L1]
  | x :: xs, i, h => by
    rw [laws_eqAtomS_L1, idx_drop h, Option.bind_some, p_eqAtom, Option.bind_some, if_neg (by simp), p_eqAtomS_L1 b xs (i + 1) (drop_next h)]
theorem p_eqAtomS (a : List GAtom) : laws_eqAtomS a a = some true := by
  unfold laws_eqAtomS
  rw [if_neg (by simp), p_eqAtomS_L1 a a 0 (by simp)]
  rfl

theorem p_eqAtomSS_L1 (b : List (List GAtom)) : ∀ (xs : List (List GAtom)) (i : Nat), b.drop i = xs → laws_eqAtomSS_L1 b xs i = some (.go ())
  | [], i, _ => by rw [laws_eqAtomSS_L1]
  | x :: xs, i, h => by
    rw [laws_eqAtomSS_L1, idx_drop h, Option.bind_some, p_eqAtomS, Option.bind_some, if_neg (by simp), p_eqAtomSS_L1 b xs (i + 1) (drop_next h)]
theorem p_eqAtomSS (a : List (List GAtom)) : laws_eqAtomSS a a = some true := by
  unfold laws_eqAtomSS
  rw [if_neg (by simp), p_eqAtomSS_L1 a a 0 (by simp)]
  rfl

theorem p_eqStringS_L1 (b : List Str) : ∀ (xs : List Str) (i : Nat), b.drop i = xs → laws_eqStringS_L1 b xs i = some (.go ())
  | [], i, _ => by rw [laws_eqStringS_L1]
  | x :: xs, i, h => by
    rw [laws_eqStringS_L1, idx_drop h, Option.bind_some, if_neg (by simp), p_eqStringS_L1 b xs (i + 1) (drop_next h)]
theorem p_eqStringS (a : List Str) : laws_eqStringS a a = some true := by
  unfold laws_eqStringS
  rw [if_neg (by simp), p_eqStringS_L1 a a 0 (by simp)]
  rfl

theorem p_eqRow (x : GRow) : laws_eqRow x x = some true := by
  unfold laws_eqRow
  simp [p_eqAtomSS]

theorem p_eqRowS_L1 (b : List GRow) : ∀ (xs : List GRow) (i : Nat), b.drop i = xs → laws_eqRowS_L1 b xs i = some (.go ())
  | [], i, _ => by rw [laws_eqRowS_L1]
  | x :: xs, i, h => by
    rw [laws_eqRowS_L1, idx_drop h, Option.bind_some, p_eqRow, Option.bind_some, if_neg (by simp), p_eqRowS_L1 b xs (i + 1) (drop_next h)]
theorem p_eqRowS (a : List GRow) : laws_eqRowS a a = some true := by
  unfold laws_eqRowS
  rw [if_neg (by simp), p_eqRowS_L1 a a 0 (by simp)]
  rfl

theorem p_eqResult (x : GResult) : laws_eqResult x x = some true := by
  unfold laws_eqResult
  simp [p_eqStringS, p_eqRowS]

theorem p_eqResultS_L1 (b : List GResult) : ∀ (xs : List GResult) (i : Nat), b.drop i = xs → laws_eqResultS_L1 b xs i = some (.go ())
  | [], i, _ => by rw [laws_eqResultS_L1]
  | x :: xs, i, h => by
    rw [laws_eqResultS_L1, idx_drop h, Option.bind_some, p_eqResult, Option.bind_some, if_neg (by simp), p_eqResultS_L1 b xs (i + 1) (drop_next h)]
theorem p_eqResultS (a : List GResult) : laws_eqResultS a a = some true := by
  unfold laws_eqResultS
  rw [if_neg (by simp), p_eqResultS_L1 a a 0 (by simp)]
  rfl

def wtAtom (x : GAtom) : Nat := x.T.length

theorem p_szAtom (x : GAtom) (n : Int) (h0 : 0 ≤ n) (h1 : n ≤ 2 ^ 30) (ok : okGAtom x) : ∃ r, laws_szAtom x n = some r ∧ (r < 0 ∨ (0 ≤ r ∧ r = n - (wtAtom x : Nat))) := by
  unfold laws_szAtom wtAtom
  have k2 := ok.2.2
  simp only [okS, maxLen] at k2
  rw [w64_id (by omega)]
  split
  · exact ⟨_, rfl, .inl (by omega)⟩
  rename_i h12
  simp only [decide_eq_true_eq] at h12
  exact ⟨_, rfl, .inr ⟨by omega, by omega⟩⟩

def swAtomS : List GAtom → Nat
  | [] => 0
  | x :: xs => wtAtom x + swAtomS xs
def wtAtomS (l : List GAtom) : Nat := l.length + swAtomS l
theorem swAtomS_mem : ∀ {l : List GAtom} {x : GAtom}, x ∈ l → wtAtom x ≤ swAtomS l
  | [], _, h => by simp at h
  | y :: l, x, h => by
    rw [swAtomS]
    rcases List.mem_cons.1 h with rfl | h
    · omega
    · have := swAtomS_mem h; omega

theorem p_szAtomS_L1 : ∀ (l : List GAtom) (n : Int), 0 ≤ n → n ≤ 2 ^ 30 → (∀ a ∈ l, (okGAtom) a) → laws_szAtomS_L1 l n = some (.ret (-1)) ∨ ∃ r, laws_szAtomS_L1 l n = some (.go r) ∧ r = n - (swAtomS l : Nat) ∧ 0 ≤ r
  | [], n, h0, h1, ok => .inr ⟨n, rfl, by simp [swAtomS], h0⟩
  | a :: l, n, h0, h1, ok => by
    rw [laws_szAtomS_L1]
    obtain ⟨r, e, hr⟩ := p_szAtom a n h0 h1 (ok a (by simp))
    rw [e, Option.bind_some]
    split
    · exact .inl rfl
    · rename_i h
      simp only [decide_eq_true_eq] at h
      have hr := hr.resolve_left h
      rcases p_szAtomS_L1 l r (by omega) (by omega) (fun x hx => ok x (by simp [hx])) with h2 | ⟨r', e', g2, g3⟩
      · exact .inl h2
      · exact .inr ⟨r', e', by rw [g2, hr.2]; simp only [swAtomS]; omega, g3⟩
theorem p_szAtomS (l : List GAtom) (n : Int) (h0 : 0 ≤ n) (h1 : n ≤ 2 ^ 30) (ok : (okL (okGAtom)) l) : ∃ r, laws_szAtomS l n = some r ∧ (r < 0 ∨ (0 ≤ r ∧ r = n - (wtAtomS l : Nat))) := by
  unfold laws_szAtomS wtAtomS
  have k1 := ok.1
  simp only [maxLen] at k1
  rw [w64_id (by omega)]
  split
  · exact ⟨_, rfl, .inl (by omega)⟩
  · rename_i h
    simp only [decide_eq_true_eq] at h
    rcases p_szAtomS_L1 l (n - l.length) (by omega) (by omega) ok.2 with h2 | ⟨r', e', g1, g2⟩
    · exact ⟨-1, by rw [h2]; rfl, .inl (by omega)⟩
    · exact ⟨r', by rw [e']; rfl, .inr ⟨g2, by omega⟩⟩

def swAtomSS : List (List GAtom) → Nat
  | [] => 0
  | x :: xs => wtAtomS x + swAtomSS xs
def wtAtomSS (l : List (List GAtom)) : Nat := l.length + swAtomSS l
theorem swAtomSS_mem : ∀ {l : List (List GAtom)} {x : (List GAtom)}, x ∈ l → wtAtomS x ≤ swAtomSS l
  | [], _, h => by simp at h
  | y :: l, x, h => by
    rw [swAtomSS]
    rcases List.mem_cons.1 h with rfl | h
    · omega
    · have := swAtomSS_mem h; omega

theorem p_szAtomSS_L1 : ∀ (l : List (List GAtom)) (n : Int), 0 ≤ n → n ≤ 2 ^ 30 → (∀ a ∈ l, (okL (okGAtom)) a) → laws_szAtomSS_L1 l n = some (.ret (-1)) ∨ ∃ r, laws_szAtomSS_L1 l n = some (.go r) ∧ r = n - (swAtomSS l : Nat) ∧ 0 ≤ r
  | [], n, h0, h1, ok => .inr ⟨n, rfl, by simp [swAtomSS], h0⟩
  | a :: l, n, h0, h1, ok => by
    rw [laws_szAtomSS_L1]
    obtain ⟨r, e, hr⟩ := p_szAtomS a n h0 h1 (ok a (by simp))
    rw [e, Option.bind_some]
    split
    · exact .inl rfl
    · rename_i h
      simp only [decide_eq_true_eq] at h
      have hr := hr.resolve_left h
      rcases p_szAtomSS_L1 l r (by omega) (by omega) (fun x hx => ok x (by simp [hx])) with h2 | ⟨r', e', g2, g3⟩
      · exact .inl h2
      · exact .inr ⟨r', e', by rw [g2, hr.2]; simp only [swAtomSS]; omega, g3⟩
theorem p_szAtomSS (l : List (List GAtom)) (n : Int) (h0 : 0 ≤ n) (h1 : n ≤ 2 ^ 30) (ok : (okL (okL (okGAtom))) l) : ∃ r, laws_szAtomSS l n = some r ∧ (r < 0 ∨ (0 ≤ r ∧ r = n - (wtAtomSS l : Nat))) := by
  unfold laws_szAtomSS wtAtomSS
  have k1 := ok.1
  simp only [maxLen] at k1
  rw [w64_id (by omega)]
  split
  · exact ⟨_, rfl, .inl (by omega)⟩
  · rename_i h
    simp only [decide_eq_true_eq] at h
    rcases p_szAtomSS_L1 l (n - l.length) (by omega) (by omega) ok.2 with h2 | ⟨r', e', g1, g2⟩
    · exact ⟨-1, by rw [h2]; rfl, .inl (by omega)⟩
    · exact ⟨r', by rw [e']; rfl, .inr ⟨g2, by omega⟩⟩

def swStringS : List Str → Nat
  | [] => 0
  | x :: xs => x.length + swStringS xs
def wtStringS (l : List Str) : Nat := l.length + swStringS l
theorem swStringS_mem : ∀ {l : List Str} {x : Str}, x ∈ l → x.length ≤ swStringS l
  | [], _, h => by simp at h
  | y :: l, x, h => by
    rw [swStringS]
    rcases List.mem_cons.1 h with rfl | h
    · omega
    · have := swStringS_mem h; omega

def wtRow (x : GRow) : Nat := wtAtomSS x.Cells

def swRowS : List GRow → Nat
  | [] => 0
  | x :: xs => wtRow x + swRowS xs
def wtRowS (l : List GRow) : Nat := l.length + swRowS l
theorem swRowS_mem : ∀ {l : List GRow} {x : GRow}, x ∈ l → wtRow x ≤ swRowS l
  | [], _, h => by simp at h
  | y :: l, x, h => by
    rw [swRowS]
    rcases List.mem_cons.1 h with rfl | h
    · omega
    · have := swRowS_mem h; omega

def wtResult (x : GResult) : Nat := wtStringS x.Columns + wtRowS x.Rows

theorem p_szStringS_L1 : ∀ (l : List Str) (n : Int), 0 ≤ n → n ≤ 2 ^ 30 → (∀ a ∈ l, (okS) a) → laws_szStringS_L1 l n = some (.ret (-1)) ∨ ∃ r, laws_szStringS_L1 l n = some (.go r) ∧ r = n - (swStringS l : Nat) ∧ 0 ≤ r
  | [], n, h0, h1, ok => .inr ⟨n, rfl, by simp [swStringS], h0⟩
  | a :: l, n, h0, h1, ok => by
    rw [laws_szStringS_L1]
    have k1 := ok a (by simp)
    simp only [okS, maxLen] at k1
    rw [w64_id (by omega)]
    split
    · exact .inl rfl
    · rename_i h
      simp only [decide_eq_true_eq] at h
      rcases p_szStringS_L1 l (n - a.length) (by omega) (by omega) (fun x hx => ok x (by simp [hx])) with h2 | ⟨r', e', g2, g3⟩
      · exact .inl h2
      · exact .inr ⟨r', e', by rw [g2]; simp only [swStringS]; omega, g3⟩
theorem p_szStringS (l : List Str) (n : Int) (h0 : 0 ≤ n) (h1 : n ≤ 2 ^ 30) (ok : (okL (okS)) l) : ∃ r, laws_szStringS l n = some r ∧ (r < 0 ∨ (0 ≤ r ∧ r = n - (wtStringS l : Nat))) := by
  unfold laws_szStringS wtStringS
  have k1 := ok.1
  simp only [maxLen] at k1
  rw [w64_id (by omega)]
  split
  · exact ⟨_, rfl, .inl (by omega)⟩
  · rename_i h
    simp only [decide_eq_true_eq] at h
    rcases p_szStringS_L1 l (n - l.length) (by omega) (by omega) ok.2 with h2 | ⟨r', e', g1, g2⟩
    · exact ⟨-1, by rw [h2]; rfl, .inl (by omega)⟩
    · exact ⟨r', by rw [e']; rfl, .inr ⟨g2, by omega⟩⟩

theorem p_szRow (x : GRow) (n : Int) (h0 : 0 ≤ n) (h1 : n ≤ 2 ^ 30) (ok : okGRow x) : ∃ r, laws_szRow x n = some r ∧ (r < 0 ∨ (0 ≤ r ∧ r = n - (wtRow x : Nat))) := by
  unfold laws_szRow wtRow
  obtain ⟨r1, e1, hr1⟩ := p_szAtomSS x.Cells n (by omega) (by omega) ok.2
  rw [e1, Option.bind_some]
  split
  · exact ⟨_, rfl, .inl (by omega)⟩
  rename_i h11
  simp only [decide_eq_true_eq] at h11
  have hr1 := hr1.resolve_left h11
  exact ⟨_, rfl, .inr ⟨by omega, by omega⟩⟩

theorem p_szRowS_L1 : ∀ (l : List GRow) (n : Int), 0 ≤ n → n ≤ 2 ^ 30 → (∀ a ∈ l, (okGRow) a) → laws_szRowS_L1 l n = some (.ret (-1)) ∨ ∃ r, laws_szRowS_L1 l n = some (.go r) ∧ r = n - (swRowS l : Nat) ∧ 0 ≤ r
  | [], n, h0, h1, ok => .inr ⟨n, rfl, by simp [swRowS], h0⟩
  | a :: l, n, h0, h1, ok => by
    rw [laws_szRowS_L1]
    obtain ⟨r, e, hr⟩ := p_szRow a n h0 h1 (ok a (by simp))
    rw [e, Option.bind_some]
    split
    · exact .inl rfl
    · rename_i h
      simp only [decide_eq_true_eq] at h
      have hr := hr.resolve_left h
      rcases p_szRowS_L1 l r (by omega) (by omega) (fun x hx => ok x (by simp [hx])) with h2 | ⟨r', e', g2, g3⟩
      · exact .inl h2
      · exact .inr ⟨r', e', by rw [g2, hr.2]; simp only [swRowS]; omega, g3⟩
theorem p_szRowS (l : List GRow) (n : Int) (h0 : 0 ≤ n) (h1 : n ≤ 2 ^ 30) (ok : (okL (okGRow)) l) : ∃ r, laws_szRowS l n = some r ∧ (r < 0 ∨ (0 ≤ r ∧ r = n - (wtRowS l : Nat))) := by
  unfold laws_szRowS wtRowS
  have k1 := ok.1
  simp only [maxLen] at k1
  rw [w64_id (by omega)]
  split
  · exact ⟨_, rfl, .inl (by omega)⟩
  · rename_i h
    simp only [decide_eq_true_eq] at h
    rcases p_szRowS_L1 l (n - l.length) (by omega) (by omega) ok.2 with h2 | ⟨r', e', g1, g2⟩
    · exact ⟨-1, by rw [h2]; rfl, .inl (by omega)⟩
    · exact ⟨r', by rw [e']; rfl, .inr ⟨g2, by omega⟩⟩

theorem p_szResult (x : GResult) (n : Int) (h0 : 0 ≤ n) (h1 : n ≤ 2 ^ 30) (ok : okGResult x) : ∃ r, laws_szResult x n = some r ∧ (r < 0 ∨ (0 ≤ r ∧ r = n - (wtResult x : Nat))) := by
  unfold laws_szResult wtResult
  obtain ⟨r3, e3, hr3⟩ := p_szStringS x.Columns n (by omega) (by omega) ok.2.2.2.1
  rw [e3, Option.bind_some]
  split
  · exact ⟨_, rfl, .inl (by omega)⟩
  rename_i h13
  simp only [decide_eq_true_eq] at h13
  have hr3 := hr3.resolve_left h13
  obtain ⟨r4, e4, hr4⟩ := p_szRowS x.Rows r3 (by omega) (by omega) ok.2.2.2.2
  rw [e4, Option.bind_some]
  split
  · exact ⟨_, rfl, .inl (by omega)⟩
  rename_i h14
  simp only [decide_eq_true_eq] at h14
  have hr4 := hr4.resolve_left h14
  exact ⟨_, rfl, .inr ⟨by omega, by omega⟩⟩

def swResultS : List GResult → Nat
  | [] => 0
  | x :: xs => wtResult x + swResultS xs
def wtResultS (l : List GResult) : Nat := l.length + swResultS l
theorem swResultS_mem : ∀ {l : List GResult} {x : GResult}, x ∈ l → wtResult x ≤ swResultS l
  | [], _, h => by simp at h
  | y :: l, x, h => by
    rw [swResultS]
    rcases List.mem_cons.1 h with rfl | h
    · omega
    · have := swResultS_mem h; omega

theorem p_szResultS_L1 : ∀ (l : List GResult) (n : Int), 0 ≤ n → n ≤ 2 ^ 30 → (∀ a ∈ l, (okGResult) a) → laws_szResultS_L1 l n = some (.ret (-1)) ∨ ∃ r, laws_szResultS_L1 l n = some (.go r) ∧ r = n - (swResultS l : Nat) ∧ 0 ≤ r
  | [], n, h0, h1, ok => .inr ⟨n, rfl, by simp [swResultS], h0⟩
  | a :: l, n, h0, h1, ok => by
    rw [laws_szResultS_L1]
    obtain ⟨r, e, hr⟩ := p_szResult a n h0 h1 (ok a (by simp))
    rw [e, Option.bind_some]
    split
    · exact .inl rfl
    · rename_i h
      simp only [decide_eq_true_eq] at h
      have hr := hr.resolve_left h
      rcases p_szResultS_L1 l r (by omega) (by omega) (fun x hx => ok x (by simp [hx])) with h2 | ⟨r', e', g2, g3⟩
      · exact .inl h2
      · exact .inr ⟨r', e', by rw [g2, hr.2]; simp only [swResultS]; omega, g3⟩
theorem p_szResultS (l : List GResult) (n : Int) (h0 : 0 ≤ n) (h1 : n ≤ 2 ^ 30) (ok : (okL (okGResult)) l) : ∃ r, laws_szResultS l n = some r ∧ (r < 0 ∨ (0 ≤ r ∧ r = n - (wtResultS l : Nat))) := by
  unfold laws_szResultS wtResultS
  have k1 := ok.1
  simp only [maxLen] at k1
  rw [w64_id (by omega)]
  split
  · exact ⟨_, rfl, .inl (by omega)⟩
  · rename_i h
    simp only [decide_eq_true_eq] at h
    rcases p_szResultS_L1 l (n - l.length) (by omega) (by omega) ok.2 with h2 | ⟨r', e', g1, g2⟩
    · exact ⟨-1, by rw [h2]; rfl, .inl (by omega)⟩
    · exact ⟨r', by rw [e']; rfl, .inr ⟨g2, by omega⟩⟩

theorem p_toAtom (x : GAtom) (h : wtAtom x ≤ 2 ^ 30) : laws_toAtom x = some x := by
  unfold wtAtom at h
  unfold laws_toAtom
  rfl

theorem p_toAtomS_L1 : ∀ (xs : List GAtom) (i : Nat) (out : List GAtom), (∀ a ∈ xs, wtAtom a ≤ 2 ^ 30) → i + xs.length = out.length → laws_toAtomS_L1 xs i out = some (out.take i ++ xs)
  | [], i, out, _, h => by
    rw [laws_toAtomS_L1]; simp at h; rw [h]; simp
  | x :: xs, i, out, hx, h => by
    rw [laws_toAtomS_L1]
    have hi : i < out.length := by simp at h; omega
    rw [p_toAtom x (hx x (by simp)), Option.bind_some, if_pos hi, List.getElem?_eq_getElem hi, Option.bind_some, p_toAtomS_L1 xs (i + 1) _ (fun a ha => hx a (by simp [ha])) (by simp at h ⊢; omega), set_fill _ _ _ _ hi]
theorem p_toAtomS (a : List GAtom) (h : wtAtomS a ≤ 2 ^ 30) : laws_toAtomS a = some a := by
  unfold laws_toAtomS
  rw [if_pos (by unfold wtAtomS at h; omega), p_toAtomS_L1 a 0 _ (fun a ha => by have := swAtomS_mem ha; unfold wtAtomS at h; omega) (by simp)]
  rfl

theorem p_toAtomSS_L1 : ∀ (xs : List (List GAtom)) (i : Nat) (out : List (List GAtom)), (∀ a ∈ xs, wtAtomS a ≤ 2 ^ 30) → i + xs.length = out.length → laws_toAtomSS_L1 xs i out = some (out.take i ++ xs)
  | [], i, out, _, h => by
    rw [laws_toAtomSS_L1]; simp at h; rw [h]; simp
  | x :: xs, i, out, hx, h => by
    rw [laws_toAtomSS_L1]
    have hi : i < out.length := by simp at h; omega
    rw [p_toAtomS x (hx x (by simp)), Option.bind_some, if_pos hi, List.getElem?_eq_getElem hi, Option.bind_some, p_toAtomSS_L1 xs (i + 1) _ (fun a ha => hx a (by simp [ha])) (by simp at h ⊢; omega), set_fill _ _ _ _ hi]
theorem p_toAtomSS (a : List (List GAtom)) (h : wtAtomSS a ≤ 2 ^ 30) : laws_toAtomSS a = some a := by
  unfold laws_toAtomSS
  rw [if_pos (by unfold wtAtomSS at h; omega), p_toAtomSS_L1 a 0 _ (fun a ha => by have := swAtomSS_mem ha; unfold wtAtomSS at h; omega) (by simp)]
  rfl

theorem p_toStringS_L1 : ∀ (xs : List Str) (i : Nat) (out : List Str), (∀ a ∈ xs, True) → i + xs.length = out.length → laws_toStringS_L1 xs i out = some (out.take i ++ xs)
  | [], i, out, _, h => by
    rw [laws_toStringS_L1]; simp at h; rw [h]; simp
  | x :: xs, i, out, hx, h => by
    rw [laws_toStringS_L1]
    have hi : i < out.length := by simp at h; omega
    rw [if_pos hi, List.getElem?_eq_getElem hi, Option.bind_some, p_toStringS_L1 xs (i + 1) _ (fun a ha => hx a (by simp [ha])) (by simp at h ⊢; omega), set_fill _ _ _ _ hi]
theorem p_toStringS (a : List Str) (h : wtStringS a ≤ 2 ^ 30) : laws_toStringS a = some a := by
  unfold laws_toStringS
  rw [if_pos (by unfold wtStringS at h; omega), p_toStringS_L1 a 0 _ (fun _ _ => trivial) (by simp)]
  rfl

theorem p_toRow (x : GRow) (h : wtRow x ≤ 2 ^ 30) : laws_toRow x = some x := by
  unfold wtRow at h
  unfold laws_toRow
  simp only [p_toAtomSS x.Cells (by omega), Option.bind_some]

theorem p_toRowS_L1 : ∀ (xs : List GRow) (i : Nat) (out : List GRow), (∀ a ∈ xs, wtRow a ≤ 2 ^ 30) → i + xs.length = out.length → laws_toRowS_L1 xs i out = some (out.take i ++ xs)
  | [], i, out, _, h => by
    rw [laws_toRowS_L1]; simp at h; rw [h]; simp
  | x :: xs, i, out, hx, h => by
    rw [laws_toRowS_L1]
    have hi : i < out.length := by simp at h; omega
    rw [p_toRow x (hx x (by simp)), Option.bind_some, if_pos hi, List.getElem?_eq_getElem hi, Option.bind_some, p_toRowS_L1 xs (i + 1) _ (fun a ha => hx a (by simp [ha])) (by simp at h ⊢; omega), set_fill _ _ _ _ hi]
theorem p_toRowS (a : List GRow) (h : wtRowS a ≤ 2 ^ 30) : laws_toRowS a = some a := by
  unfold laws_toRowS
  rw [if_pos (by unfold wtRowS at h; omega), p_toRowS_L1 a 0 _ (fun a ha => by have := swRowS_mem ha; unfold wtRowS at h; omega) (by simp)]
  rfl

theorem p_toResult (x : GResult) (h : wtResult x ≤ 2 ^ 30) : laws_toResult x = some x := by
  unfold wtResult at h
  unfold laws_toResult
  simp only [p_toStringS x.Columns (by omega), Option.bind_some, p_toRowS x.Rows (by omega), Option.bind_some]

theorem p_toResultS_L1 : ∀ (xs : List GResult) (i : Nat) (out : List GResult), (∀ a ∈ xs, wtResult a ≤ 2 ^ 30) → i + xs.length = out.length → laws_toResultS_L1 xs i out = some (out.take i ++ xs)
  | [], i, out, _, h => by
    rw [laws_toResultS_L1]; simp at h; rw [h]; simp
  | x :: xs, i, out, hx, h => by
    rw [laws_toResultS_L1]
    have hi : i < out.length := by simp at h; omega
    rw [p_toResult x (hx x (by simp)), Option.bind_some, if_pos hi, List.getElem?_eq_getElem hi, Option.bind_some, p_toResultS_L1 xs (i + 1) _ (fun a ha => hx a (by simp [ha])) (by simp at h ⊢; omega), set_fill _ _ _ _ hi]
theorem p_toResultS (a : List GResult) (h : wtResultS a ≤ 2 ^ 30) : laws_toResultS a = some a := by
  unfold laws_toResultS
  rw [if_pos (by unfold wtResultS at h; omega), p_toResultS_L1 a 0 _ (fun a ha => by have := swResultS_mem ha; unfold wtResultS at h; omega) (by simp)]
  rfl
end Go.R
