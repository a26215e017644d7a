/- Sizes, copies, comparisons: what the laws' own helpers give. -/
import Derived.Test.YtgmkibkmcohikaaSR2
import Derived.Test.YtgmkibkmcohikaaP0
set_option linter.all false
namespace Go.R
open Go
set_option linter.all false
def smS (n : Int) (t : Str) : Prop := (t.length : Int) ≤ n
theorem smS_mono {n m : Int} (h : n ≤ m) {t : Str} (ht : smS n t) : smS m t := Int.le_trans ht h
theorem p_eqAtom (x : GAtom) : laws_eqAtom x x = some true := by
  unfold laws_eqAtom
  simp

theorem p_eqAtomS_L1 (b : List GAtom) : ∀ (xs : List GAtom) (i : Nat), b.drop i = xs → laws_eqAtomS_L1 b xs i = some (.go ())
  | [], i, _ => by rw [laws_eqAtomS_L1]
  | x :: xs, i, h => by
    rw [laws_eqAtomS_L1, idx_drop h, Option.bind_some, p_eqAtom, Option.bind_some, if_neg (by simp), p_eqAtomS_L1 b xs (i + 1) (drop_next h)]
theorem p_eqAtomS (a : List GAtom) : laws_eqAtomS a a = some true := by
  unfold laws_eqAtomS
  rw [if_neg (by simp), p_eqAtomS_L1 a a 0 (by simp)]
  rfl

theorem p_eqAtomSS_L1 (b : List (List GAtom)) : ∀ (xs : List (List GAtom)) (i : Nat), b.drop i = xs → laws_eqAtomSS_L1 b xs i = some (.go ())
  | [], i, _ => by rw [laws_eqAtomSS_L1]
  | x :: xs, i, h => by
    rw [laws_eqAtomSS_L1, idx_drop h, Option.bind_some, p_eqAtomS, Option.bind_some, if_neg (by simp), p_eqAtomSS_L1 b xs (i + 1) (drop_next h)]
theorem p_eqAtomSS (a : List (List GAtom)) : laws_eqAtomSS a a = some true := by
  unfold laws_eqAtomSS
  rw [if_neg (by simp), p_eqAtomSS_L1 a a 0 (by simp)]
  rfl

theorem p_eqRow (x : GRow) : laws_eqRow x x = some true := by
  unfold laws_eqRow
  simp [p_eqAtomSS]

theorem p_eqRowS_L1 (b : List GRow) : ∀ (xs : List GRow) (i : Nat), b.drop i = xs → laws_eqRowS_L1 b xs i = some (.go ())
  | [], i, _ => by rw [laws_eqRowS_L1]
  | x :: xs, i, h => by
    rw [laws_eqRowS_L1, idx_drop h, Option.bind_some, p_eqRow, Option.bind_some, if_neg (by simp), p_eqRowS_L1 b xs (i + 1) (drop_next h)]
theorem p_eqRowS (a : List GRow) : laws_eqRowS a a = some true := by
  unfold laws_eqRowS
  rw [if_neg (by simp), p_eqRowS_L1 a a 0 (by simp)]
  rfl

def smAtom (n : Int) (x : GAtom) : Prop := smS n x.T ∧ True
theorem smAtom_mono {n m : Int} (h : n ≤ m) {x : GAtom} (hx : smAtom n x) : smAtom m x := ⟨smS_mono h hx.1, trivial⟩

theorem p_szAtom (x : GAtom) (n : Int) (h0 : 0 ≤ n) (h1 : n ≤ 2 ^ 30) (ok : okGAtom x) : ∃ r, laws_szAtom x n = some r ∧ (r < 0 ∨ (0 ≤ r ∧ r ≤ n ∧ smAtom n x)) := by
  unfold laws_szAtom
  have k2 := ok.2.2
  simp only [okS, maxLen] at k2
  rw [w64_id (by omega)]
  split
  · exact ⟨_, rfl, .inl (by omega)⟩
  rename_i h12
  simp only [decide_eq_true_eq] at h12
  exact ⟨_, rfl, .inr ⟨by omega, by omega, (show smS n x.T from by unfold smS; omega), trivial⟩⟩

def smAtomS (n : Int) (l : List GAtom) : Prop := (l.length : Int) ≤ n ∧ ∀ x ∈ l, smAtom n x
theorem smAtomS_mono {n m : Int} (h : n ≤ m) {l : List GAtom} (hl : smAtomS n l) : smAtomS m l := ⟨Int.le_trans hl.1 h, fun x hx => smAtom_mono h (hl.2 x hx)⟩

theorem p_szAtomS_L1 : ∀ (l : List GAtom) (n : Int), 0 ≤ n → n ≤ 2 ^ 30 → (∀ a ∈ l, (okGAtom) a) → laws_szAtomS_L1 l n = some (.ret (-1)) ∨ ∃ r, laws_szAtomS_L1 l n = some (.go r) ∧ 0 ≤ r ∧ r ≤ n ∧ ∀ a ∈ l, smAtom n a
  | [], n, h0, h1, ok => .inr ⟨n, rfl, h0, Int.le_refl _, by simp⟩
  | a :: l, n, h0, h1, ok => by
    rw [laws_szAtomS_L1]
    obtain ⟨r, e, hr⟩ := p_szAtom a n h0 h1 (ok a (by simp))
    rw [e, Option.bind_some]
    split
    · exact .inl rfl
    · rename_i h
      simp only [decide_eq_true_eq] at h
      have hr := hr.resolve_left h
      rcases p_szAtomS_L1 l r (by omega) (by omega) (fun x hx => ok x (by simp [hx])) with h2 | ⟨r', e', g1, g2, g3⟩
      · exact .inl h2
      · refine .inr ⟨r', e', g1, by omega, ?_⟩
        intro x hx
        rcases List.mem_cons.1 hx with hx | hx
        · rw [hx]; exact hr.2.2
        · exact smAtom_mono (by omega) (g3 x hx)
theorem p_szAtomS (l : List GAtom) (n : Int) (h0 : 0 ≤ n) (h1 : n ≤ 2 ^ 30) (ok : (okL (okGAtom)) l) : ∃ r, laws_szAtomS l n = some r ∧ (r < 0 ∨ (0 ≤ r ∧ r ≤ n ∧ smAtomS n l)) := by
  unfold laws_szAtomS
  have k1 := ok.1
  simp only [maxLen] at k1
  rw [w64_id (by omega)]
  split
  · exact ⟨_, rfl, .inl (by omega)⟩
  · rename_i h
    simp only [decide_eq_true_eq] at h
    rcases p_szAtomS_L1 l (n - l.length) (by omega) (by omega) ok.2 with h2 | ⟨r', e', g1, g2, g3⟩
    · exact ⟨-1, by rw [h2]; rfl, .inl (by omega)⟩
    · exact ⟨r', by rw [e']; rfl, .inr ⟨g1, by omega, by omega, fun a ha => smAtom_mono (by omega) (g3 a ha)⟩⟩

def smAtomSS (n : Int) (l : List (List GAtom)) : Prop := (l.length : Int) ≤ n ∧ ∀ x ∈ l, smAtomS n x
theorem smAtomSS_mono {n m : Int} (h : n ≤ m) {l : List (List GAtom)} (hl : smAtomSS n l) : smAtomSS m l := ⟨Int.le_trans hl.1 h, fun x hx => smAtomS_mono h (hl.2 x hx)⟩

theorem p_szAtomSS_L1 : ∀ (l : List (List GAtom)) (n : Int), 0 ≤ n → n ≤ 2 ^ 30 → (∀ a ∈ l, (okL (okGAtom)) a) → laws_szAtomSS_L1 l n = some (.ret (-1)) ∨ ∃ r, laws_szAtomSS_L1 l n = some (.go r) ∧ 0 ≤ r ∧ r ≤ n ∧ ∀ a ∈ l, smAtomS n a
  | [], n, h0, h1, ok => .inr ⟨n, rfl, h0, Int.le_refl _, by simp⟩
  | a :: l, n, h0, h1, ok => by
    rw [laws_szAtomSS_L1]
    obtain ⟨r, e, hr⟩ := p_szAtomS a n h0 h1 (ok a (by simp))
    rw [e, Option.bind_some]
    split
    · exact .inl rfl
    · rename_i h
      simp only [decide_eq_true_eq] at h
      have hr := hr.resolve_left h
      rcases p_szAtomSS_L1 l r (by omega) (by omega) (fun x hx => ok x (by simp [hx])) with h2 | ⟨r', e', g1, g2, g3⟩
      · exact .inl h2
      · refine .inr ⟨r', e', g1, by omega, ?_⟩
        intro x hx
        rcases List.mem_cons.1 hx with hx | hx
        · rw [hx]; exact hr.2.2
        · exact smAtomS_mono (by omega) (g3 x hx)
theorem p_szAtomSS (l : List (List GAtom)) (n : Int) (h0 : 0 ≤ n) (h1 : n ≤ 2 ^ 30) (ok : (okL (okL (okGAtom))) l) : ∃ r, laws_szAtomSS l n = some r ∧ (r < 0 ∨ (0 ≤ r ∧ r ≤ n ∧ smAtomSS n l)) := by
  unfold laws_szAtomSS
  have k1 := ok.1
  simp only [maxLen] at k1
  rw [w64_id (by omega)]
  split
  · exact ⟨_, rfl, .inl (by omega)⟩
  · rename_i h
    simp only [decide_eq_true_eq] at h
    rcases p_szAtomSS_L1 l (n - l.length) (by omega) (by omega) ok.2 with h2 | ⟨r', e', g1, g2, g3⟩
    · exact ⟨-1, by rw [h2]; rfl, .inl (by omega)⟩
    · exact ⟨r', by rw [e']; rfl, .inr ⟨g1, by omega, by omega, fun a ha => smAtomS_mono (by omega) (g3 a ha)⟩⟩

def smRow (n : Int) (x : GRow) : Prop := smAtomSS n x.Cells ∧ True
theorem smRow_mono {n m : Int} (h : n ≤ m) {x : GRow} (hx : smRow n x) : smRow m x := ⟨smAtomSS_mono h hx.1, trivial⟩

theorem p_szRow (x : GRow) (n : Int) (h0 : 0 ≤ n) (h1 : n ≤ 2 ^ 30) (ok : okGRow x) : ∃ r, laws_szRow x n = some r ∧ (r < 0 ∨ (0 ≤ r ∧ r ≤ n ∧ smRow n x)) := by
  unfold laws_szRow
  obtain ⟨r1, e1, hr1⟩ := p_szAtomSS x.Cells n (by omega) (by omega) ok.2
  rw [e1, Option.bind_some]
  split
  · exact ⟨_, rfl, .inl (by omega)⟩
  rename_i h11
  simp only [decide_eq_true_eq] at h11
  have hr1 := hr1.resolve_left h11
  exact ⟨_, rfl, .inr ⟨by omega, by omega, smAtomSS_mono (by omega) hr1.2.2, trivial⟩⟩

def smRowS (n : Int) (l : List GRow) : Prop := (l.length : Int) ≤ n ∧ ∀ x ∈ l, smRow n x
theorem smRowS_mono {n m : Int} (h : n ≤ m) {l : List GRow} (hl : smRowS n l) : smRowS m l := ⟨Int.le_trans hl.1 h, fun x hx => smRow_mono h (hl.2 x hx)⟩

theorem p_szRowS_L1 : ∀ (l : List GRow) (n : Int), 0 ≤ n → n ≤ 2 ^ 30 → (∀ a ∈ l, (okGRow) a) → laws_szRowS_L1 l n = some (.ret (-1)) ∨ ∃ r, laws_szRowS_L1 l n = some (.go r) ∧ 0 ≤ r ∧ r ≤ n ∧ ∀ a ∈ l, smRow n a
  | [], n, h0, h1, ok => .inr ⟨n, rfl, h0, Int.le_refl _, by simp⟩
  | a :: l, n, h0, h1, ok => by
    rw [laws_szRowS_L1]
    obtain ⟨r, e, hr⟩ := p_szRow a n h0 h1 (ok a (by simp))
    rw [e, Option.bind_some]
    split
    · exact .inl rfl
    · rename_i h
      simp only [decide_eq_true_eq] at h
      have hr := hr.resolve_left h
      rcases p_szRowS_L1 l r (by omega) (by omega) (fun x hx => ok x (by simp [hx])) with h2 | ⟨r', e', g1, g2, g3⟩
      · exact .inl h2
      · refine .inr ⟨r', e', g1, by omega, ?_⟩
        intro x hx
        rcases List.mem_cons.1 hx with hx | hx
        · rw [hx]; exact hr.2.2
        · exact smRow_mono (by omega) (g3 x hx)
theorem p_szRowS (l : List GRow) (n : Int) (h0 : 0 ≤ n) (h1 : n ≤ 2 ^ 30) (ok : (okL (okGRow)) l) : ∃ r, laws_szRowS l n = some r ∧ (r < 0 ∨ (0 ≤ r ∧ r ≤ n ∧ smRowS n l)) := by
  unfold laws_szRowS
  have k1 := ok.1
  simp only [maxLen] at k1
  rw [w64_id (by omega)]
  split
  · exact ⟨_, rfl, .inl (by omega)⟩
  · rename_i h
    simp only [decide_eq_true_eq] at h
    rcases p_szRowS_L1 l (n - l.length) (by omega) (by omega) ok.2 with h2 | ⟨r', e', g1, g2, g3⟩
    · exact ⟨-1, by rw [h2]; rfl, .inl (by omega)⟩
    · exact ⟨r', by rw [e']; rfl, .inr ⟨g1, by omega, by omega, fun a ha => smRow_mono (by omega) (g3 a ha)⟩⟩

theorem p_toAtom (x : GAtom) (h : smAtom (2 ^ 30) x) : laws_toAtom x = some x := by
  unfold laws_toAtom
  rfl

theorem p_toAtomS_L1 : ∀ (xs : List GAtom) (i : Nat) (out : List GAtom), (∀ a ∈ xs, smAtom (2 ^ 30) a) → i + xs.length = out.length → laws_toAtomS_L1 xs i out = some (out.take i ++ xs)
  | [], i, out, _, h => by
    rw [laws_toAtomS_L1]; simp at h; rw [h]; simp
  | x :: xs, i, out, hx, h => by
    rw [laws_toAtomS_L1]
    have hi : i < out.length := by simp at h; omega
    rw [p_toAtom x (hx x (by simp)), Option.bind_some, if_pos hi, List.getElem?_eq_getElem hi, Option.bind_some, p_toAtomS_L1 xs (i + 1) _ (fun a ha => hx a (by simp [ha])) (by simp at h ⊢; omega), set_fill _ _ _ _ hi]
theorem p_toAtomS (a : List GAtom) (h : smAtomS (2 ^ 30) a) : laws_toAtomS a = some a := by
  unfold laws_toAtomS
  rw [if_pos h.1, p_toAtomS_L1 a 0 _ (fun a ha => h.2 a ha) (by simp)]
  rfl

theorem p_toAtomSS_L1 : ∀ (xs : List (List GAtom)) (i : Nat) (out : List (List GAtom)), (∀ a ∈ xs, smAtomS (2 ^ 30) a) → i + xs.length = out.length → laws_toAtomSS_L1 xs i out = some (out.take i ++ xs)
  | [], i, out, _, h => by
    rw [laws_toAtomSS_L1]; simp at h; rw [h]; simp
  | x :: xs, i, out, hx, h => by
    rw [laws_toAtomSS_L1]
    have hi : i < out.length := by simp at h; omega
    rw [p_toAtomS x (hx x (by simp)), Option.bind_some, if_pos hi, List.getElem?_eq_getElem hi, Option.bind_some, p_toAtomSS_L1 xs (i + 1) _ (fun a ha => hx a (by simp [ha])) (by simp at h ⊢; omega), set_fill _ _ _ _ hi]
theorem p_toAtomSS (a : List (List GAtom)) (h : smAtomSS (2 ^ 30) a) : laws_toAtomSS a = some a := by
  unfold laws_toAtomSS
  rw [if_pos h.1, p_toAtomSS_L1 a 0 _ (fun a ha => h.2 a ha) (by simp)]
  rfl

theorem p_toRow (x : GRow) (h : smRow (2 ^ 30) x) : laws_toRow x = some x := by
  unfold laws_toRow
  simp only [p_toAtomSS x.Cells h.1, Option.bind_some]

theorem p_toRowS_L1 : ∀ (xs : List GRow) (i : Nat) (out : List GRow), (∀ a ∈ xs, smRow (2 ^ 30) a) → i + xs.length = out.length → laws_toRowS_L1 xs i out = some (out.take i ++ xs)
  | [], i, out, _, h => by
    rw [laws_toRowS_L1]; simp at h; rw [h]; simp
  | x :: xs, i, out, hx, h => by
    rw [laws_toRowS_L1]
    have hi : i < out.length := by simp at h; omega
    rw [p_toRow x (hx x (by simp)), Option.bind_some, if_pos hi, List.getElem?_eq_getElem hi, Option.bind_some, p_toRowS_L1 xs (i + 1) _ (fun a ha => hx a (by simp [ha])) (by simp at h ⊢; omega), set_fill _ _ _ _ hi]
theorem p_toRowS (a : List GRow) (h : smRowS (2 ^ 30) a) : laws_toRowS a = some a := by
  unfold laws_toRowS
  rw [if_pos h.1, p_toRowS_L1 a 0 _ (fun a ha => h.2 a ha) (by simp)]
  rfl
end Go.R
