/- Weights, sizes, copies, comparisons: what the laws' own helpers give. -/
import Derived.Test.YtdnjjfoooagphaaLAM
import Derived.Test.YtdnjjfoooagphaaP0
set_option linter.all false
namespace Go.R
open Go
set_option linter.all false
theorem p_eqIntS_L1 (b : List Int) : ∀ (xs : List Int) (i : Nat), b.drop i = xs → laws_eqIntS_L1 b xs i = some (.go ())
  | [], i, _ => by rw [laws_eqIntS_L1]
  | x :: xs, i, h => by
    rw [laws_eqIntS_L1, idx_drop h, Option.bind_some, if_neg (by simp), p_eqIntS_L1 b xs (i + 1) (drop_next h)]
theorem p_eqIntS (a : List Int) : laws_eqIntS a a = some true := by
  unfold laws_eqIntS
  rw [if_neg (by simp), p_eqIntS_L1 a a 0 (by simp)]
  rfl

theorem p_eqLock (x : GLock) : laws_eqLock x x = some true := by
  unfold laws_eqLock
  simp [p_eqIntS]

theorem p_eqLockS_L1 (b : List GLock) : ∀ (xs : List GLock) (i : Nat), b.drop i = xs → laws_eqLockS_L1 b xs i = some (.go ())
  | [], i, _ => by rw [laws_eqLockS_L1]
  | x :: xs, i, h => by
    rw [laws_eqLockS_L1, idx_drop h, Option.bind_some, p_eqLock, Option.bind_some, if_neg (by simp), p_eqLockS_L1 b xs (i + 1) (drop_next h)]
theorem p_eqLockS (a : List GLock) : laws_eqLockS a a = some true := by
  unfold laws_eqLockS
  rw [if_neg (by simp), p_eqLockS_L1 a a 0 (by simp)]
  rfl

theorem p_eqTold (x : GTold) : laws_eqTold x x = some true := by
  unfold laws_eqTold
  simp

theorem p_eqToldS_L1 (b : List GTold) : ∀ (xs : List GTold) (i : Nat), b.drop i = xs → laws_eqToldS_L1 b xs i = some (.go ())
  | [], i, _ => by rw [laws_eqToldS_L1]
  | x :: xs, i, h => by
    rw [laws_eqToldS_L1, idx_drop h, Option.bind_some, p_eqTold, Option.bind_some, if_neg (by simp), p_eqToldS_L1 b xs (i + 1) (drop_next h)]
theorem p_eqToldS (a : List GTold) : laws_eqToldS a a = some true := by
  unfold laws_eqToldS
  rw [if_neg (by simp), p_eqToldS_L1 a a 0 (by simp)]
  rfl

def wtIntS (l : List Int) : Nat := l.length

theorem p_szIntS (l : List Int) (n : Int) (h0 : 0 ≤ n) (h1 : n ≤ 2 ^ 30) (ok : (okL (okI .i64)) l) : ∃ r, laws_szIntS l n = some r ∧ (r < 0 ∨ (0 ≤ r ∧ r = n - (wtIntS l : Nat))) := by
  unfold laws_szIntS wtIntS
  have k1 := ok.1
  simp only [maxLen] at k1
  rw [w64_id (by omega)]
  split
  · exact ⟨_, rfl, .inl (by omega)⟩
  · rename_i h
    simp only [decide_eq_true_eq] at h
    exact ⟨_, rfl, .inr ⟨by omega, by omega⟩⟩

def wtLock (x : GLock) : Nat := x.Name.length + wtIntS x.Queue

theorem p_szLock (x : GLock) (n : Int) (h0 : 0 ≤ n) (h1 : n ≤ 2 ^ 30) (ok : okGLock x) : ∃ r, laws_szLock x n = some r ∧ (r < 0 ∨ (0 ≤ r ∧ r = n - (wtLock x : Nat))) := by
  unfold laws_szLock wtLock
  have k0 := ok.1
  simp only [okS, maxLen] at k0
  rw [w64_id (by omega)]
  split
  · exact ⟨_, rfl, .inl (by omega)⟩
  rename_i h10
  simp only [decide_eq_true_eq] at h10
  obtain ⟨r1, e1, hr1⟩ := p_szIntS x.Queue (n - x.Name.length) (by omega) (by omega) ok.2
  rw [e1, Option.bind_some]
  split
  · exact ⟨_, rfl, .inl (by omega)⟩
  rename_i h11
  simp only [decide_eq_true_eq] at h11
  have hr1 := hr1.resolve_left h11
  exact ⟨_, rfl, .inr ⟨by omega, by omega⟩⟩

def swLockS : List GLock → Nat
  | [] => 0
  | x :: xs => wtLock x + swLockS xs
def wtLockS (l : List GLock) : Nat := l.length + swLockS l
theorem swLockS_mem : ∀ {l : List GLock} {x : GLock}, x ∈ l → wtLock x ≤ swLockS l
  | [], _, h => by simp at h
  | y :: l, x, h => by
    rw [swLockS]
    rcases List.mem_cons.1 h with rfl | h
    · omega
    · have := swLockS_mem h; omega

theorem p_szLockS_L1 : ∀ (l : List GLock) (n : Int), 0 ≤ n → n ≤ 2 ^ 30 → (∀ a ∈ l, (okGLock) a) → laws_szLockS_L1 l n = some (.ret (-1)) ∨ ∃ r, laws_szLockS_L1 l n = some (.go r) ∧ r = n - (swLockS l : Nat) ∧ 0 ≤ r
  | [], n, h0, h1, ok => .inr ⟨n, rfl, by simp [swLockS], h0⟩
  | a :: l, n, h0, h1, ok => by
    rw [laws_szLockS_L1]
    obtain ⟨r, e, hr⟩ := p_szLock a n h0 h1 (ok a (by simp))
    rw [e, Option.bind_some]
    split
    · exact .inl rfl
    · rename_i h
      simp only [decide_eq_true_eq] at h
      have hr := hr.resolve_left h
      rcases p_szLockS_L1 l r (by omega) (by omega) (fun x hx => ok x (by simp [hx])) with h2 | ⟨r', e', g2, g3⟩
      · exact .inl h2
      · exact .inr ⟨r', e', by rw [g2, hr.2]; simp only [swLockS]; omega, g3⟩
theorem p_szLockS (l : List GLock) (n : Int) (h0 : 0 ≤ n) (h1 : n ≤ 2 ^ 30) (ok : (okL (okGLock)) l) : ∃ r, laws_szLockS l n = some r ∧ (r < 0 ∨ (0 ≤ r ∧ r = n - (wtLockS l : Nat))) := by
  unfold laws_szLockS wtLockS
  have k1 := ok.1
  simp only [maxLen] at k1
  rw [w64_id (by omega)]
  split
  · exact ⟨_, rfl, .inl (by omega)⟩
  · rename_i h
    simp only [decide_eq_true_eq] at h
    rcases p_szLockS_L1 l (n - l.length) (by omega) (by omega) ok.2 with h2 | ⟨r', e', g1, g2⟩
    · exact ⟨-1, by rw [h2]; rfl, .inl (by omega)⟩
    · exact ⟨r', by rw [e']; rfl, .inr ⟨g2, by omega⟩⟩

theorem p_toIntS_L1 : ∀ (xs : List Int) (i : Nat) (out : List Int), (∀ a ∈ xs, True) → i + xs.length = out.length → laws_toIntS_L1 xs i out = some (out.take i ++ xs)
  | [], i, out, _, h => by
    rw [laws_toIntS_L1]; simp at h; rw [h]; simp
  | x :: xs, i, out, hx, h => by
    rw [laws_toIntS_L1]
    have hi : i < out.length := by simp at h; omega
    rw [if_pos hi, List.getElem?_eq_getElem hi, Option.bind_some, p_toIntS_L1 xs (i + 1) _ (fun a ha => hx a (by simp [ha])) (by simp at h ⊢; omega), set_fill _ _ _ _ hi]
theorem p_toIntS (a : List Int) (h : wtIntS a ≤ 2 ^ 30) : laws_toIntS a = some a := by
  unfold laws_toIntS
  rw [if_pos (by unfold wtIntS at h; omega), p_toIntS_L1 a 0 _ (fun _ _ => trivial) (by simp)]
  rfl

theorem p_toLock (x : GLock) (h : wtLock x ≤ 2 ^ 30) : laws_toLock x = some x := by
  unfold wtLock at h
  unfold laws_toLock
  simp only [p_toIntS x.Queue (by omega), Option.bind_some]

theorem p_toLockS_L1 : ∀ (xs : List GLock) (i : Nat) (out : List GLock), (∀ a ∈ xs, wtLock a ≤ 2 ^ 30) → i + xs.length = out.length → laws_toLockS_L1 xs i out = some (out.take i ++ xs)
  | [], i, out, _, h => by
    rw [laws_toLockS_L1]; simp at h; rw [h]; simp
  | x :: xs, i, out, hx, h => by
    rw [laws_toLockS_L1]
    have hi : i < out.length := by simp at h; omega
    rw [p_toLock x (hx x (by simp)), Option.bind_some, if_pos hi, List.getElem?_eq_getElem hi, Option.bind_some, p_toLockS_L1 xs (i + 1) _ (fun a ha => hx a (by simp [ha])) (by simp at h ⊢; omega), set_fill _ _ _ _ hi]
theorem p_toLockS (a : List GLock) (h : wtLockS a ≤ 2 ^ 30) : laws_toLockS a = some a := by
  unfold laws_toLockS
  rw [if_pos (by unfold wtLockS at h; omega), p_toLockS_L1 a 0 _ (fun a ha => by have := swLockS_mem ha; unfold wtLockS at h; omega) (by simp)]
  rfl

def wtTold (x : GTold) : Nat := x.Word.length + x.Name.length

def swToldS : List GTold → Nat
  | [] => 0
  | x :: xs => wtTold x + swToldS xs
def wtToldS (l : List GTold) : Nat := l.length + swToldS l
theorem swToldS_mem : ∀ {l : List GTold} {x : GTold}, x ∈ l → wtTold x ≤ swToldS l
  | [], _, h => by simp at h
  | y :: l, x, h => by
    rw [swToldS]
    rcases List.mem_cons.1 h with rfl | h
    · omega
    · have := swToldS_mem h; omega
theorem cnt_wtIntS : ∀ (l : List Int), cntIntS l ≤ 8 * wtIntS l
  | [] => by simp [cntIntS]
  | x :: l => by
    have ih := cnt_wtIntS l
    unfold wtIntS at ih ⊢
    simp only [cntIntS, List.length_cons]
    omega
theorem fit_wtIntS (l : List Int) (h : wtIntS l < 2 ^ 61) : fitIntS l := by
  unfold wtIntS at h
  unfold fitIntS
  omega

theorem cnt_wtLockS : ∀ (l : List GLock), cntLockS l ≤ 8 * wtLockS l
  | [] => by simp [cntLockS]
  | x :: l => by
    have ih := cnt_wtLockS l
    unfold wtLockS at ih ⊢
    have h0 := cnt_wtIntS x.Queue
    simp only [cntLockS, swLockS, List.length_cons, wtLock]
    omega
theorem fit_wtLockS (l : List GLock) (h : wtLockS l < 2 ^ 61) : fitLockS l := by
  unfold wtLockS at h
  refine ⟨by omega, fun x hx => ?_⟩
  have := swLockS_mem hx
  simp only [wtLock] at this
  exact fit_wtIntS _ (by omega)

theorem cnt_wtToldS : ∀ (l : List GTold), cntToldS l ≤ 8 * wtToldS l
  | [] => by simp [cntToldS]
  | x :: l => by
    have ih := cnt_wtToldS l
    unfold wtToldS at ih ⊢
    simp only [cntToldS, swToldS, List.length_cons, wtTold]
    omega
theorem fit_wtToldS (l : List GTold) (h : wtToldS l < 2 ^ 61) : fitToldS l := by
  unfold wtToldS at h
  unfold fitToldS
  omega
end Go.R
