/- The plain law of LocksOK. -/
import Derived.Test.YtgmkibkmcohikaaLK1
import Derived.Test.YtgmkibkmcohikaaP0
set_option linter.all false
namespace Go.R
open Go
set_option linter.unusedSimpArgs false

/-! sizes -/
theorem p_szIntS (a : List Int) (n : Int) (h0 : 0 ≤ n) (h1 : n ≤ 2 ^ 30) (hl : a.length ≤ maxLen) : ∃ r, laws_szIntS a n = some r ∧ (r < 0 ∨ (0 ≤ r ∧ r ≤ n ∧ (a.length : Int) ≤ n)) := by
  unfold laws_szIntS
  simp only [maxLen] at hl
  rw [w64_id (by omega)]
  split
  · exact ⟨_, rfl, .inl (by omega)⟩
  · rename_i h
    simp only [decide_eq_true_eq] at h
    exact ⟨_, rfl, .inr (by omega)⟩
theorem p_szLock (a : GLock) (n : Int) (h0 : 0 ≤ n) (h1 : n ≤ 2 ^ 30) (ok : okGLock a) : ∃ r, laws_szLock a n = some r ∧ (r < 0 ∨ (0 ≤ r ∧ r ≤ n ∧ (a.Name.length : Int) ≤ n ∧ (a.Queue.length : Int) ≤ n)) := by
  unfold laws_szLock
  have k1 := ok.1
  simp only [okS, maxLen] at k1
  rw [w64_id (by omega)]
  split
  · exact ⟨_, rfl, .inl (by omega)⟩
  · rename_i h
    simp only [decide_eq_true_eq] at h
    obtain ⟨r, e, hr⟩ := p_szIntS a.Queue (n - a.Name.length) (by omega) (by omega) ok.2.1
    rw [e, Option.bind_some]
    split
    · exact ⟨_, rfl, .inl (by omega)⟩
    · rename_i h2
      simp only [decide_eq_true_eq] at h2
      exact ⟨_, rfl, .inr (by omega)⟩
def smLock (n : Int) (a : GLock) : Prop := (a.Name.length : Int) ≤ n ∧ (a.Queue.length : Int) ≤ n
theorem p_szLockS_L1 : ∀ (l : List GLock) (n : Int), 0 ≤ n → n ≤ 2 ^ 30 → (∀ a ∈ l, okGLock a) → laws_szLockS_L1 l n = some (.ret (-1)) ∨ ∃ r, laws_szLockS_L1 l n = some (.go r) ∧ 0 ≤ r ∧ r ≤ n ∧ ∀ a ∈ l, smLock n a
  | [], n, h0, h1, ok => .inr ⟨n, rfl, h0, Int.le_refl _, by simp⟩
  | a :: l, n, h0, h1, ok => by
    rw [laws_szLockS_L1]
    obtain ⟨r, e, hr⟩ := p_szLock a n h0 h1 (ok a (by simp))
    rw [e, Option.bind_some]
    split
    · exact .inl rfl
    · rename_i h
      simp only [decide_eq_true_eq] at h
      have hr : 0 ≤ r ∧ r ≤ n ∧ (a.Name.length : Int) ≤ n ∧ (a.Queue.length : Int) ≤ n := hr.resolve_left h
      rcases p_szLockS_L1 l r (by omega) (by omega) (fun x hx => ok x (by simp [hx])) with h2 | ⟨r', e', g1, g2, g3⟩
      · exact .inl h2
      · refine .inr ⟨r', e', g1, by omega, ?_⟩
        intro x hx
        rcases List.mem_cons.1 hx with rfl | hx
        · exact hr.2.2
        · have := g3 x hx
          unfold smLock at this ⊢
          omega
theorem p_szLockS (l : List GLock) (n : Int) (h0 : 0 ≤ n) (h1 : n ≤ 2 ^ 30) (ok : okL okGLock l) : ∃ r, laws_szLockS l n = some r ∧ (r < 0 ∨ (0 ≤ r ∧ r ≤ n ∧ (l.length : Int) ≤ n ∧ ∀ a ∈ l, smLock n a)) := by
  unfold laws_szLockS
  have k1 := ok.1
  simp only [maxLen] at k1
  rw [w64_id (by omega)]
  split
  · exact ⟨_, rfl, .inl (by omega)⟩
  · rename_i h
    simp only [decide_eq_true_eq] at h
    rcases p_szLockS_L1 l (n - l.length) (by omega) (by omega) ok.2 with h2 | ⟨r', e', g1, g2, g3⟩
    · exact ⟨-1, by rw [h2]; rfl, .inl (by omega)⟩
    · refine ⟨r', by rw [e']; rfl, .inr ⟨g1, by omega, by omega, fun a ha => ?_⟩⟩
      have := g3 a ha
      unfold smLock at this ⊢
      omega

/-! copies -/
theorem p_toIntS_L1 : ∀ (xs : List Int) (i : Nat) (out : List Int), i + xs.length = out.length → laws_toIntS_L1 xs i out = some (out.take i ++ xs)
  | [], i, out, h => by
    rw [laws_toIntS_L1]; simp at h; rw [h]; simp
  | x :: xs, i, out, h => by
    rw [laws_toIntS_L1]
    have hi : i < out.length := by simp at h; omega
    rw [if_pos hi, List.getElem?_eq_getElem hi, Option.bind_some, p_toIntS_L1 xs (i + 1) _ (by simp at h ⊢; omega), set_fill _ _ _ _ hi]
theorem p_toIntS (a : List Int) (h : (a.length : Int) ≤ 2 ^ 30) : laws_toIntS a = some a := by
  unfold laws_toIntS
  rw [if_pos h, p_toIntS_L1 a 0 _ (by simp)]
  rfl
theorem p_toLock (a : GLock) (h : (a.Queue.length : Int) ≤ 2 ^ 30) : laws_toLock a = some a := by
  unfold laws_toLock
  rw [p_toIntS _ h]
  rfl
theorem p_toLockS_L1 : ∀ (xs : List GLock) (i : Nat) (out : List GLock), (∀ a ∈ xs, (a.Queue.length : Int) ≤ 2 ^ 30) → i + xs.length = out.length → laws_toLockS_L1 xs i out = some (out.take i ++ xs)
  | [], i, out, _, h => by
    rw [laws_toLockS_L1]; simp at h; rw [h]; simp
  | x :: xs, i, out, hx, h => by
    rw [laws_toLockS_L1]
    have hi : i < out.length := by simp at h; omega
    rw [p_toLock x (hx x (by simp)), Option.bind_some, if_pos hi, List.getElem?_eq_getElem hi, Option.bind_some, p_toLockS_L1 xs (i + 1) _ (fun a ha => hx a (by simp [ha])) (by simp at h ⊢; omega), set_fill _ _ _ _ hi]
theorem p_toLockS (a : List GLock) (h : (a.length : Int) ≤ 2 ^ 30) (hx : ∀ x ∈ a, (x.Queue.length : Int) ≤ 2 ^ 30) : laws_toLockS a = some a := by
  unfold laws_toLockS
  rw [if_pos h, p_toLockS_L1 a 0 _ hx (by simp)]
  rfl

/-! of equal ones -/
theorem p_eqIntS_L1 (b : List Int) : ∀ (xs : List Int) (i : Nat), b.drop i = xs → laws_eqIntS_L1 b xs i = some (.go ())
  | [], i, _ => by rw [laws_eqIntS_L1]
  | x :: xs, i, h => by
    rw [laws_eqIntS_L1, idx_drop h, Option.bind_some, if_neg (by simp), p_eqIntS_L1 b xs (i + 1) (drop_next h)]
theorem p_eqIntS (a : List Int) : laws_eqIntS a a = some true := by
  unfold laws_eqIntS
  rw [if_neg (by simp), p_eqIntS_L1 a a 0 (by simp)]
  rfl
theorem p_eqLock (a : GLock) : laws_eqLock a a = some true := by
  unfold laws_eqLock
  rw [if_neg (by simp), p_eqIntS]
  rfl
theorem p_eqLockS_L1 (b : List GLock) : ∀ (xs : List GLock) (i : Nat), b.drop i = xs → laws_eqLockS_L1 b xs i = some (.go ())
  | [], i, _ => by rw [laws_eqLockS_L1]
  | x :: xs, i, h => by
    rw [laws_eqLockS_L1, idx_drop h, Option.bind_some, p_eqLock, Option.bind_some, if_neg (by simp), p_eqLockS_L1 b xs (i + 1) (drop_next h)]
theorem p_eqLockS (a : List GLock) : laws_eqLockS a a = some true := by
  unfold laws_eqLockS
  rw [if_neg (by simp), p_eqLockS_L1 a a 0 (by simp)]
  rfl

/-! names -/
def isLet (c : Int) : Bool := (decide (97 ≤ c) && decide (c ≤ 122)) || (decide (65 ≤ c) && decide (c ≤ 90)) || c == 95
def isDig (c : Int) : Bool := decide (48 ≤ c) && decide (c ≤ 57)
theorem p_l00Letter (c : Int) : spec_l00Letter c = some (isLet c) := by
  unfold spec_l00Letter isLet
  by_cases h1 : 97 ≤ c <;> by_cases h2 : c ≤ 122 <;> by_cases h3 : 65 ≤ c <;> by_cases h4 : c ≤ 90 <;> simp [h1, h2, h3, h4]
theorem p_l00Digit (c : Int) : spec_l00Digit c = some (isDig c) := by
  unfold spec_l00Digit isDig
  by_cases h1 : 48 ≤ c <;> simp [h1]
theorem p_isDigit (c : Int) : impl_isDigit c = some (isDig c) := by
  unfold impl_isDigit isDig
  by_cases h1 : 48 ≤ c <;> simp [h1]
theorem p_within (n a b : Int) : impl_within n a b = some (decide (a ≤ n) && decide (n ≤ b)) := by
  unfold impl_within
  by_cases h1 : a ≤ n <;> simp [h1]
theorem p_l01In (n a b : Int) : spec_l01In n a b = some (decide (a ≤ n) && decide (n ≤ b)) := by
  unfold spec_l01In
  by_cases h1 : a ≤ n <;> simp [h1]
def isWordC (b : UInt8) : Bool := isLet b.toNat || isDig b.toNat
def nameOK (t : Str) : Bool := decide (1 ≤ t.length) && decide (t.length ≤ 40) && isLet (t.headD 0).toNat && (t.drop 1).all isWordC
theorem p_l00Word_L1 : ∀ (t : Str), spec_l00Word_L1 t = some (if t.all isWordC then .go () else .ret false)
  | [] => by rw [spec_l00Word_L1]; rfl
  | c :: t => by
    rw [spec_l00Word_L1, p_l00Letter, Option.bind_some, p_l00Digit, p_l00Word_L1 t]
    cases h1 : isLet (c.toNat : Int) <;> cases h2 : isDig (c.toNat : Int) <;> simp [isWordC, h1, h2]
theorem p_l00Word (t : Str) : spec_l00Word t = some (nameOK t) := by
  unfold spec_l00Word nameOK
  cases t with
  | nil => rfl
  | cons c t =>
    have e : idx (c :: t) 0 = some c := rfl
    rw [e, Option.bind_some, p_l00Letter, Option.bind_some, p_l00Word_L1]
    have e1 : decide (((c :: t).length : Int) < 1) = false := decide_eq_false (by simp only [List.length_cons]; omega)
    have e2 : decide (1 ≤ (c :: t).length) = true := decide_eq_true (by simp only [List.length_cons]; omega)
    rw [e1, e2]
    by_cases h : (c :: t).length ≤ 40
    · have e3 : decide (((c :: t).length : Int) > 40) = false := decide_eq_false (by omega)
      have e4 : decide ((c :: t).length ≤ 40) = true := decide_eq_true h
      rw [e3, e4]
      cases h1 : isLet (c.toNat : Int) <;> cases h3 : t.all isWordC <;> simp [h1, h3]
    · have e3 : decide (((c :: t).length : Int) > 40) = true := decide_eq_true (by omega)
      have e4 : decide ((c :: t).length ≤ 40) = false := decide_eq_false h
      rw [e3, e4]
      simp
theorem p_specNameOK (t : Str) : spec_NameOK t = some (nameOK t) := by
  unfold spec_NameOK
  rw [p_l00Word]; rfl

def nameC (p : UInt8 × Nat) : Bool := isLet p.1.toNat || (p.2 != 0 && isDig p.1.toNat)
theorem p_NameOK_L1 : ∀ (t : Str) (i : Nat), impl_NameOK_L1 t i = some (if (t.zipIdx i).all nameC then .go () else .ret false)
  | [], i => by rw [impl_NameOK_L1]; rfl
  | c :: t, i => by
    rw [impl_NameOK_L1]
    have e : (if decide ((c.toNat : Int) ≥ 97) then if decide ((c.toNat : Int) ≤ 122) then some true else if decide ((c.toNat : Int) ≥ 65) then if decide ((c.toNat : Int) ≤ 90) then some true else some ((c.toNat : Int) == 95) else some ((c.toNat : Int) == 95) else if decide ((c.toNat : Int) ≥ 65) then if decide ((c.toNat : Int) ≤ 90) then some true else some ((c.toNat : Int) == 95) else some ((c.toNat : Int) == 95)) = some (isLet c.toNat) := p_l00Letter c.toNat
    have e0 : ((i : Int) == 0) = (i == 0) := by cases i <;> simp; omega
    rw [e, Option.bind_some, p_isDigit, p_NameOK_L1 t (i + 1), e0, List.zipIdx_cons, List.all_cons]
    unfold nameC
    generalize (List.zipIdx t (i + 1)).all _ = A
    cases isLet (c.toNat : Int) <;> cases isDig (c.toNat : Int) <;> by_cases h3 : i = 0 <;> simp [h3]
theorem p_NameOK (t : Str) : impl_NameOK t = some (nameOK t) := by
  unfold impl_NameOK nameOK
  rw [p_NameOK_L1, Option.bind_some]
  have hz : ∀ (r : Str) (k : Nat), (r.zipIdx (k + 1)).all nameC = r.all isWordC := by
    intro r
    induction r with
    | nil => intro k; rfl
    | cons c r ih => intro k; simp only [List.zipIdx_cons, List.all_cons, ih (k + 1)]; rfl
  cases t with
  | nil => simp [p_within]
  | cons c t =>
    rw [List.zipIdx_cons, List.all_cons, hz t 0]
    have hl : decide (1 ≤ (c :: t).length) = true := decide_eq_true (by simp)
    have e : nameC (c, 0) = isLet (c.toNat : Int) := by simp [nameC]
    rw [e, hl, p_within]
    have e2 : decide ((1 : Int) ≤ ((c :: t).length : Int)) = true := decide_eq_true (by simp only [List.length_cons]; omega)
    have e3 : decide (((c :: t).length : Int) ≤ 40) = decide ((c :: t).length ≤ 40) := by rw [decide_eq_decide]; omega
    rw [e2, e3]
    show _ = some ((true && _ && isLet (c.toNat : Int)) && t.all isWordC)
    cases isLet (c.toNat : Int) <;> cases t.all isWordC <;> simp

/-! sessions and queues -/
theorem p_isSession (n : Int) : impl_isSession n = some (decide (0 ≤ n) && decide (n ≤ 2)) := by unfold impl_isSession; rw [p_within]; rfl
theorem p_l12Session (n : Int) : spec_l12Session n = some (decide (0 ≤ n) && decide (n ≤ 2)) := by unfold spec_l12Session; rw [p_l01In]; rfl
theorem p_l12In_L1 (n : Int) : ∀ (l : List Int), spec_l12In_L1 n l = some (if l.contains n then .ret true else .go ())
  | [] => by rw [spec_l12In_L1]; rfl
  | x :: l => by
    rw [spec_l12In_L1, p_l12In_L1 n l, List.contains_cons]
    by_cases h : x = n
    · subst h; simp
    · have h' : (n == x) = false := by simpa using Ne.symm h
      have h2 : (x == n) = false := by simpa using h
      rw [h', h2]; rfl
theorem p_l12In (l : List Int) (n : Int) : spec_l12In l n = some (l.contains n) := by
  unfold spec_l12In
  rw [p_l12In_L1]
  cases l.contains n <;> rfl
theorem p_Index_L1 (n : Int) : ∀ (l : List Int) (i : Nat), ∃ k : Nat, slices_Index_int_int_L1 n l i = some (if l.contains n then .ret (k : Int) else .go ())
  | [], i => ⟨0, by rw [slices_Index_int_int_L1]; rfl⟩
  | x :: l, i => by
    rw [slices_Index_int_int_L1]
    obtain ⟨k, hk⟩ := p_Index_L1 n l (i + 1)
    rw [hk, List.contains_cons]
    cases h : (n == x)
    · exact ⟨k, by simp⟩
    · exact ⟨i, by simp⟩
theorem p_Contains (l : List Int) (n : Int) : slices_Contains_int_int l n = some (l.contains n) := by
  unfold slices_Contains_int_int slices_Index_int_int
  obtain ⟨k, hk⟩ := p_Index_L1 n l 0
  rw [hk]
  cases l.contains n <;> simp
theorem p_LocksOK_L2 (x : GLock) : ∀ (q : List Int) (k : Nat), k + q.length ≤ x.Queue.length → ∃ r, impl_LocksOK_L2 x q k = some r ∧ spec_LocksOK_L2 x q k = some r
  | [], k, _ => ⟨_, by rw [impl_LocksOK_L2], by rw [spec_LocksOK_L2]⟩
  | n :: q, k, h => by
    simp only [List.length_cons] at h
    obtain ⟨r, h1, h2⟩ := p_LocksOK_L2 x q (k + 1) (by omega)
    have hk : 0 ≤ (k : Int) ∧ (k : Int) ≤ (x.Queue.length : Int) := by omega
    rw [impl_LocksOK_L2, spec_LocksOK_L2, p_isSession, p_l12Session, if_pos hk, if_pos hk, p_Contains, p_l12In, h1, h2]
    simp only [Option.bind_some]
    cases (decide (0 ≤ n) && decide (n ≤ 2))
    · exact ⟨_, rfl, rfl⟩
    · cases (x.Queue.take k).contains n
      · exact ⟨r, rfl, rfl⟩
      · exact ⟨_, rfl, rfl⟩
theorem p_LocksOK_L1 (l : List GLock) (hl : l.length ≤ maxLen) : ∀ (xs : List GLock) (i : Nat), l.drop i = xs → ∃ r, impl_LocksOK_L1 l xs i = some r ∧ spec_LocksOK_L1 l xs i = some r
  | [], i, _ => ⟨_, by rw [impl_LocksOK_L1], by rw [spec_LocksOK_L1]⟩
  | x :: xs, i, h => by
    obtain ⟨r, h1, h2⟩ := p_LocksOK_L1 l hl xs (i + 1) (drop_next h)
    obtain ⟨r2, h3, h4⟩ := p_LocksOK_L2 x x.Queue 0 (by omega)
    rw [impl_LocksOK_L1, spec_LocksOK_L1, p_NameOK, p_specNameOK, p_within, p_l01In, h1, h2, h3, h4]
    simp only [Option.bind_some]
    have hlt := drop_lt h
    by_cases hi : (i : Int) > 0
    · have hw : w64 ((i : Int) - 1) = ((i - 1 : Nat) : Int) := by rw [w64_id (by simp only [maxLen] at hl; omega)]; omega
      obtain ⟨y, hy⟩ := drop_prev (l := l) (i := i - 1) (by omega)
      rw [hw, idx_nat, hy]
      simp only [Option.bind_some, hi, decide_true, if_true]
      cases nameOK x.Name
      · exact ⟨_, rfl, rfl⟩
      · cases Op.bytesLess y.Name x.Name
        · exact ⟨_, rfl, rfl⟩
        · cases (decide ((1 : Int) ≤ (x.Queue.length : Int)) && decide ((x.Queue.length : Int) ≤ 3))
          · exact ⟨_, rfl, rfl⟩
          · cases r2 with
            | ret r => exact ⟨_, rfl, rfl⟩
            | go _ => exact ⟨_, rfl, rfl⟩
    · simp only [hi, decide_false]
      cases nameOK x.Name
      · exact ⟨_, rfl, rfl⟩
      · cases (decide ((1 : Int) ≤ (x.Queue.length : Int)) && decide ((x.Queue.length : Int) ≤ 3))
        · exact ⟨_, rfl, rfl⟩
        · cases r2 with
          | ret r => exact ⟨_, rfl, rfl⟩
          | go _ => exact ⟨_, rfl, rfl⟩
theorem ret_false_L1 (l : List GLock) : ∀ (xs : List GLock) (i : Nat) (r : Bool), impl_LocksOK_L1 l xs i = some (.ret r) → r = false := by
  intro xs
  induction xs with
  | nil => intro i r h; rw [impl_LocksOK_L1] at h; cases h
  | cons x xs ih =>
    intro i r h
    rw [impl_LocksOK_L1] at h
    obtain ⟨b, h1, h2⟩ := ob h
    split at h2
    · cases h2; rfl
    · obtain ⟨q, h3, h4⟩ := ob h2
      cases q with
      | ret r' =>
        cases h4
        have key : ∀ (q : List Int) (k : Nat), impl_LocksOK_L2 x q k = some (.ret r) → r = false := by
          intro q
          induction q with
          | nil => intro k h; rw [impl_LocksOK_L2] at h; cases h
          | cons n q ihq =>
            intro k h
            rw [impl_LocksOK_L2] at h
            obtain ⟨b, g1, g2⟩ := ob h
            split at g2
            · cases g2; rfl
            · exact ihq _ g2
        exact key _ _ h3
      | go _ => exact ih _ _ h4
theorem p_LocksOK (l : List GLock) (hl : l.length ≤ maxLen) : ∃ r, impl_LocksOK l = some r ∧ spec_LocksOK l = some r := by
  obtain ⟨r, h1, h2⟩ := p_LocksOK_L1 l hl l 0 (by simp)
  unfold impl_LocksOK spec_LocksOK
  rw [h1, h2]
  by_cases h : (l.length : Int) > 4096
  · rw [if_pos (decide_eq_true h)]
    cases r with
    | ret r => rw [ret_false_L1 l l 0 r h1]; exact ⟨_, rfl, rfl⟩
    | go _ =>
      refine ⟨false, ?_, rfl⟩
      have : decide ((l.length : Int) ≤ 6) = false := decide_eq_false (by omega)
      show some (decide ((l.length : Int) ≤ 6)) = _
      rw [this]
  · rw [if_neg (by simpa using h)]
    cases r with
    | ret r => exact ⟨_, rfl, rfl⟩
    | go _ => exact ⟨_, rfl, rfl⟩

theorem law_FnExactLocksOK (l : List GLock) (h : okL okGLock l) : laws_FnExactLocksOK l = some true := by
  unfold laws_FnExactLocksOK
  obtain ⟨r, e, hr⟩ := p_szLockS l 1048576 (by omega) (by omega) h
  rw [e, Option.bind_some]
  split
  · rfl
  · rename_i hn
    simp only [decide_eq_true_eq] at hn
    obtain ⟨h1, h2, h3, h4⟩ := hr.resolve_left hn
    have et := p_toLockS l (by omega) (fun x hx => by have := (h4 x hx).2; omega)
    obtain ⟨b, e1, e2⟩ := p_LocksOK l h.1
    rw [et]
    simp only [Option.bind_some, e1, e2, et, p_eqLockS]
    simp
end Go.R
