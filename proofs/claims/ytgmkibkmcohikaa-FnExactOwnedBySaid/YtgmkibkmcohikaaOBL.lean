/- Plain laws of what this statement reaches. -/
import Derived.Test.YtgmkibkmcohikaaOBH
import Derived.Test.YtgmkibkmcohikaaP0
set_option linter.all false
namespace Go.R
open Go
set_option linter.all false
theorem p_within (n a b : Int) : impl_within n a b = some (decide (a ≤ n ∧ n ≤ b)) := by
  unfold impl_within
  by_cases h : a ≤ n <;> simp [h]
def isLet (c : Int) : Bool := (decide (97 ≤ c) && decide (c ≤ 122)) || (decide (65 ≤ c) && decide (c ≤ 90)) || c == 95
def isDig (c : Int) : Bool := decide (48 ≤ c) && decide (c ≤ 57)
theorem p_l00Letter (c : Int) : spec_l00Letter c = some (isLet c) := by
  unfold spec_l00Letter isLet
  by_cases h1 : 97 ≤ c <;> by_cases h2 : c ≤ 122 <;> by_cases h3 : 65 ≤ c <;> by_cases h4 : c ≤ 90 <;> by_cases h5 : c = 95 <;> simp [h1, h2, h3, h4, h5]
theorem p_l00Digit (c : Int) : spec_l00Digit c = some (isDig c) := by
  unfold spec_l00Digit isDig
  by_cases h1 : 48 ≤ c <;> simp [h1]
theorem p_isDigit (c : Int) : impl_isDigit c = some (isDig c) := by
  unfold impl_isDigit isDig
  by_cases h1 : 48 ≤ c <;> simp [h1]
def isWordC (b : UInt8) : Bool := isLet b.toNat || isDig b.toNat
def nameOK (t : Str) : Bool := decide (1 ≤ t.length) && decide (t.length ≤ 40) && isLet (t.headD 0).toNat && (t.drop 1).all isWordC
theorem p_l00Word_L1 : ∀ (t : Str), spec_l00Word_L1 t = some (if t.all isWordC then .go () else .ret false)
  | [] => by rw [spec_l00Word_L1]; rfl
  | c :: t => by
    rw [spec_l00Word_L1, p_l00Letter, Option.bind_some, p_l00Digit, p_l00Word_L1 t]
    cases h1 : isLet (c.toNat : Int) <;> cases h2 : isDig (c.toNat : Int) <;> simp [isWordC, h1, h2]
theorem p_l00Word (t : Str) : spec_l00Word t = some (nameOK t) := by
  unfold spec_l00Word nameOK
  cases t with
  | nil => rfl
  | cons c t =>
    have e : idx (c :: t) 0 = some c := rfl
    rw [e, Option.bind_some, p_l00Letter, Option.bind_some, p_l00Word_L1]
    have e1 : decide (((c :: t).length : Int) < 1) = false := decide_eq_false (by simp only [List.length_cons]; omega)
    have e2 : decide (1 ≤ (c :: t).length) = true := decide_eq_true (by simp only [List.length_cons]; omega)
    rw [e1, e2]
    by_cases h : (c :: t).length ≤ 40
    · have e3 : decide (((c :: t).length : Int) > 40) = false := decide_eq_false (by omega)
      have e4 : decide ((c :: t).length ≤ 40) = true := decide_eq_true h
      rw [e3, e4]
      cases h1 : isLet (c.toNat : Int) <;> cases h3 : t.all isWordC <;> simp [h1, h3]
    · have e3 : decide (((c :: t).length : Int) > 40) = true := decide_eq_true (by omega)
      have e4 : decide ((c :: t).length ≤ 40) = false := decide_eq_false h
      rw [e3, e4]
      simp
theorem p_specNameOK (t : Str) : spec_NameOK t = some (nameOK t) := by
  unfold spec_NameOK
  rw [p_l00Word]; rfl
def nameC (p : UInt8 × Nat) : Bool := isLet p.1.toNat || (p.2 != 0 && isDig p.1.toNat)
theorem p_NameOK_L1 : ∀ (t : Str) (i : Nat), impl_NameOK_L1 t i = some (if (t.zipIdx i).all nameC then .go () else .ret false)
  | [], i => by rw [impl_NameOK_L1]; rfl
  | c :: t, i => by
    have e0 : ((i : Int) == 0) = (i == 0) := by cases i <;> simp; omega
    rw [impl_NameOK_L1, p_NameOK_L1 t (i + 1), List.zipIdx_cons, List.all_cons, p_isDigit, e0]
    unfold nameC isLet
    generalize (List.zipIdx t (i + 1)).all _ = A
    generalize isDig (c.toNat : Int) = D
    generalize (c.toNat : Int) = n
    by_cases h1 : 97 ≤ n <;> by_cases h2 : n ≤ 122 <;> by_cases h3 : 65 ≤ n <;> by_cases h4 : n ≤ 90 <;> by_cases h5 : n = 95 <;> cases D <;> by_cases h0 : i = 0 <;> simp [h1, h2, h3, h4, h5, h0]
theorem p_NameOK (t : Str) : impl_NameOK t = some (nameOK t) := by
  unfold impl_NameOK nameOK
  rw [p_NameOK_L1, Option.bind_some]
  have hz : ∀ (r : Str) (k : Nat), (r.zipIdx (k + 1)).all nameC = r.all isWordC := by
    intro r
    induction r with
    | nil => intro k; rfl
    | cons c r ih => intro k; simp only [List.zipIdx_cons, List.all_cons, ih (k + 1)]; rfl
  cases t with
  | nil => simp [p_within]
  | cons c t =>
    rw [List.zipIdx_cons, List.all_cons, hz t 0]
    have hl : decide (1 ≤ (c :: t).length) = true := decide_eq_true (by simp)
    have e : nameC (c, 0) = isLet (c.toNat : Int) := by simp [nameC]
    rw [e, hl, p_within, Bool.decide_and]
    have e2 : decide ((1 : Int) ≤ ((c :: t).length : Int)) = true := decide_eq_true (by simp only [List.length_cons]; omega)
    have e3 : decide (((c :: t).length : Int) ≤ 40) = decide ((c :: t).length ≤ 40) := by rw [decide_eq_decide]; omega
    rw [e2, e3]
    show _ = some ((true && _ && isLet (c.toNat : Int)) && t.all isWordC)
    cases isLet (c.toNat : Int) <;> cases t.all isWordC <;> simp
theorem p_within2 (n a b : Int) : impl_within n a b = some (decide (a ≤ n ∧ n ≤ b)) := by
  unfold impl_within
  by_cases h : a ≤ n <;> simp [h]
theorem p_in2 (n a b : Int) : spec_l01In n a b = some (decide (a ≤ n ∧ n ≤ b)) := by
  unfold spec_l01In
  by_cases h : a ≤ n <;> simp [h]
def sesB (n : Int) : Bool := decide (0 ≤ n ∧ n ≤ 2)
theorem p_isSession (n : Int) : impl_isSession n = some (sesB n) := by unfold impl_isSession; rw [p_within2]; rfl
theorem p_l12Session (n : Int) : spec_l12Session n = some (sesB n) := by unfold spec_l12Session; rw [p_in2]; rfl
theorem p_l12In_L1 (n : Int) : ∀ (l : List Int), spec_l12In_L1 n l = some (if l.contains n then .ret true else .go ())
  | [] => by rw [spec_l12In_L1]; rfl
  | x :: l => by
    rw [spec_l12In_L1, p_l12In_L1 n l, List.contains_cons]
    by_cases h : x = n
    · subst h; simp
    · have h' : (n == x) = false := by simpa using Ne.symm h
      have h2 : (x == n) = false := by simpa using h
      rw [h', h2]; rfl
theorem p_l12In (l : List Int) (n : Int) : spec_l12In l n = some (l.contains n) := by
  unfold spec_l12In
  rw [p_l12In_L1]
  cases l.contains n <;> rfl
theorem p_IndexI_L1 (n : Int) : ∀ (l : List Int) (i : Nat), ∃ k : Nat, slices_Index_int_int_L1 n l i = some (if l.contains n then .ret (k : Int) else .go ())
  | [], i => ⟨0, by rw [slices_Index_int_int_L1]; rfl⟩
  | x :: l, i => by
    rw [slices_Index_int_int_L1]
    obtain ⟨k, hk⟩ := p_IndexI_L1 n l (i + 1)
    rw [hk, List.contains_cons]
    cases h : (n == x)
    · exact ⟨k, by simp⟩
    · exact ⟨i, by simp⟩
theorem p_ContainsI (l : List Int) (n : Int) : slices_Contains_int_int l n = some (l.contains n) := by
  unfold slices_Contains_int_int slices_Index_int_int
  obtain ⟨k, hk⟩ := p_IndexI_L1 n l 0
  rw [hk]
  cases l.contains n <;> simp
/-- a queue's rest behind some of it: sessions, none twice -/
def qB (q : List Int) : List Int → Nat → Bool
  | [], _ => true
  | n :: r, k => sesB n && !(q.take k).contains n && qB q r (k + 1)
theorem p_iqB (x : GLock) : ∀ (r : List Int) (k : Nat), k + r.length = x.Queue.length → impl_LocksOK_L2 x r k = some (if qB x.Queue r k = true then .go () else .ret false)
  | [], k, _ => by rw [impl_LocksOK_L2]; rfl
  | n :: r, k, h => by
    simp only [List.length_cons] at h
    have hk : 0 ≤ (k : Int) ∧ (k : Int) ≤ (x.Queue.length : Int) := by omega
    rw [impl_LocksOK_L2, p_isSession, if_pos hk, p_ContainsI, p_iqB x r (k + 1) (by omega), qB]
    cases sesB n <;> cases (x.Queue.take k).contains n <;> simp
theorem p_sqB (x : GLock) : ∀ (r : List Int) (k : Nat), k + r.length = x.Queue.length → spec_LocksOK_L2 x r k = some (if qB x.Queue r k = true then .go () else .ret false)
  | [], k, _ => by rw [spec_LocksOK_L2]; rfl
  | n :: r, k, h => by
    simp only [List.length_cons] at h
    have hk : 0 ≤ (k : Int) ∧ (k : Int) ≤ (x.Queue.length : Int) := by omega
    rw [spec_LocksOK_L2, p_l12Session, if_pos hk, p_l12In, p_sqB x r (k + 1) (by omega), qB]
    cases sesB n <;> cases (x.Queue.take k).contains n <;> simp
def lkB (x : GLock) : Bool := nameOK x.Name && decide ((1 : Int) ≤ (x.Queue.length : Int) ∧ (x.Queue.length : Int) ≤ 3) && qB x.Queue x.Queue 0
def aheadB (p : Option GLock) (x : GLock) : Bool := match p with
  | none => true
  | some y => Op.bytesLess y.Name x.Name
/-- locks behind one: right, and their names rise -/
def lksB : Option GLock → List GLock → Bool
  | _, [] => true
  | p, x :: xs => aheadB p x && lkB x && lksB (some x) xs
def prevL (l : List GLock) (i : Nat) : Option GLock := match i with
  | 0 => none
  | i + 1 => l[i]?
theorem prevL_next {l : List GLock} {i : Nat} {x : GLock} {xs : List GLock} (h : l.drop i = x :: xs) : prevL l (i + 1) = some x := by
  have := idx_drop h
  rw [idx_nat] at this
  exact this
theorem p_ilksB (l : List GLock) (hl : l.length ≤ maxLen) : ∀ (xs : List GLock) (i : Nat), l.drop i = xs → impl_LocksOK_L1 l xs i = some (if lksB (prevL l i) xs = true then .go () else .ret false)
  | [], i, _ => by rw [impl_LocksOK_L1]; rfl
  | x :: xs, i, h => by
    have hlt := drop_lt h
    rw [impl_LocksOK_L1, p_NameOK, p_within2, p_ilksB l hl xs (i + 1) (drop_next h), prevL_next h, p_iqB x x.Queue 0 (by omega)]
    simp only [Option.bind_some, lksB, lkB]
    cases i with
    | zero =>
      simp only [prevL, aheadB]
      by_cases h1 : nameOK x.Name = true <;> by_cases h2 : ((1 : Int) ≤ (x.Queue.length : Int) ∧ (x.Queue.length : Int) ≤ 3) <;> by_cases h3 : qB x.Queue x.Queue 0 = true <;> simp [h1, h2, h3]
    | succ i =>
      have hw : w64 (((i + 1 : Nat) : Int) - 1) = (i : Int) := by rw [w64_id (by simp only [maxLen] at hl; omega)]; omega
      obtain ⟨y, hy⟩ := drop_prev (l := l) (i := i) (by omega)
      rw [hw, idx_nat]
      simp only [prevL, hy, aheadB]
      have hp : decide (((i + 1 : Nat) : Int) > 0) = true := decide_eq_true (by omega)
      rw [hp]
      by_cases h1 : nameOK x.Name = true <;> by_cases h0 : Op.bytesLess y.Name x.Name = true <;> by_cases h2 : ((1 : Int) ≤ (x.Queue.length : Int) ∧ (x.Queue.length : Int) ≤ 3) <;> by_cases h3 : qB x.Queue x.Queue 0 = true <;> simp [h1, h0, h2, h3]
theorem p_slksB (l : List GLock) (hl : l.length ≤ maxLen) : ∀ (xs : List GLock) (i : Nat), l.drop i = xs → spec_LocksOK_L1 l xs i = some (if lksB (prevL l i) xs = true then .go () else .ret false)
  | [], i, _ => by rw [spec_LocksOK_L1]; rfl
  | x :: xs, i, h => by
    have hlt := drop_lt h
    rw [spec_LocksOK_L1, p_specNameOK, p_in2, p_slksB l hl xs (i + 1) (drop_next h), prevL_next h, p_sqB x x.Queue 0 (by omega)]
    simp only [Option.bind_some, lksB, lkB]
    cases i with
    | zero =>
      simp only [prevL, aheadB]
      by_cases h1 : nameOK x.Name = true <;> by_cases h2 : ((1 : Int) ≤ (x.Queue.length : Int) ∧ (x.Queue.length : Int) ≤ 3) <;> by_cases h3 : qB x.Queue x.Queue 0 = true <;> simp [h1, h2, h3]
    | succ i =>
      have hw : w64 (((i + 1 : Nat) : Int) - 1) = (i : Int) := by rw [w64_id (by simp only [maxLen] at hl; omega)]; omega
      obtain ⟨y, hy⟩ := drop_prev (l := l) (i := i) (by omega)
      rw [hw, idx_nat]
      simp only [prevL, hy, aheadB]
      have hp : decide (((i + 1 : Nat) : Int) > 0) = true := decide_eq_true (by omega)
      rw [hp]
      by_cases h1 : nameOK x.Name = true <;> by_cases h0 : Op.bytesLess y.Name x.Name = true <;> by_cases h2 : ((1 : Int) ≤ (x.Queue.length : Int) ∧ (x.Queue.length : Int) ≤ 3) <;> by_cases h3 : qB x.Queue x.Queue 0 = true <;> simp [h1, h0, h2, h3]
def locksB (l : List GLock) : Bool := lksB none l && decide ((l.length : Int) ≤ 6)
theorem p_iLocks (l : List GLock) (hl : l.length ≤ maxLen) : impl_LocksOK l = some (locksB l) := by
  unfold impl_LocksOK locksB
  rw [p_ilksB l hl l 0 (by simp)]
  show _ = some (lksB none l && _)
  have : prevL l 0 = none := rfl
  rw [this]
  cases lksB none l <;> simp
theorem p_sLocks (l : List GLock) (hl : l.length ≤ maxLen) : spec_LocksOK l = some (locksB l) := by
  unfold spec_LocksOK locksB
  rw [p_slksB l hl l 0 (by simp)]
  have : prevL l 0 = none := rfl
  rw [this]
  by_cases h : (l.length : Int) > 4096
  · have h6 : decide ((l.length : Int) ≤ 6) = false := decide_eq_false (by omega)
    rw [if_pos (decide_eq_true h), h6]
    simp
  · rw [if_neg (by simpa using h)]
    cases lksB none l <;> simp
def lcodeI (l : List GLock) (s : Int) (t : Str) : Int :=
  if (decide ((l.length : Int) > 4096) || decide ((t.length : Int) > 65536)) = true then 2 else if locksB l = false then 1 else if (!sesB s || !nameOK t) = true then 4 else 0
theorem p_locksCode (l : List GLock) (s : Int) (t : Str) (hl : l.length ≤ maxLen) : impl_locksCode l s t = some (lcodeI l s t) := by
  unfold impl_locksCode impl_isList_impl_Lock impl_isText lcodeI
  rw [p_iLocks l hl, p_isSession, p_NameOK]
  by_cases h1 : (l.length : Int) ≤ 4096
  · have e1 : decide ((l.length : Int) > 4096) = false := decide_eq_false (by omega)
    by_cases h2 : (t.length : Int) ≤ 65536
    · have e2 : decide ((t.length : Int) > 65536) = false := decide_eq_false (by omega)
      rw [e1, e2]
      cases locksB l <;> cases sesB s <;> cases nameOK t <;> simp [h1, h2]
    · have e2 : decide ((t.length : Int) > 65536) = true := decide_eq_true (by omega)
      rw [e1, e2]
      simp [h1, h2]
  · have e1 : decide ((l.length : Int) > 4096) = true := decide_eq_true (by omega)
    rw [e1]
    simp [h1]
theorem p_l12Ask (l : List GLock) (s : Int) (t : Str) (hl : l.length ≤ maxLen) : spec_l12Ask l s t = some (lcodeI l s t) := by
  unfold spec_l12Ask lcodeI
  rw [p_sLocks l hl, p_l12Session, p_specNameOK]
  by_cases h1 : (l.length : Int) > 4096
  · simp [h1]
  · by_cases h2 : (t.length : Int) > 65536
    · simp [h1, h2]
    · cases locksB l <;> cases sesB s <;> cases nameOK t <;> simp [h1, h2]
theorem p_sessionCode (l : List GLock) (s : Int) (hl : l.length ≤ maxLen) : impl_sessionCode l s = some (lcodeI l s [120]) := by
  unfold impl_sessionCode
  rw [p_locksCode l s _ hl]
  unfold lcodeI
  have e1 : nameOK [110, 97, 109, 101] = nameOK [120] := by decide
  rw [e1]
  simp
theorem lcodeI_0 {l : List GLock} {s : Int} {t : Str} (h : lcodeI l s t = 0) : locksB l = true ∧ sesB s = true ∧ nameOK t = true ∧ (l.length : Int) ≤ 4096 := by
  unfold lcodeI at h
  split at h
  · omega
  · rename_i h1
    split at h
    · omega
    · rename_i h2
      split at h
      · omega
      · rename_i h3
        simp only [Bool.not_eq_true, Bool.or_eq_false_iff, Bool.not_eq_false', decide_eq_false_iff_not] at h1 h3
        exact ⟨by simpa using h2, h3.1, h3.2, by omega⟩
theorem lksB_mem : ∀ {p : Option GLock} {l : List GLock}, lksB p l = true → ∀ x ∈ l, lkB x = true
  | _, [], _, x, hx => by simp at hx
  | p, y :: l, h, x, hx => by
    simp only [lksB, Bool.and_eq_true] at h
    rcases List.mem_cons.1 hx with rfl | hx
    · exact h.1.2
    · exact lksB_mem h.2 x hx
theorem lkB_queue {x : GLock} (h : lkB x = true) : 1 ≤ x.Queue.length ∧ x.Queue.length ≤ 3 := by
  simp only [lkB, Bool.and_eq_true, decide_eq_true_eq] at h
  omega
theorem lkB_name {x : GLock} (h : lkB x = true) : nameOK x.Name = true := by
  simp only [lkB, Bool.and_eq_true] at h
  exact h.1.1
theorem locksB_all {l : List GLock} (h : locksB l = true) : (∀ x ∈ l, lkB x = true) ∧ l.length ≤ 6 := by
  simp only [locksB, Bool.and_eq_true, decide_eq_true_eq] at h
  exact ⟨lksB_mem h.1, by omega⟩
theorem nameOK_len {t : Str} (h : nameOK t = true) : t.length ≤ 40 := by
  simp only [nameOK, Bool.and_eq_true, decide_eq_true_eq] at h
  exact h.1.1.2
/-! who owns what -/
def ownedL (s : Int) : List GLock → List Str
  | [] => []
  | x :: xs => if x.Queue.headD 0 == s then x.Name :: ownedL s xs else ownedL s xs
theorem idx_head {q : List Int} (h : 1 ≤ q.length) : idx q 0 = some (q.headD 0) := by
  cases q with
  | nil => simp at h
  | cons a q => rfl
theorem ownedL_len (s : Int) : ∀ l : List GLock, (ownedL s l).length ≤ l.length
  | [] => by simp [ownedL]
  | x :: l => by
    have := ownedL_len s l
    simp only [ownedL]
    split <;> simp <;> omega
theorem p_iOwned_L1 (s : Int) : ∀ (l : List GLock) (out : List Str), (∀ x ∈ l, lkB x = true) → out.length + l.length ≤ 100 → impl_OwnedBy_L1 s l out = some (out ++ ownedL s l)
  | [], out, _, _ => by rw [impl_OwnedBy_L1]; simp [ownedL]
  | x :: l, out, h, hl => by
    simp only [List.length_cons] at hl
    have hq := (lkB_queue (h x (by simp))).1
    rw [impl_OwnedBy_L1, idx_head hq, Option.bind_some]
    simp only [ownedL]
    split
    · rw [if_pos (by simp; omega), p_iOwned_L1 s l _ (fun y hy => h y (by simp [hy])) (by simp; omega)]
      simp
    · rw [p_iOwned_L1 s l _ (fun y hy => h y (by simp [hy])) (by omega)]
theorem p_sOwned_L1 (s : Int) : ∀ (l : List GLock) (out : List Str), (∀ x ∈ l, lkB x = true) → out.length + l.length ≤ 100 → spec_l12Owned_L1 s l out = some (out ++ ownedL s l)
  | [], out, _, _ => by rw [spec_l12Owned_L1]; simp [ownedL]
  | x :: l, out, h, hl => by
    simp only [List.length_cons] at hl
    have hq := (lkB_queue (h x (by simp))).1
    rw [spec_l12Owned_L1, idx_head hq, Option.bind_some]
    simp only [ownedL]
    split
    · rw [if_pos (by simp; omega), p_sOwned_L1 s l _ (fun y hy => h y (by simp [hy])) (by simp; omega)]
      simp
    · rw [p_sOwned_L1 s l _ (fun y hy => h y (by simp [hy])) (by omega)]
theorem wtStringS_small : ∀ (l : List Str), (∀ t ∈ l, t.length ≤ 40) → swStringS l ≤ 40 * l.length
  | [], _ => by simp [swStringS]
  | t :: l, h => by
    have := wtStringS_small l (fun x hx => h x (by simp [hx]))
    have := h t (by simp)
    simp only [swStringS, List.length_cons]
    omega
theorem ownedL_mem {s : Int} : ∀ {l : List GLock} {t : Str}, t ∈ ownedL s l → ∃ x ∈ l, x.Name = t
  | [], t, h => by simp [ownedL] at h
  | x :: l, t, h => by
    simp only [ownedL] at h
    split at h
    · rcases List.mem_cons.1 h with rfl | h
      · exact ⟨x, by simp, rfl⟩
      · obtain ⟨y, hy, e⟩ := ownedL_mem h; exact ⟨y, by simp [hy], e⟩
    · obtain ⟨y, hy, e⟩ := ownedL_mem h; exact ⟨y, by simp [hy], e⟩
theorem p_OwnedBy (l : List GLock) (s : Int) (hl : l.length ≤ maxLen) : ∃ (o : List Str) (c : Int), impl_OwnedBy l s = some (o, c) ∧ spec_OwnedBy l s = some (o, c) ∧ o.length ≤ 6 ∧ ∀ t ∈ o, t.length ≤ 40 := by
  unfold impl_OwnedBy spec_OwnedBy
  rw [p_sessionCode l s hl, p_l12Ask l s _ hl]
  by_cases h1 : (l.length : Int) > 4096
  · have hc : lcodeI l s [120] = 2 := by unfold lcodeI; simp [h1]
    refine ⟨[], 2, ?_, by simp [h1], by simp, by simp⟩
    simp [hc]
  · rw [if_neg (by simpa using h1)]
    by_cases hc : lcodeI l s [120] = 0
    · obtain ⟨g1, g2, g3, g4⟩ := lcodeI_0 hc
      obtain ⟨k1, k2⟩ := locksB_all g1
      unfold spec_l12Owned
      rw [p_iOwned_L1 s l [] k1 (by simp; omega), p_sOwned_L1 s l [] k1 (by simp; omega)]
      refine ⟨ownedL s l, 0, by simp [hc], by simp [hc], by have := ownedL_len s l; omega, ?_⟩
      intro t ht
      obtain ⟨x, hx, rfl⟩ := ownedL_mem ht
      exact nameOK_len (lkB_name (k1 x hx))
    · exact ⟨[], lcodeI l s [120], by simp [hc], by simp [hc], by simp, by simp⟩
theorem law_FnExactOwnedBy (l : List GLock) (s : Int) (h : okL okGLock l) (hs : okI .i64 s) : laws_FnExactOwnedBy l s = some true := by
  unfold laws_FnExactOwnedBy
  obtain ⟨r, e, hr⟩ := p_szLockS l 1048576 (by omega) (by omega) h
  rw [e, Option.bind_some]
  split
  · rfl
  · rename_i hn
    simp only [decide_eq_true_eq] at hn
    obtain ⟨h1, h2⟩ := hr.resolve_left hn
    have hw : wtLockS l ≤ 1048576 := by omega
    have et := p_toLockS l (by omega)
    obtain ⟨o, c, e1, e2, k1, k2⟩ := p_OwnedBy l s h.1
    have q1 := cnt_wtLockS l
    have m1 := p_markLockS l 1 (fit_wtLockS l (by omega)) (by omega) (by omega)
    have hwo : wtStringS o ≤ 10000 := by
      have := wtStringS_small o k2
      unfold wtStringS
      omega
    have q2 := cnt_wtStringS o
    have m2 := p_markStringS o 1 (fit_wtStringS o (by omega)) (by omega) (by omega)
    have m3 := p_heldStringS o 1 (fit_wtStringS o (by omega)) (by omega) (by omega)
    have n1 : decide ((1 : Int) + (cntLockS l : Nat) < 0) = false := decide_eq_false (by omega)
    have n2 : decide ((1 : Int) + (cntStringS o : Nat) < 0) = false := decide_eq_false (by omega)
    simp only [et, Option.bind_some, e1, e2, p_eqStringS, p_eqLockS, m1, m2, m3, n1, n2, Bool.not_true, Bool.false_eq_true, if_false, bne_self_eq_false, cond_false]
end Go.R
