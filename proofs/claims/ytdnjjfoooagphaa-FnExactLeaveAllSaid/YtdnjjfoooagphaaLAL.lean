/- Plain laws of what this statement reaches. -/
import Derived.Test.YtdnjjfoooagphaaLAH
import Derived.Test.YtdnjjfoooagphaaP0
set_option linter.all false
namespace Go.R
open Go
set_option linter.all false
theorem p_within (n a b : Int) : impl_within n a b = some (decide (a ≤ n ∧ n ≤ b)) := by
  unfold impl_within
  by_cases h : a ≤ n <;> simp [h]
theorem u8_tri (a b : UInt8) : a < b ∨ a = b ∨ b < a := by
  simp only [UInt8.lt_iff_toNat_lt, ← UInt8.toNat_inj]
  omega
theorem u8_asym {a b : UInt8} (h : a < b) : ¬ b < a := by
  simp only [UInt8.lt_iff_toNat_lt] at *
  omega
theorem cmpB_anti : ∀ a b : Str, Lib.compareBytes b a = - Lib.compareBytes a b
  | [], [] => by simp [Lib.compareBytes]
  | [], _ :: _ => by simp [Lib.compareBytes]
  | _ :: _, [] => by simp [Lib.compareBytes]
  | a :: xs, b :: ys => by
    have ih := cmpB_anti xs ys
    unfold Lib.compareBytes
    rcases u8_tri a b with h | h | h
    · simp [h, u8_asym h]
    · subst h; simp [UInt8.lt_irrefl, ih]
    · simp [h, u8_asym h]
theorem cmpB_zero : ∀ a b : Str, Lib.compareBytes a b = 0 ↔ a = b
  | [], [] => by simp [Lib.compareBytes]
  | [], _ :: _ => by simp [Lib.compareBytes]
  | _ :: _, [] => by simp [Lib.compareBytes]
  | a :: xs, b :: ys => by
    have ih := cmpB_zero xs ys
    unfold Lib.compareBytes
    rcases u8_tri a b with h | h | h
    · have hne : a ≠ b := by rintro rfl; exact UInt8.lt_irrefl _ h
      simp [h, hne]
    · subst h; simp [UInt8.lt_irrefl, ih]
    · have hne : a ≠ b := by rintro rfl; exact UInt8.lt_irrefl _ h
      simp [h, u8_asym h, hne]
theorem cmpB_less : ∀ a b : Str, Op.bytesLess a b = decide (Lib.compareBytes a b < 0)
  | [], [] => by simp [Lib.compareBytes, Op.bytesLess]
  | [], _ :: _ => by simp [Lib.compareBytes, Op.bytesLess]
  | _ :: _, [] => by simp [Lib.compareBytes, Op.bytesLess]
  | a :: xs, b :: ys => by
    have ih := cmpB_less xs ys
    unfold Lib.compareBytes Op.bytesLess
    rcases u8_tri a b with h | h | h
    · simp [h]
    · subst h; simp [UInt8.lt_irrefl, ih]
    · have hne : ¬ a = b := by rintro rfl; exact UInt8.lt_irrefl _ h
      simp [h, u8_asym h, hne]
theorem cmpB_trans : ∀ a b c : Str, Lib.compareBytes a b < 0 → Lib.compareBytes b c < 0 → Lib.compareBytes a c < 0
  | [], [], c => by intro h; simp [Lib.compareBytes] at h
  | [], _ :: _, [] => by intro _ h; simp [Lib.compareBytes] at h
  | [], _ :: _, _ :: _ => by intro _ _; simp [Lib.compareBytes]
  | _ :: _, [], c => by intro h; simp [Lib.compareBytes] at h
  | _ :: _, _ :: _, [] => by intro _ h; simp [Lib.compareBytes] at h
  | a :: xs, b :: ys, c :: zs => by
    have ih := cmpB_trans xs ys zs
    unfold Lib.compareBytes
    rcases u8_tri a b with h | h | h
    · rcases u8_tri b c with g | g | g
      · have : a < c := by simp only [UInt8.lt_iff_toNat_lt] at *; omega
        simp [this]
      · subst g; simp [h]
      · simp [h, g, u8_asym g]
    · subst h
      rcases u8_tri a c with g | g | g
      · simp [g]
      · subst g; simp only [UInt8.lt_irrefl, if_false]; exact ih
      · simp [g, u8_asym g]
    · simp [h, u8_asym h]
theorem mid_get {α : Type} (p s : List α) (x : α) : (p ++ x :: s)[p.length]? = some x := by simp
theorem mid_set {α : Type} (p s : List α) (x y : α) : (p ++ x :: s).set p.length y = p ++ y :: s := by
  rw [List.set_append_right _ _ (Nat.le_refl _), Nat.sub_self, List.set_cons_zero]
def isLet (c : Int) : Bool := (decide (97 ≤ c) && decide (c ≤ 122)) || (decide (65 ≤ c) && decide (c ≤ 90)) || c == 95
def isDig (c : Int) : Bool := decide (48 ≤ c) && decide (c ≤ 57)
theorem p_l00Letter (c : Int) : spec_l00Letter c = some (isLet c) := by
  unfold spec_l00Letter isLet
  by_cases h1 : 97 ≤ c <;> by_cases h2 : c ≤ 122 <;> by_cases h3 : 65 ≤ c <;> by_cases h4 : c ≤ 90 <;> by_cases h5 : c = 95 <;> simp [h1, h2, h3, h4, h5]
theorem p_l00Digit (c : Int) : spec_l00Digit c = some (isDig c) := by
  unfold spec_l00Digit isDig
  by_cases h1 : 48 ≤ c <;> simp [h1]
theorem p_isDigit (c : Int) : impl_isDigit c = some (isDig c) := by
  unfold impl_isDigit isDig
  by_cases h1 : 48 ≤ c <;> simp [h1]
def isWordC (b : UInt8) : Bool := isLet b.toNat || isDig b.toNat
def nameOK (t : Str) : Bool := decide (1 ≤ t.length) && decide (t.length ≤ 40) && isLet (t.headD 0).toNat && (t.drop 1).all isWordC
theorem p_l00Word_L1 : ∀ (t : Str), spec_l00Word_L1 t = some (if t.all isWordC then .go () else .ret false)
  | [] => by rw [spec_l00Word_L1]; rfl
  | c :: t => by
    rw [spec_l00Word_L1, p_l00Letter, Option.bind_some, p_l00Digit, p_l00Word_L1 t]
    cases h1 : isLet (c.toNat : Int) <;> cases h2 : isDig (c.toNat : Int) <;> simp [isWordC, h1, h2]
theorem p_l00Word (t : Str) : spec_l00Word t = some (nameOK t) := by
  unfold spec_l00Word nameOK
  cases t with
  | nil => rfl
  | cons c t =>
    have e : idx (c :: t) 0 = some c := rfl
    rw [e, Option.bind_some, p_l00Letter, Option.bind_some, p_l00Word_L1]
    have e1 : decide (((c :: t).length : Int) < 1) = false := decide_eq_false (by simp only [List.length_cons]; omega)
    have e2 : decide (1 ≤ (c :: t).length) = true := decide_eq_true (by simp only [List.length_cons]; omega)
    rw [e1, e2]
    by_cases h : (c :: t).length ≤ 40
    · have e3 : decide (((c :: t).length : Int) > 40) = false := decide_eq_false (by omega)
      have e4 : decide ((c :: t).length ≤ 40) = true := decide_eq_true h
      rw [e3, e4]
      cases h1 : isLet (c.toNat : Int) <;> cases h3 : t.all isWordC <;> simp [h1, h3]
    · have e3 : decide (((c :: t).length : Int) > 40) = true := decide_eq_true (by omega)
      have e4 : decide ((c :: t).length ≤ 40) = false := decide_eq_false h
      rw [e3, e4]
      simp
theorem p_specNameOK (t : Str) : spec_NameOK t = some (nameOK t) := by
  unfold spec_NameOK
  rw [p_l00Word]; rfl
def nameC (p : UInt8 × Nat) : Bool := isLet p.1.toNat || (p.2 != 0 && isDig p.1.toNat)
theorem p_NameOK_L1 : ∀ (t : Str) (i : Nat), impl_NameOK_L1 t i = some (if (t.zipIdx i).all nameC then .go () else .ret false)
  | [], i => by rw [impl_NameOK_L1]; rfl
  | c :: t, i => by
    have e0 : ((i : Int) == 0) = (i == 0) := by cases i <;> simp; omega
    rw [impl_NameOK_L1, p_NameOK_L1 t (i + 1), List.zipIdx_cons, List.all_cons, p_isDigit, e0]
    unfold nameC isLet
    generalize (List.zipIdx t (i + 1)).all _ = A
    generalize isDig (c.toNat : Int) = D
    generalize (c.toNat : Int) = n
    by_cases h1 : 97 ≤ n <;> by_cases h2 : n ≤ 122 <;> by_cases h3 : 65 ≤ n <;> by_cases h4 : n ≤ 90 <;> by_cases h5 : n = 95 <;> cases D <;> by_cases h0 : i = 0 <;> simp [h1, h2, h3, h4, h5, h0]
theorem p_NameOK (t : Str) : impl_NameOK t = some (nameOK t) := by
  unfold impl_NameOK nameOK
  rw [p_NameOK_L1, Option.bind_some]
  have hz : ∀ (r : Str) (k : Nat), (r.zipIdx (k + 1)).all nameC = r.all isWordC := by
    intro r
    induction r with
    | nil => intro k; rfl
    | cons c r ih => intro k; simp only [List.zipIdx_cons, List.all_cons, ih (k + 1)]; rfl
  cases t with
  | nil => simp [p_within]
  | cons c t =>
    rw [List.zipIdx_cons, List.all_cons, hz t 0]
    have hl : decide (1 ≤ (c :: t).length) = true := decide_eq_true (by simp)
    have e : nameC (c, 0) = isLet (c.toNat : Int) := by simp [nameC]
    rw [e, hl, p_within, Bool.decide_and]
    have e2 : decide ((1 : Int) ≤ ((c :: t).length : Int)) = true := decide_eq_true (by simp only [List.length_cons]; omega)
    have e3 : decide (((c :: t).length : Int) ≤ 40) = decide ((c :: t).length ≤ 40) := by rw [decide_eq_decide]; omega
    rw [e2, e3]
    show _ = some ((true && _ && isLet (c.toNat : Int)) && t.all isWordC)
    cases isLet (c.toNat : Int) <;> cases t.all isWordC <;> simp
theorem mid_id {i j : Int} (h0 : 0 ≤ i) (h1 : i < j) (h2 : j ≤ 2 ^ 60) : w64 (Int.fdiv (IntKind.u64.wrap (w64 (i + j))) (2 ^ (min (Int.toNat 1) (IntKind.bits .u64)))) = (i + j) / 2 := by
  have e1 : w64 (i + j) = i + j := w64_id (by omega)
  have e2 : IntKind.u64.wrap (i + j) = i + j := by
    have : IntKind.u64.wrap (i + j) = (i + j) % 2 ^ 64 := rfl
    rw [this]; omega
  have e3 : min (Int.toNat 1) (IntKind.bits .u64) = 1 := by decide
  rw [e1, e2, e3, Int.fdiv_eq_ediv_of_nonneg _ (by omega)]
  have : ((2 : Int) ^ 1) = 2 := rfl
  rw [this, w64_id (by omega)]
theorem p_within2 (n a b : Int) : impl_within n a b = some (decide (a ≤ n ∧ n ≤ b)) := by
  unfold impl_within
  by_cases h : a ≤ n <;> simp [h]
theorem p_in2 (n a b : Int) : spec_l01In n a b = some (decide (a ≤ n ∧ n ≤ b)) := by
  unfold spec_l01In
  by_cases h : a ≤ n <;> simp [h]
def sesB (n : Int) : Bool := decide (0 ≤ n ∧ n ≤ 2)
theorem p_isSession (n : Int) : impl_isSession n = some (sesB n) := by unfold impl_isSession; rw [p_within2]; rfl
theorem p_l12Session (n : Int) : spec_l12Session n = some (sesB n) := by unfold spec_l12Session; rw [p_in2]; rfl
theorem p_l12In_L1 (n : Int) : ∀ (l : List Int), spec_l12In_L1 n l = some (if l.contains n then .ret true else .go ())
  | [] => by rw [spec_l12In_L1]; rfl
  | x :: l => by
    rw [spec_l12In_L1, p_l12In_L1 n l, List.contains_cons]
    by_cases h : x = n
    · subst h; simp
    · have h' : (n == x) = false := by simpa using Ne.symm h
      have h2 : (x == n) = false := by simpa using h
      rw [h', h2]; rfl
theorem p_l12In (l : List Int) (n : Int) : spec_l12In l n = some (l.contains n) := by
  unfold spec_l12In
  rw [p_l12In_L1]
  cases l.contains n <;> rfl
theorem p_IndexI_L1 (n : Int) : ∀ (l : List Int) (i : Nat), ∃ k : Nat, slices_Index_int_int_L1 n l i = some (if l.contains n then .ret (k : Int) else .go ())
  | [], i => ⟨0, by rw [slices_Index_int_int_L1]; rfl⟩
  | x :: l, i => by
    rw [slices_Index_int_int_L1]
    obtain ⟨k, hk⟩ := p_IndexI_L1 n l (i + 1)
    rw [hk, List.contains_cons]
    cases h : (n == x)
    · exact ⟨k, by simp⟩
    · exact ⟨i, by simp⟩
theorem p_ContainsI (l : List Int) (n : Int) : slices_Contains_int_int l n = some (l.contains n) := by
  unfold slices_Contains_int_int slices_Index_int_int
  obtain ⟨k, hk⟩ := p_IndexI_L1 n l 0
  rw [hk]
  cases l.contains n <;> simp
/-- a queue's rest behind some of it: sessions, none twice -/
def qB (q : List Int) : List Int → Nat → Bool
  | [], _ => true
  | n :: r, k => sesB n && !(q.take k).contains n && qB q r (k + 1)
theorem p_iqB (x : GLock) : ∀ (r : List Int) (k : Nat), k + r.length = x.Queue.length → impl_LocksOK_L2 x r k = some (if qB x.Queue r k = true then .go () else .ret false)
  | [], k, _ => by rw [impl_LocksOK_L2]; rfl
  | n :: r, k, h => by
    simp only [List.length_cons] at h
    have hk : 0 ≤ (k : Int) ∧ (k : Int) ≤ (x.Queue.length : Int) := by omega
    rw [impl_LocksOK_L2, p_isSession, if_pos hk, p_ContainsI, p_iqB x r (k + 1) (by omega), qB]
    cases sesB n <;> cases (x.Queue.take k).contains n <;> simp
theorem p_sqB (x : GLock) : ∀ (r : List Int) (k : Nat), k + r.length = x.Queue.length → spec_LocksOK_L2 x r k = some (if qB x.Queue r k = true then .go () else .ret false)
  | [], k, _ => by rw [spec_LocksOK_L2]; rfl
  | n :: r, k, h => by
    simp only [List.length_cons] at h
    have hk : 0 ≤ (k : Int) ∧ (k : Int) ≤ (x.Queue.length : Int) := by omega
    rw [spec_LocksOK_L2, p_l12Session, if_pos hk, p_l12In, p_sqB x r (k + 1) (by omega), qB]
    cases sesB n <;> cases (x.Queue.take k).contains n <;> simp
def lkB (x : GLock) : Bool := nameOK x.Name && decide ((1 : Int) ≤ (x.Queue.length : Int) ∧ (x.Queue.length : Int) ≤ 3) && qB x.Queue x.Queue 0
def aheadB (p : Option GLock) (x : GLock) : Bool := match p with
  | none => true
  | some y => Op.bytesLess y.Name x.Name
/-- locks behind one: right, and their names rise -/
def lksB : Option GLock → List GLock → Bool
  | _, [] => true
  | p, x :: xs => aheadB p x && lkB x && lksB (some x) xs
def prevL (l : List GLock) (i : Nat) : Option GLock := match i with
  | 0 => none
  | i + 1 => l[i]?
theorem prevL_next {l : List GLock} {i : Nat} {x : GLock} {xs : List GLock} (h : l.drop i = x :: xs) : prevL l (i + 1) = some x := by
  have := idx_drop h
  rw [idx_nat] at this
  exact this
theorem p_ilksB (l : List GLock) (hl : l.length ≤ maxLen) : ∀ (xs : List GLock) (i : Nat), l.drop i = xs → impl_LocksOK_L1 l xs i = some (if lksB (prevL l i) xs = true then .go () else .ret false)
  | [], i, _ => by rw [impl_LocksOK_L1]; rfl
  | x :: xs, i, h => by
    have hlt := drop_lt h
    rw [impl_LocksOK_L1, p_NameOK, p_within2, p_ilksB l hl xs (i + 1) (drop_next h), prevL_next h, p_iqB x x.Queue 0 (by omega)]
    simp only [Option.bind_some, lksB, lkB]
    cases i with
    | zero =>
      simp only [prevL, aheadB]
      by_cases h1 : nameOK x.Name = true <;> by_cases h2 : ((1 : Int) ≤ (x.Queue.length : Int) ∧ (x.Queue.length : Int) ≤ 3) <;> by_cases h3 : qB x.Queue x.Queue 0 = true <;> simp [h1, h2, h3]
    | succ i =>
      have hw : w64 (((i + 1 : Nat) : Int) - 1) = (i : Int) := by rw [w64_id (by simp only [maxLen] at hl; omega)]; omega
      obtain ⟨y, hy⟩ := drop_prev (l := l) (i := i) (by omega)
      rw [hw, idx_nat]
      simp only [prevL, hy, aheadB]
      have hp : decide (((i + 1 : Nat) : Int) > 0) = true := decide_eq_true (by omega)
      rw [hp]
      by_cases h1 : nameOK x.Name = true <;> by_cases h0 : Op.bytesLess y.Name x.Name = true <;> by_cases h2 : ((1 : Int) ≤ (x.Queue.length : Int) ∧ (x.Queue.length : Int) ≤ 3) <;> by_cases h3 : qB x.Queue x.Queue 0 = true <;> simp [h1, h0, h2, h3]
theorem p_slksB (l : List GLock) (hl : l.length ≤ maxLen) : ∀ (xs : List GLock) (i : Nat), l.drop i = xs → spec_LocksOK_L1 l xs i = some (if lksB (prevL l i) xs = true then .go () else .ret false)
  | [], i, _ => by rw [spec_LocksOK_L1]; rfl
  | x :: xs, i, h => by
    have hlt := drop_lt h
    rw [spec_LocksOK_L1, p_specNameOK, p_in2, p_slksB l hl xs (i + 1) (drop_next h), prevL_next h, p_sqB x x.Queue 0 (by omega)]
    simp only [Option.bind_some, lksB, lkB]
    cases i with
    | zero =>
      simp only [prevL, aheadB]
      by_cases h1 : nameOK x.Name = true <;> by_cases h2 : ((1 : Int) ≤ (x.Queue.length : Int) ∧ (x.Queue.length : Int) ≤ 3) <;> by_cases h3 : qB x.Queue x.Queue 0 = true <;> simp [h1, h2, h3]
    | succ i =>
      have hw : w64 (((i + 1 : Nat) : Int) - 1) = (i : Int) := by rw [w64_id (by simp only [maxLen] at hl; omega)]; omega
      obtain ⟨y, hy⟩ := drop_prev (l := l) (i := i) (by omega)
      rw [hw, idx_nat]
      simp only [prevL, hy, aheadB]
      have hp : decide (((i + 1 : Nat) : Int) > 0) = true := decide_eq_true (by omega)
      rw [hp]
      by_cases h1 : nameOK x.Name = true <;> by_cases h0 : Op.bytesLess y.Name x.Name = true <;> by_cases h2 : ((1 : Int) ≤ (x.Queue.length : Int) ∧ (x.Queue.length : Int) ≤ 3) <;> by_cases h3 : qB x.Queue x.Queue 0 = true <;> simp [h1, h0, h2, h3]
def locksB (l : List GLock) : Bool := lksB none l && decide ((l.length : Int) ≤ 6)
theorem p_iLocks (l : List GLock) (hl : l.length ≤ maxLen) : impl_LocksOK l = some (locksB l) := by
  unfold impl_LocksOK locksB
  rw [p_ilksB l hl l 0 (by simp)]
  show _ = some (lksB none l && _)
  have : prevL l 0 = none := rfl
  rw [this]
  cases lksB none l <;> simp
theorem p_sLocks (l : List GLock) (hl : l.length ≤ maxLen) : spec_LocksOK l = some (locksB l) := by
  unfold spec_LocksOK locksB
  rw [p_slksB l hl l 0 (by simp)]
  have : prevL l 0 = none := rfl
  rw [this]
  by_cases h : (l.length : Int) > 4096
  · have h6 : decide ((l.length : Int) ≤ 6) = false := decide_eq_false (by omega)
    rw [if_pos (decide_eq_true h), h6]
    simp
  · rw [if_neg (by simpa using h)]
    cases lksB none l <;> simp
def lcodeI (l : List GLock) (s : Int) (t : Str) : Int :=
  if (decide ((l.length : Int) > 4096) || decide ((t.length : Int) > 65536)) = true then 2 else if locksB l = false then 1 else if (!sesB s || !nameOK t) = true then 4 else 0
theorem p_locksCode (l : List GLock) (s : Int) (t : Str) (hl : l.length ≤ maxLen) : impl_locksCode l s t = some (lcodeI l s t) := by
  unfold impl_locksCode impl_isList_impl_Lock impl_isText lcodeI
  rw [p_iLocks l hl, p_isSession, p_NameOK]
  by_cases h1 : (l.length : Int) ≤ 4096
  · have e1 : decide ((l.length : Int) > 4096) = false := decide_eq_false (by omega)
    by_cases h2 : (t.length : Int) ≤ 65536
    · have e2 : decide ((t.length : Int) > 65536) = false := decide_eq_false (by omega)
      rw [e1, e2]
      cases locksB l <;> cases sesB s <;> cases nameOK t <;> simp [h1, h2]
    · have e2 : decide ((t.length : Int) > 65536) = true := decide_eq_true (by omega)
      rw [e1, e2]
      simp [h1, h2]
  · have e1 : decide ((l.length : Int) > 4096) = true := decide_eq_true (by omega)
    rw [e1]
    simp [h1]
theorem p_l12Ask (l : List GLock) (s : Int) (t : Str) (hl : l.length ≤ maxLen) : spec_l12Ask l s t = some (lcodeI l s t) := by
  unfold spec_l12Ask lcodeI
  rw [p_sLocks l hl, p_l12Session, p_specNameOK]
  by_cases h1 : (l.length : Int) > 4096
  · simp [h1]
  · by_cases h2 : (t.length : Int) > 65536
    · simp [h1, h2]
    · cases locksB l <;> cases sesB s <;> cases nameOK t <;> simp [h1, h2]
theorem p_sessionCode (l : List GLock) (s : Int) (hl : l.length ≤ maxLen) : impl_sessionCode l s = some (lcodeI l s [120]) := by
  unfold impl_sessionCode
  rw [p_locksCode l s _ hl]
  unfold lcodeI
  have e1 : nameOK [110, 97, 109, 101] = nameOK [120] := by decide
  rw [e1]
  simp
theorem lcodeI_0 {l : List GLock} {s : Int} {t : Str} (h : lcodeI l s t = 0) : locksB l = true ∧ sesB s = true ∧ nameOK t = true ∧ (l.length : Int) ≤ 4096 := by
  unfold lcodeI at h
  split at h
  · omega
  · rename_i h1
    split at h
    · omega
    · rename_i h2
      split at h
      · omega
      · rename_i h3
        simp only [Bool.not_eq_true, Bool.or_eq_false_iff, Bool.not_eq_false', decide_eq_false_iff_not] at h1 h3
        exact ⟨by simpa using h2, h3.1, h3.2, by omega⟩
theorem lksB_mem : ∀ {p : Option GLock} {l : List GLock}, lksB p l = true → ∀ x ∈ l, lkB x = true
  | _, [], _, x, hx => by simp at hx
  | p, y :: l, h, x, hx => by
    simp only [lksB, Bool.and_eq_true] at h
    rcases List.mem_cons.1 hx with rfl | hx
    · exact h.1.2
    · exact lksB_mem h.2 x hx
theorem lkB_queue {x : GLock} (h : lkB x = true) : 1 ≤ x.Queue.length ∧ x.Queue.length ≤ 3 := by
  simp only [lkB, Bool.and_eq_true, decide_eq_true_eq] at h
  omega
theorem lkB_name {x : GLock} (h : lkB x = true) : nameOK x.Name = true := by
  simp only [lkB, Bool.and_eq_true] at h
  exact h.1.1
theorem locksB_all {l : List GLock} (h : locksB l = true) : (∀ x ∈ l, lkB x = true) ∧ l.length ≤ 6 := by
  simp only [locksB, Bool.and_eq_true, decide_eq_true_eq] at h
  exact ⟨lksB_mem h.1, by omega⟩
theorem nameOK_len {t : Str} (h : nameOK t = true) : t.length ≤ 40 := by
  simp only [nameOK, Bool.and_eq_true, decide_eq_true_eq] at h
  exact h.1.1.2
/-! who owns what -/
theorem p_copyLocks_L1 : ∀ (xs out : List GLock), out.length + xs.length ≤ 2 ^ 30 → (∀ x ∈ xs, x.Queue.length ≤ 2 ^ 30) → impl_copyLocks_L1 xs out = some (out ++ xs)
  | [], out, _, _ => by rw [impl_copyLocks_L1]; simp
  | x :: xs, out, h, hq => by
    simp only [List.length_cons] at h
    have h1 := hq x (by simp)
    rw [impl_copyLocks_L1]
    unfold slices_Clone_int_int
    rw [if_pos (by simpa using h1), Option.bind_some, if_pos (by simp; omega)]
    have e : (⟨x.Name, [] ++ x.Queue⟩ : GLock) = x := by cases x; rfl
    rw [e, p_copyLocks_L1 xs _ (by simp; omega) (fun y hy => hq y (by simp [hy]))]
    simp
theorem p_copyLocks (l : List GLock) (h : l.length ≤ 100) (hq : ∀ x ∈ l, x.Queue.length ≤ 100) : impl_copyLocks l = some l := by
  unfold impl_copyLocks
  rw [p_copyLocks_L1 l [] (by simp; omega) (fun x hx => by have := hq x hx; omega)]
  simp
theorem p_l12Own_L1 : ∀ (xs out : List GLock), out.length + xs.length ≤ 2 ^ 30 → (∀ x ∈ xs, x.Queue.length ≤ 2 ^ 30) → spec_l12Own_L1 xs out = some (out ++ xs)
  | [], out, _, _ => by rw [spec_l12Own_L1]; simp
  | x :: xs, out, h, hq => by
    simp only [List.length_cons] at h
    have h1 := hq x (by simp)
    rw [spec_l12Own_L1]
    rw [if_pos (by simpa using h1), if_pos (by simp; omega)]
    have e : (⟨x.Name, [] ++ x.Queue⟩ : GLock) = x := by cases x; rfl
    rw [e, p_l12Own_L1 xs _ (by simp; omega) (fun y hy => hq y (by simp [hy]))]
    simp
theorem p_l12Own (l : List GLock) (h : l.length ≤ 100) (hq : ∀ x ∈ l, x.Queue.length ≤ 100) : spec_l12Own l = some l := by
  unfold spec_l12Own
  rw [p_l12Own_L1 l [] (by simp; omega) (fun x hx => by have := hq x hx; omega)]
  simp
/-! names rise -/
def RisL (l : List GLock) : Prop := l.Pairwise fun x y => Lib.compareBytes x.Name y.Name < 0
theorem lksB_ris : ∀ {p : Option GLock} {l : List GLock}, lksB p l = true → RisL l ∧ ∀ y, p = some y → ∀ x ∈ l, Lib.compareBytes y.Name x.Name < 0
  | p, [], _ => ⟨List.Pairwise.nil, by simp⟩
  | p, x :: l, h => by
    simp only [lksB, Bool.and_eq_true] at h
    obtain ⟨⟨h1, _⟩, h2⟩ := h
    obtain ⟨g1, g2⟩ := lksB_ris h2
    refine ⟨List.pairwise_cons.2 ⟨g2 x rfl, g1⟩, ?_⟩
    rintro y rfl z hz
    simp only [aheadB, cmpB_less, decide_eq_true_eq] at h1
    rcases List.mem_cons.1 hz with rfl | hz
    · exact h1
    · exact cmpB_trans _ _ _ h1 (g2 x rfl z hz)
theorem RisL.lt {l : List GLock} (h : RisL l) {i j : Nat} {x y : GLock} (hij : i < j) (hi : l[i]? = some x) (hj : l[j]? = some y) : Lib.compareBytes x.Name y.Name < 0 := by
  obtain ⟨hi1, rfl⟩ := List.getElem?_eq_some_iff.1 hi
  obtain ⟨hj1, rfl⟩ := List.getElem?_eq_some_iff.1 hj
  exact List.pairwise_iff_getElem.1 h i j hi1 hj1 hij
/-- the place of a name -/
structure PlcL (l : List GLock) (t : Str) (k : Nat) : Prop where
  le : k ≤ l.length
  lo : ∀ q x, q < k → l[q]? = some x → Lib.compareBytes x.Name t < 0
  hi : ∀ q x, k ≤ q → l[q]? = some x → 0 ≤ Lib.compareBytes x.Name t
theorem PlcL.unique {l : List GLock} {t : Str} {k k' : Nat} (a : PlcL l t k) (b : PlcL l t k') : k = k' := by
  rcases Nat.lt_trichotomy k k' with h | h | h
  · have hl := b.le
    have hx : l[k]? = some (l[k]'(by omega)) := List.getElem?_eq_getElem (by omega)
    have := b.lo k _ h hx; have := a.hi k _ (Nat.le_refl _) hx; omega
  · exact h
  · have hl := a.le
    have hx : l[k']? = some (l[k']'(by omega)) := List.getElem?_eq_getElem (by omega)
    have := a.lo k' _ h hx; have := b.hi k' _ (Nat.le_refl _) hx; omega
def hereB (l : List GLock) (t : Str) (k : Nat) : Bool := match l[k]? with
  | some x => x.Name == t
  | none => false
theorem hereB_iff {l : List GLock} {t : Str} {k : Nat} : hereB l t k = true ↔ ∃ x, l[k]? = some x ∧ x.Name = t := by
  unfold hereB
  cases l[k]? with
  | none => simp
  | some x => simp
theorem find_here {l : List GLock} {t : Str} {k : Nat} (hr : RisL l) (hk : PlcL l t k) : l.findIdx? (fun x => x.Name == t) = if hereB l t k = true then some k else none := by
  by_cases h : hereB l t k = true
  · rw [if_pos h, List.findIdx?_eq_some_iff_getElem]
    obtain ⟨x, hx, e⟩ := hereB_iff.1 h
    obtain ⟨hl, rfl⟩ := List.getElem?_eq_some_iff.1 hx
    refine ⟨hl, by simpa using e, ?_⟩
    intro j hj
    have := hk.lo j _ hj (List.getElem?_eq_getElem (by omega))
    simp only [beq_iff_eq, Bool.not_eq_true]
    intro e'
    rw [e', (cmpB_zero t t).2 rfl] at this
    omega
  · rw [if_neg h, List.findIdx?_eq_none_iff]
    intro x hx
    obtain ⟨q, hq⟩ := List.mem_iff_getElem?.1 hx
    simp only [beq_eq_false_iff_ne, ne_eq]
    intro e
    rcases Nat.lt_trichotomy q k with g | g | g
    · have := hk.lo q x g hq
      rw [e, (cmpB_zero t t).2 rfl] at this
      omega
    · subst g
      exact h (hereB_iff.2 ⟨x, hq, e⟩)
    · have hl := (List.getElem?_eq_some_iff.1 hq).1
      have hy : l[k]? = some (l[k]'(by omega)) := List.getElem?_eq_getElem (by omega)
      have h1 := hr.lt g hy hq
      have h2 := hk.hi k _ (Nat.le_refl _) hy
      rw [e] at h1
      omega
/-- what is in the lists of locks -/
theorem smLk {l : List GLock} (h : l.length ≤ 7 ∧ ∀ x ∈ l, x.Name.length ≤ 40 ∧ x.Queue.length ≤ 4) : wtLockS l ≤ 1000 := by
  have key : ∀ l : List GLock, (∀ x ∈ l, x.Name.length ≤ 40 ∧ x.Queue.length ≤ 4) → swLockS l ≤ 44 * l.length := by
    intro l
    induction l with
    | nil => intro _; simp [swLockS]
    | cons x l ih =>
      intro hx
      have h1 := ih (fun y hy => hx y (by simp [hy]))
      have h2 := hx x (by simp)
      simp only [swLockS, wtLock, wtIntS, List.length_cons]
      omega
  have := key l h.2
  unfold wtLockS
  omega
theorem p_l12InH_L1 (l : List Int) (n : Int) : ∀ (xs : List Int) (i : Nat), i + xs.length = l.length → spec_l12In_h0_L1 l n xs i = some (if xs.contains n then .ret true else .go ())
  | [], i, _ => by rw [spec_l12In_h0_L1]; rfl
  | x :: xs, i, h => by
    simp only [List.length_cons] at h
    rw [spec_l12In_h0_L1, if_pos (by omega), p_l12InH_L1 l n xs (i + 1) (by omega), List.contains_cons]
    by_cases e : x = n
    · subst e; simp
    · have h' : (n == x) = false := by simpa using Ne.symm e
      have h2 : (x == n) = false := by simpa using e
      rw [h', h2]; rfl
theorem p_l12InH (l : List Int) (n : Int) : spec_l12In_h0 l n = some (l.contains n) := by
  unfold spec_l12In_h0
  rw [p_l12InH_L1 l n l 0 (by omega)]
  cases l.contains n <;> rfl
/-- right locks -/
theorem locks_sm {l : List GLock} (h : locksB l = true) : RisL l ∧ l.length ≤ 6 ∧ (∀ x ∈ l, x.Name.length ≤ 40 ∧ x.Queue.length ≤ 3) := by
  obtain ⟨h1, h2⟩ := locksB_all h
  simp only [locksB, Bool.and_eq_true] at h
  exact ⟨(lksB_ris h.1).1, h2, fun x hx => ⟨nameOK_len (lkB_name (h1 x hx)), (lkB_queue (h1 x hx)).2⟩⟩
def keepI (c : Int) (l : List Int) : List Int := l.filter fun x => !(x == c)
theorem keepI_len (c : Int) (l : List Int) : (keepI c l).length ≤ l.length := List.length_filter_le _ _
theorem p_delV_L1 (b : Int × Int) : ∀ (t c g : List Int) (g0 : Int) (k : Nat), t.length < k → c.length + (g0 :: g).length + t.length ≤ 2 ^ 20 → ∃ R, slices_DeleteFunc_int_int_h3_L1 b k (c.length : Int) ((c.length + (g0 :: g).length : Nat) : Int) (c ++ (g0 :: g ++ t)) = some ((((c ++ keepI b.2 t).length : Nat) : Int), R) ∧ R.length = (c ++ (g0 :: g ++ t)).length ∧ R.take (c ++ keepI b.2 t).length = c ++ keepI b.2 t
  | _, _, _, _, 0, h, _ => by omega
  | [], c, g, g0, k + 1, _, hl => by
    refine ⟨c ++ (g0 :: g ++ []), ?_, rfl, by simp [keepI]⟩
    rw [slices_DeleteFunc_int_int_h3_L1, if_neg (by simp)]
    simp [keepI]
  | z :: t, c, g, g0, k + 1, hk, hl => by
    simp only [List.length_cons] at hk hl
    have b1 : (0 : Int) ≤ ((c.length + (g0 :: g).length : Nat) : Int) ∧ ((c.length + (g0 :: g).length : Nat) : Int) < ((c ++ (g0 :: g ++ z :: t)).length : Int) := by simp <;> omega
    have g1 : (c ++ (g0 :: g ++ z :: t))[0 + ((c.length + (g0 :: g).length : Nat) : Int).toNat]? = some z := by
      have := mid_get (c ++ g0 :: g) t z
      rw [List.length_append] at this
      have ec : c ++ g0 :: g ++ z :: t = c ++ (g0 :: g ++ z :: t) := by simp
      rw [ec] at this
      rw [Int.toNat_natCast, Nat.zero_add]
      exact this
    have e3 : w64 (((c.length + (g0 :: g).length : Nat) : Int) + 1) = ((c.length + (g0 :: g).length + 1 : Nat) : Int) := by rw [w64_id (by simp only [List.length_cons]; omega)]; omega
    have e5 : impl_leave_1 z b.2 = some (z == b.2) := rfl
    rw [slices_DeleteFunc_int_int_h3_L1, if_pos (decide_eq_true b1.2), if_pos b1, g1, Option.bind_some, e5, Option.bind_some, e3]
    by_cases e : z = b.2
    · have ek : keepI b.2 (z :: t) = keepI b.2 t := by simp [keepI, e]
      have ec : c ++ (g0 :: g ++ z :: t) = c ++ (g0 :: (g ++ [z]) ++ t) := by simp
      rw [if_neg (by simp [e]), ek, ec]
      have := p_delV_L1 b t c (g ++ [z]) g0 k (by omega) (by simp <;> omega)
      have el : c.length + (g0 :: (g ++ [z])).length = c.length + (g0 :: g).length + 1 := by simp <;> omega
      rw [el] at this
      exact this
    · have ek : keepI b.2 (z :: t) = z :: keepI b.2 t := by simp [keepI, e]
      have b2 : (0 : Int) ≤ (c.length : Int) ∧ (c.length : Int) < ((c ++ (g0 :: g ++ z :: t)).length : Int) := by simp <;> omega
      obtain ⟨w, hw⟩ : ∃ w, (c ++ (g0 :: g ++ z :: t))[0 + ((c.length : Nat) : Int).toNat]? = some w := ⟨_, List.getElem?_eq_getElem (by simp)⟩
      have e4 : w64 ((c.length : Int) + 1) = (((c ++ [z]).length : Nat) : Int) := by rw [w64_id (by omega)]; simp
      have ex : c ++ z :: keepI b.2 t = (c ++ [z]) ++ keepI b.2 t := by simp
      rw [if_pos (by simp [e]), if_pos b2, hw, Option.bind_some, e4, ek, ex]
      cases g with
      | nil =>
        have es : (c ++ ([g0] ++ z :: t)).set (0 + ((c.length : Nat) : Int).toNat) z = (c ++ [z]) ++ ([z] ++ t) := by
          have := mid_set c (z :: t) g0 z
          simpa using this
        have := p_delV_L1 b t (c ++ [z]) [] z k (by omega) (by simp at hl ⊢; omega)
        have el : (c ++ [z]).length + [z].length = c.length + [g0].length + 1 := by simp
        have el2 : ((c ++ [z]) ++ ([z] ++ t)).length = (c ++ ([g0] ++ z :: t)).length := by simp
        rw [el, el2] at this
        rw [es]
        exact this
      | cons g1' g' =>
        have es : (c ++ (g0 :: g1' :: g' ++ z :: t)).set (0 + ((c.length : Nat) : Int).toNat) z = (c ++ [z]) ++ (g1' :: (g' ++ [z]) ++ t) := by
          have := mid_set c (g1' :: g' ++ z :: t) g0 z
          simpa using this
        have := p_delV_L1 b t (c ++ [z]) (g' ++ [z]) g1' k (by omega) (by simp at hl ⊢; omega)
        have el : (c ++ [z]).length + (g1' :: (g' ++ [z])).length = c.length + (g0 :: g1' :: g').length + 1 := by simp <;> omega
        have el2 : ((c ++ [z]) ++ (g1' :: (g' ++ [z]) ++ t)).length = (c ++ (g0 :: g1' :: g' ++ z :: t)).length := by simp <;> omega
        rw [el, el2] at this
        rw [es]
        exact this
theorem p_idxV_L1 (l : List Int) (b : Int) : ∀ (xs : List Int) (i : Nat), i + xs.length = l.length → slices_IndexFunc_int_int_h0_L1 l b xs i = some (.go ()) ∧ keepI b xs = xs ∨ ∃ (p : List Int) (x : Int) (t : List Int), xs = p ++ x :: t ∧ slices_IndexFunc_int_int_h0_L1 l b xs i = some (.ret (((i + p.length : Nat) : Int), b)) ∧ keepI b xs = p ++ keepI b t
  | [], i, _ => .inl ⟨by rw [slices_IndexFunc_int_int_h0_L1], rfl⟩
  | y :: ys, i, h => by
    simp only [List.length_cons] at h
    have e5 : impl_leave_1 y b = some (y == b) := rfl
    rw [slices_IndexFunc_int_int_h0_L1, if_pos (by omega), e5, Option.bind_some]
    by_cases e : y = b
    · rw [if_pos (by simpa using e)]
      exact .inr ⟨[], y, ys, rfl, by simp, by simp [keepI, e]⟩
    · rw [if_neg (by simpa using e)]
      rcases p_idxV_L1 l b ys (i + 1) (by omega) with ⟨h1, h2⟩ | ⟨p, x, t, h1, h2, h3⟩
      · refine .inl ⟨h1, ?_⟩
        have : keepI b (y :: ys) = y :: keepI b ys := by simp [keepI, e]
        rw [this, h2]
      · refine .inr ⟨y :: p, x, t, by rw [h1]; rfl, ?_, ?_⟩
        · rw [h2]; simp; omega
        · have : keepI b (y :: ys) = y :: keepI b ys := by simp [keepI, e]
          rw [this, h3]; rfl
theorem p_DeleteV (a : List Int) (b : Int) (hl : a.length ≤ 2 ^ 19) : slices_DeleteFunc_int_int_h3 a b = some (keepI b a, b) := by
  have hf : 2 ^ 40 < FUEL := by unfold FUEL; decide
  unfold slices_DeleteFunc_int_int_h3 slices_IndexFunc_int_int_h0
  rcases p_idxV_L1 a b a 0 (by omega) with ⟨h1, h2⟩ | ⟨p, x, t, h1, h2, h3⟩
  · rw [h1, h2]; rfl
  · rw [h2]
    simp only [Option.bind_some, Nat.zero_add]
    have hla : a.length = p.length + 1 + t.length := by rw [h1]; simp; omega
    have e0 : (((p.length : Nat) : Int) == (-1)) = false := by simp <;> omega
    have ew : w64 ((p.length : Int) + 1) = ((p.length + [x].length : Nat) : Int) := by rw [w64_id (by omega)]; simp
    obtain ⟨R, g1, g2, g3⟩ := p_delV_L1 (((p.length : Nat) : Int), b) t p [] x FUEL (by omega) (by simp <;> omega)
    have ea : p ++ ([x] ++ t) = a := by rw [h1]; simp
    rw [ea] at g1 g2
    rw [e0, if_neg (by simp), ew, g1, Option.bind_some]
    have hle : (p ++ keepI b t).length ≤ R.length := by
      have : (keepI b t).length ≤ t.length := List.length_filter_le _ _
      rw [g2, hla]; simp; omega
    simp only
    rw [if_pos (by omega), if_pos (by omega), Int.toNat_natCast, g3, h3, List.append_assoc, List.take_left']
    rfl
theorem p_lockAt_1h (x : GLock) (t : Str) : impl_lockAt_1_h0 x.Name x.Queue t = some (Lib.compareBytes x.Name t) := rfl
theorem p_BinV_L1 (l : List GLock) (t : Str) (hs : RisL l) (hl : l.length ≤ 2 ^ 30) : ∀ (k i j : Nat), i ≤ j → j ≤ l.length → j - i < k → (∀ q r, q < i → l[q]? = some r → Lib.compareBytes r.Name t < 0) → (∀ q r, j ≤ q → l[q]? = some r → 0 ≤ Lib.compareBytes r.Name t) → ∃ m : Nat, slices_BinarySearchFunc_impl_Lock_impl_Lock_string_h0_L1 l t k i j = some (m : Int) ∧ PlcL l t m
  | 0, i, j, _, _, h, _, _ => by omega
  | k + 1, i, j, hij, hj, hk, ha, hb => by
    rw [slices_BinarySearchFunc_impl_Lock_impl_Lock_string_h0_L1]
    by_cases c : i < j
    · rw [if_pos (by simpa using c), mid_id (by omega) (by omega) (by omega)]
      have em : ((i : Int) + j) / 2 = (((i + j) / 2 : Nat) : Int) := by omega
      have hm : (i + j) / 2 < l.length := by omega
      obtain ⟨r, hr⟩ : ∃ r, l[(i + j) / 2]? = some r := ⟨l[(i + j) / 2], List.getElem?_eq_getElem hm⟩
      rw [em, Int.toNat_natCast, Nat.zero_add, hr, Option.bind_some, if_pos (by omega), p_lockAt_1h, Option.bind_some]
      by_cases d : Lib.compareBytes r.Name t < 0
      · rw [if_pos (by simp [d]), w64_id (by omega)]
        have : (((i + j) / 2 : Nat) : Int) + 1 = (((i + j) / 2 + 1 : Nat) : Int) := by omega
        rw [this]
        refine p_BinV_L1 l t hs hl k ((i + j) / 2 + 1) j (by omega) hj (by omega) (fun q r' hq hr' => ?_) hb
        by_cases e : q = (i + j) / 2
        · subst e; rw [hr] at hr'; cases hr'; exact d
        · exact cmpB_trans _ _ _ (hs.lt (by omega) hr' hr) d
      · rw [if_neg (by simpa using d)]
        refine p_BinV_L1 l t hs hl k i ((i + j) / 2) (by omega) (by omega) (by omega) ha (fun q r' hq hr' => ?_)
        by_cases e : q = (i + j) / 2
        · subst e; rw [hr] at hr'; cases hr'; omega
        · have h1 := hs.lt (show (i + j) / 2 < q by omega) hr hr'
          rcases Int.lt_or_le (Lib.compareBytes r'.Name t) 0 with h2 | h2
          · exact absurd (cmpB_trans _ _ _ h1 h2) d
          · exact h2
    · rw [if_neg (by simpa using c)]
      exact ⟨i, rfl, by omega, ha, fun q r hq => hb q r (by omega)⟩
theorem p_lockAtV (l : List GLock) (t : Str) (hs : RisL l) (hl : l.length ≤ 2 ^ 30) : ∃ k : Nat, impl_lockAt_h0 l t = some ((k : Int), hereB l t k) ∧ PlcL l t k := by
  have hf : (2 : Nat) ^ 40 ≤ FUEL := by unfold FUEL; omega
  obtain ⟨m, e, h1⟩ := p_BinV_L1 l t hs hl FUEL 0 l.length (by omega) (by omega) (by omega) (fun q r h => by omega) (fun q r h hr => by have := (List.getElem?_eq_some_iff.1 hr).1; omega)
  have e' : slices_BinarySearchFunc_impl_Lock_impl_Lock_string_h0_L1 l t FUEL 0 (l.length : Int) = some (m : Int) := e
  refine ⟨m, ?_, h1⟩
  unfold impl_lockAt_h0 slices_BinarySearchFunc_impl_Lock_impl_Lock_string_h0
  rw [e', Option.bind_some, Int.toNat_natCast, Nat.zero_add]
  unfold hereB
  by_cases c : m < l.length
  · obtain ⟨r, hr⟩ : ∃ r, l[m]? = some r := ⟨l[m], List.getElem?_eq_getElem c⟩
    rw [hr]
    simp only [onIdx]
    rw [if_pos (by simpa using c), if_pos (by omega), p_lockAt_1h, Option.bind_some, Option.bind_some]
    have : (Lib.compareBytes r.Name t == 0) = (r.Name == t) := by
      rw [Bool.eq_iff_iff]; simp [cmpB_zero]
    rw [this]
  · rw [List.getElem?_eq_none (by omega)]
    simp only [onIdx]
    rw [if_neg (by simpa using c)]
    rfl
theorem p_FindV_L1 (l : List GLock) (t : Str) : ∀ (xs : List GLock) (i : Nat), i + xs.length = l.length → spec_l12Find_h0_L1 l t xs i = some (match xs.findIdx? (fun x => x.Name == t) with | some k => .ret ((i + k : Nat) : Int) | none => .go ())
  | [], i, _ => by rw [spec_l12Find_h0_L1]; rfl
  | x :: xs, i, h => by
    simp only [List.length_cons] at h
    rw [spec_l12Find_h0_L1, if_pos (by omega), p_FindV_L1 l t xs (i + 1) (by omega), List.findIdx?_cons]
    cases hp : (x.Name == t) with
    | true => simp
    | false =>
      cases hq : xs.findIdx? (fun x => x.Name == t) with
      | none => simp
      | some k => simp; omega
theorem p_FindV {l : List GLock} {t : Str} {k : Nat} (hr : RisL l) (hk : PlcL l t k) : spec_l12Find_h0 l t = some (if hereB l t k = true then (k : Int) else -1) := by
  unfold spec_l12Find_h0
  rw [p_FindV_L1 l t l 0 (by omega), find_here hr hk]
  cases hereB l t k <;> simp
/-- who leaves -/
def leaveM (R : List GLock) (k : Nat) (s : Int) (x : GLock) : List GLock × List GTold :=
  (if keepI s x.Queue = [] then R.take k ++ R.drop (k + 1) else R.set k ⟨x.Name, keepI s x.Queue⟩,
   if keepI s x.Queue = [] then [] else if x.Queue.headD 0 == s then [⟨(keepI s x.Queue).headD 0, [108, 111, 99, 107, 101, 100], x.Name⟩] else [])
theorem head_get {q : List Int} (h : q ≠ []) : q[0]? = some (q.headD 0) ∧ 0 < q.length := by
  cases q with
  | nil => exact absurd rfl h
  | cons a q => exact ⟨rfl, by simp⟩
theorem p_leave {R : List GLock} {k : Nat} {s : Int} {x : GLock} (hx : R[k]? = some x) (hq : x.Queue ≠ []) (hl : x.Queue.length ≤ 100) (hR : R.length ≤ 100) : impl_leave_h2 R (k : Int) s = some (leaveM R k s x) := by
  obtain ⟨hk, _⟩ := List.getElem?_eq_some_iff.1 hx
  have hb : (0 : Int) ≤ (k : Int) ∧ (k : Int) < (R.length : Int) := by omega
  obtain ⟨h0, h1⟩ := head_get hq
  have ew : w64 ((k : Int) + 1) = ((k + 1 : Nat) : Int) := by rw [w64_id (by omega)]; omega
  unfold impl_leave_h2 leaveM
  rw [if_pos hb, Int.toNat_natCast, Nat.zero_add, hx, Option.bind_some, if_pos h1, h0, Option.bind_some, p_DeleteV _ _ (by omega), Option.bind_some]
  simp only
  by_cases hn : keepI s x.Queue = []
  · have e0 : (((keepI s x.Queue).length : Int) == 0) = true := by simp [hn]
    rw [if_pos e0, if_pos hn, if_pos hn, ew]
    unfold slices_Delete_impl_Lock_impl_Lock_h1
    rw [if_pos (by simp; omega), Option.bind_some, Int.toNat_natCast, Int.toNat_natCast, List.take_set_of_le (Nat.le_refl _), List.drop_set_of_lt (Nat.lt_succ_self _)]
  · obtain ⟨g0, g1⟩ := head_get hn
    have e0 : (((keepI s x.Queue).length : Int) == 0) = false := by simp; exact hn
    rw [if_neg (by simp [e0]), if_neg hn, if_neg hn]
    cases hh : (x.Queue.headD 0 == s) with
    | true => rw [if_pos rfl, if_pos g1, g0, Option.bind_some, if_pos (by simp), if_pos rfl]; rfl
    | false => rw [if_neg (by simp), if_neg (by simp)]
theorem p_Leave_L1 (R : List GLock) (k : Nat) (s : Int) (x : GLock) (hx : R[k]? = some x) (hl : x.Queue.length ≤ 100) : ∀ (f i : Nat) (q : List Int), i ≤ x.Queue.length → x.Queue.length - i < f → q.length + (x.Queue.length - i) ≤ 1000 → spec_l12Leave_L1 R (k : Int) s f i q = some (q ++ keepI s (x.Queue.drop i))
  | 0, i, q, _, h, _ => by omega
  | f + 1, i, q, hi, h, hq => by
    obtain ⟨hk, _⟩ := List.getElem?_eq_some_iff.1 hx
    have hb : (0 : Int) ≤ (k : Int) ∧ (k : Int) < (R.length : Int) := by omega
    have hx' : R[0 + ((k : Int)).toNat]? = some x := by rw [Nat.zero_add, Int.toNat_natCast]; exact hx
    rw [spec_l12Leave_L1]
    simp only [if_pos hb, hx', Option.bind_some]
    by_cases c : i < x.Queue.length
    · obtain ⟨y, hy⟩ : ∃ y, x.Queue[i]? = some y := ⟨x.Queue[i], List.getElem?_eq_getElem c⟩
      have hy' : x.Queue[0 + ((i : Int)).toNat]? = some y := by rw [Nat.zero_add, Int.toNat_natCast]; exact hy
      have hb2 : (0 : Int) ≤ (i : Int) ∧ (i : Int) < (x.Queue.length : Int) := by omega
      have hd : x.Queue.drop i = y :: x.Queue.drop (i + 1) := by
        rw [List.drop_eq_getElem_cons c]
        congr 1
        exact Option.some.inj ((List.getElem?_eq_getElem c).symm.trans hy)
      have ew : w64 ((i : Int) + 1) = ((i + 1 : Nat) : Int) := by rw [w64_id (by omega)]; omega
      rw [if_pos (decide_eq_true (by omega)), if_pos hb2, hy', Option.bind_some, ew]
      by_cases e : y = s
      · have ek : keepI s (x.Queue.drop i) = keepI s (x.Queue.drop (i + 1)) := by rw [hd]; simp [keepI, e]
        rw [if_neg (by simp [e]), ek]
        exact p_Leave_L1 R k s x hx hl f (i + 1) q (by omega) (by omega) (by omega)
      · have ek : keepI s (x.Queue.drop i) = y :: keepI s (x.Queue.drop (i + 1)) := by rw [hd]; simp [keepI, e]
        rw [if_pos (by simp [e]), if_pos hb2, if_pos (by simp; omega), ek, p_Leave_L1 R k s x hx hl f (i + 1) (q ++ [y]) (by omega) (by omega) (by simp; omega)]
        simp
    · rw [if_neg (by simpa using c)]
      have : x.Queue.drop i = [] := List.drop_eq_nil_of_le (by omega)
      rw [this]
      simp [keepI]
/-- the reference's way -/
def lvM (l : List GLock) (s : Int) (t : Str) (k : Nat) : List GLock × List GTold × Int := match l[k]? with
  | some x => if x.Name = t ∧ x.Queue.contains s = true then ((leaveM l k s x).1, (leaveM l k s x).2, 0) else (l, [], 5)
  | none => (l, [], 5)
theorem p_sLeave {l : List GLock} {s : Int} {t : Str} {k : Nat} (hr : RisL l) (hk : PlcL l t k) (hl : l.length ≤ 6) (hq : ∀ x ∈ l, x.Queue.length ≤ 100 ∧ x.Queue ≠ []) : spec_l12Leave l s t = some (lvM l s t k) := by
  have hf : (2 : Nat) ^ 40 ≤ FUEL := by unfold FUEL; omega
  unfold spec_l12Leave
  rw [p_l12Own l (by omega) (fun x hx => (hq x hx).1), Option.bind_some, p_FindV hr hk, Option.bind_some]
  unfold lvM
  by_cases hh : hereB l t k = true
  · obtain ⟨x, hx, hn⟩ := hereB_iff.1 hh
    obtain ⟨hkl, _⟩ := List.getElem?_eq_some_iff.1 hx
    obtain ⟨q1, q2⟩ := hq x (List.mem_of_getElem? hx)
    obtain ⟨g0, g1⟩ := head_get q2
    have hb : (0 : Int) ≤ (k : Int) ∧ (k : Int) < (l.length : Int) := by omega
    have e0 : decide ((k : Int) < 0) = false := decide_eq_false (by omega)
    rw [if_pos hh, Int.toNat_natCast, Nat.zero_add, hx]
    simp only [onIdx, e0, Bool.false_eq_true, if_false, if_pos hb, p_l12InH, Option.bind_some, hn, true_and]
    cases hc : x.Queue.contains s with
    | false => rfl
    | true =>
      have e1 := p_Leave_L1 l k s x hx q1 FUEL 0 [] (by omega) (by omega) (by simp; omega)
      have e1' : spec_l12Leave_L1 l (k : Int) s FUEL 0 [] = some (keepI s x.Queue) := by simpa using e1
      have ew : w64 ((k : Int) + 1) = ((k + 1 : Nat) : Int) := by rw [w64_id (by omega)]; omega
      simp only [Bool.not_true, Bool.false_eq_true, if_false, e1', Option.bind_some, if_pos g1, g0, if_true]
      unfold leaveM
      by_cases hnn : keepI s x.Queue = []
      · have hz : (((keepI s x.Queue).length : Int) == 0) = true := by simp [hnn]
        have hz2 : decide (((keepI s x.Queue).length : Int) > 0) = false := by simp [hnn]
        have ht : (if (x.Queue.headD 0 == s) = true then some (decide (((keepI s x.Queue).length : Int) > 0)) else some false) = some false := by rw [hz2]; split <;> rfl
        rw [ht]
        simp only [Option.bind_some, Bool.false_eq_true, if_false, if_pos hz, if_pos hnn, ew]
        have hT : (l.drop (k + 1)).take (l.length - (k + 1)) = l.drop (k + 1) := List.take_of_length_le (by rw [List.length_drop]; omega)
        rw [if_pos (by omega), if_pos (by omega), if_pos (by omega), Int.toNat_natCast, List.take_set_of_le (Nat.le_refl _), List.drop_set_of_lt (Nat.lt_succ_self _), hT]
      · obtain ⟨f0, f1⟩ := head_get hnn
        have hz : (((keepI s x.Queue).length : Int) == 0) = false := by simp; exact hnn
        have hz2 : decide (((keepI s x.Queue).length : Int) > 0) = true := decide_eq_true (by omega)
        rw [hz2, hz]
        simp only [if_neg hnn, Bool.false_eq_true, if_false]
        cases hh2 : (x.Queue.headD 0 == s) with
        | true => simp only [if_true, Option.bind_some, if_pos f1, f0, hn]; rw [if_pos (by simp)]; rfl
        | false => simp only [Bool.false_eq_true, if_false, Option.bind_some, hn]
  · rw [if_neg hh]
    have e0 : decide ((-1 : Int) < 0) = true := by decide
    have hno : ∀ x, l[k]? = some x → ¬ (x.Name = t ∧ x.Queue.contains s = true) := fun x hx h => hh (hereB_iff.2 ⟨x, hx, h.1⟩)
    have e1 : (onIdx (l[(0 + (-1 : Int).toNat)]?) (fun x_22 => if (decide ((-1 : Int) < 0)) then some true else if (0 : Int) ≤ (-1 : Int) ∧ (-1 : Int) < (l.length : Int) then (spec_l12In_h0 x_22.Queue s).bind fun r_26 => some (!r_26) else none) (if (decide ((-1 : Int) < 0)) then some true else if (0 : Int) ≤ (-1 : Int) ∧ (-1 : Int) < (l.length : Int) then none else none) : Option Bool) = some true := by
      cases l[(0 + (-1 : Int).toNat)]? <;> simp [onIdx]
    rw [e1]
    simp only [Option.bind_some, if_true]
    cases hx : l[k]? with
    | none => rfl
    | some x => simp only; rw [if_neg (hno x hx)]
theorem locks_ne {l : List GLock} (h : locksB l = true) : ∀ x ∈ l, x.Queue.length ≤ 100 ∧ x.Queue ≠ [] := by
  intro x hx
  have := lkB_queue ((locksB_all h).1 x hx)
  refine ⟨by omega, ?_⟩
  rintro e
  rw [e] at this
  simp at this
def lv1 (s : Int) (x : GLock) : List GLock := if x.Queue.contains s = true then (if keepI s x.Queue = [] then [] else [⟨x.Name, keepI s x.Queue⟩]) else [x]
def tl1 (s : Int) (x : GLock) : List GTold := if x.Queue.contains s = true then (if keepI s x.Queue = [] then [] else if x.Queue.headD 0 == s then [⟨(keepI s x.Queue).headD 0, [108, 111, 99, 107, 101, 100], x.Name⟩] else []) else []
theorem leaveM_mid (P xs : List GLock) (x : GLock) (s : Int) (hc : x.Queue.contains s = true) : leaveM (P ++ x :: xs) P.length s x = (P ++ (lv1 s x ++ xs), tl1 s x) := by
  unfold leaveM lv1 tl1
  rw [if_pos hc, if_pos hc]
  by_cases h : keepI s x.Queue = []
  · rw [if_pos h, if_pos h, if_pos h]
    have e1 : (P ++ x :: xs).take P.length = P := List.take_left' rfl
    have e2 : (P ++ x :: xs).drop (P.length + 1) = xs := by
      have : P ++ x :: xs = (P ++ [x]) ++ xs := by simp
      rw [this]
      exact List.drop_left' (by simp)
    rw [e1, e2]
    rfl
  · rw [if_neg h, if_neg h, if_neg h]
    have e1 : (P ++ x :: xs).set P.length ⟨x.Name, keepI s x.Queue⟩ = P ++ ([⟨x.Name, keepI s x.Queue⟩] ++ xs) := by
      rw [List.set_append_right _ _ (Nat.le_refl _), Nat.sub_self]; rfl
    rw [e1]
theorem plc_mid {P xs : List GLock} {x : GLock} (h : RisL (P ++ x :: xs)) : PlcL (P ++ x :: xs) x.Name P.length := by
  have hx : (P ++ x :: xs)[P.length]? = some x := by rw [List.getElem?_append_right (Nat.le_refl _), Nat.sub_self]; rfl
  refine ⟨by simp, fun q y hq hy => h.lt hq hy hx, fun q y hq hy => ?_⟩
  by_cases e : q = P.length
  · subst e
    rw [hx] at hy
    cases hy
    rw [(cmpB_zero _ _).2 rfl]
    omega
  · have := h.lt (show P.length < q by omega) hx hy
    rw [cmpB_anti x.Name y.Name]
    omega
theorem RisL.step {P xs : List GLock} {x : GLock} (s : Int) (h : RisL (P ++ x :: xs)) : RisL (P ++ lv1 s x ++ xs) := by
  unfold RisL at *
  have h1 : ((P ++ x :: xs).map GLock.Name).Pairwise fun a b => Lib.compareBytes a b < 0 := List.pairwise_map.2 h
  have hs : List.Sublist ((P ++ lv1 s x ++ xs).map GLock.Name) ((P ++ x :: xs).map GLock.Name) := by
    rw [List.append_assoc, List.map_append, List.map_append (l₁ := P) (l₂ := x :: xs), List.map_append, List.map_cons]
    refine List.Sublist.append (List.Sublist.refl _) ?_
    unfold lv1
    split
    · split
      · exact List.sublist_cons_self _ _
      · exact List.Sublist.refl _
    · exact List.Sublist.refl _
  exact List.pairwise_map.1 (h1.sublist hs)
/-- small locks with somebody in their queues -/
def OkQ (l : List GLock) : Prop := ∀ x ∈ l, x.Name.length ≤ 40 ∧ x.Queue.length ≤ 3 ∧ x.Queue ≠ []
theorem okQ_lv1 {x : GLock} (s : Int) (h : x.Name.length ≤ 40 ∧ x.Queue.length ≤ 3 ∧ x.Queue ≠ []) : OkQ (lv1 s x) := by
  intro y hy
  unfold lv1 at hy
  have := keepI_len s x.Queue
  split at hy
  · split at hy
    · simp at hy
    · rename_i hk
      simp only [List.mem_singleton] at hy
      subst hy
      exact ⟨h.1, by simp only; omega, hk⟩
  · simp only [List.mem_singleton] at hy
    subst hy
    exact h
theorem okQ_step {P xs : List GLock} {x : GLock} (s : Int) (h : OkQ (P ++ x :: xs)) : OkQ (P ++ lv1 s x ++ xs) := by
  intro y hy
  simp only [List.mem_append] at hy
  rcases hy with (hy | hy) | hy
  · exact h y (by simp [hy])
  · exact okQ_lv1 s (h x (by simp)) y hy
  · exact h y (by simp [hy])
theorem lv1_len (s : Int) (x : GLock) : (lv1 s x).length ≤ 1 := by unfold lv1; split <;> (try split) <;> simp
theorem tl1_len (s : Int) (x : GLock) : (tl1 s x).length ≤ 1 := by unfold tl1; split <;> (try split) <;> (try split) <;> simp
theorem p_iAll_L1 (s : Int) : ∀ (xs P : List GLock) (told : List GTold), RisL (P ++ xs) → OkQ (P ++ xs) → (P ++ xs).length ≤ 6 → told.length + xs.length ≤ 100 → impl_LeaveAll_L1 s xs (P ++ xs) told = some (P ++ xs.flatMap (lv1 s), told ++ xs.flatMap (tl1 s))
  | [], P, told, _, _, _, _ => by rw [impl_LeaveAll_L1]; simp
  | x :: xs, P, told, hr, hq, hl, ht => by
    simp only [List.length_cons] at ht
    have hx : (P ++ x :: xs)[P.length]? = some x := by rw [List.getElem?_append_right (Nat.le_refl _), Nat.sub_self]; rfl
    obtain ⟨k, e, hk⟩ := p_lockAtV (P ++ x :: xs) x.Name hr (by omega)
    have hkk := hk.unique (plc_mid hr)
    subst hkk
    have q0 := hq x (by simp)
    have h1 := lv1_len s x
    have h2 := tl1_len s x
    have hlen : (P ++ lv1 s x ++ xs).length ≤ 6 := by simp only [List.length_append, List.length_cons] at hl ⊢; omega
    rw [impl_LeaveAll_L1, e, Option.bind_some, p_ContainsI, Option.bind_some]
    by_cases hc : x.Queue.contains s = true
    · have hm := leaveM_mid P xs x s hc
      rw [if_pos hc, p_leave hx q0.2.2 (by omega) (by omega), Option.bind_some, hm, if_pos (by simp; omega)]
      have := p_iAll_L1 s xs (P ++ lv1 s x) (told ++ tl1 s x) (hr.step s) (okQ_step s hq) hlen (by simp; omega)
      simp only [List.flatMap_cons]
      rw [← List.append_assoc, ← List.append_assoc, ← List.append_assoc]
      exact this
    · have e1 : lv1 s x = [x] := by unfold lv1; rw [if_neg hc]
      have e2 : tl1 s x = [] := by unfold tl1; rw [if_neg hc]
      have := p_iAll_L1 s xs (P ++ lv1 s x) told (hr.step s) (okQ_step s hq) hlen (by omega)
      rw [if_neg hc]
      simp only [List.flatMap_cons, e1, e2, List.append_assoc, List.singleton_append, List.nil_append] at this ⊢
      exact this
theorem p_sAll_L1 (s : Int) : ∀ (xs P : List GLock) (told : List GTold), RisL (P ++ xs) → OkQ (P ++ xs) → (P ++ xs).length ≤ 6 → told.length + xs.length ≤ 100 → spec_l12All_L1 s xs told (P ++ xs) = some (told ++ xs.flatMap (tl1 s), P ++ xs.flatMap (lv1 s))
  | [], P, told, _, _, _, _ => by rw [spec_l12All_L1]; simp
  | x :: xs, P, told, hr, hq, hl, ht => by
    simp only [List.length_cons] at ht
    have hx : (P ++ x :: xs)[P.length]? = some x := by rw [List.getElem?_append_right (Nat.le_refl _), Nat.sub_self]; rfl
    have q0 := hq x (by simp)
    have h1 := lv1_len s x
    have h2 := tl1_len s x
    have hlen : (P ++ lv1 s x ++ xs).length ≤ 6 := by simp only [List.length_append, List.length_cons] at hl ⊢; omega
    have e := p_sLeave (s := s) hr (plc_mid hr) hl (fun y hy => by have := hq y hy; exact ⟨by omega, this.2.2⟩)
    rw [spec_l12All_L1, e, Option.bind_some]
    unfold lvM
    rw [hx]
    simp only [true_and]
    by_cases hc : x.Queue.contains s = true
    · have hm := leaveM_mid P xs x s hc
      rw [if_pos hc, hm]
      simp only
      rw [if_pos (by simp; omega)]
      have := p_sAll_L1 s xs (P ++ lv1 s x) (told ++ tl1 s x) (hr.step s) (okQ_step s hq) hlen (by simp; omega)
      simp only [List.flatMap_cons]
      rw [← List.append_assoc, ← List.append_assoc, ← List.append_assoc]
      exact this
    · have e1 : lv1 s x = [x] := by unfold lv1; rw [if_neg hc]
      have e2 : tl1 s x = [] := by unfold tl1; rw [if_neg hc]
      have := p_sAll_L1 s xs (P ++ lv1 s x) told (hr.step s) (okQ_step s hq) hlen (by omega)
      rw [if_neg hc]
      simp only [List.append_nil]
      rw [if_pos (by omega)]
      simp only [List.flatMap_cons, e1, e2, List.append_assoc, List.singleton_append, List.nil_append] at this ⊢
      exact this
theorem flat_len {α β : Type} (f : α → List β) (h : ∀ x, (f x).length ≤ 1) : ∀ l : List α, (l.flatMap f).length ≤ l.length
  | [] => by simp
  | x :: l => by
    have := flat_len f h l
    have := h x
    simp only [List.flatMap_cons, List.length_append, List.length_cons]
    omega
theorem okQ_all {l : List GLock} (s : Int) (h : OkQ l) : OkQ (l.flatMap (lv1 s)) := by
  intro y hy
  obtain ⟨x, hx, hy⟩ := List.mem_flatMap.1 hy
  exact okQ_lv1 s (h x hx) y hy
theorem toldS_sm : ∀ {l : List GTold}, (∀ x ∈ l, x.Word.length ≤ 10 ∧ x.Name.length ≤ 40) → swToldS l ≤ 50 * l.length
  | [], _ => by simp [swToldS]
  | x :: l, h => by
    have h1 := toldS_sm (l := l) (fun y hy => h y (by simp [hy]))
    have h2 := h x (by simp)
    simp only [swToldS, wtTold, List.length_cons]
    omega
theorem tl1_sm {x : GLock} (s : Int) (h : x.Name.length ≤ 40) : ∀ y ∈ tl1 s x, y.Word.length ≤ 10 ∧ y.Name.length ≤ 40 := by
  intro y hy
  unfold tl1 at hy
  split at hy
  · split at hy
    · simp at hy
    · split at hy
      · simp only [List.mem_singleton] at hy
        subst hy
        exact ⟨by simp, h⟩
      · simp at hy
  · simp at hy
theorem okQ_of {l : List GLock} (h : locksB l = true) : OkQ l := by
  intro x hx
  have h1 := (locks_sm h).2.2 x hx
  have h2 := (locks_ne h x hx).2
  exact ⟨h1.1, h1.2, h2⟩
/-- what both ways come to -/
theorem p_LeaveAll_ok (l : List GLock) (s : Int) (hl : l.length ≤ maxLen) (hc : lcodeI l s [120] = 0) : impl_LeaveAll l s = some (l.flatMap (lv1 s), l.flatMap (tl1 s), 0) ∧ spec_LeaveAll l s = some (l.flatMap (lv1 s), l.flatMap (tl1 s), 0) := by
  obtain ⟨g1, g2, g3, g4⟩ := lcodeI_0 hc
  obtain ⟨k1, k2, k3⟩ := locks_sm g1
  have hq : ∀ x ∈ l, x.Queue.length ≤ 100 := fun x hx => by have := (k3 x hx).2; omega
  have n1 : decide ((l.length : Int) > 4096) = false := decide_eq_false (by omega)
  have hc0 : (lcodeI l s [120] != 0) = false := by simp [hc]
  have e1 := p_iAll_L1 s l [] [] k1 (okQ_of g1) k2 (by simp; omega)
  have e2 := p_sAll_L1 s l [] [] k1 (okQ_of g1) k2 (by simp; omega)
  simp only [List.nil_append] at e1 e2
  constructor
  · unfold impl_LeaveAll
    rw [p_sessionCode l s hl, Option.bind_some, hc0, if_neg (by simp), p_copyLocks l (by omega) hq, Option.bind_some, e1]
    rfl
  · unfold spec_LeaveAll spec_l12All
    rw [n1, if_neg (by simp), p_l12Ask l s _ hl, Option.bind_some, hc0, if_neg (by simp), p_l12Own l (by omega) hq, Option.bind_some, e2]
    rfl
theorem p_LeaveAll (l : List GLock) (s : Int) (hl : l.length ≤ maxLen) : ∃ r b c, impl_LeaveAll l s = some (r, b, c) ∧ spec_LeaveAll l s = some (r, b, c) ∧ wtLockS r ≤ 1000 ∧ wtToldS b ≤ 1000 := by
  have w0 : wtLockS [] ≤ 1000 := by simp [wtLockS, swLockS]
  have w1 : wtToldS [] ≤ 1000 := by simp [wtToldS, swToldS]
  by_cases hc : lcodeI l s [120] = 0
  · obtain ⟨e1, e2⟩ := p_LeaveAll_ok l s hl hc
    obtain ⟨g1, _⟩ := lcodeI_0 hc
    have hk := (locks_sm g1).2.1
    have h1 := flat_len (lv1 s) (lv1_len s) l
    have h2 := flat_len (tl1 s) (tl1_len s) l
    refine ⟨_, _, _, e1, e2, smLk ⟨by omega, fun x hx => ?_⟩, ?_⟩
    · have := okQ_all s (okQ_of g1) x hx
      omega
    · have := toldS_sm (l := l.flatMap (tl1 s)) (fun y hy => by
        obtain ⟨x, hx, hy⟩ := List.mem_flatMap.1 hy
        exact tl1_sm s (okQ_of g1 x hx).1 y hy)
      unfold wtToldS
      omega
  · refine ⟨[], [], lcodeI l s [120], ?_, ?_, w0, w1⟩
    · unfold impl_LeaveAll
      rw [p_sessionCode l s hl]
      simp [hc]
    · unfold spec_LeaveAll
      rw [p_l12Ask l s _ hl]
      by_cases h1 : (l.length : Int) > 4096
      · have : lcodeI l s [120] = 2 := by unfold lcodeI; simp [h1]
        simp [h1, this]
      · simp [h1, hc]
theorem law_FnExactLeaveAll (l : List GLock) (s : Int) (h : okL okGLock l) (hs : okI .i64 s) : laws_FnExactLeaveAll l s = some true := by
  unfold laws_FnExactLeaveAll
  obtain ⟨r, e, hr⟩ := p_szLockS l 1048576 (by omega) (by omega) h
  rw [e, Option.bind_some]
  by_cases hn : decide (r < 0) = true
  · rw [if_pos hn]
  · rw [if_neg hn]
    simp only [decide_eq_true_eq] at hn
    obtain ⟨h1, h2⟩ := hr.resolve_left hn
    have hw : wtLockS l ≤ 1048576 := by omega
    have et := p_toLockS l (by omega)
    obtain ⟨o, b, c, e1, e2, k1, k2⟩ := p_LeaveAll l s h.1
    have q1 := cnt_wtLockS l
    have m1 := p_markLockS l 1 (fit_wtLockS l (by omega)) (by omega) (by omega)
    have q2 := cnt_wtLockS o
    have q3 := cnt_wtToldS b
    have m2 := p_markLockS o 1 (fit_wtLockS o (by omega)) (by omega) (by omega)
    have m3 := p_heldLockS o 1 (fit_wtLockS o (by omega)) (by omega) (by omega)
    have m4 := p_markToldS b (1 + (cntLockS o : Nat)) (fit_wtToldS b (by omega)) (by omega) (by omega)
    have m5 := p_heldToldS b (1 + (cntLockS o : Nat)) (fit_wtToldS b (by omega)) (by omega) (by omega)
    have n1 : decide ((1 : Int) + (cntLockS l : Nat) < 0) = false := decide_eq_false (by omega)
    have n2 : decide ((1 : Int) + (cntLockS o : Nat) < 0) = false := decide_eq_false (by omega)
    have n3 : decide ((1 : Int) + (cntLockS o : Nat) + (cntToldS b : Nat) < 0) = false := decide_eq_false (by omega)
    simp only [et, Option.bind_some, e1, e2, p_eqLockS, p_eqToldS, m1, m2, m3, m4, m5, n1, n2, n3, Bool.not_true, Bool.false_eq_true, if_false, bne_self_eq_false, cond_false]
end Go.R
