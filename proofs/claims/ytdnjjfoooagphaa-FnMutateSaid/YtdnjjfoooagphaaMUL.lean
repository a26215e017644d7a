/- Plain laws of what this statement reaches. -/
import Derived.Test.YtdnjjfoooagphaaMUH
import Derived.Test.YtdnjjfoooagphaaP0
set_option linter.all false
namespace Go.R
open Go
set_option linter.all false
theorem p_slices_IndexFunc_string_string_L1 (f : Str → Option Bool) (p : Str → Bool) : ∀ (xs : List Str) (i : Nat), (∀ x ∈ xs, f x = some (p x)) → slices_IndexFunc_string_string_L1 f xs i = some (match xs.findIdx? p with | some k => .ret ((i + k : Nat) : Int) | none => .go ())
  | [], i, _ => by rw [slices_IndexFunc_string_string_L1]; rfl
  | x :: xs, i, h => by
    rw [slices_IndexFunc_string_string_L1, h x (by simp), Option.bind_some, p_slices_IndexFunc_string_string_L1 f p xs (i + 1) (fun y hy => h y (by simp [hy])), List.findIdx?_cons]
    cases hp : p x with
    | true => simp
    | false =>
      cases hq : xs.findIdx? p with
      | none => simp
      | some k => simp; omega
theorem p_slices_IndexFunc_string_string (f : Str → Option Bool) (p : Str → Bool) (xs : List Str) (h : ∀ x ∈ xs, f x = some (p x)) : slices_IndexFunc_string_string xs f = some (match xs.findIdx? p with | some k => (k : Int) | none => -1) := by
  unfold slices_IndexFunc_string_string
  rw [p_slices_IndexFunc_string_string_L1 f p xs 0 h]
  cases hq : xs.findIdx? p with
  | none => rfl
  | some k => simp
theorem p_slices_ContainsFunc_string_string (f : Str → Option Bool) (p : Str → Bool) (xs : List Str) (h : ∀ x ∈ xs, f x = some (p x)) : slices_ContainsFunc_string_string xs f = some (xs.any p) := by
  unfold slices_ContainsFunc_string_string
  rw [p_slices_IndexFunc_string_string f p xs h, Option.bind_some]
  cases hq : xs.findIdx? p with
  | none =>
    have : xs.any p = false := by
      rw [List.any_eq_false]
      intro x hx
      have := List.findIdx?_eq_none_iff.1 hq x hx
      simp [this]
    rw [this]; rfl
  | some k =>
    have : xs.any p = true := by
      obtain ⟨x, hx, hp⟩ : ∃ x, x ∈ xs ∧ p x = true := by
        have := List.findIdx?_eq_some_iff_getElem.1 hq
        obtain ⟨hk, h1, _⟩ := this
        exact ⟨xs[k], List.getElem_mem _, h1⟩
      exact List.any_eq_true.2 ⟨x, hx, hp⟩
    rw [this]
    simp
def charB (c : UInt8) : Bool := !(decide ((c.toNat : Int) < 32) || decide ((c.toNat : Int) > 126))
def textB (t : Str) : Bool := t.all charB && decide ((t.length : Int) ≤ 200)
theorem p_plain_L1 : ∀ t : Str, impl_isPlain_L1 t = some (if t.all charB = true then .go () else .ret false)
  | [] => by rw [impl_isPlain_L1]; simp
  | x :: xs => by
    rw [impl_isPlain_L1, p_plain_L1 xs]
    by_cases h1 : (x.toNat : Int) < 32
    · simp [h1, charB]
    · by_cases h2 : (x.toNat : Int) > 126
      · simp [h1, h2, charB]
      · simp [h1, h2, charB]
theorem p_plain (t : Str) : impl_isPlain t = some (textB t) := by
  unfold impl_isPlain textB
  rw [p_plain_L1]
  by_cases h : t.all charB = true
  · simp only [h, if_pos, Option.bind_some, Bool.true_and]
  · simp only [h, Bool.not_eq_true] at h ⊢
    simp [h]
theorem p_within (n a b : Int) : impl_within n a b = some (decide (a ≤ n ∧ n ≤ b)) := by
  unfold impl_within
  by_cases h : a ≤ n <;> simp [h]
theorem cmpB_range : ∀ a b : Str, Lib.compareBytes a b = -1 ∨ Lib.compareBytes a b = 0 ∨ Lib.compareBytes a b = 1
  | [], [] => by simp [Lib.compareBytes]
  | [], _ :: _ => by simp [Lib.compareBytes]
  | _ :: _, [] => by simp [Lib.compareBytes]
  | a :: xs, b :: ys => by
    have := cmpB_range xs ys
    unfold Lib.compareBytes
    split
    · simp
    · split
      · simp
      · exact this
theorem u8_tri (a b : UInt8) : a < b ∨ a = b ∨ b < a := by
  simp only [UInt8.lt_iff_toNat_lt, ← UInt8.toNat_inj]
  omega
theorem u8_asym {a b : UInt8} (h : a < b) : ¬ b < a := by
  simp only [UInt8.lt_iff_toNat_lt] at *
  omega
theorem cmpB_anti : ∀ a b : Str, Lib.compareBytes b a = - Lib.compareBytes a b
  | [], [] => by simp [Lib.compareBytes]
  | [], _ :: _ => by simp [Lib.compareBytes]
  | _ :: _, [] => by simp [Lib.compareBytes]
  | a :: xs, b :: ys => by
    have ih := cmpB_anti xs ys
    unfold Lib.compareBytes
    rcases u8_tri a b with h | h | h
    · simp [h, u8_asym h]
    · subst h; simp [UInt8.lt_irrefl, ih]
    · simp [h, u8_asym h]
theorem cmpB_zero : ∀ a b : Str, Lib.compareBytes a b = 0 ↔ a = b
  | [], [] => by simp [Lib.compareBytes]
  | [], _ :: _ => by simp [Lib.compareBytes]
  | _ :: _, [] => by simp [Lib.compareBytes]
  | a :: xs, b :: ys => by
    have ih := cmpB_zero xs ys
    unfold Lib.compareBytes
    rcases u8_tri a b with h | h | h
    · have hne : a ≠ b := by rintro rfl; exact UInt8.lt_irrefl _ h
      simp [h, hne]
    · subst h; simp [UInt8.lt_irrefl, ih]
    · have hne : a ≠ b := by rintro rfl; exact UInt8.lt_irrefl _ h
      simp [h, u8_asym h, hne]
theorem cmpB_less : ∀ a b : Str, Op.bytesLess a b = decide (Lib.compareBytes a b < 0)
  | [], [] => by simp [Lib.compareBytes, Op.bytesLess]
  | [], _ :: _ => by simp [Lib.compareBytes, Op.bytesLess]
  | _ :: _, [] => by simp [Lib.compareBytes, Op.bytesLess]
  | a :: xs, b :: ys => by
    have ih := cmpB_less xs ys
    unfold Lib.compareBytes Op.bytesLess
    rcases u8_tri a b with h | h | h
    · simp [h]
    · subst h; simp [UInt8.lt_irrefl, ih]
    · have hne : ¬ a = b := by rintro rfl; exact UInt8.lt_irrefl _ h
      simp [h, u8_asym h, hne]
def ordA (a b : GAtom) : Int := if a.Kind ≠ b.Kind then (if a.Kind < b.Kind then -1 else 1) else if a.N ≠ b.N then (if a.N < b.N then -1 else 1) else Lib.compareBytes a.T b.T
theorem ordA_zero (a b : GAtom) : ordA a b = 0 ↔ a = b := by
  unfold ordA
  cases a with | mk k n t =>
  cases b with | mk k' n' t' =>
  simp only [GAtom.mk.injEq]
  by_cases h1 : k = k'
  · subst h1
    by_cases h2 : n = n'
    · subst h2; simp [cmpB_zero]
    · simp [h2]; split <;> omega
  · simp [h1]; split <;> omega
theorem ordA_anti (a b : GAtom) : ordA b a = - ordA a b := by
  unfold ordA
  cases a with | mk k n t =>
  cases b with | mk k' n' t' =>
  by_cases h1 : k = k'
  · subst h1
    by_cases h2 : n = n'
    · subst h2; simp [cmpB_anti t t']
    · have h3 : ¬ n' = n := fun h => h2 h.symm
      simp [h2, h3]; split <;> split <;> omega
  · have h3 : ¬ k' = k := fun h => h1 h.symm
    simp [h1, h3]; split <;> split <;> omega
theorem p_cmpInt (x y : Int) : cmp_Compare_int x y = some (if x < y then -1 else if x > y then 1 else 0) := by
  unfold cmp_Compare_int cmp_isNaN_int
  by_cases h1 : x < y <;> by_cases h2 : x > y <;> simp [h1, h2]
theorem p_compareAtoms (a b : GAtom) : impl_compareAtoms a b = some (ordA a b) := by
  unfold impl_compareAtoms strings_Compare internal_bytealg_CompareString cmp_Or_int
  simp only [p_cmpInt, Option.bind_some]
  unfold ordA
  by_cases h1 : a.Kind = b.Kind
  · by_cases h2 : a.N = b.N
    · have e1 : (if a.Kind < b.Kind then (-1 : Int) else if a.Kind > b.Kind then 1 else 0) = 0 := by rw [h1]; simp
      have e2 : (if a.N < b.N then (-1 : Int) else if a.N > b.N then 1 else 0) = 0 := by rw [h2]; simp
      rw [e1, e2]
      simp only [cmp_Or_int_L1, h1, h2]
      by_cases h3 : Lib.compareBytes a.T b.T = 0
      · simp [h3]
      · simp [h3]
    · have e1 : (if a.Kind < b.Kind then (-1 : Int) else if a.Kind > b.Kind then 1 else 0) = 0 := by rw [h1]; simp
      rw [e1]
      rcases Int.lt_or_gt_of_ne h2 with h3 | h3
      · simp [cmp_Or_int_L1, h1, h2, h3]
      · have h4 : ¬ a.N < b.N := by omega
        simp [cmp_Or_int_L1, h1, h2, h3, h4]
  · rcases Int.lt_or_gt_of_ne h1 with h3 | h3
    · simp [cmp_Or_int_L1, h1, h3]
    · have h4 : ¬ a.Kind < b.Kind := by omega
      simp [cmp_Or_int_L1, h1, h3, h4]
theorem p_Order (a b : GAtom) : spec_l03Order a b = some (ordA a b) := by
  unfold spec_l03Order spec_l01Bit ordA
  have w0 : w64 (1 - w64 0) = 1 := by decide
  have w1 : w64 (1 - w64 2) = -1 := by decide
  by_cases h1 : a.Kind = b.Kind
  · by_cases h2 : a.N = b.N
    · simp only [h1, h2, bne_self_eq_false, Bool.false_eq_true, if_false, ne_eq, not_true_eq_false, cmpB_less]
      by_cases h3 : a.T = b.T
      · simp [h3, (cmpB_zero b.T b.T).2 rfl]
      · have hne : Lib.compareBytes a.T b.T ≠ 0 := fun h => h3 ((cmpB_zero _ _).1 h)
        rcases cmpB_range a.T b.T with h | h | h
        · simp [h3, h, w1]
        · exact absurd h hne
        · simp [h3, h, w0]
    · by_cases h3 : a.N < b.N <;> simp [h1, h2, h3, w0, w1]
  · by_cases h3 : a.Kind < b.Kind <;> simp [h1, h3, w0, w1]
def atomB (a : GAtom) : Bool :=
  (decide (a.Kind = 1) && decide (-1000000000 ≤ a.N ∧ a.N ≤ 1000000000) && decide (a.T = [])) ||
  (decide (a.Kind = 2) && decide (a.N = 0) && textB a.T) ||
  (decide (a.Kind = 3) && decide (0 ≤ a.N ∧ a.N ≤ 1) && decide (a.T = [])) ||
  (decide (a.Kind = 4) && decide (1 ≤ a.N ∧ a.N ≤ 1000000) && decide (a.T = []))
theorem p_AtomOK (a : GAtom) : impl_AtomOK a = some (atomB a) := by
  unfold impl_AtomOK impl_isNumber impl_isId atomB
  simp only [p_within, p_plain, Option.bind_some]
  by_cases h1 : a.Kind = 1
  · simp only [h1]
    by_cases c : (-1000000000 ≤ a.N ∧ a.N ≤ 1000000000) <;> by_cases d : a.T = [] <;> simp [c, d]
  by_cases h2 : a.Kind = 2
  · simp only [h2]
    by_cases c : a.N = 0 <;> simp [c]
  by_cases h3 : a.Kind = 3
  · simp only [h3]
    by_cases c : (0 ≤ a.N ∧ a.N ≤ 1) <;> by_cases d : a.T = [] <;> simp [c, d]
  by_cases h4 : a.Kind = 4
  · simp only [h4]
    by_cases c : (1 ≤ a.N ∧ a.N ≤ 1000000) <;> by_cases d : a.T = [] <;> simp [c, d]
  · simp [h1, h2, h3, h4]
def stepB (d : List GAtom) (q : Nat) (x : GAtom) : Bool :=
  atomB x && (match d[0]? with | some h => x.Kind == h.Kind | none => false) && (q == 0 || match d[q - 1]? with | some y => decide (ordA y x < 0) | none => false)
def allS (d : List GAtom) : List GAtom → Nat → Bool
  | [], _ => true
  | x :: xs, i => stepB d i x && allS d xs (i + 1)
def datB (d : List GAtom) : Bool := allS d d 0 && decide ((d.length : Int) ≤ 8)
theorem allS_iff (d : List GAtom) : ∀ (xs : List GAtom) (i : Nat), allS d xs i = true ↔ ∀ q x, xs[q]? = some x → stepB d (i + q) x = true
  | [], i => by simp [allS]
  | x :: xs, i => by
    simp only [allS, Bool.and_eq_true, allS_iff d xs (i + 1)]
    constructor
    · rintro ⟨h1, h2⟩ q y hq
      cases q with
      | zero => simp at hq; subst hq; simpa using h1
      | succ q => have := h2 q y (by simpa using hq); rw [show i + (q + 1) = i + 1 + q from by omega]; exact this
    · intro h
      refine ⟨by simpa using h 0 x (by simp), fun q y hq => ?_⟩
      have := h (q + 1) y (by simpa using hq)
      rw [show i + 1 + q = i + (q + 1) from by omega]; exact this
theorem p_step (d : List GAtom) (i : Nat) (x : GAtom) (hi : i < d.length) (hl : d.length ≤ maxLen) (A : GAtom → Option Bool) (hA : ∀ a, A a = some (atomB a)) (O : GAtom → GAtom → Option Int) (hO : ∀ a b, O a b = some (ordA a b)) :
    ((A x).bind fun r_110 =>
    if (!r_110) then
    some true
    else
    (idx d 0).bind fun x_113 =>
    if (x.Kind != x_113.Kind) then
    some true
    else
    if (decide ((i : Int) > 0)) then
    (idx d (w64 ((i : Int) - 1))).bind fun x_117 =>
    (O x_117 x).bind fun r_119 =>
    some (decide (r_119 ≥ 0))
    else
    some false : Option Bool) = some (!stepB d i x) := by
  simp only [maxLen] at hl
  obtain ⟨h, hh⟩ : ∃ h, d[0]? = some h := ⟨d[0], List.getElem?_eq_getElem (by omega)⟩
  have e0 : idx d 0 = some h := by rw [show (0 : Int) = ((0 : Nat) : Int) from rfl, idx_nat, hh]
  rw [hA, Option.bind_some, e0]
  unfold stepB
  rw [hh]
  by_cases ha : atomB x = true
  · by_cases hk : x.Kind = h.Kind
    · by_cases h0 : i = 0
      · subst h0; simp [ha, hk]
      · obtain ⟨y, hy⟩ : ∃ y, d[i - 1]? = some y := ⟨d[i - 1], List.getElem?_eq_getElem (by omega)⟩
        have e1 : w64 ((i : Int) - 1) = ((i - 1 : Nat) : Int) := by rw [w64_id (by omega)]; omega
        rw [e1, idx_nat, hy]
        have hp : 0 < i := by omega
        simp [ha, hk, h0, hO, hp]
        by_cases hc : ordA y x < 0
        · have : ¬ 0 ≤ ordA y x := by omega
          simp [hc, this, h0]
        · have : 0 ≤ ordA y x := by omega
          simp [hc, this, h0]
    · simp [ha, hk]
  · simp only [Bool.not_eq_true] at ha
    simp [ha]
theorem p_DatumOK_L1 (d : List GAtom) (hl : d.length ≤ maxLen) : ∀ (xs : List GAtom) (i : Nat), d.drop i = xs → impl_DatumOK_L1 d xs i = some (if allS d xs i = true then .go () else .ret false)
  | [], i, h => by rw [impl_DatumOK_L1]; simp [allS]
  | x :: xs, i, h => by
    rw [impl_DatumOK_L1, p_step d i x (drop_lt h) hl impl_AtomOK p_AtomOK impl_compareAtoms p_compareAtoms, Option.bind_some, p_DatumOK_L1 d hl xs (i + 1) (drop_next h)]
    cases hs : stepB d i x <;> simp [allS, hs]
theorem p_DatumOK (d : List GAtom) (hl : d.length ≤ maxLen) : impl_DatumOK d = some (datB d) := by
  unfold impl_DatumOK datB
  rw [p_DatumOK_L1 d hl d 0 (by simp)]
  cases allS d d 0 <;> simp
/-- right atoms of one kind, in their order -/
structure SortD (k : Int) (d : List GAtom) : Prop where
  atom : ∀ x ∈ d, atomB x = true ∧ x.Kind = k
  ord : ∀ i x y, d[i]? = some x → d[i + 1]? = some y → ordA x y < 0
theorem SortD.allS {k : Int} {d : List GAtom} (h : SortD k d) : allS d d 0 = true := by
  rw [allS_iff]
  intro q x hq
  obtain ⟨h1, h2⟩ := h.atom x (List.mem_of_getElem? hq)
  have hlt := (List.getElem?_eq_some_iff.1 hq).1
  obtain ⟨z, hz⟩ : ∃ z, d[0]? = some z := ⟨d[0], List.getElem?_eq_getElem (by omega)⟩
  obtain ⟨_, g2⟩ := h.atom z (List.mem_of_getElem? hz)
  unfold stepB
  simp only [Nat.zero_add, h1, hz, h2, g2, Bool.true_and, beq_self_eq_true]
  by_cases h0 : q = 0
  · simp [h0]
  · obtain ⟨y, hy⟩ : ∃ y, d[q - 1]? = some y := ⟨d[q - 1], List.getElem?_eq_getElem (by omega)⟩
    have := h.ord (q - 1) y x hy (by rw [show q - 1 + 1 = q from by omega]; exact hq)
    simp [hy, this]
def isLet (c : Int) : Bool := (decide (97 ≤ c) && decide (c ≤ 122)) || (decide (65 ≤ c) && decide (c ≤ 90)) || c == 95
def isDig (c : Int) : Bool := decide (48 ≤ c) && decide (c ≤ 57)
theorem p_isDigit (c : Int) : impl_isDigit c = some (isDig c) := by
  unfold impl_isDigit isDig
  by_cases h1 : 48 ≤ c <;> simp [h1]
def isWordC (b : UInt8) : Bool := isLet b.toNat || isDig b.toNat
def nameOK (t : Str) : Bool := decide (1 ≤ t.length) && decide (t.length ≤ 40) && isLet (t.headD 0).toNat && (t.drop 1).all isWordC
def nameC (p : UInt8 × Nat) : Bool := isLet p.1.toNat || (p.2 != 0 && isDig p.1.toNat)
theorem p_NameOK_L1 : ∀ (t : Str) (i : Nat), impl_NameOK_L1 t i = some (if (t.zipIdx i).all nameC then .go () else .ret false)
  | [], i => by rw [impl_NameOK_L1]; rfl
  | c :: t, i => by
    have e0 : ((i : Int) == 0) = (i == 0) := by cases i <;> simp; omega
    rw [impl_NameOK_L1, p_NameOK_L1 t (i + 1), List.zipIdx_cons, List.all_cons, p_isDigit, e0]
    unfold nameC isLet
    generalize (List.zipIdx t (i + 1)).all _ = A
    generalize isDig (c.toNat : Int) = D
    generalize (c.toNat : Int) = n
    by_cases h1 : 97 ≤ n <;> by_cases h2 : n ≤ 122 <;> by_cases h3 : 65 ≤ n <;> by_cases h4 : n ≤ 90 <;> by_cases h5 : n = 95 <;> cases D <;> by_cases h0 : i = 0 <;> simp [h1, h2, h3, h4, h5, h0]
theorem p_NameOK (t : Str) : impl_NameOK t = some (nameOK t) := by
  unfold impl_NameOK nameOK
  rw [p_NameOK_L1, Option.bind_some]
  have hz : ∀ (r : Str) (k : Nat), (r.zipIdx (k + 1)).all nameC = r.all isWordC := by
    intro r
    induction r with
    | nil => intro k; rfl
    | cons c r ih => intro k; simp only [List.zipIdx_cons, List.all_cons, ih (k + 1)]; rfl
  cases t with
  | nil => simp [p_within]
  | cons c t =>
    rw [List.zipIdx_cons, List.all_cons, hz t 0]
    have hl : decide (1 ≤ (c :: t).length) = true := decide_eq_true (by simp)
    have e : nameC (c, 0) = isLet (c.toNat : Int) := by simp [nameC]
    rw [e, hl, p_within, Bool.decide_and]
    have e2 : decide ((1 : Int) ≤ ((c :: t).length : Int)) = true := decide_eq_true (by simp only [List.length_cons]; omega)
    have e3 : decide (((c :: t).length : Int) ≤ 40) = decide ((c :: t).length ≤ 40) := by rw [decide_eq_decide]; omega
    rw [e2, e3]
    show _ = some ((true && _ && isLet (c.toNat : Int)) && t.all isWordC)
    cases isLet (c.toNat : Int) <;> cases t.all isWordC <;> simp
def shortB (t : Str) : Bool := decide ((t.length : Int) ≤ 40)
theorem p_areShort (l : List Str) : impl_areShort l = some (l.all shortB) := by
  unfold impl_areShort
  rw [p_slices_ContainsFunc_string_string _ (fun t => !shortB t) l (fun x _ => by unfold impl_areShort_1 shortB; congr 1; rw [Bool.eq_iff_iff]; simp), Option.bind_some, List.not_any_eq_all_not]
  simp
def mutB (c : GMut) : Bool := decide (1 ≤ c.Func ∧ c.Func ≤ 7) && datB c.Value && shortB c.Column
theorem p_mutOK (c : GMut) (h : c.Value.length ≤ maxLen) : impl_mutOK c = some (mutB c) := by
  unfold impl_mutOK mutB
  rw [p_within, Option.bind_some, p_DatumOK _ h, Option.bind_some, p_areShort, Option.bind_some]
  by_cases h1 : (1 ≤ c.Func ∧ c.Func ≤ 7) <;> cases h2 : datB c.Value <;> simp [h1]
theorem beqD {α : Type} [BEq α] [LawfulBEq α] [DecidableEq α] (a b : α) : (a == b) = decide (a = b) := by by_cases h : a = b <;> simp [h]
def colB (c : GColumn) : Bool :=
  nameOK c.Name && decide (0 ≤ c.Min ∧ c.Min ≤ 1) && decide (1 ≤ c.Max ∧ c.Max ≤ 8) &&
  ((decide (c.Kind = 1) && decide (-1000000000 ≤ c.Low ∧ c.Low ≤ c.High ∧ c.High ≤ 1000000000) && decide (c.Ref = []) && !c.Strong) ||
   ((decide (c.Kind = 2) || decide (c.Kind = 3)) && decide (c.Low = 0) && decide (c.High = 0) && decide (c.Ref = []) && !c.Strong) ||
   (decide (c.Kind = 4) && decide (c.Low = 0) && decide (c.High = 0) && nameOK c.Ref && decide (c.Min = 0)))
theorem p_ColumnOK (c : GColumn) : impl_ColumnOK c = some (colB c) := by
  unfold impl_ColumnOK impl_isNumber colB
  simp only [p_NameOK, p_within, Option.bind_some, beqD]
  by_cases h1 : 0 ≤ c.Min ∧ c.Min ≤ 1
  · by_cases h2 : 1 ≤ c.Max ∧ c.Max ≤ 8
    · cases hn : nameOK c.Name with
      | false => simp
      | true =>
        simp only [h1, h2, and_self, decide_true, Bool.not_true, Bool.false_eq_true, if_false, Option.bind_some, Bool.true_and]
        by_cases k1 : c.Kind = 1
        · simp only [k1]
          by_cases a1 : -1000000000 ≤ c.Low ∧ c.Low ≤ c.High ∧ c.High ≤ 1000000000
          · have e1 : -1000000000 ≤ c.Low ∧ c.Low ≤ 1000000000 := by omega
            have e2 : -1000000000 ≤ c.High ∧ c.High ≤ 1000000000 := by omega
            simp [a1, e1, e2]
          · by_cases e1 : -1000000000 ≤ c.Low ∧ c.Low ≤ 1000000000
            · by_cases e2 : -1000000000 ≤ c.High ∧ c.High ≤ 1000000000
              · have e3 : ¬ c.Low ≤ c.High := by omega
                simp [a1, e1, e2, e3]
              · have a1' : ¬ (c.Low ≤ c.High ∧ c.High ≤ 1000000000) := by omega
                simp [e1, e2]
                intro p q; exact absurd ⟨p, q⟩ a1'
            · have a2 : (-1000000000 ≤ c.Low ∧ c.Low ≤ c.High ∧ c.High ≤ 1000000000) = False := eq_false a1
              simp only [e1, a2]; simp
        · by_cases k2 : c.Kind = 2
          · simp [k2]
          · by_cases k3 : c.Kind = 3
            · simp [k3]
            · by_cases k4 : c.Kind = 4
              · simp only [k4]
                by_cases a1 : c.Low = 0 <;> by_cases a2 : c.High = 0 <;> cases a3 : nameOK c.Ref <;> simp [a1, a2]
              · simp [k1, k2, k3, k4]
    · cases hn : nameOK c.Name <;> simp [h1, h2]
  · cases hn : nameOK c.Name <;> simp [h1]
structure SrcOK (s : GL00Src) : Prop where
  code : ∀ x ∈ s.Code, 0 ≤ x ∧ x < 256
  len : (s.Code.length : Int) ≤ 1048576
  at0 : 0 ≤ s.At
  seed : 0 ≤ s.Seed ∧ s.Seed < 2147483648
/-- s' comes behind s, of at most k bytes more -/
structure Nx (s s' : GL00Src) (k : Int) : Prop where
  ok : SrcOK s'
  lo : s.At ≤ s'.At
  hi : s'.At ≤ s.At + k
  code : s'.Code = s.Code
theorem Nx.refl {s : GL00Src} (h : SrcOK s) : Nx s s 0 := ⟨h, Int.le_refl _, by omega, rfl⟩
theorem Nx.mono {s s' : GL00Src} {k l : Int} (h : Nx s s' k) (hl : k ≤ l) : Nx s s' l := ⟨h.ok, h.lo, by have := h.hi; omega, h.code⟩
theorem Nx.trans {a b c : GL00Src} {k l : Int} (h : Nx a b k) (g : Nx b c l) : Nx a c (k + l) := ⟨g.ok, by have := h.lo; have := g.lo; omega, by have := h.hi; have := g.hi; omega, g.code.trans h.code⟩
theorem tmod_bd {a m : Int} (h : 0 ≤ a) (hm : 0 < m) : 0 ≤ a.tmod m ∧ a.tmod m < m := ⟨Int.tmod_nonneg _ h, Int.tmod_lt_of_pos _ hm⟩
theorem tdiv_bd {a m : Int} (h : 0 ≤ a) (hm : 0 < m) : a.tdiv m = a / m := by rw [Int.tdiv_eq_ediv_of_nonneg h]
theorem p_source (code : List Int) (hc : ∀ x ∈ code, 0 ≤ x ∧ x < 256) (hl : (code.length : Int) ≤ 1048576) : ∃ s, spec_l00Source code = some s ∧ SrcOK s ∧ s.At = 0 ∧ s.Code = code := by
  refine ⟨_, rfl, ⟨hc, hl, by simp, ?_⟩, rfl, rfl⟩
  have := tmod_bd (a := (code.length : Int)) (m := 1000) (by omega) (by omega)
  simp only; omega
theorem p_byte (s : GL00Src) (h : SrcOK s) (ha : s.At < 2 ^ 50) : ∃ b s', spec_l00Src_byte s = some (b, s') ∧ 0 ≤ b ∧ b < 256 ∧ Nx s s' 1 := by
  obtain ⟨h1, h2, h3, h4, h5⟩ := h
  unfold spec_l00Src_byte
  rw [w64_id (n := s.At + 1) (by omega)]
  by_cases c : s.At + 1 ≤ (s.Code.length : Int)
  · rw [if_pos (by simpa using c)]
    obtain ⟨n, hn⟩ : ∃ n : Nat, s.At = (n : Int) := ⟨s.At.toNat, by omega⟩
    have e1 : w64 (s.At + 1 - 1) = (n : Int) := by rw [w64_id (by omega)]; omega
    obtain ⟨x, hx⟩ : ∃ x, s.Code[n]? = some x := ⟨s.Code[n]'(by omega), List.getElem?_eq_getElem (by omega)⟩
    have hb := h1 x (List.mem_of_getElem? hx)
    rw [e1, idx_nat, hx, Option.bind_some, Option.bind_some, w64_id (n := x) (by omega), w64_id (n := s.Seed * 31) (by omega), w64_id (n := s.Seed * 31 + x) (by omega), w64_id (by omega)]
    have := tmod_bd (a := s.Seed * 31 + x + 7) (m := 2147483648) (by omega) (by omega)
    exact ⟨x, _, rfl, hb.1, hb.2, ⟨⟨h1, h2, by simp only; omega, this⟩, by simp only; omega, by simp only; omega, rfl⟩⟩
  · rw [if_neg (by simpa using c)]
    by_cases c2 : s.At + 1 > 3000
    · rw [if_pos (by simpa using c2)]
      exact ⟨0, _, rfl, by omega, by omega, ⟨⟨h1, h2, by simp only; omega, h4, h5⟩, by simp only; omega, by simp only; omega, rfl⟩⟩
    · rw [if_neg (by simpa using c2), w64_id (n := s.Seed * 1103515245) (by omega), w64_id (n := s.Seed * 1103515245 + 12345) (by omega)]
      have hs := tmod_bd (a := s.Seed * 1103515245 + 12345) (m := 2147483648) (by omega) (by omega)
      have hq := tdiv_bd (a := (s.Seed * 1103515245 + 12345).tmod 2147483648) (m := 65536) hs.1 (by omega)
      rw [hq]
      have : w64 ((s.Seed * 1103515245 + 12345).tmod 2147483648 / 65536) = (s.Seed * 1103515245 + 12345).tmod 2147483648 / 65536 := w64_id (by omega)
      rw [this]
      have hb := tmod_bd (a := (s.Seed * 1103515245 + 12345).tmod 2147483648 / 65536) (m := 256) (by omega) (by omega)
      exact ⟨_, _, rfl, hb.1, hb.2, ⟨⟨h1, h2, by simp only; omega, hs⟩, by simp only; omega, by simp only; omega, rfl⟩⟩
theorem p_next (n : Int) (s : GL00Src) (h : SrcOK s) (ha : s.At + 1 < 2 ^ 50) (h1 : 1 ≤ n) (h2 : n ≤ 256) : ∃ v s', spec_l00Src_next n s = some (v, s') ∧ 0 ≤ v ∧ v < n ∧ Nx s s' 1 := by
  unfold spec_l00Src_next
  by_cases c : n ≤ 1
  · rw [if_pos (by simpa using c)]
    exact ⟨0, s, rfl, by omega, by omega, (Nx.refl h).mono (by omega)⟩
  · rw [if_neg (by simpa using c), if_pos (by simpa using h2)]
    obtain ⟨b, s', e, g1, g2, g3⟩ := p_byte s h (by omega)
    rw [e, Option.bind_some, if_pos (by omega)]
    have := tmod_bd (a := b) (m := n) g1 (by omega)
    exact ⟨_, _, rfl, this.1, this.2, g3⟩
theorem p_srcpick (l : List Str) (s : GL00Src) (h : SrcOK s) (ha : s.At + 1 < 2 ^ 50) (h1 : 1 ≤ l.length) (h2 : l.length ≤ 256) : ∃ t s', spec_l00Src_pick l s = some (t, s') ∧ t ∈ l ∧ Nx s s' 1 := by
  unfold spec_l00Src_pick
  rw [if_neg (by simp; intro hh; rw [hh] at h1; simp at h1)]
  obtain ⟨v, s', e, g1, g2, g⟩ := p_next l.length s h ha (by omega) (by omega)
  rw [e, Option.bind_some]
  obtain ⟨m, rfl⟩ : ∃ m : Nat, v = (m : Int) := ⟨v.toNat, by omega⟩
  simp only
  obtain ⟨x, hx⟩ : ∃ x, l[m]? = some x := ⟨l[m]'(by omega), List.getElem?_eq_getElem (by omega)⟩
  rw [idx_nat, hx, Option.bind_some]
  exact ⟨x, s', rfl, List.mem_of_getElem? hx, g⟩
theorem atomEq (x y : GAtom) : (x.Kind == y.Kind && (x.N == y.N && (x.T == y.T && true))) = decide (x = y) := by
  cases x; cases y
  rw [Bool.eq_iff_iff]
  simp
theorem p_Has_L1 (a : GAtom) : ∀ d : List GAtom, spec_l03Has_L1 a d = some (if a ∈ d then .ret true else .go ())
  | [] => by rw [spec_l03Has_L1]; simp
  | x :: xs => by
    rw [spec_l03Has_L1, atomEq, p_Has_L1 a xs]
    by_cases h : x = a
    · subst h; simp
    · simp [h, Ne.symm h]
theorem p_Has (d : List GAtom) (a : GAtom) : spec_l03Has d a = some (decide (a ∈ d)) := by
  unfold spec_l03Has
  rw [p_Has_L1]
  by_cases h : a ∈ d <;> simp [h]
theorem p_Put_L1 (d : List GAtom) (a : GAtom) : ∀ (n k : Nat), n < k → n ≤ d.length → d.length ≤ 2 ^ 29 → ∃ m : Nat, spec_l03Put_L1 d a k n = some (m : Int) ∧ m ≤ n ∧ (∀ x, 0 < m → d[m - 1]? = some x → ordA x a ≤ 0) ∧ (∀ j x, m ≤ j → j < n → d[j]? = some x → 0 < ordA x a)
  | _, 0, h, _, _ => by omega
  | 0, k + 1, _, _, _ => by
    refine ⟨0, ?_, by omega, by omega, by omega⟩
    rw [spec_l03Put_L1, if_neg (by simp), Option.bind_some, if_neg (by simp)]
  | n + 1, k + 1, h, hn, hl => by
    obtain ⟨y, hy⟩ : ∃ y, d[n]? = some y := ⟨d[n], List.getElem?_eq_getElem (by omega)⟩
    have ew : w64 (((n + 1 : Nat) : Int) - 1) = (n : Int) := by rw [w64_id (by omega)]; omega
    rw [spec_l03Put_L1, if_pos (by simp), ew, idx_nat, hy, Option.bind_some, p_Order, Option.bind_some, Option.bind_some]
    by_cases hc : ordA y a > 0
    · rw [if_pos (by simpa using hc)]
      obtain ⟨m, e, h1, h2, h3⟩ := p_Put_L1 d a n k (by omega) (by omega) hl
      refine ⟨m, e, by omega, h2, fun j x hj1 hj2 hx => ?_⟩
      by_cases hjn : j = n
      · subst hjn; rw [hy] at hx; rw [← Option.some.inj hx]; exact hc
      · exact h3 j x hj1 (by omega) hx
    · rw [if_neg (by simpa using hc)]
      refine ⟨n + 1, rfl, by omega, fun x _ hx => ?_, by omega⟩
      rw [show n + 1 - 1 = n from by omega, hy] at hx
      rw [← Option.some.inj hx]; omega
theorem ins_get (d : List GAtom) (a : GAtom) (k i : Nat) (hk : k ≤ d.length) : (d.take k ++ a :: d.drop k)[i]? = if i < k then d[i]? else if i = k then some a else d[i - 1]? := by
  by_cases h1 : i < k
  · rw [if_pos h1, List.getElem?_append_left (by simp; omega), List.getElem?_take_of_lt h1]
  · rw [if_neg h1, List.getElem?_append_right (by simp; omega)]
    have hl : (d.take k).length = k := by simp; omega
    rw [hl]
    by_cases h2 : i = k
    · subst h2; simp
    · rw [if_neg h2, show i - k = (i - k - 1) + 1 from by omega, List.getElem?_cons_succ, List.getElem?_drop]
      congr 1; omega
theorem p_Put (k : Int) (d : List GAtom) (a : GAtom) (hs : SortD k d) (ha : atomB a = true) (hk : a.Kind = k) (hl : d.length < 2 ^ 29) : ∃ d', spec_l03Put d a = some d' ∧ SortD k d' ∧ (∀ x, x ∈ d' ↔ x = a ∨ x ∈ d) ∧ d'.length ≤ d.length + 1 := by
  have hf : 2 ^ 40 < FUEL := by unfold FUEL; decide
  unfold spec_l03Put
  rw [p_Has, Option.bind_some]
  by_cases hm : a ∈ d
  · rw [if_pos (by simpa using hm)]
    exact ⟨d, rfl, hs, fun x => ⟨.inr, fun h => h.elim (fun h => h ▸ hm) id⟩, by omega⟩
  · rw [if_neg (by simpa using hm)]
    obtain ⟨m, e, h1, h2, h3⟩ := p_Put_L1 d a d.length FUEL (by omega) (by omega) (by omega)
    rw [e, Option.bind_some, if_pos (by omega), if_pos (by omega), if_pos (by simp; omega), if_pos (by simp; omega), if_pos (by simp; omega)]
    simp only [List.nil_append, Int.toNat_natCast, List.append_assoc, List.cons_append, List.nil_append]
    refine ⟨_, rfl, ⟨?_, ?_⟩, ?_, by simp; omega⟩
    · intro x hx
      simp only [List.mem_append, List.mem_cons] at hx
      rcases hx with hx | rfl | hx
      · exact hs.atom x (List.mem_of_mem_take hx)
      · exact ⟨ha, hk⟩
      · exact hs.atom x (List.mem_of_mem_drop hx)
    · intro i x y hx hy
      rw [ins_get d a m i h1] at hx
      rw [ins_get d a m (i + 1) h1] at hy
      by_cases c1 : i + 1 < m
      · rw [if_pos (by omega)] at hx
        rw [if_pos c1] at hy
        exact hs.ord i x y hx hy
      · rw [if_neg c1] at hy
        by_cases c2 : i + 1 = m
        · rw [if_pos c2] at hy
          rw [if_pos (by omega)] at hx
          have e1 := Option.some.inj hy
          subst e1
          have := h2 x (by omega) (by rw [show m - 1 = i from by omega]; exact hx)
          have hne : ordA x a ≠ 0 := fun h => hm (by rw [← (ordA_zero x a).1 h]; exact List.mem_of_getElem? hx)
          omega
        · rw [if_neg c2] at hy
          rw [if_neg (by omega)] at hx
          by_cases c3 : i = m
          · rw [if_pos c3] at hx
            have e1 := Option.some.inj hx
            subst e1
            rw [show i + 1 - 1 = i from by omega] at hy
            have := h3 i y (by omega) (List.getElem?_eq_some_iff.1 hy).1 hy
            have := ordA_anti y a
            omega
          · rw [if_neg c3] at hx
            exact hs.ord (i - 1) x y hx (by rw [show i - 1 + 1 = i + 1 - 1 from by omega]; exact hy)
    · intro x
      have : x ∈ d ↔ x ∈ d.take m ∨ x ∈ d.drop m := by rw [← List.mem_append, List.take_append_drop]
      simp only [List.mem_append, List.mem_cons, this]
      constructor
      · rintro (h | h | h)
        · exact .inr (.inl h)
        · exact .inl h
        · exact .inr (.inr h)
      · rintro (h | h | h)
        · exact .inr (.inl h)
        · exact .inl h
        · exact .inr (.inr h)
theorem idx_nn {α : Type} (l : List α) (i : Int) (h : 0 ≤ i) : idx l i = l[0 + i.toNat]? := by
  obtain ⟨n, rfl⟩ : ∃ n : Nat, i = n := ⟨i.toNat, by omega⟩
  rw [idx_nat]; simp
theorem Put_h0_L1 (d : List GAtom) (a : GAtom) (hl : d.length ≤ 2 ^ 29) : ∀ (k n : Nat), n ≤ d.length → spec_l03Put_h0_L1 d a k (n : Int) = spec_l03Put_L1 d a k (n : Int)
  | 0, n, _ => by rw [spec_l03Put_h0_L1, spec_l03Put_L1]
  | k + 1, 0, _ => by
    rw [spec_l03Put_h0_L1, spec_l03Put_L1, if_neg (by simp), if_neg (by simp)]
    simp
  | k + 1, n + 1, h => by
    have ew : w64 (((n + 1 : Nat) : Int) - 1) = (n : Int) := by rw [w64_id (by omega)]; omega
    rw [spec_l03Put_h0_L1, spec_l03Put_L1, ew, Put_h0_L1 d a hl k n (by omega)]
    simp only [idx_nn d n (by omega)]
    rw [if_pos (show (0 : Int) ≤ (n : Int) ∧ (n : Int) < (d.length : Int) by omega)]
theorem Put_h0 (d : List GAtom) (a : GAtom) (hl : d.length ≤ 2 ^ 29) : spec_l03Put_h0 d a = spec_l03Put d a := by
  have e : ∀ k : Nat, (d.drop k).take (d.length - k) = d.drop k := fun k => List.take_of_length_le (by simp)
  unfold spec_l03Put_h0 spec_l03Put
  rw [Put_h0_L1 d a hl FUEL d.length (Nat.le_refl _)]
  simp only [e]
theorem p_PutH (k : Int) (d : List GAtom) (a : GAtom) (hs : SortD k d) (ha : atomB a = true) (hk : a.Kind = k) (hl : d.length < 2 ^ 29) : ∃ d', spec_l03Put_h0 d a = some d' ∧ SortD k d' ∧ (∀ x, x ∈ d' ↔ x = a ∨ x ∈ d) ∧ d'.length ≤ d.length + 1 := by
  rw [Put_h0 d a (by omega)]
  exact p_Put k d a hs ha hk hl
/-- what stands at no name -/
def outB (c : GColumn) (x : GAtom) : Bool := !decide (c.Low ≤ x.N ∧ x.N ≤ c.High)
theorem p_Idx_L1 (c : GColumn) : ∀ (xs : List GAtom) (i : Nat), slices_IndexFunc_impl_Atom_impl_Atom_L1 (fun a => impl_Column_fits_1 a c) xs i = some (.go ()) ∧ xs.any (outB c) = false ∨ ∃ j : Nat, slices_IndexFunc_impl_Atom_impl_Atom_L1 (fun a => impl_Column_fits_1 a c) xs i = some (.ret (j : Int)) ∧ xs.any (outB c) = true
  | [], i => .inl ⟨by rw [slices_IndexFunc_impl_Atom_impl_Atom_L1], rfl⟩
  | x :: xs, i => by
    rw [slices_IndexFunc_impl_Atom_impl_Atom_L1]
    have e : impl_Column_fits_1 x c = some (outB c x) := by unfold impl_Column_fits_1; rw [p_within, Option.bind_some]; rfl
    rw [e, Option.bind_some]
    cases h : outB c x with
    | true => rw [if_pos rfl]; exact .inr ⟨i, rfl, by simp [h]⟩
    | false =>
      rw [if_neg (by simp)]
      rcases p_Idx_L1 c xs (i + 1) with ⟨h1, h2⟩ | ⟨j, h1, h2⟩
      · exact .inl ⟨h1, by simp [h, h2]⟩
      · exact .inr ⟨j, h1, by simp [h, h2]⟩
theorem p_Contains (c : GColumn) (d : List GAtom) : slices_ContainsFunc_impl_Atom_impl_Atom d (fun a => impl_Column_fits_1 a c) = some (d.any (outB c)) := by
  unfold slices_ContainsFunc_impl_Atom_impl_Atom slices_IndexFunc_impl_Atom_impl_Atom
  rcases p_Idx_L1 c d 0 with ⟨h1, h2⟩ | ⟨j, h1, h2⟩
  · rw [h1, h2]; rfl
  · rw [h1, h2]; simp
def fitsF (c : GColumn) (d : List GAtom) : Int :=
  if (match d[0]? with | some x => x.Kind != c.Kind | none => false) = true then 9 else if ¬ (c.Min ≤ d.length ∧ (d.length : Int) ≤ c.Max) then 6 else if (c.Kind == 1 && d.any (outB c)) = true then 4 else 0
theorem p_cond (c : GColumn) (d : List GAtom) : ((if (decide ((d.length : Int) > 0)) then (idx d 0).bind fun x_11 => some (x_11.Kind != c.Kind) else some false : Option Bool)) = some (match d[0]? with | some x => x.Kind != c.Kind | none => false) := by
  cases d with
  | nil => rfl
  | cons x xs =>
    rw [if_pos (by simp)]
    rfl
theorem p_fits (c : GColumn) (d : List GAtom) : impl_Column_fits c d = some (fitsF c d) := by
  unfold impl_Column_fits fitsF
  rw [p_cond, Option.bind_some]
  generalize (match d[0]? with | some x => x.Kind != c.Kind | none => false) = b
  cases b with
  | true => simp
  | false =>
    simp only [Bool.false_eq_true, if_false]
    rw [p_within, Option.bind_some]
    by_cases h : c.Min ≤ d.length ∧ (d.length : Int) ≤ c.Max
    · rw [decide_eq_true h, if_neg (not_not_intro h)]
      simp only [Bool.not_true, Bool.false_eq_true, if_false]
      by_cases k : c.Kind = 1
      · rw [if_pos (by simpa using k), p_Contains, Option.bind_some]
        cases hh : d.any (outB c) <;> simp [k]
      · rw [if_neg (by simpa using k)]
        simp [k]
    · rw [decide_eq_false h, if_pos h]
      simp
theorem p_same_L1 (b : List GAtom) : ∀ (xs : List GAtom) (i : Nat), b.drop i = xs → laws_sameDatum_L1 b xs i = some (.go ())
  | [], i, _ => by rw [laws_sameDatum_L1]
  | x :: xs, i, h => by
    rw [laws_sameDatum_L1, idx_drop h, Option.bind_some, atomEq, if_neg (by simp), p_same_L1 b xs (i + 1) (drop_next h)]
theorem p_same (d : List GAtom) : laws_sameDatum d d = some true := by
  unfold laws_sameDatum
  rw [if_neg (by simp), p_same_L1 d d 0 (by simp)]
  rfl
theorem okI_u8 {n : Int} : okI .u8 n ↔ 0 ≤ n ∧ n ≤ 255 := by
  have h1 : IntKind.u8.min = 0 := by decide
  have h2 : IntKind.u8.max = 255 := by decide
  simp [okI, Lit.wf, h1, h2]
theorem byte_h1 (s : GL00Src) : spec_l00Src_byte s = spec_l00Src_byte s := by
  first
  | rfl
  | (unfold spec_l00Src_byte spec_l00Src_byte; rfl)
theorem next_h1 (n : Int) (s : GL00Src) : spec_l00Src_next n s = spec_l00Src_next n s := by
  first
  | rfl
  | (unfold spec_l00Src_next spec_l00Src_next; simp only [byte_h1])
theorem pick_h1 (l : List Str) (s : GL00Src) : spec_l00Src_pick l s = spec_l00Src_pick l s := by
  first
  | rfl
  | (unfold spec_l00Src_pick spec_l00Src_pick; simp only [next_h1])
theorem source_h1 (c : List Int) : spec_l00Source c = spec_l00Source c := by
  first
  | rfl
  | (unfold spec_l00Source spec_l00Source; rfl)
theorem p_atom (kind : Int) (s : GL00Src) (hk : 1 ≤ kind ∧ kind ≤ 4) (h : SrcOK s) (ha : s.At + 1 < 2 ^ 50) : ∃ a s', spec_l00Src_atom kind s = some (a, s') ∧ atomB a = true ∧ a.Kind = kind ∧ Nx s s' 1 := by
  unfold spec_l00Src_atom
  try simp only [next_h1, pick_h1]
  by_cases k1 : kind = 1
  · subst k1
    obtain ⟨v, s', e, g1, g2, g⟩ := p_next 12 s h ha (by omega) (by omega)
    rw [if_pos (by simp), e, Option.bind_some]
    refine ⟨_, s', rfl, ?_, rfl, g⟩
    have : w64 (v - 4) = v - 4 := w64_id (by omega)
    rw [this]
    have : -1000000000 ≤ v - 4 ∧ v - 4 ≤ 1000000000 := by omega
    simp [atomB, this]
  rw [if_neg (by simpa using k1)]
  by_cases k2 : kind = 2
  · subst k2
    obtain ⟨t, s', e, ht, g⟩ := p_srcpick [[], [97], [98], [99], [110, 101, 116]] s h ha (by simp) (by simp)
    rw [if_pos (by simp), e, Option.bind_some]
    refine ⟨_, s', rfl, ?_, rfl, g⟩
    have : textB t = true := List.all_eq_true.1 (show ([[], [97], [98], [99], [110, 101, 116]] : List Str).all textB = true by decide) t ht
    simp [atomB, this]
  rw [if_neg (by simpa using k2)]
  by_cases k3 : kind = 3
  · subst k3
    obtain ⟨v, s', e, g1, g2, g⟩ := p_next 2 s h ha (by omega) (by omega)
    rw [if_pos (by simp), e, Option.bind_some]
    refine ⟨_, s', rfl, ?_, rfl, g⟩
    have : 0 ≤ v ∧ v ≤ 1 := by omega
    simp [atomB, this]
  rw [if_neg (by simpa using k3)]
  have k4 : kind = 4 := by omega
  subst k4
  obtain ⟨v, s', e, g1, g2, g⟩ := p_next 6 s h ha (by omega) (by omega)
  rw [e, Option.bind_some]
  refine ⟨_, s', rfl, ?_, rfl, g⟩
  have : w64 (1 + v) = 1 + v := w64_id (by omega)
  rw [this]
  have : 1 ≤ 1 + v ∧ 1 + v ≤ 1000000 := by omega
  simp [atomB, this]
theorem p_datum_L1 (kind : Int) (hk : 1 ≤ kind ∧ kind ≤ 4) : ∀ (i k : Nat) (s : GL00Src) (out : List GAtom), i < k → SortD kind out → out.length + i ≤ 100 → SrcOK s → s.At + i < 2 ^ 50 →
    ∃ s' d, spec_l00Src_datum_L1 kind k i s.Code s.At s.Seed out = some (s'.Code, s'.At, s'.Seed, d) ∧ SortD kind d ∧ d.length ≤ out.length + i ∧ Nx s s' i
  | _, 0, _, _, h, _, _, _, _ => by omega
  | 0, k + 1, s, out, h, hs, hl, ho, ha => by
    refine ⟨s, out, ?_, hs, by omega, Nx.refl ho⟩
    rw [spec_l00Src_datum_L1, if_neg (by simp)]
  | i + 1, k + 1, s, out, h, hs, hl, ho, ha => by
    rw [spec_l00Src_datum_L1, if_pos (by simp)]
    obtain ⟨a, s1, e, g1, g2, g3⟩ := p_atom kind s hk ho (by omega)
    have e' : spec_l00Src_atom kind (⟨s.Code, s.At, s.Seed⟩ : GL00Src) = some (a, s1) := e
    obtain ⟨d, f, f1, f2, f3⟩ := p_PutH kind out a hs g1 g2 (by omega)
    have ew : w64 (((i + 1 : Nat) : Int) - 1) = (i : Int) := by rw [w64_id (by omega)]; omega
    have := g3.hi
    obtain ⟨s2, d2, q, q1, q2, q3⟩ := p_datum_L1 kind hk i k s1 d (by omega) f1 (by omega) g3.ok (by omega)
    rw [e', Option.bind_some, f, Option.bind_some, ew, q]
    exact ⟨s2, d2, rfl, q1, by omega, (g3.trans q3).mono (by omega)⟩
theorem p_datum (kind : Int) (s : GL00Src) (hk : 1 ≤ kind ∧ kind ≤ 4) (h : SrcOK s) (ha : s.At + 5 < 2 ^ 50) : ∃ d s', spec_l00Src_datum kind s = some (d, s') ∧ SortD kind d ∧ d.length ≤ 4 ∧ Nx s s' 5 := by
  have hf : 2 ^ 40 < FUEL := by unfold FUEL; decide
  unfold spec_l00Src_datum
  try rw [next_h1]
  obtain ⟨v, s1, e, g1, g2, g⟩ := p_next 5 s h (by omega) (by omega) (by omega)
  obtain ⟨i, rfl⟩ : ∃ i : Nat, v = (i : Int) := ⟨v.toNat, by omega⟩
  have := g.hi
  obtain ⟨s2, d, e2, q1, q2, q3⟩ := p_datum_L1 kind hk i FUEL s1 [] (by omega) ⟨by simp, by simp⟩ (by simp; omega) g.ok (by omega)
  rw [e, Option.bind_some, e2, Option.bind_some]
  simp only [List.length_nil] at q2
  exact ⟨d, s2, rfl, q1, by omega, (g.trans q3).mono (by omega)⟩
theorem p_DatumDrawn (code : List Int) (kind : Int) (hc : ∀ x ∈ code, 0 ≤ x ∧ x < 256) (hl : (code.length : Int) ≤ 1048576) (hk : 1 ≤ kind ∧ kind ≤ 4) : ∃ d, spec_DatumDrawn code kind = some d ∧ SortD kind d ∧ d.length ≤ 4 := by
  unfold spec_DatumDrawn
  obtain ⟨s, e1, g1, g2, _⟩ := p_source code hc hl
  obtain ⟨d, s', e2, h1, h2, _⟩ := p_datum kind s hk g1 (by rw [g2]; decide)
  have e1' : spec_l00Source code = some s := by rw [source_h1]; exact e1
  first
  | rw [e1', Option.bind_some, e2, Option.bind_some]
  | rw [e1, Option.bind_some, e2, Option.bind_some]
  exact ⟨d, rfl, h1, h2⟩
theorem p_at (more : List Int) (n : Int) (hc : ∀ x ∈ more, 0 ≤ x ∧ x < 256) (hl : (more.length : Int) ≤ 1048576) (hn : 1 ≤ n ∧ n ≤ 1000000) (i : Int) (hi : 0 ≤ i ∧ i ≤ 1000) : ∃ v, laws_at more i n = some v ∧ 0 ≤ v ∧ v < n := by
  unfold laws_at
  by_cases h1 : n ≤ 1
  · rw [if_pos (by simpa using h1)]; exact ⟨0, rfl, by omega, by omega⟩
  rw [if_neg (by simpa using h1)]
  by_cases h2 : more.length = 0
  · rw [if_pos (by simpa using h2), if_pos (by omega)]
    have e : w64 (i * 7) = i * 7 := w64_id (by omega)
    have := tmod_bd (a := i * 7) (m := n) (by omega) (by omega)
    rw [e]
    exact ⟨_, rfl, this⟩
  rw [if_neg (by simpa using h2), if_pos (by omega)]
  have get : ∀ j : Int, 0 ≤ j → ∃ x, idx more (j.tmod (more.length : Int)) = some x ∧ 0 ≤ x ∧ x < 256 := by
    intro j hj
    have hb := tmod_bd (a := j) (m := (more.length : Int)) hj (by omega)
    obtain ⟨q, hq⟩ : ∃ q : Nat, j.tmod (more.length : Int) = (q : Int) := ⟨(j.tmod (more.length : Int)).toNat, by omega⟩
    rw [hq] at hb ⊢
    obtain ⟨x, hx⟩ : ∃ x, more[q]? = some x := ⟨more[q]'(by omega), List.getElem?_eq_getElem (by omega)⟩
    rw [idx_nat, hx]
    exact ⟨x, rfl, hc x (List.mem_of_getElem? hx)⟩
  obtain ⟨x, ex, x1, x2⟩ := get i hi.1
  have ew : w64 (i + 1) = i + 1 := w64_id (by omega)
  obtain ⟨y, ey, y1, y2⟩ := get (i + 1) (by omega)
  rw [ex, Option.bind_some, if_pos (by omega), ew, ey, Option.bind_some, if_pos (by omega), if_pos (by omega)]
  have hq : 0 ≤ i.tdiv (more.length : Int) ∧ i.tdiv (more.length : Int) ≤ i := by
    rw [tdiv_bd hi.1 (by omega)]
    exact ⟨Int.ediv_nonneg hi.1 (by omega), Int.ediv_le_self _ hi.1⟩
  rw [w64_id (n := x) (by omega), w64_id (n := x * 31) (by omega), w64_id (n := y) (by omega), w64_id (n := x * 31 + y) (by omega), w64_id (n := i.tdiv (more.length : Int)) (by omega), w64_id (by omega)]
  have := tmod_bd (a := x * 31 + y + i.tdiv (more.length : Int)) (m := n) (by omega) (by omega)
  exact ⟨_, rfl, this⟩
theorem cmpB_trans : ∀ a b c : Str, Lib.compareBytes a b < 0 → Lib.compareBytes b c < 0 → Lib.compareBytes a c < 0
  | [], [], c => by intro h; simp [Lib.compareBytes] at h
  | [], _ :: _, [] => by intro _ h; simp [Lib.compareBytes] at h
  | [], _ :: _, _ :: _ => by intro _ _; simp [Lib.compareBytes]
  | _ :: _, [], c => by intro h; simp [Lib.compareBytes] at h
  | _ :: _, _ :: _, [] => by intro _ h; simp [Lib.compareBytes] at h
  | a :: xs, b :: ys, c :: zs => by
    have ih := cmpB_trans xs ys zs
    unfold Lib.compareBytes
    rcases u8_tri a b with h | h | h
    · rcases u8_tri b c with g | g | g
      · have : a < c := by simp only [UInt8.lt_iff_toNat_lt] at *; omega
        simp [this]
      · subst g; simp [h]
      · simp [h, g, u8_asym g]
    · subst h
      rcases u8_tri a c with g | g | g
      · simp [g]
      · subst g; simp only [UInt8.lt_irrefl, if_false]; exact ih
      · simp [g, u8_asym g]
    · simp [h, u8_asym h]
theorem ordA_trans {a b c : GAtom} (h : ordA a b < 0) (g : ordA b c < 0) : ordA a c < 0 := by
  unfold ordA at *
  by_cases k1 : a.Kind = b.Kind
  · by_cases k2 : b.Kind = c.Kind
    · have k3 : a.Kind = c.Kind := k1.trans k2
      simp only [k1, k2, k3, ne_eq, not_true_eq_false, if_false] at *
      by_cases n1 : a.N = b.N
      · by_cases n2 : b.N = c.N
        · have n3 : a.N = c.N := n1.trans n2
          simp only [n1, n2, n3, ne_eq, not_true_eq_false, if_false] at *
          exact cmpB_trans _ _ _ h g
        · have n3 : ¬ a.N = c.N := fun e => n2 (n1.symm.trans e)
          simp only [n1, n2, ne_eq, not_true_eq_false, not_false_eq_true, if_false, if_true] at *
          split at g <;> simp_all
      · by_cases n2 : b.N = c.N
        · have n3 : ¬ a.N = c.N := fun e => n1 (e.trans n2.symm)
          simp only [n1, n2, n3, ne_eq, not_true_eq_false, not_false_eq_true, if_false, if_true] at *
          split at h <;> simp_all
        · simp only [n1, n2, ne_eq, not_false_eq_true, if_true] at h g
          have h' : a.N < b.N := by split at h <;> first | assumption | omega
          have g' : b.N < c.N := by split at g <;> first | assumption | omega
          have n3 : ¬ a.N = c.N := by omega
          have n4 : a.N < c.N := by omega
          simp [n3, n4]
    · have k3 : ¬ a.Kind = c.Kind := fun e => k2 (k1.symm.trans e)
      simp only [k2, ne_eq, not_false_eq_true, if_true] at g
      have g' : b.Kind < c.Kind := by split at g <;> first | assumption | omega
      have : a.Kind < c.Kind := by omega
      simp [k3, this]
  · simp only [k1, ne_eq, not_false_eq_true, if_true] at h
    have h' : a.Kind < b.Kind := by split at h <;> first | assumption | omega
    by_cases k2 : b.Kind = c.Kind
    · have k3 : ¬ a.Kind = c.Kind := fun e => k1 (e.trans k2.symm)
      have : a.Kind < c.Kind := by omega
      simp [k3, this]
    · simp only [k2, ne_eq, not_false_eq_true, if_true] at g
      have g' : b.Kind < c.Kind := by split at g <;> first | assumption | omega
      have k3 : ¬ a.Kind = c.Kind := by omega
      have : a.Kind < c.Kind := by omega
      simp [k3, this]
theorem ordA_irrefl (a : GAtom) : ¬ ordA a a < 0 := by have := (ordA_zero a a).2 rfl; omega
/-- strictly in order -/
def Strict (d : List GAtom) : Prop := d.Pairwise fun a b => ordA a b < 0
theorem strict_of_adj : ∀ (d : List GAtom), (∀ i x y, d[i]? = some x → d[i + 1]? = some y → ordA x y < 0) → Strict d
  | [], _ => .nil
  | [a], _ => List.pairwise_singleton _ _
  | a :: b :: l, h => by
    have ih : Strict (b :: l) := strict_of_adj (b :: l) (fun i x y hx hy => h (i + 1) x y (by simpa using hx) (by simpa using hy))
    have hab : ordA a b < 0 := h 0 a b rfl rfl
    refine List.pairwise_cons.2 ⟨fun c hc => ?_, ih⟩
    rcases List.mem_cons.1 hc with rfl | hc
    · exact hab
    · exact ordA_trans hab ((List.pairwise_cons.1 ih).1 c hc)
theorem Strict.adj {d : List GAtom} (h : Strict d) : ∀ i x y, d[i]? = some x → d[i + 1]? = some y → ordA x y < 0 := by
  intro i x y hx hy
  obtain ⟨hi, rfl⟩ := List.getElem?_eq_some_iff.1 hx
  obtain ⟨hj, rfl⟩ := List.getElem?_eq_some_iff.1 hy
  exact List.pairwise_iff_getElem.1 h i (i + 1) hi hj (by omega)
theorem Strict.ext : ∀ {a b : List GAtom}, Strict a → Strict b → (∀ x, x ∈ a ↔ x ∈ b) → a = b
  | [], [], _, _, _ => rfl
  | [], y :: _, _, _, h => absurd ((h y).2 (by simp)) (by simp)
  | x :: _, [], _, _, h => absurd ((h x).1 (by simp)) (by simp)
  | x :: xs, y :: ys, ha, hb, h => by
    obtain ⟨ha1, ha2⟩ := List.pairwise_cons.1 ha
    obtain ⟨hb1, hb2⟩ := List.pairwise_cons.1 hb
    have hxy : x = y := by
      rcases List.mem_cons.1 ((h x).1 (by simp)) with e | e
      · exact e
      · rcases List.mem_cons.1 ((h y).2 (by simp)) with e' | e'
        · exact e'.symm
        · exact absurd (ordA_trans (ha1 y e') (hb1 x e)) (ordA_irrefl _)
    subst hxy
    refine congrArg (x :: ·) (Strict.ext ha2 hb2 (fun z => ?_))
    have hz := h z
    simp only [List.mem_cons] at hz
    constructor
    · intro q
      rcases hz.1 (.inr q) with e | e
      · subst e; exact absurd (ha1 z q) (ordA_irrefl _)
      · exact e
    · intro q
      rcases hz.2 (.inr q) with e | e
      · subst e; exact absurd (hb1 z q) (ordA_irrefl _)
      · exact e
theorem SortD.strict {k : Int} {d : List GAtom} (h : SortD k d) : Strict d := strict_of_adj d h.ord
theorem SortD.of {k : Int} {d : List GAtom} (h1 : ∀ x ∈ d, atomB x = true ∧ x.Kind = k) (h2 : Strict d) : SortD k d := ⟨h1, h2.adj⟩
theorem Strict.filter {d : List GAtom} (h : Strict d) (p : GAtom → Bool) : Strict (d.filter p) := List.Pairwise.filter p h
/-- in order, perhaps with the same ones -/
def Weak (d : List GAtom) : Prop := d.Pairwise fun a b => ordA a b ≤ 0
theorem ordA_le_trans {a b c : GAtom} (h : ordA a b ≤ 0) (g : ordA b c ≤ 0) : ordA a c ≤ 0 := by
  by_cases h0 : ordA a b = 0
  · rw [(ordA_zero a b).1 h0]; exact g
  · by_cases g0 : ordA b c = 0
    · rw [← (ordA_zero b c).1 g0]; exact h
    · have := ordA_trans (a := a) (b := b) (c := c) (by omega) (by omega); omega
/-- what follows a, without what is as the one ahead of it -/
def dd : GAtom → List GAtom → List GAtom
  | _, [] => []
  | a, z :: t => if z = a then dd a t else z :: dd z t
theorem dd_mem (x : GAtom) : ∀ (t : List GAtom) (a : GAtom), x ∈ a :: dd a t ↔ x ∈ a :: t
  | [], a => by simp [dd]
  | z :: t, a => by
    unfold dd
    by_cases e : z = a
    · subst e; rw [if_pos rfl, dd_mem x t z]; simp
    · rw [if_neg e, List.mem_cons, dd_mem x t z, List.mem_cons (a := x) (b := a)]
theorem dd_len : ∀ (t : List GAtom) (a : GAtom), (dd a t).length ≤ t.length
  | [], a => by simp [dd]
  | z :: t, a => by
    unfold dd
    have h1 := dd_len t a
    have h2 := dd_len t z
    by_cases e : z = a
    · rw [if_pos e]; simp only [List.length_cons]; omega
    · rw [if_neg e]; simp only [List.length_cons]; omega
theorem dd_strict : ∀ (t : List GAtom) (a : GAtom), Weak (a :: t) → Strict (a :: dd a t)
  | [], a, _ => List.pairwise_singleton _ _
  | z :: t, a, h => by
    obtain ⟨h1, h2⟩ := List.pairwise_cons.1 h
    unfold dd
    by_cases e : z = a
    · subst e; rw [if_pos rfl]; exact dd_strict t z h2
    · rw [if_neg e]
      have haz : ordA a z < 0 := by
        have := h1 z (by simp)
        have h0 : ordA a z ≠ 0 := fun q => e ((ordA_zero a z).1 q).symm
        omega
      refine List.pairwise_cons.2 ⟨fun c hc => ?_, dd_strict t z h2⟩
      have hc' := (dd_mem c t z).1 hc
      rcases List.mem_cons.1 hc' with rfl | hc'
      · exact haz
      · have hzc := (List.pairwise_cons.1 h2).1 c hc'
        by_cases hz : ordA z c = 0
        · rw [← (ordA_zero z c).1 hz]; exact haz
        · exact ordA_trans haz (by omega)
theorem p_bitsLen : ∀ n : Fin 13, (math_bits_Len (IntKind.u64.wrap ((n.val : Nat) : Int))).isSome = true := by decide +kernel
theorem mid_get {α : Type} (p s : List α) (x : α) : (p ++ x :: s)[p.length]? = some x := by simp
theorem mid_set {α : Type} (p s : List α) (x y : α) : (p ++ x :: s).set p.length y = p ++ y :: s := by
  rw [List.set_append_right _ _ (Nat.le_refl _), Nat.sub_self, List.set_cons_zero]
theorem fuel40' : 2 ^ 40 < FUEL := by unfold FUEL; decide
theorem p_ins_L2 : ∀ (pr : List GAtom) (k : Nat) (x : GAtom) (s : List GAtom), pr.length < k → pr.length + s.length + 1 ≤ 2 ^ 20 → Weak pr.reverse → ∃ p1 p2 : List GAtom, pr.reverse = p1 ++ p2 ∧ slices_insertionSortCmpFunc_impl_Atom_h0_L2 0 k (pr.length : Int) (pr.reverse ++ x :: s) = some (p1 ++ x :: (p2 ++ s)) ∧ (∀ y ∈ p2, ordA x y < 0) ∧ (∀ y ∈ p1, ordA y x ≤ 0)
  | _, 0, _, _, h, _, _ => by omega
  | [], k + 1, x, s, _, hl, _ => by
    refine ⟨[], [], rfl, ?_, by simp, by simp⟩
    rw [slices_insertionSortCmpFunc_impl_Atom_h0_L2]
    rfl
  | y :: pr, k + 1, x, s, hk, hl, hw => by
    simp only [List.length_cons] at hk hl
    have er : (y :: pr).reverse = pr.reverse ++ [y] := by simp
    rw [er] at hw
    have hw' : Weak pr.reverse := (List.pairwise_append.1 hw).1
    have hy : ∀ z ∈ pr.reverse, ordA z y ≤ 0 := fun z hz => (List.pairwise_append.1 hw).2.2 z hz y (by simp)
    have el : (pr.reverse ++ [y]).length = pr.length + 1 := by simp
    have ed : (pr.reverse ++ [y] ++ x :: s) = pr.reverse ++ y :: x :: s := by simp
    have e1 : decide (((y :: pr).length : Int) > 0) = true := decide_eq_true (by simp only [List.length_cons]; omega)
    have e2 : w64 (((y :: pr).length : Int) - 1) = ((pr.length : Nat) : Int) := by rw [w64_id (by simp only [List.length_cons]; omega)]; simp only [List.length_cons]; omega
    have g1 : (pr.reverse ++ y :: x :: s)[0 + (((y :: pr).length : Nat) : Int).toNat]? = some x := by
      have := mid_get (pr.reverse ++ [y]) s x
      rw [el, ed] at this
      simpa using this
    have g2 : (pr.reverse ++ y :: x :: s)[0 + ((pr.length : Nat) : Int).toNat]? = some y := by
      have := mid_get pr.reverse (x :: s) y
      rw [List.length_reverse] at this
      simpa using this
    have b1 : 0 ≤ (((y :: pr).length : Nat) : Int) ∧ (((y :: pr).length : Nat) : Int) < ((pr.reverse ++ y :: x :: s).length : Int) := by simp; omega
    have b2 : 0 ≤ ((pr.length : Nat) : Int) ∧ ((pr.length : Nat) : Int) < ((pr.reverse ++ y :: x :: s).length : Int) := by simp; omega
    have ss : (pr.reverse ++ y :: x :: s).set (0 + (((y :: pr).length : Nat) : Int).toNat) y = pr.reverse ++ y :: y :: s := by
      have := mid_set (pr.reverse ++ [y]) s x y
      rw [el] at this
      simpa using this
    have s2 : (pr.reverse ++ y :: y :: s).set (0 + ((pr.length : Nat) : Int).toNat) x = pr.reverse ++ x :: y :: s := by
      have := mid_set pr.reverse (y :: s) y x
      rw [List.length_reverse] at this
      simpa using this
    have g3 : (pr.reverse ++ y :: y :: s)[0 + ((pr.length : Nat) : Int).toNat]? = some y := by
      have := mid_get pr.reverse (y :: s) y
      rw [List.length_reverse] at this
      simpa using this
    rw [slices_insertionSortCmpFunc_impl_Atom_h0_L2, er, ed, if_pos e1, if_pos b1, g1, Option.bind_some, e2, if_pos b2, g2, Option.bind_some, p_compareAtoms, Option.bind_some, Option.bind_some]
    by_cases c : ordA x y < 0
    · rw [if_pos (by simpa using c), if_pos b2, Option.bind_some, if_pos b1, Option.bind_some, if_pos b1, if_pos b2, ss, g3, Option.bind_some, s2]
      obtain ⟨p1, p2, h1, h2, h3, h4⟩ := p_ins_L2 pr k x (y :: s) (by omega) (by simp only [List.length_cons]; omega) hw'
      refine ⟨p1, p2 ++ [y], by rw [h1, List.append_assoc], by rw [h2]; simp, fun z hz => ?_, h4⟩
      rcases List.mem_append.1 hz with hz | hz
      · exact h3 z hz
      · simp only [List.mem_singleton] at hz; subst hz; exact c
    · rw [if_neg (by simpa using c)]
      refine ⟨pr.reverse ++ [y], [], by simp, by simp, by simp, fun z hz => ?_⟩
      have hyx : ordA y x ≤ 0 := by have := ordA_anti x y; omega
      rcases List.mem_append.1 hz with hz | hz
      · exact ordA_le_trans (hy z hz) hyx
      · simp only [List.mem_singleton] at hz; subst hz; exact hyx
theorem p_ins_L1 : ∀ (s pre : List GAtom) (k : Nat), s.length < k → pre.length + s.length ≤ 2 ^ 19 → Weak pre → ∃ d, slices_insertionSortCmpFunc_impl_Atom_h0_L1 (((pre ++ s).length : Nat) : Int) 0 k (pre.length : Int) (pre ++ s) = some d ∧ Weak d ∧ d.Perm (pre ++ s)
  | _, _, 0, h, _, _ => by omega
  | [], pre, k + 1, _, _, hw => by
    refine ⟨pre, ?_, hw, by simp⟩
    rw [slices_insertionSortCmpFunc_impl_Atom_h0_L1, if_neg (by simp)]
    simp
  | x :: s, pre, k + 1, hk, hl, hw => by
    simp only [List.length_cons] at hk hl
    have hf := fuel40'
    rw [slices_insertionSortCmpFunc_impl_Atom_h0_L1, if_pos (by simp; omega)]
    obtain ⟨p1, p2, h1, h2, h3, h4⟩ := p_ins_L2 pre.reverse FUEL x s (by simp; omega) (by simp; omega) (by simpa using hw)
    rw [List.reverse_reverse] at h1 h2
    rw [List.length_reverse] at h2
    rw [h2, Option.bind_some]
    have hw1 : Weak (p1 ++ x :: p2) := by
      rw [h1] at hw
      obtain ⟨a1, a2, a3⟩ := List.pairwise_append.1 hw
      refine List.pairwise_append.2 ⟨a1, List.pairwise_cons.2 ⟨fun z hz => ?_, a2⟩, fun z hz w hw' => ?_⟩
      · have := h3 z hz; omega
      · rcases List.mem_cons.1 hw' with rfl | hw'
        · exact h4 z hz
        · exact a3 z hz w hw'
    have el : (p1 ++ x :: p2).length = pre.length + 1 := by rw [h1]; simp; omega
    have e1 : w64 ((pre.length : Int) + 1) = (((p1 ++ x :: p2).length : Nat) : Int) := by rw [w64_id (by omega), el]; omega
    have e2 : p1 ++ x :: (p2 ++ s) = (p1 ++ x :: p2) ++ s := by simp
    have e3 : (pre ++ x :: s).length = ((p1 ++ x :: p2) ++ s).length := by rw [show ((p1 ++ x :: p2) ++ s).length = (p1 ++ x :: p2).length + s.length from List.length_append, el]; simp; omega
    obtain ⟨d, g1, g2, g3⟩ := p_ins_L1 s (p1 ++ x :: p2) k (by omega) (by omega) hw1
    refine ⟨d, ?_, g2, g3.trans ?_⟩
    · rw [e1, e2, e3]; exact g1
    · rw [h1, List.append_assoc, List.append_assoc]
      refine List.Perm.append_left p1 ?_
      rw [List.cons_append]
      exact (List.perm_middle (a := x) (l₁ := p2) (l₂ := s)).symm
theorem p_ins (l : List GAtom) (h : l.length ≤ 2 ^ 19) : ∃ d, slices_insertionSortCmpFunc_impl_Atom_h0 l 0 (l.length : Int) = some d ∧ Weak d ∧ d.Perm l := by
  have hf := fuel40'
  unfold slices_insertionSortCmpFunc_impl_Atom_h0
  cases l with
  | nil =>
    refine ⟨[], ?_, .nil, List.Perm.refl _⟩
    obtain ⟨k, hk⟩ : ∃ k, FUEL = k + 1 := ⟨FUEL - 1, by omega⟩
    rw [hk, slices_insertionSortCmpFunc_impl_Atom_h0_L1]
    rfl
  | cons x s =>
    simp only [List.length_cons] at h
    have := p_ins_L1 s [x] FUEL (by omega) (by simp; omega) (List.pairwise_singleton _ _)
    have ew : w64 (0 + 1) = 1 := by decide
    rw [ew]
    simpa using this
theorem p_SortFunc (l : List GAtom) (h : l.length ≤ 12) : ∃ d, slices_SortFunc_impl_Atom_impl_Atom_h0 l = some d ∧ Weak d ∧ d.Perm l := by
  have hf := fuel40'
  obtain ⟨d, e, h1, h2⟩ := p_ins l (by omega)
  refine ⟨d, ?_, h1, h2⟩
  have hb := p_bitsLen ⟨l.length, by omega⟩
  unfold slices_SortFunc_impl_Atom_impl_Atom_h0
  obtain ⟨n, hn⟩ := Option.isSome_iff_exists.1 hb
  have hn' : math_bits_Len (IntKind.u64.wrap (l.length : Int)) = some n := hn
  obtain ⟨k, hk⟩ : ∃ k, FUEL = k + 1 := ⟨FUEL - 1, by omega⟩
  have e2 : slices_pdqsortCmpFunc_impl_Atom_h0 FUEL l 0 (l.length : Int) n = some d := by
    rw [hk, slices_pdqsortCmpFunc_impl_Atom_h0]
    unfold slices_pdqsortCmpFunc_impl_Atom_h0_B
    rw [hk, slices_pdqsortCmpFunc_impl_Atom_h0_B_L1, if_pos (by rw [w64_id (by omega)]; simp; omega), e, Option.bind_some]
  rw [hn', Option.bind_some, e2, Option.bind_some]
theorem p_cpt_L2 (s0 : List GAtom) (k0 : Nat) : ∀ (t c g : List GAtom) (y : GAtom) (k k2 : Nat), t.length < k → (c ++ (g ++ y :: t)).length = s0.length → c.length + g.length + 1 = k0 + k2 → s0.length ≤ 2 ^ 20 → 1 ≤ k2 → ∃ R, slices_Compact_impl_Atom_impl_Atom_h0_L2 s0 k0 k (c.length : Int) (k2 : Int) (c ++ (g ++ y :: t)) = some ((((c ++ dd y t).length : Nat) : Int), R) ∧ R.length = s0.length ∧ R.take (c ++ dd y t).length = c ++ dd y t
  | _, _, _, _, 0, _, h, _, _, _, _ => by omega
  | [], c, g, y, k + 1, k2, _, hn, hp, hl, h2 => by
    refine ⟨c ++ (g ++ [y]), ?_, hn, by simp [dd]⟩
    simp only [List.length_append, List.length_cons, List.length_nil] at hn
    rw [slices_Compact_impl_Atom_impl_Atom_h0_L2, if_neg (by simp; omega)]
    simp [dd]
  | z :: t, c, g, y, k + 1, k2, hk, hn, hp, hl, h2 => by
    have hn0 := hn
    simp only [List.length_append, List.length_cons] at hn hk
    have e1 : decide ((k2 : Int) < (((s0.length - k0) : Nat) : Int)) = true := decide_eq_true (by omega)
    have b1 : 0 ≤ (k2 : Int) ∧ (k2 : Int) < (((s0.length - k0) : Nat) : Int) := by omega
    have e2 : w64 ((k2 : Int) - 1) = ((k2 - 1 : Nat) : Int) := by rw [w64_id (by omega)]; omega
    have b2 : 0 ≤ ((k2 - 1 : Nat) : Int) ∧ ((k2 - 1 : Nat) : Int) < (((s0.length - k0) : Nat) : Int) := by omega
    have g1 : (c ++ (g ++ y :: z :: t))[k0 + ((k2 : Nat) : Int).toNat]? = some z := by
      have := mid_get (c ++ g ++ [y]) t z
      have el : (c ++ g ++ [y]).length = k0 + k2 := by simp; omega
      rw [el] at this
      simpa using this
    have g2 : (c ++ (g ++ y :: z :: t))[k0 + ((k2 - 1 : Nat) : Int).toNat]? = some y := by
      have := mid_get (c ++ g) (z :: t) y
      have el : (c ++ g).length = k0 + (k2 - 1) := by simp; omega
      rw [el] at this
      simpa using this
    have e3 : w64 ((k2 : Int) + 1) = ((k2 + 1 : Nat) : Int) := by rw [w64_id (by omega)]; omega
    rw [slices_Compact_impl_Atom_impl_Atom_h0_L2, if_pos e1, if_pos b1, g1, Option.bind_some, e2, if_pos b2, g2, Option.bind_some, atomEq, e3]
    by_cases e : z = y
    · subst e
      rw [if_neg (by simp)]
      have ed : dd z (z :: t) = dd z t := by rw [dd, if_pos rfl]
      have ec : c ++ (g ++ z :: z :: t) = c ++ ((g ++ [z]) ++ z :: t) := by simp
      rw [ed, ec]
      exact p_cpt_L2 s0 k0 t c (g ++ [z]) z k (k2 + 1) (by omega) (by rw [← ec]; exact hn0) (by simp; omega) hl (by omega)
    · have ed : dd y (z :: t) = z :: dd z t := by rw [dd, if_neg e]
      have b3 : 0 ≤ (c.length : Int) ∧ (c.length : Int) < ((c ++ (g ++ y :: z :: t)).length : Int) := by simp; omega
      have g3 : ∃ w, (c ++ (g ++ y :: z :: t))[0 + ((c.length : Nat) : Int).toNat]? = some w := ⟨_, List.getElem?_eq_getElem (by simp; omega)⟩
      obtain ⟨w, hw⟩ := g3
      have e4 : w64 ((c.length : Int) + 1) = (((c ++ [z]).length : Nat) : Int) := by rw [w64_id (by omega)]; simp
      rw [if_pos (by simp [e]), if_pos b1, if_pos b3, hw, Option.bind_some, e4, ed]
      have ex : c ++ z :: dd z t = (c ++ [z]) ++ dd z t := by simp
      rw [ex]
      cases g with
      | nil =>
        have es : (c ++ ([] ++ y :: z :: t)).set (0 + ((c.length : Nat) : Int).toNat) z = (c ++ [z]) ++ ([] ++ z :: t) := by
          have := mid_set c (z :: t) y z
          simpa using this
        rw [es]
        exact p_cpt_L2 s0 k0 t (c ++ [z]) [] z k (k2 + 1) (by omega) (by simp at hn ⊢; omega) (by simp at hp ⊢; omega) hl (by omega)
      | cons g0 g' =>
        have es : (c ++ (g0 :: g' ++ y :: z :: t)).set (0 + ((c.length : Nat) : Int).toNat) z = (c ++ [z]) ++ ((g' ++ [y]) ++ z :: t) := by
          have := mid_set c (g' ++ y :: z :: t) g0 z
          simpa using this
        rw [es]
        exact p_cpt_L2 s0 k0 t (c ++ [z]) (g' ++ [y]) z k (k2 + 1) (by omega) (by simp at hn ⊢; omega) (by simp at hp ⊢; omega) hl (by omega)
theorem p_cpt_L1 (s : List GAtom) (hl : s.length ≤ 2 ^ 20) : ∀ (xs pre : List GAtom) (y : GAtom), s = pre ++ y :: xs → slices_Compact_impl_Atom_impl_Atom_h0_L1 s xs (pre.length + 1) = some (if dd y xs = xs then .go () else .ret (pre ++ y :: dd y xs))
  | [], pre, y, _ => by rw [slices_Compact_impl_Atom_impl_Atom_h0_L1]; simp [dd]
  | x :: xs, pre, y, hs => by
    have hn : s.length = pre.length + 1 + 1 + xs.length := by rw [hs]; simp; omega
    have e1 : w64 ((((pre.length + 1 : Nat)) : Int) - 1) = ((pre.length : Nat) : Int) := by rw [w64_id (by omega)]; omega
    have g1 : s[0 + ((pre.length : Nat) : Int).toNat]? = some y := by
      have := mid_get pre (x :: xs) y
      rw [← hs] at this
      simpa using this
    have es : s = (pre ++ [y]) ++ x :: xs := by rw [hs]; simp
    rw [slices_Compact_impl_Atom_impl_Atom_h0_L1, if_pos (by omega), e1, if_pos (by omega), g1, Option.bind_some, atomEq]
    by_cases e : x = y
    · subst e
      have ed : dd x (x :: xs) = dd x xs := by rw [dd, if_pos rfl]
      have hne : ¬ dd x (x :: xs) = x :: xs := by
        rw [ed]; intro h
        have := dd_len xs x
        rw [h] at this
        simp only [List.length_cons] at this
        omega
      have hf := fuel40'
      rw [if_pos (by simp), if_pos (by omega), if_neg hne, ed]
      obtain ⟨R, h1, h2, h3⟩ := p_cpt_L2 s (pre.length + 1) xs (pre ++ [x]) [] x FUEL 1 (by omega) (by rw [es]; simp) (by simp) hl (by omega)
      have ec : ((pre ++ [x]) ++ ([] ++ x :: xs)) = s := by rw [es]; simp
      have el : (((pre ++ [x]).length : Nat) : Int) = ((pre.length + 1 : Nat) : Int) := by simp
      have h1' : slices_Compact_impl_Atom_impl_Atom_h0_L2 s (pre.length + 1) FUEL ((pre.length + 1 : Nat) : Int) 1 s = some ((((pre ++ [x] ++ dd x xs).length : Nat) : Int), R) := by
        rw [ec, el] at h1; exact h1
      rw [h1', Option.bind_some]
      have hle : (pre ++ [x] ++ dd x xs).length ≤ R.length := by have := dd_len xs x; rw [h2, hn]; simp; omega
      simp only
      rw [if_pos (by omega), if_pos (by omega)]
      have et : (R.take (((pre ++ [x] ++ dd x xs).length : Nat) : Int).toNat) = pre ++ x :: dd x xs := by
        rw [Int.toNat_natCast, h3]; simp
      rw [et]
      have el2 : (((pre ++ [x] ++ dd x xs).length : Nat) : Int).toNat = (pre ++ x :: dd x xs).length := by rw [Int.toNat_natCast]; simp
      rw [el2, List.append_assoc, List.take_left']
      rfl
    · have ed : dd y (x :: xs) = x :: dd x xs := by rw [dd, if_neg e]
      have e2 : pre.length + 1 + 1 = (pre ++ [y]).length + 1 := by simp
      rw [if_neg (by simp [e]), e2, p_cpt_L1 s hl xs (pre ++ [y]) x es, ed]
      by_cases q : dd x xs = xs
      · rw [if_pos q, if_pos (by rw [q])]
      · rw [if_neg q, if_neg (by simpa using q)]
        simp
def dedup : List GAtom → List GAtom
  | [] => []
  | a :: t => a :: dd a t
theorem p_Compact (s : List GAtom) (hl : s.length ≤ 2 ^ 20) : slices_Compact_impl_Atom_impl_Atom_h0 s = some (dedup s) := by
  unfold slices_Compact_impl_Atom_impl_Atom_h0
  cases s with
  | nil => rfl
  | cons a t =>
    cases t with
    | nil => rfl
    | cons b t =>
      rw [if_neg (by simp; omega)]
      have := p_cpt_L1 (a :: b :: t) hl (b :: t) [] a rfl
      have e : slices_Compact_impl_Atom_impl_Atom_h0_L1 (a :: b :: t) ((a :: b :: t).drop 1) 1 = _ := this
      rw [e]
      by_cases q : dd a (b :: t) = b :: t
      · rw [if_pos q, dedup, q]; rfl
      · rw [if_neg q, dedup]; rfl
theorem p_setOf (l : List GAtom) (h : l.length ≤ 12) : ∃ d, impl_setOf l = some d ∧ Strict d ∧ (∀ x, x ∈ d ↔ x ∈ l) ∧ d.length ≤ l.length := by
  obtain ⟨s, e, h1, h2⟩ := p_SortFunc l h
  have hlen := h2.length_eq
  refine ⟨dedup s, ?_, ?_, ?_, ?_⟩
  · unfold impl_setOf slices_Clone_impl_Atom_impl_Atom
    rw [if_pos (by simp; omega), Option.bind_some, List.nil_append, e, Option.bind_some, p_Compact s (by omega), Option.bind_some]
  · cases s with
    | nil => exact .nil
    | cons a t => exact dd_strict t a h1
  · intro x
    rw [← h2.mem_iff]
    cases s with
    | nil => rfl
    | cons a t => exact dd_mem x t a
  · rw [← hlen]
    cases s with
    | nil => simp [dedup]
    | cons a t => have := dd_len t a; simp only [dedup, List.length_cons]; omega
def AtK (kind : Int) (l : List GAtom) : Prop := ∀ x ∈ l, atomB x = true ∧ x.Kind = kind
theorem p_datumOf_L1 (kind : Int) (list : List GAtom) (h0 : AtK kind list) : ∀ xs : List GAtom, (∀ x ∈ xs, x ∈ list) → impl_datumOf_L1 list xs = some (.go ())
  | [], _ => by rw [impl_datumOf_L1]
  | x :: xs, h => by
    have hx := h x (by simp)
    obtain ⟨a1, a2⟩ := h0 x hx
    obtain ⟨z, hz⟩ : ∃ z, list[0]? = some z := by
      cases list with
      | nil => simp at hx
      | cons z l => exact ⟨z, rfl⟩
    have hz' := (h0 z (List.mem_of_getElem? hz)).2
    have e0 : idx list 0 = some z := by rw [show (0 : Int) = ((0 : Nat) : Int) from rfl, idx_nat, hz]
    rw [impl_datumOf_L1, p_AtomOK, Option.bind_some, a1, if_neg (by simp), e0, Option.bind_some, if_neg (by simp [a2, hz']), p_datumOf_L1 kind list h0 xs (fun y hy => h y (by simp [hy]))]
theorem p_datumOf (kind : Int) (list : List GAtom) (h0 : AtK kind list) (hl : list.length ≤ 12) : ∃ d, impl_datumOf list = some (if (d.length : Int) > 8 then ([], 6) else (d, 0)) ∧ Strict d ∧ (∀ x, x ∈ d ↔ x ∈ list) ∧ d.length ≤ list.length ∧ SortD kind d := by
  obtain ⟨d, e, h1, h2, h3⟩ := p_setOf list hl
  refine ⟨d, ?_, h1, h2, h3, SortD.of (fun x hx => h0 x ((h2 x).1 hx)) h1⟩
  unfold impl_datumOf
  rw [p_datumOf_L1 kind list h0 list (fun x hx => hx)]
  simp only [Option.bind_some, e]
  by_cases c : (d.length : Int) > 8
  · rw [if_pos (decide_eq_true c), if_pos c]
  · rw [if_neg (by simpa using c), if_neg c]
theorem datB_of {k : Int} {d : List GAtom} (h : SortD k d) (hl : d.length ≤ 8) : datB d = true := by
  unfold datB
  rw [SortD.allS h, decide_eq_true (by omega)]
  rfl
theorem p_ContainsA_L1 (v : GAtom) : ∀ (xs : List GAtom) (i : Nat), v ∈ xs ∧ (∃ n : Nat, slices_Index_impl_Atom_impl_Atom_L1 v xs i = some (.ret (n : Int))) ∨ v ∉ xs ∧ slices_Index_impl_Atom_impl_Atom_L1 v xs i = some (.go ())
  | [], i => .inr ⟨by simp, by rw [slices_Index_impl_Atom_impl_Atom_L1]⟩
  | x :: xs, i => by
    rw [slices_Index_impl_Atom_impl_Atom_L1, atomEq]
    by_cases e : v = x
    · rw [if_pos (by simpa using e)]
      exact .inl ⟨by simp [e], i, rfl⟩
    · rw [if_neg (by simpa using e)]
      rcases p_ContainsA_L1 v xs (i + 1) with ⟨h, n, hn⟩ | ⟨h, hn⟩
      · exact .inl ⟨by simp [h], n, hn⟩
      · exact .inr ⟨by simp [e, h], hn⟩
theorem p_ContainsA (d : List GAtom) (v : GAtom) : slices_Contains_impl_Atom_impl_Atom d v = some (decide (v ∈ d)) := by
  unfold slices_Contains_impl_Atom_impl_Atom slices_Index_impl_Atom_impl_Atom
  rcases p_ContainsA_L1 v d 0 with ⟨h, n, hn⟩ | ⟨h, hn⟩
  · rw [hn]; simp [h]
  · rw [hn]; simp [h]
theorem p_Concat2 (a b : List GAtom) (h : a.length + b.length ≤ 2 ^ 29) : slices_Concat_impl_Atom_impl_Atom [a, b] = some (a ++ b) := by
  have e1 : w64 (0 + (a.length : Int)) = (a.length : Int) := by rw [w64_id (by omega)]; omega
  have e2 : w64 ((a.length : Int) + (b.length : Int)) = (a.length : Int) + (b.length : Int) := w64_id (by omega)
  unfold slices_Concat_impl_Atom_impl_Atom
  rw [slices_Concat_impl_Atom_impl_Atom_L1, e1, if_neg (by simp <;> omega), slices_Concat_impl_Atom_impl_Atom_L1, e2, if_neg (by simp <;> omega), slices_Concat_impl_Atom_impl_Atom_L1, Option.bind_some]
  have eg : slices_Grow_impl_Atom_impl_Atom_h0 ((a.length : Int) + (b.length : Int)) = some [] := by
    have e0 : w64 (0 - 0) = 0 := by decide
    have e3 : w64 ((a.length : Int) + (b.length : Int) - 0) = (a.length : Int) + (b.length : Int) := by rw [w64_id (by omega)]; omega
    unfold slices_Grow_impl_Atom_impl_Atom_h0
    rw [if_neg (by simp <;> omega), Option.bind_some, e0, e3]
    by_cases c : (a.length : Int) + (b.length : Int) > 0
    · rw [if_pos (by simpa using c), if_pos (by omega), if_pos (by omega)]
      simp
    · rw [if_neg (by simpa using c)]
  rw [eg, Option.bind_some, slices_Concat_impl_Atom_impl_Atom_L2, if_pos (by simp <;> omega), slices_Concat_impl_Atom_impl_Atom_L2, if_pos (by simp <;> omega), slices_Concat_impl_Atom_impl_Atom_L2]
  simp
theorem p_alike (k : Int) (a b : List GAtom) (ha : SortD k a) (hb : SortD k b) : impl_areAlike a b = some true := by
  unfold impl_areAlike
  cases a with
  | nil => simp
  | cons x a =>
    cases b with
    | nil => simp
    | cons y b =>
      have h1 := (ha.atom x (by simp)).2
      have h2 := (hb.atom y (by simp)).2
      simp [idx, h1, h2]
theorem p_datumsCode (k : Int) (a b : List GAtom) (ha : SortD k a) (hb : SortD k b) (la : a.length ≤ 8) (lb : b.length ≤ 8) : impl_datumsCode a b = some 0 := by
  have c1 : decide ((a.length : Int) ≤ 4096) = true := decide_eq_true (by omega)
  have c2 : decide ((b.length : Int) ≤ 4096) = true := decide_eq_true (by omega)
  unfold impl_datumsCode impl_isList_impl_Atom
  rw [c1, c2, p_DatumOK a (by unfold maxLen; omega), p_DatumOK b (by unfold maxLen; omega), datB_of ha la, datB_of hb lb, p_alike k a b ha hb]
  simp
theorem p_Join (k : Int) (a b : List GAtom) (ha : SortD k a) (hb : SortD k b) (la : a.length ≤ 4) (lb : b.length ≤ 4) : ∃ d, impl_DatumJoin a b = some (d, 0) ∧ SortD k d ∧ (∀ x, x ∈ d ↔ x ∈ a ∨ x ∈ b) ∧ d.length ≤ 8 := by
  have hk : AtK k (a ++ b) := by
    intro x hx
    rcases List.mem_append.1 hx with hx | hx
    · exact ha.atom x hx
    · exact hb.atom x hx
  obtain ⟨d, e, h1, h2, h3, h4⟩ := p_datumOf k (a ++ b) hk (by simp <;> omega)
  rw [List.length_append] at h3
  refine ⟨d, ?_, h4, fun x => by rw [h2]; simp, by omega⟩
  unfold impl_DatumJoin
  have c : ¬ (d.length : Int) > 8 := by omega
  rw [p_datumsCode k a b ha hb (by omega) (by omega), Option.bind_some, if_neg (by simp), p_Concat2 a b (by omega), Option.bind_some, e, if_neg c, Option.bind_some]
theorem p_less_1 (x : GAtom) (c : List GAtom) : impl_less_1 x c = some (decide (x ∈ c)) := by
  unfold impl_less_1
  rw [p_ContainsA]
  rfl
def keepA (c : List GAtom) (l : List GAtom) : List GAtom := l.filter fun x => !decide (x ∈ c)
theorem p_del_L1 (b : List GAtom) : ∀ (t c g : List GAtom) (g0 : GAtom) (k : Nat), t.length < k → c.length + (g0 :: g).length + t.length ≤ 2 ^ 20 → ∃ R, slices_DeleteFunc_impl_Atom_impl_Atom_h0_L1 b k (c.length : Int) ((c.length + (g0 :: g).length : Nat) : Int) (c ++ (g0 :: g ++ t)) = some ((((c ++ keepA b t).length : Nat) : Int), R) ∧ R.length = (c ++ (g0 :: g ++ t)).length ∧ R.take (c ++ keepA b t).length = c ++ keepA b t
  | _, _, _, _, 0, h, _ => by omega
  | [], c, g, g0, k + 1, _, hl => by
    refine ⟨c ++ (g0 :: g ++ []), ?_, rfl, by simp [keepA]⟩
    rw [slices_DeleteFunc_impl_Atom_impl_Atom_h0_L1, if_neg (by simp)]
    simp [keepA]
  | z :: t, c, g, g0, k + 1, hk, hl => by
    simp only [List.length_cons] at hk hl
    have b1 : (0 : Int) ≤ ((c.length + (g0 :: g).length : Nat) : Int) ∧ ((c.length + (g0 :: g).length : Nat) : Int) < ((c ++ (g0 :: g ++ z :: t)).length : Int) := by simp <;> omega
    have g1 : (c ++ (g0 :: g ++ z :: t))[0 + ((c.length + (g0 :: g).length : Nat) : Int).toNat]? = some z := by
      have := mid_get (c ++ g0 :: g) t z
      rw [List.length_append] at this
      have ec : c ++ g0 :: g ++ z :: t = c ++ (g0 :: g ++ z :: t) := by simp
      rw [ec] at this
      rw [Int.toNat_natCast, Nat.zero_add]
      exact this
    have e3 : w64 (((c.length + (g0 :: g).length : Nat) : Int) + 1) = ((c.length + (g0 :: g).length + 1 : Nat) : Int) := by rw [w64_id (by simp only [List.length_cons]; omega)]; omega
    rw [slices_DeleteFunc_impl_Atom_impl_Atom_h0_L1, if_pos (decide_eq_true b1.2), if_pos b1, g1, Option.bind_some, p_less_1, Option.bind_some, e3]
    by_cases e : z ∈ b
    · have ek : keepA b (z :: t) = keepA b t := by simp [keepA, e]
      have ec : c ++ (g0 :: g ++ z :: t) = c ++ (g0 :: (g ++ [z]) ++ t) := by simp
      rw [if_neg (by simp [e]), ek, ec]
      have := p_del_L1 b t c (g ++ [z]) g0 k (by omega) (by simp <;> omega)
      have el : c.length + (g0 :: (g ++ [z])).length = c.length + (g0 :: g).length + 1 := by simp <;> omega
      rw [el] at this
      exact this
    · have ek : keepA b (z :: t) = z :: keepA b t := by simp [keepA, e]
      have b2 : (0 : Int) ≤ (c.length : Int) ∧ (c.length : Int) < ((c ++ (g0 :: g ++ z :: t)).length : Int) := by simp <;> omega
      obtain ⟨w, hw⟩ : ∃ w, (c ++ (g0 :: g ++ z :: t))[0 + ((c.length : Nat) : Int).toNat]? = some w := ⟨_, List.getElem?_eq_getElem (by simp)⟩
      have e4 : w64 ((c.length : Int) + 1) = (((c ++ [z]).length : Nat) : Int) := by rw [w64_id (by omega)]; simp
      have ex : c ++ z :: keepA b t = (c ++ [z]) ++ keepA b t := by simp
      rw [if_pos (by simp [e]), if_pos b2, hw, Option.bind_some, e4, ek, ex]
      cases g with
      | nil =>
        have es : (c ++ ([g0] ++ z :: t)).set (0 + ((c.length : Nat) : Int).toNat) z = (c ++ [z]) ++ ([z] ++ t) := by
          have := mid_set c (z :: t) g0 z
          simpa using this
        have := p_del_L1 b t (c ++ [z]) [] z k (by omega) (by simp at hl ⊢; omega)
        have el : (c ++ [z]).length + [z].length = c.length + [g0].length + 1 := by simp
        have el2 : ((c ++ [z]) ++ ([z] ++ t)).length = (c ++ ([g0] ++ z :: t)).length := by simp
        rw [el, el2] at this
        rw [es]
        exact this
      | cons g1' g' =>
        have es : (c ++ (g0 :: g1' :: g' ++ z :: t)).set (0 + ((c.length : Nat) : Int).toNat) z = (c ++ [z]) ++ (g1' :: (g' ++ [z]) ++ t) := by
          have := mid_set c (g1' :: g' ++ z :: t) g0 z
          simpa using this
        have := p_del_L1 b t (c ++ [z]) (g' ++ [z]) g1' k (by omega) (by simp at hl ⊢; omega)
        have el : (c ++ [z]).length + (g1' :: (g' ++ [z])).length = c.length + (g0 :: g1' :: g').length + 1 := by simp <;> omega
        have el2 : ((c ++ [z]) ++ (g1' :: (g' ++ [z]) ++ t)).length = (c ++ (g0 :: g1' :: g' ++ z :: t)).length := by simp <;> omega
        rw [el, el2] at this
        rw [es]
        exact this
theorem p_idxA_L1 (b : List GAtom) : ∀ (xs : List GAtom) (i : Nat), slices_IndexFunc_impl_Atom_impl_Atom_L1 (fun a0 => impl_less_1 a0 b) xs i = some (.go ()) ∧ keepA b xs = xs ∨ ∃ (p : List GAtom) (x : GAtom) (t : List GAtom), xs = p ++ x :: t ∧ slices_IndexFunc_impl_Atom_impl_Atom_L1 (fun a0 => impl_less_1 a0 b) xs i = some (.ret ((i + p.length : Nat) : Int)) ∧ keepA b xs = p ++ keepA b t
  | [], i => .inl ⟨by rw [slices_IndexFunc_impl_Atom_impl_Atom_L1], rfl⟩
  | y :: ys, i => by
    rw [slices_IndexFunc_impl_Atom_impl_Atom_L1, p_less_1, Option.bind_some]
    by_cases e : y ∈ b
    · rw [if_pos (by simpa using e)]
      exact .inr ⟨[], y, ys, rfl, by simp, by simp [keepA, e]⟩
    · rw [if_neg (by simpa using e)]
      rcases p_idxA_L1 b ys (i + 1) with ⟨h1, h2⟩ | ⟨p, x, t, h1, h2, h3⟩
      · refine .inl ⟨h1, ?_⟩
        have : keepA b (y :: ys) = y :: keepA b ys := by simp [keepA, e]
        rw [this, h2]
      · refine .inr ⟨y :: p, x, t, by rw [h1]; rfl, ?_, ?_⟩
        · rw [h2]; simp; omega
        · have : keepA b (y :: ys) = y :: keepA b ys := by simp [keepA, e]
          rw [this, h3]; rfl
theorem p_less (a b : List GAtom) (hl : a.length ≤ 2 ^ 20) : impl_less a b = some (keepA b a) := by
  have hf : 2 ^ 40 < FUEL := by unfold FUEL; decide
  unfold impl_less slices_Clone_impl_Atom_impl_Atom
  rw [if_pos (by simp <;> omega), Option.bind_some, List.nil_append]
  have e : slices_DeleteFunc_impl_Atom_impl_Atom_h0 a b = some (keepA b a, b) := by
    unfold slices_DeleteFunc_impl_Atom_impl_Atom_h0 slices_IndexFunc_impl_Atom_impl_Atom
    rcases p_idxA_L1 b a 0 with ⟨h1, h2⟩ | ⟨p, x, t, h1, h2, h3⟩
    · rw [h1, h2]; rfl
    · rw [h2]
      simp only [Option.bind_some, Nat.zero_add]
      have hla : a.length = p.length + 1 + t.length := by rw [h1]; simp; omega
      have e0 : (((p.length : Nat) : Int) == (-1)) = false := by simp <;> omega
      have ew : w64 ((p.length : Int) + 1) = ((p.length + [x].length : Nat) : Int) := by rw [w64_id (by omega)]; simp
      obtain ⟨R, g1, g2, g3⟩ := p_del_L1 b t p [] x FUEL (by omega) (by simp <;> omega)
      have ea : p ++ ([x] ++ t) = a := by rw [h1]; simp
      rw [ea] at g1 g2
      rw [e0, if_neg (by simp), ew, g1, Option.bind_some]
      have hle : (p ++ keepA b t).length ≤ R.length := by
        have : (keepA b t).length ≤ t.length := List.length_filter_le _ _
        rw [g2, hla]; simp; omega
      simp only
      rw [if_pos (by omega), if_pos (by omega), Int.toNat_natCast, g3, h3, List.append_assoc, List.take_left']
      rfl
  rw [e, Option.bind_some]
theorem keep_sort {k : Int} {a : List GAtom} (h : SortD k a) (b : List GAtom) : SortD k (keepA b a) := SortD.of (fun x hx => h.atom x (List.mem_filter.1 hx).1) (h.strict.filter _)
theorem mem_keep (a b : List GAtom) (x : GAtom) : x ∈ keepA b a ↔ x ∈ a ∧ x ∉ b := by simp [keepA]
theorem p_DatumLess (k : Int) (a b : List GAtom) (ha : SortD k a) (hb : SortD k b) (la : a.length ≤ 8) (lb : b.length ≤ 8) : impl_DatumLess a b = some (keepA b a, 0) := by
  unfold impl_DatumLess
  rw [p_datumsCode k a b ha hb la lb, Option.bind_some, if_neg (by simp), p_less a b (by omega), Option.bind_some]
theorem sort_ext {k : Int} {a b : List GAtom} (ha : SortD k a) (hb : SortD k b) (h : ∀ x, x ∈ a ↔ x ∈ b) : a = b := Strict.ext ha.strict hb.strict h
theorem p_typeCode (m : GMut) (c : GColumn) (h : ∀ x, m.Value[0]? = some x → x.Kind = c.Kind) (hf : m.Func ≤ 5 → c.Kind = 1 ∧ m.Value.length = 1) : impl_Mut_typeCode m c = some 0 := by
  unfold impl_Mut_typeCode
  have e1 : (if (decide ((m.Value.length : Int) > 0)) then (idx m.Value 0).bind fun x_11 => some (x_11.Kind != c.Kind) else some false : Option Bool) = some false := by
    cases hv : m.Value with
    | nil => simp
    | cons x xs =>
      have := h x (by rw [hv]; rfl)
      simp [idx, this]
  rw [e1, Option.bind_some, if_neg (by simp), Option.bind_some]
  by_cases f : m.Func ≤ 5
  · obtain ⟨h1, h2⟩ := hf f
    rw [if_neg (by simp [h1, h2])]
  · rw [if_neg (by simp [f])]
theorem p_Mutate (c : GColumn) (d : List GAtom) (m : GMut) (hd : datB d = true) (hl : d.length ≤ 8) (hc : colB c = true) (hf : fitsF c d = 0) (hm : mutB m = true) (hml : m.Value.length ≤ 8) (ht : impl_Mut_typeCode m c = some 0) : impl_Mutate c d m = impl_mutate c d m := by
  unfold impl_Mutate impl_isList_impl_Atom
  have c1 : decide ((d.length : Int) ≤ 4096) = true := decide_eq_true (by omega)
  rw [c1, p_ColumnOK, hc, p_DatumOK d (by unfold maxLen; omega), hd, p_fits, hf, p_mutOK m (by unfold maxLen; omega), hm, ht]
  simp only [Option.bind_some, Bool.not_true, Bool.false_eq_true, if_false, bne_self_eq_false]
  cases impl_mutate c d m <;> rfl
def colT : GColumn := ⟨[99], 2, 0, 8, 0, 0, [], false⟩
def colN : GColumn := ⟨[110], 1, 0, 1, -5000, 5000, [], false⟩
theorem colT_ok : colB colT = true := by decide
theorem colN_ok : colB colN = true := by decide
theorem fitT {d : List GAtom} (h : SortD 2 d) (hl : d.length ≤ 8) : fitsF colT d = 0 := by
  unfold fitsF
  have c1 : (match d[0]? with | some x => x.Kind != colT.Kind | none => false) = false := by
    cases d with
    | nil => rfl
    | cons x xs => have := (h.atom x (by simp)).2; simp [colT, this]
  have c2 : (0 : Int) ≤ (d.length : Int) ∧ (d.length : Int) ≤ 8 := by omega
  rw [c1, if_neg (by simp), if_neg (by simpa [colT] using c2)]
  simp [colT]
theorem num_atom (n : Int) (h : -1000000000 ≤ n ∧ n ≤ 1000000000) : atomB ⟨1, n, []⟩ = true := by
  unfold atomB
  simp [h]
theorem sort1M {k : Int} {a : GAtom} (h1 : atomB a = true) (h2 : a.Kind = k) : SortD k [a] := ⟨fun x hx => by simp at hx; subst hx; exact ⟨h1, h2⟩, fun i x y hx hy => by simp at hy⟩
theorem num_dat (n : Int) (h : -1000000000 ≤ n ∧ n ≤ 1000000000) : datB [⟨1, n, []⟩] = true := datB_of (sort1M (num_atom n h) rfl) (by simp)
theorem fitN (n : Int) (h : -5000 ≤ n ∧ n ≤ 5000) : fitsF colN [⟨1, n, []⟩] = 0 := by
  unfold fitsF
  simp [colN, outB, h]
theorem tdivM (a b : Int) (h : -5000 ≤ a ∧ a ≤ 5000) (hb : 1 ≤ b) : -5000 ≤ a.tdiv b ∧ a.tdiv b ≤ 5000 := by
  have h1 : (a.tdiv b).natAbs ≤ a.natAbs := by rw [Int.natAbs_tdiv]; exact Nat.div_le_self _ _
  omega
theorem tmodM (a b : Int) (h : -5000 ≤ a ∧ a ≤ 5000) : -5000 ≤ a.tmod b ∧ a.tmod b ≤ 5000 := by
  have h1 : (a.tmod b).natAbs ≤ a.natAbs := by rw [Int.natAbs_tmod]; exact Nat.mod_le _ _
  omega
def calcM (f a b : Int) : Int := if f = 1 then a + b else if f = 2 then a - b else if f = 4 then a.tdiv b else a.tmod b
theorem p_reckon (f a b : Int) (hf : f = 1 ∨ f = 2 ∨ f = 4 ∨ f = 5) (ha : -5000 ≤ a ∧ a ≤ 5000) (hb : 1 ≤ b ∧ b ≤ 5000) : impl_reckon f a b = some (calcM f a b, 0) := by
  have hb0 : (b == 0) = false := by simp; omega
  have h4 := tdivM a b ha hb.1
  have h5 := tmodM a b ha
  unfold impl_reckon impl_isNumber calcM
  rw [hb0, if_neg (by simp), Option.bind_some, if_neg (by simp)]
  rcases hf with rfl | rfl | rfl | rfl
  · rw [if_pos (by decide), if_pos rfl, w64_id (by omega), Option.bind_some, p_within, Option.bind_some, decide_eq_true (by omega)]; rfl
  · rw [if_neg (by decide), if_pos (by decide), if_neg (by decide), if_pos rfl, w64_id (by omega), Option.bind_some, p_within, Option.bind_some, decide_eq_true (by omega)]; rfl
  · rw [if_neg (by decide), if_neg (by decide), if_neg (by decide), if_pos (by decide), if_pos (by omega), if_neg (by decide), if_neg (by decide), if_pos rfl, w64_id (by omega), Option.bind_some, p_within, Option.bind_some, decide_eq_true (by omega)]; rfl
  · rw [if_neg (by decide), if_neg (by decide), if_neg (by decide), if_neg (by decide), if_pos (by decide), if_pos (by omega), if_neg (by decide), if_neg (by decide), if_neg (by decide), Option.bind_some, p_within, Option.bind_some, decide_eq_true (by omega)]; rfl
theorem setOf1 (x : GAtom) : impl_setOf [x] = some [x] := by
  obtain ⟨d, e, h1, h2, h3⟩ := p_setOf [x] (by simp)
  have : d = [x] := Strict.ext h1 (by unfold Strict; simp) h2
  rw [e, this]
theorem p_mutN (f a b : Int) (hf : f = 1 ∨ f = 2 ∨ f = 4 ∨ f = 5) (ha : -2500 ≤ a ∧ a ≤ 2500) (hb : 1 ≤ b ∧ b ≤ 2500) : impl_Mutate colN [⟨1, a, []⟩] ⟨[], f, [⟨1, b, []⟩]⟩ = some ([⟨1, calcM f a b, []⟩], 0) := by
  have hm : mutB ⟨[], f, [⟨1, b, []⟩]⟩ = true := by
    have e1 : decide (1 ≤ f ∧ f ≤ 7) = true := decide_eq_true (by omega)
    unfold mutB
    rw [e1, num_dat b (by omega)]
    rfl
  have h4 := tdivM a b (by omega) hb.1
  have h5 := tmodM a b (by omega)
  have hr : -5000 ≤ calcM f a b ∧ calcM f a b ≤ 5000 := by
    unfold calcM
    rcases hf with rfl | rfl | rfl | rfl <;> simp <;> omega
  rw [p_Mutate colN _ _ (num_dat a (by omega)) (by simp) colN_ok (fitN a (by omega)) hm (by simp) (p_typeCode _ _ (by intro x hx; simp at hx; subst hx; rfl) (fun _ => ⟨rfl, rfl⟩))]
  unfold impl_mutate
  have f6 : (f == 6) = false := by rcases hf with rfl | rfl | rfl | rfl <;> rfl
  have f7 : (f == 7) = false := by rcases hf with rfl | rfl | rfl | rfl <;> rfl
  rw [f6, f7, if_neg (by simp), if_neg (by simp), impl_mutate_L1]
  have ei : idx ([⟨1, b, []⟩] : List GAtom) 0 = some ⟨1, b, []⟩ := rfl
  rw [ei, Option.bind_some, p_reckon f a b hf (by omega) (by omega), Option.bind_some, if_neg (by simp), if_pos (by simp), impl_mutate_L1, Option.bind_some]
  simp only [List.nil_append]
  rw [setOf1, Option.bind_some, Option.bind_some]
  simp only
  rw [p_fits, fitN _ hr, Option.bind_some, if_neg (by simp)]
theorem p_mutZ (a : Int) (ha : -2500 ≤ a ∧ a ≤ 2500) : impl_Mutate colN [⟨1, a, []⟩] ⟨[], 4, [⟨1, 0, []⟩]⟩ = some ([], 4) := by
  rw [p_Mutate colN _ _ (num_dat a (by omega)) (by simp) colN_ok (fitN a (by omega)) (by decide) (by simp) (p_typeCode _ _ (by intro x hx; simp at hx; subst hx; rfl) (fun _ => ⟨rfl, rfl⟩))]
  rfl
theorem mutT_ok (f : Int) (v : List GAtom) (hf : f = 6 ∨ f = 7) (h : SortD 2 v) (hl : v.length ≤ 8) : mutB ⟨[], f, v⟩ = true := by
  have e1 : decide (1 ≤ f ∧ f ≤ 7) = true := decide_eq_true (by omega)
  unfold mutB
  rw [e1, datB_of h hl]
  rfl
theorem typT (f : Int) (v : List GAtom) (hf : f = 6 ∨ f = 7) (h : SortD 2 v) : impl_Mut_typeCode ⟨[], f, v⟩ colT = some 0 :=
  p_typeCode _ _ (fun x hx => (h.atom x (List.mem_of_getElem? hx)).2) (fun hh => by simp only at hh; omega)
theorem p_mutIns (d v x : List GAtom) (hd : SortD 2 d) (hv : SortD 2 v) (hx : SortD 2 x) (ld : d.length ≤ 4) (lv : v.length ≤ 4) (lx : x.length ≤ 8) (hm : ∀ y, y ∈ x ↔ y ∈ d ∨ y ∈ v) : impl_Mutate colT d ⟨[], 6, v⟩ = some (x, 0) := by
  rw [p_Mutate colT d _ (datB_of hd (by omega)) (by omega) colT_ok (fitT hd (by omega)) (mutT_ok 6 v (.inl rfl) hv (by omega)) (by simp only; omega) (typT 6 v (.inl rfl) hv)]
  obtain ⟨s, e, h1, h2, h3⟩ := p_setOf (d ++ v) (by simp; omega)
  have es : s = x := Strict.ext h1 hx.strict (fun y => by rw [h2, hm]; simp)
  unfold impl_mutate
  rw [if_pos (by rfl)]
  simp only
  rw [p_Concat2 d v (by omega), Option.bind_some, e, Option.bind_some, Option.bind_some, es]
  simp only
  rw [p_fits, fitT hx lx, Option.bind_some, if_neg (by simp)]
theorem p_mutDel (x v : List GAtom) (hx : SortD 2 x) (hv : SortD 2 v) (lx : x.length ≤ 8) (lv : v.length ≤ 4) : impl_Mutate colT x ⟨[], 7, v⟩ = some (keepA v x, 0) := by
  rw [p_Mutate colT x _ (datB_of hx (by omega)) (by omega) colT_ok (fitT hx (by omega)) (mutT_ok 7 v (.inr rfl) hv (by omega)) (by simp only; omega) (typT 7 v (.inr rfl) hv)]
  have lk : (keepA v x).length ≤ 8 := Nat.le_trans (List.length_filter_le _ _) lx
  unfold impl_mutate
  rw [if_neg (by simp), if_pos (by rfl)]
  simp only
  rw [p_less x v (by omega), Option.bind_some, Option.bind_some]
  simp only
  rw [p_fits, fitT (keep_sort hx v) lk, Option.bind_some, if_neg (by simp)]
theorem law_FnMutate (code more : List Int) (h1 : okL (okI .u8) code) (h2 : okL (okI .u8) more) : laws_FnMutate code more = some true := by
  unfold laws_FnMutate
  by_cases c1 : (code.length : Int) > 1048576
  · rw [if_pos (by simpa using c1)]; rfl
  by_cases c2 : (more.length : Int) > 1048576
  · rw [if_neg (by simpa using c1), Option.bind_some, if_pos (by simpa using c2)]
  rw [if_neg (by simpa using c1), Option.bind_some, if_neg (by simpa using c2)]
  have b1 : ∀ z ∈ code, 0 ≤ z ∧ z < 256 := fun z hz => by have := okI_u8.1 (h1.2 z hz); omega
  have b2 : ∀ z ∈ more, 0 ≤ z ∧ z < 256 := fun z hz => by have := okI_u8.1 (h2.2 z hz); omega
  obtain ⟨p, ep, p1, p2⟩ := p_at code 2000 b1 (by omega) (by omega) 0 (by omega)
  obtain ⟨q, eq, q1, q2⟩ := p_at more 900 b2 (by omega) (by omega) 0 (by omega)
  obtain ⟨d, ed, hd, ld⟩ := p_DatumDrawn code 2 b1 (by omega) (by omega)
  obtain ⟨v, ev, hv, lv⟩ := p_DatumDrawn more 2 b2 (by omega) (by omega)
  obtain ⟨x, ex, hx, mx, lx⟩ := p_Join 2 d v hd hv ld lv
  have ez := p_DatumLess 2 d v hd hv (by omega) (by omega)
  have q2' : keepA v x = keepA v d := sort_ext (keep_sort hx v) (keep_sort hd v) (fun y => by
    rw [mem_keep, mem_keep, mx]
    constructor
    · rintro ⟨h | h, h'⟩
      · exact ⟨h, h'⟩
      · exact absurd h h'
    · rintro ⟨h, h'⟩; exact ⟨.inl h, h'⟩)
  have m1 := p_mutIns d v x hd hv hx ld lv lx mx
  have m2 := p_mutDel x v hx hv lx lv
  rw [q2'] at m2
  have w1 : w64 (p - 1000) = p - 1000 := w64_id (by omega)
  have w2 : w64 (1 + q) = 1 + q := w64_id (by omega)
  have m3 := p_mutN 1 (p - 1000) (1 + q) (.inl rfl) (by omega) (by omega)
  have k3 : calcM 1 (p - 1000) (1 + q) = p - 1000 + (1 + q) := rfl
  have m4 := p_mutN 2 (p - 1000 + (1 + q)) (1 + q) (.inr (.inl rfl)) (by omega) (by omega)
  have k4 : calcM 2 (p - 1000 + (1 + q)) (1 + q) = p - 1000 := by show p - 1000 + (1 + q) - (1 + q) = p - 1000; omega
  have m5 := p_mutN 4 (p - 1000) (1 + q) (.inr (.inr (.inl rfl))) (by omega) (by omega)
  have k5 : calcM 4 (p - 1000) (1 + q) = (p - 1000).tdiv (1 + q) := rfl
  have m6 := p_mutN 5 (p - 1000) (1 + q) (.inr (.inr (.inr rfl))) (by omega) (by omega)
  have k6 : calcM 5 (p - 1000) (1 + q) = (p - 1000).tmod (1 + q) := rfl
  have m7 := p_mutZ (p - 1000) (by omega)
  rw [k3] at m3
  rw [k4] at m4
  rw [k5] at m5
  rw [k6] at m6
  unfold colT at m1 m2
  unfold colN at m3 m4 m5 m6 m7
  have bd := tdivM (p - 1000) (1 + q) (by omega) (by omega)
  have bm := tmodM (p - 1000) (1 + q) (by omega)
  have key : (p - 1000).tdiv (1 + q) * (1 + q) + (p - 1000).tmod (1 + q) = p - 1000 := by
    rw [Int.mul_comm]; exact Int.mul_tdiv_add_tmod _ _
  have w3 : w64 ((p - 1000).tdiv (1 + q) * (1 + q)) = (p - 1000).tdiv (1 + q) * (1 + q) := w64_id (by omega)
  have w4 : w64 ((p - 1000).tdiv (1 + q) * (1 + q) + (p - 1000).tmod (1 + q)) = p - 1000 := by rw [key]; exact w64_id (by omega)
  have i1 (u : GAtom) : idx [u] 0 = some u := rfl
  simp only [ep, eq, ed, ev, ex, ez, w1, w2, Option.bind_some]
  simp only [m1, m2, m3, m4, m5, m6, m7, Option.bind_some]
  simp [p_same, i1, w3, w4]
end Go.R
