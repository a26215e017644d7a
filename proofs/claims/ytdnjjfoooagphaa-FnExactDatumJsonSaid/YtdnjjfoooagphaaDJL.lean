/- Plain laws of what this statement reaches. -/
import Derived.Test.YtdnjjfoooagphaaDJH
import Derived.Test.YtdnjjfoooagphaaP0
set_option linter.all false
namespace Go.R
open Go
set_option linter.all false
def charB (c : UInt8) : Bool := !(decide ((c.toNat : Int) < 32) || decide ((c.toNat : Int) > 126))
def textB (t : Str) : Bool := t.all charB && decide ((t.length : Int) ≤ 200)
theorem p_plain_L1 : ∀ t : Str, impl_isPlain_L1 t = some (if t.all charB = true then .go () else .ret false)
  | [] => by rw [impl_isPlain_L1]; simp
  | x :: xs => by
    rw [impl_isPlain_L1, p_plain_L1 xs]
    by_cases h1 : (x.toNat : Int) < 32
    · simp [h1, charB]
    · by_cases h2 : (x.toNat : Int) > 126
      · simp [h1, h2, charB]
      · simp [h1, h2, charB]
theorem p_plain (t : Str) : impl_isPlain t = some (textB t) := by
  unfold impl_isPlain textB
  rw [p_plain_L1]
  by_cases h : t.all charB = true
  · simp only [h, if_pos, Option.bind_some, Bool.true_and]
  · simp only [h, Bool.not_eq_true] at h ⊢
    simp [h]
theorem p_within (n a b : Int) : impl_within n a b = some (decide (a ≤ n ∧ n ≤ b)) := by
  unfold impl_within
  by_cases h : a ≤ n <;> simp [h]
theorem p_text_L1 : ∀ t : Str, spec_l01Text_L1 t = some (if t.all charB = true then .go () else .ret false)
  | [] => by rw [spec_l01Text_L1]; simp
  | x :: xs => by
    rw [spec_l01Text_L1, p_text_L1 xs]
    by_cases h1 : (x.toNat : Int) < 32
    · simp [h1, charB]
    · by_cases h2 : (x.toNat : Int) > 126
      · simp [h1, h2, charB]
      · simp [h1, h2, charB]
theorem p_text (t : Str) : spec_l01Text t = some (textB t) := by
  unfold spec_l01Text textB
  rw [p_text_L1]
  by_cases h : t.all charB = true
  · simp only [h, if_pos, Option.bind_some, Bool.true_and]
  · simp only [h, Bool.not_eq_true] at h ⊢
    simp [h]
theorem p_in (n a b : Int) : spec_l01In n a b = some (decide (a ≤ n ∧ n ≤ b)) := by
  unfold spec_l01In
  by_cases h : a ≤ n <;> simp [h]
theorem cmpB_range : ∀ a b : Str, Lib.compareBytes a b = -1 ∨ Lib.compareBytes a b = 0 ∨ Lib.compareBytes a b = 1
  | [], [] => by simp [Lib.compareBytes]
  | [], _ :: _ => by simp [Lib.compareBytes]
  | _ :: _, [] => by simp [Lib.compareBytes]
  | a :: xs, b :: ys => by
    have := cmpB_range xs ys
    unfold Lib.compareBytes
    split
    · simp
    · split
      · simp
      · exact this
theorem u8_tri (a b : UInt8) : a < b ∨ a = b ∨ b < a := by
  simp only [UInt8.lt_iff_toNat_lt, ← UInt8.toNat_inj]
  omega
theorem u8_asym {a b : UInt8} (h : a < b) : ¬ b < a := by
  simp only [UInt8.lt_iff_toNat_lt] at *
  omega
theorem cmpB_zero : ∀ a b : Str, Lib.compareBytes a b = 0 ↔ a = b
  | [], [] => by simp [Lib.compareBytes]
  | [], _ :: _ => by simp [Lib.compareBytes]
  | _ :: _, [] => by simp [Lib.compareBytes]
  | a :: xs, b :: ys => by
    have ih := cmpB_zero xs ys
    unfold Lib.compareBytes
    rcases u8_tri a b with h | h | h
    · have hne : a ≠ b := by rintro rfl; exact UInt8.lt_irrefl _ h
      simp [h, hne]
    · subst h; simp [UInt8.lt_irrefl, ih]
    · have hne : a ≠ b := by rintro rfl; exact UInt8.lt_irrefl _ h
      simp [h, u8_asym h, hne]
theorem cmpB_less : ∀ a b : Str, Op.bytesLess a b = decide (Lib.compareBytes a b < 0)
  | [], [] => by simp [Lib.compareBytes, Op.bytesLess]
  | [], _ :: _ => by simp [Lib.compareBytes, Op.bytesLess]
  | _ :: _, [] => by simp [Lib.compareBytes, Op.bytesLess]
  | a :: xs, b :: ys => by
    have ih := cmpB_less xs ys
    unfold Lib.compareBytes Op.bytesLess
    rcases u8_tri a b with h | h | h
    · simp [h]
    · subst h; simp [UInt8.lt_irrefl, ih]
    · have hne : ¬ a = b := by rintro rfl; exact UInt8.lt_irrefl _ h
      simp [h, u8_asym h, hne]
def ordA (a b : GAtom) : Int := if a.Kind ≠ b.Kind then (if a.Kind < b.Kind then -1 else 1) else if a.N ≠ b.N then (if a.N < b.N then -1 else 1) else Lib.compareBytes a.T b.T
theorem p_cmpInt (x y : Int) : cmp_Compare_int x y = some (if x < y then -1 else if x > y then 1 else 0) := by
  unfold cmp_Compare_int cmp_isNaN_int
  by_cases h1 : x < y <;> by_cases h2 : x > y <;> simp [h1, h2]
theorem p_compareAtoms (a b : GAtom) : impl_compareAtoms a b = some (ordA a b) := by
  unfold impl_compareAtoms strings_Compare internal_bytealg_CompareString cmp_Or_int
  simp only [p_cmpInt, Option.bind_some]
  unfold ordA
  by_cases h1 : a.Kind = b.Kind
  · by_cases h2 : a.N = b.N
    · have e1 : (if a.Kind < b.Kind then (-1 : Int) else if a.Kind > b.Kind then 1 else 0) = 0 := by rw [h1]; simp
      have e2 : (if a.N < b.N then (-1 : Int) else if a.N > b.N then 1 else 0) = 0 := by rw [h2]; simp
      rw [e1, e2]
      simp only [cmp_Or_int_L1, h1, h2]
      by_cases h3 : Lib.compareBytes a.T b.T = 0
      · simp [h3]
      · simp [h3]
    · have e1 : (if a.Kind < b.Kind then (-1 : Int) else if a.Kind > b.Kind then 1 else 0) = 0 := by rw [h1]; simp
      rw [e1]
      rcases Int.lt_or_gt_of_ne h2 with h3 | h3
      · simp [cmp_Or_int_L1, h1, h2, h3]
      · have h4 : ¬ a.N < b.N := by omega
        simp [cmp_Or_int_L1, h1, h2, h3, h4]
  · rcases Int.lt_or_gt_of_ne h1 with h3 | h3
    · simp [cmp_Or_int_L1, h1, h3]
    · have h4 : ¬ a.Kind < b.Kind := by omega
      simp [cmp_Or_int_L1, h1, h3, h4]
theorem p_Order (a b : GAtom) : spec_l03Order a b = some (ordA a b) := by
  unfold spec_l03Order spec_l01Bit ordA
  have w0 : w64 (1 - w64 0) = 1 := by decide
  have w1 : w64 (1 - w64 2) = -1 := by decide
  by_cases h1 : a.Kind = b.Kind
  · by_cases h2 : a.N = b.N
    · simp only [h1, h2, bne_self_eq_false, Bool.false_eq_true, if_false, ne_eq, not_true_eq_false, cmpB_less]
      by_cases h3 : a.T = b.T
      · simp [h3, (cmpB_zero b.T b.T).2 rfl]
      · have hne : Lib.compareBytes a.T b.T ≠ 0 := fun h => h3 ((cmpB_zero _ _).1 h)
        rcases cmpB_range a.T b.T with h | h | h
        · simp [h3, h, w1]
        · exact absurd h hne
        · simp [h3, h, w0]
    · by_cases h3 : a.N < b.N <;> simp [h1, h2, h3, w0, w1]
  · by_cases h3 : a.Kind < b.Kind <;> simp [h1, h3, w0, w1]
def atomB (a : GAtom) : Bool :=
  (decide (a.Kind = 1) && decide (-1000000000 ≤ a.N ∧ a.N ≤ 1000000000) && decide (a.T = [])) ||
  (decide (a.Kind = 2) && decide (a.N = 0) && textB a.T) ||
  (decide (a.Kind = 3) && decide (0 ≤ a.N ∧ a.N ≤ 1) && decide (a.T = [])) ||
  (decide (a.Kind = 4) && decide (1 ≤ a.N ∧ a.N ≤ 1000000) && decide (a.T = []))
theorem p_AtomOK (a : GAtom) : impl_AtomOK a = some (atomB a) := by
  unfold impl_AtomOK impl_isNumber impl_isId atomB
  simp only [p_within, p_plain, Option.bind_some]
  by_cases h1 : a.Kind = 1
  · simp only [h1]
    by_cases c : (-1000000000 ≤ a.N ∧ a.N ≤ 1000000000) <;> by_cases d : a.T = [] <;> simp [c, d]
  by_cases h2 : a.Kind = 2
  · simp only [h2]
    by_cases c : a.N = 0 <;> simp [c]
  by_cases h3 : a.Kind = 3
  · simp only [h3]
    by_cases c : (0 ≤ a.N ∧ a.N ≤ 1) <;> by_cases d : a.T = [] <;> simp [c, d]
  by_cases h4 : a.Kind = 4
  · simp only [h4]
    by_cases c : (1 ≤ a.N ∧ a.N ≤ 1000000) <;> by_cases d : a.T = [] <;> simp [c, d]
  · simp [h1, h2, h3, h4]
def stepB (d : List GAtom) (q : Nat) (x : GAtom) : Bool :=
  atomB x && (match d[0]? with | some h => x.Kind == h.Kind | none => false) && (q == 0 || match d[q - 1]? with | some y => decide (ordA y x < 0) | none => false)
def allS (d : List GAtom) : List GAtom → Nat → Bool
  | [], _ => true
  | x :: xs, i => stepB d i x && allS d xs (i + 1)
def datB (d : List GAtom) : Bool := allS d d 0 && decide ((d.length : Int) ≤ 8)
theorem p_step (d : List GAtom) (i : Nat) (x : GAtom) (hi : i < d.length) (hl : d.length ≤ maxLen) (A : GAtom → Option Bool) (hA : ∀ a, A a = some (atomB a)) (O : GAtom → GAtom → Option Int) (hO : ∀ a b, O a b = some (ordA a b)) :
    ((A x).bind fun r_110 =>
    if (!r_110) then
    some true
    else
    (idx d 0).bind fun x_113 =>
    if (x.Kind != x_113.Kind) then
    some true
    else
    if (decide ((i : Int) > 0)) then
    (idx d (w64 ((i : Int) - 1))).bind fun x_117 =>
    (O x_117 x).bind fun r_119 =>
    some (decide (r_119 ≥ 0))
    else
    some false : Option Bool) = some (!stepB d i x) := by
  simp only [maxLen] at hl
  obtain ⟨h, hh⟩ : ∃ h, d[0]? = some h := ⟨d[0], List.getElem?_eq_getElem (by omega)⟩
  have e0 : idx d 0 = some h := by rw [show (0 : Int) = ((0 : Nat) : Int) from rfl, idx_nat, hh]
  rw [hA, Option.bind_some, e0]
  unfold stepB
  rw [hh]
  by_cases ha : atomB x = true
  · by_cases hk : x.Kind = h.Kind
    · by_cases h0 : i = 0
      · subst h0; simp [ha, hk]
      · obtain ⟨y, hy⟩ : ∃ y, d[i - 1]? = some y := ⟨d[i - 1], List.getElem?_eq_getElem (by omega)⟩
        have e1 : w64 ((i : Int) - 1) = ((i - 1 : Nat) : Int) := by rw [w64_id (by omega)]; omega
        rw [e1, idx_nat, hy]
        have hp : 0 < i := by omega
        simp [ha, hk, h0, hO, hp]
        by_cases hc : ordA y x < 0
        · have : ¬ 0 ≤ ordA y x := by omega
          simp [hc, this, h0]
        · have : 0 ≤ ordA y x := by omega
          simp [hc, this, h0]
    · simp [ha, hk]
  · simp only [Bool.not_eq_true] at ha
    simp [ha]
theorem p_DatumOK_L1 (d : List GAtom) (hl : d.length ≤ maxLen) : ∀ (xs : List GAtom) (i : Nat), d.drop i = xs → impl_DatumOK_L1 d xs i = some (if allS d xs i = true then .go () else .ret false)
  | [], i, h => by rw [impl_DatumOK_L1]; simp [allS]
  | x :: xs, i, h => by
    rw [impl_DatumOK_L1, p_step d i x (drop_lt h) hl impl_AtomOK p_AtomOK impl_compareAtoms p_compareAtoms, Option.bind_some, p_DatumOK_L1 d hl xs (i + 1) (drop_next h)]
    cases hs : stepB d i x <;> simp [allS, hs]
theorem p_DatumOK (d : List GAtom) (hl : d.length ≤ maxLen) : impl_DatumOK d = some (datB d) := by
  unfold impl_DatumOK datB
  rw [p_DatumOK_L1 d hl d 0 (by simp)]
  cases allS d d 0 <;> simp
theorem p_sAtomOK (a : GAtom) : spec_AtomOK a = some (atomB a) := by
  unfold spec_AtomOK atomB
  simp only [p_in, p_text, Option.bind_some]
  by_cases h1 : a.Kind = 1
  · simp only [h1]
    by_cases c : (-1000000000 ≤ a.N ∧ a.N ≤ 1000000000) <;> by_cases d : a.T = [] <;> simp [c, d]
  by_cases h2 : a.Kind = 2
  · simp only [h2]
    by_cases c : a.N = 0 <;> simp [c]
  by_cases h3 : a.Kind = 3
  · simp only [h3]
    by_cases c : (0 ≤ a.N ∧ a.N ≤ 1) <;> by_cases d : a.T = [] <;> simp [c, d]
  by_cases h4 : a.Kind = 4
  · simp only [h4]
    by_cases c : (1 ≤ a.N ∧ a.N ≤ 1000000) <;> by_cases d : a.T = [] <;> simp [c, d]
  · simp [h1, h2, h3, h4]
theorem p_sDatumOK_L1 (d : List GAtom) (hl : d.length ≤ maxLen) : ∀ (xs : List GAtom) (i : Nat), d.drop i = xs → spec_DatumOK_L1 d xs i = some (if allS d xs i = true then .go () else .ret false)
  | [], i, h => by rw [spec_DatumOK_L1]; simp [allS]
  | x :: xs, i, h => by
    rw [spec_DatumOK_L1, p_step d i x (drop_lt h) hl spec_AtomOK p_sAtomOK spec_l03Order p_Order, Option.bind_some, p_sDatumOK_L1 d hl xs (i + 1) (drop_next h)]
    cases hs : stepB d i x <;> simp [allS, hs]
theorem p_sDatumOK (d : List GAtom) : spec_DatumOK d = some (datB d) := by
  unfold spec_DatumOK datB
  by_cases h : (d.length : Int) > 4096
  · rw [if_pos (by simpa using h)]
    have : ¬ (d.length : Int) ≤ 8 := by omega
    simp [this]
  · rw [if_neg (by simpa using h), p_sDatumOK_L1 d (by simp only [maxLen]; omega) d 0 (by simp)]
    cases allS d d 0 <;> simp
theorem p_l01Own_L1 (rec : GJson → Option GJson) : ∀ (xs out : List GJson), (∀ x ∈ xs, rec x = some x) → out.length + xs.length ≤ 2 ^ 30 → spec_l01Own_B_L1 rec xs out = some (out ++ xs)
  | [], out, _, _ => by rw [spec_l01Own_B_L1]; simp
  | x :: xs, out, hr, h => by
    simp only [List.length_cons] at h
    rw [spec_l01Own_B_L1, hr x (by simp), Option.bind_some, if_pos (by simp; omega), p_l01Own_L1 rec xs _ (fun y hy => hr y (by simp [hy])) (by simp; omega)]
    simp
theorem p_l01Own_F : ∀ (k : Nat) (j : GJson), wtJson j < k → wtJson j ≤ 2 ^ 30 → spec_l01Own k j = some j
  | 0, j, h, _ => by omega
  | k + 1, j, h, h2 => by
    rw [wtJson_eq] at h h2
    have hl := wtJsonS_len j.Items
    have hk : j.Keys.length ≤ wtStringS j.Keys := by unfold wtStringS; omega
    rw [spec_l01Own]
    unfold spec_l01Own_B
    rw [if_pos (by simp; omega), Option.bind_some, p_l01Own_L1 (spec_l01Own k) j.Items [] (fun y hy => by have := wtJsonS_mem hy; exact p_l01Own_F k y (by omega) (by omega)) (by simp; omega)]
    cases j
    simp
theorem p_l01Own (j : GJson) (h : wtJson j ≤ 2 ^ 30) : spec_l01Own FUEL j = some j := p_l01Own_F FUEL j (fuel_lt (by omega)) h
theorem p_atomJson (a : GAtom) : ∃ j, impl_atomJson a = some j ∧ wtJson j ≤ a.T.length + 20 := by
  unfold impl_atomJson
  by_cases k1 : (a.Kind == 1) = true
  · rw [if_pos k1]
    exact ⟨_, rfl, by simp [wtJson, wtStringS, swStringS, wtJsonS]⟩
  rw [if_neg k1]
  by_cases k2 : (a.Kind == 2) = true
  · rw [if_pos k2]
    exact ⟨_, rfl, by simp [wtJson, wtStringS, swStringS, wtJsonS]⟩
  rw [if_neg k2]
  by_cases k3 : (a.Kind == 3) = true
  · rw [if_pos k3]
    unfold impl_jsBool
    split
    · exact ⟨_, rfl, by simp [wtJson, wtStringS, swStringS, wtJsonS]⟩
    · exact ⟨_, rfl, by simp [wtJson, wtStringS, swStringS, wtJsonS]⟩
  rw [if_neg k3]
  refine ⟨_, rfl, ?_⟩
  simp [wtJson, wtStringS, swStringS, wtJsonS]
theorem p_l13Atom (a : GAtom) : spec_l13Atom a = impl_atomJson a := by
  unfold spec_l13Atom impl_atomJson
  have h : ∀ b, spec_l13B b = impl_jsBool b := fun b => by cases b <;> rfl
  have h2 : ∀ x y : GJson, spec_l13L_h0 [x, y] = impl_jsList_h0 [x, y] := fun x y => by
    unfold spec_l13L_h0 impl_jsList_h0
    rw [if_pos (by simp)]
    rfl
  simp only [h, h2]
  rfl
theorem p_datJ_L1 : ∀ (xs : List GAtom) (out : List GJson), out.length + xs.length ≤ 2 ^ 30 → ∃ js, impl_datumJson_L1 xs out = some (out ++ js) ∧ spec_l13Datum_L1 xs out = some (out ++ js) ∧ js.length = xs.length ∧ wtJsonS js ≤ swAtomS xs + 21 * xs.length
  | [], out, _ => ⟨[], by rw [impl_datumJson_L1]; simp, by rw [spec_l13Datum_L1]; simp, rfl, by simp [wtJsonS]⟩
  | x :: xs, out, h => by
    simp only [List.length_cons] at h
    obtain ⟨j, e, hj⟩ := p_atomJson x
    obtain ⟨js, e1, e2, e3, e4⟩ := p_datJ_L1 xs (out ++ [j]) (by simp; omega)
    refine ⟨j :: js, ?_, ?_, by simp [e3], ?_⟩
    · rw [impl_datumJson_L1, e, Option.bind_some, if_pos (by simp; omega), e1]; simp
    · rw [spec_l13Datum_L1, p_l13Atom, e, Option.bind_some, if_pos (by simp; omega), e2]; simp
    · simp only [wtJsonS, swAtomS, wtAtom, List.length_cons]; omega
theorem p_datJ (d : List GAtom) (h : wtAtomS d ≤ 2 ^ 20) : ∃ j, impl_datumJson d = some j ∧ spec_l13Datum d = some j ∧ wtJson j ≤ 2 ^ 25 := by
  unfold wtAtomS at h
  unfold impl_datumJson spec_l13Datum
  obtain ⟨js, e1, e2, e3, e4⟩ := p_datJ_L1 d [] (by simp; omega)
  rw [e1]
  simp only [Option.bind_some, List.nil_append, e3]
  by_cases h1 : d.length = 1
  · have h1' : ((d.length : Int) == 1) = true := by simp [h1]
    rw [if_pos h1', if_pos h1']
    obtain ⟨x, rfl⟩ : ∃ x, d = [x] := by
      match d, h1 with
      | [x], _ => exact ⟨x, rfl⟩
    rw [impl_datumJson_L1] at e1
    obtain ⟨j, e, hj⟩ := p_atomJson x
    rw [e, Option.bind_some, if_pos (by simp), impl_datumJson_L1] at e1
    simp only [List.nil_append, Option.some.injEq] at e1
    subst e1
    refine ⟨j, by simp, ?_, ?_⟩
    · simp [idx, p_l13Atom, e]
    · simp only [swAtomS, wtAtom, List.length_cons] at h; omega
  · have h1' : ((d.length : Int) == 1) = false := by simp; omega
    rw [if_neg (by simp [h1']), if_neg (by simp [h1'])]
    refine ⟨⟨4, 0, [], [], [⟨3, 0, [115, 101, 116], [], []⟩, ⟨4, 0, [], [], js⟩]⟩, rfl, ?_, ?_⟩
    · have q1 : spec_l13L_h1 = some ⟨4, 0, [], [], []⟩ := by unfold spec_l13L_h1; simp
      have q2 : spec_l13T [115, 101, 116] = some ⟨3, 0, [115, 101, 116], [], []⟩ := rfl
      have q3 : ∀ x y : GJson, spec_l13L_h0 [x, y] = some ⟨4, 0, [], [], [x, y]⟩ := fun x y => by unfold spec_l13L_h0; simp
      rw [q1, Option.bind_some, e2, Option.bind_some, q2, Option.bind_some, q3]
      rfl
    · simp only [wtJson, wtJsonS, wtStringS, swStringS, List.length_cons, List.length_nil]; omega
theorem p_DatumJson (d : List GAtom) (h : wtAtomS d ≤ 2 ^ 20) : ∃ j c, impl_DatumJson d = some (j, c) ∧ spec_DatumJson d = some (j, c) ∧ wtJson j ≤ 2 ^ 25 := by
  unfold impl_DatumJson spec_DatumJson impl_isList_impl_Atom
  have hl : d.length ≤ maxLen := by unfold wtAtomS at h; simp only [maxLen]; omega
  have wz : wtJson ⟨0, 0, [], [], []⟩ ≤ 2 ^ 25 := by simp [wtJson, wtJsonS, wtStringS, swStringS]
  rw [Option.bind_some, p_DatumOK d hl, p_sDatumOK]
  by_cases h1 : (d.length : Int) ≤ 4096
  · have e1 : decide ((d.length : Int) ≤ 4096) = true := decide_eq_true h1
    have e2 : decide ((d.length : Int) > 4096) = false := decide_eq_false (by omega)
    rw [e1, e2]
    cases datB d with
    | false => exact ⟨_, _, rfl, rfl, wz⟩
    | true =>
      obtain ⟨j, q1, q2, q3⟩ := p_datJ d h
      have q4 := p_l01Own j (by omega)
      exact ⟨j, 0, by simp [q1], by simp [q2, q4], q3⟩
  · have e1 : decide ((d.length : Int) ≤ 4096) = false := decide_eq_false h1
    have e2 : decide ((d.length : Int) > 4096) = true := decide_eq_true (by omega)
    rw [e1, e2]
    exact ⟨_, _, rfl, rfl, wz⟩
theorem law_FnExactDatumJson (d : List GAtom) (h : okL (okGAtom) d) : laws_FnExactDatumJson d = some true := by
  unfold laws_FnExactDatumJson
  obtain ⟨r, e, hr⟩ := p_szAtomS d 1048576 (by omega) (by omega) h
  rw [e, Option.bind_some]
  split
  · rfl
  · rename_i hn
    simp only [decide_eq_true_eq] at hn
    obtain ⟨h1, h2⟩ := hr.resolve_left hn
    have hw : wtAtomS d ≤ 1048576 := by omega
    have et := p_toAtomS d (by omega)
    obtain ⟨x, c, e1, e2, k1⟩ := p_DatumJson d (by omega)
    have q1 := cnt_wtAtomS d
    have m1 := p_markAtomS d 1 (fit_wtAtomS d (by omega)) (by omega) (by omega)
    have q2 := cnt_wtJson x
    have m2 := p_markJson x 1 (fit_wtJson x (by omega)) (by omega) (by omega)
    have m3 := p_heldJson x 1 (fit_wtJson x (by omega)) (by omega) (by omega)
    have eq1 := p_eqAtomS d
    have eq2 := p_eqJson x (by omega)
    have em : (⟨x.Kind, x.N, x.T, (mkJson x 1).Keys, (mkJson x 1).Items⟩ : GJson) = mkJson x 1 := by rw [mkJson_eq]
    have n1 : decide ((1 : Int) + (cntAtomS d : Nat) < 0) = false := decide_eq_false (by omega)
    have n2 : decide ((1 : Int) + (cntJson x : Nat) < 0) = false := decide_eq_false (by omega)
    simp only [et, Option.bind_some, e1, e2, eq1, eq2, m1, m2, em, m3, n1, n2, Bool.not_true, Bool.false_eq_true, if_false, bne_self_eq_false, cond_false]
end Go.R
