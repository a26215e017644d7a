/- Plain laws of what this statement reaches. -/
import Derived.Test.YtgmkibkmcohikaaRJH
import Derived.Test.YtgmkibkmcohikaaP0
set_option linter.all false
namespace Go.R
open Go
set_option linter.all false
def charB (c : UInt8) : Bool := !(decide ((c.toNat : Int) < 32) || decide ((c.toNat : Int) > 126))
def textB (t : Str) : Bool := t.all charB && decide ((t.length : Int) ≤ 200)
theorem p_plain_L1 : ∀ t : Str, impl_isPlain_L1 t = some (if t.all charB = true then .go () else .ret false)
  | [] => by rw [impl_isPlain_L1]; simp
  | x :: xs => by
    rw [impl_isPlain_L1, p_plain_L1 xs]
    by_cases h1 : (x.toNat : Int) < 32
    · simp [h1, charB]
    · by_cases h2 : (x.toNat : Int) > 126
      · simp [h1, h2, charB]
      · simp [h1, h2, charB]
theorem p_plain (t : Str) : impl_isPlain t = some (textB t) := by
  unfold impl_isPlain textB
  rw [p_plain_L1]
  by_cases h : t.all charB = true
  · simp only [h, if_pos, Option.bind_some, Bool.true_and]
  · simp only [h, Bool.not_eq_true] at h ⊢
    simp [h]
theorem p_within (n a b : Int) : impl_within n a b = some (decide (a ≤ n ∧ n ≤ b)) := by
  unfold impl_within
  by_cases h : a ≤ n <;> simp [h]
theorem p_text_L1 : ∀ t : Str, spec_l01Text_L1 t = some (if t.all charB = true then .go () else .ret false)
  | [] => by rw [spec_l01Text_L1]; simp
  | x :: xs => by
    rw [spec_l01Text_L1, p_text_L1 xs]
    by_cases h1 : (x.toNat : Int) < 32
    · simp [h1, charB]
    · by_cases h2 : (x.toNat : Int) > 126
      · simp [h1, h2, charB]
      · simp [h1, h2, charB]
theorem p_text (t : Str) : spec_l01Text t = some (textB t) := by
  unfold spec_l01Text textB
  rw [p_text_L1]
  by_cases h : t.all charB = true
  · simp only [h, if_pos, Option.bind_some, Bool.true_and]
  · simp only [h, Bool.not_eq_true] at h ⊢
    simp [h]
theorem p_in (n a b : Int) : spec_l01In n a b = some (decide (a ≤ n ∧ n ≤ b)) := by
  unfold spec_l01In
  by_cases h : a ≤ n <;> simp [h]
theorem orIf {α : Type} (a b : Bool) (x y : α) : (if (bif a then true else b) = true then x else y) = (if a = true then x else if b = true then x else y) := by cases a <;> simp
/-- a key at its place -/
def keyAt (ks : List Str) (i : Nat) : Bool := match ks[i]? with
  | some x => textB x && (decide (i = 0) || match ks[i - 1]? with | some y => Op.bytesLess y x | none => false)
  | none => false
theorem p_areKeys_L1 (ks : List Str) (hl : ks.length ≤ maxLen) : ∀ (xs : List Str) (i : Nat), ks.drop i = xs →
    impl_areKeys_L1 ks xs i = some (.go ()) ∧ (∀ q, i ≤ q → q < ks.length → keyAt ks q = true) ∨ impl_areKeys_L1 ks xs i = some (.ret false) ∧ ∃ q, i ≤ q ∧ q < ks.length ∧ keyAt ks q = false
  | [], i, h => by
    refine .inl ⟨by rw [impl_areKeys_L1], fun q h1 h2 => ?_⟩
    have := List.drop_eq_nil_iff.1 h
    omega
  | x :: xs, i, h => by
    have hi := drop_lt h
    have hx : ks[i]? = some x := by rw [← idx_nat]; exact idx_drop h
    rw [impl_areKeys_L1, p_plain, Option.bind_some]
    have hnext := p_areKeys_L1 ks hl xs (i + 1) (drop_next h)
    simp only [maxLen] at hl
    by_cases ht : textB x = true
    · rw [if_neg (by simp [ht])]
      by_cases h0 : i = 0
      · subst h0
        rw [if_neg (by simp), Option.bind_some, if_neg (by simp)]
        have hk : keyAt ks 0 = true := by unfold keyAt; simp [hx, ht]
        rcases hnext with ⟨e, hq⟩ | ⟨e, q, q1, q2, q3⟩
        · refine .inl ⟨e, fun q h1 h2 => ?_⟩
          by_cases hq0 : q = 0
          · rw [hq0]; exact hk
          · exact hq q (by omega) h2
        · exact .inr ⟨e, q, by omega, q2, q3⟩
      · rw [if_pos (by simp; omega), w64_id (by omega)]
        obtain ⟨y, hy⟩ : ∃ y, ks[i - 1]? = some y := ⟨ks[i - 1], List.getElem?_eq_getElem (by omega)⟩
        have e1 : (i : Int) - 1 = ((i - 1 : Nat) : Int) := by omega
        rw [e1, idx_nat, hy, Option.bind_some, Option.bind_some]
        have hk : keyAt ks i = Op.bytesLess y x := by unfold keyAt; simp [hx, ht, h0, hy]
        by_cases hb : Op.bytesLess y x = true
        · rw [if_neg (by simp [hb])]
          rcases hnext with ⟨e, hq⟩ | ⟨e, q, q1, q2, q3⟩
          · refine .inl ⟨e, fun q h1 h2 => ?_⟩
            by_cases hq0 : q = i
            · rw [hq0, hk]; exact hb
            · exact hq q (by omega) h2
          · exact .inr ⟨e, q, by omega, q2, q3⟩
        · simp only [Bool.not_eq_true] at hb
          rw [if_pos (by simp [hb])]
          exact .inr ⟨rfl, i, Nat.le_refl _, hi, by rw [hk, hb]⟩
    · simp only [Bool.not_eq_true] at ht
      rw [if_pos (by simp [ht]), Option.bind_some, if_pos rfl]
      exact .inr ⟨rfl, i, Nat.le_refl _, hi, by unfold keyAt; simp [hx, ht]⟩
theorem p_areKeys (ks : List Str) (hl : ks.length ≤ maxLen) : ∃ b, impl_areKeys ks = some b ∧ (b = true ↔ ∀ q, q < ks.length → keyAt ks q = true) := by
  unfold impl_areKeys
  rcases p_areKeys_L1 ks hl ks 0 (by simp) with ⟨e, hq⟩ | ⟨e, q, q1, q2, q3⟩
  · rw [e]; exact ⟨true, rfl, by simp; exact fun q h => hq q (by omega) h⟩
  · rw [e]; refine ⟨false, rfl, ?_⟩
    simp only [Bool.false_eq_true, false_iff]
    intro h
    rw [h q q2] at q3
    cases q3
/-- one node -/
def NodeP (j : GJson) : Prop :=
  (j.Kind = 0 ∧ j.N = 0 ∧ j.T = [] ∧ j.Keys = [] ∧ j.Items = []) ∨
  (j.Kind = 1 ∧ (0 ≤ j.N ∧ j.N ≤ 1) ∧ j.T = [] ∧ j.Keys = [] ∧ j.Items = []) ∨
  (j.Kind = 2 ∧ (-1000000000 ≤ j.N ∧ j.N ≤ 1000000000) ∧ j.T = [] ∧ j.Keys = [] ∧ j.Items = []) ∨
  (j.Kind = 3 ∧ j.N = 0 ∧ textB j.T = true ∧ j.Keys = [] ∧ j.Items = []) ∨
  (j.Kind = 4 ∧ j.N = 0 ∧ j.T = [] ∧ j.Keys = []) ∨
  (j.Kind = 5 ∧ j.N = 0 ∧ j.T = [] ∧ j.Keys.length = j.Items.length ∧ ∀ q, q < j.Keys.length → keyAt j.Keys q = true)
theorem p_partOK (j : GJson) (hl : j.Keys.length ≤ maxLen) : ∃ b, impl_Json_partOK j = some b ∧ (b = true ↔ NodeP j) := by
  obtain ⟨kb, ek, hk⟩ := p_areKeys j.Keys hl
  unfold impl_Json_partOK impl_isNumber NodeP
  simp only [p_within, p_plain, ek, Option.bind_some]
  by_cases h0 : j.Kind = 0
  · simp only [h0]
    by_cases h1 : j.N = 0 <;> by_cases h2 : j.T = [] <;> by_cases h3 : j.Keys = [] <;> by_cases h4 : j.Items = [] <;> simp_all
  by_cases h1 : j.Kind = 1
  · simp only [h1]
    by_cases c : (0 ≤ j.N ∧ j.N ≤ 1) <;> by_cases h2 : j.T = [] <;> by_cases h3 : j.Keys = [] <;> by_cases h4 : j.Items = [] <;> simp_all
  by_cases h2 : j.Kind = 2
  · simp only [h2]
    by_cases c : (-1000000000 ≤ j.N ∧ j.N ≤ 1000000000) <;> by_cases h2 : j.T = [] <;> by_cases h3 : j.Keys = [] <;> by_cases h4 : j.Items = [] <;> simp_all
  by_cases h3 : j.Kind = 3
  · simp only [h3]
    by_cases h1 : j.N = 0 <;> by_cases h2 : textB j.T = true <;> by_cases h3 : j.Keys = [] <;> by_cases h4 : j.Items = [] <;> simp_all
  by_cases h4 : j.Kind = 4
  · simp only [h4]
    by_cases h1 : j.N = 0 <;> by_cases h2 : j.T = [] <;> by_cases h3 : j.Keys = [] <;> simp_all
  by_cases h5 : j.Kind = 5
  · simp only [h5]
    by_cases h1 : j.N = 0 <;> by_cases h2 : j.T = [] <;> by_cases h3 : j.Keys.length = j.Items.length <;> simp_all <;> omega
  refine ⟨false, ?_, ?_⟩
  · simp [h0, h1, h2, h3, h4, h5]
  · simp [h0, h1, h2, h3, h4, h5]
def OkD : Nat → GJson → Prop
  | 0, _ => False
  | d + 1, j => NodeP j ∧ ∀ y ∈ j.Items, OkD d y
def cntD : Nat → GJson → Int
  | 0, _ => 0
  | d + 1, j => 1 + (j.Items.map (cntD d)).sum
theorem sum_nn {α : Type} (f : α → Int) (hf : ∀ x, 0 ≤ f x) : ∀ l : List α, 0 ≤ (l.map f).sum
  | [] => by simp
  | x :: xs => by simp only [List.map_cons, List.sum_cons]; have := hf x; have := sum_nn f hf xs; omega
theorem cntD_nn : ∀ (d : Nat) (j : GJson), 0 ≤ cntD d j
  | 0, j => by simp [cntD]
  | d + 1, j => by simp only [cntD]; have := sum_nn (cntD d) (cntD_nn d) j.Items; omega
theorem p_idx_L1 (R : GJson → Int → Int → Option (Bool × Int)) (d : Nat) (deep : Int) : ∀ (xs : List GJson) (s8 : Nat) (room : Int), 0 ≤ room → room ≤ 400 →
    (∀ y ∈ xs, ∀ room, 0 ≤ room → room ≤ 400 → ∃ b room', R y (w64 (deep + 1)) room = some (b, room') ∧ room' ≤ room ∧ (b = true ↔ OkD d y ∧ cntD d y ≤ room) ∧ (b = true → room' = room - cntD d y)) →
    (slices_IndexFunc_impl_Json_impl_Json_h0_L1 R xs s8 deep room = some (.go (deep, room - (xs.map (cntD d)).sum)) ∧ (∀ y ∈ xs, OkD d y) ∧ (xs.map (cntD d)).sum ≤ room) ∨
    (∃ (i : Nat) (r' : Int), slices_IndexFunc_impl_Json_impl_Json_h0_L1 R xs s8 deep room = some (.ret ((i : Int), deep, r')) ∧ r' ≤ room ∧ ¬ ((∀ y ∈ xs, OkD d y) ∧ (xs.map (cntD d)).sum ≤ room))
  | [], s8, room, h0, h1, hR => .inl ⟨by rw [slices_IndexFunc_impl_Json_impl_Json_h0_L1]; simp, by simp, by simpa using h0⟩
  | x :: xs, s8, room, h0, h1, hR => by
    rw [slices_IndexFunc_impl_Json_impl_Json_h0_L1]
    unfold impl_Json_rightIn_1_h0
    obtain ⟨b, r1, e, g1, g2, g3⟩ := hR x (by simp) room h0 h1
    rw [e]
    simp only [Option.bind_some]
    have hs := sum_nn (cntD d) (cntD_nn d) xs
    have hx := cntD_nn d x
    cases b with
    | true =>
      obtain ⟨k1, k2⟩ := g2.1 rfl
      have k3 := g3 rfl
      rw [if_neg (by simp)]
      rcases p_idx_L1 R d deep xs (s8 + 1) r1 (by omega) (by omega) (fun y hy => hR y (by simp [hy])) with ⟨e2, q1, q2⟩ | ⟨i, r', e2, q1, q2⟩
      · refine .inl ⟨?_, ?_, ?_⟩
        · rw [e2]; simp only [List.map_cons, List.sum_cons]; congr 3; omega
        · intro y hy
          rcases List.mem_cons.1 hy with rfl | hy
          · exact k1
          · exact q1 y hy
        · simp only [List.map_cons, List.sum_cons]; omega
      · refine .inr ⟨i, r', e2, by omega, fun ⟨f1, f2⟩ => q2 ⟨fun y hy => f1 y (by simp [hy]), ?_⟩⟩
        simp only [List.map_cons, List.sum_cons] at f2
        omega
    | false =>
      rw [if_pos (by simp)]
      refine .inr ⟨s8, r1, rfl, g1, fun ⟨f1, f2⟩ => ?_⟩
      simp only [List.map_cons, List.sum_cons] at f2
      have := g2.2 ⟨f1 x (by simp), by omega⟩
      cases this
theorem p_rightIn : ∀ (k d : Nat) (j : GJson) (room : Int), d ≤ 12 → d < k → 0 ≤ room → room ≤ 400 → okGJson j →
    ∃ b room', impl_Json_rightIn k j (12 - d) room = some (b, room') ∧ room' ≤ room ∧ (b = true ↔ OkD d j ∧ cntD d j ≤ room) ∧ (b = true → room' = room - cntD d j)
  | 0, d, j, room, _, hk, _, _, _ => by omega
  | k + 1, d, j, room, hd, hk, h0, h1, ok => by
    obtain ⟨o1, o2, o3, o4⟩ := ok.parts
    rw [impl_Json_rightIn]
    unfold impl_Json_rightIn_B
    rw [w64_id (by omega)]
    simp only [orIf]
    by_cases c1 : room - 1 < 0
    · rw [if_pos (by simpa using c1), Option.bind_some, if_pos rfl]
      refine ⟨false, room - 1, rfl, by omega, ?_, by simp⟩
      simp only [Bool.false_eq_true, false_iff, not_and]
      intro ho
      cases d with
      | zero => exact ho.elim
      | succ d => simp only [cntD]; have := sum_nn (cntD d) (cntD_nn d) j.Items; omega
    rw [if_neg (by simpa using c1)]
    cases d with
    | zero =>
      rw [if_pos (by simp), Option.bind_some, if_pos rfl]
      exact ⟨false, room - 1, rfl, by omega, by simp [OkD], by simp⟩
    | succ d =>
      rw [if_neg (by simp; omega)]
      obtain ⟨pb, ep, hp⟩ := p_partOK j o2.1
      rw [ep, Option.bind_some, Option.bind_some]
      cases pb with
      | false =>
        rw [if_pos (by simp)]
        refine ⟨false, room - 1, rfl, by omega, ?_, by simp⟩
        simp only [Bool.false_eq_true, false_iff, not_and, OkD]
        intro ⟨hn, _⟩
        have := hp.2 hn
        cases this
      | true =>
        rw [if_neg (by simp)]
        have hdeep : w64 (12 - ((d + 1 : Nat) : Int) + 1) = 12 - (d : Int) := by rw [w64_id (by omega)]; omega
        have hloop := p_idx_L1 (impl_Json_rightIn k) d (12 - ((d + 1 : Nat) : Int)) j.Items 0 (room - 1) (by omega) (by omega) (fun y hy rm a1 a2 => by
          rw [hdeep]
          exact p_rightIn k d y rm (by omega) (by omega) a1 a2 (o4 y hy))
        unfold slices_ContainsFunc_impl_Json_impl_Json_h0 slices_IndexFunc_impl_Json_impl_Json_h0
        rcases hloop with ⟨e2, q1, q2⟩ | ⟨i, r', e2, q1, q2⟩
        · rw [e2]
          refine ⟨true, room - 1 - (j.Items.map (cntD d)).sum, by simp, ?_, ?_, ?_⟩
          · have := sum_nn (cntD d) (cntD_nn d) j.Items; omega
          · simp only [true_iff, OkD, cntD]; exact ⟨⟨hp.1 rfl, q1⟩, by omega⟩
          · intro _; simp only [cntD]; omega
        · rw [e2]
          refine ⟨false, r', by simp, by omega, ?_, by simp⟩
          simp only [Bool.false_eq_true, false_iff, OkD, cntD]
          rintro ⟨⟨_, f1⟩, f2⟩
          exact q2 ⟨f1, by omega⟩
theorem p_key (ks : List Str) (hl : ks.length ≤ maxLen) (i : Nat) (hi : i < ks.length) : ((idx ks (i : Int)).bind fun x => (spec_l01Text x).bind fun r => if (!r) then some true else if (decide ((i : Int) > 0)) then (idx ks (w64 ((i : Int) - 1))).bind fun y => (idx ks (i : Int)).bind fun z => some (!Op.bytesLess y z) else some false) = some (!keyAt ks i) := by
  obtain ⟨x, hx⟩ : ∃ x, ks[i]? = some x := ⟨ks[i], List.getElem?_eq_getElem hi⟩
  simp only [maxLen] at hl
  rw [idx_nat, hx, Option.bind_some, p_text, Option.bind_some]
  unfold keyAt
  rw [hx]
  by_cases ht : textB x = true
  · simp only [ht]
    by_cases h0 : i = 0
    · subst h0; simp
    · obtain ⟨y, hy⟩ : ∃ y, ks[i - 1]? = some y := ⟨ks[i - 1], List.getElem?_eq_getElem (by omega)⟩
      have e1 : (i : Int) - 1 = ((i - 1 : Nat) : Int) := by omega
      rw [w64_id (by omega), e1, idx_nat, hy, if_neg (by simp), if_pos (by simp; omega)]
      simp [h0]
  · simp only [Bool.not_eq_true] at ht
    simp [ht]
theorem p_l01_L1 (j : GJson) (rec : GJson → Int → Option (Int × Bool)) (d : Nat) (deep : Int) (hkl : j.Kind = 5 → j.Keys.length = j.Items.length) (hl : j.Keys.length ≤ maxLen) : ∀ (xs : List GJson) (n : Int) (i : Nat), j.Items.drop i = xs → 0 ≤ n → n ≤ 400 →
    (∀ y ∈ xs, ∃ m b, rec y (w64 (deep - 1)) = some (m, b) ∧ (b = true ↔ OkD d y ∧ cntD d y ≤ 400) ∧ (b = true → m = cntD d y)) →
    (spec_l01OK_B_L1 j rec deep xs n i = some (.go (n + (xs.map (cntD d)).sum)) ∧ (∀ y ∈ xs, OkD d y) ∧ n + (xs.map (cntD d)).sum ≤ 400 ∧ (j.Kind = 5 → ∀ q, i ≤ q → q < j.Keys.length → keyAt j.Keys q = true)) ∨
    (spec_l01OK_B_L1 j rec deep xs n i = some (.ret (0, false)) ∧ ¬ ((∀ y ∈ xs, OkD d y) ∧ n + (xs.map (cntD d)).sum ≤ 400 ∧ (j.Kind = 5 → ∀ q, i ≤ q → q < j.Keys.length → keyAt j.Keys q = true)))
  | [], n, i, h, h0, h1, hr => by
    refine .inl ⟨by rw [spec_l01OK_B_L1]; simp, by simp, by simpa using h1, fun h5 q a b => ?_⟩
    have := List.drop_eq_nil_iff.1 h
    have := hkl h5
    omega
  | x :: xs, n, i, h, h0, h1, hr => by
    have hi := drop_lt h
    rw [spec_l01OK_B_L1]
    have hs := sum_nn (cntD d) (cntD_nn d) xs
    have hx := cntD_nn d x
    have key : ((if (j.Kind == 5) then
    (idx j.Keys (i : Int)).bind fun x_219 =>
    (spec_l01Text x_219).bind fun r_221 =>
    if (!r_221) then
    some true
    else
    if (decide ((i : Int) > 0)) then
    (idx j.Keys (w64 ((i : Int) - 1))).bind fun x_225 =>
    (idx j.Keys (i : Int)).bind fun x_227 =>
    some (!Op.bytesLess x_225 x_227)
    else
    some false
    else
    some false : Option Bool)) = some (decide (j.Kind = 5) && !keyAt j.Keys i) := by
      by_cases h5 : j.Kind = 5
      · rw [if_pos (by simp [h5]), p_key j.Keys hl i (by have := hkl h5; omega)]
        simp [h5]
      · rw [if_neg (by simp [h5])]; simp [h5]
    rw [key, Option.bind_some]
    by_cases hk : (decide (j.Kind = 5) && !keyAt j.Keys i) = true
    · rw [if_pos hk]
      refine .inr ⟨rfl, fun ⟨_, _, f⟩ => ?_⟩
      simp only [Bool.and_eq_true, decide_eq_true_eq, Bool.not_eq_true'] at hk
      have := f hk.1 i (Nat.le_refl _) (by have := hkl hk.1; omega)
      rw [this] at hk
      cases hk.2
    · rw [if_neg hk]
      obtain ⟨m, b, e, g1, g2⟩ := hr x (by simp)
      rw [e, Option.bind_some]
      cases b with
      | false =>
        simp only [Bool.not_false, if_pos, Option.bind_some]
        refine .inr ⟨trivial, fun ⟨f1, f2, _⟩ => ?_⟩
        simp only [List.map_cons, List.sum_cons] at f2
        have := g1.2 ⟨f1 x (by simp), by omega⟩
        cases this
      | true =>
        have hm := g2 rfl
        obtain ⟨k1, k2⟩ := g1.1 rfl
        simp only
        rw [if_neg (by simp), Option.bind_some, w64_id (by omega)]
        by_cases hc : n + m > 400
        · rw [if_pos (by simpa using hc)]
          refine .inr ⟨rfl, fun ⟨f1, f2, _⟩ => ?_⟩
          simp only [List.map_cons, List.sum_cons] at f2
          omega
        · rw [if_neg (by simpa using hc)]
          have hkey : j.Kind = 5 → keyAt j.Keys i = true := by
            intro h5
            simp only [h5, decide_true, Bool.true_and, Bool.not_eq_true', Bool.not_eq_false] at hk
            exact hk
          rcases p_l01_L1 j rec d deep hkl hl xs (n + m) (i + 1) (drop_next h) (by omega) (by omega) (fun y hy => hr y (by simp [hy])) with ⟨e2, q1, q2, q3⟩ | ⟨e2, q⟩
          · refine .inl ⟨?_, ?_, ?_, ?_⟩
            · rw [e2]; simp only [List.map_cons, List.sum_cons]; congr 2; omega
            · intro y hy
              rcases List.mem_cons.1 hy with rfl | hy
              · exact k1
              · exact q1 y hy
            · simp only [List.map_cons, List.sum_cons]; omega
            · intro h5 q a b
              by_cases hq : q = i
              · rw [hq]; exact hkey h5
              · exact q3 h5 q (by omega) b
          · refine .inr ⟨e2, fun ⟨f1, f2, f3⟩ => q ⟨fun y hy => f1 y (by simp [hy]), ?_, fun h5 q a b => f3 h5 q (by omega) b⟩⟩
            simp only [List.map_cons, List.sum_cons] at f2
            omega
theorem cnt_leaf {d : Nat} {j : GJson} (h : j.Items = []) : cntD (d + 1) j = 1 := by simp [cntD, h]
theorem p_l01OK : ∀ (k d : Nat) (j : GJson), d < k → d ≤ 12 → okGJson j → ∃ n b, spec_l01OK k j d = some (n, b) ∧ (b = true ↔ OkD d j ∧ cntD d j ≤ 400) ∧ (b = true → n = cntD d j)
  | 0, d, j, hk, _, _ => by omega
  | k + 1, 0, j, hk, hd, ok => by
    rw [spec_l01OK]
    unfold spec_l01OK_B
    rw [if_pos (by simp)]
    exact ⟨0, false, rfl, by simp [OkD], by simp⟩
  | k + 1, d + 1, j, hk, hd, ok => by
    obtain ⟨o1, o2, o3, o4⟩ := ok.parts
    rw [spec_l01OK]
    unfold spec_l01OK_B
    rw [if_neg (by simp; omega)]
    have hdeep : w64 (((d + 1 : Nat) : Int) - 1) = (d : Int) := by rw [w64_id (by omega)]; omega
    have leaf : ∀ c : Bool, (c = true ↔ NodeP j) → (NodeP j → j.Items = []) → ∃ n b, some ((1 : Int), c) = some (n, b) ∧ (b = true ↔ OkD (d + 1) j ∧ cntD (d + 1) j ≤ 400) ∧ (b = true → n = cntD (d + 1) j) := by
      intro c hc hi
      refine ⟨1, c, rfl, ?_, fun h => (cnt_leaf (hi (hc.1 h))).symm⟩
      rw [hc]
      constructor
      · intro h
        refine ⟨⟨h, by simp [hi h]⟩, ?_⟩
        rw [cnt_leaf (hi h)]; omega
      · rintro ⟨⟨h, _⟩, _⟩; exact h
    have plainE : ((if ((j.Keys.length : Int) == 0) then some ((j.Items.length : Int) == 0) else some false : Option Bool)) = some (decide (j.Keys = [] ∧ j.Items = [])) := by
      by_cases h1 : j.Keys = [] <;> by_cases h2 : j.Items = [] <;> simp [h1, h2]
    rw [plainE, Option.bind_some]
    by_cases k0 : j.Kind = 0
    · rw [if_pos (by simp [k0])]
      have := leaf (decide (j.Keys = [] ∧ j.Items = []) && decide (j.N = 0) && decide (j.T = [])) (by simp [NodeP, k0]; grind) (by simp [NodeP, k0])
      by_cases h1 : (j.Keys = [] ∧ j.Items = []) <;> by_cases h2 : j.N = 0 <;> by_cases h3 : j.T = [] <;> simpa [h1, h2, h3] using this
    rw [if_neg (by simp [k0])]
    by_cases k1 : j.Kind = 1
    · rw [if_pos (by simp [k1])]
      simp only [p_in, Option.bind_some]
      have := leaf (decide (j.Keys = [] ∧ j.Items = []) && decide (0 ≤ j.N ∧ j.N ≤ 1) && decide (j.T = [])) (by simp [NodeP, k1]; grind) (by simp [NodeP, k1])
      by_cases h1 : (j.Keys = [] ∧ j.Items = []) <;> by_cases h2 : (0 ≤ j.N ∧ j.N ≤ 1) <;> by_cases h3 : j.T = [] <;> simpa [h1, h2, h3] using this
    rw [if_neg (by simp [k1])]
    by_cases k2 : j.Kind = 2
    · rw [if_pos (by simp [k2])]
      simp only [p_in, Option.bind_some]
      have := leaf (decide (j.Keys = [] ∧ j.Items = []) && decide (-1000000000 ≤ j.N ∧ j.N ≤ 1000000000) && decide (j.T = [])) (by simp [NodeP, k2]; grind) (by simp [NodeP, k2])
      by_cases h1 : (j.Keys = [] ∧ j.Items = []) <;> by_cases h2 : (-1000000000 ≤ j.N ∧ j.N ≤ 1000000000) <;> by_cases h3 : j.T = [] <;> simpa [h1, h2, h3] using this
    rw [if_neg (by simp [k2])]
    by_cases k3 : j.Kind = 3
    · rw [if_pos (by simp [k3])]
      simp only [p_text, Option.bind_some]
      have := leaf (decide (j.Keys = [] ∧ j.Items = []) && decide (j.N = 0) && textB j.T) (by simp [NodeP, k3]; grind) (by simp [NodeP, k3])
      by_cases h1 : (j.Keys = [] ∧ j.Items = []) <;> by_cases h2 : j.N = 0 <;> simpa [h1, h2] using this
    rw [if_neg (by simp [k3])]
    by_cases hn : (j.Kind = 4 ∧ j.N = 0 ∧ j.T = [] ∧ j.Keys = []) ∨ (j.Kind = 5 ∧ j.N = 0 ∧ j.T = [] ∧ j.Keys.length = j.Items.length)
    · have hnode : NodeP j ↔ (j.Kind = 5 → ∀ q, q < j.Keys.length → keyAt j.Keys q = true) := by
        rcases hn with ⟨a1, a2, a3, a4⟩ | ⟨a1, a2, a3, a4⟩
        · simp [NodeP, a1, a2, a3, a4]
        · simp [NodeP, a1, a2, a3, a4]
      have hkl : j.Kind = 5 → j.Keys.length = j.Items.length := by
        intro h5
        rcases hn with ⟨a1, _⟩ | ⟨_, _, _, a4⟩
        · omega
        · exact a4
      have hloop := p_l01_L1 j (spec_l01OK k) d ((d + 1 : Nat) : Int) hkl o2.1 j.Items 1 0 (by simp) (by omega) (by omega) (fun y hy => by
        rw [hdeep]
        exact p_l01OK k d y (by omega) (by omega) (o4 y hy))
      have hc : (bif (bif (bif (bif (bif (j.Kind != 4) then (j.Kind != 5) else false) then true else (j.N != 0)) then true else (!(j.T == []))) then true else (bif (j.Kind == 4) then (decide ((j.Keys.length : Int) > 0)) else false)) then true else (bif (j.Kind == 5) then ((j.Keys.length : Int) != (j.Items.length : Int)) else false)) = false := by
        rcases hn with ⟨a1, a2, a3, a4⟩ | ⟨a1, a2, a3, a4⟩
        · simp [a1, a2, a3, a4]
        · simp [a1, a2, a3, a4]
      simp only [hc, Option.bind_some, Bool.false_eq_true, if_false]
      rcases hloop with ⟨e2, q1, q2, q3⟩ | ⟨e2, q⟩
      · rw [e2]
        refine ⟨_, true, rfl, ?_, fun _ => by simp only [cntD]⟩
        simp only [true_iff, OkD, cntD]
        exact ⟨⟨hnode.2 fun h5 q hq => q3 h5 q (by omega) hq, q1⟩, q2⟩
      · rw [e2]
        refine ⟨0, false, rfl, ?_, by simp⟩
        simp only [Bool.false_eq_true, false_iff, OkD, cntD]
        rintro ⟨⟨f1, f2⟩, f3⟩
        exact q ⟨f2, f3, fun h5 q _ hq => hnode.1 f1 h5 q hq⟩
    · have hnn : ¬ NodeP j := by
        intro h
        apply hn
        unfold NodeP at h
        rcases h with h | h | h | h | h | h
        · exact absurd h.1 k0
        · exact absurd h.1 k1
        · exact absurd h.1 k2
        · exact absurd h.1 k3
        · exact .inl h
        · exact .inr ⟨h.1, h.2.1, h.2.2.1, h.2.2.2.1⟩
      refine ⟨0, false, ?_, by simp [OkD, hnn], by simp⟩
      by_cases k4 : j.Kind = 4
      · simp only [k4]
        by_cases h1 : j.N = 0 <;> by_cases h2 : j.T = [] <;> by_cases h3 : j.Keys = [] <;> simp [h1, h2, h3, List.length_pos_iff] <;> simp_all
      · by_cases k5 : j.Kind = 5
        · simp only [k5]
          by_cases h1 : j.N = 0 <;> by_cases h2 : j.T = [] <;> by_cases h3 : j.Keys.length = j.Items.length <;> simp [h1, h2, h3] <;> first | (intro h; omega) | simp_all
        · simp [k4, k5]
theorem fuel_gt : 2 ^ 40 < FUEL := by unfold FUEL; decide
theorem p_JsonOK_both (j : GJson) (ok : okGJson j) : ∃ b, impl_JsonOK j = some b ∧ spec_JsonOK j = some b ∧ (b = true ↔ OkD 12 j ∧ cntD 12 j ≤ 400) := by
  have hf := fuel_gt
  obtain ⟨b, room', e1, _, h1, _⟩ := p_rightIn FUEL 12 j 400 (by omega) (by omega) (by omega) (by omega) ok
  obtain ⟨n, b', e2, h2, _⟩ := p_l01OK FUEL 12 j (by omega) (by omega) ok
  have hb : b = b' := by rw [Bool.eq_iff_iff, h1, h2]
  refine ⟨b, ?_, ?_, h1⟩
  · unfold impl_JsonOK
    have : (12 : Int) - ((12 : Nat) : Int) = 0 := by decide
    rw [this] at e1
    rw [e1, Option.bind_some]
  · unfold spec_JsonOK
    have e2' : spec_l01OK FUEL j 12 = some (n, b') := e2
    rw [e2', Option.bind_some, hb]
theorem p_CloneS (l : List Str) (h : l.length ≤ 2 ^ 30) : slices_Clone_string_string l = some l := by
  unfold slices_Clone_string_string
  rw [if_pos (by simpa using h)]
  simp
theorem p_copyJson_L1 (rec : GJson → Option GJson) : ∀ (xs out : List GJson), (∀ x ∈ xs, rec x = some x) → out.length + xs.length ≤ 2 ^ 30 → impl_copyJson_B_L1 rec xs out = some (out ++ xs)
  | [], out, _, _ => by rw [impl_copyJson_B_L1]; simp
  | x :: xs, out, hr, h => by
    simp only [List.length_cons] at h
    rw [impl_copyJson_B_L1, hr x (by simp), Option.bind_some, if_pos (by simp; omega), p_copyJson_L1 rec xs _ (fun y hy => hr y (by simp [hy])) (by simp; omega)]
    simp
theorem p_copyJson_F : ∀ (k : Nat) (j : GJson), wtJson j < k → wtJson j ≤ 2 ^ 30 → impl_copyJson k j = some j
  | 0, j, h, _ => by omega
  | k + 1, j, h, h2 => by
    rw [wtJson_eq] at h h2
    have hl := wtJsonS_len j.Items
    have hk : j.Keys.length ≤ wtStringS j.Keys := by unfold wtStringS; omega
    rw [impl_copyJson]
    unfold impl_copyJson_B
    rw [p_CloneS _ (by omega), Option.bind_some, p_copyJson_L1 (impl_copyJson k) j.Items [] (fun y hy => by have := wtJsonS_mem hy; exact p_copyJson_F k y (by omega) (by omega)) (by simp; omega), Option.bind_some]
    split
    · cases j; simp
    · rename_i c
      have : j.Items = [] := by
        cases hj : j.Items with
        | nil => rfl
        | cons a l => simp [hj] at c; try omega
      cases j
      simp_all
theorem p_copyJson (j : GJson) (h : wtJson j ≤ 2 ^ 30) : impl_copyJson FUEL j = some j := p_copyJson_F FUEL j (fuel_lt (by omega)) h
theorem p_l01Own_L1 (rec : GJson → Option GJson) : ∀ (xs out : List GJson), (∀ x ∈ xs, rec x = some x) → out.length + xs.length ≤ 2 ^ 30 → spec_l01Own_B_L1 rec xs out = some (out ++ xs)
  | [], out, _, _ => by rw [spec_l01Own_B_L1]; simp
  | x :: xs, out, hr, h => by
    simp only [List.length_cons] at h
    rw [spec_l01Own_B_L1, hr x (by simp), Option.bind_some, if_pos (by simp; omega), p_l01Own_L1 rec xs _ (fun y hy => hr y (by simp [hy])) (by simp; omega)]
    simp
theorem p_l01Own_F : ∀ (k : Nat) (j : GJson), wtJson j < k → wtJson j ≤ 2 ^ 30 → spec_l01Own k j = some j
  | 0, j, h, _ => by omega
  | k + 1, j, h, h2 => by
    rw [wtJson_eq] at h h2
    have hl := wtJsonS_len j.Items
    have hk : j.Keys.length ≤ wtStringS j.Keys := by unfold wtStringS; omega
    rw [spec_l01Own]
    unfold spec_l01Own_B
    rw [if_pos (by simp; omega), Option.bind_some, p_l01Own_L1 (spec_l01Own k) j.Items [] (fun y hy => by have := wtJsonS_mem hy; exact p_l01Own_F k y (by omega) (by omega)) (by simp; omega)]
    cases j
    simp
theorem p_l01Own (j : GJson) (h : wtJson j ≤ 2 ^ 30) : spec_l01Own FUEL j = some j := p_l01Own_F FUEL j (fuel_lt (by omega)) h
theorem p_codeWords : ∀ n : Fin 20, (impl_CodeWord (n.val : Int) == spec_CodeWord (n.val : Int) && (match spec_CodeWord (n.val : Int) with | some w => decide (w.length ≤ 20) | none => false)) = true := by decide +kernel
theorem p_CodeWord (c : Int) (h : 0 ≤ c ∧ c ≤ 19) : ∃ w, impl_CodeWord c = some w ∧ spec_CodeWord c = some w ∧ w.length ≤ 20 := by
  obtain ⟨n, rfl⟩ : ∃ n : Nat, c = n := ⟨c.toNat, by omega⟩
  have := p_codeWords ⟨n, by omega⟩
  simp only [Bool.and_eq_true, beq_iff_eq] at this
  obtain ⟨h1, h2⟩ := this
  cases hw : spec_CodeWord (n : Int) with
  | none => rw [hw] at h2; cases h2
  | some w => exact ⟨w, by rw [h1, hw], rfl, by rw [hw] at h2; simpa using h2⟩
theorem fuel_3 : ∃ k, FUEL = k + 3 := ⟨FUEL - 3, by unfold FUEL; omega⟩
theorem p_replyO (r e s : GJson) : spec_l13O [[105, 100], [101, 114, 114, 111, 114], [114, 101, 115, 117, 108, 116]] [r, e, s] = some ⟨5, 0, [], [[101, 114, 114, 111, 114], [105, 100], [114, 101, 115, 117, 108, 116]], [e, r, s]⟩ := by
  obtain ⟨k, hk⟩ := fuel_3
  have b1 : Op.bytesLess [105, 100] [101, 114, 114, 111, 114] = false := by decide
  have b2 : Op.bytesLess [101, 114, 114, 111, 114] [114, 101, 115, 117, 108, 116] = true := by decide
  have b3 : Op.bytesLess [105, 100] [114, 101, 115, 117, 108, 116] = true := by decide
  have w1 : w64 1 = 1 := by decide
  have w2 : w64 (1 + 1) = 2 := by decide
  have w3 : w64 2 = 2 := by decide
  have l0 : spec_l13O_L2 [] [105, 100] FUEL 0 = some 0 := by rw [hk, spec_l13O_L2]; simp
  have l1 : spec_l13O_L2 [[105, 100]] [101, 114, 114, 111, 114] FUEL 0 = some 0 := by rw [hk, spec_l13O_L2]; simp [b1]
  have l2 : spec_l13O_L2 [[101, 114, 114, 111, 114], [105, 100]] [114, 101, 115, 117, 108, 116] FUEL 0 = some 2 := by
    rw [hk, spec_l13O_L2]
    simp [b2, w1]
    rw [spec_l13O_L2]
    simp [b3, w1, w2, w3]
    rw [spec_l13O_L2]
    simp
  unfold spec_l13O
  rw [spec_l13O_L1, l0]
  simp [idx]
  rw [spec_l13O_L1, l1]
  simp [idx]
  rw [spec_l13O_L1, l2]
  simp [idx]
  rw [spec_l13O_L1]
  rfl
theorem okI_i64 {n : Int} : okI .i64 n ↔ -(2 ^ 63) ≤ n ∧ n ≤ 2 ^ 63 - 1 := by
  have h1 : IntKind.i64.min = -(2 ^ 63) := by decide
  have h2 : IntKind.i64.max = 2 ^ 63 - 1 := by decide
  simp [okI, Lit.wf, h1, h2]
theorem okJ0 : okGJson ⟨0, 0, [], [], []⟩ := .mk (okI_i64.2 (by simp only; omega)) (okI_i64.2 (by simp only; omega)) (by simp [okS]) ⟨by simp, by simp⟩ (by simp) (by simp)
theorem okJT {w : Str} (h : w.length ≤ 20) : okGJson ⟨3, 0, w, [], []⟩ := .mk (okI_i64.2 (by simp only; omega)) (okI_i64.2 (by simp only; omega)) (by simp [okS, maxLen]; omega) ⟨by simp, by simp⟩ (by simp) (by simp)
theorem okJN {n : Int} (h : -1000000000 ≤ n ∧ n ≤ 1000000000) : okGJson ⟨2, n, [], [], []⟩ := .mk (okI_i64.2 (by simp only; omega)) (okI_i64.2 (by simp only; omega)) (by simp [okS]) ⟨by simp, by simp⟩ (by simp) (by simp)
theorem okJR {a b c : GJson} (ha : okGJson a) (hb : okGJson b) (hc : okGJson c) : okGJson ⟨5, 0, [], [[101, 114, 114, 111, 114], [105, 100], [114, 101, 115, 117, 108, 116]], [a, b, c]⟩ := .mk (okI_i64.2 (by simp only; omega)) (okI_i64.2 (by simp only; omega)) (by simp [okS]) ⟨by simp [maxLen], by simp [okS, maxLen]⟩ (by simp [maxLen]) (by
  intro y hy
  simp only [List.mem_cons, List.not_mem_nil, or_false] at hy
  rcases hy with rfl | rfl | rfl <;> assumption)
/-- the reply's parts -/
theorem p_reply (i c : Int) (j : GJson) (hi : -1000000000 ≤ i ∧ i ≤ 1000000000) (hc : 0 ≤ c ∧ c ≤ 19) (ok : okGJson j) (hw : wtJson j ≤ 2 ^ 20) : ∃ x, impl_replyJson_h0 i c j.Kind j.N j.T j.Keys j.Items = some x ∧ spec_l13Reply i c j = some x ∧ okGJson x ∧ wtJson x ≤ 2 ^ 20 + 100 := by
  unfold impl_replyJson_h0 spec_l13Reply
  obtain ⟨w, e1, e2, hl⟩ := p_CodeWord c hc
  have ej : (⟨j.Kind, j.N, j.T, j.Keys, j.Items⟩ : GJson) = j := by cases j; rfl
  have nn : ∀ n, impl_jsNumber n = some ⟨2, n, [], [], []⟩ := fun _ => rfl
  have n2 : ∀ n, spec_l13N n = some ⟨2, n, [], [], []⟩ := fun _ => rfl
  have t1 : ∀ n, impl_jsText n = some ⟨3, 0, n, [], []⟩ := fun _ => rfl
  have t2 : ∀ n, spec_l13T n = some ⟨3, 0, n, [], []⟩ := fun _ => rfl
  by_cases h0 : c = 0
  · refine ⟨_, ?_, ?_, okJR okJ0 (okJN hi) ok, ?_⟩
    · simp [h0, nn, impl_jsObject_h0, ej]
    · simp [h0, n2, p_replyO, ej]
    · simp [wtJson, wtJsonS, wtStringS, swStringS]; omega
  · refine ⟨_, ?_, ?_, okJR (okJT hl) (okJN hi) okJ0, ?_⟩
    · simp [h0, nn, e1, t1, impl_jsObject_h0]
    · simp [h0, n2, e2, t2, p_replyO]
    · simp [wtJson, wtJsonS, wtStringS, swStringS]; omega
theorem p_ReplyJson (i c : Int) (j : GJson) (ok : okGJson j) (hw : wtJson j ≤ 2 ^ 20) : ∃ x d, impl_ReplyJson i c j = some (x, d) ∧ spec_ReplyJson i c j = some (x, d) ∧ wtJson x ≤ 2 ^ 20 + 100 := by
  obtain ⟨b, e1, e2, hb⟩ := p_JsonOK_both j ok
  unfold impl_ReplyJson spec_ReplyJson impl_isNumber
  simp only [p_within, p_in, e1, e2, Option.bind_some]
  have wz : wtJson ⟨0, 0, [], [], []⟩ ≤ 2 ^ 20 + 100 := by simp [wtJson, wtJsonS, wtStringS, swStringS]
  by_cases hi : (-1000000000 ≤ i ∧ i ≤ 1000000000)
  · by_cases hc : (0 ≤ c ∧ c ≤ 19)
    · cases b with
      | false => exact ⟨⟨0, 0, [], [], []⟩, 1, by simp [hi, hc], by simp [hi, hc], wz⟩
      | true =>
        obtain ⟨x, g1, g2, g3, g4⟩ := p_reply i c j hi hc ok hw
        obtain ⟨b', f1, f2, hb'⟩ := p_JsonOK_both x g3
        have cp := p_copyJson j (by omega)
        have ow := p_l01Own x (by omega)
        cases b' with
        | false => exact ⟨⟨0, 0, [], [], []⟩, 18, by simp [hi, hc, cp, g1, f1], by simp [hi, hc, g2, f2], wz⟩
        | true => exact ⟨x, 0, by simp [hi, hc, cp, g1, f1], by simp [hi, hc, g2, f2, ow], g4⟩
    · exact ⟨⟨0, 0, [], [], []⟩, 1, by simp [hi, hc], by cases b <;> simp [hi, hc], wz⟩
  · exact ⟨⟨0, 0, [], [], []⟩, 1, by simp [hi], by cases b <;> by_cases hc : (0 ≤ c ∧ c ≤ 19) <;> simp [hi, hc], wz⟩
theorem law_FnExactReplyJson (i c : Int) (j : GJson) (hi : okI .i64 i) (hc : okI .i64 c) (h : okGJson j) : laws_FnExactReplyJson i c j = some true := by
  unfold laws_FnExactReplyJson
  obtain ⟨r, e, hr⟩ := p_szJson j 1048576 (by omega) (by omega) h
  rw [e, Option.bind_some]
  split
  · rfl
  · rename_i hn
    simp only [decide_eq_true_eq] at hn
    obtain ⟨h1, h2⟩ := hr.resolve_left hn
    have hw : wtJson j ≤ 1048576 := by omega
    have et := p_toJson j (by omega)
    obtain ⟨x, d, e1, e2, k1⟩ := p_ReplyJson i c j h (by omega)
    have q1 := cnt_wtJson j
    have m1 := p_markJson j 1 (fit_wtJson j (by omega)) (by omega) (by omega)
    have q2 := cnt_wtJson x
    have m2 := p_markJson x 1 (fit_wtJson x (by omega)) (by omega) (by omega)
    have m3 := p_heldJson x 1 (fit_wtJson x (by omega)) (by omega) (by omega)
    have eq1 := p_eqJson j (by omega)
    have eq2 := p_eqJson x (by omega)
    have em : (⟨x.Kind, x.N, x.T, (mkJson x 1).Keys, (mkJson x 1).Items⟩ : GJson) = mkJson x 1 := by rw [mkJson_eq]
    have n1 : decide ((1 : Int) + (cntJson j : Nat) < 0) = false := decide_eq_false (by omega)
    have n2 : decide ((1 : Int) + (cntJson x : Nat) < 0) = false := decide_eq_false (by omega)
    simp only [et, Option.bind_some, e1, e2, eq1, eq2, m1, m2, em, m3, n1, n2, Bool.not_true, Bool.false_eq_true, if_false, bne_self_eq_false, cond_false]
end Go.R
