/- Plain laws of what this statement reaches. -/
import Derived.Test.YtgmkibkmcohikaaRQH
import Derived.Test.YtgmkibkmcohikaaP0
set_option linter.all false
namespace Go.R
open Go
set_option linter.all false
theorem orIf {α : Type} (a b : Bool) (x y : α) : (if (bif a then true else b) = true then x else y) = (if a = true then x else if b = true then x else y) := by cases a <;> simp
def charB (c : UInt8) : Bool := !(decide ((c.toNat : Int) < 32) || decide ((c.toNat : Int) > 126))
def textB (t : Str) : Bool := t.all charB && decide ((t.length : Int) ≤ 200)
theorem p_text_L1 : ∀ t : Str, spec_l01Text_L1 t = some (if t.all charB = true then .go () else .ret false)
  | [] => by rw [spec_l01Text_L1]; simp
  | x :: xs => by
    rw [spec_l01Text_L1, p_text_L1 xs]
    by_cases h1 : (x.toNat : Int) < 32
    · simp [h1, charB]
    · by_cases h2 : (x.toNat : Int) > 126
      · simp [h1, h2, charB]
      · simp [h1, h2, charB]
theorem p_plain_L1 : ∀ t : Str, impl_isPlain_L1 t = spec_l01Text_L1 t
  | [] => by rw [impl_isPlain_L1, spec_l01Text_L1]
  | x :: xs => by rw [impl_isPlain_L1, spec_l01Text_L1, p_plain_L1 xs]
theorem p_text (t : Str) : spec_l01Text t = some (textB t) := by
  unfold spec_l01Text textB
  rw [p_text_L1]
  by_cases h : t.all charB = true
  · simp only [h, if_pos, Option.bind_some, Bool.true_and]
  · simp only [h, Bool.not_eq_true] at h ⊢
    simp [h]
theorem p_plain (t : Str) : impl_isPlain t = some (textB t) := by
  rw [← p_text]
  unfold impl_isPlain spec_l01Text
  rw [p_plain_L1] <;> rfl
theorem p_in (n a b : Int) : spec_l01In n a b = some (decide (a ≤ n ∧ n ≤ b)) := by
  unfold spec_l01In
  by_cases h : a ≤ n <;> simp [h]
theorem p_within (n a b : Int) : impl_within n a b = some (decide (a ≤ n ∧ n ≤ b)) := by
  unfold impl_within
  by_cases h : a ≤ n <;> simp [h]
/-- a key at its place -/
def keyAt (ks : List Str) (i : Nat) : Bool := match ks[i]? with
  | some x => textB x && (decide (i = 0) || match ks[i - 1]? with | some y => Op.bytesLess y x | none => false)
  | none => false
theorem p_areKeys_L1 (ks : List Str) (hl : ks.length ≤ maxLen) : ∀ (xs : List Str) (i : Nat), ks.drop i = xs →
    impl_areKeys_L1 ks xs i = some (.go ()) ∧ (∀ q, i ≤ q → q < ks.length → keyAt ks q = true) ∨ impl_areKeys_L1 ks xs i = some (.ret false) ∧ ∃ q, i ≤ q ∧ q < ks.length ∧ keyAt ks q = false
  | [], i, h => by
    refine .inl ⟨by rw [impl_areKeys_L1], fun q h1 h2 => ?_⟩
    have := List.drop_eq_nil_iff.1 h
    omega
  | x :: xs, i, h => by
    have hi := drop_lt h
    have hx : ks[i]? = some x := by rw [← idx_nat]; exact idx_drop h
    rw [impl_areKeys_L1, p_plain, Option.bind_some]
    have hnext := p_areKeys_L1 ks hl xs (i + 1) (drop_next h)
    simp only [maxLen] at hl
    by_cases ht : textB x = true
    · rw [if_neg (by simp [ht])]
      by_cases h0 : i = 0
      · subst h0
        rw [if_neg (by simp), Option.bind_some, if_neg (by simp)]
        have hk : keyAt ks 0 = true := by unfold keyAt; simp [hx, ht]
        rcases hnext with ⟨e, hq⟩ | ⟨e, q, q1, q2, q3⟩
        · refine .inl ⟨e, fun q h1 h2 => ?_⟩
          by_cases hq0 : q = 0
          · rw [hq0]; exact hk
          · exact hq q (by omega) h2
        · exact .inr ⟨e, q, by omega, q2, q3⟩
      · rw [if_pos (by simp; omega), w64_id (by omega)]
        obtain ⟨y, hy⟩ : ∃ y, ks[i - 1]? = some y := ⟨ks[i - 1], List.getElem?_eq_getElem (by omega)⟩
        have e1 : (i : Int) - 1 = ((i - 1 : Nat) : Int) := by omega
        rw [e1, idx_nat, hy, Option.bind_some, Option.bind_some]
        have hk : keyAt ks i = Op.bytesLess y x := by unfold keyAt; simp [hx, ht, h0, hy]
        by_cases hb : Op.bytesLess y x = true
        · rw [if_neg (by simp [hb])]
          rcases hnext with ⟨e, hq⟩ | ⟨e, q, q1, q2, q3⟩
          · refine .inl ⟨e, fun q h1 h2 => ?_⟩
            by_cases hq0 : q = i
            · rw [hq0, hk]; exact hb
            · exact hq q (by omega) h2
          · exact .inr ⟨e, q, by omega, q2, q3⟩
        · simp only [Bool.not_eq_true] at hb
          rw [if_pos (by simp [hb])]
          exact .inr ⟨rfl, i, Nat.le_refl _, hi, by rw [hk, hb]⟩
    · simp only [Bool.not_eq_true] at ht
      rw [if_pos (by simp [ht]), Option.bind_some, if_pos rfl]
      exact .inr ⟨rfl, i, Nat.le_refl _, hi, by unfold keyAt; simp [hx, ht]⟩
theorem p_areKeys (ks : List Str) (hl : ks.length ≤ maxLen) : ∃ b, impl_areKeys ks = some b ∧ (b = true ↔ ∀ q, q < ks.length → keyAt ks q = true) := by
  unfold impl_areKeys
  rcases p_areKeys_L1 ks hl ks 0 (by simp) with ⟨e, hq⟩ | ⟨e, q, q1, q2, q3⟩
  · rw [e]; exact ⟨true, rfl, by simp; exact fun q h => hq q (by omega) h⟩
  · rw [e]; refine ⟨false, rfl, ?_⟩
    simp only [Bool.false_eq_true, false_iff]
    intro h
    rw [h q q2] at q3
    cases q3
/-- one node -/
def NodeP (j : GJson) : Prop :=
  (j.Kind = 0 ∧ j.N = 0 ∧ j.T = [] ∧ j.Keys = [] ∧ j.Items = []) ∨
  (j.Kind = 1 ∧ (0 ≤ j.N ∧ j.N ≤ 1) ∧ j.T = [] ∧ j.Keys = [] ∧ j.Items = []) ∨
  (j.Kind = 2 ∧ (-1000000000 ≤ j.N ∧ j.N ≤ 1000000000) ∧ j.T = [] ∧ j.Keys = [] ∧ j.Items = []) ∨
  (j.Kind = 3 ∧ j.N = 0 ∧ textB j.T = true ∧ j.Keys = [] ∧ j.Items = []) ∨
  (j.Kind = 4 ∧ j.N = 0 ∧ j.T = [] ∧ j.Keys = []) ∨
  (j.Kind = 5 ∧ j.N = 0 ∧ j.T = [] ∧ j.Keys.length = j.Items.length ∧ ∀ q, q < j.Keys.length → keyAt j.Keys q = true)
theorem p_partOK (j : GJson) (hl : j.Keys.length ≤ maxLen) : ∃ b, impl_Json_partOK j = some b ∧ (b = true ↔ NodeP j) := by
  obtain ⟨kb, ek, hk⟩ := p_areKeys j.Keys hl
  unfold impl_Json_partOK impl_isNumber NodeP
  simp only [p_within, p_plain, ek, Option.bind_some]
  by_cases h0 : j.Kind = 0
  · simp only [h0]
    by_cases h1 : j.N = 0 <;> by_cases h2 : j.T = [] <;> by_cases h3 : j.Keys = [] <;> by_cases h4 : j.Items = [] <;> simp_all
  by_cases h1 : j.Kind = 1
  · simp only [h1]
    by_cases c : (0 ≤ j.N ∧ j.N ≤ 1) <;> by_cases h2 : j.T = [] <;> by_cases h3 : j.Keys = [] <;> by_cases h4 : j.Items = [] <;> simp_all
  by_cases h2 : j.Kind = 2
  · simp only [h2]
    by_cases c : (-1000000000 ≤ j.N ∧ j.N ≤ 1000000000) <;> by_cases h2 : j.T = [] <;> by_cases h3 : j.Keys = [] <;> by_cases h4 : j.Items = [] <;> simp_all
  by_cases h3 : j.Kind = 3
  · simp only [h3]
    by_cases h1 : j.N = 0 <;> by_cases h2 : textB j.T = true <;> by_cases h3 : j.Keys = [] <;> by_cases h4 : j.Items = [] <;> simp_all
  by_cases h4 : j.Kind = 4
  · simp only [h4]
    by_cases h1 : j.N = 0 <;> by_cases h2 : j.T = [] <;> by_cases h3 : j.Keys = [] <;> simp_all
  by_cases h5 : j.Kind = 5
  · simp only [h5]
    by_cases h1 : j.N = 0 <;> by_cases h2 : j.T = [] <;> by_cases h3 : j.Keys.length = j.Items.length <;> simp_all <;> omega
  refine ⟨false, ?_, ?_⟩
  · simp [h0, h1, h2, h3, h4, h5]
  · simp [h0, h1, h2, h3, h4, h5]
def OkD : Nat → GJson → Prop
  | 0, _ => False
  | d + 1, j => NodeP j ∧ ∀ y ∈ j.Items, OkD d y
def cntD : Nat → GJson → Int
  | 0, _ => 0
  | d + 1, j => 1 + (j.Items.map (cntD d)).sum
theorem sum_nn {α : Type} (f : α → Int) (hf : ∀ x, 0 ≤ f x) : ∀ l : List α, 0 ≤ (l.map f).sum
  | [] => by simp
  | x :: xs => by simp only [List.map_cons, List.sum_cons]; have := hf x; have := sum_nn f hf xs; omega
theorem cntD_nn : ∀ (d : Nat) (j : GJson), 0 ≤ cntD d j
  | 0, j => by simp [cntD]
  | d + 1, j => by simp only [cntD]; have := sum_nn (cntD d) (cntD_nn d) j.Items; omega
theorem p_idx_L1 (R : GJson → Int → Int → Option (Bool × Int)) (d : Nat) (deep : Int) : ∀ (xs : List GJson) (s8 : Nat) (room : Int), 0 ≤ room → room ≤ 400 →
    (∀ y ∈ xs, ∀ room, 0 ≤ room → room ≤ 400 → ∃ b room', R y (w64 (deep + 1)) room = some (b, room') ∧ room' ≤ room ∧ (b = true ↔ OkD d y ∧ cntD d y ≤ room) ∧ (b = true → room' = room - cntD d y)) →
    (slices_IndexFunc_impl_Json_impl_Json_h0_L1 R xs s8 deep room = some (.go (deep, room - (xs.map (cntD d)).sum)) ∧ (∀ y ∈ xs, OkD d y) ∧ (xs.map (cntD d)).sum ≤ room) ∨
    (∃ (i : Nat) (r' : Int), slices_IndexFunc_impl_Json_impl_Json_h0_L1 R xs s8 deep room = some (.ret ((i : Int), deep, r')) ∧ r' ≤ room ∧ ¬ ((∀ y ∈ xs, OkD d y) ∧ (xs.map (cntD d)).sum ≤ room))
  | [], s8, room, h0, h1, hR => .inl ⟨by rw [slices_IndexFunc_impl_Json_impl_Json_h0_L1]; simp, by simp, by simpa using h0⟩
  | x :: xs, s8, room, h0, h1, hR => by
    rw [slices_IndexFunc_impl_Json_impl_Json_h0_L1]
    unfold impl_Json_rightIn_1_h0
    obtain ⟨b, r1, e, g1, g2, g3⟩ := hR x (by simp) room h0 h1
    rw [e]
    simp only [Option.bind_some]
    have hs := sum_nn (cntD d) (cntD_nn d) xs
    have hx := cntD_nn d x
    cases b with
    | true =>
      obtain ⟨k1, k2⟩ := g2.1 rfl
      have k3 := g3 rfl
      rw [if_neg (by simp)]
      rcases p_idx_L1 R d deep xs (s8 + 1) r1 (by omega) (by omega) (fun y hy => hR y (by simp [hy])) with ⟨e2, q1, q2⟩ | ⟨i, r', e2, q1, q2⟩
      · refine .inl ⟨?_, ?_, ?_⟩
        · rw [e2]; simp only [List.map_cons, List.sum_cons]; congr 3; omega
        · intro y hy
          rcases List.mem_cons.1 hy with rfl | hy
          · exact k1
          · exact q1 y hy
        · simp only [List.map_cons, List.sum_cons]; omega
      · refine .inr ⟨i, r', e2, by omega, fun ⟨f1, f2⟩ => q2 ⟨fun y hy => f1 y (by simp [hy]), ?_⟩⟩
        simp only [List.map_cons, List.sum_cons] at f2
        omega
    | false =>
      rw [if_pos (by simp)]
      refine .inr ⟨s8, r1, rfl, g1, fun ⟨f1, f2⟩ => ?_⟩
      simp only [List.map_cons, List.sum_cons] at f2
      have := g2.2 ⟨f1 x (by simp), by omega⟩
      cases this
theorem p_rightIn : ∀ (k d : Nat) (j : GJson) (room : Int), d ≤ 12 → d < k → 0 ≤ room → room ≤ 400 → okGJson j →
    ∃ b room', impl_Json_rightIn k j (12 - d) room = some (b, room') ∧ room' ≤ room ∧ (b = true ↔ OkD d j ∧ cntD d j ≤ room) ∧ (b = true → room' = room - cntD d j)
  | 0, d, j, room, _, hk, _, _, _ => by omega
  | k + 1, d, j, room, hd, hk, h0, h1, ok => by
    obtain ⟨o1, o2, o3, o4⟩ := ok.parts
    rw [impl_Json_rightIn]
    unfold impl_Json_rightIn_B
    rw [w64_id (by omega)]
    simp only [orIf]
    by_cases c1 : room - 1 < 0
    · rw [if_pos (by simpa using c1), Option.bind_some, if_pos rfl]
      refine ⟨false, room - 1, rfl, by omega, ?_, by simp⟩
      simp only [Bool.false_eq_true, false_iff, not_and]
      intro ho
      cases d with
      | zero => exact ho.elim
      | succ d => simp only [cntD]; have := sum_nn (cntD d) (cntD_nn d) j.Items; omega
    rw [if_neg (by simpa using c1)]
    cases d with
    | zero =>
      rw [if_pos (by simp), Option.bind_some, if_pos rfl]
      exact ⟨false, room - 1, rfl, by omega, by simp [OkD], by simp⟩
    | succ d =>
      rw [if_neg (by simp; omega)]
      obtain ⟨pb, ep, hp⟩ := p_partOK j o2.1
      rw [ep, Option.bind_some, Option.bind_some]
      cases pb with
      | false =>
        rw [if_pos (by simp)]
        refine ⟨false, room - 1, rfl, by omega, ?_, by simp⟩
        simp only [Bool.false_eq_true, false_iff, not_and, OkD]
        intro ⟨hn, _⟩
        have := hp.2 hn
        cases this
      | true =>
        rw [if_neg (by simp)]
        have hdeep : w64 (12 - ((d + 1 : Nat) : Int) + 1) = 12 - (d : Int) := by rw [w64_id (by omega)]; omega
        have hloop := p_idx_L1 (impl_Json_rightIn k) d (12 - ((d + 1 : Nat) : Int)) j.Items 0 (room - 1) (by omega) (by omega) (fun y hy rm a1 a2 => by
          rw [hdeep]
          exact p_rightIn k d y rm (by omega) (by omega) a1 a2 (o4 y hy))
        unfold slices_ContainsFunc_impl_Json_impl_Json_h0 slices_IndexFunc_impl_Json_impl_Json_h0
        rcases hloop with ⟨e2, q1, q2⟩ | ⟨i, r', e2, q1, q2⟩
        · rw [e2]
          refine ⟨true, room - 1 - (j.Items.map (cntD d)).sum, by simp, ?_, ?_, ?_⟩
          · have := sum_nn (cntD d) (cntD_nn d) j.Items; omega
          · simp only [true_iff, OkD, cntD]; exact ⟨⟨hp.1 rfl, q1⟩, by omega⟩
          · intro _; simp only [cntD]; omega
        · rw [e2]
          refine ⟨false, r', by simp, by omega, ?_, by simp⟩
          simp only [Bool.false_eq_true, false_iff, OkD, cntD]
          rintro ⟨⟨_, f1⟩, f2⟩
          exact q2 ⟨f1, by omega⟩
theorem p_key (ks : List Str) (hl : ks.length ≤ maxLen) (i : Nat) (hi : i < ks.length) : ((idx ks (i : Int)).bind fun x => (spec_l01Text x).bind fun r => if (!r) then some true else if (decide ((i : Int) > 0)) then (idx ks (w64 ((i : Int) - 1))).bind fun y => (idx ks (i : Int)).bind fun z => some (!Op.bytesLess y z) else some false) = some (!keyAt ks i) := by
  obtain ⟨x, hx⟩ : ∃ x, ks[i]? = some x := ⟨ks[i], List.getElem?_eq_getElem hi⟩
  simp only [maxLen] at hl
  rw [idx_nat, hx, Option.bind_some, p_text, Option.bind_some]
  unfold keyAt
  rw [hx]
  by_cases ht : textB x = true
  · simp only [ht]
    by_cases h0 : i = 0
    · subst h0; simp
    · obtain ⟨y, hy⟩ : ∃ y, ks[i - 1]? = some y := ⟨ks[i - 1], List.getElem?_eq_getElem (by omega)⟩
      have e1 : (i : Int) - 1 = ((i - 1 : Nat) : Int) := by omega
      rw [w64_id (by omega), e1, idx_nat, hy, if_neg (by simp), if_pos (by simp; omega)]
      simp [h0]
  · simp only [Bool.not_eq_true] at ht
    simp [ht]
theorem p_l01_L1 (j : GJson) (rec : GJson → Int → Option (Int × Bool)) (d : Nat) (deep : Int) (hkl : j.Kind = 5 → j.Keys.length = j.Items.length) (hl : j.Keys.length ≤ maxLen) : ∀ (xs : List GJson) (n : Int) (i : Nat), j.Items.drop i = xs → 0 ≤ n → n ≤ 400 →
    (∀ y ∈ xs, ∃ m b, rec y (w64 (deep - 1)) = some (m, b) ∧ (b = true ↔ OkD d y ∧ cntD d y ≤ 400) ∧ (b = true → m = cntD d y)) →
    (spec_l01OK_B_L1 j rec deep xs n i = some (.go (n + (xs.map (cntD d)).sum)) ∧ (∀ y ∈ xs, OkD d y) ∧ n + (xs.map (cntD d)).sum ≤ 400 ∧ (j.Kind = 5 → ∀ q, i ≤ q → q < j.Keys.length → keyAt j.Keys q = true)) ∨
    (spec_l01OK_B_L1 j rec deep xs n i = some (.ret (0, false)) ∧ ¬ ((∀ y ∈ xs, OkD d y) ∧ n + (xs.map (cntD d)).sum ≤ 400 ∧ (j.Kind = 5 → ∀ q, i ≤ q → q < j.Keys.length → keyAt j.Keys q = true)))
  | [], n, i, h, h0, h1, hr => by
    refine .inl ⟨by rw [spec_l01OK_B_L1]; simp, by simp, by simpa using h1, fun h5 q a b => ?_⟩
    have := List.drop_eq_nil_iff.1 h
    have := hkl h5
    omega
  | x :: xs, n, i, h, h0, h1, hr => by
    have hi := drop_lt h
    rw [spec_l01OK_B_L1]
    have hs := sum_nn (cntD d) (cntD_nn d) xs
    have hx := cntD_nn d x
    have key : ((if (j.Kind == 5) then
    (idx j.Keys (i : Int)).bind fun x_219 =>
    (spec_l01Text x_219).bind fun r_221 =>
    if (!r_221) then
    some true
    else
    if (decide ((i : Int) > 0)) then
    (idx j.Keys (w64 ((i : Int) - 1))).bind fun x_225 =>
    (idx j.Keys (i : Int)).bind fun x_227 =>
    some (!Op.bytesLess x_225 x_227)
    else
    some false
    else
    some false : Option Bool)) = some (decide (j.Kind = 5) && !keyAt j.Keys i) := by
      by_cases h5 : j.Kind = 5
      · rw [if_pos (by simp [h5]), p_key j.Keys hl i (by have := hkl h5; omega)]
        simp [h5]
      · rw [if_neg (by simp [h5])]; simp [h5]
    rw [key, Option.bind_some]
    by_cases hk : (decide (j.Kind = 5) && !keyAt j.Keys i) = true
    · rw [if_pos hk]
      refine .inr ⟨rfl, fun ⟨_, _, f⟩ => ?_⟩
      simp only [Bool.and_eq_true, decide_eq_true_eq, Bool.not_eq_true'] at hk
      have := f hk.1 i (Nat.le_refl _) (by have := hkl hk.1; omega)
      rw [this] at hk
      cases hk.2
    · rw [if_neg hk]
      obtain ⟨m, b, e, g1, g2⟩ := hr x (by simp)
      rw [e, Option.bind_some]
      cases b with
      | false =>
        simp only [Bool.not_false, if_pos, Option.bind_some]
        refine .inr ⟨trivial, fun ⟨f1, f2, _⟩ => ?_⟩
        simp only [List.map_cons, List.sum_cons] at f2
        have := g1.2 ⟨f1 x (by simp), by omega⟩
        cases this
      | true =>
        have hm := g2 rfl
        obtain ⟨k1, k2⟩ := g1.1 rfl
        simp only
        rw [if_neg (by simp), Option.bind_some, w64_id (by omega)]
        by_cases hc : n + m > 400
        · rw [if_pos (by simpa using hc)]
          refine .inr ⟨rfl, fun ⟨f1, f2, _⟩ => ?_⟩
          simp only [List.map_cons, List.sum_cons] at f2
          omega
        · rw [if_neg (by simpa using hc)]
          have hkey : j.Kind = 5 → keyAt j.Keys i = true := by
            intro h5
            simp only [h5, decide_true, Bool.true_and, Bool.not_eq_true', Bool.not_eq_false] at hk
            exact hk
          rcases p_l01_L1 j rec d deep hkl hl xs (n + m) (i + 1) (drop_next h) (by omega) (by omega) (fun y hy => hr y (by simp [hy])) with ⟨e2, q1, q2, q3⟩ | ⟨e2, q⟩
          · refine .inl ⟨?_, ?_, ?_, ?_⟩
            · rw [e2]; simp only [List.map_cons, List.sum_cons]; congr 2; omega
            · intro y hy
              rcases List.mem_cons.1 hy with rfl | hy
              · exact k1
              · exact q1 y hy
            · simp only [List.map_cons, List.sum_cons]; omega
            · intro h5 q a b
              by_cases hq : q = i
              · rw [hq]; exact hkey h5
              · exact q3 h5 q (by omega) b
          · refine .inr ⟨e2, fun ⟨f1, f2, f3⟩ => q ⟨fun y hy => f1 y (by simp [hy]), ?_, fun h5 q a b => f3 h5 q (by omega) b⟩⟩
            simp only [List.map_cons, List.sum_cons] at f2
            omega
theorem cnt_leaf {d : Nat} {j : GJson} (h : j.Items = []) : cntD (d + 1) j = 1 := by simp [cntD, h]
theorem p_l01OK : ∀ (k d : Nat) (j : GJson), d < k → d ≤ 12 → okGJson j → ∃ n b, spec_l01OK k j d = some (n, b) ∧ (b = true ↔ OkD d j ∧ cntD d j ≤ 400) ∧ (b = true → n = cntD d j)
  | 0, d, j, hk, _, _ => by omega
  | k + 1, 0, j, hk, hd, ok => by
    rw [spec_l01OK]
    unfold spec_l01OK_B
    rw [if_pos (by simp)]
    exact ⟨0, false, rfl, by simp [OkD], by simp⟩
  | k + 1, d + 1, j, hk, hd, ok => by
    obtain ⟨o1, o2, o3, o4⟩ := ok.parts
    rw [spec_l01OK]
    unfold spec_l01OK_B
    rw [if_neg (by simp; omega)]
    have hdeep : w64 (((d + 1 : Nat) : Int) - 1) = (d : Int) := by rw [w64_id (by omega)]; omega
    have leaf : ∀ c : Bool, (c = true ↔ NodeP j) → (NodeP j → j.Items = []) → ∃ n b, some ((1 : Int), c) = some (n, b) ∧ (b = true ↔ OkD (d + 1) j ∧ cntD (d + 1) j ≤ 400) ∧ (b = true → n = cntD (d + 1) j) := by
      intro c hc hi
      refine ⟨1, c, rfl, ?_, fun h => (cnt_leaf (hi (hc.1 h))).symm⟩
      rw [hc]
      constructor
      · intro h
        refine ⟨⟨h, by simp [hi h]⟩, ?_⟩
        rw [cnt_leaf (hi h)]; omega
      · rintro ⟨⟨h, _⟩, _⟩; exact h
    have plainE : ((if ((j.Keys.length : Int) == 0) then some ((j.Items.length : Int) == 0) else some false : Option Bool)) = some (decide (j.Keys = [] ∧ j.Items = [])) := by
      by_cases h1 : j.Keys = [] <;> by_cases h2 : j.Items = [] <;> simp [h1, h2]
    rw [plainE, Option.bind_some]
    by_cases k0 : j.Kind = 0
    · rw [if_pos (by simp [k0])]
      have := leaf (decide (j.Keys = [] ∧ j.Items = []) && decide (j.N = 0) && decide (j.T = [])) (by simp [NodeP, k0]; grind) (by simp [NodeP, k0])
      by_cases h1 : (j.Keys = [] ∧ j.Items = []) <;> by_cases h2 : j.N = 0 <;> by_cases h3 : j.T = [] <;> simpa [h1, h2, h3] using this
    rw [if_neg (by simp [k0])]
    by_cases k1 : j.Kind = 1
    · rw [if_pos (by simp [k1])]
      simp only [p_in, Option.bind_some]
      have := leaf (decide (j.Keys = [] ∧ j.Items = []) && decide (0 ≤ j.N ∧ j.N ≤ 1) && decide (j.T = [])) (by simp [NodeP, k1]; grind) (by simp [NodeP, k1])
      by_cases h1 : (j.Keys = [] ∧ j.Items = []) <;> by_cases h2 : (0 ≤ j.N ∧ j.N ≤ 1) <;> by_cases h3 : j.T = [] <;> simpa [h1, h2, h3] using this
    rw [if_neg (by simp [k1])]
    by_cases k2 : j.Kind = 2
    · rw [if_pos (by simp [k2])]
      simp only [p_in, Option.bind_some]
      have := leaf (decide (j.Keys = [] ∧ j.Items = []) && decide (-1000000000 ≤ j.N ∧ j.N ≤ 1000000000) && decide (j.T = [])) (by simp [NodeP, k2]; grind) (by simp [NodeP, k2])
      by_cases h1 : (j.Keys = [] ∧ j.Items = []) <;> by_cases h2 : (-1000000000 ≤ j.N ∧ j.N ≤ 1000000000) <;> by_cases h3 : j.T = [] <;> simpa [h1, h2, h3] using this
    rw [if_neg (by simp [k2])]
    by_cases k3 : j.Kind = 3
    · rw [if_pos (by simp [k3])]
      simp only [p_text, Option.bind_some]
      have := leaf (decide (j.Keys = [] ∧ j.Items = []) && decide (j.N = 0) && textB j.T) (by simp [NodeP, k3]; grind) (by simp [NodeP, k3])
      by_cases h1 : (j.Keys = [] ∧ j.Items = []) <;> by_cases h2 : j.N = 0 <;> simpa [h1, h2] using this
    rw [if_neg (by simp [k3])]
    by_cases hn : (j.Kind = 4 ∧ j.N = 0 ∧ j.T = [] ∧ j.Keys = []) ∨ (j.Kind = 5 ∧ j.N = 0 ∧ j.T = [] ∧ j.Keys.length = j.Items.length)
    · have hnode : NodeP j ↔ (j.Kind = 5 → ∀ q, q < j.Keys.length → keyAt j.Keys q = true) := by
        rcases hn with ⟨a1, a2, a3, a4⟩ | ⟨a1, a2, a3, a4⟩
        · simp [NodeP, a1, a2, a3, a4]
        · simp [NodeP, a1, a2, a3, a4]
      have hkl : j.Kind = 5 → j.Keys.length = j.Items.length := by
        intro h5
        rcases hn with ⟨a1, _⟩ | ⟨_, _, _, a4⟩
        · omega
        · exact a4
      have hloop := p_l01_L1 j (spec_l01OK k) d ((d + 1 : Nat) : Int) hkl o2.1 j.Items 1 0 (by simp) (by omega) (by omega) (fun y hy => by
        rw [hdeep]
        exact p_l01OK k d y (by omega) (by omega) (o4 y hy))
      have hc : (bif (bif (bif (bif (bif (j.Kind != 4) then (j.Kind != 5) else false) then true else (j.N != 0)) then true else (!(j.T == []))) then true else (bif (j.Kind == 4) then (decide ((j.Keys.length : Int) > 0)) else false)) then true else (bif (j.Kind == 5) then ((j.Keys.length : Int) != (j.Items.length : Int)) else false)) = false := by
        rcases hn with ⟨a1, a2, a3, a4⟩ | ⟨a1, a2, a3, a4⟩
        · simp [a1, a2, a3, a4]
        · simp [a1, a2, a3, a4]
      simp only [hc, Option.bind_some, Bool.false_eq_true, if_false]
      rcases hloop with ⟨e2, q1, q2, q3⟩ | ⟨e2, q⟩
      · rw [e2]
        refine ⟨_, true, rfl, ?_, fun _ => by simp only [cntD]⟩
        simp only [true_iff, OkD, cntD]
        exact ⟨⟨hnode.2 fun h5 q hq => q3 h5 q (by omega) hq, q1⟩, q2⟩
      · rw [e2]
        refine ⟨0, false, rfl, ?_, by simp⟩
        simp only [Bool.false_eq_true, false_iff, OkD, cntD]
        rintro ⟨⟨f1, f2⟩, f3⟩
        exact q ⟨f2, f3, fun h5 q _ hq => hnode.1 f1 h5 q hq⟩
    · have hnn : ¬ NodeP j := by
        intro h
        apply hn
        unfold NodeP at h
        rcases h with h | h | h | h | h | h
        · exact absurd h.1 k0
        · exact absurd h.1 k1
        · exact absurd h.1 k2
        · exact absurd h.1 k3
        · exact .inl h
        · exact .inr ⟨h.1, h.2.1, h.2.2.1, h.2.2.2.1⟩
      refine ⟨0, false, ?_, by simp [OkD, hnn], by simp⟩
      by_cases k4 : j.Kind = 4
      · simp only [k4]
        by_cases h1 : j.N = 0 <;> by_cases h2 : j.T = [] <;> by_cases h3 : j.Keys = [] <;> simp [h1, h2, h3, List.length_pos_iff] <;> simp_all
      · by_cases k5 : j.Kind = 5
        · simp only [k5]
          by_cases h1 : j.N = 0 <;> by_cases h2 : j.T = [] <;> by_cases h3 : j.Keys.length = j.Items.length <;> simp [h1, h2, h3] <;> first | (intro h; omega) | simp_all
        · simp [k4, k5]
theorem fuel_gt : 2 ^ 40 < FUEL := by unfold FUEL; decide
theorem p_JsonOK_both (j : GJson) (ok : okGJson j) : ∃ b, impl_JsonOK j = some b ∧ spec_JsonOK j = some b ∧ (b = true ↔ OkD 12 j ∧ cntD 12 j ≤ 400) := by
  have hf := fuel_gt
  obtain ⟨b, room', e1, _, h1, _⟩ := p_rightIn FUEL 12 j 400 (by omega) (by omega) (by omega) (by omega) ok
  obtain ⟨n, b', e2, h2, _⟩ := p_l01OK FUEL 12 j (by omega) (by omega) ok
  have hb : b = b' := by rw [Bool.eq_iff_iff, h1, h2]
  refine ⟨b, ?_, ?_, h1⟩
  · unfold impl_JsonOK
    have : (12 : Int) - ((12 : Nat) : Int) = 0 := by decide
    rw [this] at e1
    rw [e1, Option.bind_some]
  · unfold spec_JsonOK
    have e2' : spec_l01OK FUEL j 12 = some (n, b') := e2
    rw [e2', Option.bind_some, hb]
theorem p_l01Own_L1 (rec : GJson → Option GJson) : ∀ (xs out : List GJson), (∀ x ∈ xs, rec x = some x) → out.length + xs.length ≤ 2 ^ 30 → spec_l01Own_B_L1 rec xs out = some (out ++ xs)
  | [], out, _, _ => by rw [spec_l01Own_B_L1]; simp
  | x :: xs, out, hr, h => by
    simp only [List.length_cons] at h
    rw [spec_l01Own_B_L1, hr x (by simp), Option.bind_some, if_pos (by simp; omega), p_l01Own_L1 rec xs _ (fun y hy => hr y (by simp [hy])) (by simp; omega)]
    simp
theorem p_l01Own_F : ∀ (k : Nat) (j : GJson), wtJson j < k → wtJson j ≤ 2 ^ 30 → spec_l01Own k j = some j
  | 0, j, h, _ => by omega
  | k + 1, j, h, h2 => by
    rw [wtJson_eq] at h h2
    have hl := wtJsonS_len j.Items
    have hk : j.Keys.length ≤ wtStringS j.Keys := by unfold wtStringS; omega
    rw [spec_l01Own]
    unfold spec_l01Own_B
    rw [if_pos (by simp; omega), Option.bind_some, p_l01Own_L1 (spec_l01Own k) j.Items [] (fun y hy => by have := wtJsonS_mem hy; exact p_l01Own_F k y (by omega) (by omega)) (by simp; omega)]
    cases j
    simp
theorem p_l01Own (j : GJson) (h : wtJson j ≤ 2 ^ 30) : spec_l01Own FUEL j = some j := p_l01Own_F FUEL j (fuel_lt (by omega)) h
theorem p_CloneS (l : List Str) (h : l.length ≤ 2 ^ 30) : slices_Clone_string_string l = some l := by
  unfold slices_Clone_string_string
  rw [if_pos (by simpa using h)]
  simp
theorem p_copyJson_L1 (rec : GJson → Option GJson) : ∀ (xs out : List GJson), (∀ x ∈ xs, rec x = some x) → out.length + xs.length ≤ 2 ^ 30 → impl_copyJson_B_L1 rec xs out = some (out ++ xs)
  | [], out, _, _ => by rw [impl_copyJson_B_L1]; simp
  | x :: xs, out, hr, h => by
    simp only [List.length_cons] at h
    rw [impl_copyJson_B_L1, hr x (by simp), Option.bind_some, if_pos (by simp; omega), p_copyJson_L1 rec xs _ (fun y hy => hr y (by simp [hy])) (by simp; omega)]
    simp
theorem p_copyJson_F : ∀ (k : Nat) (j : GJson), wtJson j < k → wtJson j ≤ 2 ^ 30 → impl_copyJson k j = some j
  | 0, j, h, _ => by omega
  | k + 1, j, h, h2 => by
    rw [wtJson_eq] at h h2
    have hl := wtJsonS_len j.Items
    have hk : j.Keys.length ≤ wtStringS j.Keys := by unfold wtStringS; omega
    rw [impl_copyJson]
    unfold impl_copyJson_B
    rw [p_CloneS _ (by omega), Option.bind_some, p_copyJson_L1 (impl_copyJson k) j.Items [] (fun y hy => by have := wtJsonS_mem hy; exact p_copyJson_F k y (by omega) (by omega)) (by simp; omega), Option.bind_some]
    split
    · cases j; simp
    · rename_i c
      have : j.Items = [] := by
        cases hj : j.Items with
        | nil => rfl
        | cons a l => simp [hj] at c; try omega
      cases j
      simp_all
theorem p_copyJson (j : GJson) (h : wtJson j ≤ 2 ^ 30) : impl_copyJson FUEL j = some j := p_copyJson_F FUEL j (fuel_lt (by omega)) h
theorem OkD_obj {j : GJson} (h : OkD 12 j) (h5 : j.Kind = 5) : j.Keys.length = j.Items.length := by
  rcases h.1 with h | h | h | h | h | h
  · omega
  · omega
  · omega
  · omega
  · omega
  · exact h.2.2.2.1
theorem p_l01OwnS_L1 : ∀ (xs out : List GJson), out.length + xs.length ≤ 2 ^ 30 → (∀ x ∈ xs, wtJson x ≤ 2 ^ 30) → spec_JsonRequest_L1 xs out = some (out ++ xs)
  | [], out, _, _ => by rw [spec_JsonRequest_L1]; simp
  | x :: xs, out, h, hw => by
    simp only [List.length_cons] at h
    rw [spec_JsonRequest_L1, p_l01Own x (hw x (by simp)), Option.bind_some, if_pos (by simp; omega), p_l01OwnS_L1 xs _ (by simp; omega) (fun y hy => hw y (by simp [hy]))]
    simp
theorem list3 {α : Type} {l : List α} (h : l.length = 3) : ∃ a b c, l = [a, b, c] := by
  match l, h with
  | [a, b, c], _ => exact ⟨a, b, c, rfl⟩
theorem p_Request (j : GJson) (h : j.Kind = 5 → j.Keys.length = j.Items.length) (hw : wtJson j ≤ 2 ^ 30) : ∃ q b, impl_jsonRequest j = some (q, b) ∧ wtRequest q ≤ wtJson j ∧ ∃ q', spec_l13Request j = some (q', b) ∧ (b = true → q' = q) := by
  unfold impl_jsonRequest spec_l13Request
  by_cases h5 : j.Kind = 5
  · rw [if_neg (by simp [h5])]
    by_cases h3 : j.Keys.length = 3
    · obtain ⟨a, b, c, hk⟩ := list3 h3
      obtain ⟨x, y, z, hi⟩ := list3 (l := j.Items) (by rw [← h h5]; exact h3)
      have e0 : idx j.Items 0 = some x := by rw [hi]; rfl
      have e1 : idx j.Items 1 = some y := by rw [hi]; rfl
      have e2 : idx j.Items 2 = some z := by rw [hi]; rfl
      have k0 : idx j.Keys 0 = some a := by rw [hk]; rfl
      have k1 : idx j.Keys 1 = some b := by rw [hk]; rfl
      have k2 : idx j.Keys 2 = some c := by rw [hk]; rfl
      rw [wtJson_eq, hi] at hw
      simp only [wtJsonS] at hw
      have hz := p_copyJson z (by omega)
      have hz' : (⟨z.Kind, z.N, z.T, z.Keys, z.Items⟩ : GJson) = z := by cases z; rfl
      have eS : slices_Equal_string_string j.Keys [[105, 100], [109, 101, 116, 104, 111, 100], [112, 97, 114, 97, 109, 115]] = some (a == [105, 100] && (b == [109, 101, 116, 104, 111, 100] && c == [112, 97, 114, 97, 109, 115])) := by
        unfold slices_Equal_string_string
        rw [if_neg (by simp [h3]), hk]
        by_cases c0 : a = [105, 100]
        · by_cases c1 : b = [109, 101, 116, 104, 111, 100]
          · by_cases c2 : c = [112, 97, 114, 97, 109, 115]
            · simp [slices_Equal_string_string_L1, idx, c0, c1, c2]
            · simp [slices_Equal_string_string_L1, idx, c0, c1, c2]
          · simp [slices_Equal_string_string_L1, idx, c0, c1]
        · simp [slices_Equal_string_string_L1, idx, c0]
      have wx : wtRequest ⟨x.N, y.T, z.Items⟩ ≤ wtJson j := by
        rw [wtJson_eq j, hi]
        simp only [wtRequest, wtJsonS, wtJson_eq y, wtJson_eq z]
        omega
      have w0 : wtRequest ⟨0, [], []⟩ ≤ wtJson j := by simp [wtRequest, wtJsonS]
      rw [eS]
      simp only [e0, e1, e2, k0, k1, k2, hz', hz, Option.bind_some, h5, h3]
      by_cases c0 : a = [105, 100]
      · by_cases c1 : b = [109, 101, 116, 104, 111, 100]
        · by_cases c2 : c = [112, 97, 114, 97, 109, 115]
          · by_cases x2 : x.Kind = 2
            · by_cases y3 : y.Kind = 3
              · by_cases z4 : z.Kind = 4
                · exact ⟨⟨x.N, y.T, z.Items⟩, true, by simp [c0, c1, c2, x2, y3, z4], wx, ⟨x.N, y.T, z.Items⟩, by simp [c0, c1, c2, x2, y3, z4], fun _ => rfl⟩
                · exact ⟨⟨0, [], []⟩, false, by simp [c0, c1, c2, x2, y3, z4], w0, ⟨x.N, y.T, z.Items⟩, by simp [c0, c1, c2, x2, y3, z4], fun h => by cases h⟩
              · exact ⟨⟨0, [], []⟩, false, by simp [c0, c1, c2, x2, y3], w0, ⟨x.N, y.T, z.Items⟩, by simp [c0, c1, c2, x2, y3], fun h => by cases h⟩
            · exact ⟨⟨0, [], []⟩, false, by simp [c0, c1, c2, x2], w0, ⟨x.N, y.T, z.Items⟩, by simp [c0, c1, c2, x2], fun h => by cases h⟩
          · exact ⟨⟨0, [], []⟩, false, by simp [c0, c1, c2], w0, ⟨0, [], []⟩, by simp [c0, c1, c2], fun h => by cases h⟩
        · exact ⟨⟨0, [], []⟩, false, by simp [c0, c1], w0, ⟨0, [], []⟩, by simp [c0, c1], fun h => by cases h⟩
      · exact ⟨⟨0, [], []⟩, false, by simp [c0], w0, ⟨0, [], []⟩, by simp [c0], fun h => by cases h⟩
    · have h3' : ¬ (j.Keys.length : Int) = 3 := by omega
      have eS : slices_Equal_string_string j.Keys [[105, 100], [109, 101, 116, 104, 111, 100], [112, 97, 114, 97, 109, 115]] = some false := by
        unfold slices_Equal_string_string
        rw [if_pos (by simp; omega)]
      rw [eS]
      exact ⟨⟨0, [], []⟩, false, by simp, by simp [wtRequest, wtJsonS], ⟨0, [], []⟩, by simp [h5, h3'], fun h => by cases h⟩
  · rw [if_pos (by simp [h5])]
    exact ⟨⟨0, [], []⟩, false, by simp, by simp [wtRequest, wtJsonS], ⟨0, [], []⟩, by simp [h5], fun h => by cases h⟩
theorem p_JsonRequest (j : GJson) (ok : okGJson j) (hw : wtJson j ≤ 2 ^ 20) : ∃ q c, impl_JsonRequest j = some (q, c) ∧ spec_JsonRequest j = some (q, c) ∧ wtRequest q ≤ 2 ^ 20 := by
  obtain ⟨b, e1, e2, hb⟩ := p_JsonOK_both j ok
  unfold impl_JsonRequest spec_JsonRequest
  rw [e1, e2, Option.bind_some, Option.bind_some]
  cases b with
  | false => exact ⟨_, _, rfl, rfl, by simp [wtRequest, wtJsonS]⟩
  | true =>
    obtain ⟨q, b, f1, hq, q', f2, hqq⟩ := p_Request j (fun h5 => OkD_obj (hb.1 rfl).1 h5) (by omega)
    rw [f1, f2]
    simp only [Option.bind_some, Bool.not_true, Bool.false_eq_true, if_false]
    cases b with
    | false => exact ⟨_, _, rfl, rfl, by simp [wtRequest, wtJsonS]⟩
    | true =>
      have hs := hqq rfl
      subst hs
      have hw2 : wtJsonS q'.Params ≤ 2 ^ 20 := by unfold wtRequest at hq; omega
      have hl := wtJsonS_len q'.Params
      rw [p_l01OwnS_L1 q'.Params [] (by simp; omega) (fun x hx => by have := wtJsonS_mem hx; omega)]
      exact ⟨q', 0, by simp, by cases q'; simp, by omega⟩
theorem law_FnExactJsonRequest (j : GJson) (h : okGJson j) : laws_FnExactJsonRequest j = some true := by
  unfold laws_FnExactJsonRequest
  obtain ⟨r, e, hr⟩ := p_szJson j 1048576 (by omega) (by omega) h
  rw [e, Option.bind_some]
  split
  · rfl
  · rename_i hn
    simp only [decide_eq_true_eq] at hn
    obtain ⟨h1, h2⟩ := hr.resolve_left hn
    have hw : wtJson j ≤ 1048576 := by omega
    have et := p_toJson j (by omega)
    obtain ⟨q, c, e1, e2, k1⟩ := p_JsonRequest j h (by omega)
    have q1 := cnt_wtJson j
    have m1 := p_markJson j 1 (fit_wtJson j (by omega)) (by omega) (by omega)
    have q2 := cnt_wtRequest q
    have m2 := p_markRequest q 1 (fit_wtRequest q (by omega)) (by omega) (by omega)
    have m3 := p_heldRequest q 1 (fit_wtRequest q (by omega)) (by omega) (by omega)
    have eq1 := p_eqJson j (by omega)
    have eq2 := p_eqRequest q (by omega)
    have em : (⟨q.Id, q.Method, (mkRequest q 1).Params⟩ : GRequest) = mkRequest q 1 := rfl
    have n1 : decide ((1 : Int) + (cntJson j : Nat) < 0) = false := decide_eq_false (by omega)
    have n2 : decide ((1 : Int) + (cntRequest q : Nat) < 0) = false := decide_eq_false (by omega)
    simp only [et, Option.bind_some, e1, e2, eq1, eq2, m1, m2, em, m3, n1, n2, Bool.not_true, Bool.false_eq_true, if_false, bne_self_eq_false, cond_false]
end Go.R
