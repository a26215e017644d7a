/- JsonOK: what the program asks of a value, without the reference. -/
import Derived.Test.YtgmkibkmcohikaaFF2
import Derived.Test.YtgmkibkmcohikaaP0
set_option linter.all false
namespace Go.R
open Go
set_option linter.all false
theorem okGJson.parts {x : GJson} (h : okGJson x) : okS x.T ∧ okL okS x.Keys ∧ x.Items.length ≤ maxLen ∧ ∀ y ∈ x.Items, okGJson y := by
  cases h with
  | mk h0 h1 h2 h3 h4 h5 => exact ⟨h2, h3, h4, h5⟩

def charB (c : UInt8) : Bool := !(decide ((c.toNat : Int) < 32) || decide ((c.toNat : Int) > 126))
def textB (t : Str) : Bool := t.all charB && decide ((t.length : Int) ≤ 200)
theorem p_plain_L1 : ∀ t : Str, impl_isPlain_L1 t = some (if t.all charB = true then .go () else .ret false)
  | [] => by rw [impl_isPlain_L1]; simp
  | x :: xs => by
    rw [impl_isPlain_L1, p_plain_L1 xs]
    by_cases h1 : (x.toNat : Int) < 32
    · simp [h1, charB]
    · by_cases h2 : (x.toNat : Int) > 126
      · simp [h1, h2, charB]
      · simp [h1, h2, charB]
theorem p_plain (t : Str) : impl_isPlain t = some (textB t) := by
  unfold impl_isPlain textB
  rw [p_plain_L1]
  by_cases h : t.all charB = true
  · simp only [h, if_pos, Option.bind_some, Bool.true_and]
  · simp only [h, Bool.not_eq_true] at h ⊢
    simp [h]
theorem p_within (n a b : Int) : impl_within n a b = some (decide (a ≤ n ∧ n ≤ b)) := by
  unfold impl_within
  by_cases h : a ≤ n <;> simp [h]
/-- a key at its place -/
def keyAt (ks : List Str) (i : Nat) : Bool := match ks[i]? with
  | some x => textB x && (decide (i = 0) || match ks[i - 1]? with | some y => Op.bytesLess y x | none => false)
  | none => false
theorem p_areKeys_L1 (ks : List Str) (hl : ks.length ≤ maxLen) : ∀ (xs : List Str) (i : Nat), ks.drop i = xs →
    impl_areKeys_L1 ks xs i = some (.go ()) ∧ (∀ q, i ≤ q → q < ks.length → keyAt ks q = true) ∨ impl_areKeys_L1 ks xs i = some (.ret false) ∧ ∃ q, i ≤ q ∧ q < ks.length ∧ keyAt ks q = false
  | [], i, h => by
    refine .inl ⟨by rw [impl_areKeys_L1], fun q h1 h2 => ?_⟩
    have := List.drop_eq_nil_iff.1 h
    omega
  | x :: xs, i, h => by
    have hi := drop_lt h
    have hx : ks[i]? = some x := by rw [← idx_nat]; exact idx_drop h
    rw [impl_areKeys_L1, p_plain, Option.bind_some]
    have hnext := p_areKeys_L1 ks hl xs (i + 1) (drop_next h)
    simp only [maxLen] at hl
    by_cases ht : textB x = true
    · rw [if_neg (by simp [ht])]
      by_cases h0 : i = 0
      · subst h0
        rw [if_neg (by simp), Option.bind_some, if_neg (by simp)]
        have hk : keyAt ks 0 = true := by unfold keyAt; simp [hx, ht]
        rcases hnext with ⟨e, hq⟩ | ⟨e, q, q1, q2, q3⟩
        · refine .inl ⟨e, fun q h1 h2 => ?_⟩
          by_cases hq0 : q = 0
          · rw [hq0]; exact hk
          · exact hq q (by omega) h2
        · exact .inr ⟨e, q, by omega, q2, q3⟩
      · rw [if_pos (by simp; omega), w64_id (by omega)]
        obtain ⟨y, hy⟩ : ∃ y, ks[i - 1]? = some y := ⟨ks[i - 1], List.getElem?_eq_getElem (by omega)⟩
        have e1 : (i : Int) - 1 = ((i - 1 : Nat) : Int) := by omega
        rw [e1, idx_nat, hy, Option.bind_some, Option.bind_some]
        have hk : keyAt ks i = Op.bytesLess y x := by unfold keyAt; simp [hx, ht, h0, hy]
        by_cases hb : Op.bytesLess y x = true
        · rw [if_neg (by simp [hb])]
          rcases hnext with ⟨e, hq⟩ | ⟨e, q, q1, q2, q3⟩
          · refine .inl ⟨e, fun q h1 h2 => ?_⟩
            by_cases hq0 : q = i
            · rw [hq0, hk]; exact hb
            · exact hq q (by omega) h2
          · exact .inr ⟨e, q, by omega, q2, q3⟩
        · simp only [Bool.not_eq_true] at hb
          rw [if_pos (by simp [hb])]
          exact .inr ⟨rfl, i, Nat.le_refl _, hi, by rw [hk, hb]⟩
    · simp only [Bool.not_eq_true] at ht
      rw [if_pos (by simp [ht]), Option.bind_some, if_pos rfl]
      exact .inr ⟨rfl, i, Nat.le_refl _, hi, by unfold keyAt; simp [hx, ht]⟩
theorem p_areKeys (ks : List Str) (hl : ks.length ≤ maxLen) : ∃ b, impl_areKeys ks = some b ∧ (b = true ↔ ∀ q, q < ks.length → keyAt ks q = true) := by
  unfold impl_areKeys
  rcases p_areKeys_L1 ks hl ks 0 (by simp) with ⟨e, hq⟩ | ⟨e, q, q1, q2, q3⟩
  · rw [e]; exact ⟨true, rfl, by simp; exact fun q h => hq q (by omega) h⟩
  · rw [e]; refine ⟨false, rfl, ?_⟩
    simp only [Bool.false_eq_true, false_iff]
    intro h
    rw [h q q2] at q3
    cases q3
/-- one node -/
def NodeP (j : GJson) : Prop :=
  (j.Kind = 0 ∧ j.N = 0 ∧ j.T = [] ∧ j.Keys = [] ∧ j.Items = []) ∨
  (j.Kind = 1 ∧ (0 ≤ j.N ∧ j.N ≤ 1) ∧ j.T = [] ∧ j.Keys = [] ∧ j.Items = []) ∨
  (j.Kind = 2 ∧ (-1000000000 ≤ j.N ∧ j.N ≤ 1000000000) ∧ j.T = [] ∧ j.Keys = [] ∧ j.Items = []) ∨
  (j.Kind = 3 ∧ j.N = 0 ∧ textB j.T = true ∧ j.Keys = [] ∧ j.Items = []) ∨
  (j.Kind = 4 ∧ j.N = 0 ∧ j.T = [] ∧ j.Keys = []) ∨
  (j.Kind = 5 ∧ j.N = 0 ∧ j.T = [] ∧ j.Keys.length = j.Items.length ∧ ∀ q, q < j.Keys.length → keyAt j.Keys q = true)
theorem p_partOK (j : GJson) (hl : j.Keys.length ≤ maxLen) : ∃ b, impl_Json_partOK j = some b ∧ (b = true ↔ NodeP j) := by
  obtain ⟨kb, ek, hk⟩ := p_areKeys j.Keys hl
  unfold impl_Json_partOK impl_isNumber NodeP
  simp only [p_within, p_plain, ek, Option.bind_some]
  by_cases h0 : j.Kind = 0
  · simp only [h0]
    by_cases h1 : j.N = 0 <;> by_cases h2 : j.T = [] <;> by_cases h3 : j.Keys = [] <;> by_cases h4 : j.Items = [] <;> simp_all
  by_cases h1 : j.Kind = 1
  · simp only [h1]
    by_cases c : (0 ≤ j.N ∧ j.N ≤ 1) <;> by_cases h2 : j.T = [] <;> by_cases h3 : j.Keys = [] <;> by_cases h4 : j.Items = [] <;> simp_all
  by_cases h2 : j.Kind = 2
  · simp only [h2]
    by_cases c : (-1000000000 ≤ j.N ∧ j.N ≤ 1000000000) <;> by_cases h2 : j.T = [] <;> by_cases h3 : j.Keys = [] <;> by_cases h4 : j.Items = [] <;> simp_all
  by_cases h3 : j.Kind = 3
  · simp only [h3]
    by_cases h1 : j.N = 0 <;> by_cases h2 : textB j.T = true <;> by_cases h3 : j.Keys = [] <;> by_cases h4 : j.Items = [] <;> simp_all
  by_cases h4 : j.Kind = 4
  · simp only [h4]
    by_cases h1 : j.N = 0 <;> by_cases h2 : j.T = [] <;> by_cases h3 : j.Keys = [] <;> simp_all
  by_cases h5 : j.Kind = 5
  · simp only [h5]
    by_cases h1 : j.N = 0 <;> by_cases h2 : j.T = [] <;> by_cases h3 : j.Keys.length = j.Items.length <;> simp_all <;> omega
  refine ⟨false, ?_, ?_⟩
  · simp [h0, h1, h2, h3, h4, h5]
  · simp [h0, h1, h2, h3, h4, h5]
def OkD : Nat → GJson → Prop
  | 0, _ => False
  | d + 1, j => NodeP j ∧ ∀ y ∈ j.Items, OkD d y
def cntD : Nat → GJson → Int
  | 0, _ => 0
  | d + 1, j => 1 + (j.Items.map (cntD d)).sum
theorem sum_nn {α : Type} (f : α → Int) (hf : ∀ x, 0 ≤ f x) : ∀ l : List α, 0 ≤ (l.map f).sum
  | [] => by simp
  | x :: xs => by simp only [List.map_cons, List.sum_cons]; have := hf x; have := sum_nn f hf xs; omega
theorem cntD_nn : ∀ (d : Nat) (j : GJson), 0 ≤ cntD d j
  | 0, j => by simp [cntD]
  | d + 1, j => by simp only [cntD]; have := sum_nn (cntD d) (cntD_nn d) j.Items; omega
theorem p_idx_L1 (R : GJson → Int → Int → Option (Bool × Int)) (d : Nat) (deep : Int) : ∀ (xs : List GJson) (s8 : Nat) (room : Int), 0 ≤ room → room ≤ 400 →
    (∀ y ∈ xs, ∀ room, 0 ≤ room → room ≤ 400 → ∃ b room', R y (w64 (deep + 1)) room = some (b, room') ∧ room' ≤ room ∧ (b = true ↔ OkD d y ∧ cntD d y ≤ room) ∧ (b = true → room' = room - cntD d y)) →
    (slices_IndexFunc_impl_Json_impl_Json_h0_L1 R xs s8 deep room = some (.go (deep, room - (xs.map (cntD d)).sum)) ∧ (∀ y ∈ xs, OkD d y) ∧ (xs.map (cntD d)).sum ≤ room) ∨
    (∃ (i : Nat) (r' : Int), slices_IndexFunc_impl_Json_impl_Json_h0_L1 R xs s8 deep room = some (.ret ((i : Int), deep, r')) ∧ r' ≤ room ∧ ¬ ((∀ y ∈ xs, OkD d y) ∧ (xs.map (cntD d)).sum ≤ room))
  | [], s8, room, h0, h1, hR => .inl ⟨by rw [slices_IndexFunc_impl_Json_impl_Json_h0_L1]; simp, by simp, by simpa using h0⟩
  | x :: xs, s8, room, h0, h1, hR => by
    rw [slices_IndexFunc_impl_Json_impl_Json_h0_L1]
    unfold impl_Json_rightIn_1_h0
    obtain ⟨b, r1, e, g1, g2, g3⟩ := hR x (by simp) room h0 h1
    rw [e]
    simp only [Option.bind_some]
    have hs := sum_nn (cntD d) (cntD_nn d) xs
    have hx := cntD_nn d x
    cases b with
    | true =>
      obtain ⟨k1, k2⟩ := g2.1 rfl
      have k3 := g3 rfl
      rw [if_neg (by simp)]
      rcases p_idx_L1 R d deep xs (s8 + 1) r1 (by omega) (by omega) (fun y hy => hR y (by simp [hy])) with ⟨e2, q1, q2⟩ | ⟨i, r', e2, q1, q2⟩
      · refine .inl ⟨?_, ?_, ?_⟩
        · rw [e2]; simp only [List.map_cons, List.sum_cons]; congr 3; omega
        · intro y hy
          rcases List.mem_cons.1 hy with rfl | hy
          · exact k1
          · exact q1 y hy
        · simp only [List.map_cons, List.sum_cons]; omega
      · refine .inr ⟨i, r', e2, by omega, fun ⟨f1, f2⟩ => q2 ⟨fun y hy => f1 y (by simp [hy]), ?_⟩⟩
        simp only [List.map_cons, List.sum_cons] at f2
        omega
    | false =>
      rw [if_pos (by simp)]
      refine .inr ⟨s8, r1, rfl, g1, fun ⟨f1, f2⟩ => ?_⟩
      simp only [List.map_cons, List.sum_cons] at f2
      have := g2.2 ⟨f1 x (by simp), by omega⟩
      cases this
theorem p_rightIn : ∀ (k d : Nat) (j : GJson) (room : Int), d ≤ 12 → d < k → 0 ≤ room → room ≤ 400 → okGJson j →
    ∃ b room', impl_Json_rightIn k j (12 - d) room = some (b, room') ∧ room' ≤ room ∧ (b = true ↔ OkD d j ∧ cntD d j ≤ room) ∧ (b = true → room' = room - cntD d j)
  | 0, d, j, room, _, hk, _, _, _ => by omega
  | k + 1, d, j, room, hd, hk, h0, h1, ok => by
    obtain ⟨o1, o2, o3, o4⟩ := ok.parts
    rw [impl_Json_rightIn]
    unfold impl_Json_rightIn_B
    rw [w64_id (by omega)]
    by_cases c1 : room - 1 < 0
    · rw [if_pos (by simpa using c1), Option.bind_some, if_pos rfl]
      refine ⟨false, room - 1, rfl, by omega, ?_, by simp⟩
      simp only [Bool.false_eq_true, false_iff, not_and]
      intro ho
      cases d with
      | zero => exact ho.elim
      | succ d => simp only [cntD]; have := sum_nn (cntD d) (cntD_nn d) j.Items; omega
    rw [if_neg (by simpa using c1)]
    cases d with
    | zero =>
      rw [if_pos (by simp), Option.bind_some, if_pos rfl]
      exact ⟨false, room - 1, rfl, by omega, by simp [OkD], by simp⟩
    | succ d =>
      rw [if_neg (by simp; omega)]
      obtain ⟨pb, ep, hp⟩ := p_partOK j o2.1
      rw [ep, Option.bind_some, Option.bind_some]
      cases pb with
      | false =>
        rw [if_pos (by simp)]
        refine ⟨false, room - 1, rfl, by omega, ?_, by simp⟩
        simp only [Bool.false_eq_true, false_iff, not_and, OkD]
        intro ⟨hn, _⟩
        have := hp.2 hn
        cases this
      | true =>
        rw [if_neg (by simp)]
        have hdeep : w64 (12 - ((d + 1 : Nat) : Int) + 1) = 12 - (d : Int) := by rw [w64_id (by omega)]; omega
        have hloop := p_idx_L1 (impl_Json_rightIn k) d (12 - ((d + 1 : Nat) : Int)) j.Items 0 (room - 1) (by omega) (by omega) (fun y hy rm a1 a2 => by
          rw [hdeep]
          exact p_rightIn k d y rm (by omega) (by omega) a1 a2 (o4 y hy))
        unfold slices_ContainsFunc_impl_Json_impl_Json_h0 slices_IndexFunc_impl_Json_impl_Json_h0
        rcases hloop with ⟨e2, q1, q2⟩ | ⟨i, r', e2, q1, q2⟩
        · rw [e2]
          refine ⟨true, room - 1 - (j.Items.map (cntD d)).sum, by simp, ?_, ?_, ?_⟩
          · have := sum_nn (cntD d) (cntD_nn d) j.Items; omega
          · simp only [true_iff, OkD, cntD]; exact ⟨⟨hp.1 rfl, q1⟩, by omega⟩
          · intro _; simp only [cntD]; omega
        · rw [e2]
          refine ⟨false, r', by simp, by omega, ?_, by simp⟩
          simp only [Bool.false_eq_true, false_iff, OkD, cntD]
          rintro ⟨⟨_, f1⟩, f2⟩
          exact q2 ⟨f1, by omega⟩
end Go.R

