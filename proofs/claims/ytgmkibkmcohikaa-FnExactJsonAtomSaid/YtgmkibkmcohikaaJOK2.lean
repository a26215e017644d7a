/- JsonOK: the levels. -/
import Derived.Test.YtgmkibkmcohikaaJOK
set_option linter.all false
namespace Go.R
open Go
set_option linter.all false
def OkD : Nat → GJson → Prop
  | 0, _ => False
  | d + 1, j => NodeP j ∧ ∀ y ∈ j.Items, OkD d y
def cntD : Nat → GJson → Int
  | 0, _ => 0
  | d + 1, j => 1 + (j.Items.map (cntD d)).sum
theorem sum_nn {α : Type} (f : α → Int) (hf : ∀ x, 0 ≤ f x) : ∀ l : List α, 0 ≤ (l.map f).sum
  | [] => by simp
  | x :: xs => by simp only [List.map_cons, List.sum_cons]; have := hf x; have := sum_nn f hf xs; omega
theorem cntD_nn : ∀ (d : Nat) (j : GJson), 0 ≤ cntD d j
  | 0, j => by simp [cntD]
  | d + 1, j => by simp only [cntD]; have := sum_nn (cntD d) (cntD_nn d) j.Items; omega
theorem p_idx_L1 (R : GJson → Int → Int → Option (Bool × Int)) (d : Nat) (deep : Int) : ∀ (xs : List GJson) (s8 : Nat) (room : Int), 0 ≤ room → room ≤ 400 →
    (∀ y ∈ xs, ∀ room, 0 ≤ room → room ≤ 400 → ∃ b room', R y (w64 (deep + 1)) room = some (b, room') ∧ room' ≤ room ∧ (b = true ↔ OkD d y ∧ cntD d y ≤ room) ∧ (b = true → room' = room - cntD d y)) →
    (slices_IndexFunc_impl_Json_impl_Json_h0_L1 R xs s8 deep room = some (.go (deep, room - (xs.map (cntD d)).sum)) ∧ (∀ y ∈ xs, OkD d y) ∧ (xs.map (cntD d)).sum ≤ room) ∨
    (∃ (i : Nat) (r' : Int), slices_IndexFunc_impl_Json_impl_Json_h0_L1 R xs s8 deep room = some (.ret ((i : Int), deep, r')) ∧ r' ≤ room ∧ ¬ ((∀ y ∈ xs, OkD d y) ∧ (xs.map (cntD d)).sum ≤ room))
  | [], s8, room, h0, h1, hR => .inl ⟨by rw [slices_IndexFunc_impl_Json_impl_Json_h0_L1]; simp, by simp, by simpa using h0⟩
  | x :: xs, s8, room, h0, h1, hR => by
    rw [slices_IndexFunc_impl_Json_impl_Json_h0_L1]
    unfold impl_Json_rightIn_1_h0
    obtain ⟨b, r1, e, g1, g2, g3⟩ := hR x (by simp) room h0 h1
    rw [e]
    simp only [Option.bind_some]
    have hs := sum_nn (cntD d) (cntD_nn d) xs
    have hx := cntD_nn d x
    cases b with
    | true =>
      obtain ⟨k1, k2⟩ := g2.1 rfl
      have k3 := g3 rfl
      rw [if_neg (by simp)]
      rcases p_idx_L1 R d deep xs (s8 + 1) r1 (by omega) (by omega) (fun y hy => hR y (by simp [hy])) with ⟨e2, q1, q2⟩ | ⟨i, r', e2, q1, q2⟩
      · refine .inl ⟨?_, ?_, ?_⟩
        · rw [e2]; simp only [List.map_cons, List.sum_cons]; congr 3; omega
        · intro y hy
          rcases List.mem_cons.1 hy with rfl | hy
          · exact k1
          · exact q1 y hy
        · simp only [List.map_cons, List.sum_cons]; omega
      · refine .inr ⟨i, r', e2, by omega, fun ⟨f1, f2⟩ => q2 ⟨fun y hy => f1 y (by simp [hy]), ?_⟩⟩
        simp only [List.map_cons, List.sum_cons] at f2
        omega
    | false =>
      rw [if_pos (by simp)]
      refine .inr ⟨s8, r1, rfl, g1, fun ⟨f1, f2⟩ => ?_⟩
      simp only [List.map_cons, List.sum_cons] at f2
      have := g2.2 ⟨f1 x (by simp), by omega⟩
      cases this
theorem p_rightIn : ∀ (k d : Nat) (j : GJson) (room : Int), d ≤ 12 → d < k → 0 ≤ room → room ≤ 400 → okGJson j →
    ∃ b room', impl_Json_rightIn k j (12 - d) room = some (b, room') ∧ room' ≤ room ∧ (b = true ↔ OkD d j ∧ cntD d j ≤ room) ∧ (b = true → room' = room - cntD d j)
  | 0, d, j, room, _, hk, _, _, _ => by omega
  | k + 1, d, j, room, hd, hk, h0, h1, ok => by
    obtain ⟨o1, o2, o3, o4⟩ := ok.parts
    rw [impl_Json_rightIn]
    unfold impl_Json_rightIn_B
    rw [w64_id (by omega)]
    by_cases c1 : room - 1 < 0
    · rw [if_pos (by simpa using c1), Option.bind_some, if_pos rfl]
      refine ⟨false, room - 1, rfl, by omega, ?_, by simp⟩
      simp only [Bool.false_eq_true, false_iff, not_and]
      intro ho
      cases d with
      | zero => exact ho.elim
      | succ d => simp only [cntD]; have := sum_nn (cntD d) (cntD_nn d) j.Items; omega
    rw [if_neg (by simpa using c1)]
    cases d with
    | zero =>
      rw [if_pos (by simp), Option.bind_some, if_pos rfl]
      exact ⟨false, room - 1, rfl, by omega, by simp [OkD], by simp⟩
    | succ d =>
      rw [if_neg (by simp; omega)]
      obtain ⟨pb, ep, hp⟩ := p_partOK j o2.1
      rw [ep, Option.bind_some, Option.bind_some]
      cases pb with
      | false =>
        rw [if_pos (by simp)]
        refine ⟨false, room - 1, rfl, by omega, ?_, by simp⟩
        simp only [Bool.false_eq_true, false_iff, not_and, OkD]
        intro ⟨hn, _⟩
        have := hp.2 hn
        cases this
      | true =>
        rw [if_neg (by simp)]
        have hdeep : w64 (12 - ((d + 1 : Nat) : Int) + 1) = 12 - (d : Int) := by rw [w64_id (by omega)]; omega
        have hloop := p_idx_L1 (impl_Json_rightIn k) d (12 - ((d + 1 : Nat) : Int)) j.Items 0 (room - 1) (by omega) (by omega) (fun y hy rm a1 a2 => by
          rw [hdeep]
          exact p_rightIn k d y rm (by omega) (by omega) a1 a2 (o4 y hy))
        unfold slices_ContainsFunc_impl_Json_impl_Json_h0 slices_IndexFunc_impl_Json_impl_Json_h0
        rcases hloop with ⟨e2, q1, q2⟩ | ⟨i, r', e2, q1, q2⟩
        · rw [e2]
          refine ⟨true, room - 1 - (j.Items.map (cntD d)).sum, by simp, ?_, ?_, ?_⟩
          · have := sum_nn (cntD d) (cntD_nn d) j.Items; omega
          · simp only [true_iff, OkD, cntD]; exact ⟨⟨hp.1 rfl, q1⟩, by omega⟩
          · intro _; simp only [cntD]; omega
        · rw [e2]
          refine ⟨false, r', by simp, by omega, ?_, by simp⟩
          simp only [Bool.false_eq_true, false_iff, OkD, cntD]
          rintro ⟨⟨_, f1⟩, f2⟩
          exact q2 ⟨f1, by omega⟩
end Go.R
