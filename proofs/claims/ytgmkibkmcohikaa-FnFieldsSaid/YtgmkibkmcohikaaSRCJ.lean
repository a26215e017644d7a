/- Drawn JSON values are right and small. -/
import Derived.Test.YtgmkibkmcohikaaSRC
set_option linter.all false
namespace Go.R
open Go
set_option linter.all false
theorem textB_of {l : List Str} (h : l.all textB = true) {t : Str} (ht : t ∈ l) : textB t = true := List.all_eq_true.1 h t ht
theorem p_jsText (s : GL00Src) (h : SrcOK s) (ha : s.At + 1 < 2 ^ 50) : ∃ t s', spec_l00Src_jsText s = some (t, s') ∧ textB t = true ∧ Nx s s' 1 := by
  unfold spec_l00Src_jsText
  obtain ⟨t, s', e, ht, g⟩ := p_pick [[], [97], [98], [107], [116, 119, 111, 32, 119, 111, 114, 100, 115], [113, 34, 113], [98, 92, 98], [122, 122]] s h ha (by simp) (by simp)
  rw [e, Option.bind_some]
  exact ⟨t, s', rfl, textB_of (by decide) ht, g⟩
def keyBase : List Str := [[97], [98], [107], [122, 122]]
def subsL : List Str → List (List Str)
  | [] => [[]]
  | x :: xs => subsL xs ++ (subsL xs).map (x :: ·)
theorem mem_subsL {ks l : List Str} (h : ks.Sublist l) : ks ∈ subsL l := by
  induction h with
  | slnil => simp [subsL]
  | cons a _ ih => simp only [subsL, List.mem_append]; exact .inl ih
  | cons_cons a _ ih => simp only [subsL, List.mem_append, List.mem_map]; exact .inr ⟨_, ih, rfl⟩
theorem keyBase_ok : ∀ ks ∈ subsL keyBase, ∀ q, q < ks.length → keyAt ks q = true := by decide
theorem p_json_L1 (R : Int → GL00Src → Option (GJson × GL00Src)) (d : Nat) (deep u c : Int) (hu : 0 ≤ u) (hR : ∀ s, SrcOK s → s.At + u < 2 ^ 50 → ∃ j s', R (w64 (deep - 1)) s = some (j, s') ∧ Nx s s' u ∧ OkD d j ∧ cntD d j ≤ c) : ∀ (i k : Nat) (s : GL00Src) (out : List GJson), i < k → out.length + i ≤ 8 → SrcOK s → s.At + u * i < 2 ^ 50 →
    ∃ s' l, spec_l00Src_json_B_L1 R deep k i s.Code s.At s.Seed out = some (s'.Code, s'.At, s'.Seed, out ++ l) ∧ Nx s s' (u * i) ∧ l.length = i ∧ (∀ y ∈ l, OkD d y) ∧ (l.map (cntD d)).sum ≤ c * i
  | _, 0, _, _, hk, _, _, _ => by omega
  | 0, k + 1, s, out, hk, ho, hs, ha => by
    refine ⟨s, [], ?_, (Nx.refl hs).mono (by simp), rfl, by simp, by simp⟩
    rw [spec_l00Src_json_B_L1, if_neg (by simp)]; simp
  | i + 1, k + 1, s, out, hk, ho, hs, ha => by
    have hui : 0 ≤ u * (i : Int) := Int.mul_nonneg hu (by omega)
    have e1 : u * ((i + 1 : Nat) : Int) = u + u * i := by push_cast; rw [Int.mul_add]; omega
    have e2 : c * ((i + 1 : Nat) : Int) = c + c * i := by push_cast; rw [Int.mul_add]; omega
    rw [e1] at ha
    rw [spec_l00Src_json_B_L1, if_pos (by simp)]
    obtain ⟨j, s1, e, g1, g2, g3⟩ := hR s hs (by omega)
    have e' : R (w64 (deep - 1)) (⟨s.Code, s.At, s.Seed⟩ : GL00Src) = some (j, s1) := e
    rw [e', Option.bind_some, if_pos (by simp; omega)]
    have ew : w64 (((i + 1 : Nat) : Int) - 1) = (i : Int) := by rw [w64_id (by omega)]; omega
    have := g1.hi
    obtain ⟨s2, l, f, f1, f2, f3, f4⟩ := p_json_L1 R d deep u c hu hR i k s1 (out ++ [j]) (by omega) (by simp; omega) g1.ok (by omega)
    rw [ew, f]
    refine ⟨s2, j :: l, by simp, by rw [e1]; exact g1.trans f1, by simp [f2], ?_, ?_⟩
    · intro y hy
      rcases List.mem_cons.1 hy with rfl | hy
      · exact g2
      · exact f3 y hy
    · simp only [List.map_cons, List.sum_cons]; omega
theorem keyBase_get (i : Nat) (h : i < 4) : ∃ x, ([[97], [98], [107], [122, 122]] : List Str)[(0 + (i : Int).toNat)]? = some x ∧ keyBase.take (i + 1) = keyBase.take i ++ [x] := by
  rcases i with _ | _ | _ | _ | i
  · exact ⟨_, rfl, rfl⟩
  · exact ⟨_, rfl, rfl⟩
  · exact ⟨_, rfl, rfl⟩
  · exact ⟨_, rfl, rfl⟩
  · omega
theorem p_json_L2 (R : Int → GL00Src → Option (GJson × GL00Src)) (d : Nat) (deep u c : Int) (hu : 0 ≤ u) (hc : 0 ≤ c) (hR : ∀ s, SrcOK s → s.At + u < 2 ^ 50 → ∃ j s', R (w64 (deep - 1)) s = some (j, s') ∧ Nx s s' u ∧ OkD d j ∧ cntD d j ≤ c) : ∀ (n i k : Nat) (s : GL00Src) (ks : List Str) (its : List GJson), n + i = 4 → n < k → SrcOK s → s.At + (u + 1) * n < 2 ^ 50 → ks.Sublist (keyBase.take i) → ks.length = its.length → its.length ≤ i →
    ∃ s' ks' l, spec_l00Src_json_B_L2 R deep k i s.Code s.At s.Seed ks its = some (s'.Code, s'.At, s'.Seed, ks', its ++ l) ∧ Nx s s' ((u + 1) * n) ∧ ks'.Sublist keyBase ∧ ks'.length = (its ++ l).length ∧ (∀ y ∈ l, OkD d y) ∧ (l.map (cntD d)).sum ≤ c * n
  | _, _, 0, _, _, _, _, hk, _, _, _, _, _ => by omega
  | 0, i, k + 1, s, ks, its, hi, hk, hs, ha, h1, h2, h3 => by
    have h4 : i = 4 := by omega
    subst h4
    refine ⟨s, ks, [], ?_, (Nx.refl hs).mono (by simp), h1, by simpa using h2, by simp, by simp⟩
    rw [spec_l00Src_json_B_L2, if_neg (by simp)]; simp
  | n + 1, i, k + 1, s, ks, its, hi, hk, hs, ha, h1, h2, h3 => by
    have hui : 0 ≤ (u + 1) * (n : Int) := Int.mul_nonneg (by omega) (by omega)
    have hcn : 0 ≤ c * (n : Int) := Int.mul_nonneg hc (by omega)
    have e1 : (u + 1) * ((n + 1 : Nat) : Int) = u + 1 + (u + 1) * n := by push_cast; rw [Int.mul_add]; omega
    have e2 : c * ((n + 1 : Nat) : Int) = c + c * n := by push_cast; rw [Int.mul_add]; omega
    rw [e1] at ha
    rw [spec_l00Src_json_B_L2, if_pos (by simp; omega)]
    obtain ⟨b, s1, e, g1⟩ := p_chance 2 s hs (by omega) (by omega) (by omega)
    have e' : spec_l00Src_chance 2 (⟨s.Code, s.At, s.Seed⟩ : GL00Src) = some (b, s1) := e
    have ew : w64 ((i : Int) + 1) = ((i + 1 : Nat) : Int) := by rw [w64_id (by omega)]; omega
    have := g1.hi
    obtain ⟨x, hx, htk⟩ := keyBase_get i (by omega)
    rw [e', Option.bind_some]
    cases b with
    | true =>
      rw [if_pos rfl, if_pos (by omega), hx, Option.bind_some, if_pos (by simp; omega)]
      obtain ⟨j, s2, f, q1, q2, q3⟩ := hR s1 g1.ok (by omega)
      have := q1.hi
      rw [f, Option.bind_some, if_pos (by simp; omega), ew]
      obtain ⟨s3, ks', l, f2, p1, p2, p3, p4, p5⟩ := p_json_L2 R d deep u c hu hc hR n (i + 1) k s2 (ks ++ [x]) (its ++ [j]) (by omega) (by omega) q1.ok (by omega) (by rw [htk]; exact h1.append (List.Sublist.refl _)) (by simp [h2]) (by simp; omega)
      rw [f2]
      refine ⟨s3, ks', j :: l, by simp, ?_, p2, by simpa using p3, ?_, ?_⟩
      · exact ((g1.trans q1).trans p1).mono (by omega)
      · intro y hy
        rcases List.mem_cons.1 hy with rfl | hy
        · exact q2
        · exact p4 y hy
      · simp only [List.map_cons, List.sum_cons]; omega
    | false =>
      rw [if_neg (by simp), ew]
      obtain ⟨s3, ks', l, f2, p1, p2, p3, p4, p5⟩ := p_json_L2 R d deep u c hu hc hR n (i + 1) k s1 ks its (by omega) (by omega) g1.ok (by omega) (by rw [htk]; exact h1.trans (List.sublist_append_left _ _)) h2 (by omega)
      rw [f2]
      exact ⟨s3, ks', l, rfl, (g1.trans p1).mono (by omega), p2, p3, p4, by omega⟩
def uJ : Nat → Int
  | 0 => 4
  | d + 1 => 8 + 4 * uJ d
def cJ : Nat → Int
  | 0 => 1
  | d + 1 => 1 + 4 * cJ d
theorem uJ_pos : ∀ d, 4 ≤ uJ d
  | 0 => by simp [uJ]
  | d + 1 => by have := uJ_pos d; simp only [uJ]; omega
theorem cJ_pos : ∀ d, 1 ≤ cJ d
  | 0 => by simp [cJ]
  | d + 1 => by have := cJ_pos d; simp only [cJ]; omega
theorem cnt_leaf {d : Nat} {j : GJson} (h : j.Items = []) : cntD (d + 1) j = 1 := by simp [cntD, h]
theorem leafD {d : Nat} {j : GJson} (h : NodeP j) (hi : j.Items = []) : OkD (d + 1) j ∧ cntD (d + 1) j ≤ cJ d := ⟨⟨h, by simp [hi]⟩, by rw [cnt_leaf hi]; exact cJ_pos d⟩
theorem p_json : ∀ (d k : Nat) (s : GL00Src), d < k → d ≤ 100 → SrcOK s → s.At + uJ d < 2 ^ 50 → ∃ j s', spec_l00Src_json k d s = some (j, s') ∧ Nx s s' (uJ d) ∧ OkD (d + 1) j ∧ cntD (d + 1) j ≤ cJ d
  | _, 0, _, hk, _, _, _ => by omega
  | d, k + 1, s, hk, hd, hs, ha => by
    have hup := uJ_pos d
    rw [spec_l00Src_json]
    unfold spec_l00Src_json_B
    obtain ⟨v0, s0, e0, a1, a2, a3⟩ := p_next 6 s hs (by omega) (by omega) (by omega)
    have := a3.hi
    rw [e0, Option.bind_some]
    have pre : ∃ v s1, ((if ((d : Int) == 0) then (spec_l00Src_next 4 s0).bind fun r_14 => some (r_14.1, r_14.2.Code, r_14.2.At, r_14.2.Seed) else some (v0, s0.Code, s0.At, s0.Seed) : Option (Int × (List Int) × Int × Int))) = some (v, s1.Code, s1.At, s1.Seed) ∧ 0 ≤ v ∧ v < 6 ∧ (d = 0 → v < 4) ∧ Nx s s1 2 := by
      by_cases c : d = 0
      · subst c
        obtain ⟨v, s1, e1, b1, b2, b3⟩ := p_next 4 s0 a3.ok (by omega) (by omega) (by omega)
        refine ⟨v, s1, ?_, b1, by omega, fun _ => b2, a3.trans b3⟩
        rw [if_pos (by simp), e1, Option.bind_some]
      · refine ⟨v0, s0, ?_, a1, a2, fun h => absurd h c, a3.mono (by omega)⟩
        rw [if_neg (by simpa using c)]
    obtain ⟨v, s1, e1, b1, b2, b3, b4⟩ := pre
    have hs1 := b4.hi
    rw [e1, Option.bind_some]
    simp only
    by_cases c0 : v = 0
    · rw [if_pos (by simp [c0])]
      exact ⟨_, s1, rfl, b4.mono (by omega), leafD (by simp [NodeP]) rfl⟩
    rw [if_neg (by simpa using c0)]
    by_cases c1 : v = 1
    · rw [if_pos (by simp [c1])]
      obtain ⟨w, s2, e2, d1, d2, d3⟩ := p_next 2 s1 b4.ok (by omega) (by omega) (by omega)
      have e2' : spec_l00Src_next 2 (⟨s1.Code, s1.At, s1.Seed⟩ : GL00Src) = some (w, s2) := e2
      rw [e2', Option.bind_some]
      exact ⟨_, s2, rfl, (b4.trans d3).mono (by omega), leafD (by simp only [NodeP]; simp; omega) rfl⟩
    rw [if_neg (by simpa using c1)]
    by_cases c2 : v = 2
    · rw [if_pos (by simp [c2])]
      obtain ⟨w, s2, e2, d1, d2, d3⟩ := p_next 20 s1 b4.ok (by omega) (by omega) (by omega)
      have := d3.hi
      obtain ⟨x, s3, e3, f1, f2, f3⟩ := p_next 6 s2 d3.ok (by omega) (by omega) (by omega)
      have e2' : spec_l00Src_next 20 (⟨s1.Code, s1.At, s1.Seed⟩ : GL00Src) = some (w, s2) := e2
      rw [e2', Option.bind_some, e3, Option.bind_some]
      simp only
      have hq := tdiv_bd (a := x) (m := 5) f1 (by omega)
      have hw : w64 (x / 5) = x / 5 := w64_id (by omega)
      rw [hq, hw, if_pos (by omega)]
      have hw2 : w64 (w - 9) = w - 9 := w64_id (by omega)
      rw [hw2]
      have hx : ∃ y, ([w - 9, 1000000000] : List Int)[(0 + (x / 5).toNat)]? = some y ∧ -1000000000 ≤ y ∧ y ≤ 1000000000 := by
        have : (x / 5).toNat = 0 ∨ (x / 5).toNat = 1 := by omega
        rcases this with h | h
        · exact ⟨w - 9, by rw [h]; rfl, by omega, by omega⟩
        · exact ⟨1000000000, by rw [h]; rfl, by omega, by omega⟩
      obtain ⟨y, hy, y1, y2⟩ := hx
      rw [hy, Option.bind_some]
      exact ⟨_, s3, rfl, ((b4.trans d3).trans f3).mono (by omega), leafD (by simp only [NodeP]; simp; omega) rfl⟩
    rw [if_neg (by simpa using c2)]
    by_cases c3 : v = 3
    · rw [if_pos (by simp [c3])]
      obtain ⟨t, s2, e2, d1, d2⟩ := p_jsText s1 b4.ok (by omega)
      have e2' : spec_l00Src_jsText (⟨s1.Code, s1.At, s1.Seed⟩ : GL00Src) = some (t, s2) := e2
      rw [e2', Option.bind_some]
      exact ⟨_, s2, rfl, (b4.trans d2).mono (by omega), leafD (by simp [NodeP, d1]) rfl⟩
    rw [if_neg (by simpa using c3)]
    obtain ⟨d', rfl⟩ : ∃ d', d = d' + 1 := ⟨d - 1, by omega⟩
    have hup' := uJ_pos d'
    have hcp' := cJ_pos d'
    simp only [uJ] at ha hup ⊢
    have hdeep : w64 (((d' + 1 : Nat) : Int) - 1) = (d' : Int) := by rw [w64_id (by omega)]; omega
    have hR : ∀ s, SrcOK s → s.At + uJ d' < 2 ^ 50 → ∃ j s', spec_l00Src_json k (w64 (((d' + 1 : Nat) : Int) - 1)) s = some (j, s') ∧ Nx s s' (uJ d') ∧ OkD (d' + 1) j ∧ cntD (d' + 1) j ≤ cJ d' := by
      intro s g1 g2
      rw [hdeep]
      exact p_json d' k s (by omega) (by omega) g1 g2
    have hf : 2 ^ 40 < FUEL := by unfold FUEL; decide
    by_cases c4 : v = 4
    · rw [if_pos (by simp [c4])]
      obtain ⟨w, s2, e2, d1, d2, d3⟩ := p_next 4 s1 b4.ok (by omega) (by omega) (by omega)
      have := d3.hi
      have e2' : spec_l00Src_next 4 (⟨s1.Code, s1.At, s1.Seed⟩ : GL00Src) = some (w, s2) := e2
      obtain ⟨i, rfl⟩ : ∃ i : Nat, w = (i : Int) := ⟨w.toNat, by omega⟩
      have hm : uJ d' * (i : Int) ≤ uJ d' * 3 := Int.mul_le_mul_of_nonneg_left (by omega) (by omega)
      have hm2 : cJ d' * (i : Int) ≤ cJ d' * 3 := Int.mul_le_mul_of_nonneg_left (by omega) (by omega)
      obtain ⟨s3, l, e3, f1, f2, f3, f4⟩ := p_json_L1 (spec_l00Src_json k) (d' + 1) ((d' + 1 : Nat) : Int) (uJ d') (cJ d') (by omega) hR i FUEL s2 [] (by omega) (by simp; omega) d3.ok (by omega)
      rw [e2', Option.bind_some, e3, Option.bind_some]
      refine ⟨_, s3, rfl, ((b4.trans d3).trans f1).mono (by omega), ⟨by simp [NodeP], ?_⟩, ?_⟩
      · simpa using f3
      · simp only [List.nil_append]; unfold cntD cJ; simp only; omega
    · rw [if_neg (by simpa using c4)]
      obtain ⟨s3, ks, l, e3, f1, f2, f3, f4, f5⟩ := p_json_L2 (spec_l00Src_json k) (d' + 1) ((d' + 1 : Nat) : Int) (uJ d') (cJ d') (by omega) (by omega) hR 4 0 FUEL s1 [] [] (by omega) (by omega) b4.ok (by omega) (by simp) rfl (by simp)
      have e3' : spec_l00Src_json_B_L2 (spec_l00Src_json k) ((d' + 1 : Nat) : Int) FUEL 0 s1.Code s1.At s1.Seed [] [] = _ := e3
      rw [e3', Option.bind_some]
      refine ⟨_, s3, rfl, (b4.trans f1).mono (by omega), ⟨?_, ?_⟩, ?_⟩
      · exact .inr (.inr (.inr (.inr (.inr ⟨rfl, rfl, rfl, f3, keyBase_ok ks (mem_subsL f2)⟩))))
      · simpa using f4
      · simp only [List.nil_append]; unfold cntD cJ; simp only; omega
end Go.R
