/- Drawn atoms, sets and columns are right; behind SRC, PUT. -/
import Derived.Test.YtgmkibkmcohikaaSRC
set_option linter.all false
namespace Go.R
open Go
set_option linter.all false
theorem byte_h1 (s : GL00Src) : spec_l00Src_byte_h1 s = spec_l00Src_byte s := by
  unfold spec_l00Src_byte_h1 spec_l00Src_byte
  rfl
theorem next_h1 (n : Int) (s : GL00Src) : spec_l00Src_next_h1 n s = spec_l00Src_next n s := by
  unfold spec_l00Src_next_h1 spec_l00Src_next
  simp only [byte_h1]
theorem pick_h1 (l : List Str) (s : GL00Src) : spec_l00Src_pick_h1 l s = spec_l00Src_pick l s := by
  unfold spec_l00Src_pick_h1 spec_l00Src_pick
  simp only [next_h1]
theorem source_h1 (c : List Int) : spec_l00Source_h1 c = spec_l00Source c := by
  unfold spec_l00Source_h1 spec_l00Source
  rfl
theorem p_atom (kind : Int) (s : GL00Src) (hk : 1 ≤ kind ∧ kind ≤ 4) (h : SrcOK s) (ha : s.At + 1 < 2 ^ 50) : ∃ a s', spec_l00Src_atom_h1 kind s = some (a, s') ∧ atomB a = true ∧ a.Kind = kind ∧ Nx s s' 1 := by
  unfold spec_l00Src_atom_h1
  try simp only [next_h1, pick_h1]
  by_cases k1 : kind = 1
  · subst k1
    obtain ⟨v, s', e, g1, g2, g⟩ := p_next 12 s h ha (by omega) (by omega)
    rw [if_pos (by simp), e, Option.bind_some]
    refine ⟨_, s', rfl, ?_, rfl, g⟩
    have : w64 (v - 4) = v - 4 := w64_id (by omega)
    rw [this]
    have : -1000000000 ≤ v - 4 ∧ v - 4 ≤ 1000000000 := by omega
    simp [atomB, this]
  rw [if_neg (by simpa using k1)]
  by_cases k2 : kind = 2
  · subst k2
    obtain ⟨t, s', e, ht, g⟩ := p_pick [[], [97], [98], [99], [110, 101, 116]] s h ha (by simp) (by simp)
    rw [if_pos (by simp), e, Option.bind_some]
    refine ⟨_, s', rfl, ?_, rfl, g⟩
    have : textB t = true := List.all_eq_true.1 (show ([[], [97], [98], [99], [110, 101, 116]] : List Str).all textB = true by decide) t ht
    simp [atomB, this]
  rw [if_neg (by simpa using k2)]
  by_cases k3 : kind = 3
  · subst k3
    obtain ⟨v, s', e, g1, g2, g⟩ := p_next 2 s h ha (by omega) (by omega)
    rw [if_pos (by simp), e, Option.bind_some]
    refine ⟨_, s', rfl, ?_, rfl, g⟩
    have : 0 ≤ v ∧ v ≤ 1 := by omega
    simp [atomB, this]
  rw [if_neg (by simpa using k3)]
  have k4 : kind = 4 := by omega
  subst k4
  obtain ⟨v, s', e, g1, g2, g⟩ := p_next 6 s h ha (by omega) (by omega)
  rw [e, Option.bind_some]
  refine ⟨_, s', rfl, ?_, rfl, g⟩
  have : w64 (1 + v) = 1 + v := w64_id (by omega)
  rw [this]
  have : 1 ≤ 1 + v ∧ 1 + v ≤ 1000000 := by omega
  simp [atomB, this]
theorem p_datum_L1 (kind : Int) (hk : 1 ≤ kind ∧ kind ≤ 4) : ∀ (i k : Nat) (s : GL00Src) (out : List GAtom), i < k → SortD kind out → out.length + i ≤ 100 → SrcOK s → s.At + i < 2 ^ 50 →
    ∃ s' d, spec_l00Src_datum_h1_L1 kind k out i s.Code s.At s.Seed = some (d, s'.Code, s'.At, s'.Seed) ∧ SortD kind d ∧ d.length ≤ out.length + i ∧ Nx s s' i
  | _, 0, _, _, h, _, _, _, _ => by omega
  | 0, k + 1, s, out, h, hs, hl, ho, ha => by
    refine ⟨s, out, ?_, hs, by omega, Nx.refl ho⟩
    rw [spec_l00Src_datum_h1_L1, if_neg (by simp)]
  | i + 1, k + 1, s, out, h, hs, hl, ho, ha => by
    rw [spec_l00Src_datum_h1_L1, if_pos (by simp)]
    obtain ⟨a, s1, e, g1, g2, g3⟩ := p_atom kind s hk ho (by omega)
    have e' : spec_l00Src_atom_h1 kind (⟨s.Code, s.At, s.Seed⟩ : GL00Src) = some (a, s1) := e
    obtain ⟨d, f, f1, f2, f3⟩ := p_Put kind out a hs g1 g2 (by omega)
    have ew : w64 (((i + 1 : Nat) : Int) - 1) = (i : Int) := by rw [w64_id (by omega)]; omega
    have := g3.hi
    obtain ⟨s2, d2, q, q1, q2, q3⟩ := p_datum_L1 kind hk i k s1 d (by omega) f1 (by omega) g3.ok (by omega)
    rw [e', Option.bind_some, f, Option.bind_some, ew, q]
    exact ⟨s2, d2, rfl, q1, by omega, (g3.trans q3).mono (by omega)⟩
theorem p_datum (kind : Int) (s : GL00Src) (hk : 1 ≤ kind ∧ kind ≤ 4) (h : SrcOK s) (ha : s.At + 5 < 2 ^ 50) : ∃ d s', spec_l00Src_datum_h1 kind s = some (d, s') ∧ SortD kind d ∧ d.length ≤ 4 ∧ Nx s s' 5 := by
  have hf : 2 ^ 40 < FUEL := by unfold FUEL; decide
  unfold spec_l00Src_datum_h1
  try rw [next_h1]
  obtain ⟨v, s1, e, g1, g2, g⟩ := p_next 5 s h (by omega) (by omega) (by omega)
  obtain ⟨i, rfl⟩ : ∃ i : Nat, v = (i : Int) := ⟨v.toNat, by omega⟩
  have := g.hi
  obtain ⟨s2, d, e2, q1, q2, q3⟩ := p_datum_L1 kind hk i FUEL s1 [] (by omega) ⟨by simp, by simp⟩ (by simp; omega) g.ok (by omega)
  rw [e, Option.bind_some, e2, Option.bind_some]
  simp only [List.length_nil] at q2
  exact ⟨d, s2, rfl, q1, by omega, (g.trans q3).mono (by omega)⟩
theorem p_DatumDrawn (code : List Int) (kind : Int) (hc : ∀ x ∈ code, 0 ≤ x ∧ x < 256) (hl : (code.length : Int) ≤ 1048576) (hk : 1 ≤ kind ∧ kind ≤ 4) : ∃ d, spec_DatumDrawn code kind = some d ∧ SortD kind d ∧ d.length ≤ 4 := by
  unfold spec_DatumDrawn
  obtain ⟨s, e1, g1, g2, _⟩ := p_source code hc hl
  obtain ⟨d, s', e2, h1, h2, _⟩ := p_datum kind s hk g1 (by rw [g2]; decide)
  have e1' : spec_l00Source_h1 code = some s := by rw [source_h1]; exact e1
  first
  | rw [e1', Option.bind_some, e2, Option.bind_some]
  | rw [e1, Option.bind_some, e2, Option.bind_some]
  exact ⟨d, rfl, h1, h2⟩
theorem p_at (more : List Int) (n : Int) (hc : ∀ x ∈ more, 0 ≤ x ∧ x < 256) (hl : (more.length : Int) ≤ 1048576) (hn : 1 ≤ n ∧ n ≤ 1000000) (i : Int) (hi : 0 ≤ i ∧ i ≤ 1000) : ∃ v, laws_at more i n = some v ∧ 0 ≤ v ∧ v < n := by
  unfold laws_at
  by_cases h1 : n ≤ 1
  · rw [if_pos (by simpa using h1)]; exact ⟨0, rfl, by omega, by omega⟩
  rw [if_neg (by simpa using h1)]
  by_cases h2 : more.length = 0
  · rw [if_pos (by simpa using h2), if_pos (by omega)]
    have e : w64 (i * 7) = i * 7 := w64_id (by omega)
    have := tmod_bd (a := i * 7) (m := n) (by omega) (by omega)
    rw [e]
    exact ⟨_, rfl, this⟩
  rw [if_neg (by simpa using h2), if_pos (by omega)]
  have get : ∀ j : Int, 0 ≤ j → ∃ x, idx more (j.tmod (more.length : Int)) = some x ∧ 0 ≤ x ∧ x < 256 := by
    intro j hj
    have hb := tmod_bd (a := j) (m := (more.length : Int)) hj (by omega)
    obtain ⟨q, hq⟩ : ∃ q : Nat, j.tmod (more.length : Int) = (q : Int) := ⟨(j.tmod (more.length : Int)).toNat, by omega⟩
    rw [hq] at hb ⊢
    obtain ⟨x, hx⟩ : ∃ x, more[q]? = some x := ⟨more[q]'(by omega), List.getElem?_eq_getElem (by omega)⟩
    rw [idx_nat, hx]
    exact ⟨x, rfl, hc x (List.mem_of_getElem? hx)⟩
  obtain ⟨x, ex, x1, x2⟩ := get i hi.1
  have ew : w64 (i + 1) = i + 1 := w64_id (by omega)
  obtain ⟨y, ey, y1, y2⟩ := get (i + 1) (by omega)
  rw [ex, Option.bind_some, if_pos (by omega), ew, ey, Option.bind_some, if_pos (by omega), if_pos (by omega)]
  have hq : 0 ≤ i.tdiv (more.length : Int) ∧ i.tdiv (more.length : Int) ≤ i := by
    rw [tdiv_bd hi.1 (by omega)]
    exact ⟨Int.ediv_nonneg hi.1 (by omega), Int.ediv_le_self _ hi.1⟩
  rw [w64_id (n := x) (by omega), w64_id (n := x * 31) (by omega), w64_id (n := y) (by omega), w64_id (n := x * 31 + y) (by omega), w64_id (n := i.tdiv (more.length : Int)) (by omega), w64_id (by omega)]
  have := tmod_bd (a := x * 31 + y + i.tdiv (more.length : Int)) (m := n) (by omega) (by omega)
  exact ⟨_, rfl, this⟩
end Go.R
