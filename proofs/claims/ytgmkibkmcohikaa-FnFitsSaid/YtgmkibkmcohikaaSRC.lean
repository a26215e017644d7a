/- The source of draws: each step gives a value. -/
import Derived.Test.YtgmkibkmcohikaaPUT
import Derived.Test.YtgmkibkmcohikaaP0
set_option linter.all false
namespace Go.R
open Go
set_option linter.all false
structure SrcOK (s : GL00Src) : Prop where
  code : ∀ x ∈ s.Code, 0 ≤ x ∧ x < 256
  len : (s.Code.length : Int) ≤ 1048576
  at0 : 0 ≤ s.At
  seed : 0 ≤ s.Seed ∧ s.Seed < 2147483648
/-- s' comes behind s, of at most k bytes more -/
structure Nx (s s' : GL00Src) (k : Int) : Prop where
  ok : SrcOK s'
  lo : s.At ≤ s'.At
  hi : s'.At ≤ s.At + k
  code : s'.Code = s.Code
theorem Nx.refl {s : GL00Src} (h : SrcOK s) : Nx s s 0 := ⟨h, Int.le_refl _, by omega, rfl⟩
theorem Nx.mono {s s' : GL00Src} {k l : Int} (h : Nx s s' k) (hl : k ≤ l) : Nx s s' l := ⟨h.ok, h.lo, by have := h.hi; omega, h.code⟩
theorem Nx.trans {a b c : GL00Src} {k l : Int} (h : Nx a b k) (g : Nx b c l) : Nx a c (k + l) := ⟨g.ok, by have := h.lo; have := g.lo; omega, by have := h.hi; have := g.hi; omega, g.code.trans h.code⟩
theorem tmod_bd {a m : Int} (h : 0 ≤ a) (hm : 0 < m) : 0 ≤ a.tmod m ∧ a.tmod m < m := ⟨Int.tmod_nonneg _ h, Int.tmod_lt_of_pos _ hm⟩
theorem tdiv_bd {a m : Int} (h : 0 ≤ a) (hm : 0 < m) : a.tdiv m = a / m := by rw [Int.tdiv_eq_ediv_of_nonneg h]
theorem p_source (code : List Int) (hc : ∀ x ∈ code, 0 ≤ x ∧ x < 256) (hl : (code.length : Int) ≤ 1048576) : ∃ s, spec_l00Source code = some s ∧ SrcOK s ∧ s.At = 0 ∧ s.Code = code := by
  refine ⟨_, rfl, ⟨hc, hl, by simp, ?_⟩, rfl, rfl⟩
  have := tmod_bd (a := (code.length : Int)) (m := 1000) (by omega) (by omega)
  simp only; omega
theorem p_byte (s : GL00Src) (h : SrcOK s) (ha : s.At < 2 ^ 50) : ∃ b s', spec_l00Src_byte s = some (b, s') ∧ 0 ≤ b ∧ b < 256 ∧ Nx s s' 1 := by
  obtain ⟨h1, h2, h3, h4, h5⟩ := h
  unfold spec_l00Src_byte
  rw [w64_id (n := s.At + 1) (by omega)]
  by_cases c : s.At + 1 ≤ (s.Code.length : Int)
  · rw [if_pos (by simpa using c)]
    obtain ⟨n, hn⟩ : ∃ n : Nat, s.At = (n : Int) := ⟨s.At.toNat, by omega⟩
    have e1 : w64 (s.At + 1 - 1) = (n : Int) := by rw [w64_id (by omega)]; omega
    obtain ⟨x, hx⟩ : ∃ x, s.Code[n]? = some x := ⟨s.Code[n]'(by omega), List.getElem?_eq_getElem (by omega)⟩
    have hb := h1 x (List.mem_of_getElem? hx)
    rw [e1, idx_nat, hx, Option.bind_some, Option.bind_some, w64_id (n := x) (by omega), w64_id (n := s.Seed * 31) (by omega), w64_id (n := s.Seed * 31 + x) (by omega), w64_id (by omega)]
    have := tmod_bd (a := s.Seed * 31 + x + 7) (m := 2147483648) (by omega) (by omega)
    exact ⟨x, _, rfl, hb.1, hb.2, ⟨⟨h1, h2, by simp only; omega, this⟩, by simp only; omega, by simp only; omega, rfl⟩⟩
  · rw [if_neg (by simpa using c)]
    by_cases c2 : s.At + 1 > 3000
    · rw [if_pos (by simpa using c2)]
      exact ⟨0, _, rfl, by omega, by omega, ⟨⟨h1, h2, by simp only; omega, h4, h5⟩, by simp only; omega, by simp only; omega, rfl⟩⟩
    · rw [if_neg (by simpa using c2), w64_id (n := s.Seed * 1103515245) (by omega), w64_id (n := s.Seed * 1103515245 + 12345) (by omega)]
      have hs := tmod_bd (a := s.Seed * 1103515245 + 12345) (m := 2147483648) (by omega) (by omega)
      have hq := tdiv_bd (a := (s.Seed * 1103515245 + 12345).tmod 2147483648) (m := 65536) hs.1 (by omega)
      rw [hq]
      have : w64 ((s.Seed * 1103515245 + 12345).tmod 2147483648 / 65536) = (s.Seed * 1103515245 + 12345).tmod 2147483648 / 65536 := w64_id (by omega)
      rw [this]
      have hb := tmod_bd (a := (s.Seed * 1103515245 + 12345).tmod 2147483648 / 65536) (m := 256) (by omega) (by omega)
      exact ⟨_, _, rfl, hb.1, hb.2, ⟨⟨h1, h2, by simp only; omega, hs⟩, by simp only; omega, by simp only; omega, rfl⟩⟩
theorem p_next (n : Int) (s : GL00Src) (h : SrcOK s) (ha : s.At + 1 < 2 ^ 50) (h1 : 1 ≤ n) (h2 : n ≤ 256) : ∃ v s', spec_l00Src_next n s = some (v, s') ∧ 0 ≤ v ∧ v < n ∧ Nx s s' 1 := by
  unfold spec_l00Src_next
  by_cases c : n ≤ 1
  · rw [if_pos (by simpa using c)]
    exact ⟨0, s, rfl, by omega, by omega, (Nx.refl h).mono (by omega)⟩
  · rw [if_neg (by simpa using c), if_pos (by simpa using h2)]
    obtain ⟨b, s', e, g1, g2, g3⟩ := p_byte s h (by omega)
    rw [e, Option.bind_some, if_pos (by omega)]
    have := tmod_bd (a := b) (m := n) g1 (by omega)
    exact ⟨_, _, rfl, this.1, this.2, g3⟩
theorem p_chance (n : Int) (s : GL00Src) (h : SrcOK s) (ha : s.At + 1 < 2 ^ 50) (h1 : 1 ≤ n) (h2 : n ≤ 256) : ∃ v s', spec_l00Src_chance n s = some (v, s') ∧ Nx s s' 1 := by
  unfold spec_l00Src_chance
  obtain ⟨v, s', e, _, _, g⟩ := p_next n s h ha h1 h2
  rw [e, Option.bind_some]
  exact ⟨_, _, rfl, g⟩
theorem p_pick (l : List Str) (s : GL00Src) (h : SrcOK s) (ha : s.At + 1 < 2 ^ 50) (h1 : 1 ≤ l.length) (h2 : l.length ≤ 256) : ∃ t s', spec_l00Src_pick l s = some (t, s') ∧ t ∈ l ∧ Nx s s' 1 := by
  unfold spec_l00Src_pick
  rw [if_neg (by simp; intro hh; rw [hh] at h1; simp at h1)]
  obtain ⟨v, s', e, g1, g2, g⟩ := p_next l.length s h ha (by omega) (by omega)
  rw [e, Option.bind_some]
  obtain ⟨m, rfl⟩ : ∃ m : Nat, v = (m : Int) := ⟨v.toNat, by omega⟩
  simp only
  obtain ⟨x, hx⟩ : ∃ x, l[m]? = some x := ⟨l[m]'(by omega), List.getElem?_eq_getElem (by omega)⟩
  rw [idx_nat, hx, Option.bind_some]
  exact ⟨x, s', rfl, List.mem_of_getElem? hx, g⟩
end Go.R
