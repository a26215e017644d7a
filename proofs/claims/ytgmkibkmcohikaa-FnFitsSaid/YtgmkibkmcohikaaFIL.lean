/- Fits: the law. -/
import Derived.Test.YtgmkibkmcohikaaDRD
set_option linter.all false
namespace Go.R
open Go
set_option linter.all false
structure ColP (c : GColumn) : Prop where
  name : c.Name ∈ ([[97], [98], [110, 97, 109, 101], [116, 97, 103]] : List Str)
  min : 0 ≤ c.Min ∧ c.Min ≤ 1
  max : 1 ≤ c.Max ∧ c.Max ≤ 3
  kind : (c.Kind = 1 ∧ (-4 ≤ c.Low ∧ c.Low ≤ c.High ∧ c.High ≤ 100) ∧ c.Ref = [] ∧ c.Strong = false) ∨ ((c.Kind = 2 ∨ c.Kind = 3) ∧ c.Low = 0 ∧ c.High = 0 ∧ c.Ref = [] ∧ c.Strong = false) ∨ (c.Kind = 4 ∧ c.Min = 0 ∧ c.Low = 0 ∧ c.High = 0 ∧ c.Ref = [112, 111, 114, 116])
theorem p_column (s : GL00Src) (h : SrcOK s) (ha : s.At + 8 < 2 ^ 50) : ∃ c s', spec_l00Src_column s = some (c, s') ∧ ColP c := by
  unfold spec_l00Src_column
  obtain ⟨t, s1, e1, a1, a2⟩ := p_pick [[97], [98], [110, 97, 109, 101], [116, 97, 103]] s h (by omega) (by simp) (by simp)
  have := a2.hi
  obtain ⟨v, s2, e2, b1, b2, b3⟩ := p_next 4 s1 a2.ok (by omega) (by omega) (by omega)
  have := b3.hi
  obtain ⟨m, s3, e3, c1, c2, c3⟩ := p_next 2 s2 b3.ok (by omega) (by omega) (by omega)
  have := c3.hi
  obtain ⟨x, s4, e4, d1, d2, d3⟩ := p_next 3 s3 c3.ok (by omega) (by omega) (by omega)
  have := d3.hi
  rw [e1, Option.bind_some, e2, Option.bind_some, e3, Option.bind_some, e4, Option.bind_some]
  have w1 : w64 (1 + v) = 1 + v := w64_id (by omega)
  have w2 : w64 (1 + x) = 1 + x := w64_id (by omega)
  simp only [w1, w2]
  by_cases k1 : 1 + v = 1
  · rw [if_pos (by simpa using k1)]
    obtain ⟨l, s5, e5, f1, f2, f3⟩ := p_next 9 s4 d3.ok (by omega) (by omega) (by omega)
    have := f3.hi
    obtain ⟨g, s6, e6, g1, g2, g3⟩ := p_next 9 s5 f3.ok (by omega) (by omega) (by omega)
    have w3 : w64 (l - 4) = l - 4 := w64_id (by omega)
    have w4 : w64 (l - 4 + g) = l - 4 + g := w64_id (by omega)
    rw [e5, Option.bind_some, e6, Option.bind_some]
    simp only [w3, w4]
    exact ⟨_, s6, rfl, a1, by simp only; omega, by simp only; omega, .inl ⟨k1, by simp only; omega, rfl, rfl⟩⟩
  rw [if_neg (by simpa using k1)]
  by_cases k4 : 1 + v = 4
  · rw [if_pos (by simpa using k4)]
    obtain ⟨l, s5, e5, f1⟩ := p_chance 2 s4 d3.ok (by omega) (by omega) (by omega)
    rw [e5, Option.bind_some]
    exact ⟨_, s5, rfl, a1, by simp only; omega, by simp only; omega, .inr (.inr ⟨k4, rfl, rfl, rfl, rfl⟩)⟩
  rw [if_neg (by simpa using k4)]
  exact ⟨_, s4, rfl, a1, by simp only; omega, by simp only; omega, .inr (.inl ⟨by simp only; omega, rfl, rfl, rfl, rfl⟩)⟩
theorem p_ColumnDrawn (code : List Int) (hc : ∀ x ∈ code, 0 ≤ x ∧ x < 256) (hl : (code.length : Int) ≤ 1048576) : ∃ c, spec_ColumnDrawn code = some c ∧ ColP c := by
  unfold spec_ColumnDrawn
  obtain ⟨s, e1, g1, g2, _⟩ := p_source code hc hl
  obtain ⟨c, s', e2, h⟩ := p_column s g1 (by rw [g2]; decide)
  rw [e1, Option.bind_some, e2, Option.bind_some]
  exact ⟨c, rfl, h⟩
theorem names_i : ∀ t ∈ ([[97], [98], [110, 97, 109, 101], [116, 97, 103], [112, 111, 114, 116]] : List Str), impl_NameOK t = some true := by decide
theorem names_s : ∀ t ∈ ([[97], [98], [110, 97, 109, 101], [116, 97, 103], [112, 111, 114, 116]] : List Str), spec_NameOK t = some true := by decide
theorem ColP.names {c : GColumn} (h : ColP c) : impl_NameOK c.Name = some true ∧ spec_NameOK c.Name = some true := by
  have : c.Name ∈ ([[97], [98], [110, 97, 109, 101], [116, 97, 103], [112, 111, 114, 116]] : List Str) := by
    have := h.name
    simp only [List.mem_cons, List.not_mem_nil, or_false] at this ⊢
    rcases this with h | h | h | h
    · exact .inl h
    · exact .inr (.inl h)
    · exact .inr (.inr (.inl h))
    · exact .inr (.inr (.inr (.inl h)))
  exact ⟨names_i _ this, names_s _ this⟩
theorem p_ColumnOK {c : GColumn} (h : ColP c) : impl_ColumnOK c = some true := by
  obtain ⟨n1, _⟩ := h.names
  have h1 := h.min
  have h2 : 1 ≤ c.Max ∧ c.Max ≤ 8 := by have := h.max; omega
  have hr : impl_NameOK [112, 111, 114, 116] = some true := names_i _ (by simp)
  unfold impl_ColumnOK impl_isNumber
  simp only [n1, p_within, h1, h2, Option.bind_some, and_self, decide_true, Bool.not_true, Bool.false_eq_true, if_false]
  rcases h.kind with ⟨k, ⟨l1, l2, l3⟩, r, g⟩ | ⟨k, l1, l2, r, g⟩ | ⟨k, m, l1, l2, r⟩
  · have e1 : -1000000000 ≤ c.Low ∧ c.Low ≤ 1000000000 := by omega
    have e2 : -1000000000 ≤ c.High ∧ c.High ≤ 1000000000 := by omega
    simp [k, e1, e2, l2, r, g]
  · rcases k with k | k <;> simp [k, l1, l2, r, g]
  · simp [k, m, l1, l2, r, hr]
theorem p_sColumnOK {c : GColumn} (h : ColP c) : spec_ColumnOK c = some true := by
  obtain ⟨_, n1⟩ := h.names
  have h1 := h.min
  have h2 : 1 ≤ c.Max ∧ c.Max ≤ 8 := by have := h.max; omega
  have hr : spec_NameOK [112, 111, 114, 116] = some true := names_s _ (by simp)
  have hk : 1 ≤ c.Kind ∧ c.Kind ≤ 4 := by rcases h.kind with h | h | h <;> omega
  unfold spec_ColumnOK
  simp only [n1, p_in, h1, h2, hk, Option.bind_some, and_self, decide_true, Bool.not_true, Bool.false_eq_true, if_false]
  rcases h.kind with ⟨k, ⟨l1, l2, l3⟩, r, g⟩ | ⟨k, l1, l2, r, g⟩ | ⟨k, m, l1, l2, r⟩
  · have e1 : -1000000000 ≤ c.Low := by omega
    have e2 : c.High ≤ 1000000000 := by omega
    simp [k, e1, e2, l2, r, g]
  · rcases k with k | k <;> simp [k, l1, l2, r, g]
  · simp [k, m, l1, l2, r, hr]
/-- what stands at no name -/
def outB (c : GColumn) (x : GAtom) : Bool := !decide (c.Low ≤ x.N ∧ x.N ≤ c.High)
theorem p_Idx_L1 (c : GColumn) : ∀ (xs : List GAtom) (i : Nat), slices_IndexFunc_impl_Atom_impl_Atom_L1 (fun a => impl_Column_fits_1 a c) xs i = some (.go ()) ∧ xs.any (outB c) = false ∨ ∃ j : Nat, slices_IndexFunc_impl_Atom_impl_Atom_L1 (fun a => impl_Column_fits_1 a c) xs i = some (.ret (j : Int)) ∧ xs.any (outB c) = true
  | [], i => .inl ⟨by rw [slices_IndexFunc_impl_Atom_impl_Atom_L1], rfl⟩
  | x :: xs, i => by
    rw [slices_IndexFunc_impl_Atom_impl_Atom_L1]
    have e : impl_Column_fits_1 x c = some (outB c x) := by unfold impl_Column_fits_1; rw [p_within, Option.bind_some]; rfl
    rw [e, Option.bind_some]
    cases h : outB c x with
    | true => rw [if_pos rfl]; exact .inr ⟨i, rfl, by simp [h]⟩
    | false =>
      rw [if_neg (by simp)]
      rcases p_Idx_L1 c xs (i + 1) with ⟨h1, h2⟩ | ⟨j, h1, h2⟩
      · exact .inl ⟨h1, by simp [h, h2]⟩
      · exact .inr ⟨j, h1, by simp [h, h2]⟩
theorem p_Contains (c : GColumn) (d : List GAtom) : slices_ContainsFunc_impl_Atom_impl_Atom d (fun a => impl_Column_fits_1 a c) = some (d.any (outB c)) := by
  unfold slices_ContainsFunc_impl_Atom_impl_Atom slices_IndexFunc_impl_Atom_impl_Atom
  rcases p_Idx_L1 c d 0 with ⟨h1, h2⟩ | ⟨j, h1, h2⟩
  · rw [h1, h2]; rfl
  · rw [h1, h2]; simp
theorem p_sFits_L1 (c : GColumn) : ∀ (xs : List GAtom), spec_l04Fits_L1 c xs = some (if (c.Kind == 1 && xs.any (outB c)) = true then .ret 4 else .go ())
  | [] => by rw [spec_l04Fits_L1]; simp
  | x :: xs => by
    rw [spec_l04Fits_L1, p_sFits_L1 c xs]
    by_cases k : c.Kind = 1
    · rw [if_pos (by simpa using k), p_in, Option.bind_some, Option.bind_some]
      have e : (!decide (c.Low ≤ x.N ∧ x.N ≤ c.High)) = outB c x := rfl
      rw [e]
      cases h : outB c x <;> simp [k, h]
    · rw [if_neg (by simpa using k), Option.bind_some, if_neg (by simp)]
      simp [k]
def fitsF (c : GColumn) (d : List GAtom) : Int :=
  if (match d[0]? with | some x => x.Kind != c.Kind | none => false) = true then 9 else if ¬ (c.Min ≤ d.length ∧ (d.length : Int) ≤ c.Max) then 6 else if (c.Kind == 1 && d.any (outB c)) = true then 4 else 0
theorem p_cond (c : GColumn) (d : List GAtom) : ((if (decide ((d.length : Int) > 0)) then (idx d 0).bind fun x_11 => some (x_11.Kind != c.Kind) else some false : Option Bool)) = some (match d[0]? with | some x => x.Kind != c.Kind | none => false) := by
  cases d with
  | nil => rfl
  | cons x xs =>
    rw [if_pos (by simp)]
    rfl
theorem p_fits (c : GColumn) (d : List GAtom) : impl_Column_fits c d = some (fitsF c d) := by
  unfold impl_Column_fits fitsF
  rw [p_cond, Option.bind_some]
  generalize (match d[0]? with | some x => x.Kind != c.Kind | none => false) = b
  cases b with
  | true => simp
  | false =>
    simp only [Bool.false_eq_true, if_false]
    rw [p_within, Option.bind_some]
    by_cases h : c.Min ≤ d.length ∧ (d.length : Int) ≤ c.Max
    · rw [decide_eq_true h, if_neg (not_not_intro h)]
      simp only [Bool.not_true, Bool.false_eq_true, if_false]
      by_cases k : c.Kind = 1
      · rw [if_pos (by simpa using k), p_Contains, Option.bind_some]
        cases hh : d.any (outB c) <;> simp [k]
      · rw [if_neg (by simpa using k)]
        simp [k]
    · rw [decide_eq_false h, if_pos h]
      simp
theorem p_sfits (c : GColumn) (d : List GAtom) : spec_l04Fits c d = some (fitsF c d) := by
  unfold spec_l04Fits fitsF
  rw [p_cond, Option.bind_some]
  generalize (match d[0]? with | some x => x.Kind != c.Kind | none => false) = b
  cases b with
  | true => simp
  | false =>
    simp only [Bool.false_eq_true, if_false]
    rw [p_in, Option.bind_some]
    by_cases h : c.Min ≤ d.length ∧ (d.length : Int) ≤ c.Max
    · rw [decide_eq_true h, if_neg (not_not_intro h)]
      simp only [Bool.not_true, Bool.false_eq_true, if_false]
      rw [p_sFits_L1]
      cases hh : (c.Kind == 1 && d.any (outB c)) <;> simp
    · rw [decide_eq_false h, if_pos h]
      simp
theorem p_Fits {c : GColumn} (hc : ColP c) {k : Int} {d : List GAtom} (hs : SortD k d) (hl : d.length ≤ 4) : impl_Fits c d = some (fitsF c d, 0) ∧ spec_Fits c d = some (fitsF c d, 0) := by
  have hd : datB d = true := by
    unfold datB
    rw [hs.allS]
    simp; omega
  constructor
  · unfold impl_Fits impl_isList_impl_Atom
    rw [Option.bind_some, if_neg (by simp; omega), p_ColumnOK hc, Option.bind_some, if_neg (by simp), p_DatumOK d (by simp only [maxLen]; omega), Option.bind_some, Option.bind_some, hd, if_neg (by simp), p_fits, Option.bind_some]
  · unfold spec_Fits
    rw [if_neg (by simp; omega), p_sColumnOK hc, Option.bind_some, if_neg (by simp), p_sDatumOK d, Option.bind_some, Option.bind_some, hd, if_neg (by simp), p_sfits, Option.bind_some]
theorem start_eq (c : GColumn) : spec_l04Default c = impl_Column_start c := by
  unfold spec_l04Default impl_Column_start
  rfl
theorem p_start {c : GColumn} (hc : ColP c) : ∃ d, impl_Column_start c = some d ∧ SortD c.Kind d ∧ d.length ≤ 4 ∧ fitsF c d = 0 := by
  unfold impl_Column_start
  by_cases m : c.Min = 0
  · rw [if_pos (by simpa using m)]
    refine ⟨[], rfl, ⟨by simp, by simp⟩, by simp, ?_⟩
    have := hc.max
    have h : c.Min ≤ (([] : List GAtom).length : Int) ∧ (([] : List GAtom).length : Int) ≤ c.Max := by simp; omega
    unfold fitsF
    simp [h]
    omega
  rw [if_neg (by simpa using m)]
  have h1 := hc.min
  have h2 := hc.max
  have fin : ∀ x : Int, (c.Kind = 1 → (c.Low ≤ x ∧ x ≤ c.High)) → atomB (⟨c.Kind, x, []⟩ : GAtom) = true → ∃ d, some [(⟨c.Kind, x, []⟩ : GAtom)] = some d ∧ SortD c.Kind d ∧ d.length ≤ 4 ∧ fitsF c d = 0 := by
    intro x hx ha
    refine ⟨_, rfl, ⟨by simp [ha], ?_⟩, by simp, ?_⟩
    · intro i a b h1 h2; simp at h2
    · unfold fitsF
      have h : c.Min ≤ (([(⟨c.Kind, x, []⟩ : GAtom)]).length : Int) ∧ (([(⟨c.Kind, x, []⟩ : GAtom)]).length : Int) ≤ c.Max := by simp; omega
      have h3 : c.Min ≤ 1 ∧ 1 ≤ c.Max := by omega
      simp [h3, outB]
      intro k
      have := hx k
      simp [this]
  rcases hc.kind with ⟨k, ⟨l1, l2, l3⟩, r, g⟩ | ⟨k, l1, l2, r, g⟩ | ⟨k, m', l1, l2, r⟩
  · rw [if_pos (by simpa using k), Option.bind_some]
    refine fin _ (fun _ => ?_) ?_
    · split <;> split <;> omega
    · have hb : ∀ x : Int, -1000000000 ≤ x ∧ x ≤ 1000000000 → atomB (⟨c.Kind, x, []⟩ : GAtom) = true := by
        intro x hx; simp [atomB, k, hx]
      refine hb _ ?_
      split <;> split <;> omega
  · have k1 : ¬ c.Kind = 1 := by omega
    rw [if_neg (by simpa using k1), Option.bind_some]
    refine fin 0 (fun h => absurd h k1) ?_
    have e : textB [] = true := by decide
    rcases k with k | k <;> simp [atomB, k, e]
  · exact absurd m' m
theorem p_same_L1 (b : List GAtom) : ∀ (xs : List GAtom) (i : Nat), b.drop i = xs → laws_sameDatum_L1 b xs i = some (.go ())
  | [], i, _ => by rw [laws_sameDatum_L1]
  | x :: xs, i, h => by
    rw [laws_sameDatum_L1, idx_drop h, Option.bind_some, atomEq, if_neg (by simp), p_same_L1 b xs (i + 1) (drop_next h)]
theorem p_same (d : List GAtom) : laws_sameDatum d d = some true := by
  unfold laws_sameDatum
  rw [if_neg (by simp), p_same_L1 d d 0 (by simp)]
  rfl
theorem okI_u8 {n : Int} : okI .u8 n ↔ 0 ≤ n ∧ n ≤ 255 := by
  have h1 : IntKind.u8.min = 0 := by decide
  have h2 : IntKind.u8.max = 255 := by decide
  simp [okI, Lit.wf, h1, h2]
theorem law_FnFits (code more : List Int) (h1 : okL (okI .u8) code) (h2 : okL (okI .u8) more) : laws_FnFits code more = some true := by
  unfold laws_FnFits
  by_cases c1 : (code.length : Int) > 1048576
  · rw [if_pos (by simpa using c1)]; rfl
  by_cases c2 : (more.length : Int) > 1048576
  · rw [if_neg (by simpa using c1), Option.bind_some, if_pos (by simpa using c2)]
  rw [if_neg (by simpa using c1), Option.bind_some, if_neg (by simpa using c2)]
  have b1 : ∀ z ∈ code, 0 ≤ z ∧ z < 256 := fun z hz => by have := okI_u8.1 (h1.2 z hz); omega
  have b2 : ∀ z ∈ more, 0 ≤ z ∧ z < 256 := fun z hz => by have := okI_u8.1 (h2.2 z hz); omega
  obtain ⟨c, ec, hc⟩ := p_ColumnDrawn code b1 (by omega)
  obtain ⟨d, ed, hd, hdl, hdf⟩ := p_start hc
  obtain ⟨v, ev, v1, v2⟩ := p_at more 4 b2 (by omega) (by omega) 0 (by omega)
  have w1 : w64 (1 + v) = 1 + v := w64_id (by omega)
  obtain ⟨x, ex, hx, hxl⟩ := p_DatumDrawn more (1 + v) b2 (by omega) (by omega)
  have e1 : impl_DefaultOf c = some (d, 0) := by unfold impl_DefaultOf; rw [p_ColumnOK hc, Option.bind_some, if_neg (by simp), ed, Option.bind_some]
  have e2 : spec_DefaultOf c = some (d, 0) := by unfold spec_DefaultOf; rw [p_sColumnOK hc, Option.bind_some, if_neg (by simp), start_eq, ed, Option.bind_some]
  obtain ⟨f1, _⟩ := p_Fits hc hd hdl
  obtain ⟨f2, f3⟩ := p_Fits hc hx hxl
  rw [ec, Option.bind_some, e1, Option.bind_some, e2, Option.bind_some, f1, Option.bind_some, ev, Option.bind_some, w1, ex, Option.bind_some, f2, Option.bind_some, f3, Option.bind_some]
  simp only [hdf, p_same, p_ColumnOK hc, Option.bind_some, beq_self_eq_true, if_true]
  by_cases h0 : fitsF c x = 0
  · rw [if_neg (by simpa using h0)]
    have : c.Min ≤ x.length ∧ (x.length : Int) ≤ c.Max := by
      apply Decidable.of_not_not
      intro hn
      unfold fitsF at h0
      rw [if_pos hn] at h0
      split at h0 <;> omega
    rw [if_pos (by simpa using this.1)]
    simp [this.2]
  · rw [if_pos (by simpa using h0)]
end Go.R
