/- Fields: the law. -/
import Derived.Test.YtgmkibkmcohikaaSRCJ
set_option linter.all false
namespace Go.R
open Go
set_option linter.all false
theorem OkD_mono : ∀ {d e : Nat} {j : GJson}, d ≤ e → OkD d j → OkD e j ∧ cntD e j = cntD d j
  | 0, _, _, _, h => h.elim
  | d + 1, 0, _, h, _ => by omega
  | d + 1, e + 1, j, h, hj => by
    refine ⟨⟨hj.1, fun y hy => (OkD_mono (by omega) (hj.2 y hy)).1⟩, ?_⟩
    simp only [cntD]
    congr 2
    exact List.map_congr_left fun y hy => (OkD_mono (by omega) (hj.2 y hy)).2
theorem cnt_pos {d : Nat} {j : GJson} (h : OkD d j) : 1 ≤ cntD d j := by
  cases d with
  | zero => exact h.elim
  | succ d => simp only [cntD]; have := sum_nn (cntD d) (cntD_nn d) j.Items; omega
theorem sum_ge {d : Nat} : ∀ {l : List GJson}, (∀ y ∈ l, OkD d y) → (l.length : Int) ≤ (l.map (cntD d)).sum ∧ ∀ y ∈ l, cntD d y ≤ (l.map (cntD d)).sum
  | [], _ => by simp
  | x :: xs, h => by
    have h1 := cnt_pos (h x (by simp))
    obtain ⟨h2, h3⟩ := sum_ge (l := xs) (fun y hy => h y (by simp [hy]))
    have h4 := sum_nn (cntD d) (cntD_nn d) xs
    simp only [List.map_cons, List.sum_cons, List.length_cons]
    refine ⟨by push_cast; omega, fun y hy => ?_⟩
    rcases List.mem_cons.1 hy with rfl | hy
    · omega
    · have := h3 y hy; omega
theorem OkD_parts {d : Nat} {j : GJson} (h : OkD (d + 1) j) (hc : cntD (d + 1) j ≤ 400) : (j.Items.length : Int) ≤ 400 ∧ (j.Keys.length : Int) ≤ 400 ∧ ∀ y ∈ j.Items, OkD d y ∧ cntD d y ≤ 400 := by
  simp only [cntD] at hc
  obtain ⟨h1, h2⟩ := sum_ge h.2
  refine ⟨by omega, ?_, fun y hy => ⟨h.2 y hy, by have := h2 y hy; omega⟩⟩
  rcases h.1 with h | h | h | h | h | h
  · simp [h.2.2.2.1]
  · simp [h.2.2.2.1]
  · simp [h.2.2.2.1]
  · simp [h.2.2.2.1]
  · simp [h.2.2.2]
  · rw [h.2.2.2.1]; omega
theorem textB_len {t : Str} (h : textB t = true) : t.length ≤ 200 := by
  simp only [textB, Bool.and_eq_true, decide_eq_true_eq] at h
  omega
theorem okS_of {t : Str} (h : t.length ≤ 200) : okS t := by simp only [okS, maxLen]; omega
theorem okI_i64 {n : Int} : okI .i64 n ↔ -9223372036854775808 ≤ n ∧ n ≤ 9223372036854775807 := by
  have h1 : IntKind.i64.min = -9223372036854775808 := by decide
  have h2 : IntKind.i64.max = 9223372036854775807 := by decide
  simp [okI, Lit.wf, h1, h2]
theorem okI_u8 {n : Int} : okI .u8 n ↔ 0 ≤ n ∧ n ≤ 255 := by
  have h1 : IntKind.u8.min = 0 := by decide
  have h2 : IntKind.u8.max = 255 := by decide
  simp [okI, Lit.wf, h1, h2]
theorem okI_of {n : Int} (h : -1000000000 ≤ n ∧ n ≤ 1000000000) : okI .i64 n := okI_i64.2 (by omega)
theorem NodeP.okk {j : GJson} (h : NodeP j) : okI .i64 j.Kind ∧ okI .i64 j.N ∧ okS j.T ∧ ∀ x ∈ j.Keys, okS x := by
  have e : okS [] := okS_of (by simp)
  rcases h with h | h | h | h | h | h
  · obtain ⟨h1, h2, h3, h4, h5⟩ := h; rw [h1, h2, h3, h4]; exact ⟨okI_of (by omega), okI_of (by omega), e, by simp⟩
  · obtain ⟨h1, h2, h3, h4, h5⟩ := h; rw [h1, h3, h4]; exact ⟨okI_of (by omega), okI_of (by omega), e, by simp⟩
  · obtain ⟨h1, h2, h3, h4, h5⟩ := h; rw [h1, h3, h4]; exact ⟨okI_of (by omega), okI_of (by omega), e, by simp⟩
  · obtain ⟨h1, h2, h3, h4, h5⟩ := h; rw [h1, h2, h4]; exact ⟨okI_of (by omega), okI_of (by omega), okS_of (textB_len h3), by simp⟩
  · obtain ⟨h1, h2, h3, h4⟩ := h; rw [h1, h2, h3, h4]; exact ⟨okI_of (by omega), okI_of (by omega), e, by simp⟩
  · obtain ⟨h1, h2, h3, h4, h5⟩ := h; rw [h1, h2, h3]
    refine ⟨okI_of (by omega), okI_of (by omega), e, fun x hx => ?_⟩
    obtain ⟨q, hq⟩ := List.mem_iff_getElem?.1 hx
    have hl := (List.getElem?_eq_some_iff.1 hq).1
    have := h5 q hl
    unfold keyAt at this
    rw [hq] at this
    simp only [Bool.and_eq_true] at this
    exact okS_of (textB_len this.1)
theorem OkD_ok : ∀ {d : Nat} {j : GJson}, OkD d j → cntD d j ≤ 400 → okGJson j
  | 0, _, h, _ => h.elim
  | d + 1, j, h, hc => by
    obtain ⟨h1, h2, h3⟩ := OkD_parts h hc
    obtain ⟨k1, k2, k3, k4⟩ := h.1.okk
    exact .mk k1 k2 k3 ⟨by simp only [maxLen]; omega, k4⟩ (by simp only [maxLen]; omega) (fun y hy => OkD_ok (h3 y hy).1 (h3 y hy).2)
theorem p_JsonOK {j : GJson} {d : Nat} (hd : d ≤ 12) (h : OkD d j) (hc : cntD d j ≤ 400) : impl_JsonOK j = some true := by
  have hf : 2 ^ 40 < FUEL := by unfold FUEL; decide
  obtain ⟨h1, h2⟩ := OkD_mono hd h
  obtain ⟨b, room', e1, _, g1, _⟩ := p_rightIn FUEL 12 j 400 (by omega) (by omega) (by omega) (by omega) (OkD_ok h hc)
  have hb : b = true := g1.2 ⟨h1, by omega⟩
  unfold impl_JsonOK
  have : (12 : Int) - ((12 : Nat) : Int) = 0 := by decide
  rw [this] at e1
  rw [e1, Option.bind_some, hb]
theorem p_Clone (l : List Str) (h : (l.length : Int) ≤ 400) : slices_Clone_string_string l = some l := by
  unfold slices_Clone_string_string
  rw [if_pos (by simp; omega)]
  simp
theorem p_copy_L1 (R : GJson → Option GJson) : ∀ (xs out : List GJson), (∀ x ∈ xs, R x = some x) → out.length + xs.length ≤ 400 → impl_copyJson_B_L1 R xs out = some (out ++ xs) := by
  intro xs
  induction xs with
  | nil => intro out _ _; rw [impl_copyJson_B_L1]; simp
  | cons x xs ih =>
    intro out h hl
    simp only [List.length_cons] at hl
    have hle : (out ++ [x]).length ≤ 2 ^ 30 := by simp; omega
    rw [impl_copyJson_B_L1, h x (by simp), Option.bind_some, if_pos hle, ih (out ++ [x]) (fun y hy => h y (by simp [hy])) (by simp; omega)]
    simp
theorem p_copy : ∀ (k d : Nat) (j : GJson), d ≤ k → OkD d j → cntD d j ≤ 400 → impl_copyJson k j = some j
  | _, 0, j, _, h, _ => h.elim
  | 0, d + 1, j, hk, _, _ => by omega
  | k + 1, d + 1, j, hk, h, hc => by
    obtain ⟨h1, h2, h3⟩ := OkD_parts h hc
    rw [impl_copyJson]
    unfold impl_copyJson_B
    rw [p_Clone _ h2, Option.bind_some, p_copy_L1 (impl_copyJson k) j.Items [] (fun y hy => p_copy k d y (by omega) (h3 y hy).1 (h3 y hy).2) (by simp; omega), Option.bind_some]
    simp only [List.nil_append]
    cases j with
    | mk a b c e f => cases f <;> simp
theorem p_texts (b : List Str) : ∀ (xs : List Str) (i : Nat), laws_sameTexts_L1 b xs i = slices_Equal_string_string_L1 b xs i
  | [], i => by rw [laws_sameTexts_L1, slices_Equal_string_string_L1]
  | x :: xs, i => by rw [laws_sameTexts_L1, slices_Equal_string_string_L1]; simp only [p_texts b xs]
theorem p_texts_eq (a b : List Str) : laws_sameTexts a b = slices_Equal_string_string a b := by
  unfold laws_sameTexts slices_Equal_string_string
  rw [p_texts]
theorem p_texts_some_L1 (b : List Str) : ∀ (xs : List Str) (i : Nat), i + xs.length ≤ b.length → slices_Equal_string_string_L1 b xs i = some (if (b.drop i).take xs.length = xs then .go () else .ret false)
  | [], i, _ => by rw [slices_Equal_string_string_L1]; simp
  | x :: xs, i, h => by
    simp only [List.length_cons] at h
    obtain ⟨y, hy⟩ : ∃ y, b[i]? = some y := ⟨b[i], List.getElem?_eq_getElem (by omega)⟩
    have hd : b.drop i = y :: b.drop (i + 1) := by
      rw [List.drop_eq_getElem_cons (by omega)]
      rw [List.getElem?_eq_getElem (by omega)] at hy
      rw [Option.some.inj hy]
    rw [slices_Equal_string_string_L1, idx_nat, hy, Option.bind_some, p_texts_some_L1 b xs (i + 1) (by omega), hd]
    by_cases he : x = y
    · subst he; simp
    · simp [he, Ne.symm he]
theorem p_Equal (a b : List Str) : slices_Equal_string_string a b = some (decide (a = b)) := by
  unfold slices_Equal_string_string
  by_cases hl : a.length = b.length
  · rw [if_neg (by simp [hl]), p_texts_some_L1 b a 0 (by omega), hl]
    by_cases he : b = a
    · simp [he]
    · simp [he, Ne.symm he]
  · rw [if_pos (by simp; omega)]
    simp
    intro he; exact hl (by rw [he])
theorem p_same_L1 (R S : GJson → GJson → Option Bool) (b : GJson) : ∀ (xs : List GJson) (i : Nat), i + xs.length ≤ b.Items.length → (∀ x ∈ xs, ∀ y, ∃ c, R x y = some c ∧ S x y = some c ∧ (x = y → c = true)) →
    ∃ r, laws_sameJson_B_L1 b R xs i = some r ∧ slices_EqualFunc_impl_Json_impl_Json_impl_Json_impl_Json_L1 b.Items S xs i = some r ∧ (b.Items.drop i = xs → r = .go ())
  | [], i, _, _ => by rw [laws_sameJson_B_L1, slices_EqualFunc_impl_Json_impl_Json_impl_Json_impl_Json_L1]; exact ⟨_, rfl, rfl, fun _ => rfl⟩
  | x :: xs, i, h, hr => by
    simp only [List.length_cons] at h
    obtain ⟨y, hy⟩ : ∃ y, b.Items[i]? = some y := ⟨b.Items[i], List.getElem?_eq_getElem (by omega)⟩
    obtain ⟨c, e1, e2, e3⟩ := hr x (by simp) y
    obtain ⟨r, f1, f2, f3⟩ := p_same_L1 R S b xs (i + 1) (by omega) (fun z hz => hr z (by simp [hz]))
    rw [laws_sameJson_B_L1, slices_EqualFunc_impl_Json_impl_Json_impl_Json_impl_Json_L1, idx_nat, hy, Option.bind_some, Option.bind_some, e1, e2, Option.bind_some, Option.bind_some, f1, f2]
    cases c with
    | false =>
      refine ⟨_, rfl, rfl, fun hd => ?_⟩
      have hx := idx_drop hd
      rw [idx_nat, hy] at hx
      have := e3 (Option.some.inj hx).symm
      cases this
    | true => exact ⟨r, rfl, rfl, fun hd => f3 (drop_next hd)⟩
theorem p_same : ∀ (k d : Nat) (x y : GJson), d ≤ k → OkD d x → ∃ c, laws_sameJson k x y = some c ∧ impl_Json_same k x y = some c ∧ (x = y → c = true)
  | _, 0, _, _, _, h => h.elim
  | 0, d + 1, _, _, hk, _ => by omega
  | k + 1, d + 1, x, y, hk, h => by
    rw [laws_sameJson, impl_Json_same]
    unfold laws_sameJson_B impl_Json_same_B
    rw [p_texts_eq, p_Equal]
    by_cases h1 : x.Kind = y.Kind
    · by_cases h2 : x.N = y.N
      · by_cases h3 : x.T = y.T
        · by_cases h4 : x.Keys = y.Keys
          · unfold slices_EqualFunc_impl_Json_impl_Json_impl_Json_impl_Json
            by_cases h5 : x.Items.length = y.Items.length
            · obtain ⟨r, f1, f2, f3⟩ := p_same_L1 (laws_sameJson k) (impl_Json_same k) y x.Items 0 (by omega) (fun z hz w => p_same k d z w (by omega) (h.2 z hz))
              simp only [h1, h2, h3, h4, h5, f1, f2]
              cases r with
              | go _ => exact ⟨true, by simp, by simp, fun _ => rfl⟩
              | ret q =>
                refine ⟨q, by simp, by simp, fun he => ?_⟩
                have := f3 (by rw [he]; simp)
                cases this
            · exact ⟨false, by simp [h1, h2, h3, h4]; omega, by simp [h1, h2, h3, h4]; omega, fun he => absurd (by rw [he]) h5⟩
          · exact ⟨false, by simp [h1, h2, h3, h4], by simp [h1, h2, h3, h4], fun he => absurd (by rw [he]) h4⟩
        · exact ⟨false, by simp [h1, h2, h3], by simp [h1, h2, h3], fun he => absurd (by rw [he]) h3⟩
      · exact ⟨false, by simp [h1, h2], by simp [h1, h2], fun he => absurd (by rw [he]) h2⟩
    · exact ⟨false, by simp [h1], by simp [h1], fun he => absurd (by rw [he]) h1⟩
theorem p_Drawn (code : List Int) (hc : ∀ x ∈ code, 0 ≤ x ∧ x < 256) (hl : (code.length : Int) ≤ 1048576) : ∃ j, spec_JsonDrawn code = some j ∧ OkD 4 j ∧ cntD 4 j ≤ 85 := by
  have hf : 2 ^ 40 < FUEL := by unfold FUEL; decide
  obtain ⟨s, e1, g1, g2, _⟩ := p_source code hc hl
  obtain ⟨j, s', e2, _, h1, h2⟩ := p_json 3 FUEL s (by omega) (by omega) g1 (by rw [g2]; decide)
  unfold spec_JsonDrawn
  have e2' : spec_l00Src_json FUEL 3 s = some (j, s') := e2
  rw [e1, Option.bind_some, e2', Option.bind_some]
  exact ⟨j, rfl, h1, by have e : cJ 3 = 85 := by decide
                        rw [e] at h2; exact h2⟩
theorem law_FnFields (code more : List Int) (h1 : okL (okI .u8) code) (h2 : okL (okI .u8) more) : laws_FnFields code more = some true := by
  have hf : 2 ^ 40 < FUEL := by unfold FUEL; decide
  unfold laws_FnFields
  by_cases c1 : (code.length : Int) > 1048576
  · rw [if_pos (by simpa using c1)]; rfl
  by_cases c2 : (more.length : Int) > 1048576
  · rw [if_neg (by simpa using c1), Option.bind_some, if_pos (by simpa using c2)]
  rw [if_neg (by simpa using c1), Option.bind_some, if_neg (by simpa using c2)]
  obtain ⟨x, ex, x1, x2⟩ := p_Drawn code (fun z hz => by have := okI_u8.1 (h1.2 z hz); omega) (by omega)
  obtain ⟨y, ey, y1, y2⟩ := p_Drawn more (fun z hz => by have := okI_u8.1 (h2.2 z hz); omega) (by omega)
  rw [ex, ey, Option.bind_some, Option.bind_some]
  have hj : OkD 5 (⟨5, 0, [], [[102, 105, 114, 115, 116], [115, 101, 99, 111, 110, 100]], [x, y]⟩ : GJson) := by
    refine ⟨.inr (.inr (.inr (.inr (.inr ⟨rfl, rfl, rfl, rfl, ?_⟩)))), ?_⟩
    · simp only; decide
    · intro z hz
      simp only [List.mem_cons, List.not_mem_nil, or_false] at hz
      rcases hz with rfl | rfl
      · exact x1
      · exact y1
  have hjc : cntD 5 (⟨5, 0, [], [[102, 105, 114, 115, 116], [115, 101, 99, 111, 110, 100]], [x, y]⟩ : GJson) ≤ 400 := by
    simp only [cntD, List.map_cons, List.map_nil, List.sum_cons, List.sum_nil] at x2 y2 ⊢; omega
  have hok := p_JsonOK (d := 5) (by omega) hj hjc
  have hok2 : impl_JsonOK (⟨4, 0, [], [], []⟩ : GJson) = some true := p_JsonOK (d := 1) (by omega) ⟨by simp [NodeP], by simp⟩ (by simp [cntD])
  have cx := p_copy FUEL 4 x (by omega) x1 (by omega)
  have cy := p_copy FUEL 4 y (by omega) y1 (by omega)
  obtain ⟨bx, sx1, _, sx2⟩ := p_same FUEL 4 x x (by omega) x1
  obtain ⟨by', sy1, _, sy2⟩ := p_same FUEL 4 y y (by omega) y1
  obtain ⟨bz, sz1, sz2, _⟩ := p_same FUEL 4 x y (by omega) x1
  have hbx := sx2 rfl
  have hby := sy2 rfl
  subst hbx hby
  have okx := p_JsonOK (d := 4) (by omega) x1 (by omega)
  have oky := p_JsonOK (d := 4) (by omega) y1 (by omega)
  have i1 : slices_Index_string_string [[102, 105, 114, 115, 116], [115, 101, 99, 111, 110, 100]] [102, 105, 114, 115, 116] = some 0 := by rfl
  have i2 : slices_Index_string_string [[102, 105, 114, 115, 116], [115, 101, 99, 111, 110, 100]] [115, 101, 99, 111, 110, 100] = some 1 := by rfl
  have i3 : slices_Index_string_string [[102, 105, 114, 115, 116], [115, 101, 99, 111, 110, 100]] [116, 104, 105, 114, 100] = some (-1) := by rfl
  have d0 : idx [x, y] 0 = some x := rfl
  have d1 : idx [x, y] 1 = some y := rfl
  simp only [impl_FieldOf, impl_isText, impl_Json_field, impl_SameJson, hok, hok2, okx, oky, i1, i2, i3, Option.bind_some, List.length_cons, List.length_nil]
  simp [d0, d1, cx, cy, sx1, sy1, sz1, sz2]
end Go.R
