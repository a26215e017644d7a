/- Plain laws of what this statement reaches. -/
import Derived.Test.YtdnjjfoooagphaaFLH
import Derived.Test.YtdnjjfoooagphaaP0
set_option linter.all false
namespace Go.R
open Go
set_option linter.all false
theorem p_within (n a b : Int) : impl_within n a b = some (decide (a ≤ n ∧ n ≤ b)) := by
  unfold impl_within
  by_cases h : a ≤ n <;> simp [h]
theorem u8_tri (a b : UInt8) : a < b ∨ a = b ∨ b < a := by
  simp only [UInt8.lt_iff_toNat_lt, ← UInt8.toNat_inj]
  omega
theorem u8_asym {a b : UInt8} (h : a < b) : ¬ b < a := by
  simp only [UInt8.lt_iff_toNat_lt] at *
  omega
theorem cmpB_anti : ∀ a b : Str, Lib.compareBytes b a = - Lib.compareBytes a b
  | [], [] => by simp [Lib.compareBytes]
  | [], _ :: _ => by simp [Lib.compareBytes]
  | _ :: _, [] => by simp [Lib.compareBytes]
  | a :: xs, b :: ys => by
    have ih := cmpB_anti xs ys
    unfold Lib.compareBytes
    rcases u8_tri a b with h | h | h
    · simp [h, u8_asym h]
    · subst h; simp [UInt8.lt_irrefl, ih]
    · simp [h, u8_asym h]
theorem cmpB_zero : ∀ a b : Str, Lib.compareBytes a b = 0 ↔ a = b
  | [], [] => by simp [Lib.compareBytes]
  | [], _ :: _ => by simp [Lib.compareBytes]
  | _ :: _, [] => by simp [Lib.compareBytes]
  | a :: xs, b :: ys => by
    have ih := cmpB_zero xs ys
    unfold Lib.compareBytes
    rcases u8_tri a b with h | h | h
    · have hne : a ≠ b := by rintro rfl; exact UInt8.lt_irrefl _ h
      simp [h, hne]
    · subst h; simp [UInt8.lt_irrefl, ih]
    · have hne : a ≠ b := by rintro rfl; exact UInt8.lt_irrefl _ h
      simp [h, u8_asym h, hne]
theorem cmpB_less : ∀ a b : Str, Op.bytesLess a b = decide (Lib.compareBytes a b < 0)
  | [], [] => by simp [Lib.compareBytes, Op.bytesLess]
  | [], _ :: _ => by simp [Lib.compareBytes, Op.bytesLess]
  | _ :: _, [] => by simp [Lib.compareBytes, Op.bytesLess]
  | a :: xs, b :: ys => by
    have ih := cmpB_less xs ys
    unfold Lib.compareBytes Op.bytesLess
    rcases u8_tri a b with h | h | h
    · simp [h]
    · subst h; simp [UInt8.lt_irrefl, ih]
    · have hne : ¬ a = b := by rintro rfl; exact UInt8.lt_irrefl _ h
      simp [h, u8_asym h, hne]
theorem cmpB_trans : ∀ a b c : Str, Lib.compareBytes a b < 0 → Lib.compareBytes b c < 0 → Lib.compareBytes a c < 0
  | [], [], c => by intro h; simp [Lib.compareBytes] at h
  | [], _ :: _, [] => by intro _ h; simp [Lib.compareBytes] at h
  | [], _ :: _, _ :: _ => by intro _ _; simp [Lib.compareBytes]
  | _ :: _, [], c => by intro h; simp [Lib.compareBytes] at h
  | _ :: _, _ :: _, [] => by intro _ h; simp [Lib.compareBytes] at h
  | a :: xs, b :: ys, c :: zs => by
    have ih := cmpB_trans xs ys zs
    unfold Lib.compareBytes
    rcases u8_tri a b with h | h | h
    · rcases u8_tri b c with g | g | g
      · have : a < c := by simp only [UInt8.lt_iff_toNat_lt] at *; omega
        simp [this]
      · subst g; simp [h]
      · simp [h, g, u8_asym g]
    · subst h
      rcases u8_tri a c with g | g | g
      · simp [g]
      · subst g; simp only [UInt8.lt_irrefl, if_false]; exact ih
      · simp [g, u8_asym g]
    · simp [h, u8_asym h]
theorem mid_get {α : Type} (p s : List α) (x : α) : (p ++ x :: s)[p.length]? = some x := by simp
theorem mid_set {α : Type} (p s : List α) (x y : α) : (p ++ x :: s).set p.length y = p ++ y :: s := by
  rw [List.set_append_right _ _ (Nat.le_refl _), Nat.sub_self, List.set_cons_zero]
theorem okI_u8 {n : Int} : okI .u8 n ↔ 0 ≤ n ∧ n ≤ 255 := by
  have h1 : IntKind.u8.min = 0 := by decide
  have h2 : IntKind.u8.max = 255 := by decide
  simp [okI, Lit.wf, h1, h2]
def isLet (c : Int) : Bool := (decide (97 ≤ c) && decide (c ≤ 122)) || (decide (65 ≤ c) && decide (c ≤ 90)) || c == 95
def isDig (c : Int) : Bool := decide (48 ≤ c) && decide (c ≤ 57)
theorem p_l00Letter (c : Int) : spec_l00Letter c = some (isLet c) := by
  unfold spec_l00Letter isLet
  by_cases h1 : 97 ≤ c <;> by_cases h2 : c ≤ 122 <;> by_cases h3 : 65 ≤ c <;> by_cases h4 : c ≤ 90 <;> by_cases h5 : c = 95 <;> simp [h1, h2, h3, h4, h5]
theorem p_l00Digit (c : Int) : spec_l00Digit c = some (isDig c) := by
  unfold spec_l00Digit isDig
  by_cases h1 : 48 ≤ c <;> simp [h1]
theorem p_isDigit (c : Int) : impl_isDigit c = some (isDig c) := by
  unfold impl_isDigit isDig
  by_cases h1 : 48 ≤ c <;> simp [h1]
def isWordC (b : UInt8) : Bool := isLet b.toNat || isDig b.toNat
def nameOK (t : Str) : Bool := decide (1 ≤ t.length) && decide (t.length ≤ 40) && isLet (t.headD 0).toNat && (t.drop 1).all isWordC
theorem p_l00Word_L1 : ∀ (t : Str), spec_l00Word_L1 t = some (if t.all isWordC then .go () else .ret false)
  | [] => by rw [spec_l00Word_L1]; rfl
  | c :: t => by
    rw [spec_l00Word_L1, p_l00Letter, Option.bind_some, p_l00Digit, p_l00Word_L1 t]
    cases h1 : isLet (c.toNat : Int) <;> cases h2 : isDig (c.toNat : Int) <;> simp [isWordC, h1, h2]
theorem p_l00Word (t : Str) : spec_l00Word t = some (nameOK t) := by
  unfold spec_l00Word nameOK
  cases t with
  | nil => rfl
  | cons c t =>
    have e : idx (c :: t) 0 = some c := rfl
    rw [e, Option.bind_some, p_l00Letter, Option.bind_some, p_l00Word_L1]
    have e1 : decide (((c :: t).length : Int) < 1) = false := decide_eq_false (by simp only [List.length_cons]; omega)
    have e2 : decide (1 ≤ (c :: t).length) = true := decide_eq_true (by simp only [List.length_cons]; omega)
    rw [e1, e2]
    by_cases h : (c :: t).length ≤ 40
    · have e3 : decide (((c :: t).length : Int) > 40) = false := decide_eq_false (by omega)
      have e4 : decide ((c :: t).length ≤ 40) = true := decide_eq_true h
      rw [e3, e4]
      cases h1 : isLet (c.toNat : Int) <;> cases h3 : t.all isWordC <;> simp [h1, h3]
    · have e3 : decide (((c :: t).length : Int) > 40) = true := decide_eq_true (by omega)
      have e4 : decide ((c :: t).length ≤ 40) = false := decide_eq_false h
      rw [e3, e4]
      simp
theorem p_specNameOK (t : Str) : spec_NameOK t = some (nameOK t) := by
  unfold spec_NameOK
  rw [p_l00Word]; rfl
def nameC (p : UInt8 × Nat) : Bool := isLet p.1.toNat || (p.2 != 0 && isDig p.1.toNat)
theorem p_NameOK_L1 : ∀ (t : Str) (i : Nat), impl_NameOK_L1 t i = some (if (t.zipIdx i).all nameC then .go () else .ret false)
  | [], i => by rw [impl_NameOK_L1]; rfl
  | c :: t, i => by
    have e0 : ((i : Int) == 0) = (i == 0) := by cases i <;> simp; omega
    rw [impl_NameOK_L1, p_NameOK_L1 t (i + 1), List.zipIdx_cons, List.all_cons, p_isDigit, e0]
    unfold nameC isLet
    generalize (List.zipIdx t (i + 1)).all _ = A
    generalize isDig (c.toNat : Int) = D
    generalize (c.toNat : Int) = n
    by_cases h1 : 97 ≤ n <;> by_cases h2 : n ≤ 122 <;> by_cases h3 : 65 ≤ n <;> by_cases h4 : n ≤ 90 <;> by_cases h5 : n = 95 <;> cases D <;> by_cases h0 : i = 0 <;> simp [h1, h2, h3, h4, h5, h0]
theorem p_NameOK (t : Str) : impl_NameOK t = some (nameOK t) := by
  unfold impl_NameOK nameOK
  rw [p_NameOK_L1, Option.bind_some]
  have hz : ∀ (r : Str) (k : Nat), (r.zipIdx (k + 1)).all nameC = r.all isWordC := by
    intro r
    induction r with
    | nil => intro k; rfl
    | cons c r ih => intro k; simp only [List.zipIdx_cons, List.all_cons, ih (k + 1)]; rfl
  cases t with
  | nil => simp [p_within]
  | cons c t =>
    rw [List.zipIdx_cons, List.all_cons, hz t 0]
    have hl : decide (1 ≤ (c :: t).length) = true := decide_eq_true (by simp)
    have e : nameC (c, 0) = isLet (c.toNat : Int) := by simp [nameC]
    rw [e, hl, p_within, Bool.decide_and]
    have e2 : decide ((1 : Int) ≤ ((c :: t).length : Int)) = true := decide_eq_true (by simp only [List.length_cons]; omega)
    have e3 : decide (((c :: t).length : Int) ≤ 40) = decide ((c :: t).length ≤ 40) := by rw [decide_eq_decide]; omega
    rw [e2, e3]
    show _ = some ((true && _ && isLet (c.toNat : Int)) && t.all isWordC)
    cases isLet (c.toNat : Int) <;> cases t.all isWordC <;> simp
theorem mid_id {i j : Int} (h0 : 0 ≤ i) (h1 : i < j) (h2 : j ≤ 2 ^ 60) : w64 (Int.fdiv (IntKind.u64.wrap (w64 (i + j))) (2 ^ (min (Int.toNat 1) (IntKind.bits .u64)))) = (i + j) / 2 := by
  have e1 : w64 (i + j) = i + j := w64_id (by omega)
  have e2 : IntKind.u64.wrap (i + j) = i + j := by
    have : IntKind.u64.wrap (i + j) = (i + j) % 2 ^ 64 := rfl
    rw [this]; omega
  have e3 : min (Int.toNat 1) (IntKind.bits .u64) = 1 := by decide
  rw [e1, e2, e3, Int.fdiv_eq_ediv_of_nonneg _ (by omega)]
  have : ((2 : Int) ^ 1) = 2 := rfl
  rw [this, w64_id (by omega)]
structure SrcOK (s : GL00Src) : Prop where
  code : ∀ x ∈ s.Code, 0 ≤ x ∧ x < 256
  len : (s.Code.length : Int) ≤ 1048576
  at0 : 0 ≤ s.At
  seed : 0 ≤ s.Seed ∧ s.Seed < 2147483648
/-- s' comes behind s, of at most k bytes more -/
structure Nx (s s' : GL00Src) (k : Int) : Prop where
  ok : SrcOK s'
  lo : s.At ≤ s'.At
  hi : s'.At ≤ s.At + k
  code : s'.Code = s.Code
theorem Nx.refl {s : GL00Src} (h : SrcOK s) : Nx s s 0 := ⟨h, Int.le_refl _, by omega, rfl⟩
theorem Nx.mono {s s' : GL00Src} {k l : Int} (h : Nx s s' k) (hl : k ≤ l) : Nx s s' l := ⟨h.ok, h.lo, by have := h.hi; omega, h.code⟩
theorem Nx.trans {a b c : GL00Src} {k l : Int} (h : Nx a b k) (g : Nx b c l) : Nx a c (k + l) := ⟨g.ok, by have := h.lo; have := g.lo; omega, by have := h.hi; have := g.hi; omega, g.code.trans h.code⟩
theorem tmod_bd {a m : Int} (h : 0 ≤ a) (hm : 0 < m) : 0 ≤ a.tmod m ∧ a.tmod m < m := ⟨Int.tmod_nonneg _ h, Int.tmod_lt_of_pos _ hm⟩
theorem tdiv_bd {a m : Int} (h : 0 ≤ a) (hm : 0 < m) : a.tdiv m = a / m := by rw [Int.tdiv_eq_ediv_of_nonneg h]
theorem p_source (code : List Int) (hc : ∀ x ∈ code, 0 ≤ x ∧ x < 256) (hl : (code.length : Int) ≤ 1048576) : ∃ s, spec_l00Source code = some s ∧ SrcOK s ∧ s.At = 0 ∧ s.Code = code := by
  refine ⟨_, rfl, ⟨hc, hl, by simp, ?_⟩, rfl, rfl⟩
  have := tmod_bd (a := (code.length : Int)) (m := 1000) (by omega) (by omega)
  simp only; omega
theorem p_byte (s : GL00Src) (h : SrcOK s) (ha : s.At < 2 ^ 50) : ∃ b s', spec_l00Src_byte s = some (b, s') ∧ 0 ≤ b ∧ b < 256 ∧ Nx s s' 1 := by
  obtain ⟨h1, h2, h3, h4, h5⟩ := h
  unfold spec_l00Src_byte
  rw [w64_id (n := s.At + 1) (by omega)]
  by_cases c : s.At + 1 ≤ (s.Code.length : Int)
  · rw [if_pos (by simpa using c)]
    obtain ⟨n, hn⟩ : ∃ n : Nat, s.At = (n : Int) := ⟨s.At.toNat, by omega⟩
    have e1 : w64 (s.At + 1 - 1) = (n : Int) := by rw [w64_id (by omega)]; omega
    obtain ⟨x, hx⟩ : ∃ x, s.Code[n]? = some x := ⟨s.Code[n]'(by omega), List.getElem?_eq_getElem (by omega)⟩
    have hb := h1 x (List.mem_of_getElem? hx)
    rw [e1, idx_nat, hx, Option.bind_some, Option.bind_some, w64_id (n := x) (by omega), w64_id (n := s.Seed * 31) (by omega), w64_id (n := s.Seed * 31 + x) (by omega), w64_id (by omega)]
    have := tmod_bd (a := s.Seed * 31 + x + 7) (m := 2147483648) (by omega) (by omega)
    exact ⟨x, _, rfl, hb.1, hb.2, ⟨⟨h1, h2, by simp only; omega, this⟩, by simp only; omega, by simp only; omega, rfl⟩⟩
  · rw [if_neg (by simpa using c)]
    by_cases c2 : s.At + 1 > 3000
    · rw [if_pos (by simpa using c2)]
      exact ⟨0, _, rfl, by omega, by omega, ⟨⟨h1, h2, by simp only; omega, h4, h5⟩, by simp only; omega, by simp only; omega, rfl⟩⟩
    · rw [if_neg (by simpa using c2), w64_id (n := s.Seed * 1103515245) (by omega), w64_id (n := s.Seed * 1103515245 + 12345) (by omega)]
      have hs := tmod_bd (a := s.Seed * 1103515245 + 12345) (m := 2147483648) (by omega) (by omega)
      have hq := tdiv_bd (a := (s.Seed * 1103515245 + 12345).tmod 2147483648) (m := 65536) hs.1 (by omega)
      rw [hq]
      have : w64 ((s.Seed * 1103515245 + 12345).tmod 2147483648 / 65536) = (s.Seed * 1103515245 + 12345).tmod 2147483648 / 65536 := w64_id (by omega)
      rw [this]
      have hb := tmod_bd (a := (s.Seed * 1103515245 + 12345).tmod 2147483648 / 65536) (m := 256) (by omega) (by omega)
      exact ⟨_, _, rfl, hb.1, hb.2, ⟨⟨h1, h2, by simp only; omega, hs⟩, by simp only; omega, by simp only; omega, rfl⟩⟩
theorem p_next (n : Int) (s : GL00Src) (h : SrcOK s) (ha : s.At + 1 < 2 ^ 50) (h1 : 1 ≤ n) (h2 : n ≤ 256) : ∃ v s', spec_l00Src_next n s = some (v, s') ∧ 0 ≤ v ∧ v < n ∧ Nx s s' 1 := by
  unfold spec_l00Src_next
  by_cases c : n ≤ 1
  · rw [if_pos (by simpa using c)]
    exact ⟨0, s, rfl, by omega, by omega, (Nx.refl h).mono (by omega)⟩
  · rw [if_neg (by simpa using c), if_pos (by simpa using h2)]
    obtain ⟨b, s', e, g1, g2, g3⟩ := p_byte s h (by omega)
    rw [e, Option.bind_some, if_pos (by omega)]
    have := tmod_bd (a := b) (m := n) g1 (by omega)
    exact ⟨_, _, rfl, this.1, this.2, g3⟩
theorem p_srcpick (l : List Str) (s : GL00Src) (h : SrcOK s) (ha : s.At + 1 < 2 ^ 50) (h1 : 1 ≤ l.length) (h2 : l.length ≤ 256) : ∃ t s', spec_l00Src_pick l s = some (t, s') ∧ t ∈ l ∧ Nx s s' 1 := by
  unfold spec_l00Src_pick
  rw [if_neg (by simp; intro hh; rw [hh] at h1; simp at h1)]
  obtain ⟨v, s', e, g1, g2, g⟩ := p_next l.length s h ha (by omega) (by omega)
  rw [e, Option.bind_some]
  obtain ⟨m, rfl⟩ : ∃ m : Nat, v = (m : Int) := ⟨v.toNat, by omega⟩
  simp only
  obtain ⟨x, hx⟩ : ∃ x, l[m]? = some x := ⟨l[m]'(by omega), List.getElem?_eq_getElem (by omega)⟩
  rw [idx_nat, hx, Option.bind_some]
  exact ⟨x, s', rfl, List.mem_of_getElem? hx, g⟩
theorem byte_h1 (s : GL00Src) : spec_l00Src_byte_h1 s = spec_l00Src_byte s := by
  first
  | rfl
  | (unfold spec_l00Src_byte_h1 spec_l00Src_byte; rfl)
theorem next_h1 (n : Int) (s : GL00Src) : spec_l00Src_next_h1 n s = spec_l00Src_next n s := by
  first
  | rfl
  | (unfold spec_l00Src_next_h1 spec_l00Src_next; simp only [byte_h1])
theorem pick_h1 (l : List Str) (s : GL00Src) : spec_l00Src_pick_h1 l s = spec_l00Src_pick l s := by
  first
  | rfl
  | (unfold spec_l00Src_pick_h1 spec_l00Src_pick; simp only [next_h1])
theorem source_h1 (c : List Int) : spec_l00Source_h1 c = spec_l00Source c := by
  first
  | rfl
  | (unfold spec_l00Source_h1 spec_l00Source; rfl)
theorem p_at (more : List Int) (n : Int) (hc : ∀ x ∈ more, 0 ≤ x ∧ x < 256) (hl : (more.length : Int) ≤ 1048576) (hn : 1 ≤ n ∧ n ≤ 1000000) (i : Int) (hi : 0 ≤ i ∧ i ≤ 1000) : ∃ v, laws_at more i n = some v ∧ 0 ≤ v ∧ v < n := by
  unfold laws_at
  by_cases h1 : n ≤ 1
  · rw [if_pos (by simpa using h1)]; exact ⟨0, rfl, by omega, by omega⟩
  rw [if_neg (by simpa using h1)]
  by_cases h2 : more.length = 0
  · rw [if_pos (by simpa using h2), if_pos (by omega)]
    have e : w64 (i * 7) = i * 7 := w64_id (by omega)
    have := tmod_bd (a := i * 7) (m := n) (by omega) (by omega)
    rw [e]
    exact ⟨_, rfl, this⟩
  rw [if_neg (by simpa using h2), if_pos (by omega)]
  have get : ∀ j : Int, 0 ≤ j → ∃ x, idx more (j.tmod (more.length : Int)) = some x ∧ 0 ≤ x ∧ x < 256 := by
    intro j hj
    have hb := tmod_bd (a := j) (m := (more.length : Int)) hj (by omega)
    obtain ⟨q, hq⟩ : ∃ q : Nat, j.tmod (more.length : Int) = (q : Int) := ⟨(j.tmod (more.length : Int)).toNat, by omega⟩
    rw [hq] at hb ⊢
    obtain ⟨x, hx⟩ : ∃ x, more[q]? = some x := ⟨more[q]'(by omega), List.getElem?_eq_getElem (by omega)⟩
    rw [idx_nat, hx]
    exact ⟨x, rfl, hc x (List.mem_of_getElem? hx)⟩
  obtain ⟨x, ex, x1, x2⟩ := get i hi.1
  have ew : w64 (i + 1) = i + 1 := w64_id (by omega)
  obtain ⟨y, ey, y1, y2⟩ := get (i + 1) (by omega)
  rw [ex, Option.bind_some, if_pos (by omega), ew, ey, Option.bind_some, if_pos (by omega), if_pos (by omega)]
  have hq : 0 ≤ i.tdiv (more.length : Int) ∧ i.tdiv (more.length : Int) ≤ i := by
    rw [tdiv_bd hi.1 (by omega)]
    exact ⟨Int.ediv_nonneg hi.1 (by omega), Int.ediv_le_self _ hi.1⟩
  rw [w64_id (n := x) (by omega), w64_id (n := x * 31) (by omega), w64_id (n := y) (by omega), w64_id (n := x * 31 + y) (by omega), w64_id (n := i.tdiv (more.length : Int)) (by omega), w64_id (by omega)]
  have := tmod_bd (a := x * 31 + y + i.tdiv (more.length : Int)) (m := n) (by omega) (by omega)
  exact ⟨_, rfl, this⟩
theorem p_within2 (n a b : Int) : impl_within n a b = some (decide (a ≤ n ∧ n ≤ b)) := by
  unfold impl_within
  by_cases h : a ≤ n <;> simp [h]
theorem p_in2 (n a b : Int) : spec_l01In n a b = some (decide (a ≤ n ∧ n ≤ b)) := by
  unfold spec_l01In
  by_cases h : a ≤ n <;> simp [h]
def sesB (n : Int) : Bool := decide (0 ≤ n ∧ n ≤ 2)
theorem p_isSession (n : Int) : impl_isSession n = some (sesB n) := by unfold impl_isSession; rw [p_within2]; rfl
theorem p_l12Session (n : Int) : spec_l12Session n = some (sesB n) := by unfold spec_l12Session; rw [p_in2]; rfl
theorem p_l12In_L1 (n : Int) : ∀ (l : List Int), spec_l12In_L1 n l = some (if l.contains n then .ret true else .go ())
  | [] => by rw [spec_l12In_L1]; rfl
  | x :: l => by
    rw [spec_l12In_L1, p_l12In_L1 n l, List.contains_cons]
    by_cases h : x = n
    · subst h; simp
    · have h' : (n == x) = false := by simpa using Ne.symm h
      have h2 : (x == n) = false := by simpa using h
      rw [h', h2]; rfl
theorem p_l12In (l : List Int) (n : Int) : spec_l12In l n = some (l.contains n) := by
  unfold spec_l12In
  rw [p_l12In_L1]
  cases l.contains n <;> rfl
theorem p_IndexI_L1 (n : Int) : ∀ (l : List Int) (i : Nat), ∃ k : Nat, slices_Index_int_int_L1 n l i = some (if l.contains n then .ret (k : Int) else .go ())
  | [], i => ⟨0, by rw [slices_Index_int_int_L1]; rfl⟩
  | x :: l, i => by
    rw [slices_Index_int_int_L1]
    obtain ⟨k, hk⟩ := p_IndexI_L1 n l (i + 1)
    rw [hk, List.contains_cons]
    cases h : (n == x)
    · exact ⟨k, by simp⟩
    · exact ⟨i, by simp⟩
theorem p_ContainsI (l : List Int) (n : Int) : slices_Contains_int_int l n = some (l.contains n) := by
  unfold slices_Contains_int_int slices_Index_int_int
  obtain ⟨k, hk⟩ := p_IndexI_L1 n l 0
  rw [hk]
  cases l.contains n <;> simp
/-- a queue's rest behind some of it: sessions, none twice -/
def qB (q : List Int) : List Int → Nat → Bool
  | [], _ => true
  | n :: r, k => sesB n && !(q.take k).contains n && qB q r (k + 1)
theorem p_iqB (x : GLock) : ∀ (r : List Int) (k : Nat), k + r.length = x.Queue.length → impl_LocksOK_L2 x r k = some (if qB x.Queue r k = true then .go () else .ret false)
  | [], k, _ => by rw [impl_LocksOK_L2]; rfl
  | n :: r, k, h => by
    simp only [List.length_cons] at h
    have hk : 0 ≤ (k : Int) ∧ (k : Int) ≤ (x.Queue.length : Int) := by omega
    rw [impl_LocksOK_L2, p_isSession, if_pos hk, p_ContainsI, p_iqB x r (k + 1) (by omega), qB]
    cases sesB n <;> cases (x.Queue.take k).contains n <;> simp
theorem p_sqB (x : GLock) : ∀ (r : List Int) (k : Nat), k + r.length = x.Queue.length → spec_LocksOK_L2 x r k = some (if qB x.Queue r k = true then .go () else .ret false)
  | [], k, _ => by rw [spec_LocksOK_L2]; rfl
  | n :: r, k, h => by
    simp only [List.length_cons] at h
    have hk : 0 ≤ (k : Int) ∧ (k : Int) ≤ (x.Queue.length : Int) := by omega
    rw [spec_LocksOK_L2, p_l12Session, if_pos hk, p_l12In, p_sqB x r (k + 1) (by omega), qB]
    cases sesB n <;> cases (x.Queue.take k).contains n <;> simp
def lkB (x : GLock) : Bool := nameOK x.Name && decide ((1 : Int) ≤ (x.Queue.length : Int) ∧ (x.Queue.length : Int) ≤ 3) && qB x.Queue x.Queue 0
def aheadB (p : Option GLock) (x : GLock) : Bool := match p with
  | none => true
  | some y => Op.bytesLess y.Name x.Name
/-- locks behind one: right, and their names rise -/
def lksB : Option GLock → List GLock → Bool
  | _, [] => true
  | p, x :: xs => aheadB p x && lkB x && lksB (some x) xs
def prevL (l : List GLock) (i : Nat) : Option GLock := match i with
  | 0 => none
  | i + 1 => l[i]?
theorem prevL_next {l : List GLock} {i : Nat} {x : GLock} {xs : List GLock} (h : l.drop i = x :: xs) : prevL l (i + 1) = some x := by
  have := idx_drop h
  rw [idx_nat] at this
  exact this
theorem p_ilksB (l : List GLock) (hl : l.length ≤ maxLen) : ∀ (xs : List GLock) (i : Nat), l.drop i = xs → impl_LocksOK_L1 l xs i = some (if lksB (prevL l i) xs = true then .go () else .ret false)
  | [], i, _ => by rw [impl_LocksOK_L1]; rfl
  | x :: xs, i, h => by
    have hlt := drop_lt h
    rw [impl_LocksOK_L1, p_NameOK, p_within2, p_ilksB l hl xs (i + 1) (drop_next h), prevL_next h, p_iqB x x.Queue 0 (by omega)]
    simp only [Option.bind_some, lksB, lkB]
    cases i with
    | zero =>
      simp only [prevL, aheadB]
      by_cases h1 : nameOK x.Name = true <;> by_cases h2 : ((1 : Int) ≤ (x.Queue.length : Int) ∧ (x.Queue.length : Int) ≤ 3) <;> by_cases h3 : qB x.Queue x.Queue 0 = true <;> simp [h1, h2, h3]
    | succ i =>
      have hw : w64 (((i + 1 : Nat) : Int) - 1) = (i : Int) := by rw [w64_id (by simp only [maxLen] at hl; omega)]; omega
      obtain ⟨y, hy⟩ := drop_prev (l := l) (i := i) (by omega)
      rw [hw, idx_nat]
      simp only [prevL, hy, aheadB]
      have hp : decide (((i + 1 : Nat) : Int) > 0) = true := decide_eq_true (by omega)
      rw [hp]
      by_cases h1 : nameOK x.Name = true <;> by_cases h0 : Op.bytesLess y.Name x.Name = true <;> by_cases h2 : ((1 : Int) ≤ (x.Queue.length : Int) ∧ (x.Queue.length : Int) ≤ 3) <;> by_cases h3 : qB x.Queue x.Queue 0 = true <;> simp [h1, h0, h2, h3]
theorem p_slksB (l : List GLock) (hl : l.length ≤ maxLen) : ∀ (xs : List GLock) (i : Nat), l.drop i = xs → spec_LocksOK_L1 l xs i = some (if lksB (prevL l i) xs = true then .go () else .ret false)
  | [], i, _ => by rw [spec_LocksOK_L1]; rfl
  | x :: xs, i, h => by
    have hlt := drop_lt h
    rw [spec_LocksOK_L1, p_specNameOK, p_in2, p_slksB l hl xs (i + 1) (drop_next h), prevL_next h, p_sqB x x.Queue 0 (by omega)]
    simp only [Option.bind_some, lksB, lkB]
    cases i with
    | zero =>
      simp only [prevL, aheadB]
      by_cases h1 : nameOK x.Name = true <;> by_cases h2 : ((1 : Int) ≤ (x.Queue.length : Int) ∧ (x.Queue.length : Int) ≤ 3) <;> by_cases h3 : qB x.Queue x.Queue 0 = true <;> simp [h1, h2, h3]
    | succ i =>
      have hw : w64 (((i + 1 : Nat) : Int) - 1) = (i : Int) := by rw [w64_id (by simp only [maxLen] at hl; omega)]; omega
      obtain ⟨y, hy⟩ := drop_prev (l := l) (i := i) (by omega)
      rw [hw, idx_nat]
      simp only [prevL, hy, aheadB]
      have hp : decide (((i + 1 : Nat) : Int) > 0) = true := decide_eq_true (by omega)
      rw [hp]
      by_cases h1 : nameOK x.Name = true <;> by_cases h0 : Op.bytesLess y.Name x.Name = true <;> by_cases h2 : ((1 : Int) ≤ (x.Queue.length : Int) ∧ (x.Queue.length : Int) ≤ 3) <;> by_cases h3 : qB x.Queue x.Queue 0 = true <;> simp [h1, h0, h2, h3]
def locksB (l : List GLock) : Bool := lksB none l && decide ((l.length : Int) ≤ 6)
theorem p_iLocks (l : List GLock) (hl : l.length ≤ maxLen) : impl_LocksOK l = some (locksB l) := by
  unfold impl_LocksOK locksB
  rw [p_ilksB l hl l 0 (by simp)]
  show _ = some (lksB none l && _)
  have : prevL l 0 = none := rfl
  rw [this]
  cases lksB none l <;> simp
theorem p_sLocks (l : List GLock) (hl : l.length ≤ maxLen) : spec_LocksOK l = some (locksB l) := by
  unfold spec_LocksOK locksB
  rw [p_slksB l hl l 0 (by simp)]
  have : prevL l 0 = none := rfl
  rw [this]
  by_cases h : (l.length : Int) > 4096
  · have h6 : decide ((l.length : Int) ≤ 6) = false := decide_eq_false (by omega)
    rw [if_pos (decide_eq_true h), h6]
    simp
  · rw [if_neg (by simpa using h)]
    cases lksB none l <;> simp
def lcodeI (l : List GLock) (s : Int) (t : Str) : Int :=
  if (decide ((l.length : Int) > 4096) || decide ((t.length : Int) > 65536)) = true then 2 else if locksB l = false then 1 else if (!sesB s || !nameOK t) = true then 4 else 0
theorem p_locksCode (l : List GLock) (s : Int) (t : Str) (hl : l.length ≤ maxLen) : impl_locksCode l s t = some (lcodeI l s t) := by
  unfold impl_locksCode impl_isList_impl_Lock impl_isText lcodeI
  rw [p_iLocks l hl, p_isSession, p_NameOK]
  by_cases h1 : (l.length : Int) ≤ 4096
  · have e1 : decide ((l.length : Int) > 4096) = false := decide_eq_false (by omega)
    by_cases h2 : (t.length : Int) ≤ 65536
    · have e2 : decide ((t.length : Int) > 65536) = false := decide_eq_false (by omega)
      rw [e1, e2]
      cases locksB l <;> cases sesB s <;> cases nameOK t <;> simp [h1, h2]
    · have e2 : decide ((t.length : Int) > 65536) = true := decide_eq_true (by omega)
      rw [e1, e2]
      simp [h1, h2]
  · have e1 : decide ((l.length : Int) > 4096) = true := decide_eq_true (by omega)
    rw [e1]
    simp [h1]
theorem p_l12Ask (l : List GLock) (s : Int) (t : Str) (hl : l.length ≤ maxLen) : spec_l12Ask l s t = some (lcodeI l s t) := by
  unfold spec_l12Ask lcodeI
  rw [p_sLocks l hl, p_l12Session, p_specNameOK]
  by_cases h1 : (l.length : Int) > 4096
  · simp [h1]
  · by_cases h2 : (t.length : Int) > 65536
    · simp [h1, h2]
    · cases locksB l <;> cases sesB s <;> cases nameOK t <;> simp [h1, h2]
theorem p_sessionCode (l : List GLock) (s : Int) (hl : l.length ≤ maxLen) : impl_sessionCode l s = some (lcodeI l s [120]) := by
  unfold impl_sessionCode
  rw [p_locksCode l s _ hl]
  unfold lcodeI
  have e1 : nameOK [110, 97, 109, 101] = nameOK [120] := by decide
  rw [e1]
  simp
theorem lksB_mem : ∀ {p : Option GLock} {l : List GLock}, lksB p l = true → ∀ x ∈ l, lkB x = true
  | _, [], _, x, hx => by simp at hx
  | p, y :: l, h, x, hx => by
    simp only [lksB, Bool.and_eq_true] at h
    rcases List.mem_cons.1 hx with rfl | hx
    · exact h.1.2
    · exact lksB_mem h.2 x hx
theorem lkB_queue {x : GLock} (h : lkB x = true) : 1 ≤ x.Queue.length ∧ x.Queue.length ≤ 3 := by
  simp only [lkB, Bool.and_eq_true, decide_eq_true_eq] at h
  omega
theorem lkB_name {x : GLock} (h : lkB x = true) : nameOK x.Name = true := by
  simp only [lkB, Bool.and_eq_true] at h
  exact h.1.1
theorem locksB_all {l : List GLock} (h : locksB l = true) : (∀ x ∈ l, lkB x = true) ∧ l.length ≤ 6 := by
  simp only [locksB, Bool.and_eq_true, decide_eq_true_eq] at h
  exact ⟨lksB_mem h.1, by omega⟩
theorem nameOK_len {t : Str} (h : nameOK t = true) : t.length ≤ 40 := by
  simp only [nameOK, Bool.and_eq_true, decide_eq_true_eq] at h
  exact h.1.1.2
/-! who owns what -/
def ownedL (s : Int) : List GLock → List Str
  | [] => []
  | x :: xs => if x.Queue.headD 0 == s then x.Name :: ownedL s xs else ownedL s xs
theorem idx_head {q : List Int} (h : 1 ≤ q.length) : idx q 0 = some (q.headD 0) := by
  cases q with
  | nil => simp at h
  | cons a q => rfl
theorem p_iOwned_L1 (s : Int) : ∀ (l : List GLock) (out : List Str), (∀ x ∈ l, lkB x = true) → out.length + l.length ≤ 100 → impl_OwnedBy_L1 s l out = some (out ++ ownedL s l)
  | [], out, _, _ => by rw [impl_OwnedBy_L1]; simp [ownedL]
  | x :: l, out, h, hl => by
    simp only [List.length_cons] at hl
    have hq := (lkB_queue (h x (by simp))).1
    rw [impl_OwnedBy_L1, idx_head hq, Option.bind_some]
    simp only [ownedL]
    split
    · rw [if_pos (by simp; omega), p_iOwned_L1 s l _ (fun y hy => h y (by simp [hy])) (by simp; omega)]
      simp
    · rw [p_iOwned_L1 s l _ (fun y hy => h y (by simp [hy])) (by omega)]
theorem p_copyLocks_L1 : ∀ (xs out : List GLock), out.length + xs.length ≤ 2 ^ 30 → (∀ x ∈ xs, x.Queue.length ≤ 2 ^ 30) → impl_copyLocks_L1 xs out = some (out ++ xs)
  | [], out, _, _ => by rw [impl_copyLocks_L1]; simp
  | x :: xs, out, h, hq => by
    simp only [List.length_cons] at h
    have h1 := hq x (by simp)
    rw [impl_copyLocks_L1]
    unfold slices_Clone_int_int
    rw [if_pos (by simpa using h1), Option.bind_some, if_pos (by simp; omega)]
    have e : (⟨x.Name, [] ++ x.Queue⟩ : GLock) = x := by cases x; rfl
    rw [e, p_copyLocks_L1 xs _ (by simp; omega) (fun y hy => hq y (by simp [hy]))]
    simp
theorem p_copyLocks (l : List GLock) (h : l.length ≤ 100) (hq : ∀ x ∈ l, x.Queue.length ≤ 100) : impl_copyLocks l = some l := by
  unfold impl_copyLocks
  rw [p_copyLocks_L1 l [] (by simp; omega) (fun x hx => by have := hq x hx; omega)]
  simp
theorem p_l12Own_L1 : ∀ (xs out : List GLock), out.length + xs.length ≤ 2 ^ 30 → (∀ x ∈ xs, x.Queue.length ≤ 2 ^ 30) → spec_l12Own_L1 xs out = some (out ++ xs)
  | [], out, _, _ => by rw [spec_l12Own_L1]; simp
  | x :: xs, out, h, hq => by
    simp only [List.length_cons] at h
    have h1 := hq x (by simp)
    rw [spec_l12Own_L1]
    rw [if_pos (by simpa using h1), if_pos (by simp; omega)]
    have e : (⟨x.Name, [] ++ x.Queue⟩ : GLock) = x := by cases x; rfl
    rw [e, p_l12Own_L1 xs _ (by simp; omega) (fun y hy => hq y (by simp [hy]))]
    simp
theorem p_l12Own (l : List GLock) (h : l.length ≤ 100) (hq : ∀ x ∈ l, x.Queue.length ≤ 100) : spec_l12Own l = some l := by
  unfold spec_l12Own
  rw [p_l12Own_L1 l [] (by simp; omega) (fun x hx => by have := hq x hx; omega)]
  simp
/-! names rise -/
def RisL (l : List GLock) : Prop := l.Pairwise fun x y => Lib.compareBytes x.Name y.Name < 0
theorem lksB_ris : ∀ {p : Option GLock} {l : List GLock}, lksB p l = true → RisL l ∧ ∀ y, p = some y → ∀ x ∈ l, Lib.compareBytes y.Name x.Name < 0
  | p, [], _ => ⟨List.Pairwise.nil, by simp⟩
  | p, x :: l, h => by
    simp only [lksB, Bool.and_eq_true] at h
    obtain ⟨⟨h1, _⟩, h2⟩ := h
    obtain ⟨g1, g2⟩ := lksB_ris h2
    refine ⟨List.pairwise_cons.2 ⟨g2 x rfl, g1⟩, ?_⟩
    rintro y rfl z hz
    simp only [aheadB, cmpB_less, decide_eq_true_eq] at h1
    rcases List.mem_cons.1 hz with rfl | hz
    · exact h1
    · exact cmpB_trans _ _ _ h1 (g2 x rfl z hz)
theorem ris_lksB : ∀ {p : Option GLock} {l : List GLock}, RisL l → (∀ x ∈ l, lkB x = true) → (∀ y, p = some y → ∀ x ∈ l, Lib.compareBytes y.Name x.Name < 0) → lksB p l = true
  | p, [], _, _, _ => rfl
  | p, x :: l, h, hk, hp => by
    obtain ⟨h1, h2⟩ := List.pairwise_cons.1 h
    simp only [lksB, Bool.and_eq_true]
    refine ⟨⟨?_, hk x (by simp)⟩, ris_lksB h2 (fun y hy => hk y (by simp [hy])) (by rintro y e z hz; cases e; exact h1 z hz)⟩
    cases p with
    | none => rfl
    | some y =>
      simp only [aheadB, cmpB_less, decide_eq_true_eq]
      exact hp y rfl x (by simp)
theorem RisL.lt {l : List GLock} (h : RisL l) {i j : Nat} {x y : GLock} (hij : i < j) (hi : l[i]? = some x) (hj : l[j]? = some y) : Lib.compareBytes x.Name y.Name < 0 := by
  obtain ⟨hi1, rfl⟩ := List.getElem?_eq_some_iff.1 hi
  obtain ⟨hj1, rfl⟩ := List.getElem?_eq_some_iff.1 hj
  exact List.pairwise_iff_getElem.1 h i j hi1 hj1 hij
/-- the place of a name -/
structure PlcL (l : List GLock) (t : Str) (k : Nat) : Prop where
  le : k ≤ l.length
  lo : ∀ q x, q < k → l[q]? = some x → Lib.compareBytes x.Name t < 0
  hi : ∀ q x, k ≤ q → l[q]? = some x → 0 ≤ Lib.compareBytes x.Name t
def hereB (l : List GLock) (t : Str) (k : Nat) : Bool := match l[k]? with
  | some x => x.Name == t
  | none => false
theorem hereB_iff {l : List GLock} {t : Str} {k : Nat} : hereB l t k = true ↔ ∃ x, l[k]? = some x ∧ x.Name = t := by
  unfold hereB
  cases l[k]? with
  | none => simp
  | some x => simp
/-- the reference's search -/
theorem p_Find_L1 (t : Str) : ∀ (xs : List GLock) (i : Nat), spec_l12Find_L1 t xs i = some (match xs.findIdx? (fun x => x.Name == t) with | some k => .ret ((i + k : Nat) : Int) | none => .go ())
  | [], i => by rw [spec_l12Find_L1]; rfl
  | x :: xs, i => by
    rw [spec_l12Find_L1, p_Find_L1 t xs (i + 1), List.findIdx?_cons]
    cases hp : (x.Name == t) with
    | true => simp
    | false =>
      cases hq : xs.findIdx? (fun x => x.Name == t) with
      | none => simp
      | some k => simp; omega
theorem find_here {l : List GLock} {t : Str} {k : Nat} (hr : RisL l) (hk : PlcL l t k) : l.findIdx? (fun x => x.Name == t) = if hereB l t k = true then some k else none := by
  by_cases h : hereB l t k = true
  · rw [if_pos h, List.findIdx?_eq_some_iff_getElem]
    obtain ⟨x, hx, e⟩ := hereB_iff.1 h
    obtain ⟨hl, rfl⟩ := List.getElem?_eq_some_iff.1 hx
    refine ⟨hl, by simpa using e, ?_⟩
    intro j hj
    have := hk.lo j _ hj (List.getElem?_eq_getElem (by omega))
    simp only [beq_iff_eq, Bool.not_eq_true]
    intro e'
    rw [e', (cmpB_zero t t).2 rfl] at this
    omega
  · rw [if_neg h, List.findIdx?_eq_none_iff]
    intro x hx
    obtain ⟨q, hq⟩ := List.mem_iff_getElem?.1 hx
    simp only [beq_eq_false_iff_ne, ne_eq]
    intro e
    rcases Nat.lt_trichotomy q k with g | g | g
    · have := hk.lo q x g hq
      rw [e, (cmpB_zero t t).2 rfl] at this
      omega
    · subst g
      exact h (hereB_iff.2 ⟨x, hq, e⟩)
    · have hl := (List.getElem?_eq_some_iff.1 hq).1
      have hy : l[k]? = some (l[k]'(by omega)) := List.getElem?_eq_getElem (by omega)
      have h1 := hr.lt g hy hq
      have h2 := hk.hi k _ (Nat.le_refl _) hy
      rw [e] at h1
      omega
theorem p_Find {l : List GLock} {t : Str} {k : Nat} (hr : RisL l) (hk : PlcL l t k) : spec_l12Find l t = some (if hereB l t k = true then (k : Int) else -1) := by
  unfold spec_l12Find
  rw [p_Find_L1, find_here hr hk]
  cases hereB l t k <;> simp
/-- the program's search -/
theorem p_lockAt_1 (x : GLock) (t : Str) : impl_lockAt_1 x t = some (Lib.compareBytes x.Name t) := rfl
theorem p_BinL_L1 (l : List GLock) (t : Str) (hs : RisL l) (hl : l.length ≤ 2 ^ 30) : ∀ (k i j : Nat), i ≤ j → j ≤ l.length → j - i < k → (∀ q r, q < i → l[q]? = some r → Lib.compareBytes r.Name t < 0) → (∀ q r, j ≤ q → l[q]? = some r → 0 ≤ Lib.compareBytes r.Name t) → ∃ m : Nat, slices_BinarySearchFunc_impl_Lock_impl_Lock_string_L1 l impl_lockAt_1 t k i j = some (m : Int) ∧ PlcL l t m
  | 0, i, j, _, _, h, _, _ => by omega
  | k + 1, i, j, hij, hj, hk, ha, hb => by
    rw [slices_BinarySearchFunc_impl_Lock_impl_Lock_string_L1]
    by_cases c : i < j
    · rw [if_pos (by simpa using c), mid_id (by omega) (by omega) (by omega)]
      have em : ((i : Int) + j) / 2 = (((i + j) / 2 : Nat) : Int) := by omega
      rw [em, idx_nat]
      have hm : (i + j) / 2 < l.length := by omega
      obtain ⟨r, hr⟩ : ∃ r, l[(i + j) / 2]? = some r := ⟨l[(i + j) / 2], List.getElem?_eq_getElem hm⟩
      rw [hr, Option.bind_some, p_lockAt_1, Option.bind_some]
      by_cases d : Lib.compareBytes r.Name t < 0
      · rw [if_pos (by simp [d]), w64_id (by omega)]
        have : (((i + j) / 2 : Nat) : Int) + 1 = (((i + j) / 2 + 1 : Nat) : Int) := by omega
        rw [this]
        refine p_BinL_L1 l t hs hl k ((i + j) / 2 + 1) j (by omega) hj (by omega) (fun q r' hq hr' => ?_) hb
        by_cases e : q = (i + j) / 2
        · subst e; rw [hr] at hr'; cases hr'; exact d
        · exact cmpB_trans _ _ _ (hs.lt (by omega) hr' hr) d
      · rw [if_neg (by simpa using d)]
        refine p_BinL_L1 l t hs hl k i ((i + j) / 2) (by omega) (by omega) (by omega) ha (fun q r' hq hr' => ?_)
        by_cases e : q = (i + j) / 2
        · subst e; rw [hr] at hr'; cases hr'; omega
        · have h1 := hs.lt (show (i + j) / 2 < q by omega) hr hr'
          rcases Int.lt_or_le (Lib.compareBytes r'.Name t) 0 with h2 | h2
          · exact absurd (cmpB_trans _ _ _ h1 h2) d
          · exact h2
    · rw [if_neg (by simpa using c)]
      exact ⟨i, rfl, by omega, ha, fun q r hq => hb q r (by omega)⟩
theorem p_lockAt (l : List GLock) (t : Str) (hs : RisL l) (hl : l.length ≤ 2 ^ 30) : ∃ k : Nat, impl_lockAt l t = some ((k : Int), hereB l t k) ∧ PlcL l t k := by
  have hf : (2 : Nat) ^ 40 ≤ FUEL := by unfold FUEL; omega
  obtain ⟨m, e, h1⟩ := p_BinL_L1 l t hs hl FUEL 0 l.length (by omega) (by omega) (by omega) (fun q r h => by omega) (fun q r h hr => by have := (List.getElem?_eq_some_iff.1 hr).1; omega)
  have e' : slices_BinarySearchFunc_impl_Lock_impl_Lock_string_L1 l impl_lockAt_1 t FUEL 0 (l.length : Int) = some (m : Int) := e
  refine ⟨m, ?_, h1⟩
  unfold impl_lockAt slices_BinarySearchFunc_impl_Lock_impl_Lock_string
  rw [e', Option.bind_some]
  unfold hereB
  by_cases c : m < l.length
  · obtain ⟨r, hr⟩ : ∃ r, l[m]? = some r := ⟨l[m], List.getElem?_eq_getElem c⟩
    rw [if_pos (by simpa using c), idx_nat, hr, Option.bind_some, p_lockAt_1, Option.bind_some, Option.bind_some]
    have : (Lib.compareBytes r.Name t == 0) = (r.Name == t) := by
      rw [Bool.eq_iff_iff]; simp [cmpB_zero]
    rw [this]
  · rw [if_neg (by simpa using c), List.getElem?_eq_none (by omega)]
    rfl
/-! room for a lock -/
def roomL (l : List GLock) (t : Str) (k : Nat) : List GLock × Nat × Int :=
  if hereB l t k = true then (l, k, 0) else if l.length = 6 then (l, 0, 7) else (l.take k ++ [⟨t, []⟩] ++ l.drop k, k, 0)
theorem p_withLock {l : List GLock} {t : Str} (hs : RisL l) (hl : l.length ≤ 6) (hq : ∀ x ∈ l, x.Queue.length ≤ 100) : ∃ k, PlcL l t k ∧ impl_withLock l t = some ((roomL l t k).1, ((roomL l t k).2.1 : Int), (roomL l t k).2.2) := by
  obtain ⟨k, e, hk⟩ := p_lockAt l t hs (by omega)
  refine ⟨k, hk, ?_⟩
  unfold impl_withLock roomL
  rw [p_copyLocks l (by omega) hq, Option.bind_some, e, Option.bind_some]
  cases hereB l t k with
  | true => rfl
  | false =>
    simp only [Bool.false_eq_true, if_false]
    by_cases h6 : l.length = 6
    · rw [if_pos (by simp [h6]), if_pos h6]; rfl
    · rw [if_neg (by simp; omega), if_neg h6]
      unfold slices_Insert_impl_Lock_impl_Lock_h0
      have := hk.le
      rw [if_pos ⟨⟨by omega, by omega⟩, by simp, by simp; omega⟩]
      simp
theorem p_Room_L1 {l : List GLock} {t : Str} {k : Nat} (hk : PlcL l t k) (hl : l.length ≤ 100) : ∀ (f i : Nat), i ≤ k → k - i < f → spec_l12Room_L1 l t f i = some (k : Int)
  | 0, i, _, h => by omega
  | f + 1, i, hi, h => by
    have hle := hk.le
    rw [spec_l12Room_L1]
    by_cases c : i < l.length
    · obtain ⟨x, hx⟩ : ∃ x, l[i]? = some x := ⟨l[i], List.getElem?_eq_getElem c⟩
      rw [if_pos (decide_eq_true (show (i : Int) < l.length by omega)), if_pos (by omega)]
      have e0 : l[0 + ((i : Int)).toNat]? = some x := by rw [Nat.zero_add, Int.toNat_natCast]; exact hx
      rw [e0, Option.bind_some, cmpB_less, Option.bind_some]
      by_cases d : i < k
      · have := hk.lo i x d hx
        rw [if_pos (decide_eq_true this), w64_id (by omega)]
        exact p_Room_L1 hk hl f (i + 1) (by omega) (by omega)
      · have hik : i = k := by omega
        have := hk.hi i x (by omega) hx
        rw [if_neg (by simpa using this), hik]
    · rw [if_neg (by simpa using c), Option.bind_some, if_neg (by simp)]
      have : i = k := by omega
      rw [this]
theorem p_Room {l : List GLock} {t : Str} {k : Nat} (hs : RisL l) (hk : PlcL l t k) (hl : l.length ≤ 6) (hq : ∀ x ∈ l, x.Queue.length ≤ 100) : spec_l12Room l t = some ((roomL l t k).1, ((roomL l t k).2.1 : Int), decide ((roomL l t k).2.2 = 0)) := by
  have hf : (2 : Nat) ^ 40 ≤ FUEL := by unfold FUEL; omega
  unfold spec_l12Room roomL
  rw [p_l12Own l (by omega) hq, Option.bind_some, p_Find hs hk, Option.bind_some]
  cases hereB l t k with
  | true => simp
  | false =>
    simp only [Bool.false_eq_true, if_false]
    rw [if_neg (by decide)]
    by_cases h6 : l.length = 6
    · rw [if_pos (by simp [h6]), if_pos h6]; rfl
    · have hle := hk.le
      have e := p_Room_L1 hk (by omega) FUEL 0 (by omega) (by omega)
      have e' : spec_l12Room_L1 l t FUEL 0 = some (k : Int) := e
      have ht : (l.drop k).take (l.length - k) = l.drop k := List.take_of_length_le (by rw [List.length_drop]; omega)
      rw [if_neg (by simp; omega), if_neg h6, e', Option.bind_some, if_pos (by omega), Int.toNat_natCast, ht, p_l12Own _ (by rw [List.length_drop]; omega) (fun x hx => hq x (List.mem_of_mem_drop hx)), Option.bind_some, if_pos (by omega), if_pos (by simp; omega), if_pos (by simp; omega)]
      simp
theorem p_l12InH_L1 (l : List Int) (n : Int) : ∀ (xs : List Int) (i : Nat), i + xs.length = l.length → spec_l12In_h0_L1 l n xs i = some (if xs.contains n then .ret true else .go ())
  | [], i, _ => by rw [spec_l12In_h0_L1]; rfl
  | x :: xs, i, h => by
    simp only [List.length_cons] at h
    rw [spec_l12In_h0_L1, if_pos (by omega), p_l12InH_L1 l n xs (i + 1) (by omega), List.contains_cons]
    by_cases e : x = n
    · subst e; simp
    · have h' : (n == x) = false := by simpa using Ne.symm e
      have h2 : (x == n) = false := by simpa using e
      rw [h', h2]; rfl
theorem p_l12InH (l : List Int) (n : Int) : spec_l12In_h0 l n = some (l.contains n) := by
  unfold spec_l12In_h0
  rw [p_l12InH_L1 l n l 0 (by omega)]
  cases l.contains n <;> rfl
theorem p_IndexH_L1 (l : List Int) (n : Int) : ∀ (xs : List Int) (i : Nat), i + xs.length = l.length → ∃ k : Nat, slices_Index_int_int_h0_L1 l n xs i = some (if xs.contains n then .ret (k : Int) else .go ())
  | [], i, _ => ⟨0, by rw [slices_Index_int_int_h0_L1]; rfl⟩
  | x :: xs, i, h => by
    simp only [List.length_cons] at h
    rw [slices_Index_int_int_h0_L1, if_pos (by omega)]
    obtain ⟨k, hk⟩ := p_IndexH_L1 l n xs (i + 1) (by omega)
    rw [hk, List.contains_cons]
    cases h : (n == x)
    · exact ⟨k, by simp⟩
    · exact ⟨i, by simp⟩
theorem p_ContainsH (l : List Int) (n : Int) : slices_Contains_int_int_h0 l n = some (l.contains n) := by
  unfold slices_Contains_int_int_h0 slices_Index_int_int_h0
  obtain ⟨k, hk⟩ := p_IndexH_L1 l n l 0 (by omega)
  rw [hk]
  cases l.contains n <;> simp
/-- right locks -/
theorem locks_sm {l : List GLock} (h : locksB l = true) : RisL l ∧ l.length ≤ 6 ∧ (∀ x ∈ l, x.Name.length ≤ 40 ∧ x.Queue.length ≤ 3) := by
  obtain ⟨h1, h2⟩ := locksB_all h
  simp only [locksB, Bool.and_eq_true] at h
  exact ⟨(lksB_ris h.1).1, h2, fun x hx => ⟨nameOK_len (lkB_name (h1 x hx)), (lkB_queue (h1 x hx)).2⟩⟩
def keepI (c : Int) (l : List Int) : List Int := l.filter fun x => !(x == c)
theorem keepI_len (c : Int) (l : List Int) : (keepI c l).length ≤ l.length := List.length_filter_le _ _
theorem p_delI_L1 (b : Int) : ∀ (t c g : List Int) (g0 : Int) (k : Nat), t.length < k → c.length + (g0 :: g).length + t.length ≤ 2 ^ 20 → ∃ R, slices_DeleteFunc_int_int_h0_L1 b k (c.length : Int) ((c.length + (g0 :: g).length : Nat) : Int) (c ++ (g0 :: g ++ t)) = some ((((c ++ keepI b t).length : Nat) : Int), R) ∧ R.length = (c ++ (g0 :: g ++ t)).length ∧ R.take (c ++ keepI b t).length = c ++ keepI b t
  | _, _, _, _, 0, h, _ => by omega
  | [], c, g, g0, k + 1, _, hl => by
    refine ⟨c ++ (g0 :: g ++ []), ?_, rfl, by simp [keepI]⟩
    rw [slices_DeleteFunc_int_int_h0_L1, if_neg (by simp)]
    simp [keepI]
  | z :: t, c, g, g0, k + 1, hk, hl => by
    simp only [List.length_cons] at hk hl
    have b1 : (0 : Int) ≤ ((c.length + (g0 :: g).length : Nat) : Int) ∧ ((c.length + (g0 :: g).length : Nat) : Int) < ((c ++ (g0 :: g ++ z :: t)).length : Int) := by simp <;> omega
    have g1 : (c ++ (g0 :: g ++ z :: t))[0 + ((c.length + (g0 :: g).length : Nat) : Int).toNat]? = some z := by
      have := mid_get (c ++ g0 :: g) t z
      rw [List.length_append] at this
      have ec : c ++ g0 :: g ++ z :: t = c ++ (g0 :: g ++ z :: t) := by simp
      rw [ec] at this
      rw [Int.toNat_natCast, Nat.zero_add]
      exact this
    have e3 : w64 (((c.length + (g0 :: g).length : Nat) : Int) + 1) = ((c.length + (g0 :: g).length + 1 : Nat) : Int) := by rw [w64_id (by simp only [List.length_cons]; omega)]; omega
    have e5 : impl_StealLock_1 z b = some (z == b) := rfl
    rw [slices_DeleteFunc_int_int_h0_L1, if_pos (decide_eq_true b1.2), if_pos b1, g1, Option.bind_some, e5, Option.bind_some, e3]
    by_cases e : z = b
    · have ek : keepI b (z :: t) = keepI b t := by simp [keepI, e]
      have ec : c ++ (g0 :: g ++ z :: t) = c ++ (g0 :: (g ++ [z]) ++ t) := by simp
      rw [if_neg (by simp [e]), ek, ec]
      have := p_delI_L1 b t c (g ++ [z]) g0 k (by omega) (by simp <;> omega)
      have el : c.length + (g0 :: (g ++ [z])).length = c.length + (g0 :: g).length + 1 := by simp <;> omega
      rw [el] at this
      exact this
    · have ek : keepI b (z :: t) = z :: keepI b t := by simp [keepI, e]
      have b2 : (0 : Int) ≤ (c.length : Int) ∧ (c.length : Int) < ((c ++ (g0 :: g ++ z :: t)).length : Int) := by simp <;> omega
      obtain ⟨w, hw⟩ : ∃ w, (c ++ (g0 :: g ++ z :: t))[0 + ((c.length : Nat) : Int).toNat]? = some w := ⟨_, List.getElem?_eq_getElem (by simp)⟩
      have e4 : w64 ((c.length : Int) + 1) = (((c ++ [z]).length : Nat) : Int) := by rw [w64_id (by omega)]; simp
      have ex : c ++ z :: keepI b t = (c ++ [z]) ++ keepI b t := by simp
      rw [if_pos (by simp [e]), if_pos b2, hw, Option.bind_some, e4, ek, ex]
      cases g with
      | nil =>
        have es : (c ++ ([g0] ++ z :: t)).set (0 + ((c.length : Nat) : Int).toNat) z = (c ++ [z]) ++ ([z] ++ t) := by
          have := mid_set c (z :: t) g0 z
          simpa using this
        have := p_delI_L1 b t (c ++ [z]) [] z k (by omega) (by simp at hl ⊢; omega)
        have el : (c ++ [z]).length + [z].length = c.length + [g0].length + 1 := by simp
        have el2 : ((c ++ [z]) ++ ([z] ++ t)).length = (c ++ ([g0] ++ z :: t)).length := by simp
        rw [el, el2] at this
        rw [es]
        exact this
      | cons g1' g' =>
        have es : (c ++ (g0 :: g1' :: g' ++ z :: t)).set (0 + ((c.length : Nat) : Int).toNat) z = (c ++ [z]) ++ (g1' :: (g' ++ [z]) ++ t) := by
          have := mid_set c (g1' :: g' ++ z :: t) g0 z
          simpa using this
        have := p_delI_L1 b t (c ++ [z]) (g' ++ [z]) g1' k (by omega) (by simp at hl ⊢; omega)
        have el : (c ++ [z]).length + (g1' :: (g' ++ [z])).length = c.length + (g0 :: g1' :: g').length + 1 := by simp <;> omega
        have el2 : ((c ++ [z]) ++ (g1' :: (g' ++ [z]) ++ t)).length = (c ++ (g0 :: g1' :: g' ++ z :: t)).length := by simp <;> omega
        rw [el, el2] at this
        rw [es]
        exact this
theorem p_idxI_L1 (b : Int) : ∀ (xs : List Int) (i : Nat), slices_IndexFunc_int_int_L1 (fun a0 => impl_StealLock_1 a0 b) xs i = some (.go ()) ∧ keepI b xs = xs ∨ ∃ (p : List Int) (x : Int) (t : List Int), xs = p ++ x :: t ∧ slices_IndexFunc_int_int_L1 (fun a0 => impl_StealLock_1 a0 b) xs i = some (.ret ((i + p.length : Nat) : Int)) ∧ keepI b xs = p ++ keepI b t
  | [], i => .inl ⟨by rw [slices_IndexFunc_int_int_L1], rfl⟩
  | y :: ys, i => by
    have e5 : impl_StealLock_1 y b = some (y == b) := rfl
    rw [slices_IndexFunc_int_int_L1, e5, Option.bind_some]
    by_cases e : y = b
    · rw [if_pos (by simpa using e)]
      exact .inr ⟨[], y, ys, rfl, by simp, by simp [keepI, e]⟩
    · rw [if_neg (by simpa using e)]
      rcases p_idxI_L1 b ys (i + 1) with ⟨h1, h2⟩ | ⟨p, x, t, h1, h2, h3⟩
      · refine .inl ⟨h1, ?_⟩
        have : keepI b (y :: ys) = y :: keepI b ys := by simp [keepI, e]
        rw [this, h2]
      · refine .inr ⟨y :: p, x, t, by rw [h1]; rfl, ?_, ?_⟩
        · rw [h2]; simp; omega
        · have : keepI b (y :: ys) = y :: keepI b ys := by simp [keepI, e]
          rw [this, h3]; rfl
theorem p_DeleteI (a : List Int) (b : Int) (hl : a.length ≤ 2 ^ 19) : slices_DeleteFunc_int_int_h0 a b = some (keepI b a, b) := by
  have hf : 2 ^ 40 < FUEL := by unfold FUEL; decide
  unfold slices_DeleteFunc_int_int_h0 slices_IndexFunc_int_int
  rcases p_idxI_L1 b a 0 with ⟨h1, h2⟩ | ⟨p, x, t, h1, h2, h3⟩
  · rw [h1, h2]; rfl
  · rw [h2]
    simp only [Option.bind_some, Nat.zero_add]
    have hla : a.length = p.length + 1 + t.length := by rw [h1]; simp; omega
    have e0 : (((p.length : Nat) : Int) == (-1)) = false := by simp <;> omega
    have ew : w64 ((p.length : Int) + 1) = ((p.length + [x].length : Nat) : Int) := by rw [w64_id (by omega)]; simp
    obtain ⟨R, g1, g2, g3⟩ := p_delI_L1 b t p [] x FUEL (by omega) (by simp <;> omega)
    have ea : p ++ ([x] ++ t) = a := by rw [h1]; simp
    rw [ea] at g1 g2
    rw [e0, if_neg (by simp), ew, g1, Option.bind_some]
    have hle : (p ++ keepI b t).length ≤ R.length := by
      have : (keepI b t).length ≤ t.length := List.length_filter_le _ _
      rw [g2, hla]; simp; omega
    simp only
    rw [if_pos (by omega), if_pos (by omega), Int.toNat_natCast, g3, h3, List.append_assoc, List.take_left']
    rfl
def toldSt (q : List Int) (s : Int) (t : Str) : List GTold := match q with
  | [] => []
  | h :: _ => if h != s then [⟨h, [115, 116, 111, 108, 101, 110], t⟩] else []
theorem p_stealT (q : List Int) (s : Int) (t : Str) : ((((if (decide ((q.length : Int) > 0)) then
    (idx q 0).bind fun x_37 =>
    some (x_37 != s)
    else
    some false : Option Bool)).bind fun s49_33 =>
    if s49_33 then
    (idx q 0).bind fun x_40 =>
    if ([] ++ [(⟨x_40, [115, 116, 111, 108, 101, 110], t⟩ : GTold)]).length ≤ 2 ^ 30 then
    some ([] ++ [(⟨x_40, [115, 116, 111, 108, 101, 110], t⟩ : GTold)])
    else none
    else
    some [] : Option (List GTold))) = some (toldSt q s t) := by
  cases q with
  | nil => rfl
  | cons h q =>
    have e1 : decide (((h :: q).length : Int) > 0) = true := decide_eq_true (by simp only [List.length_cons]; omega)
    have e2 : idx (h :: q) 0 = some h := rfl
    rw [if_pos e1, e2]
    simp only [Option.bind_some, toldSt]
    cases (h != s) <;> simp
theorem p_Steal_L1 (R : List GLock) (k : Nat) (b : Bool) (s : Int) (x : GLock) (hx : R[k]? = some x) (hl : x.Queue.length ≤ 100) : ∀ (f i : Nat) (q : List Int), i ≤ x.Queue.length → x.Queue.length - i < f → q.length + (x.Queue.length - i) ≤ 1000 → spec_l12Steal_L1 (R, (k : Int), b) s f i q = some (q ++ keepI s (x.Queue.drop i))
  | 0, i, q, _, h, _ => by omega
  | f + 1, i, q, hi, h, hq => by
    obtain ⟨hk, _⟩ := List.getElem?_eq_some_iff.1 hx
    have hb : (0 : Int) ≤ (k : Int) ∧ (k : Int) < (R.length : Int) := by omega
    have hx' : R[0 + ((k : Int)).toNat]? = some x := by rw [Nat.zero_add, Int.toNat_natCast]; exact hx
    rw [spec_l12Steal_L1]
    simp only [if_pos hb, hx', Option.bind_some]
    by_cases c : i < x.Queue.length
    · obtain ⟨y, hy⟩ : ∃ y, x.Queue[i]? = some y := ⟨x.Queue[i], List.getElem?_eq_getElem c⟩
      have hd : x.Queue.drop i = y :: x.Queue.drop (i + 1) := by
        rw [List.drop_eq_getElem_cons c]
        congr 1
        exact Option.some.inj ((List.getElem?_eq_getElem c).symm.trans hy)
      have ew : w64 ((i : Int) + 1) = ((i + 1 : Nat) : Int) := by rw [w64_id (by omega)]; omega
      rw [if_pos (decide_eq_true (by omega)), idx_nat, hy, Option.bind_some, ew]
      by_cases e : y = s
      · have ek : keepI s (x.Queue.drop i) = keepI s (x.Queue.drop (i + 1)) := by rw [hd]; simp [keepI, e]
        rw [if_neg (by simp [e]), ek]
        exact p_Steal_L1 R k b s x hx hl f (i + 1) q (by omega) (by omega) (by omega)
      · have ek : keepI s (x.Queue.drop i) = y :: keepI s (x.Queue.drop (i + 1)) := by rw [hd]; simp [keepI, e]
        rw [if_pos (by simp [e]), Option.bind_some, if_pos (by simp; omega), ek, p_Steal_L1 R k b s x hx hl f (i + 1) (q ++ [y]) (by omega) (by omega) (by simp; omega)]
        simp
    · rw [if_neg (by simpa using c)]
      have : x.Queue.drop i = [] := List.drop_eq_nil_of_le (by omega)
      rw [this]
      simp [keepI]
theorem p_delV_L1 (b : Int × Int) : ∀ (t c g : List Int) (g0 : Int) (k : Nat), t.length < k → c.length + (g0 :: g).length + t.length ≤ 2 ^ 20 → ∃ R, slices_DeleteFunc_int_int_h4_L1 b k (c.length : Int) ((c.length + (g0 :: g).length : Nat) : Int) (c ++ (g0 :: g ++ t)) = some ((((c ++ keepI b.2 t).length : Nat) : Int), R) ∧ R.length = (c ++ (g0 :: g ++ t)).length ∧ R.take (c ++ keepI b.2 t).length = c ++ keepI b.2 t
  | _, _, _, _, 0, h, _ => by omega
  | [], c, g, g0, k + 1, _, hl => by
    refine ⟨c ++ (g0 :: g ++ []), ?_, rfl, by simp [keepI]⟩
    rw [slices_DeleteFunc_int_int_h4_L1, if_neg (by simp)]
    simp [keepI]
  | z :: t, c, g, g0, k + 1, hk, hl => by
    simp only [List.length_cons] at hk hl
    have b1 : (0 : Int) ≤ ((c.length + (g0 :: g).length : Nat) : Int) ∧ ((c.length + (g0 :: g).length : Nat) : Int) < ((c ++ (g0 :: g ++ z :: t)).length : Int) := by simp <;> omega
    have g1 : (c ++ (g0 :: g ++ z :: t))[0 + ((c.length + (g0 :: g).length : Nat) : Int).toNat]? = some z := by
      have := mid_get (c ++ g0 :: g) t z
      rw [List.length_append] at this
      have ec : c ++ g0 :: g ++ z :: t = c ++ (g0 :: g ++ z :: t) := by simp
      rw [ec] at this
      rw [Int.toNat_natCast, Nat.zero_add]
      exact this
    have e3 : w64 (((c.length + (g0 :: g).length : Nat) : Int) + 1) = ((c.length + (g0 :: g).length + 1 : Nat) : Int) := by rw [w64_id (by simp only [List.length_cons]; omega)]; omega
    have e5 : impl_leave_1 z b.2 = some (z == b.2) := rfl
    rw [slices_DeleteFunc_int_int_h4_L1, if_pos (decide_eq_true b1.2), if_pos b1, g1, Option.bind_some, e5, Option.bind_some, e3]
    by_cases e : z = b.2
    · have ek : keepI b.2 (z :: t) = keepI b.2 t := by simp [keepI, e]
      have ec : c ++ (g0 :: g ++ z :: t) = c ++ (g0 :: (g ++ [z]) ++ t) := by simp
      rw [if_neg (by simp [e]), ek, ec]
      have := p_delV_L1 b t c (g ++ [z]) g0 k (by omega) (by simp <;> omega)
      have el : c.length + (g0 :: (g ++ [z])).length = c.length + (g0 :: g).length + 1 := by simp <;> omega
      rw [el] at this
      exact this
    · have ek : keepI b.2 (z :: t) = z :: keepI b.2 t := by simp [keepI, e]
      have b2 : (0 : Int) ≤ (c.length : Int) ∧ (c.length : Int) < ((c ++ (g0 :: g ++ z :: t)).length : Int) := by simp <;> omega
      obtain ⟨w, hw⟩ : ∃ w, (c ++ (g0 :: g ++ z :: t))[0 + ((c.length : Nat) : Int).toNat]? = some w := ⟨_, List.getElem?_eq_getElem (by simp)⟩
      have e4 : w64 ((c.length : Int) + 1) = (((c ++ [z]).length : Nat) : Int) := by rw [w64_id (by omega)]; simp
      have ex : c ++ z :: keepI b.2 t = (c ++ [z]) ++ keepI b.2 t := by simp
      rw [if_pos (by simp [e]), if_pos b2, hw, Option.bind_some, e4, ek, ex]
      cases g with
      | nil =>
        have es : (c ++ ([g0] ++ z :: t)).set (0 + ((c.length : Nat) : Int).toNat) z = (c ++ [z]) ++ ([z] ++ t) := by
          have := mid_set c (z :: t) g0 z
          simpa using this
        have := p_delV_L1 b t (c ++ [z]) [] z k (by omega) (by simp at hl ⊢; omega)
        have el : (c ++ [z]).length + [z].length = c.length + [g0].length + 1 := by simp
        have el2 : ((c ++ [z]) ++ ([z] ++ t)).length = (c ++ ([g0] ++ z :: t)).length := by simp
        rw [el, el2] at this
        rw [es]
        exact this
      | cons g1' g' =>
        have es : (c ++ (g0 :: g1' :: g' ++ z :: t)).set (0 + ((c.length : Nat) : Int).toNat) z = (c ++ [z]) ++ (g1' :: (g' ++ [z]) ++ t) := by
          have := mid_set c (g1' :: g' ++ z :: t) g0 z
          simpa using this
        have := p_delV_L1 b t (c ++ [z]) (g' ++ [z]) g1' k (by omega) (by simp at hl ⊢; omega)
        have el : (c ++ [z]).length + (g1' :: (g' ++ [z])).length = c.length + (g0 :: g1' :: g').length + 1 := by simp <;> omega
        have el2 : ((c ++ [z]) ++ (g1' :: (g' ++ [z]) ++ t)).length = (c ++ (g0 :: g1' :: g' ++ z :: t)).length := by simp <;> omega
        rw [el, el2] at this
        rw [es]
        exact this
theorem p_idxV_L1 (l : List Int) (b : Int) : ∀ (xs : List Int) (i : Nat), i + xs.length = l.length → slices_IndexFunc_int_int_h0_L1 l b xs i = some (.go ()) ∧ keepI b xs = xs ∨ ∃ (p : List Int) (x : Int) (t : List Int), xs = p ++ x :: t ∧ slices_IndexFunc_int_int_h0_L1 l b xs i = some (.ret (((i + p.length : Nat) : Int), b)) ∧ keepI b xs = p ++ keepI b t
  | [], i, _ => .inl ⟨by rw [slices_IndexFunc_int_int_h0_L1], rfl⟩
  | y :: ys, i, h => by
    simp only [List.length_cons] at h
    have e5 : impl_leave_1 y b = some (y == b) := rfl
    rw [slices_IndexFunc_int_int_h0_L1, if_pos (by omega), e5, Option.bind_some]
    by_cases e : y = b
    · rw [if_pos (by simpa using e)]
      exact .inr ⟨[], y, ys, rfl, by simp, by simp [keepI, e]⟩
    · rw [if_neg (by simpa using e)]
      rcases p_idxV_L1 l b ys (i + 1) (by omega) with ⟨h1, h2⟩ | ⟨p, x, t, h1, h2, h3⟩
      · refine .inl ⟨h1, ?_⟩
        have : keepI b (y :: ys) = y :: keepI b ys := by simp [keepI, e]
        rw [this, h2]
      · refine .inr ⟨y :: p, x, t, by rw [h1]; rfl, ?_, ?_⟩
        · rw [h2]; simp; omega
        · have : keepI b (y :: ys) = y :: keepI b ys := by simp [keepI, e]
          rw [this, h3]; rfl
theorem p_DeleteV (a : List Int) (b : Int) (hl : a.length ≤ 2 ^ 19) : slices_DeleteFunc_int_int_h4 a b = some (keepI b a, b) := by
  have hf : 2 ^ 40 < FUEL := by unfold FUEL; decide
  unfold slices_DeleteFunc_int_int_h4 slices_IndexFunc_int_int_h0
  rcases p_idxV_L1 a b a 0 (by omega) with ⟨h1, h2⟩ | ⟨p, x, t, h1, h2, h3⟩
  · rw [h1, h2]; rfl
  · rw [h2]
    simp only [Option.bind_some, Nat.zero_add]
    have hla : a.length = p.length + 1 + t.length := by rw [h1]; simp; omega
    have e0 : (((p.length : Nat) : Int) == (-1)) = false := by simp <;> omega
    have ew : w64 ((p.length : Int) + 1) = ((p.length + [x].length : Nat) : Int) := by rw [w64_id (by omega)]; simp
    obtain ⟨R, g1, g2, g3⟩ := p_delV_L1 (((p.length : Nat) : Int), b) t p [] x FUEL (by omega) (by simp <;> omega)
    have ea : p ++ ([x] ++ t) = a := by rw [h1]; simp
    rw [ea] at g1 g2
    rw [e0, if_neg (by simp), ew, g1, Option.bind_some]
    have hle : (p ++ keepI b t).length ≤ R.length := by
      have : (keepI b t).length ≤ t.length := List.length_filter_le _ _
      rw [g2, hla]; simp; omega
    simp only
    rw [if_pos (by omega), if_pos (by omega), Int.toNat_natCast, g3, h3, List.append_assoc, List.take_left']
    rfl
theorem p_lockAt_1h (x : GLock) (t : Str) : impl_lockAt_1_h0 x.Name x.Queue t = some (Lib.compareBytes x.Name t) := rfl
theorem p_BinV_L1 (l : List GLock) (t : Str) (hs : RisL l) (hl : l.length ≤ 2 ^ 30) : ∀ (k i j : Nat), i ≤ j → j ≤ l.length → j - i < k → (∀ q r, q < i → l[q]? = some r → Lib.compareBytes r.Name t < 0) → (∀ q r, j ≤ q → l[q]? = some r → 0 ≤ Lib.compareBytes r.Name t) → ∃ m : Nat, slices_BinarySearchFunc_impl_Lock_impl_Lock_string_h0_L1 l t k i j = some (m : Int) ∧ PlcL l t m
  | 0, i, j, _, _, h, _, _ => by omega
  | k + 1, i, j, hij, hj, hk, ha, hb => by
    rw [slices_BinarySearchFunc_impl_Lock_impl_Lock_string_h0_L1]
    by_cases c : i < j
    · rw [if_pos (by simpa using c), mid_id (by omega) (by omega) (by omega)]
      have em : ((i : Int) + j) / 2 = (((i + j) / 2 : Nat) : Int) := by omega
      have hm : (i + j) / 2 < l.length := by omega
      obtain ⟨r, hr⟩ : ∃ r, l[(i + j) / 2]? = some r := ⟨l[(i + j) / 2], List.getElem?_eq_getElem hm⟩
      rw [em, Int.toNat_natCast, Nat.zero_add, hr, Option.bind_some, if_pos (by omega), p_lockAt_1h, Option.bind_some]
      by_cases d : Lib.compareBytes r.Name t < 0
      · rw [if_pos (by simp [d]), w64_id (by omega)]
        have : (((i + j) / 2 : Nat) : Int) + 1 = (((i + j) / 2 + 1 : Nat) : Int) := by omega
        rw [this]
        refine p_BinV_L1 l t hs hl k ((i + j) / 2 + 1) j (by omega) hj (by omega) (fun q r' hq hr' => ?_) hb
        by_cases e : q = (i + j) / 2
        · subst e; rw [hr] at hr'; cases hr'; exact d
        · exact cmpB_trans _ _ _ (hs.lt (by omega) hr' hr) d
      · rw [if_neg (by simpa using d)]
        refine p_BinV_L1 l t hs hl k i ((i + j) / 2) (by omega) (by omega) (by omega) ha (fun q r' hq hr' => ?_)
        by_cases e : q = (i + j) / 2
        · subst e; rw [hr] at hr'; cases hr'; omega
        · have h1 := hs.lt (show (i + j) / 2 < q by omega) hr hr'
          rcases Int.lt_or_le (Lib.compareBytes r'.Name t) 0 with h2 | h2
          · exact absurd (cmpB_trans _ _ _ h1 h2) d
          · exact h2
    · rw [if_neg (by simpa using c)]
      exact ⟨i, rfl, by omega, ha, fun q r hq => hb q r (by omega)⟩
theorem p_lockAtV (l : List GLock) (t : Str) (hs : RisL l) (hl : l.length ≤ 2 ^ 30) : ∃ k : Nat, impl_lockAt_h0 l t = some ((k : Int), hereB l t k) ∧ PlcL l t k := by
  have hf : (2 : Nat) ^ 40 ≤ FUEL := by unfold FUEL; omega
  obtain ⟨m, e, h1⟩ := p_BinV_L1 l t hs hl FUEL 0 l.length (by omega) (by omega) (by omega) (fun q r h => by omega) (fun q r h hr => by have := (List.getElem?_eq_some_iff.1 hr).1; omega)
  have e' : slices_BinarySearchFunc_impl_Lock_impl_Lock_string_h0_L1 l t FUEL 0 (l.length : Int) = some (m : Int) := e
  refine ⟨m, ?_, h1⟩
  unfold impl_lockAt_h0 slices_BinarySearchFunc_impl_Lock_impl_Lock_string_h0
  rw [e', Option.bind_some, Int.toNat_natCast, Nat.zero_add]
  unfold hereB
  by_cases c : m < l.length
  · obtain ⟨r, hr⟩ : ∃ r, l[m]? = some r := ⟨l[m], List.getElem?_eq_getElem c⟩
    rw [hr]
    simp only [onIdx]
    rw [if_pos (by simpa using c), if_pos (by omega), p_lockAt_1h, Option.bind_some, Option.bind_some]
    have : (Lib.compareBytes r.Name t == 0) = (r.Name == t) := by
      rw [Bool.eq_iff_iff]; simp [cmpB_zero]
    rw [this]
  · rw [List.getElem?_eq_none (by omega)]
    simp only [onIdx]
    rw [if_neg (by simpa using c)]
    rfl
theorem p_FindV_L1 (l : List GLock) (t : Str) : ∀ (xs : List GLock) (i : Nat), i + xs.length = l.length → spec_l12Find_h0_L1 l t xs i = some (match xs.findIdx? (fun x => x.Name == t) with | some k => .ret ((i + k : Nat) : Int) | none => .go ())
  | [], i, _ => by rw [spec_l12Find_h0_L1]; rfl
  | x :: xs, i, h => by
    simp only [List.length_cons] at h
    rw [spec_l12Find_h0_L1, if_pos (by omega), p_FindV_L1 l t xs (i + 1) (by omega), List.findIdx?_cons]
    cases hp : (x.Name == t) with
    | true => simp
    | false =>
      cases hq : xs.findIdx? (fun x => x.Name == t) with
      | none => simp
      | some k => simp; omega
theorem p_FindV {l : List GLock} {t : Str} {k : Nat} (hr : RisL l) (hk : PlcL l t k) : spec_l12Find_h0 l t = some (if hereB l t k = true then (k : Int) else -1) := by
  unfold spec_l12Find_h0
  rw [p_FindV_L1 l t l 0 (by omega), find_here hr hk]
  cases hereB l t k <;> simp
/-- who leaves -/
def leaveM (R : List GLock) (k : Nat) (s : Int) (x : GLock) : List GLock × List GTold :=
  (if keepI s x.Queue = [] then R.take k ++ R.drop (k + 1) else R.set k ⟨x.Name, keepI s x.Queue⟩,
   if keepI s x.Queue = [] then [] else if x.Queue.headD 0 == s then [⟨(keepI s x.Queue).headD 0, [108, 111, 99, 107, 101, 100], x.Name⟩] else [])
theorem head_get {q : List Int} (h : q ≠ []) : q[0]? = some (q.headD 0) ∧ 0 < q.length := by
  cases q with
  | nil => exact absurd rfl h
  | cons a q => exact ⟨rfl, by simp⟩
theorem p_leave {R : List GLock} {k : Nat} {s : Int} {x : GLock} (hx : R[k]? = some x) (hq : x.Queue ≠ []) (hl : x.Queue.length ≤ 100) (hR : R.length ≤ 100) : impl_leave_h2 R (k : Int) s = some (leaveM R k s x) := by
  obtain ⟨hk, _⟩ := List.getElem?_eq_some_iff.1 hx
  have hb : (0 : Int) ≤ (k : Int) ∧ (k : Int) < (R.length : Int) := by omega
  obtain ⟨h0, h1⟩ := head_get hq
  have ew : w64 ((k : Int) + 1) = ((k + 1 : Nat) : Int) := by rw [w64_id (by omega)]; omega
  unfold impl_leave_h2 leaveM
  rw [if_pos hb, Int.toNat_natCast, Nat.zero_add, hx, Option.bind_some, if_pos h1, h0, Option.bind_some, p_DeleteV _ _ (by omega), Option.bind_some]
  simp only
  by_cases hn : keepI s x.Queue = []
  · have e0 : (((keepI s x.Queue).length : Int) == 0) = true := by simp [hn]
    rw [if_pos e0, if_pos hn, if_pos hn, ew]
    unfold slices_Delete_impl_Lock_impl_Lock_h1
    rw [if_pos (by simp; omega), Option.bind_some, Int.toNat_natCast, Int.toNat_natCast, List.take_set_of_le (Nat.le_refl _), List.drop_set_of_lt (Nat.lt_succ_self _)]
  · obtain ⟨g0, g1⟩ := head_get hn
    have e0 : (((keepI s x.Queue).length : Int) == 0) = false := by simp; exact hn
    rw [if_neg (by simp [e0]), if_neg hn, if_neg hn]
    cases hh : (x.Queue.headD 0 == s) with
    | true => rw [if_pos rfl, if_pos g1, g0, Option.bind_some, if_pos (by simp), if_pos rfl]; rfl
    | false => rw [if_neg (by simp), if_neg (by simp)]
theorem p_Leave_L1 (R : List GLock) (k : Nat) (s : Int) (x : GLock) (hx : R[k]? = some x) (hl : x.Queue.length ≤ 100) : ∀ (f i : Nat) (q : List Int), i ≤ x.Queue.length → x.Queue.length - i < f → q.length + (x.Queue.length - i) ≤ 1000 → spec_l12Leave_L1 R (k : Int) s f i q = some (q ++ keepI s (x.Queue.drop i))
  | 0, i, q, _, h, _ => by omega
  | f + 1, i, q, hi, h, hq => by
    obtain ⟨hk, _⟩ := List.getElem?_eq_some_iff.1 hx
    have hb : (0 : Int) ≤ (k : Int) ∧ (k : Int) < (R.length : Int) := by omega
    have hx' : R[0 + ((k : Int)).toNat]? = some x := by rw [Nat.zero_add, Int.toNat_natCast]; exact hx
    rw [spec_l12Leave_L1]
    simp only [if_pos hb, hx', Option.bind_some]
    by_cases c : i < x.Queue.length
    · obtain ⟨y, hy⟩ : ∃ y, x.Queue[i]? = some y := ⟨x.Queue[i], List.getElem?_eq_getElem c⟩
      have hy' : x.Queue[0 + ((i : Int)).toNat]? = some y := by rw [Nat.zero_add, Int.toNat_natCast]; exact hy
      have hb2 : (0 : Int) ≤ (i : Int) ∧ (i : Int) < (x.Queue.length : Int) := by omega
      have hd : x.Queue.drop i = y :: x.Queue.drop (i + 1) := by
        rw [List.drop_eq_getElem_cons c]
        congr 1
        exact Option.some.inj ((List.getElem?_eq_getElem c).symm.trans hy)
      have ew : w64 ((i : Int) + 1) = ((i + 1 : Nat) : Int) := by rw [w64_id (by omega)]; omega
      rw [if_pos (decide_eq_true (by omega)), if_pos hb2, hy', Option.bind_some, ew]
      by_cases e : y = s
      · have ek : keepI s (x.Queue.drop i) = keepI s (x.Queue.drop (i + 1)) := by rw [hd]; simp [keepI, e]
        rw [if_neg (by simp [e]), ek]
        exact p_Leave_L1 R k s x hx hl f (i + 1) q (by omega) (by omega) (by omega)
      · have ek : keepI s (x.Queue.drop i) = y :: keepI s (x.Queue.drop (i + 1)) := by rw [hd]; simp [keepI, e]
        rw [if_pos (by simp [e]), if_pos hb2, if_pos (by simp; omega), ek, p_Leave_L1 R k s x hx hl f (i + 1) (q ++ [y]) (by omega) (by omega) (by simp; omega)]
        simp
    · rw [if_neg (by simpa using c)]
      have : x.Queue.drop i = [] := List.drop_eq_nil_of_le (by omega)
      rw [this]
      simp [keepI]
/-- the reference's way -/
def lvM (l : List GLock) (s : Int) (t : Str) (k : Nat) : List GLock × List GTold × Int := match l[k]? with
  | some x => if x.Name = t ∧ x.Queue.contains s = true then ((leaveM l k s x).1, (leaveM l k s x).2, 0) else (l, [], 5)
  | none => (l, [], 5)
theorem p_sLeave {l : List GLock} {s : Int} {t : Str} {k : Nat} (hr : RisL l) (hk : PlcL l t k) (hl : l.length ≤ 6) (hq : ∀ x ∈ l, x.Queue.length ≤ 100 ∧ x.Queue ≠ []) : spec_l12Leave l s t = some (lvM l s t k) := by
  have hf : (2 : Nat) ^ 40 ≤ FUEL := by unfold FUEL; omega
  unfold spec_l12Leave
  rw [p_l12Own l (by omega) (fun x hx => (hq x hx).1), Option.bind_some, p_FindV hr hk, Option.bind_some]
  unfold lvM
  by_cases hh : hereB l t k = true
  · obtain ⟨x, hx, hn⟩ := hereB_iff.1 hh
    obtain ⟨hkl, _⟩ := List.getElem?_eq_some_iff.1 hx
    obtain ⟨q1, q2⟩ := hq x (List.mem_of_getElem? hx)
    obtain ⟨g0, g1⟩ := head_get q2
    have hb : (0 : Int) ≤ (k : Int) ∧ (k : Int) < (l.length : Int) := by omega
    have e0 : decide ((k : Int) < 0) = false := decide_eq_false (by omega)
    rw [if_pos hh, Int.toNat_natCast, Nat.zero_add, hx]
    simp only [onIdx, e0, Bool.false_eq_true, if_false, if_pos hb, p_l12InH, Option.bind_some, hn, true_and]
    cases hc : x.Queue.contains s with
    | false => rfl
    | true =>
      have e1 := p_Leave_L1 l k s x hx q1 FUEL 0 [] (by omega) (by omega) (by simp; omega)
      have e1' : spec_l12Leave_L1 l (k : Int) s FUEL 0 [] = some (keepI s x.Queue) := by simpa using e1
      have ew : w64 ((k : Int) + 1) = ((k + 1 : Nat) : Int) := by rw [w64_id (by omega)]; omega
      simp only [Bool.not_true, Bool.false_eq_true, if_false, e1', Option.bind_some, if_pos g1, g0, if_true]
      unfold leaveM
      by_cases hnn : keepI s x.Queue = []
      · have hz : (((keepI s x.Queue).length : Int) == 0) = true := by simp [hnn]
        have hz2 : decide (((keepI s x.Queue).length : Int) > 0) = false := by simp [hnn]
        have ht : (if (x.Queue.headD 0 == s) = true then some (decide (((keepI s x.Queue).length : Int) > 0)) else some false) = some false := by rw [hz2]; split <;> rfl
        rw [ht]
        simp only [Option.bind_some, Bool.false_eq_true, if_false, if_pos hz, if_pos hnn, ew]
        have hT : (l.drop (k + 1)).take (l.length - (k + 1)) = l.drop (k + 1) := List.take_of_length_le (by rw [List.length_drop]; omega)
        rw [if_pos (by omega), if_pos (by omega), if_pos (by omega), Int.toNat_natCast, List.take_set_of_le (Nat.le_refl _), List.drop_set_of_lt (Nat.lt_succ_self _), hT]
      · obtain ⟨f0, f1⟩ := head_get hnn
        have hz : (((keepI s x.Queue).length : Int) == 0) = false := by simp; exact hnn
        have hz2 : decide (((keepI s x.Queue).length : Int) > 0) = true := decide_eq_true (by omega)
        rw [hz2, hz]
        simp only [if_neg hnn, Bool.false_eq_true, if_false]
        cases hh2 : (x.Queue.headD 0 == s) with
        | true => simp only [if_true, Option.bind_some, if_pos f1, f0, hn]; rw [if_pos (by simp)]; rfl
        | false => simp only [Bool.false_eq_true, if_false, Option.bind_some, hn]
  · rw [if_neg hh]
    have e0 : decide ((-1 : Int) < 0) = true := by decide
    have hno : ∀ x, l[k]? = some x → ¬ (x.Name = t ∧ x.Queue.contains s = true) := fun x hx h => hh (hereB_iff.2 ⟨x, hx, h.1⟩)
    have e1 : (onIdx (l[(0 + (-1 : Int).toNat)]?) (fun x_22 => if (decide ((-1 : Int) < 0)) then some true else if (0 : Int) ≤ (-1 : Int) ∧ (-1 : Int) < (l.length : Int) then (spec_l12In_h0 x_22.Queue s).bind fun r_26 => some (!r_26) else none) (if (decide ((-1 : Int) < 0)) then some true else if (0 : Int) ≤ (-1 : Int) ∧ (-1 : Int) < (l.length : Int) then none else none) : Option Bool) = some true := by
      cases l[(0 + (-1 : Int).toNat)]? <;> simp [onIdx]
    rw [e1]
    simp only [Option.bind_some, if_true]
    cases hx : l[k]? with
    | none => rfl
    | some x => simp only; rw [if_neg (hno x hx)]
theorem p_iLeave {l : List GLock} {s : Int} {t : Str} (hr : RisL l) (hl : l.length ≤ 6) (hq : ∀ x ∈ l, x.Queue.length ≤ 100 ∧ x.Queue ≠ []) (hc : lcodeI l s t = 0) (hm : l.length ≤ maxLen) : ∃ k, PlcL l t k ∧ impl_LeaveLock l s t = some (lvM l s t k) := by
  obtain ⟨k, e, hk⟩ := p_lockAtV l t hr (by omega)
  refine ⟨k, hk, ?_⟩
  unfold impl_LeaveLock
  rw [p_locksCode l s t hm, Option.bind_some, if_neg (by simp [hc]), p_copyLocks l (by omega) (fun x hx => (hq x hx).1), Option.bind_some, e, Option.bind_some]
  unfold lvM
  simp only
  rw [Int.toNat_natCast, Nat.zero_add]
  cases hx : l[k]? with
  | none =>
    have hh : hereB l t k = false := by unfold hereB; rw [hx]
    rw [hh]; rfl
  | some x =>
    obtain ⟨hkl, _⟩ := List.getElem?_eq_some_iff.1 hx
    obtain ⟨q1, q2⟩ := hq x (List.mem_of_getElem? hx)
    have hb : (0 : Int) ≤ (k : Int) ∧ (k : Int) < (l.length : Int) := by omega
    by_cases hn : x.Name = t
    · have hh : hereB l t k = true := hereB_iff.2 ⟨x, hx, hn⟩
      rw [hh]
      simp only [onIdx, Bool.not_true, Bool.false_eq_true, if_false, if_pos hb, p_ContainsH, Option.bind_some, hn, true_and]
      cases hc : x.Queue.contains s with
      | false => rfl
      | true =>
        simp only [Bool.not_true, Bool.false_eq_true, if_false, if_true]
        rw [p_leave hx q2 q1 (by omega)]
        rfl
    · have hh : hereB l t k = false := by
        rw [← Bool.not_eq_true, hereB_iff]
        rintro ⟨y, hy, e⟩
        rw [hx] at hy; cases hy; exact hn e
      rw [hh]
      simp [onIdx, hn]
def OkS (q : List Int) : Prop := (∀ n ∈ q, sesB n = true) ∧ q.Nodup
theorem qB_iff (q : List Int) : ∀ (r : List Int) (k : Nat), q.drop k = r → (qB q r k = true ↔ (∀ n ∈ r, sesB n = true) ∧ (∀ n ∈ r, n ∉ q.take k) ∧ r.Nodup)
  | [], k, _ => by simp [qB]
  | n :: r, k, h => by
    have hn : q.take (k + 1) = q.take k ++ [n] := by
      rw [List.take_add_one]
      congr 1
      have : q[k]? = some n := by
        have := congrArg List.head? h
        rwa [List.head?_drop] at this
      rw [this]; rfl
    rw [qB, Bool.and_eq_true, Bool.and_eq_true, qB_iff q r (k + 1) (drop_next h), hn]
    simp only [Bool.not_eq_true', List.mem_append, List.mem_singleton, List.mem_cons, List.nodup_cons, not_or]
    have hc : (q.take k).contains n = false ↔ n ∉ q.take k := by
      rw [← Bool.not_eq_true, List.contains_iff_mem]
    rw [hc]
    constructor
    · rintro ⟨⟨h1, h2⟩, h3, h4, h5⟩
      refine ⟨?_, ?_, fun hm => (h4 n hm).2.1 rfl, h5⟩
      · rintro m (rfl | hm)
        · exact h1
        · exact h3 m hm
      · rintro m (rfl | hm)
        · exact h2
        · exact (h4 m hm).1
    · rintro ⟨h1, h2, h3, h4⟩
      refine ⟨⟨h1 n (.inl rfl), h2 n (.inl rfl)⟩, fun m hm => h1 m (.inr hm), fun m hm => ⟨h2 m (.inr hm), fun e => h3 (e ▸ hm), by simp⟩, h4⟩
theorem sesB_iff {n : Int} : sesB n = true ↔ n = 0 ∨ n = 1 ∨ n = 2 := by unfold sesB; simp; omega
theorem OkS.len : ∀ {q : List Int}, OkS q → q.length ≤ 3 := by
  intro q h
  have hc : ∀ l : List Int, (∀ n ∈ l, sesB n = true) → l.length = l.count 0 + l.count 1 + l.count 2 := by
    intro l
    induction l with
    | nil => intro _; rfl
    | cons a l ih =>
      intro hl
      have h1 := ih (fun n hn => hl n (by simp [hn]))
      have h2 := sesB_iff.1 (hl a (by simp))
      simp only [List.length_cons, List.count_cons]
      rcases h2 with rfl | rfl | rfl <;> simp <;> omega
  have h1 := hc q h.1
  have h2 := List.nodup_iff_count.1 h.2
  have := h2 0
  have := h2 1
  have := h2 2
  omega
theorem lkB_iff {x : GLock} : lkB x = true ↔ nameOK x.Name = true ∧ x.Queue ≠ [] ∧ OkS x.Queue := by
  have hl : x.Queue ≠ [] ↔ 1 ≤ x.Queue.length := by
    cases x.Queue with
    | nil => simp
    | cons a q => simp
  simp only [lkB, Bool.and_eq_true, decide_eq_true_eq, qB_iff x.Queue x.Queue 0 (by simp), List.take_zero, hl]
  constructor
  · rintro ⟨⟨h1, h2⟩, h3, _, h4⟩
    exact ⟨h1, by omega, h3, h4⟩
  · rintro ⟨h1, h2, h3⟩
    have := h3.len
    exact ⟨⟨h1, by omega, by omega⟩, h3.1, by simp, h3.2⟩
theorem locksB_iff {l : List GLock} : locksB l = true ↔ RisL l ∧ (∀ x ∈ l, lkB x = true) ∧ l.length ≤ 6 := by
  constructor
  · intro h
    exact ⟨(locks_sm h).1, (locksB_all h).1, (locks_sm h).2.1⟩
  · rintro ⟨h1, h2, h3⟩
    simp only [locksB, Bool.and_eq_true, decide_eq_true_eq]
    exact ⟨ris_lksB h1 h2 (by intro y hy; cases hy), by omega⟩
theorem OkS.keep {q : List Int} (s : Int) (h : OkS q) : OkS (keepI s q) := ⟨fun n hn => h.1 n (List.mem_filter.1 hn).1, h.2.sublist List.filter_sublist⟩
theorem keepI_mem {s n : Int} {q : List Int} : n ∈ keepI s q ↔ n ∈ q ∧ n ≠ s := by simp [keepI]
theorem OkS.push {q : List Int} {s : Int} (h : OkS q) (hs : sesB s = true) (hn : q.contains s = false) : OkS (q ++ [s]) := by
  have hm : s ∉ q := by rw [← List.contains_iff_mem, hn]; simp
  refine ⟨?_, ?_⟩
  · intro n hn
    rcases List.mem_append.1 hn with hn | hn
    · exact h.1 n hn
    · simp only [List.mem_singleton] at hn; subst hn; exact hs
  · rw [List.nodup_append]
    refine ⟨h.2, by simp, ?_⟩
    rintro a ha b hb rfl
    simp only [List.mem_singleton] at hb
    subst hb
    exact hm ha
theorem OkS.head {q : List Int} {s : Int} (h : OkS q) (hs : sesB s = true) : OkS ([s] ++ keepI s q) := by
  refine ⟨?_, ?_⟩
  · intro n hn
    rcases List.mem_append.1 hn with hn | hn
    · simp only [List.mem_singleton] at hn; subst hn; exact hs
    · exact (h.keep s).1 n hn
  · simp only [List.singleton_append, List.nodup_cons]
    exact ⟨fun hm => (keepI_mem.1 hm).2 rfl, (h.keep s).2⟩
/-- the names that are drawn -/
def N3 : List Str := [[108, 111, 99, 107], [111, 116, 104, 101, 114], [116, 104, 105, 114, 100]]
theorem N3_ok : ∀ t ∈ N3, nameOK t = true ∧ t.length ≤ 40 := by decide
structure GoodL (l : List GLock) : Prop where
  ris : RisL l
  lk : ∀ x ∈ l, lkB x = true
  nm : ∀ x ∈ l, x.Name ∈ N3
theorem ris_names {l : List GLock} : RisL l ↔ (l.map GLock.Name).Pairwise fun a b => Lib.compareBytes a b < 0 := by unfold RisL; rw [List.pairwise_map]
theorem ris_nodup {l : List GLock} (h : RisL l) : (l.map GLock.Name).Nodup := by
  refine (ris_names.1 h).imp ?_
  intro a b hab e
  subst e
  rw [(cmpB_zero a a).2 rfl] at hab
  omega
theorem len3 {l : List GLock} (h : RisL l) (hn : ∀ x ∈ l, x.Name ∈ N3) : l.length ≤ 3 := by
  have hc : ∀ m : List Str, (∀ n ∈ m, n ∈ N3) → m.length = m.count [108, 111, 99, 107] + m.count [111, 116, 104, 101, 114] + m.count [116, 104, 105, 114, 100] := by
    intro m
    induction m with
    | nil => intro _; rfl
    | cons a m ih =>
      intro hm
      have h1 := ih (fun n hn => hm n (by simp [hn]))
      have h2 := hm a (by simp)
      simp only [N3, List.mem_cons, List.not_mem_nil, or_false] at h2
      simp only [List.length_cons, List.count_cons]
      rcases h2 with rfl | rfl | rfl <;> simp <;> omega
  have h1 := hc (l.map GLock.Name) (by
    intro n hn'
    obtain ⟨x, hx, rfl⟩ := List.mem_map.1 hn'
    exact hn x hx)
  have h2 := List.nodup_iff_count.1 (ris_nodup h)
  have := h2 [108, 111, 99, 107]
  have := h2 [111, 116, 104, 101, 114]
  have := h2 [116, 104, 105, 114, 100]
  rw [List.length_map] at h1
  omega
theorem GoodL.nil : GoodL [] := ⟨List.Pairwise.nil, by simp, by simp⟩
theorem GoodL.len {l : List GLock} (h : GoodL l) : l.length ≤ 3 := len3 h.ris h.nm
theorem GoodL.ok {l : List GLock} (h : GoodL l) : locksB l = true := locksB_iff.2 ⟨h.ris, h.lk, by have := h.len; omega⟩
theorem GoodL.code {l : List GLock} {s : Int} {t : Str} (h : GoodL l) (hs : sesB s = true) (ht : nameOK t = true) : lcodeI l s t = 0 := by
  have := h.len
  have h2 := nameOK_len ht
  unfold lcodeI
  rw [if_neg (by simp; omega), h.ok, if_neg (by simp), hs, ht]
  rfl
theorem locks_code {l : List GLock} {s : Int} {t : Str} (h : locksB l = true) (hs : sesB s = true) (ht : nameOK t = true) : lcodeI l s t = 0 := by
  have := (locksB_all h).2
  have h2 := nameOK_len ht
  unfold lcodeI
  rw [if_neg (by simp; omega), h, if_neg (by simp), hs, ht]
  rfl
theorem GoodL.sub {l m : List GLock} (h : GoodL l) (hs : List.Sublist m l) : GoodL m := ⟨h.ris.sublist hs, fun x hx => h.lk x (hs.subset hx), fun x hx => h.nm x (hs.subset hx)⟩
/-- locks one of which may be without sessions yet -/
structure RoomD (R : List GLock) (j : Nat) (x : GLock) (t : Str) : Prop where
  ris : RisL R
  nm : ∀ y ∈ R, y.Name ∈ N3
  at_ : R[j]? = some x
  name : x.Name = t
  q : OkS x.Queue
  lk : ∀ i y, i ≠ j → R[i]? = some y → lkB y = true
theorem RoomD.set {R : List GLock} {j : Nat} {x : GLock} {t : Str} (h : RoomD R j x t) {q : List Int} (hq : OkS q) (hn : q ≠ []) : GoodL (R.set j ⟨x.Name, q⟩) := by
  obtain ⟨hj, hx⟩ := List.getElem?_eq_some_iff.1 h.at_
  have hnm : (R.set j ⟨x.Name, q⟩).map GLock.Name = R.map GLock.Name := by
    rw [List.map_set]
    apply List.ext_getElem?
    intro i
    rw [List.getElem?_set]
    split
    · rename_i e
      subst e
      rw [if_pos (by simpa using hj), List.getElem?_map, h.at_]
      rfl
    · rfl
  refine ⟨ris_names.2 (by rw [hnm]; exact ris_names.1 h.ris), ?_, ?_⟩
  · intro y hy
    obtain ⟨i, hi⟩ := List.mem_iff_getElem?.1 hy
    rw [List.getElem?_set] at hi
    split at hi
    · have hy' : y = ⟨x.Name, q⟩ := by
        first
        | (cases hi; rfl)
        | (split at hi
           · cases hi; rfl
           · cases hi)
      subst hy'
      have := h.nm x (List.mem_of_getElem? h.at_)
      exact lkB_iff.2 ⟨(N3_ok _ this).1, hn, hq⟩
    · rename_i hne
      exact h.lk i y (fun e => hne e.symm) hi
  · intro y hy
    have : y.Name ∈ R.map GLock.Name := by rw [← hnm]; exact List.mem_map_of_mem hy
    obtain ⟨z, hz, e⟩ := List.mem_map.1 this
    rw [← e]
    exact h.nm z hz
theorem good_room {l : List GLock} {t : Str} {k : Nat} (h : GoodL l) (ht : t ∈ N3) (hk : PlcL l t k) : (roomL l t k).2.2 = 0 ∧ ∃ x, RoomD (roomL l t k).1 (roomL l t k).2.1 x t ∧ (x.Queue ≠ [] → (roomL l t k).1 = l) := by
  unfold roomL
  by_cases hh : hereB l t k = true
  · rw [if_pos hh]
    obtain ⟨x, hx, hn⟩ := hereB_iff.1 hh
    have hq := lkB_iff.1 (h.lk x (List.mem_of_getElem? hx))
    exact ⟨rfl, x, ⟨h.ris, h.nm, hx, hn, hq.2.2, fun i y _ hy => h.lk y (List.mem_of_getElem? hy)⟩, fun _ => rfl⟩
  · have hl := h.len
    rw [if_neg hh, if_neg (by omega)]
    have hle := hk.le
    have hlt : (l.take k).length = k := by rw [List.length_take]; omega
    have hris : RisL (l.take k ++ [⟨t, []⟩] ++ l.drop k) := by
      unfold RisL
      rw [List.append_assoc, List.pairwise_append]
      refine ⟨h.ris.sublist (List.take_sublist _ _), ?_, ?_⟩
      · rw [List.singleton_append, List.pairwise_cons]
        refine ⟨?_, h.ris.sublist (List.drop_sublist _ _)⟩
        intro y hy
        obtain ⟨i, hi⟩ := List.mem_iff_getElem?.1 hy
        rw [List.getElem?_drop] at hi
        have h1 := hk.hi (k + i) y (by omega) hi
        rcases Int.lt_or_eq_of_le h1 with h2 | h2
        · rw [cmpB_anti y.Name t]; omega
        · exfalso
          have e := (cmpB_zero y.Name t).1 h2.symm
          have hx : l[k]? = some (l[k]'(by have := (List.getElem?_eq_some_iff.1 hi).1; omega)) := List.getElem?_eq_getElem _
          by_cases hi0 : i = 0
          · subst hi0
            exact hh (hereB_iff.2 ⟨y, by simpa using hi, e⟩)
          · have h3 := h.ris.lt (show k < k + i by omega) hx hi
            have h4 := hk.hi k _ (Nat.le_refl _) hx
            rw [e] at h3
            omega
      · intro a ha b hb
        obtain ⟨i, hi⟩ := List.mem_iff_getElem?.1 ha
        rw [List.getElem?_take] at hi
        split at hi
        · rename_i hik
          have h1 := hk.lo i a hik hi
          simp only [List.singleton_append, List.mem_cons] at hb
          rcases hb with rfl | hb
          · exact h1
          · obtain ⟨i', hi'⟩ := List.mem_iff_getElem?.1 hb
            rw [List.getElem?_drop] at hi'
            exact h.ris.lt (by omega) hi hi'
        · cases hi
    refine ⟨rfl, ⟨t, []⟩, ⟨hris, ?_, ?_, rfl, ⟨by simp, by simp⟩, ?_⟩, fun hne => absurd rfl hne⟩
    · intro y hy
      simp only [List.mem_append, List.mem_singleton] at hy
      rcases hy with (hy | rfl) | hy
      · exact h.nm y (List.mem_of_mem_take hy)
      · exact ht
      · exact h.nm y (List.mem_of_mem_drop hy)
    · simp only
      rw [List.append_assoc, List.getElem?_append_right (by omega), hlt, Nat.sub_self]
      rfl
    · intro i y hne hy
      simp only at hne hy
      have hy' := List.mem_of_getElem? hy
      simp only [List.mem_append, List.mem_singleton] at hy'
      rcases hy' with (hy' | rfl) | hy'
      · exact h.lk y (List.mem_of_mem_take hy')
      · exfalso
        have hj : (l.take k ++ [⟨t, []⟩] ++ l.drop k)[k]? = some (⟨t, []⟩ : GLock) := by
          rw [List.append_assoc, List.getElem?_append_right (by omega), hlt, Nat.sub_self]; rfl
        rcases Nat.lt_or_gt_of_ne hne with g | g
        · have := hris.lt g hy hj
          rw [(cmpB_zero t t).2 rfl] at this; omega
        · have := hris.lt g hj hy
          rw [(cmpB_zero t t).2 rfl] at this; omega
      · exact h.lk y (List.mem_of_mem_drop hy')
theorem GoodL.q {l : List GLock} (h : GoodL l) : ∀ x ∈ l, x.Queue.length ≤ 100 ∧ x.Queue ≠ [] := by
  intro x hx
  obtain ⟨_, h2, h3⟩ := lkB_iff.1 (h.lk x hx)
  have := h3.len
  exact ⟨by omega, h2⟩
/-- to take -/
def tkM (R : List GLock) (j : Nat) (x : GLock) (s : Int) : List GLock × Bool × Int := if x.Queue.contains s = true then (R, false, 8) else (R.set j ⟨x.Name, x.Queue ++ [s]⟩, (((x.Queue ++ [s]).length : Int) == 1), 0)
theorem good_takeS {l : List GLock} {s : Int} {t : Str} {k : Nat} (h : GoodL l) (hs : sesB s = true) (ht : t ∈ N3) (hk : PlcL l t k) : ∃ x, (roomL l t k).2.2 = 0 ∧ RoomD (roomL l t k).1 (roomL l t k).2.1 x t ∧ spec_l12Take l s t = some (tkM (roomL l t k).1 (roomL l t k).2.1 x s) ∧ GoodL (tkM (roomL l t k).1 (roomL l t k).2.1 x s).1 ∧ ((tkM (roomL l t k).1 (roomL l t k).2.1 x s).2.2 = 0 ∨ ((tkM (roomL l t k).1 (roomL l t k).2.1 x s).2.2 = 8 ∧ (tkM (roomL l t k).1 (roomL l t k).2.1 x s).1 = l)) := by
  have hl := h.len
  have hq := h.q
  have er := p_Room (t := t) h.ris hk (by omega) (fun x hx => (hq x hx).1)
  obtain ⟨h0, x, hR, hsame⟩ := good_room h ht hk
  refine ⟨x, h0, hR, ?_⟩
  rw [h0] at er
  obtain ⟨R, hRe⟩ : ∃ R, R = (roomL l t k).1 := ⟨_, rfl⟩
  obtain ⟨j, hje⟩ : ∃ j, j = (roomL l t k).2.1 := ⟨_, rfl⟩
  rw [← hRe, ← hje] at er hR ⊢
  rw [← hRe] at hsame
  obtain ⟨hlt, _⟩ := List.getElem?_eq_some_iff.1 hR.at_
  have hxl := hR.q.len
  have hb : (0 : Int) ≤ (j : Int) ∧ (j : Int) < (R.length : Int) := by omega
  have hx' : R[0 + ((j : Int)).toNat]? = some x := by rw [Nat.zero_add, Int.toNat_natCast]; exact hR.at_
  have hle : (x.Queue ++ [s]).length ≤ 2 ^ 30 := by simp; omega
  unfold tkM spec_l12Take
  rw [er]
  cases hcs : x.Queue.contains s with
  | true =>
    have hne : x.Queue ≠ [] := by intro e; rw [e] at hcs; simp at hcs
    have hRl := hsame hne
    refine ⟨?_, by simp only [if_true]; rw [hRl]; exact h, .inr ⟨rfl, by simp only [if_true]; exact hRl⟩⟩
    simp only [Option.bind_some, decide_true, Bool.not_true, Bool.false_eq_true, if_false, hx', if_pos hb, p_l12InH, hcs, if_true]
  | false =>
    refine ⟨?_, ?_, .inl rfl⟩
    · simp only [Option.bind_some, decide_true, Bool.not_true, Bool.false_eq_true, if_false, hx', if_pos hb, p_l12InH, hcs, if_pos hle]
      rw [Nat.zero_add, Int.toNat_natCast]
    · exact hR.set (hR.q.push hs hcs) (by simp)
/-- to steal -/
def stM (R : List GLock) (j : Nat) (x : GLock) (s : Int) (t : Str) : List GLock × List GTold × Int := (R.set j ⟨x.Name, [s] ++ keepI s x.Queue⟩, toldSt x.Queue s t, 0)
theorem good_stealS {l : List GLock} {s : Int} {t : Str} {k : Nat} (h : GoodL l) (hs : sesB s = true) (ht : t ∈ N3) (hk : PlcL l t k) : ∃ x, (roomL l t k).2.2 = 0 ∧ RoomD (roomL l t k).1 (roomL l t k).2.1 x t ∧ spec_l12Steal l s t = some (stM (roomL l t k).1 (roomL l t k).2.1 x s t) ∧ GoodL (stM (roomL l t k).1 (roomL l t k).2.1 x s t).1 := by
  have hf : (2 : Nat) ^ 40 ≤ FUEL := by unfold FUEL; omega
  have hl := h.len
  have hq := h.q
  have er := p_Room (t := t) h.ris hk (by omega) (fun x hx => (hq x hx).1)
  obtain ⟨h0, x, hR, hsame⟩ := good_room h ht hk
  refine ⟨x, h0, hR, ?_⟩
  rw [h0] at er
  obtain ⟨R, hRe⟩ : ∃ R, R = (roomL l t k).1 := ⟨_, rfl⟩
  obtain ⟨j, hje⟩ : ∃ j, j = (roomL l t k).2.1 := ⟨_, rfl⟩
  rw [← hRe, ← hje] at er hR ⊢
  obtain ⟨hlt, _⟩ := List.getElem?_eq_some_iff.1 hR.at_
  have hxl := hR.q.len
  have hkl := keepI_len s x.Queue
  have hb : (0 : Int) ≤ (j : Int) ∧ (j : Int) < (R.length : Int) := by omega
  have hx' : R[0 + ((j : Int)).toNat]? = some x := by rw [Nat.zero_add, Int.toNat_natCast]; exact hR.at_
  have hst : spec_l12Steal_L1 (R, (j : Int), true) s FUEL 0 [s] = some ([s] ++ keepI s x.Queue) := p_Steal_L1 R j true s x hR.at_ (by omega) FUEL 0 [s] (by omega) (by omega) (by simp; omega)
  constructor
  · unfold spec_l12Steal stM
    rw [er]
    simp only [Option.bind_some, decide_true, Bool.not_true, Bool.false_eq_true, if_false]
    rw [hst]
    simp only [Option.bind_some, if_pos hb, hx']
    rw [p_stealT, Option.bind_some, Nat.zero_add, Int.toNat_natCast]
  · exact hR.set (hR.q.head hs) (by simp)
/-- to take, as a whole -/
theorem good_take {l : List GLock} {s : Int} {t : Str} (h : GoodL l) (hs : sesB s = true) (ht : t ∈ N3) : ∃ r b c, impl_TakeLock l s t = some (r, b, c) ∧ spec_TakeLock l s t = some (r, b, c) ∧ GoodL r ∧ ((c = 0) ∨ (c = 8 ∧ r = l)) := by
  have hl := h.len
  have hq := h.q
  have hn := (N3_ok t ht).1
  have htl := (N3_ok t ht).2
  have hc := h.code hs hn
  have hm : l.length ≤ maxLen := by simp only [maxLen]; omega
  obtain ⟨k, hk, ew⟩ := p_withLock (t := t) h.ris (by omega) (fun x hx => (hq x hx).1)
  obtain ⟨x, h0, hR, e1, gg, cc⟩ := good_takeS h hs ht hk
  rw [h0] at ew
  obtain ⟨R, hRe⟩ : ∃ R, R = (roomL l t k).1 := ⟨_, rfl⟩
  obtain ⟨j, hje⟩ : ∃ j, j = (roomL l t k).2.1 := ⟨_, rfl⟩
  rw [← hRe, ← hje] at ew hR e1 gg cc
  obtain ⟨hlt, _⟩ := List.getElem?_eq_some_iff.1 hR.at_
  have hxl := hR.q.len
  have hb : (0 : Int) ≤ (j : Int) ∧ (j : Int) < (R.length : Int) := by omega
  have hx' : R[0 + ((j : Int)).toNat]? = some x := by rw [Nat.zero_add, Int.toNat_natCast]; exact hR.at_
  have hle : (x.Queue ++ [s]).length ≤ 2 ^ 30 := by simp; omega
  have n1 : decide ((l.length : Int) > 4096) = false := decide_eq_false (by omega)
  have n2 : decide ((t.length : Int) > 65536) = false := decide_eq_false (by omega)
  have z0 : ((0 : Int) != 0) = false := rfl
  refine ⟨(tkM R j x s).1, (tkM R j x s).2.1, (tkM R j x s).2.2, ?_, ?_, gg, cc⟩
  · unfold impl_TakeLock tkM
    rw [p_locksCode l s t hm, hc, ew]
    cases hcs : x.Queue.contains s with
    | true => simp only [Option.bind_some, z0, Bool.false_eq_true, if_false, hx', if_pos hb, p_ContainsH, hcs, if_true]
    | false =>
      simp only [Option.bind_some, z0, Bool.false_eq_true, if_false, hx', if_pos hb, p_ContainsH, hcs, if_pos hle]
      rw [Nat.zero_add, Int.toNat_natCast]
  · unfold spec_TakeLock
    rw [p_l12Ask l s t hm, hc, e1]
    simp only [Option.bind_some, n1, n2, z0, Bool.false_eq_true, if_false]
theorem good_steal {l : List GLock} {s : Int} {t : Str} (h : GoodL l) (hs : sesB s = true) (ht : t ∈ N3) : ∃ (r : List GLock) (b : List GTold) (j : Nat) (q : List Int), impl_StealLock l s t = some (r, b, 0) ∧ spec_StealLock l s t = some (r, b, 0) ∧ GoodL r ∧ r[j]? = some (⟨t, s :: q⟩ : GLock) := by
  have hl := h.len
  have hq := h.q
  have hn := (N3_ok t ht).1
  have htl := (N3_ok t ht).2
  have hc := h.code hs hn
  have hm : l.length ≤ maxLen := by simp only [maxLen]; omega
  obtain ⟨k, hk, ew⟩ := p_withLock (t := t) h.ris (by omega) (fun x hx => (hq x hx).1)
  obtain ⟨x, h0, hR, e1, gg⟩ := good_stealS h hs ht hk
  rw [h0] at ew
  obtain ⟨R, hRe⟩ : ∃ R, R = (roomL l t k).1 := ⟨_, rfl⟩
  obtain ⟨j, hje⟩ : ∃ j, j = (roomL l t k).2.1 := ⟨_, rfl⟩
  rw [← hRe, ← hje] at ew hR e1 gg
  obtain ⟨hlt, _⟩ := List.getElem?_eq_some_iff.1 hR.at_
  have hxl := hR.q.len
  have hkl := keepI_len s x.Queue
  have hb : (0 : Int) ≤ (j : Int) ∧ (j : Int) < (R.length : Int) := by omega
  have hx' : R[0 + ((j : Int)).toNat]? = some x := by rw [Nat.zero_add, Int.toNat_natCast]; exact hR.at_
  have hle : ([s] ++ keepI s x.Queue).length ≤ 2 ^ 30 := by simp; omega
  have n1 : decide ((l.length : Int) > 4096) = false := decide_eq_false (by omega)
  have n2 : decide ((t.length : Int) > 65536) = false := decide_eq_false (by omega)
  have z0 : ((0 : Int) != 0) = false := rfl
  have hcl : slices_Clone_int_int x.Queue = some x.Queue := by unfold slices_Clone_int_int; rw [if_pos (by simp; omega)]; simp
  have hdel := p_DeleteI x.Queue s (by omega)
  refine ⟨(stM R j x s t).1, (stM R j x s t).2.1, j, keepI s x.Queue, ?_, ?_, gg, ?_⟩
  · unfold impl_StealLock stM
    rw [p_locksCode l s t hm, hc, ew]
    simp only [Option.bind_some, z0, Bool.false_eq_true, if_false, if_pos hb, hx']
    rw [p_stealT, Option.bind_some, hcl, Option.bind_some, hdel, Option.bind_some, if_pos hle, Nat.zero_add, Int.toNat_natCast]
  · unfold spec_StealLock
    rw [p_l12Ask l s t hm, hc, e1]
    simp only [Option.bind_some, n1, n2, z0, Bool.false_eq_true, if_false]
    rfl
  · unfold stM
    simp only
    rw [List.getElem?_set, if_pos rfl, if_pos hlt, hR.name]
    rfl
theorem set_self_sub {l : List GLock} {k : Nat} {x : GLock} {s : Int} (h : GoodL l) (hx : l[k]? = some x) : GoodL (leaveM l k s x).1 := by
  unfold leaveM
  simp only
  split
  · refine h.sub ?_
    have e : l = l.take k ++ l.drop k := (List.take_append_drop _ _).symm
    have : List.Sublist (l.take k ++ l.drop (k + 1)) (l.take k ++ l.drop k) := List.Sublist.append (List.Sublist.refl _) (by
      have := List.drop_sublist 1 (l.drop k)
      rwa [List.drop_drop] at this)
    rwa [List.take_append_drop] at this
  · rename_i hne
    have hq := lkB_iff.1 (h.lk x (List.mem_of_getElem? hx))
    have hR : RoomD l k x x.Name := ⟨h.ris, h.nm, hx, rfl, hq.2.2, fun i y _ hy => h.lk y (List.mem_of_getElem? hy)⟩
    exact hR.set (hq.2.2.keep s) hne
/-- to leave -/
theorem good_leave {l : List GLock} {s : Int} {t : Str} (h : GoodL l) : ∃ k, PlcL l t k ∧ spec_l12Leave l s t = some (lvM l s t k) ∧ GoodL (lvM l s t k).1 := by
  have hl := h.len
  obtain ⟨k, _, hk⟩ := p_lockAtV l t h.ris (by omega)
  refine ⟨k, hk, p_sLeave h.ris hk (by omega) h.q, ?_⟩
  unfold lvM
  cases hx : l[k]? with
  | none => exact h
  | some x =>
    simp only
    split
    · exact set_self_sub h hx
    · exact h
/-! draws -/
theorem p_lockName (s : GL00Src) (h : SrcOK s) (ha : s.At + 1 < 2 ^ 50) : ∃ t s', spec_l00Src_lockName s = some (t, s') ∧ t ∈ N3 ∧ Nx s s' 1 := by
  unfold spec_l00Src_lockName
  obtain ⟨t, s', e, h1, h2⟩ := p_srcpick N3 s h ha (by decide) (by decide)
  have e' : spec_l00Src_pick [[108, 111, 99, 107], [111, 116, 104, 101, 114], [116, 104, 105, 114, 100]] s = some (t, s') := e
  rw [e', Option.bind_some]
  exact ⟨t, s', rfl, h1, h2⟩
theorem p_locks_L1 : ∀ (i f : Nat) (s : GL00Src) (out : List GLock), i < f → GoodL out → SrcOK s → s.At + 3 * i < 2 ^ 49 → i ≤ 100 → ∃ a b c r, spec_l00Src_locks_L1 f (i : Int) s.Code s.At s.Seed out = some (a, b, c, r) ∧ GoodL r
  | _, 0, _, _, h, _, _, _, _ => by omega
  | 0, f + 1, s, out, _, hg, _, _, _ => by
    rw [spec_l00Src_locks_L1, if_neg (by simp)]
    exact ⟨_, _, _, _, rfl, hg⟩
  | i + 1, f + 1, s, out, hf, hg, hs, ha, hi => by
    have ew : w64 (((i + 1 : Nat) : Int) - 1) = (i : Int) := by rw [w64_id (by omega)]; omega
    have es : (⟨s.Code, s.At, s.Seed⟩ : GL00Src) = s := by cases s; rfl
    rw [spec_l00Src_locks_L1, if_pos (decide_eq_true (by omega)), ew, es]
    obtain ⟨v, s1, e1, v1, v2, n1⟩ := p_next 4 s hs (by omega) (by omega) (by omega)
    have a1 := n1.hi
    obtain ⟨u, s2, e2, u1, u2, n2⟩ := p_next 3 s1 n1.ok (by omega) (by omega) (by omega)
    have a2 := n2.hi
    obtain ⟨t, s3, e3, ht, n3⟩ := p_lockName s2 n2.ok (by omega)
    have a3 := n3.hi
    have hu : sesB u = true := sesB_iff.2 (by omega)
    rw [e1]
    simp only [Option.bind_some, e2, e3]
    by_cases c0 : v = 0
    · rw [if_pos (by simp [c0])]
      obtain ⟨k, _, el, gl⟩ := good_leave (s := u) (t := t) hg
      rw [el, Option.bind_some]
      exact p_locks_L1 i f s3 _ (by omega) gl n3.ok (by omega) (by omega)
    · rw [if_neg (by simpa using c0)]
      by_cases c1 : v = 1
      · rw [if_pos (by simp [c1])]
        obtain ⟨k, _, hk⟩ := p_lockAtV out t hg.ris (by have := hg.len; omega)
        obtain ⟨x, _, _, el, gl⟩ := good_stealS hg hu ht hk
        rw [el, Option.bind_some]
        exact p_locks_L1 i f s3 _ (by omega) gl n3.ok (by omega) (by omega)
      · rw [if_neg (by simpa using c1)]
        obtain ⟨k, _, hk⟩ := p_lockAtV out t hg.ris (by have := hg.len; omega)
        obtain ⟨x, _, _, el, gl, _⟩ := good_takeS hg hu ht hk
        rw [el, Option.bind_some]
        by_cases c2 : ((tkM (roomL out t k).1 (roomL out t k).2.1 x u).2.2 == 0) = true
        · rw [if_pos c2]
          exact p_locks_L1 i f s3 _ (by omega) gl n3.ok (by omega) (by omega)
        · rw [if_neg c2]
          exact p_locks_L1 i f s3 _ (by omega) hg n3.ok (by omega) (by omega)
theorem p_LocksOf (code : List Int) (hc : ∀ x ∈ code, 0 ≤ x ∧ x < 256) (hl : (code.length : Int) ≤ 1048576) : ∃ l, spec_LocksOf code = some l ∧ GoodL l := by
  have hf : (2 : Nat) ^ 40 ≤ FUEL := by unfold FUEL; omega
  unfold spec_LocksOf
  obtain ⟨s, e1, g1, g2, _⟩ := p_source code hc hl
  rw [e1, Option.bind_some]
  unfold spec_l00Src_locks
  obtain ⟨v, s1, e2, v1, v2, n1⟩ := p_next 10 s g1 (by rw [g2]; decide) (by omega) (by omega)
  have a1 := n1.hi
  obtain ⟨i, rfl⟩ : ∃ i : Nat, v = (i : Int) := ⟨v.toNat, by omega⟩
  obtain ⟨a, b, c, r, e3, gr⟩ := p_locks_L1 i FUEL s1 [] (by omega) GoodL.nil n1.ok (by omega) (by omega)
  rw [e2, Option.bind_some]
  simp only [e3, Option.bind_some]
  exact ⟨r, rfl, gr⟩
/-! who owns -/
theorem p_Owned {l : List GLock} {s : Int} (h : locksB l = true) (hs : sesB s = true) : impl_OwnedBy l s = some (ownedL s l, 0) := by
  have hl := (locksB_all h).2
  have hm : l.length ≤ maxLen := by simp only [maxLen]; omega
  have hc := locks_code h hs (t := [120]) (by decide)
  unfold impl_OwnedBy
  rw [p_sessionCode l s hm, Option.bind_some, hc, if_neg (by simp), p_iOwned_L1 s l [] (locksB_all h).1 (by simp; omega)]
  simp
theorem p_sameInts_L1 (b : List Int) : ∀ (xs : List Int) (i : Nat), b.drop i = xs → laws_sameInts_L1 b xs i = some (.go ())
  | [], i, _ => by rw [laws_sameInts_L1]
  | x :: xs, i, h => by rw [laws_sameInts_L1, idx_drop h, Option.bind_some, if_neg (by simp), p_sameInts_L1 b xs (i + 1) (drop_next h)]
theorem p_sameInts (a : List Int) : laws_sameInts a a = some true := by
  unfold laws_sameInts
  rw [if_neg (by simp), p_sameInts_L1 a a 0 (by simp)]
  rfl
theorem p_sameLocks_L1 (b : List GLock) : ∀ (xs : List GLock) (i : Nat), b.drop i = xs → laws_sameLocks_L1 b xs i = some (.go ())
  | [], i, _ => by rw [laws_sameLocks_L1]
  | x :: xs, i, h => by
    rw [laws_sameLocks_L1, idx_drop h]
    simp only [Option.bind_some, p_sameInts, beq_self_eq_true, Bool.not_true, Bool.false_eq_true, if_false]
    exact p_sameLocks_L1 b xs (i + 1) (drop_next h)
theorem p_sameLocks (a : List GLock) : laws_sameLocks a a = some true := by
  unfold laws_sameLocks
  rw [if_neg (by simp), p_sameLocks_L1 a a 0 (by simp)]
  rfl
theorem p_sameTold_L1 (b : List GTold) : ∀ (xs : List GTold) (i : Nat), b.drop i = xs → laws_sameTold_L1 b xs i = some (.go ())
  | [], i, _ => by rw [laws_sameTold_L1]
  | x :: xs, i, h => by
    rw [laws_sameTold_L1, idx_drop h]
    simp only [Option.bind_some, beq_self_eq_true, Bool.and_self, Bool.and_true, Bool.not_true, Bool.false_eq_true, if_false]
    exact p_sameTold_L1 b xs (i + 1) (drop_next h)
theorem p_sameTold (a : List GTold) : laws_sameTold a a = some true := by
  unfold laws_sameTold
  rw [if_neg (by simp), p_sameTold_L1 a a 0 (by simp)]
  rfl
theorem p_hasN_L1 (t : Str) : ∀ (l : List Str) (b : Bool), laws_FnLocks_L1 t l b = some (b || l.contains t)
  | [], b => by rw [laws_FnLocks_L1]; simp
  | x :: l, b => by
    rw [laws_FnLocks_L1]
    cases b with
    | true => rw [if_pos rfl, p_hasN_L1 t l true]; simp
    | false =>
      rw [if_neg (by simp), p_hasN_L1 t l, List.contains_cons]
      have : (x == t) = (t == x) := by rw [Bool.eq_iff_iff, beq_iff_eq, beq_iff_eq]; exact ⟨Eq.symm, Eq.symm⟩
      rw [this, Bool.false_or]
theorem p_goneN_L2 (t : Str) : ∀ (l : List Str), t ∉ l → laws_FnLocks_L2 t l = some (.go ())
  | [], _ => by rw [laws_FnLocks_L2]
  | x :: l, h => by
    simp only [List.mem_cons, not_or] at h
    rw [laws_FnLocks_L2, if_neg (by rw [beq_iff_eq]; exact fun e => h.1 e.symm), p_goneN_L2 t l h.2]
theorem owned_mem {s : Int} : ∀ {l : List GLock} {t : Str}, t ∈ ownedL s l ↔ ∃ x ∈ l, x.Name = t ∧ x.Queue.headD 0 = s
  | [], t => by simp [ownedL]
  | x :: l, t => by
    simp only [ownedL]
    have ih := owned_mem (s := s) (l := l) (t := t)
    by_cases h : x.Queue.headD 0 = s
    · rw [if_pos (by rw [beq_iff_eq]; exact h), List.mem_cons, ih]
      constructor
      · rintro (rfl | ⟨y, h1, h2⟩)
        · exact ⟨x, by simp, rfl, h⟩
        · exact ⟨y, by simp [h1], h2⟩
      · rintro ⟨y, hy, h1, h2⟩
        rcases List.mem_cons.1 hy with rfl | hy
        · exact .inl h1.symm
        · exact .inr ⟨y, hy, h1, h2⟩
    · rw [if_neg (by rw [beq_iff_eq]; exact h), ih]
      constructor
      · rintro ⟨y, h1, h2⟩
        exact ⟨y, by simp [h1], h2⟩
      · rintro ⟨y, hy, h1, h2⟩
        rcases List.mem_cons.1 hy with rfl | hy
        · exact absurd h2 h
        · exact ⟨y, hy, h1, h2⟩
theorem ris_unique {l : List GLock} (h : RisL l) {x y : GLock} (hx : x ∈ l) (hy : y ∈ l) (e : x.Name = y.Name) : x = y := by
  obtain ⟨i, hi⟩ := List.mem_iff_getElem?.1 hx
  obtain ⟨j, hj⟩ := List.mem_iff_getElem?.1 hy
  rcases Nat.lt_trichotomy i j with g | g | g
  · have := h.lt g hi hj
    rw [e, (cmpB_zero _ _).2 rfl] at this; omega
  · subst g; rw [hi] at hj; exact Option.some.inj hj
  · have := h.lt g hj hi
    rw [e, (cmpB_zero _ _).2 rfl] at this; omega
/-- who owned leaves -/
theorem leave_owner {r : List GLock} {s : Int} {t : Str} {j k : Nat} {q : List Int} (h : GoodL r) (hx : r[j]? = some (⟨t, s :: q⟩ : GLock)) (hk : PlcL r t k) : (lvM r s t k).2.2 = 0 ∧ t ∉ ownedL s (lvM r s t k).1 := by
  have hjk : j = k := by
    rcases Nat.lt_trichotomy j k with g | g | g
    · have := hk.lo j _ g hx
      rw [(cmpB_zero _ _).2 rfl] at this; omega
    · exact g
    · have hkl : r[k]? = some (r[k]'(by have := (List.getElem?_eq_some_iff.1 hx).1; omega)) := List.getElem?_eq_getElem _
      have h1 := h.ris.lt g hkl hx
      have h2 := hk.hi k _ (Nat.le_refl _) hkl
      simp only at h1
      omega
  subst hjk
  obtain ⟨hlt, _⟩ := List.getElem?_eq_some_iff.1 hx
  have hg := set_self_sub (s := s) h hx
  unfold lvM
  rw [hx]
  simp only [true_and]
  rw [if_pos (by simp)]
  refine ⟨rfl, ?_⟩
  intro hm
  obtain ⟨y, hy, hn, hh⟩ := owned_mem.1 hm
  simp only at hy
  have hqs := (lkB_iff.1 (h.lk _ (List.mem_of_getElem? hx))).2.2
  by_cases hke : keepI s (s :: q) = []
  · have e1 : (leaveM r j s ⟨t, s :: q⟩).1 = r.take j ++ r.drop (j + 1) := by unfold leaveM; simp only; rw [if_pos hke]
    rw [e1] at hy
    simp only [List.mem_append] at hy
    rcases hy with hy | hy
    · obtain ⟨i, hi⟩ := List.mem_iff_getElem?.1 hy
      rw [List.getElem?_take] at hi
      split at hi
      · rename_i hij
        have := h.ris.lt hij hi hx
        simp only at this
        rw [hn, (cmpB_zero _ _).2 rfl] at this; omega
      · cases hi
    · obtain ⟨i, hi⟩ := List.mem_iff_getElem?.1 hy
      rw [List.getElem?_drop] at hi
      have := h.ris.lt (show j < j + 1 + i by omega) hx hi
      simp only at this
      rw [hn, (cmpB_zero _ _).2 rfl] at this; omega
  · have e1 : (leaveM r j s ⟨t, s :: q⟩).1 = r.set j ⟨t, keepI s (s :: q)⟩ := by unfold leaveM; simp only; rw [if_neg hke]
    rw [e1] at hy hg
    have hme : (⟨t, keepI s (s :: q)⟩ : GLock) ∈ r.set j ⟨t, keepI s (s :: q)⟩ := List.mem_iff_getElem?.2 ⟨j, by rw [List.getElem?_set, if_pos rfl, if_pos hlt]⟩
    have := ris_unique hg.ris hy hme hn
    rw [this] at hh
    simp only at hh
    have hhm : (keepI s (s :: q)).headD 0 ∈ keepI s (s :: q) := by
      cases hkk : keepI s (s :: q) with
      | nil => exact absurd hkk hke
      | cons a z => simp
    rw [hh] at hhm
    exact (keepI_mem.1 hhm).2 rfl
theorem p_LockName (code : List Int) (hc : ∀ x ∈ code, 0 ≤ x ∧ x < 256) (hl : (code.length : Int) ≤ 1048576) : ∃ t, spec_LockNameOf code = some t ∧ t ∈ N3 := by
  unfold spec_LockNameOf
  obtain ⟨s, e1, g1, g2, _⟩ := p_source code hc hl
  have e1' : spec_l00Source_h1 code = some s := by rw [source_h1]; exact e1
  obtain ⟨t, s', e, h1, _⟩ := p_lockName s g1 (by rw [g2]; decide)
  have e' : spec_l00Src_lockName_h1 s = some (t, s') := by
    unfold spec_l00Src_lockName_h1
    unfold spec_l00Src_lockName at e
    rw [pick_h1]; exact e
  rw [e1', Option.bind_some, e', Option.bind_some]
  exact ⟨t, rfl, h1⟩
theorem law_FnLocks (code more : List Int) (h1 : okL (okI .u8) code) (h2 : okL (okI .u8) more) : laws_FnLocks code more = some true := by
  unfold laws_FnLocks
  by_cases c1 : (code.length : Int) > 1048576
  · rw [if_pos (by simpa using c1)]; rfl
  by_cases c2 : (more.length : Int) > 1048576
  · rw [if_neg (by simpa using c1), Option.bind_some, if_pos (by simpa using c2)]
  rw [if_neg (by simpa using c1), Option.bind_some, if_neg (by simpa using c2)]
  have b1 : ∀ z ∈ code, 0 ≤ z ∧ z < 256 := fun z hz => by have := okI_u8.1 (h1.2 z hz); omega
  have b2 : ∀ z ∈ more, 0 ≤ z ∧ z < 256 := fun z hz => by have := okI_u8.1 (h2.2 z hz); omega
  obtain ⟨l, el, gl⟩ := p_LocksOf code b1 (by omega)
  obtain ⟨t, et, ht⟩ := p_LockName more b2 (by omega)
  obtain ⟨v, ev, v1, v2⟩ := p_at more 3 b2 (by omega) (by omega) 0 (by omega)
  have hv : sesB v = true := sesB_iff.2 (by omega)
  have hn := (N3_ok t ht).1
  obtain ⟨r1, q1, d1, a1, a2, a3, a4⟩ := good_take gl hv ht
  obtain ⟨r2, q2, j, qq, s1, s2, s3, s4⟩ := good_steal gl hv ht
  have hm2 : r2.length ≤ maxLen := by have := s3.len; simp only [maxLen]; omega
  obtain ⟨k, hk, l1⟩ := p_iLeave s3.ris (by have := s3.len; omega) s3.q (s3.code hv hn) hm2
  have l2 := p_sLeave (s := v) s3.ris hk (by have := s3.len; omega) s3.q
  obtain ⟨o1, o2⟩ := leave_owner s3 s4 hk
  have g3 : GoodL (lvM r2 v t k).1 := by
    unfold lvM
    cases hx : r2[k]? with
    | none => exact s3
    | some x =>
      simp only
      split
      · exact set_self_sub s3 hx
      · exact s3
  have l3 : spec_LeaveLock r2 v t = some (lvM r2 v t k) := by
    have htl := (N3_ok t ht).2
    have hl := s3.len
    have n1 : decide ((r2.length : Int) > 4096) = false := decide_eq_false (by omega)
    have n2 : decide ((t.length : Int) > 65536) = false := decide_eq_false (by omega)
    unfold spec_LeaveLock
    rw [p_l12Ask r2 v t hm2, s3.code hv hn, l2]
    simp only [Option.bind_some, n1, n2, Bool.false_eq_true, if_false]
    rfl
  have w1 := p_Owned s3.ok hv
  have w2 := p_Owned g3.ok hv
  have ok1 : impl_LocksOK r1 = some true := by rw [p_iLocks _ (by have := a3.len; simp only [maxLen]; omega), a3.ok]
  have ok2 : impl_LocksOK r2 = some true := by rw [p_iLocks _ hm2, s3.ok]
  have ok3 : impl_LocksOK (lvM r2 v t k).1 = some true := by rw [p_iLocks _ (by have := g3.len; simp only [maxLen]; omega), g3.ok]
  have has : (ownedL v r2).contains t = true := by
    rw [List.contains_iff_mem]
    exact owned_mem.2 ⟨_, List.mem_of_getElem? s4, rfl, rfl⟩
  have f1 := p_hasN_L1 t (ownedL v r2) false
  rw [has] at f1
  have f2 := p_goneN_L2 t (ownedL v (lvM r2 v t k).1) o2
  rw [el, Option.bind_some, et, Option.bind_some, ev, Option.bind_some]
  simp only [Option.bind_some, a1, a2, s1, s2, l1, l3, p_sameLocks, p_sameTold, ok1, ok2, ok3, w1, w2, f1, f2, o1, bne_self_eq_false, beq_self_eq_true, Bool.not_true, Bool.false_eq_true, if_false, cond_false, cond_true, Bool.false_or, Bool.or_true, if_true]
  rcases a4 with rfl | ⟨rfl, rfl⟩
  · simp
  · simp [p_sameLocks]
end Go.R
