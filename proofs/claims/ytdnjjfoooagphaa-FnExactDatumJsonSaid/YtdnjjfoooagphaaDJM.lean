/- Marks: what the laws' own marking functions leave, and that it is read back. -/
import Derived.Test.YtdnjjfoooagphaaDJ2
import Derived.Test.YtdnjjfoooagphaaP0
set_option linter.all false
namespace Go.R
open Go
set_option linter.all false
set_option maxHeartbeats 1000000
theorem fuel_lt {n : Nat} (h : n < 2 ^ 90) : n < FUEL := by unfold FUEL; omega
theorem p_markText_L1 : ∀ (m f : Nat) (k : Int) (out : Str), 0 ≤ k → k < 2 ^ m → m < f → out.length + m + 1 ≤ maxLen → k < 2 ^ 62 → ∃ t, laws_markText_L1 f k out = some t ∧ t.length ≤ out.length + m
  | _, 0, _, _, _, _, h, _, _ => by omega
  | 0, f + 1, k, out, h0, h1, _, _, _ => by
    have : k = 0 := by simp at h1; omega
    subst this
    rw [laws_markText_L1, if_neg (by simp)]
    exact ⟨out, rfl, by omega⟩
  | m + 1, f + 1, k, out, h0, h1, h2, h3, h4 => by
    rw [laws_markText_L1]
    by_cases hk : k > 0
    · rw [if_pos (by simpa using hk)]
      have hb : ∀ n, (bstr [n]).length = 1 := fun _ => rfl
      rw [if_pos (by rw [hb]; omega)]
      have hd : k.tdiv 10 = k / 10 := Int.tdiv_eq_ediv_of_nonneg h0
      have hw : w64 (k.tdiv 10) = k / 10 := by rw [hd]; exact w64_id (by omega)
      rw [hw]
      have hp : (2 : Int) ^ (m + 1) = 2 * 2 ^ m := by rw [Int.pow_succ]; omega
      obtain ⟨t, e, hl⟩ := p_markText_L1 m f (k / 10) (bstr [IntKind.u8.wrap (w64 (48 + (k.tmod 10)))] ++ out) (by omega) (by omega) (by omega) (by rw [List.length_append, hb]; omega) (by omega)
      refine ⟨t, e, ?_⟩
      rw [List.length_append, hb] at hl
      omega
    · rw [if_neg (by simpa using hk)]
      exact ⟨out, rfl, by omega⟩
def tx (k : Int) : Str := (laws_markText k).getD []
theorem p_markText {k : Int} (h0 : 1 ≤ k) (h1 : k < 2 ^ 62) : laws_markText k = some (tx k) := by
  have : ∃ t, laws_markText k = some t := by
    unfold laws_markText
    rw [if_neg (by simp; omega)]
    obtain ⟨t, e, hl⟩ := p_markText_L1 62 FUEL k [] (by omega) h1 (fuel_lt (by omega)) (by simp [maxLen]) h1
    rw [e, Option.bind_some, if_pos (by simp only [List.length_cons, List.length_nil] at hl ⊢; simp only [maxLen]; omega)]
    exact ⟨_, rfl⟩
  obtain ⟨t, e⟩ := this
  unfold tx
  rw [e]
  rfl
def cntAtomS : List GAtom → Nat
  | [] => 0
  | x :: xs => (1 + 1 + 1) + cntAtomS xs
def mkAtomS : List GAtom → Int → List GAtom
  | [], _ => []
  | x :: xs, k => ⟨(k), (k + 1), (tx (k + 1 + 1))⟩ :: mkAtomS xs (k + 1 + 1 + 1)
def fitAtomS (l : List GAtom) : Prop := l.length < 2 ^ 61
theorem p_markAtomS_L1 : ∀ (n f : Nat) (l : List GAtom) (i : Nat) (k : Int), i + n = l.length → n < f → 1 ≤ k → fitAtomS l → k + (cntAtomS (l.drop i) : Nat) < 2 ^ 62 → laws_markAtomS_L1 f k i l = some (k + (cntAtomS (l.drop i) : Nat), l.take i ++ mkAtomS (l.drop i) k)
  | _, 0, _, _, _, _, h, _, _, _ => by omega
  | 0, f + 1, l, i, k, h, _, _, _, _ => by
    rw [laws_markAtomS_L1, if_neg (by simp; omega), List.drop_of_length_le (by omega), List.take_of_length_le (by omega)]
    simp [cntAtomS, mkAtomS]
  | n + 1, f + 1, l, i, k, h, hf, hk, hfit, hc => by
    have hi : i < l.length := by omega
    have hd : l.drop i = l[i] :: l.drop (i + 1) := List.drop_eq_getElem_cons hi
    rw [hd] at hc ⊢
    simp only [cntAtomS] at hc ⊢
    have hlen : l.length < 2 ^ 61 := hfit
    have w0 : w64 (k + 1) = k + 1 := w64_id (by omega)
    have w1 : w64 (k + 1 + 1) = k + 1 + 1 := w64_id (by omega)
    have t2 := p_markText (k := k + 1 + 1) (by omega) (by omega)
    have w2 : w64 (k + 1 + 1 + 1) = k + 1 + 1 + 1 := w64_id (by omega)
    have wi : w64 ((i : Int) + 1) = ((i + 1 : Nat) : Int) := by rw [w64_id (by omega)]; rfl
    have hg : l[i]? = some l[i] := List.getElem?_eq_getElem hi
    have hix : 0 + (i : Int).toNat = i := by simp
    have hlt : ((i : Int) < (l.length : Int)) = True := eq_true (by omega)
    have hge : (0 ≤ (i : Int)) = True := eq_true (by omega)
    have hds : ∀ y, (l.set i y).drop (i + 1) = l.drop (i + 1) := fun y => List.drop_set_of_lt (by omega)
    have hfit2 : fitAtomS (l.set i (⟨(k), (k + 1), (tx (k + 1 + 1))⟩)) := by
      unfold fitAtomS at hfit ⊢
      rw [List.length_set]; exact hfit
    have ih := p_markAtomS_L1 n f (l.set i (⟨(k), (k + 1), (tx (k + 1 + 1))⟩)) (i + 1) (k + 1 + 1 + 1) (by rw [List.length_set]; omega) (by omega) (by omega) hfit2 (by rw [hds]; omega)
    rw [hds] at ih
    rw [laws_markAtomS_L1]
    simp only [hlt, hge, hix, hg, decide_true, and_self, if_true, Option.bind_some, List.set_set, wi, w0, w1, t2, w2]
    rw [ih, set_fill _ _ _ _ hi, mkAtomS]
    refine congrArg some (Prod.ext ?_ rfl)
    simp only
    omega
theorem p_markAtomS (l : List GAtom) (k : Int) (hf : fitAtomS l) (h0 : 1 ≤ k) (h1 : k + (cntAtomS l : Nat) < 2 ^ 62) : laws_markAtomS l k = some (k + (cntAtomS l : Nat), mkAtomS l k) := by
  unfold laws_markAtomS
  have hl : l.length < 2 ^ 61 := hf
  rw [show (0 : Int) = ((0 : Nat) : Int) from rfl, p_markAtomS_L1 l.length FUEL l 0 k (by omega) (fuel_lt (by omega)) h0 hf (by simpa using h1)]
  simp
theorem len_mkAtomS : ∀ (l : List GAtom) (k : Int), (mkAtomS l k).length = l.length
  | [], _ => rfl
  | x :: l, k => by simp only [mkAtomS, List.length_cons, len_mkAtomS l]
theorem fit_mkAtomS (l : List GAtom) (k : Int) (h : fitAtomS l) : fitAtomS (mkAtomS l k) := by
  unfold fitAtomS at h ⊢
  rw [len_mkAtomS]; exact h

def cntStringS : List Str → Nat
  | [] => 0
  | x :: xs => (1) + cntStringS xs
def mkStringS : List Str → Int → List Str
  | [], _ => []
  | x :: xs, k => (tx (k)) :: mkStringS xs (k + 1)
def fitStringS (l : List Str) : Prop := l.length < 2 ^ 61
theorem p_markStringS_L1 : ∀ (n f : Nat) (l : List Str) (i : Nat) (k : Int), i + n = l.length → n < f → 1 ≤ k → fitStringS l → k + (cntStringS (l.drop i) : Nat) < 2 ^ 62 → laws_markStringS_L1 f k i l = some (k + (cntStringS (l.drop i) : Nat), l.take i ++ mkStringS (l.drop i) k)
  | _, 0, _, _, _, _, h, _, _, _ => by omega
  | 0, f + 1, l, i, k, h, _, _, _, _ => by
    rw [laws_markStringS_L1, if_neg (by simp; omega), List.drop_of_length_le (by omega), List.take_of_length_le (by omega)]
    simp [cntStringS, mkStringS]
  | n + 1, f + 1, l, i, k, h, hf, hk, hfit, hc => by
    have hi : i < l.length := by omega
    have hd : l.drop i = l[i] :: l.drop (i + 1) := List.drop_eq_getElem_cons hi
    rw [hd] at hc ⊢
    simp only [cntStringS] at hc ⊢
    have hlen : l.length < 2 ^ 61 := hfit
    have t0 := p_markText (k := k) (by omega) (by omega)
    have w0 : w64 (k + 1) = k + 1 := w64_id (by omega)
    have wi : w64 ((i : Int) + 1) = ((i + 1 : Nat) : Int) := by rw [w64_id (by omega)]; rfl
    have hg : l[i]? = some l[i] := List.getElem?_eq_getElem hi
    have hix : 0 + (i : Int).toNat = i := by simp
    have hlt : ((i : Int) < (l.length : Int)) = True := eq_true (by omega)
    have hge : (0 ≤ (i : Int)) = True := eq_true (by omega)
    have hds : ∀ y, (l.set i y).drop (i + 1) = l.drop (i + 1) := fun y => List.drop_set_of_lt (by omega)
    have hfit2 : fitStringS (l.set i ((tx (k)))) := by
      unfold fitStringS at hfit ⊢
      rw [List.length_set]; exact hfit
    have ih := p_markStringS_L1 n f (l.set i ((tx (k)))) (i + 1) (k + 1) (by rw [List.length_set]; omega) (by omega) (by omega) hfit2 (by rw [hds]; omega)
    rw [hds] at ih
    rw [laws_markStringS_L1]
    simp only [hlt, hge, hix, hg, decide_true, and_self, if_true, Option.bind_some, List.set_set, wi, t0, w0]
    rw [ih, set_fill _ _ _ _ hi, mkStringS]
    refine congrArg some (Prod.ext ?_ rfl)
    simp only
    omega
theorem p_markStringS (l : List Str) (k : Int) (hf : fitStringS l) (h0 : 1 ≤ k) (h1 : k + (cntStringS l : Nat) < 2 ^ 62) : laws_markStringS l k = some (k + (cntStringS l : Nat), mkStringS l k) := by
  unfold laws_markStringS
  have hl : l.length < 2 ^ 61 := hf
  rw [show (0 : Int) = ((0 : Nat) : Int) from rfl, p_markStringS_L1 l.length FUEL l 0 k (by omega) (fuel_lt (by omega)) h0 hf (by simpa using h1)]
  simp
theorem len_mkStringS : ∀ (l : List Str) (k : Int), (mkStringS l k).length = l.length
  | [], _ => rfl
  | x :: l, k => by simp only [mkStringS, List.length_cons, len_mkStringS l]
theorem fit_mkStringS (l : List Str) (k : Int) (h : fitStringS l) : fitStringS (mkStringS l k) := by
  unfold fitStringS at h ⊢
  rw [len_mkStringS]; exact h
theorem p_heldStringS_L1 : ∀ (l : List Str) (k : Int), fitStringS l → 1 ≤ k → k + (cntStringS l : Nat) < 2 ^ 62 → laws_heldStringS_L1 (mkStringS l k) k = some (.go (k + (cntStringS l : Nat)))
  | [], k, _, _, _ => by simp [mkStringS, laws_heldStringS_L1, cntStringS]
  | x :: l, k, hfit, h0, hc => by
    simp only [cntStringS] at hc ⊢
    have hfit2 : fitStringS l := by unfold fitStringS at hfit ⊢; simp at hfit; omega
    have t0 := p_markText (k := k) (by omega) (by omega)
    have w0 : w64 (k + 1) = k + 1 := w64_id (by omega)
    have ih := p_heldStringS_L1 l (k + 1) hfit2 (by omega) (by omega)
    rw [mkStringS, laws_heldStringS_L1]
    simp only [t0, w0, Option.bind_some, beq_self_eq_true, bne_self_eq_false, Bool.not_true, Bool.false_eq_true, if_false, decide_false]
    rw [ih]
    refine congrArg (fun z => some (Fl.go z)) ?_
    omega
theorem p_heldStringS (l : List Str) (k : Int) (hf : fitStringS l) (h0 : 1 ≤ k) (h1 : k + (cntStringS l : Nat) < 2 ^ 62) : laws_heldStringS (mkStringS l k) k = some (k + (cntStringS l : Nat)) := by
  unfold laws_heldStringS
  rw [p_heldStringS_L1 l k hf h0 h1]
  rfl

/- JSON values: marks. -/
mutual
def cntJson : GJson → Nat
  | ⟨_, _, _, ks, is⟩ => cntStringS ks + cntJsonS is
def cntJsonS : List GJson → Nat
  | [] => 0
  | x :: xs => (3 + cntJson x) + cntJsonS xs
end
mutual
def mkJson : GJson → Int → GJson
  | ⟨a, b, c, ks, is⟩, k => ⟨a, b, c, mkStringS ks k, mkJsonS is (k + (cntStringS ks : Nat))⟩
def mkJsonS : List GJson → Int → List GJson
  | [], _ => []
  | x :: xs, k => ⟨k, k + 1, tx (k + 1 + 1), (mkJson x (k + 1 + 1 + 1)).Keys, (mkJson x (k + 1 + 1 + 1)).Items⟩ :: mkJsonS xs (k + 1 + 1 + 1 + (cntJson x : Nat))
end
mutual
def fitJson : GJson → Prop
  | ⟨_, _, _, ks, is⟩ => fitStringS ks ∧ is.length < 2 ^ 61 ∧ fallJson is
def fallJson : List GJson → Prop
  | [] => True
  | x :: xs => fitJson x ∧ fallJson xs
end
def fitJsonS (l : List GJson) : Prop := l.length < 2 ^ 61 ∧ fallJson l
theorem cntJson_eq (x : GJson) : cntJson x = cntStringS x.Keys + cntJsonS x.Items := by cases x; simp only [cntJson]
theorem mkJson_eq (x : GJson) (k : Int) : mkJson x k = ⟨x.Kind, x.N, x.T, mkStringS x.Keys k, mkJsonS x.Items (k + (cntStringS x.Keys : Nat))⟩ := by cases x; simp only [mkJson]
theorem fitJson_eq {x : GJson} (h : fitJson x) : fitStringS x.Keys ∧ fitJsonS x.Items := by
  cases x; simp only [fitJson] at h; exact ⟨h.1, h.2.1, h.2.2⟩
theorem mkJsonS_len : ∀ (l : List GJson) (k : Int), (mkJsonS l k).length = l.length
  | [], _ => by simp [mkJsonS]
  | x :: l, k => by simp only [mkJsonS, List.length_cons, mkJsonS_len l]
theorem p_markJsonS_L1 (rec : List GJson → Int → Option (Int × List GJson)) (b : Nat) (hrec : ∀ (l : List GJson) (k : Int), cntJsonS l < b → fitJsonS l → 1 ≤ k → k + (cntJsonS l : Nat) < 2 ^ 62 → rec l k = some (k + (cntJsonS l : Nat), mkJsonS l k)) : ∀ (n f : Nat) (l : List GJson) (i : Nat) (k : Int), i + n = l.length → n < f → 1 ≤ k → l.length < 2 ^ 61 → fallJson (l.drop i) → cntJsonS (l.drop i) < b + 1 → k + (cntJsonS (l.drop i) : Nat) < 2 ^ 62 → laws_markJsonS_B_L1 rec f k i l = some (k + (cntJsonS (l.drop i) : Nat), l.take i ++ mkJsonS (l.drop i) k)
  | _, 0, _, _, _, _, h, _, _, _, _, _ => by omega
  | 0, f + 1, l, i, k, h, _, _, _, _, _, _ => by
    rw [laws_markJsonS_B_L1, if_neg (by simp; omega), List.drop_of_length_le (by omega), List.take_of_length_le (by omega)]
    simp [cntJsonS, mkJsonS]
  | n + 1, f + 1, l, i, k, h, hf, hk, hlen, hfit, hb, hc => by
    have hi : i < l.length := by omega
    have hd : l.drop i = l[i] :: l.drop (i + 1) := List.drop_eq_getElem_cons hi
    rw [hd] at hc hfit hb ⊢
    simp only [cntJsonS, cntJson_eq] at hc hb ⊢
    simp only [fallJson] at hfit
    obtain ⟨hx1, hx2⟩ := fitJson_eq hfit.1
    have w0 : w64 (k + 1) = k + 1 := w64_id (by omega)
    have w1 : w64 (k + 1 + 1) = k + 1 + 1 := w64_id (by omega)
    have t2 := p_markText (k := k + 1 + 1) (by omega) (by omega)
    have w2 : w64 (k + 1 + 1 + 1) = k + 1 + 1 + 1 := w64_id (by omega)
    have m3 := p_markStringS l[i].Keys (k + 1 + 1 + 1) hx1 (by omega) (by omega)
    have m4 := hrec l[i].Items (k + 1 + 1 + 1 + (cntStringS l[i].Keys : Nat)) (by omega) hx2 (by omega) (by omega)
    have wi : w64 ((i : Int) + 1) = ((i + 1 : Nat) : Int) := by rw [w64_id (by omega)]; rfl
    have hg : l[i]? = some l[i] := List.getElem?_eq_getElem hi
    have hix : 0 + (i : Int).toNat = i := by simp
    have hlt : ((i : Int) < (l.length : Int)) = True := eq_true (by omega)
    have hge : (0 ≤ (i : Int)) = True := eq_true (by omega)
    have hds : ∀ y, (l.set i y).drop (i + 1) = l.drop (i + 1) := fun y => List.drop_set_of_lt (by omega)
    have ih := p_markJsonS_L1 rec b hrec n f (l.set i ⟨k, k + 1, tx (k + 1 + 1), mkStringS l[i].Keys (k + 1 + 1 + 1), mkJsonS l[i].Items (k + 1 + 1 + 1 + (cntStringS l[i].Keys : Nat))⟩) (i + 1) (k + 1 + 1 + 1 + (cntStringS l[i].Keys : Nat) + (cntJsonS l[i].Items : Nat)) (by rw [List.length_set]; omega) (by omega) (by omega) (by rw [List.length_set]; omega) (by rw [hds]; exact hfit.2) (by rw [hds]; omega) (by rw [hds]; omega)
    rw [hds] at ih
    rw [laws_markJsonS_B_L1]
    simp only [hlt, hge, hix, hg, decide_true, and_self, if_true, Option.bind_some, List.set_set, wi, w0, w1, t2, w2, m3, m4]
    rw [ih, set_fill _ _ _ _ hi]
    simp only [mkJsonS, mkJson_eq, cntJson_eq]
    refine congrArg some (Prod.ext ?_ ?_)
    · simp only
      omega
    · simp only
      refine congrArg (fun z => _ ++ _ :: mkJsonS _ z) ?_
      omega
theorem p_markJsonS_F : ∀ (f : Nat) (l : List GJson) (k : Int), cntJsonS l < f → fitJsonS l → 1 ≤ k → k + (cntJsonS l : Nat) < 2 ^ 62 → laws_markJsonS f l k = some (k + (cntJsonS l : Nat), mkJsonS l k)
  | 0, _, _, h, _, _, _ => by omega
  | f + 1, l, k, h, hf, h0, h1 => by
    have hl : l.length < 2 ^ 61 := hf.1
    rw [laws_markJsonS]
    unfold laws_markJsonS_B
    rw [show (0 : Int) = ((0 : Nat) : Int) from rfl, p_markJsonS_L1 (laws_markJsonS f) f (fun l k => p_markJsonS_F f l k) l.length FUEL l 0 k (by omega) (fuel_lt (by omega)) h0 hl (by simpa using hf.2) (by simpa using h) (by simpa using h1)]
    simp
theorem p_markJsonS (l : List GJson) (k : Int) (hf : fitJsonS l) (h0 : 1 ≤ k) (h1 : k + (cntJsonS l : Nat) < 2 ^ 62) : laws_markJsonS FUEL l k = some (k + (cntJsonS l : Nat), mkJsonS l k) := p_markJsonS_F FUEL l k (fuel_lt (by omega)) hf h0 h1
/- JSON values: marks are read back. -/
theorem p_heldJsonS_L1 (rec : List GJson → Int → Option Int) (b : Nat) (hrec : ∀ (l : List GJson) (k : Int), cntJsonS l < b → fitJsonS l → 1 ≤ k → k + (cntJsonS l : Nat) < 2 ^ 62 → rec (mkJsonS l k) k = some (k + (cntJsonS l : Nat))) : ∀ (l : List GJson) (k : Int), 1 ≤ k → fallJson l → cntJsonS l < b + 1 → k + (cntJsonS l : Nat) < 2 ^ 62 → laws_heldJsonS_B_L1 rec (mkJsonS l k) k = some (.go (k + (cntJsonS l : Nat)))
  | [], k, _, _, _, _ => by simp [mkJsonS, laws_heldJsonS_B_L1, cntJsonS]
  | x :: l, k, hk, hfit, hb, hc => by
    simp only [cntJsonS, cntJson_eq] at hc hb ⊢
    simp only [fallJson] at hfit
    obtain ⟨hx1, hx2⟩ := fitJson_eq hfit.1
    have w0 : w64 (k + 1) = k + 1 := w64_id (by omega)
    have w1 : w64 (k + 1 + 1) = k + 1 + 1 := w64_id (by omega)
    have t2 := p_markText (k := k + 1 + 1) (by omega) (by omega)
    have w2 : w64 (k + 1 + 1 + 1) = k + 1 + 1 + 1 := w64_id (by omega)
    have m3 := p_heldStringS x.Keys (k + 1 + 1 + 1) hx1 (by omega) (by omega)
    have n3 : (k + 1 + 1 + 1 + (cntStringS x.Keys : Nat) < 0) = False := eq_false (by omega)
    have m4 := hrec x.Items (k + 1 + 1 + 1 + (cntStringS x.Keys : Nat)) (by omega) hx2 (by omega) (by omega)
    have n4 : (k + 1 + 1 + 1 + (cntStringS x.Keys : Nat) + (cntJsonS x.Items : Nat) < 0) = False := eq_false (by omega)
    have ih := p_heldJsonS_L1 rec b hrec l (k + 1 + 1 + 1 + (cntStringS x.Keys : Nat) + (cntJsonS x.Items : Nat)) (by omega) hfit.2 (by omega) (by omega)
    have ek : k + 1 + 1 + 1 + ((cntStringS x.Keys + cntJsonS x.Items : Nat) : Int) = k + 1 + 1 + 1 + (cntStringS x.Keys : Nat) + (cntJsonS x.Items : Nat) := by omega
    simp only [mkJsonS, mkJson_eq, cntJson_eq, ek]
    rw [laws_heldJsonS_B_L1]
    simp only [w0, w1, t2, w2, m3, n3, m4, n4, Option.bind_some, beq_self_eq_true, bne_self_eq_false, Bool.not_true, Bool.false_eq_true, if_false, decide_false]
    rw [ih]
    refine congrArg (fun z => some (Fl.go z)) ?_
    omega
theorem p_heldJsonS_F : ∀ (f : Nat) (l : List GJson) (k : Int), cntJsonS l < f → fitJsonS l → 1 ≤ k → k + (cntJsonS l : Nat) < 2 ^ 62 → laws_heldJsonS f (mkJsonS l k) k = some (k + (cntJsonS l : Nat))
  | 0, _, _, h, _, _, _ => by omega
  | f + 1, l, k, h, hf, h0, h1 => by
    rw [laws_heldJsonS]
    unfold laws_heldJsonS_B
    rw [p_heldJsonS_L1 (laws_heldJsonS f) f (fun l k => p_heldJsonS_F f l k) l k h0 hf.2 h h1]
    rfl
theorem p_heldJsonS (l : List GJson) (k : Int) (hf : fitJsonS l) (h0 : 1 ≤ k) (h1 : k + (cntJsonS l : Nat) < 2 ^ 62) : laws_heldJsonS FUEL (mkJsonS l k) k = some (k + (cntJsonS l : Nat)) := p_heldJsonS_F FUEL l k (fuel_lt (by omega)) hf h0 h1

theorem p_markJson (x : GJson) (k : Int) (hf : fitJson x) (h0 : 1 ≤ k) (h1 : k + (cntJson x : Nat) < 2 ^ 62) : laws_markJson x k = some (k + (cntJson x : Nat), mkJson x k) := by
  rw [cntJson_eq] at h1
  obtain ⟨hx1, hx2⟩ := fitJson_eq hf
  unfold laws_markJson
  rw [p_markStringS x.Keys k hx1 h0 (by omega), Option.bind_some]
  simp only
  rw [p_markJsonS x.Items _ hx2 (by omega) (by omega), Option.bind_some, mkJson_eq, cntJson_eq]
  refine congrArg some (Prod.ext ?_ rfl)
  simp only
  omega
theorem p_heldJson (x : GJson) (k : Int) (hf : fitJson x) (h0 : 1 ≤ k) (h1 : k + (cntJson x : Nat) < 2 ^ 62) : laws_heldJson (mkJson x k) k = some (k + (cntJson x : Nat)) := by
  rw [cntJson_eq] at h1
  obtain ⟨hx1, hx2⟩ := fitJson_eq hf
  have n3 : (k + (cntStringS x.Keys : Nat) < 0) = False := eq_false (by omega)
  have n4 : (k + (cntStringS x.Keys : Nat) + (cntJsonS x.Items : Nat) < 0) = False := eq_false (by omega)
  have m1 := p_heldStringS x.Keys k hx1 h0 (by omega)
  have m2 := p_heldJsonS x.Items (k + (cntStringS x.Keys : Nat)) hx2 (by omega) (by omega)
  unfold laws_heldJson
  rw [mkJson_eq, cntJson_eq]
  simp only [m1, m2, n3, n4, Option.bind_some, decide_false, Bool.false_eq_true, if_false]
  refine congrArg some ?_
  omega
end Go.R
