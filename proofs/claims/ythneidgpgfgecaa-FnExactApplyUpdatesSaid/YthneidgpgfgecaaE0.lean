/- Names that the walks use. -/
import Derived.Test.YthneidgpgfgecaaD2
import Derived.KernelRfl
set_option linter.all false
namespace Go.R
open Go
abbrev Str := List UInt8
def encI (n : Int) : AV := .int .i64 n
def enc_u8 (n : Int) : AV := .int .u8 n
def encL {α : Type} (z : Nat) (f : α → AV) (l : List α) : AV := .lst z (l.map f)
def bindA : Nat → List AV → List (Nat × AV)
  | _, [] => []
  | k, a :: as => (k, a) :: bindA (k + 1) as
theorem bindA_get : ∀ (as : List AV) (k n : Nat), ofL (bindA k as) n = if k ≤ n then as.getD (n - k) .undef else .undef
  | [], k, n => by simp [bindA, ofL]
  | a :: as, k, n => by
    simp only [bindA, ofL, bindA_get as (k + 1) n]
    by_cases h : n = k
    · subst h; simp
    · rw [if_neg h]
      by_cases h2 : k ≤ n
      · have h3 : n - k = (n - (k + 1)) + 1 := by omega
        rw [if_pos h2, if_pos (by omega), h3, List.getD_cons_succ]
      · rw [if_neg h2, if_neg (by omega)]
theorem argT_eq (as : List AV) : argT as = ofL (bindA 0 as) := by
  funext n
  rw [bindA_get]
  simp [argT]
def gs (v b : Bool) (V : AV) : AV := if v = b then V else .skip
theorem gs_on {v b : Bool} (h : v = b) {V : AV} : gs v b V = V := if_pos h
theorem lenV {α : Type} (f : α → AV) (l : List α) : AV.int .i64 ((l.map f).length : Int) = AV.int .i64 l.length := by rw [List.length_map]
section
variable {P : Program} {dm : Md} {bs : List (Nat × AV)} {h : List AObj} {n : ATree} {d : Nat} {K : (Nat → AV) → List AObj → Prop}
/-- a quiet operation under a guard that is not decided -/
theorem s_g {op : AOp} {s : Nat} {b v : Bool} (V : AV) (ht : ofL bs s = .bool v) (hon : v = b → op.quiet = true ∧ aqQ dm.m op (AX.ev (ofL bs)) h ∧ aqV op (AX.ev (ofL bs)) h = V) (hn : awpT P dm n (ofL ((d, gs v b V) :: bs)) h K) : awpT P dm (.q ⟨some d, some (s, b), op⟩ n) (ofL bs) h K := by
  by_cases hv : v = b
  · obtain ⟨h1, h2, h3⟩ := hon hv
    rw [gs_on hv] at hn
    subst hv
    exact s_on ht (s_q V h1 h2 h3 hn)
  · have e : gs v b V = .skip := if_neg hv
    rw [e] at hn
    exact s_off ht (by cases v <;> cases b <;> simp_all) hn
theorem s_gg {op : AOp} {s : Nat} {b1 b2 v1 v2 : Bool} (V : AV) (ht : ofL bs s = gs v1 b1 (.bool v2)) (hon : v1 = b1 → v2 = b2 → op.quiet = true ∧ aqQ dm.m op (AX.ev (ofL bs)) h ∧ aqV op (AX.ev (ofL bs)) h = V) (hn : awpT P dm n (ofL ((d, gs v1 b1 (gs v2 b2 V)) :: bs)) h K) : awpT P dm (.q ⟨some d, some (s, b2), op⟩ n) (ofL bs) h K := by
  by_cases hv : v1 = b1
  · rw [gs_on hv] at hn ht
    exact s_g V ht (hon hv) hn
  · have e : ∀ W, gs v1 b1 W = .skip := fun W => if_neg hv
    rw [e] at hn ht
    exact s_offs ht hn
theorem s_gp {c a b : AX} {s : Nat} {v1 b1 v2 x y : Bool} (ht : ofL bs s = .bool v1) (hc : v1 = b1 → c.ev (ofL bs) = .bool v2) (h1 : v1 = b1 → v2 = true → a.ev (ofL bs) = .bool x) (h2 : v1 = b1 → v2 = false → b.ev (ofL bs) = .bool y) (hn : awpT P dm n (ofL ((d, gs v1 b1 (.bool (bif v2 then x else y))) :: bs)) h K) : awpT P dm (.q ⟨some d, some (s, b1), .pick c a b⟩ n) (ofL bs) h K := by
  refine s_g _ ht (fun hv => ⟨rfl, .of ?_ trivial, ?_⟩) hn
  · simp only [aqP, hc hv]; cases v2 <;> trivial
  · simp only [aqV, hc hv]
    cases v2 with
    | true => simpa using h1 hv rfl
    | false => simpa using h2 hv rfl
theorem s_pick {c a b : AX} {v x y : Bool} (hc : c.ev (ofL bs) = .bool v) (h1 : v = true → a.ev (ofL bs) = .bool x) (h2 : v = false → b.ev (ofL bs) = .bool y) (hn : awpT P dm n (ofL ((d, .bool (bif v then x else y)) :: bs)) h K) : awpT P dm (.q ⟨some d, none, .pick c a b⟩ n) (ofL bs) h K := by
  refine s_q (.bool (bif v then x else y)) rfl (.of ?_ trivial) ?_ hn
  · simp only [aqP, hc]; cases v <;> trivial
  · simp only [aqV, hc]
    cases v with
    | true => simpa using h1 rfl
    | false => simpa using h2 rfl
end
abbrev tq (d : Nat) (o : AOp) (n : ATree) : ATree := .q ⟨some d, none, o⟩ n
abbrev tm (d : Nat) (x : AX) (n : ATree) : ATree := .q ⟨some d, none, .mov x⟩ n
abbrev tg (d s : Nat) (b : Bool) (o : AOp) (n : ATree) : ATree := .q ⟨some d, some (s, b), o⟩ n
def bstr (l : List Int) : Str := l.map fun n => UInt8.ofNat n.toNat
section
variable {P : Program} {dm : Md} {bs : List (Nat × AV)} {h : List AObj} {x : AX}
theorem o_convbs {l : List Int} (hx : x.ev (ofL bs) = .lst 1 (l.map enc_u8)) : Opr P dm (.convBS x) bs h (.str (bstr l)) h := fun k hk => by
  simp only [awpL, hx, srcOf, if_pos]
  exact ⟨l, rfl, hk⟩
theorem o_convbso {l : List Int} {o n : Nat} (hx : x.ev (ofL bs) = .own o 0 n) (ho : h[o]? = some (.row 1 (l.map enc_u8))) (hn : n = l.length) : Opr P dm (.convBS x) bs h (.str (bstr l)) h := fun k hk => by
  subst hn
  simp only [awpL, hx, srcOf, ho, if_pos]
  exact ⟨l, by rw [List.drop_zero, List.take_of_length_le (by simp)]; rfl, hk⟩
theorem o_convbsn (hx : x.ev (ofL bs) = .nil) : Opr P dm (.convBS x) bs h (.str []) h := fun k hk => by
  simp only [awpL, hx, srcOf]
  exact ⟨[], rfl, hk⟩
end
@[irreducible] def FUEL : Nat := 2 ^ 100
theorem LeL.repm {α : Type} {enc : α → AV} {z : AV} {x : α} (h : Le z (enc x)) (n : Nat) : LeL (List.replicate n z) ((List.replicate n x).map enc) := by
  rw [← R.repm]
  exact LeL.rep h n
section
variable {P : Program} {dm : Md} {n0 : Nat} {bs : List (Nat × AV)} {h h2 : List AObj} {z : Nat} {α : Type} {l l' : List α} {enc : α → AV}
theorem w_rev0 {a : ACode} {t : Nat → AV} {Q : AQ} (hn : awp P dm n0 a t h Q) : awp P dm n0 (.rev a) t h Q :=
  .inr (.inr ⟨[], t, h, h, rfl, .refl _, hn⟩)
theorem upd_ofL {s : Nat} {v : AV} : upd (ofL bs) s v = ofL ((s, v) :: bs) := rfl
theorem takedrop_map {lo n : Nat} (hl : (l.drop lo).take n = l') : ((l.map enc).drop lo).take n = l'.map enc := by
  rw [← hl, List.map_take, List.map_drop]
/-- an own row that a slot names is frozen -/
theorem w_frz {a : ACode} {Q : AQ} {s o lo n : Nat} (hm : dm.m = false) (ht : ofL bs s = .own o lo n) (ho : h[o]? = some (.row z (l.map enc))) (hl : (l.drop lo).take n = l') (hh : h.set o .dead = h2) (hn : awp P dm n0 a (ofL ((s, .lst z (l'.map enc)) :: bs)) h2 Q) : awp P dm n0 (.rev a) (ofL bs) h Q := by
  subst hh
  refine .inr (.inr ⟨[.frz s], _, _, _, ?_, .refl _, hn⟩)
  simp only [ghs, gh1m, hm, gh1, ht, ho, takedrop_map hl, upd_ofL]
theorem w_frzS {a : ACode} {Q : AQ} {s i o lo n : Nat} {cs cs' : List AV} (hm : dm.m = false) (ht : ofL bs s = .agg cs) (hc : cs[i]? = some (.own o lo n)) (ho : h[o]? = some (.row z (l.map enc))) (hl : (l.drop lo).take n = l') (hs : cs.set i (.lst z (l'.map enc)) = cs') (hh : h.set o .dead = h2) (hn : awp P dm n0 a (ofL ((s, .agg cs') :: bs)) h2 Q) : awp P dm n0 (.rev a) (ofL bs) h Q := by
  subst hh hs
  refine .inr (.inr ⟨[.frzS s i], _, _, _, ?_, .refl _, hn⟩)
  simp only [ghs, gh1m, hm, gh1, ht, hc, ho, takedrop_map hl, upd_ofL]
end
section
variable {P : Program} {dm : Md} {n0 : Nat} {bs : List (Nat × AV)} {h h2 : List AObj} {z : Nat} {α : Type} {l l' : List α} {enc : α → AV}
theorem w_frzC {a : ACode} {t : Nat → AV} {Q : AQ} {j i o lo n m : Nat} {cs cs' : List AV} (hm : dm.m = false) (hj : h[j]? = some (.box m (.agg cs))) (hc : cs[i]? = some (.own o lo n)) (ho : h[o]? = some (.row z (l.map enc))) (hl : (l.drop lo).take n = l') (hs : cs.set i (.lst z (l'.map enc)) = cs') (hh : (h.set o .dead).set j (.box m (.agg cs')) = h2) (hn : awp P dm n0 a t h2 Q) : awp P dm n0 (.rev a) t h Q := by
  subst hh hs
  refine .inr (.inr ⟨[.frzC j i], t, _, _, ?_, .refl _, hn⟩)
  simp only [ghs, gh1m, hm, gh1, hj, hc, ho, takedrop_map hl]
end
section
variable {α : Type} {l : List α} {enc : α → AV} {z i : Nat} {el' : AV}
theorem leo_cls {y : α} (hy : Le el' (enc y)) : LeO (.row z ((l.map enc).set i el')) (.row z ((l.set i y).map enc)) := by
  rw [List.map_set]
  exact .row (LeL.set hy)
theorem leo_cls0 {x : α} (hx : l[i]? = some x) (hy : Le el' (enc x)) : LeO (.row z ((l.map enc).set i el')) (.row z (l.map enc)) := by
  have := leo_cls (z := z) (l := l) (i := i) hy
  rw [set_same hx] at this
  exact this
end
section
variable {α : Type} {enc : α → AV}
theorem tkl {a : List α} {n : Nat} (h : a.length = n) : (a.map enc).take n = a.map enc := List.take_of_length_le (by simp [h])
end
/-- an element that may be there -/
def onIdx {α β : Type} (o : Option α) (f : α → Option β) (g : Option β) : Option β := match o with
  | some x => f x
  | none => g
theorem oo {α β : Type} {o : Option α} {f : α → Option β} {g : Option β} {r : β} (h : onIdx o f g = some r) : (∃ x, o = some x ∧ f x = some r) ∨ (o = none ∧ g = some r) := by
  cases o with
  | some x => exact .inl ⟨x, rfl, h⟩
  | none => exact .inr ⟨rfl, h⟩
end Go.R
