/- Atoms and sets, as the program asks; behind TXI, ORD, ORDI. -/
import Derived.Test.YthejoafcjkoahaaGreatORDS
set_option linter.all false
namespace Go.R
open Go
set_option linter.all false
def atomB (a:GAtom):Bool :=
  (decide (a.Kind = 1) && decide (-1000000000 ≤ a.N ∧ a.N ≤ 1000000000) && decide (a.T = [])) ||
  (decide (a.Kind = 2) && decide (a.N = 0) && textB a.T) ||
  (decide (a.Kind = 3) && decide (0 ≤ a.N ∧ a.N ≤ 1) && decide (a.T = [])) ||
  (decide (a.Kind = 4) && decide (1 ≤ a.N ∧ a.N ≤ 1000000) && decide (a.T = []))
theorem p_AtomOK (a:GAtom):impl_AtomOK a = some (atomB a):=by
  unfold impl_AtomOK impl_isNumber impl_isId atomB
  simp only [p_within,p_plain,Option.bind_some]
  by_cases h1:a.Kind = 1
  · simp only [h1]
    by_cases c:(-1000000000 ≤ a.N ∧ a.N ≤ 1000000000) <;> by_cases d:a.T = [] <;> simp [c,d]
  by_cases h2:a.Kind = 2
  · simp only [h2]
    by_cases c:a.N = 0 <;> simp [c]
  by_cases h3:a.Kind = 3
  · simp only [h3]
    by_cases c:(0 ≤ a.N ∧ a.N ≤ 1) <;> by_cases d:a.T = [] <;> simp [c,d]
  by_cases h4:a.Kind = 4
  · simp only [h4]
    by_cases c:(1 ≤ a.N ∧ a.N ≤ 1000000) <;> by_cases d:a.T = [] <;> simp [c,d]
  · simp [h1,h2,h3,h4]
def stepB (d:List GAtom) (q:Nat) (x:GAtom):Bool :=
  atomB x && (match d[0]? with | some h => x.Kind == h.Kind | none => false) && (q == 0 || match d[q - 1]? with | some y => decide (ordA y x < 0) | none => false)
def allS (d:List GAtom):List GAtom → Nat → Bool
  | [],_ => true
  | x :: xs,i => stepB d i x && allS d xs (i + 1)
def datB (d:List GAtom):Bool:=allS d d 0 && decide ((d.length:Int) ≤ 8)
theorem allS_iff (d:List GAtom):∀ (xs:List GAtom) (i:Nat),allS d xs i = true ↔ ∀ q x,xs[q]? = some x → stepB d (i + q) x = true
  | [],i => by simp [allS]
  | x :: xs,i => by
    simp only [allS,Bool.and_eq_true,allS_iff d xs (i + 1)]
    constructor
    · rintro ⟨h1,h2⟩ q y hq
      cases q with
      | zero => simp at hq; subst hq; simpa using h1
      | succ q => have:=h2 q y (by simpa using hq); rw [show i + (q + 1) = i + 1 + q from by omega]; exact this
    · intro h
      refine ⟨by simpa using h 0 x (by simp),fun q y hq => ?_⟩
      have:=h (q + 1) y (by simpa using hq)
      rw [show i + 1 + q = i + (q + 1) from by omega]; exact this
theorem p_step (d:List GAtom) (i:Nat) (x:GAtom) (hi:i < d.length) (hl:d.length ≤ maxLen) (A:GAtom → Option Bool) (hA:∀ a,A a = some (atomB a)) (O:GAtom → GAtom → Option Int) (hO:∀ a b,O a b = some (ordA a b)) :
    ((A x).bind fun r_110 =>
    if (!r_110) then
    some true
    else
    (idx d 0).bind fun x_113 =>
    if (x.Kind != x_113.Kind) then
    some true
    else
    if (decide ((i:Int) > 0)) then
    (idx d (w64 ((i:Int) - 1))).bind fun x_117 =>
    (O x_117 x).bind fun r_119 =>
    some (decide (r_119 ≥ 0))
    else
    some false:Option Bool) = some (!stepB d i x):=by
  simp only [maxLen] at hl
  obtain ⟨h,hh⟩:∃ h,d[0]? = some h:=⟨d[0],List.getElem?_eq_getElem (by omega)⟩
  have e0:idx d 0 = some h:=by rw [show (0:Int) = ((0:Nat):Int) from rfl,idx_nat,hh]
  rw [hA,Option.bind_some,e0]
  unfold stepB
  rw [hh]
  by_cases ha:atomB x = true
  · by_cases hk:x.Kind = h.Kind
    · by_cases h0:i = 0
      · subst h0; simp [ha,hk]
      · obtain ⟨y,hy⟩:∃ y,d[i - 1]? = some y:=⟨d[i - 1],List.getElem?_eq_getElem (by omega)⟩
        have e1:w64 ((i:Int) - 1) = ((i - 1:Nat):Int):=by rw [w64_id (by omega)]; omega
        rw [e1,idx_nat,hy]
        have hp:0 < i:=by omega
        simp [ha,hk,h0,hO,hp]
        by_cases hc:ordA y x < 0
        · have:¬ 0 ≤ ordA y x:=by omega
          simp [hc,this,h0]
        · have:0 ≤ ordA y x:=by omega
          simp [hc,this,h0]
    · simp [ha,hk]
  · simp only [Bool.not_eq_true] at ha
    simp [ha]
theorem p_DatumOK_L1 (d:List GAtom) (hl:d.length ≤ maxLen):∀ (xs:List GAtom) (i:Nat),d.drop i = xs → impl_DatumOK_L1 d xs i = some (if allS d xs i = true then .go () else .ret false)
  | [],i,h => by rw [impl_DatumOK_L1]; simp [allS]
  | x :: xs,i,h => by
    rw [impl_DatumOK_L1,p_step d i x (drop_lt h) hl impl_AtomOK p_AtomOK impl_compareAtoms p_compareAtoms,Option.bind_some,p_DatumOK_L1 d hl xs (i + 1) (drop_next h)]
    cases hs:stepB d i x <;> simp [allS,hs]
theorem p_DatumOK (d:List GAtom) (hl:d.length ≤ maxLen):impl_DatumOK d = some (datB d):=by
  unfold impl_DatumOK datB
  rw [p_DatumOK_L1 d hl d 0 (by simp)]
  cases allS d d 0 <;> simp
structure SortD (k:Int) (d:List GAtom):Prop where
  atom:∀ x ∈ d,atomB x = true ∧ x.Kind = k
  ord:∀ i x y,d[i]? = some x → d[i + 1]? = some y → ordA x y < 0
theorem SortD.allS {k:Int} {d:List GAtom} (h:SortD k d):allS d d 0 = true:=by
  rw [allS_iff]
  intro q x hq
  obtain ⟨h1,h2⟩:=h.atom x (List.mem_of_getElem? hq)
  have hlt:=(List.getElem?_eq_some_iff.1 hq).1
  obtain ⟨z,hz⟩:∃ z,d[0]? = some z:=⟨d[0],List.getElem?_eq_getElem (by omega)⟩
  obtain ⟨_,g2⟩:=h.atom z (List.mem_of_getElem? hz)
  unfold stepB
  simp only [Nat.zero_add,h1,hz,h2,g2,Bool.true_and,beq_self_eq_true]
  by_cases h0:q = 0
  · simp [h0]
  · obtain ⟨y,hy⟩:∃ y,d[q - 1]? = some y:=⟨d[q - 1],List.getElem?_eq_getElem (by omega)⟩
    have:=h.ord (q - 1) y x hy (by rw [show q - 1 + 1 = q from by omega]; exact hq)
    simp [hy,this]
end Go.R
