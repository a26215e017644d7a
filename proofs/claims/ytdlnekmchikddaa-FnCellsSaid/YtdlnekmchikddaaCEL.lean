/- Plain laws of what this statement reaches. -/
import Derived.Test.YtdlnekmchikddaaCEH
import Derived.Test.YtdlnekmchikddaaP0
set_option linter.all false
namespace Go.R
open Go
set_option linter.all false
theorem p_slices_IndexFunc_impl_Column_impl_Column_L1 (f:GColumn → Option Bool) (p:GColumn → Bool):∀ (xs:List GColumn) (i:Nat),(∀ x ∈ xs,f x = some (p x)) → slices_IndexFunc_impl_Column_impl_Column_L1 f xs i = some (match xs.findIdx? p with | some k => .ret ((i + k:Nat):Int) | none => .go ())
  | [],i,_ => by rw [slices_IndexFunc_impl_Column_impl_Column_L1]; rfl
  | x :: xs,i,h => by
    rw [slices_IndexFunc_impl_Column_impl_Column_L1,h x (by simp),Option.bind_some,p_slices_IndexFunc_impl_Column_impl_Column_L1 f p xs (i + 1) (fun y hy => h y (by simp [hy])),List.findIdx?_cons]
    cases hp:p x with
    | true => simp
    | false =>
      cases hq:xs.findIdx? p with
      | none => simp
      | some k => simp; omega
theorem p_slices_IndexFunc_impl_Column_impl_Column (f:GColumn → Option Bool) (p:GColumn → Bool) (xs:List GColumn) (h:∀ x ∈ xs,f x = some (p x)):slices_IndexFunc_impl_Column_impl_Column xs f = some (match xs.findIdx? p with | some k => (k:Int) | none => -1):=by
  unfold slices_IndexFunc_impl_Column_impl_Column
  rw [p_slices_IndexFunc_impl_Column_impl_Column_L1 f p xs 0 h]
  cases hq:xs.findIdx? p with
  | none => rfl
  | some k => simp
theorem p_slices_IndexFunc_impl_Set_impl_Set_L1 (f:GSet → Option Bool) (p:GSet → Bool):∀ (xs:List GSet) (i:Nat),(∀ x ∈ xs,f x = some (p x)) → slices_IndexFunc_impl_Set_impl_Set_L1 f xs i = some (match xs.findIdx? p with | some k => .ret ((i + k:Nat):Int) | none => .go ())
  | [],i,_ => by rw [slices_IndexFunc_impl_Set_impl_Set_L1]; rfl
  | x :: xs,i,h => by
    rw [slices_IndexFunc_impl_Set_impl_Set_L1,h x (by simp),Option.bind_some,p_slices_IndexFunc_impl_Set_impl_Set_L1 f p xs (i + 1) (fun y hy => h y (by simp [hy])),List.findIdx?_cons]
    cases hp:p x with
    | true => simp
    | false =>
      cases hq:xs.findIdx? p with
      | none => simp
      | some k => simp; omega
theorem p_slices_IndexFunc_impl_Set_impl_Set (f:GSet → Option Bool) (p:GSet → Bool) (xs:List GSet) (h:∀ x ∈ xs,f x = some (p x)):slices_IndexFunc_impl_Set_impl_Set xs f = some (match xs.findIdx? p with | some k => (k:Int) | none => -1):=by
  unfold slices_IndexFunc_impl_Set_impl_Set
  rw [p_slices_IndexFunc_impl_Set_impl_Set_L1 f p xs 0 h]
  cases hq:xs.findIdx? p with
  | none => rfl
  | some k => simp
theorem p_slices_IndexFunc_string_string_L1 (f:Str → Option Bool) (p:Str → Bool):∀ (xs:List Str) (i:Nat),(∀ x ∈ xs,f x = some (p x)) → slices_IndexFunc_string_string_L1 f xs i = some (match xs.findIdx? p with | some k => .ret ((i + k:Nat):Int) | none => .go ())
  | [],i,_ => by rw [slices_IndexFunc_string_string_L1]; rfl
  | x :: xs,i,h => by
    rw [slices_IndexFunc_string_string_L1,h x (by simp),Option.bind_some,p_slices_IndexFunc_string_string_L1 f p xs (i + 1) (fun y hy => h y (by simp [hy])),List.findIdx?_cons]
    cases hp:p x with
    | true => simp
    | false =>
      cases hq:xs.findIdx? p with
      | none => simp
      | some k => simp; omega
theorem p_slices_IndexFunc_string_string (f:Str → Option Bool) (p:Str → Bool) (xs:List Str) (h:∀ x ∈ xs,f x = some (p x)):slices_IndexFunc_string_string xs f = some (match xs.findIdx? p with | some k => (k:Int) | none => -1):=by
  unfold slices_IndexFunc_string_string
  rw [p_slices_IndexFunc_string_string_L1 f p xs 0 h]
  cases hq:xs.findIdx? p with
  | none => rfl
  | some k => simp
theorem p_slices_ContainsFunc_impl_Set_impl_Set (f:GSet → Option Bool) (p:GSet → Bool) (xs:List GSet) (h:∀ x ∈ xs,f x = some (p x)):slices_ContainsFunc_impl_Set_impl_Set xs f = some (xs.any p):=by
  unfold slices_ContainsFunc_impl_Set_impl_Set
  rw [p_slices_IndexFunc_impl_Set_impl_Set f p xs h,Option.bind_some]
  cases hq:xs.findIdx? p with
  | none =>
    have:xs.any p = false:=by
      rw [List.any_eq_false]
      intro x hx
      have:=List.findIdx?_eq_none_iff.1 hq x hx
      simp [this]
    rw [this]; rfl
  | some k =>
    have:xs.any p = true:=by
      obtain ⟨x,hx,hp⟩:∃ x,x ∈ xs ∧ p x = true:=by
        have:=List.findIdx?_eq_some_iff_getElem.1 hq
        obtain ⟨hk,h1,_⟩:=this
        exact ⟨xs[k],List.getElem_mem _,h1⟩
      exact List.any_eq_true.2 ⟨x,hx,hp⟩
    rw [this]
    simp
theorem p_slices_ContainsFunc_string_string (f:Str → Option Bool) (p:Str → Bool) (xs:List Str) (h:∀ x ∈ xs,f x = some (p x)):slices_ContainsFunc_string_string xs f = some (xs.any p):=by
  unfold slices_ContainsFunc_string_string
  rw [p_slices_IndexFunc_string_string f p xs h,Option.bind_some]
  cases hq:xs.findIdx? p with
  | none =>
    have:xs.any p = false:=by
      rw [List.any_eq_false]
      intro x hx
      have:=List.findIdx?_eq_none_iff.1 hq x hx
      simp [this]
    rw [this]; rfl
  | some k =>
    have:xs.any p = true:=by
      obtain ⟨x,hx,hp⟩:∃ x,x ∈ xs ∧ p x = true:=by
        have:=List.findIdx?_eq_some_iff_getElem.1 hq
        obtain ⟨hk,h1,_⟩:=this
        exact ⟨xs[k],List.getElem_mem _,h1⟩
      exact List.any_eq_true.2 ⟨x,hx,hp⟩
    rw [this]
    simp
def charB (c:UInt8):Bool:=!(decide ((c.toNat:Int) < 32) || decide ((c.toNat:Int) > 126))
def textB (t:Str):Bool:=t.all charB && decide ((t.length:Int) ≤ 200)
theorem p_plain_L1:∀ t:Str,impl_isPlain_L1 t = some (if t.all charB = true then .go () else .ret false)
  | [] => by rw [impl_isPlain_L1]; simp
  | x :: xs => by
    rw [impl_isPlain_L1,p_plain_L1 xs]
    by_cases h1:(x.toNat:Int) < 32
    · simp [h1,charB]
    · by_cases h2:(x.toNat:Int) > 126
      · simp [h1,h2,charB]
      · simp [h1,h2,charB]
theorem p_plain (t:Str):impl_isPlain t = some (textB t):=by
  unfold impl_isPlain textB
  rw [p_plain_L1]
  by_cases h:t.all charB = true
  · simp only [h,if_pos,Option.bind_some,Bool.true_and]
  · simp only [h,Bool.not_eq_true] at h ⊢
    simp [h]
theorem p_within (n a b:Int):impl_within n a b = some (decide (a ≤ n ∧ n ≤ b)):=by
  unfold impl_within
  by_cases h:a ≤ n <;> simp [h]
theorem p_text_L1:∀ t:Str,spec_l01Text_L1 t = some (if t.all charB = true then .go () else .ret false)
  | [] => by rw [spec_l01Text_L1]; simp
  | x :: xs => by
    rw [spec_l01Text_L1,p_text_L1 xs]
    by_cases h1:(x.toNat:Int) < 32
    · simp [h1,charB]
    · by_cases h2:(x.toNat:Int) > 126
      · simp [h1,h2,charB]
      · simp [h1,h2,charB]
theorem p_text (t:Str):spec_l01Text t = some (textB t):=by
  unfold spec_l01Text textB
  rw [p_text_L1]
  by_cases h:t.all charB = true
  · simp only [h,if_pos,Option.bind_some,Bool.true_and]
  · simp only [h,Bool.not_eq_true] at h ⊢
    simp [h]
theorem p_in (n a b:Int):spec_l01In n a b = some (decide (a ≤ n ∧ n ≤ b)):=by
  unfold spec_l01In
  by_cases h:a ≤ n <;> simp [h]
theorem cmpB_range:∀ a b:Str,Lib.compareBytes a b = -1 ∨ Lib.compareBytes a b = 0 ∨ Lib.compareBytes a b = 1
  | [],[] => by simp [Lib.compareBytes]
  | [],_ :: _ => by simp [Lib.compareBytes]
  | _ :: _,[] => by simp [Lib.compareBytes]
  | a :: xs,b :: ys => by
    have:=cmpB_range xs ys
    unfold Lib.compareBytes
    split
    · simp
    · split
      · simp
      · exact this
theorem u8_tri (a b:UInt8):a < b ∨ a = b ∨ b < a:=by
  simp only [UInt8.lt_iff_toNat_lt,← UInt8.toNat_inj]
  omega
theorem u8_asym {a b:UInt8} (h:a < b):¬ b < a:=by
  simp only [UInt8.lt_iff_toNat_lt] at *
  omega
theorem cmpB_anti:∀ a b:Str,Lib.compareBytes b a = - Lib.compareBytes a b
  | [],[] => by simp [Lib.compareBytes]
  | [],_ :: _ => by simp [Lib.compareBytes]
  | _ :: _,[] => by simp [Lib.compareBytes]
  | a :: xs,b :: ys => by
    have ih:=cmpB_anti xs ys
    unfold Lib.compareBytes
    rcases u8_tri a b with h | h | h
    · simp [h,u8_asym h]
    · subst h; simp [UInt8.lt_irrefl,ih]
    · simp [h,u8_asym h]
theorem cmpB_zero:∀ a b:Str,Lib.compareBytes a b = 0 ↔ a = b
  | [],[] => by simp [Lib.compareBytes]
  | [],_ :: _ => by simp [Lib.compareBytes]
  | _ :: _,[] => by simp [Lib.compareBytes]
  | a :: xs,b :: ys => by
    have ih:=cmpB_zero xs ys
    unfold Lib.compareBytes
    rcases u8_tri a b with h | h | h
    · have hne:a ≠ b:=by rintro rfl; exact UInt8.lt_irrefl _ h
      simp [h,hne]
    · subst h; simp [UInt8.lt_irrefl,ih]
    · have hne:a ≠ b:=by rintro rfl; exact UInt8.lt_irrefl _ h
      simp [h,u8_asym h,hne]
theorem cmpB_less:∀ a b:Str,Op.bytesLess a b = decide (Lib.compareBytes a b < 0)
  | [],[] => by simp [Lib.compareBytes,Op.bytesLess]
  | [],_ :: _ => by simp [Lib.compareBytes,Op.bytesLess]
  | _ :: _,[] => by simp [Lib.compareBytes,Op.bytesLess]
  | a :: xs,b :: ys => by
    have ih:=cmpB_less xs ys
    unfold Lib.compareBytes Op.bytesLess
    rcases u8_tri a b with h | h | h
    · simp [h]
    · subst h; simp [UInt8.lt_irrefl,ih]
    · have hne:¬ a = b:=by rintro rfl; exact UInt8.lt_irrefl _ h
      simp [h,u8_asym h,hne]
def ordA (a b:GAtom):Int:=if a.Kind ≠ b.Kind then (if a.Kind < b.Kind then -1 else 1) else if a.N ≠ b.N then (if a.N < b.N then -1 else 1) else Lib.compareBytes a.T b.T
theorem ordA_zero (a b:GAtom):ordA a b = 0 ↔ a = b:=by
  unfold ordA
  cases a with | mk k n t =>
  cases b with | mk k' n' t' =>
  simp only [GAtom.mk.injEq]
  by_cases h1:k = k'
  · subst h1
    by_cases h2:n = n'
    · subst h2; simp [cmpB_zero]
    · simp [h2]; split <;> omega
  · simp [h1]; split <;> omega
theorem ordA_anti (a b:GAtom):ordA b a = - ordA a b:=by
  unfold ordA
  cases a with | mk k n t =>
  cases b with | mk k' n' t' =>
  by_cases h1:k = k'
  · subst h1
    by_cases h2:n = n'
    · subst h2; simp [cmpB_anti t t']
    · have h3:¬ n' = n:=fun h => h2 h.symm
      simp [h2,h3]; split <;> split <;> omega
  · have h3:¬ k' = k:=fun h => h1 h.symm
    simp [h1,h3]; split <;> split <;> omega
theorem p_cmpInt (x y:Int):cmp_Compare_int x y = some (if x < y then -1 else if x > y then 1 else 0):=by
  unfold cmp_Compare_int cmp_isNaN_int
  by_cases h1:x < y <;> by_cases h2:x > y <;> simp [h1,h2]
theorem p_compareAtoms (a b:GAtom):impl_compareAtoms a b = some (ordA a b):=by
  unfold impl_compareAtoms strings_Compare internal_bytealg_CompareString cmp_Or_int
  simp only [p_cmpInt,Option.bind_some]
  unfold ordA
  by_cases h1:a.Kind = b.Kind
  · by_cases h2:a.N = b.N
    · have e1:(if a.Kind < b.Kind then (-1:Int) else if a.Kind > b.Kind then 1 else 0) = 0:=by rw [h1]; simp
      have e2:(if a.N < b.N then (-1:Int) else if a.N > b.N then 1 else 0) = 0:=by rw [h2]; simp
      rw [e1,e2]
      simp only [cmp_Or_int_L1,h1,h2]
      by_cases h3:Lib.compareBytes a.T b.T = 0
      · simp [h3]
      · simp [h3]
    · have e1:(if a.Kind < b.Kind then (-1:Int) else if a.Kind > b.Kind then 1 else 0) = 0:=by rw [h1]; simp
      rw [e1]
      rcases Int.lt_or_gt_of_ne h2 with h3 | h3
      · simp [cmp_Or_int_L1,h1,h2,h3]
      · have h4:¬ a.N < b.N:=by omega
        simp [cmp_Or_int_L1,h1,h2,h3,h4]
  · rcases Int.lt_or_gt_of_ne h1 with h3 | h3
    · simp [cmp_Or_int_L1,h1,h3]
    · have h4:¬ a.Kind < b.Kind:=by omega
      simp [cmp_Or_int_L1,h1,h3,h4]
theorem p_Order (a b:GAtom):spec_l03Order a b = some (ordA a b):=by
  unfold spec_l03Order spec_l01Bit ordA
  have w0:w64 (1 - w64 0) = 1:=by decide
  have w1:w64 (1 - w64 2) = -1:=by decide
  by_cases h1:a.Kind = b.Kind
  · by_cases h2:a.N = b.N
    · simp only [h1,h2,bne_self_eq_false,Bool.false_eq_true,if_false,ne_eq,not_true_eq_false,cmpB_less]
      by_cases h3:a.T = b.T
      · simp [h3,(cmpB_zero b.T b.T).2 rfl]
      · have hne:Lib.compareBytes a.T b.T ≠ 0:=fun h => h3 ((cmpB_zero _ _).1 h)
        rcases cmpB_range a.T b.T with h | h | h
        · simp [h3,h,w1]
        · exact absurd h hne
        · simp [h3,h,w0]
    · by_cases h3:a.N < b.N <;> simp [h1,h2,h3,w0,w1]
  · by_cases h3:a.Kind < b.Kind <;> simp [h1,h3,w0,w1]
def atomB (a:GAtom):Bool :=
  (decide (a.Kind = 1) && decide (-1000000000 ≤ a.N ∧ a.N ≤ 1000000000) && decide (a.T = [])) ||
  (decide (a.Kind = 2) && decide (a.N = 0) && textB a.T) ||
  (decide (a.Kind = 3) && decide (0 ≤ a.N ∧ a.N ≤ 1) && decide (a.T = [])) ||
  (decide (a.Kind = 4) && decide (1 ≤ a.N ∧ a.N ≤ 1000000) && decide (a.T = []))
theorem p_AtomOK (a:GAtom):impl_AtomOK a = some (atomB a):=by
  unfold impl_AtomOK impl_isNumber impl_isId atomB
  simp only [p_within,p_plain,Option.bind_some]
  by_cases h1:a.Kind = 1
  · simp only [h1]
    by_cases c:(-1000000000 ≤ a.N ∧ a.N ≤ 1000000000) <;> by_cases d:a.T = [] <;> simp [c,d]
  by_cases h2:a.Kind = 2
  · simp only [h2]
    by_cases c:a.N = 0 <;> simp [c]
  by_cases h3:a.Kind = 3
  · simp only [h3]
    by_cases c:(0 ≤ a.N ∧ a.N ≤ 1) <;> by_cases d:a.T = [] <;> simp [c,d]
  by_cases h4:a.Kind = 4
  · simp only [h4]
    by_cases c:(1 ≤ a.N ∧ a.N ≤ 1000000) <;> by_cases d:a.T = [] <;> simp [c,d]
  · simp [h1,h2,h3,h4]
def stepB (d:List GAtom) (q:Nat) (x:GAtom):Bool :=
  atomB x && (match d[0]? with | some h => x.Kind == h.Kind | none => false) && (q == 0 || match d[q - 1]? with | some y => decide (ordA y x < 0) | none => false)
def allS (d:List GAtom):List GAtom → Nat → Bool
  | [],_ => true
  | x :: xs,i => stepB d i x && allS d xs (i + 1)
def datB (d:List GAtom):Bool:=allS d d 0 && decide ((d.length:Int) ≤ 8)
theorem allS_iff (d:List GAtom):∀ (xs:List GAtom) (i:Nat),allS d xs i = true ↔ ∀ q x,xs[q]? = some x → stepB d (i + q) x = true
  | [],i => by simp [allS]
  | x :: xs,i => by
    simp only [allS,Bool.and_eq_true,allS_iff d xs (i + 1)]
    constructor
    · rintro ⟨h1,h2⟩ q y hq
      cases q with
      | zero => simp at hq; subst hq; simpa using h1
      | succ q => have:=h2 q y (by simpa using hq); rw [show i + (q + 1) = i + 1 + q from by omega]; exact this
    · intro h
      refine ⟨by simpa using h 0 x (by simp),fun q y hq => ?_⟩
      have:=h (q + 1) y (by simpa using hq)
      rw [show i + 1 + q = i + (q + 1) from by omega]; exact this
theorem p_step (d:List GAtom) (i:Nat) (x:GAtom) (hi:i < d.length) (hl:d.length ≤ maxLen) (A:GAtom → Option Bool) (hA:∀ a,A a = some (atomB a)) (O:GAtom → GAtom → Option Int) (hO:∀ a b,O a b = some (ordA a b)) :
    ((A x).bind fun r_110 =>
    if (!r_110) then
    some true
    else
    (idx d 0).bind fun x_113 =>
    if (x.Kind != x_113.Kind) then
    some true
    else
    if (decide ((i:Int) > 0)) then
    (idx d (w64 ((i:Int) - 1))).bind fun x_117 =>
    (O x_117 x).bind fun r_119 =>
    some (decide (r_119 ≥ 0))
    else
    some false:Option Bool) = some (!stepB d i x):=by
  simp only [maxLen] at hl
  obtain ⟨h,hh⟩:∃ h,d[0]? = some h:=⟨d[0],List.getElem?_eq_getElem (by omega)⟩
  have e0:idx d 0 = some h:=by rw [show (0:Int) = ((0:Nat):Int) from rfl,idx_nat,hh]
  rw [hA,Option.bind_some,e0]
  unfold stepB
  rw [hh]
  by_cases ha:atomB x = true
  · by_cases hk:x.Kind = h.Kind
    · by_cases h0:i = 0
      · subst h0; simp [ha,hk]
      · obtain ⟨y,hy⟩:∃ y,d[i - 1]? = some y:=⟨d[i - 1],List.getElem?_eq_getElem (by omega)⟩
        have e1:w64 ((i:Int) - 1) = ((i - 1:Nat):Int):=by rw [w64_id (by omega)]; omega
        rw [e1,idx_nat,hy]
        have hp:0 < i:=by omega
        simp [ha,hk,h0,hO,hp]
        by_cases hc:ordA y x < 0
        · have:¬ 0 ≤ ordA y x:=by omega
          simp [hc,this,h0]
        · have:0 ≤ ordA y x:=by omega
          simp [hc,this,h0]
    · simp [ha,hk]
  · simp only [Bool.not_eq_true] at ha
    simp [ha]
theorem p_DatumOK_L1 (d:List GAtom) (hl:d.length ≤ maxLen):∀ (xs:List GAtom) (i:Nat),d.drop i = xs → impl_DatumOK_L1 d xs i = some (if allS d xs i = true then .go () else .ret false)
  | [],i,h => by rw [impl_DatumOK_L1]; simp [allS]
  | x :: xs,i,h => by
    rw [impl_DatumOK_L1,p_step d i x (drop_lt h) hl impl_AtomOK p_AtomOK impl_compareAtoms p_compareAtoms,Option.bind_some,p_DatumOK_L1 d hl xs (i + 1) (drop_next h)]
    cases hs:stepB d i x <;> simp [allS,hs]
theorem p_DatumOK (d:List GAtom) (hl:d.length ≤ maxLen):impl_DatumOK d = some (datB d):=by
  unfold impl_DatumOK datB
  rw [p_DatumOK_L1 d hl d 0 (by simp)]
  cases allS d d 0 <;> simp
structure SortD (k:Int) (d:List GAtom):Prop where
  atom:∀ x ∈ d,atomB x = true ∧ x.Kind = k
  ord:∀ i x y,d[i]? = some x → d[i + 1]? = some y → ordA x y < 0
theorem SortD.allS {k:Int} {d:List GAtom} (h:SortD k d):allS d d 0 = true:=by
  rw [allS_iff]
  intro q x hq
  obtain ⟨h1,h2⟩:=h.atom x (List.mem_of_getElem? hq)
  have hlt:=(List.getElem?_eq_some_iff.1 hq).1
  obtain ⟨z,hz⟩:∃ z,d[0]? = some z:=⟨d[0],List.getElem?_eq_getElem (by omega)⟩
  obtain ⟨_,g2⟩:=h.atom z (List.mem_of_getElem? hz)
  unfold stepB
  simp only [Nat.zero_add,h1,hz,h2,g2,Bool.true_and,beq_self_eq_true]
  by_cases h0:q = 0
  · simp [h0]
  · obtain ⟨y,hy⟩:∃ y,d[q - 1]? = some y:=⟨d[q - 1],List.getElem?_eq_getElem (by omega)⟩
    have:=h.ord (q - 1) y x hy (by rw [show q - 1 + 1 = q from by omega]; exact hq)
    simp [hy,this]
theorem p_sAtomOK (a:GAtom):spec_AtomOK a = some (atomB a):=by
  unfold spec_AtomOK atomB
  simp only [p_in,p_text,Option.bind_some]
  by_cases h1:a.Kind = 1
  · simp only [h1]
    by_cases c:(-1000000000 ≤ a.N ∧ a.N ≤ 1000000000) <;> by_cases d:a.T = [] <;> simp [c,d]
  by_cases h2:a.Kind = 2
  · simp only [h2]
    by_cases c:a.N = 0 <;> simp [c]
  by_cases h3:a.Kind = 3
  · simp only [h3]
    by_cases c:(0 ≤ a.N ∧ a.N ≤ 1) <;> by_cases d:a.T = [] <;> simp [c,d]
  by_cases h4:a.Kind = 4
  · simp only [h4]
    by_cases c:(1 ≤ a.N ∧ a.N ≤ 1000000) <;> by_cases d:a.T = [] <;> simp [c,d]
  · simp [h1,h2,h3,h4]
theorem p_sDatumOK_L1 (d:List GAtom) (hl:d.length ≤ maxLen):∀ (xs:List GAtom) (i:Nat),d.drop i = xs → spec_DatumOK_L1 d xs i = some (if allS d xs i = true then .go () else .ret false)
  | [],i,h => by rw [spec_DatumOK_L1]; simp [allS]
  | x :: xs,i,h => by
    rw [spec_DatumOK_L1,p_step d i x (drop_lt h) hl spec_AtomOK p_sAtomOK spec_l03Order p_Order,Option.bind_some,p_sDatumOK_L1 d hl xs (i + 1) (drop_next h)]
    cases hs:stepB d i x <;> simp [allS,hs]
theorem p_sDatumOK (d:List GAtom):spec_DatumOK d = some (datB d):=by
  unfold spec_DatumOK datB
  by_cases h:(d.length:Int) > 4096
  · rw [if_pos (by simpa using h)]
    have:¬ (d.length:Int) ≤ 8:=by omega
    simp [this]
  · rw [if_neg (by simpa using h),p_sDatumOK_L1 d (by simp only [maxLen]; omega) d 0 (by simp)]
    cases allS d d 0 <;> simp
def isLet (c:Int):Bool:=(decide (97 ≤ c) && decide (c ≤ 122)) || (decide (65 ≤ c) && decide (c ≤ 90)) || c == 95
def isDig (c:Int):Bool:=decide (48 ≤ c) && decide (c ≤ 57)
theorem p_l00Letter (c:Int):spec_l00Letter c = some (isLet c):=by
  unfold spec_l00Letter isLet
  by_cases h1:97 ≤ c <;> by_cases h2:c ≤ 122 <;> by_cases h3:65 ≤ c <;> by_cases h4:c ≤ 90 <;> by_cases h5:c = 95 <;> simp [h1,h2,h3,h4,h5]
theorem p_l00Digit (c:Int):spec_l00Digit c = some (isDig c):=by
  unfold spec_l00Digit isDig
  by_cases h1:48 ≤ c <;> simp [h1]
theorem p_isDigit (c:Int):impl_isDigit c = some (isDig c):=by
  unfold impl_isDigit isDig
  by_cases h1:48 ≤ c <;> simp [h1]
def isWordC (b:UInt8):Bool:=isLet b.toNat || isDig b.toNat
def nameOK (t:Str):Bool:=decide (1 ≤ t.length) && decide (t.length ≤ 40) && isLet (t.headD 0).toNat && (t.drop 1).all isWordC
theorem p_l00Word_L1:∀ (t:Str),spec_l00Word_L1 t = some (if t.all isWordC then .go () else .ret false)
  | [] => by rw [spec_l00Word_L1]; rfl
  | c :: t => by
    rw [spec_l00Word_L1,p_l00Letter,Option.bind_some,p_l00Digit,p_l00Word_L1 t]
    cases h1:isLet (c.toNat:Int) <;> cases h2:isDig (c.toNat:Int) <;> simp [isWordC,h1,h2]
theorem p_l00Word (t:Str):spec_l00Word t = some (nameOK t):=by
  unfold spec_l00Word nameOK
  cases t with
  | nil => rfl
  | cons c t =>
    have e:idx (c :: t) 0 = some c:=rfl
    rw [e,Option.bind_some,p_l00Letter,Option.bind_some,p_l00Word_L1]
    have e1:decide (((c :: t).length:Int) < 1) = false:=decide_eq_false (by simp only [List.length_cons]; omega)
    have e2:decide (1 ≤ (c :: t).length) = true:=decide_eq_true (by simp only [List.length_cons]; omega)
    rw [e1,e2]
    by_cases h:(c :: t).length ≤ 40
    · have e3:decide (((c :: t).length:Int) > 40) = false:=decide_eq_false (by omega)
      have e4:decide ((c :: t).length ≤ 40) = true:=decide_eq_true h
      rw [e3,e4]
      cases h1:isLet (c.toNat:Int) <;> cases h3:t.all isWordC <;> simp [h1,h3]
    · have e3:decide (((c :: t).length:Int) > 40) = true:=decide_eq_true (by omega)
      have e4:decide ((c :: t).length ≤ 40) = false:=decide_eq_false h
      rw [e3,e4]
      simp
theorem p_specNameOK (t:Str):spec_NameOK t = some (nameOK t):=by
  unfold spec_NameOK
  rw [p_l00Word]; rfl
def nameC (p:UInt8 × Nat):Bool:=isLet p.1.toNat || (p.2 != 0 && isDig p.1.toNat)
theorem p_NameOK_L1:∀ (t:Str) (i:Nat),impl_NameOK_L1 t i = some (if (t.zipIdx i).all nameC then .go () else .ret false)
  | [],i => by rw [impl_NameOK_L1]; rfl
  | c :: t,i => by
    have e0:((i:Int) == 0) = (i == 0):=by cases i <;> simp; omega
    rw [impl_NameOK_L1,p_NameOK_L1 t (i + 1),List.zipIdx_cons,List.all_cons,p_isDigit,e0]
    unfold nameC isLet
    generalize (List.zipIdx t (i + 1)).all _ = A
    generalize isDig (c.toNat:Int) = D
    generalize (c.toNat:Int) = n
    by_cases h1:97 ≤ n <;> by_cases h2:n ≤ 122 <;> by_cases h3:65 ≤ n <;> by_cases h4:n ≤ 90 <;> by_cases h5:n = 95 <;> cases D <;> by_cases h0:i = 0 <;> simp [h1,h2,h3,h4,h5,h0]
theorem p_NameOK (t:Str):impl_NameOK t = some (nameOK t):=by
  unfold impl_NameOK nameOK
  rw [p_NameOK_L1,Option.bind_some]
  have hz:∀ (r:Str) (k:Nat),(r.zipIdx (k + 1)).all nameC = r.all isWordC:=by
    intro r
    induction r with
    | nil => intro k; rfl
    | cons c r ih => intro k; simp only [List.zipIdx_cons,List.all_cons,ih (k + 1)]; rfl
  cases t with
  | nil => simp [p_within]
  | cons c t =>
    rw [List.zipIdx_cons,List.all_cons,hz t 0]
    have hl:decide (1 ≤ (c :: t).length) = true:=decide_eq_true (by simp)
    have e:nameC (c,0) = isLet (c.toNat:Int):=by simp [nameC]
    rw [e,hl,p_within,Bool.decide_and]
    have e2:decide ((1:Int) ≤ ((c :: t).length:Int)) = true:=decide_eq_true (by simp only [List.length_cons]; omega)
    have e3:decide (((c :: t).length:Int) ≤ 40) = decide ((c :: t).length ≤ 40):=by rw [decide_eq_decide]; omega
    rw [e2,e3]
    show _ = some ((true && _ && isLet (c.toNat:Int)) && t.all isWordC)
    cases isLet (c.toNat:Int) <;> cases t.all isWordC <;> simp
def shortB (t:Str):Bool:=decide ((t.length:Int) ≤ 40)
theorem p_areShort (l:List Str):impl_areShort l = some (l.all shortB):=by
  unfold impl_areShort
  rw [p_slices_ContainsFunc_string_string _ (fun t => !shortB t) l (fun x _ => by unfold impl_areShort_1 shortB; congr 1; rw [Bool.eq_iff_iff]; simp),Option.bind_some,List.not_any_eq_all_not]
  simp
def setB (x:GSet):Bool:=shortB x.Column && datB x.Value && (x.Names.all nameOK && decide ((x.Names.length:Int) ≤ 8)) && (decide (x.Names = []) || decide (x.Value = []))
theorem p_l08Names_L1:∀ l:List Str,spec_l08Names_L1 l = some (if l.all nameOK = true then .go () else .ret false)
  | [] => by rw [spec_l08Names_L1]; simp
  | x :: xs => by
    rw [spec_l08Names_L1,p_specNameOK,Option.bind_some,p_l08Names_L1 xs]
    cases h:nameOK x <;> simp [h]
theorem p_l08Names (l:List Str):spec_l08Names l = some (l.all nameOK && decide ((l.length:Int) ≤ 8)):=by
  unfold spec_l08Names
  rw [p_l08Names_L1]
  cases l.all nameOK <;> simp
theorem p_l08Set (x:GSet):spec_l08Set x = some (setB x):=by
  unfold spec_l08Set setB shortB
  rw [p_sDatumOK,Option.bind_some,p_l08Names,Option.bind_some]
  by_cases h1:(x.Column.length:Int) ≤ 40 <;> cases h2:datB x.Value <;> cases h3:(x.Names.all nameOK && decide ((x.Names.length:Int) ≤ 8)) <;> by_cases h4:x.Names = [] <;> by_cases h5:x.Value = [] <;> simp [h1,h4,h5]
theorem p_setOK (x:GSet) (h:x.Value.length ≤ maxLen):impl_setOK x = some (setB x):=by
  unfold impl_setOK setB
  rw [p_areShort,Option.bind_some,p_DatumOK _ h,Option.bind_some,p_slices_ContainsFunc_string_string _ (fun t => !nameOK t) x.Names (fun y _ => by unfold impl_setOK_1; rw [p_NameOK]; rfl),Option.bind_some,List.not_any_eq_all_not]
  have e:([x.Column].all shortB) = shortB x.Column:=by simp
  have e2:(x.Names.all fun a => !!nameOK a) = x.Names.all nameOK:=by simp
  rw [e,e2]
  have e3:decide ((x.Names.length:Int) ≤ 8) = !decide ((x.Names.length:Int) > 8):=by rw [Bool.eq_iff_iff]; simp
  rw [e3]
  cases h1:shortB x.Column <;> cases h2:datB x.Value <;> cases h3:x.Names.all nameOK <;> cases h6:decide ((x.Names.length:Int) > 8) <;> by_cases h4:x.Names = [] <;> by_cases h5:x.Value = [] <;> simp [h4,h5,List.length_pos_iff]
theorem p_setsOK (l:List GSet) (h:∀ c ∈ l,c.Value.length ≤ maxLen):impl_setsOK l = some (l.all setB && decide ((l.length:Int) ≤ 6)):=by
  unfold impl_setsOK
  rw [p_slices_ContainsFunc_impl_Set_impl_Set _ (fun t => !setB t) l (fun x hx => by unfold impl_setsOK_1; rw [p_setOK x (h x hx)]; rfl),Option.bind_some,List.not_any_eq_all_not]
  have e2:(l.all fun a => !!setB a) = l.all setB:=by simp
  rw [e2]
  by_cases c:(l.length:Int) ≤ 6 <;> simp [c]
theorem beqD {α:Type} [BEq α] [LawfulBEq α] [DecidableEq α] (a b:α):(a == b) = decide (a = b):=by by_cases h:a = b <;> simp [h]
def allI {α:Type} (f:Nat → α → Bool):List α → Nat → Bool
  | [],_ => true
  | x :: xs,i => f i x && allI f xs (i + 1)
theorem allI_iff {α:Type} (f:Nat → α → Bool):∀ (xs:List α) (i:Nat),allI f xs i = true ↔ ∀ q x,xs[q]? = some x → f (i + q) x = true
  | [],i => by simp [allI]
  | x :: xs,i => by
    simp only [allI,Bool.and_eq_true,allI_iff f xs (i + 1)]
    constructor
    · rintro ⟨h1,h2⟩ q y hq
      cases q with
      | zero => simp at hq; subst hq; simpa using h1
      | succ q => have:=h2 q y (by simpa using hq); rw [show i + (q + 1) = i + 1 + q from by omega]; exact this
    · intro h
      refine ⟨by simpa using h 0 x (by simp),fun q y hq => ?_⟩
      have:=h (q + 1) y (by simpa using hq)
      rw [show i + 1 + q = i + (q + 1) from by omega]; exact this
theorem allI_mem {α:Type} {f:Nat → α → Bool} {xs:List α} {i:Nat} (h:allI f xs i = true) {x:α} (hx:x ∈ xs):∃ q,f q x = true:=by
  obtain ⟨q,hq⟩:=List.mem_iff_getElem?.1 hx
  exact ⟨_,(allI_iff f xs i).1 h q x hq⟩
def atI (o:Option Nat):Int:=match o with | some k => (k:Int) | none => -1
theorem atI_neg {o:Option Nat}:decide (atI o < 0) = o.isNone:=by
  cases o with
  | none => rfl
  | some k => exact decide_eq_false (show ¬ ((k:Nat):Int) < 0 by omega)
theorem atI_nn {o:Option Nat}:decide (atI o ≥ 0) = o.isSome:=by
  cases o with
  | none => rfl
  | some k => simp [atI]
def colK (t:GTable) (name:Str):Option Nat:=t.Columns.findIdx? (fun c => c.Name == name)
theorem colK_get {t:GTable} {name:Str} {k:Nat} (h:colK t name = some k):∃ x,idx t.Columns (k:Int) = some x ∧ t.Columns[k]? = some x:=by
  obtain ⟨h1,h2,_⟩:=List.findIdx?_eq_some_iff_getElem.1 h
  exact ⟨t.Columns[k],by rw [idx_nat]; simp [h1],by simp [h1]⟩
theorem p_l04Column_L1 (name:Str):∀ (xs:List GColumn) (i:Nat),spec_l04Column_L1 name xs i = some (match xs.findIdx? (fun c => c.Name == name) with | some k => .ret ((i + k:Nat):Int) | none => .go ())
  | [],i => by rw [spec_l04Column_L1]; rfl
  | x :: xs,i => by
    rw [spec_l04Column_L1,p_l04Column_L1 name xs (i + 1),List.findIdx?_cons]
    cases hp:(x.Name == name) with
    | true => simp
    | false =>
      cases hq:xs.findIdx? (fun c => c.Name == name) with
      | none => simp
      | some k => simp; omega
theorem p_l04Column (t:GTable) (name:Str):spec_l04Column t name = some (atI (colK t name)):=by
  unfold spec_l04Column colK atI
  rw [p_l04Column_L1]
  cases hq:t.Columns.findIdx? (fun c => c.Name == name) <;> simp
theorem p_columnAt (t:GTable) (name:Str):impl_Table_columnAt t name = some (atI (colK t name)):=by
  unfold impl_Table_columnAt
  rw [p_slices_IndexFunc_impl_Column_impl_Column _ (fun c => c.Name == name) t.Columns (fun x _ => by unfold impl_Table_columnAt_1; rfl)]
  rfl
def colB (c:GColumn):Bool :=
  nameOK c.Name && decide (0 ≤ c.Min ∧ c.Min ≤ 1) && decide (1 ≤ c.Max ∧ c.Max ≤ 8) &&
  ((decide (c.Kind = 1) && decide (-1000000000 ≤ c.Low ∧ c.Low ≤ c.High ∧ c.High ≤ 1000000000) && decide (c.Ref = []) && !c.Strong) ||
   ((decide (c.Kind = 2) || decide (c.Kind = 3)) && decide (c.Low = 0) && decide (c.High = 0) && decide (c.Ref = []) && !c.Strong) ||
   (decide (c.Kind = 4) && decide (c.Low = 0) && decide (c.High = 0) && nameOK c.Ref && decide (c.Min = 0)))
theorem p_ColumnOK (c:GColumn):impl_ColumnOK c = some (colB c):=by
  unfold impl_ColumnOK impl_isNumber colB
  simp only [p_NameOK,p_within,Option.bind_some,beqD]
  by_cases h1:0 ≤ c.Min ∧ c.Min ≤ 1
  · by_cases h2:1 ≤ c.Max ∧ c.Max ≤ 8
    · cases hn:nameOK c.Name with
      | false => simp
      | true =>
        simp only [h1,h2,and_self,decide_true,Bool.not_true,Bool.false_eq_true,if_false,Option.bind_some,Bool.true_and]
        by_cases k1:c.Kind = 1
        · simp only [k1]
          by_cases a1:-1000000000 ≤ c.Low ∧ c.Low ≤ c.High ∧ c.High ≤ 1000000000
          · have e1:-1000000000 ≤ c.Low ∧ c.Low ≤ 1000000000:=by omega
            have e2:-1000000000 ≤ c.High ∧ c.High ≤ 1000000000:=by omega
            simp [a1,e1,e2]
          · by_cases e1:-1000000000 ≤ c.Low ∧ c.Low ≤ 1000000000
            · by_cases e2:-1000000000 ≤ c.High ∧ c.High ≤ 1000000000
              · have e3:¬ c.Low ≤ c.High:=by omega
                simp [a1,e1,e2,e3]
              · have a1':¬ (c.Low ≤ c.High ∧ c.High ≤ 1000000000):=by omega
                simp [e1,e2]
                intro p q; exact absurd ⟨p,q⟩ a1'
            · have a2:(-1000000000 ≤ c.Low ∧ c.Low ≤ c.High ∧ c.High ≤ 1000000000) = False:=eq_false a1
              simp only [e1,a2]; simp
        · by_cases k2:c.Kind = 2
          · simp [k2]
          · by_cases k3:c.Kind = 3
            · simp [k3]
            · by_cases k4:c.Kind = 4
              · simp only [k4]
                by_cases a1:c.Low = 0 <;> by_cases a2:c.High = 0 <;> cases a3:nameOK c.Ref <;> simp [a1,a2]
              · simp [k1,k2,k3,k4]
    · cases hn:nameOK c.Name <;> simp [h1,h2]
  · cases hn:nameOK c.Name <;> simp [h1]
theorem p_sColumnOK (c:GColumn):spec_ColumnOK c = some (colB c):=by
  unfold spec_ColumnOK colB
  simp only [p_specNameOK,p_in,Option.bind_some,beqD,bne]
  by_cases h1:0 ≤ c.Min ∧ c.Min ≤ 1
  · by_cases h2:1 ≤ c.Max ∧ c.Max ≤ 8
    · cases hn:nameOK c.Name with
      | false => simp
      | true =>
        by_cases hk:1 ≤ c.Kind ∧ c.Kind ≤ 4
        · simp only [h1,h2,hk,and_self,decide_true,Bool.not_true,Bool.false_eq_true,if_false,Option.bind_some,Bool.true_and]
          by_cases k1:c.Kind = 1
          · simp only [k1]
            by_cases a1:-1000000000 ≤ c.Low ∧ c.Low ≤ c.High ∧ c.High ≤ 1000000000
            · have e1:-1000000000 ≤ c.Low ∧ c.Low ≤ c.High:=by omega
              have e2:c.Low ≤ c.High ∧ c.High ≤ 1000000000:=by omega
              simp [a1,e1,e2]
            · by_cases e1:-1000000000 ≤ c.Low ∧ c.Low ≤ c.High
              · have e2:¬ (c.Low ≤ c.High ∧ c.High ≤ 1000000000):=by omega
                simp [a1,e1,e2]
              · simp [a1,e1]
          · by_cases a1:c.Low = 0
            · by_cases a2:c.High = 0
              · by_cases k4:c.Kind = 4
                · cases a3:nameOK c.Ref <;> simp [k4,a1,a2]
                · have:c.Kind = 2 ∨ c.Kind = 3:=by omega
                  by_cases a4:c.Ref = [] <;> rcases this with k | k <;> simp [k,a1,a2,a4]
              · simp [k1,a1,a2]
            · simp [k1,a1]
        · have k1:¬ c.Kind = 1:=by omega
          have k2:¬ c.Kind = 2:=by omega
          have k3:¬ c.Kind = 3:=by omega
          have k4:¬ c.Kind = 4:=by omega
          simp [hk,k1,k2,k3,k4]
    · cases hn:nameOK c.Name <;> by_cases hk:1 ≤ c.Kind ∧ c.Kind ≤ 4 <;> simp [h1,h2,hk]
  · cases hn:nameOK c.Name <;> by_cases hk:1 ≤ c.Kind ∧ c.Kind ≤ 4 <;> simp [h1,hk]
def colStep (t:GTable) (i:Nat) (x:GColumn):Bool:=colB x && !(t.Columns.take i).any (fun c => c.Name == x.Name)
theorem colK_here {t:GTable} {i:Nat} {x:GColumn} (hx:t.Columns[i]? = some x):(atI (colK t x.Name) != (i:Int)) = (t.Columns.take i).any (fun c => c.Name == x.Name):=by
  have hi:=(List.getElem?_eq_some_iff.1 hx).1
  have hxe:=(List.getElem?_eq_some_iff.1 hx).2
  by_cases ha:(t.Columns.take i).any (fun c => c.Name == x.Name) = true
  · rw [ha]
    obtain ⟨c,hc,hn⟩:=List.any_eq_true.1 ha
    obtain ⟨j,hj⟩:=List.mem_iff_getElem?.1 hc
    have hji:j < i:=by have:=(List.getElem?_eq_some_iff.1 hj).1; simp at this; omega
    rw [List.getElem?_take_of_lt hji] at hj
    have hne:colK t x.Name ≠ some i:=by
      intro he
      obtain ⟨_,_,h3⟩:=List.findIdx?_eq_some_iff_getElem.1 he
      have:=h3 j hji
      rw [(List.getElem?_eq_some_iff.1 hj).2] at this
      exact this hn
    cases hk:colK t x.Name with
    | none => simp [atI]
    | some k =>
      have:k ≠ i:=fun h => hne (by rw [hk,h])
      simp [atI]; omega
  · simp only [Bool.not_eq_true] at ha
    rw [ha]
    have:colK t x.Name = some i:=by
      refine List.findIdx?_eq_some_iff_getElem.2 ⟨hi,by simp [hxe],fun j hj => ?_⟩
      have hm:t.Columns[j]'(by omega) ∈ t.Columns.take i:=by
        rw [List.mem_iff_getElem?]
        exact ⟨j,by rw [List.getElem?_take_of_lt hj]; simp⟩
      have:=List.any_eq_false.1 ha _ hm
      simpa using this
    rw [this]
    simp [atI]
theorem p_isTable_L1 (t:GTable):∀ (xs:List GColumn) (i:Nat),t.Columns.drop i = xs → impl_isTable_L1 t xs i = some (if allI (colStep t) xs i = true then .go () else .ret false)
  | [],i,_ => by rw [impl_isTable_L1]; simp [allI]
  | x :: xs,i,h => by
    have hx:t.Columns[i]? = some x:=by rw [← idx_nat]; exact idx_drop h
    rw [impl_isTable_L1,p_ColumnOK,Option.bind_some,p_columnAt,Option.bind_some,colK_here hx,p_isTable_L1 t xs (i + 1) (drop_next h)]
    cases h1:colB x <;> cases h2:(t.Columns.take i).any (fun c => c.Name == x.Name) <;> simp [allI,colStep,h1,h2]
theorem p_l04Table_L2 (t:GTable) (x:GColumn) (i:Nat) (hi:i ≤ t.Columns.length) (hl:t.Columns.length ≤ 6):∀ (n k fuel:Nat),n + k = i → n < fuel → spec_l04Table_L2 i t x fuel k = some (if ((t.Columns.take i).drop k).any (fun c => c.Name == x.Name) = true then .ret false else .go ())
  | _,_,0,_,h => by omega
  | 0,k,fuel + 1,hk,_ => by
    rw [spec_l04Table_L2,if_neg (by simp; omega),List.drop_of_length_le (by simp; omega)]; simp
  | n + 1,k,fuel + 1,hk,hf => by
    obtain ⟨y,hy⟩:∃ y,t.Columns[k]? = some y:=⟨t.Columns[k]'(by omega),List.getElem?_eq_getElem (by omega)⟩
    have hd:(t.Columns.take i).drop k = y :: (t.Columns.take i).drop (k + 1):=by
      have hk2:k < (t.Columns.take i).length:=by simp; omega
      rw [List.drop_eq_getElem_cons hk2]
      congr 1
      rw [List.getElem_take]
      exact (List.getElem?_eq_some_iff.1 hy).2
    have ew:w64 ((k:Int) + 1) = ((k + 1:Nat):Int):=by rw [w64_id (by omega)]; omega
    rw [spec_l04Table_L2,if_pos (by simp; omega),idx_nat,hy,Option.bind_some,ew,p_l04Table_L2 t x i hi hl n (k + 1) fuel (by omega) (by omega),hd]
    cases hn:(y.Name == x.Name) <;> simp [hn]
theorem p_l04Table_L1 (t:GTable) (hl:t.Columns.length ≤ 6):∀ (xs:List GColumn) (i:Nat),t.Columns.drop i = xs → spec_l04Table_L1 t xs i = some (if allI (colStep t) xs i = true then .go () else .ret false)
  | [],i,_ => by rw [spec_l04Table_L1]; simp [allI]
  | x :: xs,i,h => by
    have hi:=drop_lt h
    have hf:2 ^ 40 < FUEL:=by unfold FUEL; decide
    have e:=p_l04Table_L2 t x i (by omega) hl i 0 FUEL (by omega) (by omega)
    rw [List.drop_zero] at e
    have e':spec_l04Table_L2 i t x FUEL 0 = _:=e
    rw [spec_l04Table_L1,p_sColumnOK,Option.bind_some,e',p_l04Table_L1 t hl xs (i + 1) (drop_next h)]
    cases h1:colB x <;> cases h2:(t.Columns.take i).any (fun c => c.Name == x.Name) <;> simp [allI,colStep,h1,h2]
def uniStep (t:GTable) (i:Nat) (x:Int):Bool:=decide (0 ≤ x ∧ x ≤ (t.Columns.length:Int) - 1) && (i == 0 || match t.Unique[i - 1]? with | some y => decide (y < x) | none => false)
theorem p_uni (t:GTable) (i:Nat) (x:Int) (hi:i < t.Unique.length) (hl:t.Unique.length ≤ 6) (hc:t.Columns.length ≤ 6) (W:Int → Int → Int → Option Bool) (hW:∀ n a b,W n a b = some (decide (a ≤ n ∧ n ≤ b))) :
    ((W x 0 (w64 ((t.Columns.length:Int) - 1))).bind fun r_176 =>
    if (!r_176) then
    some true
    else
    if (decide ((i:Int) > 0)) then
    (idx t.Unique (w64 ((i:Int) - 1))).bind fun x_180 =>
    some (decide (x_180 ≥ x))
    else
    some false:Option Bool) = some (!uniStep t i x):=by
  rw [hW,Option.bind_some,w64_id (n:=(t.Columns.length:Int) - 1) (by omega)]
  unfold uniStep
  by_cases h:0 ≤ x ∧ x ≤ (t.Columns.length:Int) - 1
  · by_cases h0:i = 0
    · subst h0; simp [h]
    · obtain ⟨y,hy⟩:∃ y,t.Unique[i - 1]? = some y:=⟨t.Unique[i - 1],List.getElem?_eq_getElem (by omega)⟩
      have e1:w64 ((i:Int) - 1) = ((i - 1:Nat):Int):=by rw [w64_id (by omega)]; omega
      rw [e1,idx_nat,hy]
      have hp:0 < i:=by omega
      by_cases hc:y < x
      · have:¬ x ≤ y:=by omega
        simp [h,h0,hp,hc,this]
      · have:x ≤ y:=by omega
        simp [h,h0,hp,hc,this]
  · simp [h]
theorem p_isTable_L2 (t:GTable) (hl:t.Unique.length ≤ 6) (hc:t.Columns.length ≤ 6):∀ (xs:List Int) (i:Nat),t.Unique.drop i = xs → impl_isTable_L2 t xs i = some (if allI (uniStep t) xs i = true then .go () else .ret false)
  | [],i,_ => by rw [impl_isTable_L2]; simp [allI]
  | x :: xs,i,h => by
    rw [impl_isTable_L2,p_uni t i x (drop_lt h) hl hc impl_within p_within,Option.bind_some,p_isTable_L2 t hl hc xs (i + 1) (drop_next h)]
    cases h1:uniStep t i x <;> simp [allI,h1]
theorem p_l04Table_L3 (t:GTable) (hl:t.Unique.length ≤ 6) (hc:t.Columns.length ≤ 6):∀ (xs:List Int) (i:Nat),t.Unique.drop i = xs → spec_l04Table_L3 t xs i = some (if allI (uniStep t) xs i = true then .go () else .ret false)
  | [],i,_ => by rw [spec_l04Table_L3]; simp [allI]
  | x :: xs,i,h => by
    rw [spec_l04Table_L3,p_uni t i x (drop_lt h) hl hc spec_l01In p_in,Option.bind_some,p_l04Table_L3 t hl hc xs (i + 1) (drop_next h)]
    cases h1:uniStep t i x <;> simp [allI,h1]
theorem uni_ge (t:GTable) (h:allI (uniStep t) t.Unique 0 = true):∀ (i:Nat) x,t.Unique[i]? = some x → (i:Int) ≤ x
  | 0,x,hx => by
    have:=(allI_iff _ _ _).1 h 0 x hx
    simp only [uniStep,Bool.and_eq_true,decide_eq_true_eq] at this
    exact this.1.1
  | i + 1,x,hx => by
    have hl:=(List.getElem?_eq_some_iff.1 hx).1
    obtain ⟨y,hy⟩:∃ y,t.Unique[i]? = some y:=⟨t.Unique[i],List.getElem?_eq_getElem (by omega)⟩
    have h1:=uni_ge t h i y hy
    have:=(allI_iff _ _ _).1 h (i + 1) x hx
    simp only [uniStep,Bool.and_eq_true,decide_eq_true_eq,Bool.or_eq_true,Nat.zero_add,Nat.add_sub_cancel,hy] at this
    rcases this.2 with h2 | h2
    · simp at h2
    · omega
theorem uni_len (t:GTable) (h:allI (uniStep t) t.Unique 0 = true):t.Unique.length ≤ t.Columns.length:=by
  rcases Nat.eq_zero_or_pos t.Unique.length with h0 | h0
  · omega
  · obtain ⟨x,hx⟩:∃ x,t.Unique[t.Unique.length - 1]? = some x:=⟨t.Unique[t.Unique.length - 1],List.getElem?_eq_getElem (by omega)⟩
    have h1:=uni_ge t h _ x hx
    have:=(allI_iff _ _ _).1 h _ x hx
    simp only [uniStep,Bool.and_eq_true,decide_eq_true_eq] at this
    have:=this.1.2
    omega
def tabB (t:GTable):Bool:=nameOK t.Name && decide (1 ≤ (t.Columns.length:Int) ∧ (t.Columns.length:Int) ≤ 6) && allI (colStep t) t.Columns 0 && allI (uniStep t) t.Unique 0
theorem p_isTable (t:GTable):impl_isTable t = some (tabB t):=by
  unfold impl_isTable tabB
  rw [p_NameOK,Option.bind_some,p_within,Option.bind_some]
  cases hn:nameOK t.Name with
  | false => simp
  | true =>
    by_cases hc:1 ≤ (t.Columns.length:Int) ∧ (t.Columns.length:Int) ≤ 6
    · by_cases hu:(t.Unique.length:Int) > (t.Columns.length:Int)
      · have:allI (uniStep t) t.Unique 0 = false:=by
          cases hh:allI (uniStep t) t.Unique 0 with
          | false => rfl
          | true => have:=uni_len t hh; omega
        simp [hc,hu,this]
      · rw [p_isTable_L1 t t.Columns 0 (by simp),p_isTable_L2 t (by omega) (by omega) t.Unique 0 (by simp)]
        cases h1:allI (colStep t) t.Columns 0 <;> cases h2:allI (uniStep t) t.Unique 0 <;> simp [hc,hu]
    · simp [hc]
theorem p_l04Table (t:GTable):spec_l04Table t = some (tabB t):=by
  unfold spec_l04Table tabB
  rw [p_specNameOK,Option.bind_some,p_in,Option.bind_some]
  cases hn:nameOK t.Name with
  | false => simp
  | true =>
    by_cases hc:1 ≤ (t.Columns.length:Int) ∧ (t.Columns.length:Int) ≤ 6
    · by_cases hu:(t.Unique.length:Int) > 6
      · have:allI (uniStep t) t.Unique 0 = false:=by
          cases hh:allI (uniStep t) t.Unique 0 with
          | false => rfl
          | true => have:=uni_len t hh; omega
        simp [hc,hu,this]
      · rw [p_l04Table_L1 t (by omega) t.Columns 0 (by simp),p_l04Table_L3 t (by omega) (by omega) t.Unique 0 (by simp)]
        cases h1:allI (colStep t) t.Columns 0 <;> cases h2:allI (uniStep t) t.Unique 0 <;> simp [hc,hu]
    · simp [hc]
def outB (c:GColumn) (x:GAtom):Bool:=!decide (c.Low ≤ x.N ∧ x.N ≤ c.High)
theorem p_Idx_L1 (c:GColumn):∀ (xs:List GAtom) (i:Nat),slices_IndexFunc_impl_Atom_impl_Atom_L1 (fun a => impl_Column_fits_1 a c) xs i = some (.go ()) ∧ xs.any (outB c) = false ∨ ∃ j:Nat,slices_IndexFunc_impl_Atom_impl_Atom_L1 (fun a => impl_Column_fits_1 a c) xs i = some (.ret (j:Int)) ∧ xs.any (outB c) = true
  | [],i => .inl ⟨by rw [slices_IndexFunc_impl_Atom_impl_Atom_L1],rfl⟩
  | x :: xs,i => by
    rw [slices_IndexFunc_impl_Atom_impl_Atom_L1]
    have e:impl_Column_fits_1 x c = some (outB c x):=by unfold impl_Column_fits_1; rw [p_within,Option.bind_some]; rfl
    rw [e,Option.bind_some]
    cases h:outB c x with
    | true => rw [if_pos rfl]; exact .inr ⟨i,rfl,by simp [h]⟩
    | false =>
      rw [if_neg (by simp)]
      rcases p_Idx_L1 c xs (i + 1) with ⟨h1,h2⟩ | ⟨j,h1,h2⟩
      · exact .inl ⟨h1,by simp [h,h2]⟩
      · exact .inr ⟨j,h1,by simp [h,h2]⟩
theorem p_Contains (c:GColumn) (d:List GAtom):slices_ContainsFunc_impl_Atom_impl_Atom d (fun a => impl_Column_fits_1 a c) = some (d.any (outB c)):=by
  unfold slices_ContainsFunc_impl_Atom_impl_Atom slices_IndexFunc_impl_Atom_impl_Atom
  rcases p_Idx_L1 c d 0 with ⟨h1,h2⟩ | ⟨j,h1,h2⟩
  · rw [h1,h2]; rfl
  · rw [h1,h2]; simp
theorem p_sFits_L1 (c:GColumn):∀ (xs:List GAtom),spec_l04Fits_L1 c xs = some (if (c.Kind == 1 && xs.any (outB c)) = true then .ret 4 else .go ())
  | [] => by rw [spec_l04Fits_L1]; simp
  | x :: xs => by
    rw [spec_l04Fits_L1,p_sFits_L1 c xs]
    by_cases k:c.Kind = 1
    · rw [if_pos (by simpa using k),p_in,Option.bind_some,Option.bind_some]
      have e:(!decide (c.Low ≤ x.N ∧ x.N ≤ c.High)) = outB c x:=rfl
      rw [e]
      cases h:outB c x <;> simp [k,h]
    · rw [if_neg (by simpa using k),Option.bind_some,if_neg (by simp)]
      simp [k]
def fitsF (c:GColumn) (d:List GAtom):Int :=
  if (match d[0]? with | some x => x.Kind != c.Kind | none => false) = true then 9 else if ¬ (c.Min ≤ d.length ∧ (d.length:Int) ≤ c.Max) then 6 else if (c.Kind == 1 && d.any (outB c)) = true then 4 else 0
theorem p_cond (c:GColumn) (d:List GAtom):((if (decide ((d.length:Int) > 0)) then (idx d 0).bind fun x_11 => some (x_11.Kind != c.Kind) else some false:Option Bool)) = some (match d[0]? with | some x => x.Kind != c.Kind | none => false):=by
  cases d with
  | nil => rfl
  | cons x xs =>
    rw [if_pos (by simp)]
    rfl
theorem p_fits (c:GColumn) (d:List GAtom):impl_Column_fits c d = some (fitsF c d):=by
  unfold impl_Column_fits fitsF
  rw [p_cond,Option.bind_some]
  generalize (match d[0]? with | some x => x.Kind != c.Kind | none => false) = b
  cases b with
  | true => simp
  | false =>
    simp only [Bool.false_eq_true,if_false]
    rw [p_within,Option.bind_some]
    by_cases h:c.Min ≤ d.length ∧ (d.length:Int) ≤ c.Max
    · rw [decide_eq_true h,if_neg (not_not_intro h)]
      simp only [Bool.not_true,Bool.false_eq_true,if_false]
      by_cases k:c.Kind = 1
      · rw [if_pos (by simpa using k),p_Contains,Option.bind_some]
        cases hh:d.any (outB c) <;> simp [k]
      · rw [if_neg (by simpa using k)]
        simp [k]
    · rw [decide_eq_false h,if_pos h]
      simp
theorem p_sfits (c:GColumn) (d:List GAtom):spec_l04Fits c d = some (fitsF c d):=by
  unfold spec_l04Fits fitsF
  rw [p_cond,Option.bind_some]
  generalize (match d[0]? with | some x => x.Kind != c.Kind | none => false) = b
  cases b with
  | true => simp
  | false =>
    simp only [Bool.false_eq_true,if_false]
    rw [p_in,Option.bind_some]
    by_cases h:c.Min ≤ d.length ∧ (d.length:Int) ≤ c.Max
    · rw [decide_eq_true h,if_neg (not_not_intro h)]
      simp only [Bool.not_true,Bool.false_eq_true,if_false]
      rw [p_sFits_L1]
      cases hh:(c.Kind == 1 && d.any (outB c)) <;> simp
    · rw [decide_eq_false h,if_pos h]
      simp
def cellB (t:GTable) (i:Nat) (d:List GAtom):Bool:=datB d && match t.Columns[i]? with | some c => fitsF c d == 0 | none => false
def rowOKB (t:GTable) (r:GRow):Bool:=decide (1 ≤ r.Id ∧ r.Id ≤ 1000000) && decide (r.Cells.length = t.Columns.length) && allI (cellB t) r.Cells 0
theorem p_cellsOK_L1 (t:GTable):∀ (xs:List (List GAtom)) (i:Nat),i + xs.length ≤ t.Columns.length → (∀ d ∈ xs,d.length ≤ maxLen) → impl_cellsOK_L1 t xs i = some (if allI (cellB t) xs i = true then .go () else .ret false)
  | [],i,_,_ => by rw [impl_cellsOK_L1]; rfl
  | d :: xs,i,h,hd => by
    simp only [List.length_cons] at h
    obtain ⟨c,hc⟩:∃ c,t.Columns[i]? = some c:=⟨t.Columns[i]'(by omega),List.getElem?_eq_getElem (by omega)⟩
    rw [impl_cellsOK_L1,p_DatumOK d (hd d (by simp)),Option.bind_some,idx_nat,hc,p_cellsOK_L1 t xs (i + 1) (by omega) (fun x hx => hd x (by simp [hx]))]
    simp only [allI,cellB,hc,Option.bind_some,p_fits]
    cases datB d <;> by_cases q:fitsF c d = 0 <;> simp [q]
theorem p_l05Row_L1 (t:GTable):∀ (xs:List (List GAtom)) (i:Nat),i + xs.length ≤ t.Columns.length → spec_l05Row_L1 t xs i = some (if allI (cellB t) xs i = true then .go () else .ret false)
  | [],i,_ => by rw [spec_l05Row_L1]; rfl
  | d :: xs,i,h => by
    simp only [List.length_cons] at h
    obtain ⟨c,hc⟩:∃ c,t.Columns[i]? = some c:=⟨t.Columns[i]'(by omega),List.getElem?_eq_getElem (by omega)⟩
    rw [spec_l05Row_L1,p_sDatumOK d,Option.bind_some,idx_nat,hc,p_l05Row_L1 t xs (i + 1) (by omega)]
    simp only [allI,cellB,hc,Option.bind_some,p_sfits]
    cases datB d <;> by_cases q:fitsF c d = 0 <;> simp [q]
theorem p_cellsOK (t:GTable) (r:GRow) (h:∀ d ∈ r.Cells,d.length ≤ maxLen):impl_cellsOK t r = some (decide (r.Cells.length = t.Columns.length) && allI (cellB t) r.Cells 0):=by
  unfold impl_cellsOK
  by_cases e:r.Cells.length = t.Columns.length
  · have e':((r.Cells.length:Int) != (t.Columns.length:Int)) = false:=by simp [e]
    rw [e',p_cellsOK_L1 t r.Cells 0 (by omega) h]
    cases allI (cellB t) r.Cells 0 <;> simp [e]
  · have e':((r.Cells.length:Int) != (t.Columns.length:Int)) = true:=by simp; omega
    rw [e']
    simp [e]
theorem p_l05Row (t:GTable) (r:GRow):spec_l05Row t r = some (rowOKB t r):=by
  unfold spec_l05Row rowOKB
  rw [p_in,Option.bind_some]
  by_cases e:r.Cells.length = t.Columns.length
  · have e':((r.Cells.length:Int) != (t.Columns.length:Int)) = false:=by simp [e]
    rw [e',p_l05Row_L1 t r.Cells 0 (by omega)]
    cases decide (1 ≤ r.Id ∧ r.Id ≤ 1000000) <;> cases allI (cellB t) r.Cells 0 <;> simp [e]
  · have e':((r.Cells.length:Int) != (t.Columns.length:Int)) = true:=by simp; omega
    rw [e']
    cases decide (1 ≤ r.Id ∧ r.Id ≤ 1000000) <;> simp [e]
theorem p_RowOK (t:GTable) (r:GRow) (h:∀ d ∈ r.Cells,d.length ≤ maxLen):impl_RowOK t r = some (tabB t && rowOKB t r):=by
  unfold impl_RowOK impl_isId rowOKB
  rw [p_isTable,p_within,p_cellsOK t r h]
  cases tabB t <;> cases decide (1 ≤ r.Id ∧ r.Id ≤ 1000000) <;> simp
theorem p_sRowOK (t:GTable) (r:GRow):spec_RowOK t r = some (tabB t && rowOKB t r):=by
  unfold spec_RowOK
  rw [p_l04Table,p_l05Row]
  cases tabB t <;> simp
theorem rowOKB_len {t:GTable} {r:GRow} (h:rowOKB t r = true):r.Cells.length = t.Columns.length:=by
  unfold rowOKB at h
  simp only [Bool.and_eq_true,decide_eq_true_eq] at h
  exact h.1.2
theorem rowOKB_cell {t:GTable} {r:GRow} (h:rowOKB t r = true) {d:List GAtom} (hd:d ∈ r.Cells):datB d = true:=by
  unfold rowOKB at h
  simp only [Bool.and_eq_true] at h
  obtain ⟨q,hq⟩:=allI_mem h.2 hd
  unfold cellB at hq
  simp only [Bool.and_eq_true] at hq
  exact hq.1
theorem datB_len {d:List GAtom} (h:datB d = true):d.length ≤ 8:=by
  unfold datB at h
  simp only [Bool.and_eq_true,decide_eq_true_eq] at h
  omega
def rcell (t:GTable) (r:GRow) (n:Str):List GAtom:=match colK t n with | some k => (r.Cells[k]?).getD [] | none => [⟨4,r.Id,[]⟩]
theorem rcell_some {t:GTable} {r:GRow} {n:Str} {k:Nat} (hl:r.Cells.length = t.Columns.length) (hk:colK t n = some k):idx r.Cells (k:Int) = some (rcell t r n) ∧ rcell t r n ∈ r.Cells:=by
  obtain ⟨x,_,h2⟩:=colK_get hk
  have hlt:k < r.Cells.length:=by rw [hl]; exact (List.getElem?_eq_some_iff.1 h2).1
  unfold rcell
  rw [hk,idx_nat]
  simp only [List.getElem?_eq_getElem hlt,Option.getD_some]
  exact ⟨trivial,List.getElem_mem hlt⟩
theorem rcell_len {t:GTable} {r:GRow} {n:Str} (h:rowOKB t r = true):(rcell t r n).length ≤ 8:=by
  cases hk:colK t n with
  | some k => exact datB_len (rowOKB_cell h (rcell_some (rowOKB_len h) hk).2)
  | none => simp [rcell,hk]
theorem p_cell {t:GTable} {r:GRow} (hl:r.Cells.length = t.Columns.length) (n:Str):impl_Table_cell t r n = some (rcell t r n):=by
  unfold impl_Table_cell
  rw [p_columnAt,Option.bind_some,atI_nn]
  cases hk:colK t n with
  | some k => simp [atI,(rcell_some hl hk).1]
  | none => simp [rcell,hk]
theorem p_pick_L1 {t:GTable} {r:GRow} (h:rowOKB t r = true):∀ (ns:List Str) (out:List (List GAtom)),out.length + ns.length ≤ 2 ^ 30 → impl_pick_L1 t r ns out = some (out ++ ns.map (rcell t r))
  | [],out,_ => by rw [impl_pick_L1]; simp
  | n :: ns,out,hl => by
    simp only [List.length_cons] at hl
    have:=rcell_len (n:=n) h
    rw [impl_pick_L1,p_cell (rowOKB_len h),Option.bind_some]
    unfold slices_Clone_impl_Atom_impl_Atom
    rw [if_pos (by simp; omega),Option.bind_some,if_pos (by simp; omega),p_pick_L1 h ns _ (by simp; omega)]
    simp
theorem p_pick {t:GTable} {r:GRow} (h:rowOKB t r = true) (ns:List Str) (hl:ns.length ≤ 4096):impl_pick t r ns = some ⟨r.Id,ns.map (rcell t r)⟩:=by
  unfold impl_pick
  rw [p_pick_L1 h ns [] (by simp; omega)]
  rfl
def uuidS:Str:=[95,117,117,105,100]
def namedC (t:GTable) (name:Str):Option GColumn:=match colK t name with
  | some k => t.Columns[k]?
  | none => if name = uuidS then some ⟨uuidS,4,0,1,0,0,[],false⟩ else none
theorem p_named (t:GTable) (name:Str):∃ c,impl_Table_named t name = some (c,(namedC t name).isSome) ∧ ∀ d,namedC t name = some d → c = d:=by
  unfold impl_Table_named namedC
  rw [p_columnAt,Option.bind_some,atI_nn]
  cases hk:colK t name with
  | some k =>
    obtain ⟨x,e1,e2⟩:=colK_get hk
    simp only [Option.isSome_some,if_true,atI]
    rw [e1,Option.bind_some,e2]
    exact ⟨x,rfl,fun d hd => Option.some.inj hd⟩
  | none =>
    rw [if_neg (by simp)]
    by_cases h:name = uuidS
    · subst h
      refine ⟨⟨uuidS,4,0,1,0,0,[],false⟩,?_,fun d hd => ?_⟩
      · rw [if_pos rfl]; rw [if_pos (by simp [uuidS])]; rfl
      · rw [if_pos rfl] at hd; exact Option.some.inj hd
    · refine ⟨⟨[],0,0,0,0,0,[],false⟩,?_,fun d hd => ?_⟩
      · rw [if_neg h,if_neg (by simpa [uuidS] using h)]; rfl
      · rw [if_neg h] at hd; cases hd
def otherK (v:List GAtom) (k:Int):Bool:=match v[0]? with | some x => x.Kind != k | none => false
theorem p_other (v:List GAtom) (k:Int):((if (decide ((v.length:Int) > 0)) then (idx v 0).bind fun x => some (x.Kind != k) else some false:Option Bool)) = some (otherK v k):=by
  cases v with
  | nil => rfl
  | cons x xs => rw [if_pos (by simp)]; rfl
def firstI {α:Type} (f:α → Int):List α → Int
  | [] => 0
  | x :: xs => if f x = 0 then firstI f xs else f x
def setI (t:GTable) (list:List GSet) (i:Nat) (x:GSet):Int:=match colK t x.Column with
  | none => 11
  | some k => if (list.take i).any (fun y => y.Column == x.Column) = true then 8 else match t.Columns[k]? with
    | none => 0
    | some c => if (otherK x.Value c.Kind || (decide ((x.Names.length:Int) > 0) && c.Kind != 4)) = true then 9 else 0
def setsI (t:GTable) (list:List GSet):List GSet → Nat → Int
  | [],_ => 0
  | x :: xs,i => if setI t list i x = 0 then setsI t list xs (i + 1) else setI t list i x
theorem p_setsCode_L1 (t:GTable) (list:List GSet):∀ (xs:List GSet) (i:Nat),list.drop i = xs → impl_setsCode_L1 t list xs i = some (if setsI t list xs i = 0 then .go () else .ret (setsI t list xs i))
  | [],i,_ => by rw [impl_setsCode_L1]; simp [setsI]
  | x :: xs,i,h => by
    have hi:=drop_lt h
    rw [impl_setsCode_L1,p_columnAt,Option.bind_some,atI_neg]
    have hx:setsI t list (x :: xs) i = if setI t list i x = 0 then setsI t list xs (i + 1) else setI t list i x:=rfl
    rw [hx,p_setsCode_L1 t list xs (i + 1) (drop_next h)]
    unfold setI
    cases hk:colK t x.Column with
    | none => simp
    | some k =>
      obtain ⟨c,e1,e2⟩:=colK_get hk
      simp only [Option.isNone_some,Bool.false_eq_true,if_false,atI]
      rw [if_pos (by omega),p_slices_ContainsFunc_impl_Set_impl_Set _ (fun y => y.Column == x.Column) (list.take i) (fun y _ => by unfold impl_setsCode_1; rfl),Option.bind_some]
      cases ha:(list.take i).any (fun y => y.Column == x.Column) with
      | true => simp
      | false =>
        simp only [Bool.false_eq_true,if_false,e2,e1,Option.bind_some]
        have ho:=p_other x.Value c.Kind
        cases hv:x.Value with
        | nil =>
          by_cases hn:x.Names = [] <;> by_cases h4:c.Kind = 4 <;> simp [otherK,hn,List.length_pos_iff,h4]
        | cons a v =>
          have e0:idx (a :: v) 0 = some a:=rfl
          rw [e0]
          by_cases hn:x.Names = [] <;> by_cases h4:c.Kind = 4 <;> by_cases h5:a.Kind = c.Kind <;> by_cases h6:a.Kind = 4 <;> by_cases h7:4 = c.Kind <;> first | (exfalso; omega) | (simp [otherK,hn,List.length_pos_iff,h5,h4,h6]; done) | (simp [otherK,hn,List.length_pos_iff,h5,h4,h6,h7]; done)
theorem p_setsCode (t:GTable) (list:List GSet):impl_setsCode t list = some (setsI t list list 0):=by
  unfold impl_setsCode
  rw [p_setsCode_L1 t list list 0 (by simp)]
  by_cases h:setsI t list list 0 = 0 <;> simp [h]
theorem p_l08Sets_L2 (list:List GSet) (x:GSet) (i:Nat) (hi:i ≤ list.length) (hl:list.length ≤ 6):∀ (n k fuel:Nat),n + k = i → n < fuel → spec_l08Sets_L2 i list x fuel k = some (if ((list.take i).drop k).any (fun c => c.Column == x.Column) = true then .ret 8 else .go ())
  | _,_,0,_,h => by omega
  | 0,k,fuel + 1,hk,_ => by
    rw [spec_l08Sets_L2,if_neg (by simp; omega),List.drop_of_length_le (by simp; omega)]; simp
  | n + 1,k,fuel + 1,hk,hf => by
    obtain ⟨y,hy⟩:∃ y,list[k]? = some y:=⟨list[k]'(by omega),List.getElem?_eq_getElem (by omega)⟩
    have hd:(list.take i).drop k = y :: (list.take i).drop (k + 1):=by
      have hk2:k < (list.take i).length:=by simp; omega
      rw [List.drop_eq_getElem_cons hk2]
      congr 1
      rw [List.getElem_take]
      exact (List.getElem?_eq_some_iff.1 hy).2
    have ew:w64 ((k:Int) + 1) = ((k + 1:Nat):Int):=by rw [w64_id (by omega)]; omega
    rw [spec_l08Sets_L2,if_pos (by simp; omega),idx_nat,hy,Option.bind_some,ew,p_l08Sets_L2 list x i hi hl n (k + 1) fuel (by omega) (by omega),hd]
    cases hn:(y.Column == x.Column) <;> simp [hn]
theorem p_l08Sets_L1 (t:GTable) (list:List GSet) (hl:list.length ≤ 6):∀ (xs:List GSet) (i:Nat),list.drop i = xs → spec_l08Sets_L1 t list xs i = some (if setsI t list xs i = 0 then .go () else .ret (setsI t list xs i))
  | [],i,_ => by rw [spec_l08Sets_L1]; simp [setsI]
  | x :: xs,i,h => by
    have hi:=drop_lt h
    have hf:2 ^ 40 < FUEL:=by unfold FUEL; decide
    have e:=p_l08Sets_L2 list x i (by omega) hl i 0 FUEL (by omega) (by omega)
    rw [List.drop_zero] at e
    have e':spec_l08Sets_L2 i list x FUEL 0 = _:=e
    rw [spec_l08Sets_L1,p_l04Column,Option.bind_some,atI_neg]
    have hx:setsI t list (x :: xs) i = if setI t list i x = 0 then setsI t list xs (i + 1) else setI t list i x:=rfl
    rw [hx,p_l08Sets_L1 t list hl xs (i + 1) (drop_next h),e']
    unfold setI
    cases hk:colK t x.Column with
    | none => simp
    | some k =>
      obtain ⟨c,e1,e2⟩:=colK_get hk
      simp only [Option.isNone_some,Bool.false_eq_true,if_false,atI]
      cases ha:(list.take i).any (fun y => y.Column == x.Column) with
      | true => simp
      | false =>
        simp only [Bool.false_eq_true,if_false,e2,e1,Option.bind_some]
        cases hv:x.Value with
        | nil =>
          by_cases hn:x.Names = [] <;> by_cases h4:c.Kind = 4 <;> simp [otherK,hn,List.length_pos_iff,h4]
        | cons a v =>
          have e0:idx (a :: v) 0 = some a:=rfl
          rw [e0]
          by_cases hn:x.Names = [] <;> by_cases h4:c.Kind = 4 <;> by_cases h5:a.Kind = c.Kind <;> by_cases h6:a.Kind = 4 <;> by_cases h7:4 = c.Kind <;> first | (exfalso; omega) | (simp [otherK,hn,List.length_pos_iff,h5,h4,h6]; done) | (simp [otherK,hn,List.length_pos_iff,h5,h4,h6,h7]; done)
theorem p_l08Sets (t:GTable) (list:List GSet) (hl:list.length ≤ 6):spec_l08Sets t list = some (setsI t list list 0):=by
  unfold spec_l08Sets
  rw [p_l08Sets_L1 t list hl list 0 (by simp)]
  by_cases h:setsI t list list 0 = 0 <;> simp [h]
def nameI (t:GTable) (n:Str):Int:=if (namedC t n).isSome = true then 0 else 11
theorem p_columnsCode_L1 (t:GTable):∀ l:List Str,impl_columnsCode_L1 t l = some (if firstI (nameI t) l = 0 then .go () else .ret 11)
  | [] => by rw [impl_columnsCode_L1]; simp [firstI]
  | x :: xs => by
    obtain ⟨c,e,_⟩:=p_named t x
    rw [impl_columnsCode_L1,e,Option.bind_some,p_columnsCode_L1 t xs]
    cases h:(namedC t x).isSome <;> simp [firstI,nameI,h]
theorem first_11 (t:GTable):∀ l:List Str,firstI (nameI t) l = 0 ∨ firstI (nameI t) l = 11
  | [] => .inl rfl
  | x :: xs => by
    simp only [firstI]
    split
    · exact first_11 t xs
    · rename_i h
      unfold nameI at h ⊢
      split
      · rename_i h2; rw [if_pos h2] at h; exact absurd rfl h
      · exact .inr rfl
theorem p_columnsCode (t:GTable) (l:List Str):impl_columnsCode t l = some (firstI (nameI t) l):=by
  unfold impl_columnsCode
  rw [p_columnsCode_L1]
  rcases first_11 t l with h | h <;> simp [h]
theorem p_copyRow_L1:∀ (xs out:List (List GAtom)),out.length + xs.length ≤ 2 ^ 30 → (∀ d ∈ xs,d.length ≤ 2 ^ 30) → impl_copyRow_L1 xs out = some (out ++ xs)
  | [],out,_,_ => by rw [impl_copyRow_L1]; simp
  | x :: xs,out,h,hd => by
    simp only [List.length_cons] at h
    have:=hd x (by simp)
    rw [impl_copyRow_L1]
    unfold slices_Clone_impl_Atom_impl_Atom
    rw [if_pos (by simp; omega),Option.bind_some,if_pos (by simp; omega),p_copyRow_L1 xs _ (by simp; omega) (fun y hy => hd y (by simp [hy]))]
    simp
theorem p_copyRow (r:GRow) (h:r.Cells.length ≤ 2 ^ 30) (hd:∀ d ∈ r.Cells,d.length ≤ 2 ^ 30):impl_copyRow r = some r:=by
  unfold impl_copyRow
  rw [p_copyRow_L1 r.Cells [] (by simp; omega) hd,Option.bind_some]
  cases r with
  | mk i c =>
    cases c with
    | nil => rfl
    | cons a c => rw [if_pos (by simp)]; simp
theorem p_l05OwnRow_L1:∀ (xs out:List (List GAtom)),out.length + xs.length ≤ 2 ^ 30 → (∀ d ∈ xs,d.length ≤ 2 ^ 30) → spec_l05OwnRow_L1 xs out = some (out ++ xs)
  | [],out,_,_ => by rw [spec_l05OwnRow_L1]; simp
  | x :: xs,out,h,hd => by
    simp only [List.length_cons] at h
    have:=hd x (by simp)
    rw [spec_l05OwnRow_L1,if_pos (by simp; omega),if_pos (by simp; omega),p_l05OwnRow_L1 xs _ (by simp; omega) (fun y hy => hd y (by simp [hy]))]
    simp
theorem p_l05OwnRow (r:GRow) (h:r.Cells.length ≤ 2 ^ 30) (hd:∀ d ∈ r.Cells,d.length ≤ 2 ^ 30):spec_l05OwnRow r = some r:=by
  unfold spec_l05OwnRow
  rw [p_l05OwnRow_L1 r.Cells [] (by simp; omega) hd,Option.bind_some]
  cases r
  simp
def setF (t:GTable):List GSet → List (List GAtom) → Fl (GRow × Int) (List (List GAtom))
  | [],cs => .go cs
  | x :: xs,cs => match colK t x.Column with
    | none => .go cs
    | some k => match t.Columns[k]? with
      | none => .go cs
      | some c => if fitsF c x.Value = 0 then setF t xs (cs.set k x.Value) else .ret (⟨0,[]⟩,fitsF c x.Value)
theorem p_setRow_L1 (t:GTable):∀ (xs:List GSet) (cs:List (List GAtom)),cs.length = t.Columns.length → (∀ x ∈ xs,(colK t x.Column).isSome = true ∧ x.Value.length ≤ 8) → impl_setRow_L1 t xs cs = some (setF t xs cs)
  | [],cs,_,_ => by rw [impl_setRow_L1]; rfl
  | x :: xs,cs,hl,h => by
    obtain ⟨k,hk⟩:=Option.isSome_iff_exists.1 (h x (by simp)).1
    have hv:=(h x (by simp)).2
    obtain ⟨c,e1,e2⟩:=colK_get hk
    have hlt:k < cs.length:=by rw [hl]; exact (List.getElem?_eq_some_iff.1 e2).1
    have ea:atI (some k) = (k:Int):=rfl
    rw [impl_setRow_L1,p_columnAt,hk,Option.bind_some,ea,e1,Option.bind_some,p_fits,Option.bind_some,setF,hk]
    simp only [e2]
    by_cases q:fitsF c x.Value = 0
    · rw [if_neg (by simp [q]),if_pos q]
      unfold slices_Clone_impl_Atom_impl_Atom
      rw [if_pos (by simp; omega),Option.bind_some,if_pos (by omega)]
      have e3:0 + ((k:Int)).toNat = k:=by simp
      rw [e3,List.getElem?_eq_getElem hlt,Option.bind_some,p_setRow_L1 t xs _ (by simpa using hl) (fun y hy => h y (by simp [hy]))]
      simp
    · rw [if_pos (by simpa using q),if_neg q]
theorem p_l08SetRow_L1 (t:GTable):∀ (xs:List GSet) (cs:List (List GAtom)),cs.length = t.Columns.length → (∀ x ∈ xs,(colK t x.Column).isSome = true ∧ x.Value.length ≤ 8) → spec_l08SetRow_L1 t xs cs = some (setF t xs cs)
  | [],cs,_,_ => by rw [spec_l08SetRow_L1]; rfl
  | x :: xs,cs,hl,h => by
    obtain ⟨k,hk⟩:=Option.isSome_iff_exists.1 (h x (by simp)).1
    have hv:=(h x (by simp)).2
    obtain ⟨c,e1,e2⟩:=colK_get hk
    have hlt:k < cs.length:=by rw [hl]; exact (List.getElem?_eq_some_iff.1 e2).1
    have ea:atI (some k) = (k:Int):=rfl
    rw [spec_l08SetRow_L1,p_l04Column,hk,Option.bind_some,ea,e1,Option.bind_some,p_sfits,Option.bind_some,setF,hk]
    simp only [e2]
    by_cases q:fitsF c x.Value = 0
    · rw [if_neg (by simp [q]),if_pos q,if_pos (by simp; omega),if_pos (by omega)]
      have e3:0 + ((k:Int)).toNat = k:=by simp
      rw [e3,List.getElem?_eq_getElem hlt,Option.bind_some,p_l08SetRow_L1 t xs _ (by simpa using hl) (fun y hy => h y (by simp [hy]))]
      simp
    · rw [if_pos (by simpa using q),if_neg q]
theorem setF_go (t:GTable):∀ {xs:List GSet} {cs cs':List (List GAtom)},setF t xs cs = .go cs' → cs'.length = cs.length ∧ ∀ d ∈ cs',d ∈ cs ∨ ∃ x ∈ xs,d = x.Value
  | [],cs,cs',h => by
    simp only [setF,Fl.go.injEq] at h
    subst h
    exact ⟨rfl,fun d hd => .inl hd⟩
  | x :: xs,cs,cs',h => by
    rw [setF] at h
    split at h
    · cases h; exact ⟨rfl,fun d hd => .inl hd⟩
    · split at h
      · cases h; exact ⟨rfl,fun d hd => .inl hd⟩
      · split at h
        · obtain ⟨h1,h2⟩:=setF_go t h
          refine ⟨by simpa using h1,fun d hd => ?_⟩
          rcases h2 d hd with g | ⟨y,hy,g⟩
          · rcases List.mem_or_eq_of_mem_set g with g | g
            · exact .inl g
            · exact .inr ⟨x,by simp,g⟩
          · exact .inr ⟨y,by simp [hy],g⟩
        · cases h
theorem setF_ret (t:GTable):∀ {xs:List GSet} {cs:List (List GAtom)} {q:GRow × Int},setF t xs cs = .ret q → q.1 = ⟨0,[]⟩ ∧ q.2 ≠ 0
  | [],cs,q,h => by cases h
  | x :: xs,cs,q,h => by
    rw [setF] at h
    split at h
    · cases h
    · split at h
      · cases h
      · split at h
        · exact setF_ret t h
        · rename_i h0; cases h; exact ⟨rfl,h0⟩
theorem setsI_col (t:GTable) (list:List GSet):∀ {xs:List GSet} {i:Nat},setsI t list xs i = 0 → ∀ x ∈ xs,(colK t x.Column).isSome = true
  | [],_,_,x,hx => by simp at hx
  | y :: ys,i,h,x,hx => by
    simp only [setsI] at h
    split at h
    · rename_i h0
      rcases List.mem_cons.1 hx with rfl | hx
      · unfold setI at h0
        cases hk:colK t x.Column with
        | none => rw [hk] at h0; cases h0
        | some k => rfl
      · exact setsI_col t list h x hx
    · rename_i h0; exact absurd h h0
def setNB (x:GSet):Bool:=setB x && decide (x.Names = [])
theorem p_sSet_L1:∀ l:List GSet,spec_SetRow_L1 l = some (if l.all setNB = true then .go () else .ret ((⟨0,[]⟩:GRow),1))
  | [] => by rw [spec_SetRow_L1]; rfl
  | x :: l => by
    rw [spec_SetRow_L1,p_l08Set,Option.bind_some,p_sSet_L1 l,List.all_cons]
    unfold setNB
    cases hb:setB x with
    | false => simp
    | true =>
      cases hn:x.Names with
      | nil => simp
      | cons a b =>
        have:decide (((a :: b).length:Int) > 0) = true:=decide_eq_true (by simp)
        simp
theorem all_setNB:∀ l:List GSet,l.all setNB = (l.all setB && !l.any (fun x => decide ((x.Names.length:Int) > 0)))
  | [] => rfl
  | x :: l => by
    simp only [List.all_cons,List.any_cons,all_setNB l,setNB]
    have:decide (x.Names = []) = !decide ((x.Names.length:Int) > 0):=by
      cases x.Names with
      | nil => rfl
      | cons a b => simp
    rw [this]
    cases setB x <;> cases decide ((x.Names.length:Int) > 0) <;> cases l.all setB <;> simp
theorem setB_val {x:GSet} (h:setB x = true):x.Value.length ≤ 8:=by
  unfold setB at h
  simp only [Bool.and_eq_true] at h
  exact datB_len h.1.1.2
theorem p_SetRow (t:GTable) (r:GRow) (l:List GSet) (hr:∀ d ∈ r.Cells,d.length ≤ maxLen) (hv:∀ x ∈ l,x.Value.length ≤ maxLen):∃ o c,impl_SetRow t r l = some (o,c) ∧ spec_SetRow t r l = some (o,c) ∧ ((c ≠ 0 ∧ o = ⟨0,[]⟩) ∨ (c = 0 ∧ rowOKB t r = true ∧ l.all setB = true ∧ setsI t l l 0 = 0 ∧ ∃ cs,setF t l r.Cells = .go cs ∧ o = ⟨r.Id,cs⟩)):=by
  unfold impl_SetRow spec_SetRow impl_isList_impl_Set
  rw [p_RowOK t r hr,p_sRowOK,p_setsOK l hv,p_setsCode,p_sSet_L1,p_slices_ContainsFunc_impl_Set_impl_Set impl_SetRow_1 (fun x => decide ((x.Names.length:Int) > 0)) l (fun x _ => rfl),all_setNB]
  by_cases c:(l.length:Int) > 4096
  · have c':¬ (l.length:Int) ≤ 4096:=by omega
    exact ⟨⟨0,[]⟩,2,by simp [c'],by simp [c],.inl ⟨by omega,rfl⟩⟩
  have c':(l.length:Int) ≤ 4096:=by omega
  have bad:∀ b:Bool,((l.all setB && decide ((l.length:Int) ≤ 6)) = false ∨ l.any (fun x => decide ((x.Names.length:Int) > 0)) = true ∨ (tabB t && rowOKB t r) = false) ∨ ((l.all setB = true ∧ (l.length:Int) ≤ 6) ∧ l.any (fun x => decide ((x.Names.length:Int) > 0)) = false ∧ (tabB t && rowOKB t r) = true):=by
    intro _
    cases h1:l.all setB <;> cases h3:l.any (fun x => decide ((x.Names.length:Int) > 0)) <;> cases h4:(tabB t && rowOKB t r) <;> by_cases h2:(l.length:Int) ≤ 6 <;> simp [h2]
  rcases bad true with hb | ⟨⟨h1,h2⟩,h3,h4⟩
  · refine ⟨⟨0,[]⟩,1,?_,?_,.inl ⟨by omega,rfl⟩⟩
    · rw [Option.bind_some,Option.bind_some,if_neg (by simp [c']),Option.bind_some]
      rcases hb with hb | hb | hb
      · rw [hb]; simp
      · rw [hb]; simp
      · rw [hb]
        cases (l.all setB && decide ((l.length:Int) ≤ 6)) <;> cases l.any (fun x => decide ((x.Names.length:Int) > 0)) <;> simp
    · rw [if_neg (by simpa using c),Option.bind_some]
      rcases hb with hb | hb | hb
      · by_cases h2:(l.length:Int) ≤ 6
        · have:l.all setB = false:=by simpa [h2] using hb
          rw [this]
          cases (tabB t && rowOKB t r) <;> simp
        · have:(l.length:Int) > 6:=by omega
          cases (tabB t && rowOKB t r) <;> simp [this]
      · rw [hb]
        cases (tabB t && rowOKB t r) <;> by_cases h2:(l.length:Int) > 6 <;> simp [h2]
      · rw [hb]; simp
  · have h6:¬ (l.length:Int) > 6:=by omega
    have hrow:rowOKB t r = true:=by simp only [Bool.and_eq_true] at h4; exact h4.2
    have hlen:=rowOKB_len hrow
    rw [p_l08Sets t l (by omega)]
    by_cases k:setsI t l l 0 = 0
    · have hcol:=setsI_col t l k
      have hval:∀ x ∈ l,(colK t x.Column).isSome = true ∧ x.Value.length ≤ 8:=fun x hx => ⟨hcol x hx,setB_val (List.all_eq_true.1 h1 x hx)⟩
      have hc6:r.Cells.length ≤ 2 ^ 30:=by
        rw [hlen]
        simp only [Bool.and_eq_true] at h4
        have:=h4.1
        unfold tabB at this
        simp only [Bool.and_eq_true,decide_eq_true_eq] at this
        omega
      have hd:∀ d ∈ r.Cells,d.length ≤ 2 ^ 30:=fun d hd => by have:=datB_len (rowOKB_cell hrow hd); omega
      have e1:impl_setRow t r l = some (match setF t l r.Cells with | .ret q => q | .go cs => (⟨r.Id,cs⟩,0)):=by
        unfold impl_setRow
        rw [p_copyRow r hc6 hd,Option.bind_some,p_setRow_L1 t l r.Cells hlen hval]
        cases setF t l r.Cells <;> rfl
      have e2:spec_l08SetRow t r l = some (match setF t l r.Cells with | .ret q => q | .go cs => (⟨r.Id,cs⟩,0)):=by
        unfold spec_l08SetRow
        rw [p_l05OwnRow r hc6 hd,Option.bind_some,p_l08SetRow_L1 t l r.Cells hlen hval]
        cases setF t l r.Cells <;> rfl
      rw [e1,e2]
      cases hs:setF t l r.Cells with
      | ret q =>
        refine ⟨q.1,q.2,by rw [h1,h3,h4]; simp [c',h2,k],by rw [h1,h3,h4]; simp [c,h6,k],.inl ⟨(setF_ret t hs).2,(setF_ret t hs).1⟩⟩
      | go cs => exact ⟨⟨r.Id,cs⟩,0,by rw [h1,h3,h4]; simp [c',h2,k],by rw [h1,h3,h4]; simp [c,h6,k],.inr ⟨rfl,hrow,h1,k,cs,rfl,rfl⟩⟩
    · exact ⟨⟨0,[]⟩,setsI t l l 0,by rw [h1,h3,h4]; simp [c',h2,k],by rw [h1,h3,h4]; simp [c,h6,k],.inl ⟨k,rfl⟩⟩
structure SrcOK (s:GL00Src):Prop where
  code:∀ x ∈ s.Code,0 ≤ x ∧ x < 256
  len:(s.Code.length:Int) ≤ 1048576
  at0:0 ≤ s.At
  seed:0 ≤ s.Seed ∧ s.Seed < 2147483648
structure Nx (s s':GL00Src) (k:Int):Prop where
  ok:SrcOK s'
  lo:s.At ≤ s'.At
  hi:s'.At ≤ s.At + k
  code:s'.Code = s.Code
theorem Nx.refl {s:GL00Src} (h:SrcOK s):Nx s s 0:=⟨h,Int.le_refl _,by omega,rfl⟩
theorem Nx.mono {s s':GL00Src} {k l:Int} (h:Nx s s' k) (hl:k ≤ l):Nx s s' l:=⟨h.ok,h.lo,by have:=h.hi; omega,h.code⟩
theorem Nx.trans {a b c:GL00Src} {k l:Int} (h:Nx a b k) (g:Nx b c l):Nx a c (k + l):=⟨g.ok,by have:=h.lo; have:=g.lo; omega,by have:=h.hi; have:=g.hi; omega,g.code.trans h.code⟩
theorem tmod_bd {a m:Int} (h:0 ≤ a) (hm:0 < m):0 ≤ a.tmod m ∧ a.tmod m < m:=⟨Int.tmod_nonneg _ h,Int.tmod_lt_of_pos _ hm⟩
theorem tdiv_bd {a m:Int} (h:0 ≤ a) (hm:0 < m):a.tdiv m = a / m:=by rw [Int.tdiv_eq_ediv_of_nonneg h]
theorem p_source (code:List Int) (hc:∀ x ∈ code,0 ≤ x ∧ x < 256) (hl:(code.length:Int) ≤ 1048576):∃ s,spec_l00Source code = some s ∧ SrcOK s ∧ s.At = 0 ∧ s.Code = code:=by
  refine ⟨_,rfl,⟨hc,hl,by simp,?_⟩,rfl,rfl⟩
  have:=tmod_bd (a:=(code.length:Int)) (m:=1000) (by omega) (by omega)
  simp only; omega
theorem p_byte (s:GL00Src) (h:SrcOK s) (ha:s.At < 2 ^ 50):∃ b s',spec_l00Src_byte s = some (b,s') ∧ 0 ≤ b ∧ b < 256 ∧ Nx s s' 1:=by
  obtain ⟨h1,h2,h3,h4,h5⟩:=h
  unfold spec_l00Src_byte
  rw [w64_id (n:=s.At + 1) (by omega)]
  by_cases c:s.At + 1 ≤ (s.Code.length:Int)
  · rw [if_pos (by simpa using c)]
    obtain ⟨n,hn⟩:∃ n:Nat,s.At = (n:Int):=⟨s.At.toNat,by omega⟩
    have e1:w64 (s.At + 1 - 1) = (n:Int):=by rw [w64_id (by omega)]; omega
    obtain ⟨x,hx⟩:∃ x,s.Code[n]? = some x:=⟨s.Code[n]'(by omega),List.getElem?_eq_getElem (by omega)⟩
    have hb:=h1 x (List.mem_of_getElem? hx)
    rw [e1,idx_nat,hx,Option.bind_some,Option.bind_some,w64_id (n:=x) (by omega),w64_id (n:=s.Seed * 31) (by omega),w64_id (n:=s.Seed * 31 + x) (by omega),w64_id (by omega)]
    have:=tmod_bd (a:=s.Seed * 31 + x + 7) (m:=2147483648) (by omega) (by omega)
    exact ⟨x,_,rfl,hb.1,hb.2,⟨⟨h1,h2,by simp only; omega,this⟩,by simp only; omega,by simp only; omega,rfl⟩⟩
  · rw [if_neg (by simpa using c)]
    by_cases c2:s.At + 1 > 3000
    · rw [if_pos (by simpa using c2)]
      exact ⟨0,_,rfl,by omega,by omega,⟨⟨h1,h2,by simp only; omega,h4,h5⟩,by simp only; omega,by simp only; omega,rfl⟩⟩
    · rw [if_neg (by simpa using c2),w64_id (n:=s.Seed * 1103515245) (by omega),w64_id (n:=s.Seed * 1103515245 + 12345) (by omega)]
      have hs:=tmod_bd (a:=s.Seed * 1103515245 + 12345) (m:=2147483648) (by omega) (by omega)
      have hq:=tdiv_bd (a:=(s.Seed * 1103515245 + 12345).tmod 2147483648) (m:=65536) hs.1 (by omega)
      rw [hq]
      have:w64 ((s.Seed * 1103515245 + 12345).tmod 2147483648 / 65536) = (s.Seed * 1103515245 + 12345).tmod 2147483648 / 65536:=w64_id (by omega)
      rw [this]
      have hb:=tmod_bd (a:=(s.Seed * 1103515245 + 12345).tmod 2147483648 / 65536) (m:=256) (by omega) (by omega)
      exact ⟨_,_,rfl,hb.1,hb.2,⟨⟨h1,h2,by simp only; omega,hs⟩,by simp only; omega,by simp only; omega,rfl⟩⟩
theorem p_next (n:Int) (s:GL00Src) (h:SrcOK s) (ha:s.At + 1 < 2 ^ 50) (h1:1 ≤ n) (h2:n ≤ 256):∃ v s',spec_l00Src_next n s = some (v,s') ∧ 0 ≤ v ∧ v < n ∧ Nx s s' 1:=by
  unfold spec_l00Src_next
  by_cases c:n ≤ 1
  · rw [if_pos (by simpa using c)]
    exact ⟨0,s,rfl,by omega,by omega,(Nx.refl h).mono (by omega)⟩
  · rw [if_neg (by simpa using c),if_pos (by simpa using h2)]
    obtain ⟨b,s',e,g1,g2,g3⟩:=p_byte s h (by omega)
    rw [e,Option.bind_some,if_pos (by omega)]
    have:=tmod_bd (a:=b) (m:=n) g1 (by omega)
    exact ⟨_,_,rfl,this.1,this.2,g3⟩
theorem p_chance (n:Int) (s:GL00Src) (h:SrcOK s) (ha:s.At + 1 < 2 ^ 50) (h1:1 ≤ n) (h2:n ≤ 256):∃ v s',spec_l00Src_chance n s = some (v,s') ∧ Nx s s' 1:=by
  unfold spec_l00Src_chance
  obtain ⟨v,s',e,_,_,g⟩:=p_next n s h ha h1 h2
  rw [e,Option.bind_some]
  exact ⟨_,_,rfl,g⟩
theorem p_srcpick (l:List Str) (s:GL00Src) (h:SrcOK s) (ha:s.At + 1 < 2 ^ 50) (h1:1 ≤ l.length) (h2:l.length ≤ 256):∃ t s',spec_l00Src_pick l s = some (t,s') ∧ t ∈ l ∧ Nx s s' 1:=by
  unfold spec_l00Src_pick
  rw [if_neg (by simp; intro hh; rw [hh] at h1; simp at h1)]
  obtain ⟨v,s',e,g1,g2,g⟩:=p_next l.length s h ha (by omega) (by omega)
  rw [e,Option.bind_some]
  obtain ⟨m,rfl⟩:∃ m:Nat,v = (m:Int):=⟨v.toNat,by omega⟩
  simp only
  obtain ⟨x,hx⟩:∃ x,l[m]? = some x:=⟨l[m]'(by omega),List.getElem?_eq_getElem (by omega)⟩
  rw [idx_nat,hx,Option.bind_some]
  exact ⟨x,s',rfl,List.mem_of_getElem? hx,g⟩
theorem atomEq (x y:GAtom):(x.Kind == y.Kind && (x.N == y.N && (x.T == y.T && true))) = decide (x = y):=by
  cases x; cases y
  rw [Bool.eq_iff_iff]
  simp
theorem p_Has_L1 (a:GAtom):∀ d:List GAtom,spec_l03Has_L1 a d = some (if a ∈ d then .ret true else .go ())
  | [] => by rw [spec_l03Has_L1]; simp
  | x :: xs => by
    rw [spec_l03Has_L1,atomEq,p_Has_L1 a xs]
    by_cases h:x = a
    · subst h; simp
    · simp [h,Ne.symm h]
theorem p_Has (d:List GAtom) (a:GAtom):spec_l03Has d a = some (decide (a ∈ d)):=by
  unfold spec_l03Has
  rw [p_Has_L1]
  by_cases h:a ∈ d <;> simp [h]
theorem p_Put_L1 (d:List GAtom) (a:GAtom):∀ (n k:Nat),n < k → n ≤ d.length → d.length ≤ 2 ^ 29 → ∃ m:Nat,spec_l03Put_L1 d a k n = some (m:Int) ∧ m ≤ n ∧ (∀ x,0 < m → d[m - 1]? = some x → ordA x a ≤ 0) ∧ (∀ j x,m ≤ j → j < n → d[j]? = some x → 0 < ordA x a)
  | _,0,h,_,_ => by omega
  | 0,k + 1,_,_,_ => by
    refine ⟨0,?_,by omega,by omega,by omega⟩
    rw [spec_l03Put_L1,if_neg (by simp),Option.bind_some,if_neg (by simp)]
  | n + 1,k + 1,h,hn,hl => by
    obtain ⟨y,hy⟩:∃ y,d[n]? = some y:=⟨d[n],List.getElem?_eq_getElem (by omega)⟩
    have ew:w64 (((n + 1:Nat):Int) - 1) = (n:Int):=by rw [w64_id (by omega)]; omega
    rw [spec_l03Put_L1,if_pos (by simp),ew,idx_nat,hy,Option.bind_some,p_Order,Option.bind_some,Option.bind_some]
    by_cases hc:ordA y a > 0
    · rw [if_pos (by simpa using hc)]
      obtain ⟨m,e,h1,h2,h3⟩:=p_Put_L1 d a n k (by omega) (by omega) hl
      refine ⟨m,e,by omega,h2,fun j x hj1 hj2 hx => ?_⟩
      by_cases hjn:j = n
      · subst hjn; rw [hy] at hx; rw [← Option.some.inj hx]; exact hc
      · exact h3 j x hj1 (by omega) hx
    · rw [if_neg (by simpa using hc)]
      refine ⟨n + 1,rfl,by omega,fun x _ hx => ?_,by omega⟩
      rw [show n + 1 - 1 = n from by omega,hy] at hx
      rw [← Option.some.inj hx]; omega
theorem ins_get (d:List GAtom) (a:GAtom) (k i:Nat) (hk:k ≤ d.length):(d.take k ++ a :: d.drop k)[i]? = if i < k then d[i]? else if i = k then some a else d[i - 1]?:=by
  by_cases h1:i < k
  · rw [if_pos h1,List.getElem?_append_left (by simp; omega),List.getElem?_take_of_lt h1]
  · rw [if_neg h1,List.getElem?_append_right (by simp; omega)]
    have hl:(d.take k).length = k:=by simp; omega
    rw [hl]
    by_cases h2:i = k
    · subst h2; simp
    · rw [if_neg h2,show i - k = (i - k - 1) + 1 from by omega,List.getElem?_cons_succ,List.getElem?_drop]
      congr 1; omega
theorem p_Put (k:Int) (d:List GAtom) (a:GAtom) (hs:SortD k d) (ha:atomB a = true) (hk:a.Kind = k) (hl:d.length < 2 ^ 29):∃ d',spec_l03Put d a = some d' ∧ SortD k d' ∧ (∀ x,x ∈ d' ↔ x = a ∨ x ∈ d) ∧ d'.length ≤ d.length + 1:=by
  have hf:2 ^ 40 < FUEL:=by unfold FUEL; decide
  unfold spec_l03Put
  rw [p_Has,Option.bind_some]
  by_cases hm:a ∈ d
  · rw [if_pos (by simpa using hm)]
    exact ⟨d,rfl,hs,fun x => ⟨.inr,fun h => h.elim (fun h => h ▸ hm) id⟩,by omega⟩
  · rw [if_neg (by simpa using hm)]
    obtain ⟨m,e,h1,h2,h3⟩:=p_Put_L1 d a d.length FUEL (by omega) (by omega) (by omega)
    rw [e,Option.bind_some,if_pos (by omega),if_pos (by omega),if_pos (by simp; omega),if_pos (by simp; omega),if_pos (by simp; omega)]
    simp only [List.nil_append,Int.toNat_natCast,List.append_assoc,List.cons_append,List.nil_append]
    refine ⟨_,rfl,⟨?_,?_⟩,?_,by simp; omega⟩
    · intro x hx
      simp only [List.mem_append,List.mem_cons] at hx
      rcases hx with hx | rfl | hx
      · exact hs.atom x (List.mem_of_mem_take hx)
      · exact ⟨ha,hk⟩
      · exact hs.atom x (List.mem_of_mem_drop hx)
    · intro i x y hx hy
      rw [ins_get d a m i h1] at hx
      rw [ins_get d a m (i + 1) h1] at hy
      by_cases c1:i + 1 < m
      · rw [if_pos (by omega)] at hx
        rw [if_pos c1] at hy
        exact hs.ord i x y hx hy
      · rw [if_neg c1] at hy
        by_cases c2:i + 1 = m
        · rw [if_pos c2] at hy
          rw [if_pos (by omega)] at hx
          have e1:=Option.some.inj hy
          subst e1
          have:=h2 x (by omega) (by rw [show m - 1 = i from by omega]; exact hx)
          have hne:ordA x a ≠ 0:=fun h => hm (by rw [← (ordA_zero x a).1 h]; exact List.mem_of_getElem? hx)
          omega
        · rw [if_neg c2] at hy
          rw [if_neg (by omega)] at hx
          by_cases c3:i = m
          · rw [if_pos c3] at hx
            have e1:=Option.some.inj hx
            subst e1
            rw [show i + 1 - 1 = i from by omega] at hy
            have:=h3 i y (by omega) (List.getElem?_eq_some_iff.1 hy).1 hy
            have:=ordA_anti y a
            omega
          · rw [if_neg c3] at hx
            exact hs.ord (i - 1) x y hx (by rw [show i - 1 + 1 = i + 1 - 1 from by omega]; exact hy)
    · intro x
      have:x ∈ d ↔ x ∈ d.take m ∨ x ∈ d.drop m:=by rw [← List.mem_append,List.take_append_drop]
      simp only [List.mem_append,List.mem_cons,this]
      constructor
      · rintro (h | h | h)
        · exact .inr (.inl h)
        · exact .inl h
        · exact .inr (.inr h)
      · rintro (h | h | h)
        · exact .inr (.inl h)
        · exact .inl h
        · exact .inr (.inr h)
theorem idx_nn {α:Type} (l:List α) (i:Int) (h:0 ≤ i):idx l i = l[0 + i.toNat]?:=by
  obtain ⟨n,rfl⟩:∃ n:Nat,i = n:=⟨i.toNat,by omega⟩
  rw [idx_nat]; simp
theorem Put_h0_L1 (d:List GAtom) (a:GAtom) (hl:d.length ≤ 2 ^ 29):∀ (k n:Nat),n ≤ d.length → spec_l03Put_h0_L1 d a k (n:Int) = spec_l03Put_L1 d a k (n:Int)
  | 0,n,_ => by rw [spec_l03Put_h0_L1,spec_l03Put_L1]
  | k + 1,0,_ => by
    rw [spec_l03Put_h0_L1,spec_l03Put_L1,if_neg (by simp),if_neg (by simp)]
    simp
  | k + 1,n + 1,h => by
    have ew:w64 (((n + 1:Nat):Int) - 1) = (n:Int):=by rw [w64_id (by omega)]; omega
    rw [spec_l03Put_h0_L1,spec_l03Put_L1,ew,Put_h0_L1 d a hl k n (by omega)]
    simp only [idx_nn d n (by omega)]
    rw [if_pos (show (0:Int) ≤ (n:Int) ∧ (n:Int) < (d.length:Int) by omega)]
theorem Put_h0 (d:List GAtom) (a:GAtom) (hl:d.length ≤ 2 ^ 29):spec_l03Put_h0 d a = spec_l03Put d a:=by
  have e:∀ k:Nat,(d.drop k).take (d.length - k) = d.drop k:=fun k => List.take_of_length_le (by simp)
  unfold spec_l03Put_h0 spec_l03Put
  rw [Put_h0_L1 d a hl FUEL d.length (Nat.le_refl _)]
  simp only [e]
theorem p_PutH (k:Int) (d:List GAtom) (a:GAtom) (hs:SortD k d) (ha:atomB a = true) (hk:a.Kind = k) (hl:d.length < 2 ^ 29):∃ d',spec_l03Put_h0 d a = some d' ∧ SortD k d' ∧ (∀ x,x ∈ d' ↔ x = a ∨ x ∈ d) ∧ d'.length ≤ d.length + 1:=by
  rw [Put_h0 d a (by omega)]
  exact p_Put k d a hs ha hk hl
theorem byte_h1 (s:GL00Src):spec_l00Src_byte s = spec_l00Src_byte s:=by
  first
  | rfl
  | (unfold spec_l00Src_byte spec_l00Src_byte; rfl)
theorem next_h1 (n:Int) (s:GL00Src):spec_l00Src_next n s = spec_l00Src_next n s:=by
  first
  | rfl
  | (unfold spec_l00Src_next spec_l00Src_next; simp only [byte_h1])
theorem pick_h1 (l:List Str) (s:GL00Src):spec_l00Src_pick l s = spec_l00Src_pick l s:=by
  first
  | rfl
  | (unfold spec_l00Src_pick spec_l00Src_pick; simp only [next_h1])
theorem p_atom (kind:Int) (s:GL00Src) (hk:1 ≤ kind ∧ kind ≤ 4) (h:SrcOK s) (ha:s.At + 1 < 2 ^ 50):∃ a s',spec_l00Src_atom kind s = some (a,s') ∧ atomB a = true ∧ a.Kind = kind ∧ Nx s s' 1:=by
  unfold spec_l00Src_atom
  try simp only [next_h1,pick_h1]
  by_cases k1:kind = 1
  · subst k1
    obtain ⟨v,s',e,g1,g2,g⟩:=p_next 12 s h ha (by omega) (by omega)
    rw [if_pos (by simp),e,Option.bind_some]
    refine ⟨_,s',rfl,?_,rfl,g⟩
    have:w64 (v - 4) = v - 4:=w64_id (by omega)
    rw [this]
    have:-1000000000 ≤ v - 4 ∧ v - 4 ≤ 1000000000:=by omega
    simp [atomB,this]
  rw [if_neg (by simpa using k1)]
  by_cases k2:kind = 2
  · subst k2
    obtain ⟨t,s',e,ht,g⟩:=p_srcpick [[],[97],[98],[99],[110,101,116]] s h ha (by simp) (by simp)
    rw [if_pos (by simp),e,Option.bind_some]
    refine ⟨_,s',rfl,?_,rfl,g⟩
    have:textB t = true:=List.all_eq_true.1 (show ([[],[97],[98],[99],[110,101,116]]:List Str).all textB = true by decide) t ht
    simp [atomB,this]
  rw [if_neg (by simpa using k2)]
  by_cases k3:kind = 3
  · subst k3
    obtain ⟨v,s',e,g1,g2,g⟩:=p_next 2 s h ha (by omega) (by omega)
    rw [if_pos (by simp),e,Option.bind_some]
    refine ⟨_,s',rfl,?_,rfl,g⟩
    have:0 ≤ v ∧ v ≤ 1:=by omega
    simp [atomB,this]
  rw [if_neg (by simpa using k3)]
  have k4:kind = 4:=by omega
  subst k4
  obtain ⟨v,s',e,g1,g2,g⟩:=p_next 6 s h ha (by omega) (by omega)
  rw [e,Option.bind_some]
  refine ⟨_,s',rfl,?_,rfl,g⟩
  have:w64 (1 + v) = 1 + v:=w64_id (by omega)
  rw [this]
  have:1 ≤ 1 + v ∧ 1 + v ≤ 1000000:=by omega
  simp [atomB,this]
theorem p_datum_L1 (kind:Int) (hk:1 ≤ kind ∧ kind ≤ 4):∀ (i k:Nat) (s:GL00Src) (out:List GAtom),i < k → SortD kind out → out.length + i ≤ 100 → SrcOK s → s.At + i < 2 ^ 50 →
    ∃ s' d,spec_l00Src_datum_L1 kind k i s.Code s.At s.Seed out = some (s'.Code,s'.At,s'.Seed,d) ∧ SortD kind d ∧ d.length ≤ out.length + i ∧ Nx s s' i
  | _,0,_,_,h,_,_,_,_ => by omega
  | 0,k + 1,s,out,h,hs,hl,ho,ha => by
    refine ⟨s,out,?_,hs,by omega,Nx.refl ho⟩
    rw [spec_l00Src_datum_L1,if_neg (by simp)]
  | i + 1,k + 1,s,out,h,hs,hl,ho,ha => by
    rw [spec_l00Src_datum_L1,if_pos (by simp)]
    obtain ⟨a,s1,e,g1,g2,g3⟩:=p_atom kind s hk ho (by omega)
    have e':spec_l00Src_atom kind (⟨s.Code,s.At,s.Seed⟩:GL00Src) = some (a,s1):=e
    obtain ⟨d,f,f1,f2,f3⟩:=p_PutH kind out a hs g1 g2 (by omega)
    have ew:w64 (((i + 1:Nat):Int) - 1) = (i:Int):=by rw [w64_id (by omega)]; omega
    have:=g3.hi
    obtain ⟨s2,d2,q,q1,q2,q3⟩:=p_datum_L1 kind hk i k s1 d (by omega) f1 (by omega) g3.ok (by omega)
    rw [e',Option.bind_some,f,Option.bind_some,ew,q]
    exact ⟨s2,d2,rfl,q1,by omega,(g3.trans q3).mono (by omega)⟩
theorem p_datum (kind:Int) (s:GL00Src) (hk:1 ≤ kind ∧ kind ≤ 4) (h:SrcOK s) (ha:s.At + 5 < 2 ^ 50):∃ d s',spec_l00Src_datum kind s = some (d,s') ∧ SortD kind d ∧ d.length ≤ 4 ∧ Nx s s' 5:=by
  have hf:2 ^ 40 < FUEL:=by unfold FUEL; decide
  unfold spec_l00Src_datum
  try rw [next_h1]
  obtain ⟨v,s1,e,g1,g2,g⟩:=p_next 5 s h (by omega) (by omega) (by omega)
  obtain ⟨i,rfl⟩:∃ i:Nat,v = (i:Int):=⟨v.toNat,by omega⟩
  have:=g.hi
  obtain ⟨s2,d,e2,q1,q2,q3⟩:=p_datum_L1 kind hk i FUEL s1 [] (by omega) ⟨by simp,by simp⟩ (by simp; omega) g.ok (by omega)
  rw [e,Option.bind_some,e2,Option.bind_some]
  simp only [List.length_nil] at q2
  exact ⟨d,s2,rfl,q1,by omega,(g.trans q3).mono (by omega)⟩
theorem p_at (more:List Int) (n:Int) (hc:∀ x ∈ more,0 ≤ x ∧ x < 256) (hl:(more.length:Int) ≤ 1048576) (hn:1 ≤ n ∧ n ≤ 1000000) (i:Int) (hi:0 ≤ i ∧ i ≤ 1000):∃ v,laws_at more i n = some v ∧ 0 ≤ v ∧ v < n:=by
  unfold laws_at
  by_cases h1:n ≤ 1
  · rw [if_pos (by simpa using h1)]; exact ⟨0,rfl,by omega,by omega⟩
  rw [if_neg (by simpa using h1)]
  by_cases h2:more.length = 0
  · rw [if_pos (by simpa using h2),if_pos (by omega)]
    have e:w64 (i * 7) = i * 7:=w64_id (by omega)
    have:=tmod_bd (a:=i * 7) (m:=n) (by omega) (by omega)
    rw [e]
    exact ⟨_,rfl,this⟩
  rw [if_neg (by simpa using h2),if_pos (by omega)]
  have get:∀ j:Int,0 ≤ j → ∃ x,idx more (j.tmod (more.length:Int)) = some x ∧ 0 ≤ x ∧ x < 256:=by
    intro j hj
    have hb:=tmod_bd (a:=j) (m:=(more.length:Int)) hj (by omega)
    obtain ⟨q,hq⟩:∃ q:Nat,j.tmod (more.length:Int) = (q:Int):=⟨(j.tmod (more.length:Int)).toNat,by omega⟩
    rw [hq] at hb ⊢
    obtain ⟨x,hx⟩:∃ x,more[q]? = some x:=⟨more[q]'(by omega),List.getElem?_eq_getElem (by omega)⟩
    rw [idx_nat,hx]
    exact ⟨x,rfl,hc x (List.mem_of_getElem? hx)⟩
  obtain ⟨x,ex,x1,x2⟩:=get i hi.1
  have ew:w64 (i + 1) = i + 1:=w64_id (by omega)
  obtain ⟨y,ey,y1,y2⟩:=get (i + 1) (by omega)
  rw [ex,Option.bind_some,if_pos (by omega),ew,ey,Option.bind_some,if_pos (by omega),if_pos (by omega)]
  have hq:0 ≤ i.tdiv (more.length:Int) ∧ i.tdiv (more.length:Int) ≤ i:=by
    rw [tdiv_bd hi.1 (by omega)]
    exact ⟨Int.ediv_nonneg hi.1 (by omega),Int.ediv_le_self _ hi.1⟩
  rw [w64_id (n:=x) (by omega),w64_id (n:=x * 31) (by omega),w64_id (n:=y) (by omega),w64_id (n:=x * 31 + y) (by omega),w64_id (n:=i.tdiv (more.length:Int)) (by omega),w64_id (by omega)]
  have:=tmod_bd (a:=x * 31 + y + i.tdiv (more.length:Int)) (m:=n) (by omega) (by omega)
  exact ⟨_,rfl,this⟩
theorem p_same_L1 (b:List GAtom):∀ (xs:List GAtom) (i:Nat),b.drop i = xs → laws_sameDatum_L1 b xs i = some (.go ())
  | [],i,_ => by rw [laws_sameDatum_L1]
  | x :: xs,i,h => by
    rw [laws_sameDatum_L1,idx_drop h,Option.bind_some,atomEq,if_neg (by simp),p_same_L1 b xs (i + 1) (drop_next h)]
theorem p_same (d:List GAtom):laws_sameDatum d d = some true:=by
  unfold laws_sameDatum
  rw [if_neg (by simp),p_same_L1 d d 0 (by simp)]
  rfl
theorem okI_u8 {n:Int}:okI .u8 n ↔ 0 ≤ n ∧ n ≤ 255:=by
  have h1:IntKind.u8.min = 0:=by decide
  have h2:IntKind.u8.max = 255:=by decide
  simp [okI,Lit.wf,h1,h2]
def nt0:GTable:=⟨[110,111,116,101],[(⟨[110,97,109,101],2,1,1,0,0,[],false⟩:GColumn),(⟨[97,98,111,117,116],4,0,4,0,0,[112,111,114,116],false⟩:GColumn)],[],true⟩
def nt1:GTable:=⟨[112,111,114,116],[(⟨[110,97,109,101],2,1,1,0,0,[],false⟩:GColumn),(⟨[116,97,103],1,0,1,0,99,[],false⟩:GColumn),(⟨[117,112],3,1,1,0,0,[],false⟩:GColumn)],[(0:Int)],false⟩
def nt2:GTable:=⟨[115,119,105,116,99,104],[(⟨[110,97,109,101],2,1,1,0,0,[],false⟩:GColumn),(⟨[99,111,117,110,116],1,1,1,(-1000),1000,[],false⟩:GColumn),(⟨[112,111,114,116,115],4,0,8,0,0,[112,111,114,116],true⟩:GColumn)],[(0:Int)],true⟩
def plainS:GSchema:=⟨[nt0,nt1,nt2]⟩
theorem p_plainS:spec_PlainSchema = some plainS:=rfl
theorem plain_idx (v:Int) (h:0 ≤ v ∧ v < 3):∃ t,idx plainS.Tables v = some t ∧ plainS.Tables[v.toNat]? = some t ∧ (t = nt0 ∨ t = nt1 ∨ t = nt2):=by
  have:v = 0 ∨ v = 1 ∨ v = 2:=by omega
  rcases this with rfl | rfl | rfl
  · exact ⟨nt0,rfl,rfl,.inl rfl⟩
  · exact ⟨nt1,rfl,rfl,.inr (.inl rfl)⟩
  · exact ⟨nt2,rfl,rfl,.inr (.inr rfl)⟩
def startF (c:GColumn):List GAtom:=if c.Min = 0 then [] else [⟨c.Kind,if c.Kind = 1 then (if (if 0 < c.High then 0 else c.High) > c.Low then (if 0 < c.High then 0 else c.High) else c.Low) else 0,[]⟩]
theorem p_startF (c:GColumn):impl_Column_start c = some (startF c):=by
  unfold impl_Column_start startF
  by_cases h:c.Min = 0
  · simp [h]
  · by_cases k:c.Kind = 1 <;> simp [h,k]
theorem p_fresh_L1:∀ (cs:List GColumn) (out:List (List GAtom)),out.length + cs.length ≤ 1000 → impl_freshRow_L1 cs out = some (out ++ cs.map startF)
  | [],out,_ => by rw [impl_freshRow_L1]; simp
  | c :: cs,out,h => by
    simp only [List.length_cons] at h
    rw [impl_freshRow_L1,p_startF,Option.bind_some,if_pos (by simp <;> omega),p_fresh_L1 cs _ (by simp <;> omega)]
    simp
theorem nt_tab {t:GTable} (h:t = nt0 ∨ t = nt1 ∨ t = nt2):tabB t = true:=by rcases h with rfl | rfl | rfl <;> decide
theorem nt_cells {t:GTable} (h:t = nt0 ∨ t = nt1 ∨ t = nt2):allI (cellB t) (t.Columns.map startF) 0 = true:=by rcases h with rfl | rfl | rfl <;> decide
theorem nt_len {t:GTable} (h:t = nt0 ∨ t = nt1 ∨ t = nt2):t.Columns.length ≤ 3:=by rcases h with rfl | rfl | rfl <;> decide
theorem nt_kind {t:GTable} (h:t = nt0 ∨ t = nt1 ∨ t = nt2):∀ c ∈ t.Columns,1 ≤ c.Kind ∧ c.Kind ≤ 4:=by rcases h with rfl | rfl | rfl <;> decide
theorem nt_uuid {t:GTable} (h:t = nt0 ∨ t = nt1 ∨ t = nt2):colK t [95,117,117,105,100] = none:=by rcases h with rfl | rfl | rfl <;> decide
theorem nt_here {t:GTable} (h:t = nt0 ∨ t = nt1 ∨ t = nt2):allI (fun i c => decide (colK t c.Name = some i)) t.Columns 0 = true:=by rcases h with rfl | rfl | rfl <;> decide
theorem nt_rowOK {t:GTable} (h:t = nt0 ∨ t = nt1 ∨ t = nt2) (id:Int) (hi:1 ≤ id ∧ id ≤ 1000000):rowOKB t ⟨id,t.Columns.map startF⟩ = true:=by
  unfold rowOKB
  simp only [hi,and_self,decide_true,List.length_map,nt_cells h,Bool.and_self]
theorem p_FreshRow {t:GTable} (h:t = nt0 ∨ t = nt1 ∨ t = nt2) (id:Int) (hi:1 ≤ id ∧ id ≤ 1000000):impl_FreshRow t id = some (⟨id,t.Columns.map startF⟩,0):=by
  have hl:=nt_len h
  unfold impl_FreshRow impl_isId impl_freshRow
  rw [p_isTable,nt_tab h,p_within,p_fresh_L1 t.Columns [] (by simp <;> omega)]
  simp [hi]
def ValS (l:List GSet):Prop:=∀ x ∈ l,x.Value.length ≤ 8
theorem valS_app {l:List GSet} {x:GSet} (h:ValS l) (hx:x.Value.length ≤ 8):ValS (l ++ [x]):=by
  intro y hy
  rcases List.mem_append.1 hy with hy | hy
  · exact h y hy
  · simp only [List.mem_singleton] at hy; subst hy; exact hx
theorem p_sets_L1:∀ (xs:List GColumn) (i:Nat) (s:GL00Src) (out:List GSet),(∀ c ∈ xs,1 ≤ c.Kind ∧ c.Kind ≤ 4) → ValS out → out.length + xs.length ≤ 1000 → SrcOK s → s.At + 20 * xs.length < 2 ^ 49 →
    ∃ s' l,spec_l00Src_sets_L1 xs i s.Code s.At s.Seed out = some (s'.Code,s'.At,s'.Seed,l) ∧ ValS l ∧ l.length ≤ out.length + xs.length ∧ Nx s s' (20 * xs.length)
  | [],i,s,out,_,hv,_,ho,_ => ⟨s,out,by rw [spec_l00Src_sets_L1],hv,by simp,(Nx.refl ho).mono (by simp)⟩
  | c :: xs,i,s,out,hk,hv,hl,ho,ha => by
    simp only [List.length_cons] at hl ha
    rw [spec_l00Src_sets_L1]
    obtain ⟨b1,s1,e1,n1⟩:=p_chance 2 s ho (by omega) (by omega) (by omega)
    have e1':spec_l00Src_chance 2 (⟨s.Code,s.At,s.Seed⟩:GL00Src) = some (b1,s1):=e1
    have h1:=n1.hi
    rw [e1',Option.bind_some]
    have skip:∀ s':GL00Src,Nx s s' 20 → ∀ out':List GSet,ValS out' → out'.length ≤ out.length + 1 → ∃ s'' l,spec_l00Src_sets_L1 xs (i + 1) s'.Code s'.At s'.Seed out' = some (s''.Code,s''.At,s''.Seed,l) ∧ ValS l ∧ l.length ≤ out.length + (xs.length + 1) ∧ Nx s s'' (20 * ((xs.length + 1:Nat):Int)):=by
      intro s' n out' hv' hl'
      have h2:=n.hi
      obtain ⟨s'',l,q1,q2,q3,q4⟩:=p_sets_L1 xs (i + 1) s' out' (fun y hy => hk y (by simp [hy])) hv' (by omega) n.ok (by omega)
      exact ⟨s'',l,q1,q2,by omega,(n.trans q4).mono (by omega)⟩
    have go:∃ s'' l,((((spec_l00Src_atom c.Kind (⟨s1.Code,s1.At,s1.Seed⟩:GL00Src)).bind fun r_214 =>
    some (r_214.2.Code,r_214.2.At,r_214.2.Seed,[r_214.1]):Option ((List Int) × Int × Int × (List GAtom)))).bind fun p213 =>
    (match p213 with
    | (x_209,x_210,x_211,x_212) =>
    ((if (c.Kind == 4) then
    (spec_l00Src_chance 2 (⟨x_209,x_210,x_211⟩:GL00Src)).bind fun r_234 =>
    if r_234.1 then
    (spec_l00Src_pick [[112],[113]] r_234.2).bind fun r_237 =>
    some (r_237.2.Code,r_237.2.At,r_237.2.Seed,[],[r_237.1])
    else
    (spec_l00Src_chance 2 r_234.2).bind fun r_239 =>
    if r_239.1 then
    (spec_l00Src_datum 4 r_239.2).bind fun r_242 =>
    some (r_242.2.Code,r_242.2.At,r_242.2.Seed,r_242.1,[])
    else
    some (r_239.2.Code,r_239.2.At,r_239.2.Seed,[],[])
    else
    some (x_209,x_210,x_211,x_212,[]):Option ((List Int) × Int × Int × (List GAtom) × (List Str)))).bind fun p232 =>
    (match p232 with
    | (x_227,x_228,x_229,x_230,x_231) =>
    if (out ++ [(⟨c.Name,x_230,x_231⟩:GSet)]).length ≤ 2 ^ 30 then
    spec_l00Src_sets_L1 xs (i + 1) x_227 x_228 x_229 (out ++ [(⟨c.Name,x_230,x_231⟩:GSet)])
    else none))) = some (s''.Code,s''.At,s''.Seed,l) ∧ ValS l ∧ l.length ≤ out.length + (xs.length + 1) ∧ Nx s s'' (20 * ((xs.length + 1:Nat):Int)):=by
      obtain ⟨a,s2,e2,_,_,n2⟩:=p_atom c.Kind s1 (hk c (by simp)) n1.ok (by omega)
      have e2':spec_l00Src_atom c.Kind (⟨s1.Code,s1.At,s1.Seed⟩:GL00Src) = some (a,s2):=e2
      have h2:=n2.hi
      rw [e2',Option.bind_some,Option.bind_some]
      simp only
      by_cases k4:c.Kind = 4
      · rw [if_pos (by simpa using k4)]
        obtain ⟨b3,s3,e3,n3⟩:=p_chance 2 s2 n2.ok (by omega) (by omega) (by omega)
        have e3':spec_l00Src_chance 2 (⟨s2.Code,s2.At,s2.Seed⟩:GL00Src) = some (b3,s3):=e3
        have h3:=n3.hi
        rw [e3',Option.bind_some]
        cases b3 with
        | true =>
          obtain ⟨t,s4,e4,_,n4⟩:=p_srcpick [[112],[113]] s3 n3.ok (by omega) (by simp) (by simp)
          have h4:=n4.hi
          rw [if_pos rfl,e4,Option.bind_some,Option.bind_some]
          simp only
          rw [if_pos (by simp <;> omega)]
          exact skip s4 ((((n1.trans n2).trans n3).trans n4).mono (by omega)) _ (valS_app hv (by simp)) (by simp)
        | false =>
          obtain ⟨b5,s5,e5,n5⟩:=p_chance 2 s3 n3.ok (by omega) (by omega) (by omega)
          have h5:=n5.hi
          rw [if_neg (by simp),e5,Option.bind_some]
          cases b5 with
          | true =>
            obtain ⟨d,s6,e6,_,hd,n6⟩:=p_datum 4 s5 (by omega) n5.ok (by omega)
            have h6:=n6.hi
            rw [if_pos rfl,e6,Option.bind_some,Option.bind_some]
            simp only
            rw [if_pos (by simp <;> omega)]
            exact skip s6 (((((n1.trans n2).trans n3).trans n5).trans n6).mono (by omega)) _ (valS_app hv (by simp only; omega)) (by simp)
          | false =>
            rw [if_neg (by simp),Option.bind_some]
            simp only
            rw [if_pos (by simp <;> omega)]
            exact skip s5 ((((n1.trans n2).trans n3).trans n5).mono (by omega)) _ (valS_app hv (by simp)) (by simp)
      · rw [if_neg (by simpa using k4),Option.bind_some]
        simp only
        rw [if_pos (by simp <;> omega)]
        exact skip s2 ((n1.trans n2).mono (by omega)) _ (valS_app hv (by simp)) (by simp)
    cases b1 with
    | true =>
      rw [if_neg (by simp),Option.bind_some]
      simp only
      rw [if_neg (by simp)]
      exact go
    | false =>
      rw [if_pos (by simp),Option.bind_some]
      simp only
      by_cases h0:(i:Int) > 0
      · rw [if_pos (by simpa using h0)]
        exact skip s1 (n1.mono (by omega)) out hv (by omega)
      · rw [if_neg (by simpa using h0)]
        exact go
theorem p_setsOf_L1:∀ (n k i:Nat) (l:List GSet),n + i = l.length → n < k → l.length ≤ 1000 → ValS l → ∃ l',spec_SetsOf_L1 k (i:Int) l = some l' ∧ ValS l'
  | _,0,_,_,_,h,_,_ => by omega
  | 0,k + 1,i,l,h,_,_,hv => ⟨l,by rw [spec_SetsOf_L1,if_neg (by simp <;> omega)],hv⟩
  | n + 1,k + 1,i,l,h,hk,hl,hv => by
    obtain ⟨x,hx⟩:∃ x,l[i]? = some x:=⟨l[i]'(by omega),List.getElem?_eq_getElem (by omega)⟩
    have ew:w64 ((i:Int) + 1) = ((i + 1:Nat):Int):=by rw [w64_id (by omega)]; omega
    have e0:l[0 + ((i:Nat):Int).toNat]? = some x:=by simpa using hx
    rw [spec_SetsOf_L1,if_pos (by simp <;> omega),if_pos (by omega),e0,Option.bind_some,ew]
    refine p_setsOf_L1 n k (i + 1) _ (by simp <;> omega) (by omega) (by simp <;> omega) (fun y hy => ?_)
    rcases List.mem_or_eq_of_mem_set hy with g | g
    · exact hv y g
    · rw [g]; exact hv x (List.mem_of_getElem? hx)
theorem p_SetsOf (code:List Int) (v:Int) (hv:0 ≤ v ∧ v < 3) (hc:∀ x ∈ code,0 ≤ x ∧ x < 256) (hl:(code.length:Int) ≤ 1048576):∃ l,spec_SetsOf code v = some l ∧ ValS l:=by
  have hf:2 ^ 40 < FUEL:=by unfold FUEL; decide
  obtain ⟨s,e1,g1,g2,_⟩:=p_source code hc hl
  obtain ⟨t,_,e3,ht⟩:=plain_idx v hv
  have hlen:=nt_len ht
  obtain ⟨s',l,q1,q2,q3,_⟩:=p_sets_L1 t.Columns 0 s [] (nt_kind ht) (by intro x hx; simp at hx) (by simp <;> omega) g1 (by rw [g2]; omega)
  simp only [List.length_nil] at q3
  obtain ⟨l',r1,r2⟩:=p_setsOf_L1 l.length FUEL 0 l (by omega) (by omega) (by omega) q2
  have r1':spec_SetsOf_L1 FUEL 0 l = some l':=r1
  refine ⟨l',?_,r2⟩
  have e3':plainS.Tables[0 + v.toNat]? = some t:=by simpa using e3
  have hlp:(plainS.Tables.length:Int) = 3:=rfl
  unfold spec_SetsOf spec_l00Src_sets
  rw [e1,Option.bind_some,p_plainS,Option.bind_some,if_pos (by rw [hlp]; exact hv),e3',Option.bind_some,q1,Option.bind_some]
  simp only [Option.bind_some,r1']
theorem p_sameRow_L1 (b:GRow):∀ (xs:List (List GAtom)) (i:Nat),b.Cells.drop i = xs → laws_sameRow_L1 b xs i = some (.go ())
  | [],i,_ => by rw [laws_sameRow_L1]
  | x :: xs,i,h => by
    rw [laws_sameRow_L1,idx_drop h,Option.bind_some,p_same,Option.bind_some,if_neg (by simp),p_sameRow_L1 b xs (i + 1) (drop_next h)]
theorem p_sameRow (r:GRow):laws_sameRow r r = some true:=by
  unfold laws_sameRow
  rw [Option.bind_some,if_neg (by simp),p_sameRow_L1 r r.Cells 0 (by simp)]
  rfl
theorem allI_set {α:Type} (f:Nat → α → Bool) (xs:List α) (k:Nat) (y:α) (h:allI f xs 0 = true) (hy:f k y = true):allI f (xs.set k y) 0 = true:=by
  rw [allI_iff] at h ⊢
  intro q x hq
  rw [Nat.zero_add]
  rw [List.getElem?_set] at hq
  by_cases e:k = q
  · subst e
    rw [if_pos rfl] at hq
    split at hq
    · cases hq; exact hy
    · cases hq
  · rw [if_neg e] at hq
    have:=h q x hq
    rwa [Nat.zero_add] at this
theorem setF_cells (t:GTable):∀ (l:List GSet) (cs cs':List (List GAtom)),(∀ x ∈ l,setB x = true) → allI (cellB t) cs 0 = true → setF t l cs = .go cs' → allI (cellB t) cs' 0 = true
  | [],cs,cs',_,h,e => by simp only [setF,Fl.go.injEq] at e; subst e; exact h
  | x :: l,cs,cs',hb,h,e => by
    rw [setF] at e
    cases hk:colK t x.Column with
    | none => rw [hk] at e; cases e; exact h
    | some k =>
      obtain ⟨c,_,e2⟩:=colK_get hk
      rw [hk] at e
      simp only [e2] at e
      by_cases q:fitsF c x.Value = 0
      · rw [if_pos q] at e
        refine setF_cells t l _ cs' (fun y hy => hb y (by simp [hy])) (allI_set _ cs k _ h ?_) e
        have hx:=hb x (by simp)
        unfold setB at hx
        simp only [Bool.and_eq_true] at hx
        unfold cellB
        simp [hx.1.1.2,e2,q]
      · rw [if_neg q] at e; cases e
def dueF (n:Str):List GSet → List GAtom → List GAtom
  | [],d => d
  | x :: l,d => if x.Column = n then dueF n l x.Value else dueF n l d
theorem p_due (c:GColumn):∀ (l:List GSet) (d:List GAtom),laws_FnCells_L2 c l d = some (dueF c.Name l d)
  | [],d => by rw [laws_FnCells_L2]; rfl
  | x :: l,d => by
    rw [laws_FnCells_L2,dueF]
    by_cases h:x.Column = c.Name
    · rw [if_pos (by simpa using h),if_pos h,p_due c l]
    · rw [if_neg (by simpa using h),if_neg h,p_due c l]
theorem setF_due (t:GTable) (n:Str) (i:Nat) (hn:colK t n = some i):∀ (l:List GSet) (cs cs':List (List GAtom)) (d:List GAtom),(∀ x ∈ l,(colK t x.Column).isSome = true) → cs[i]? = some d → setF t l cs = .go cs' → cs'[i]? = some (dueF n l d)
  | [],cs,cs',d,_,h,e => by simp only [setF,Fl.go.injEq] at e; subst e; exact h
  | x :: l,cs,cs',d,hc,h,e => by
    rw [setF] at e
    obtain ⟨k,hk⟩:=Option.isSome_iff_exists.1 (hc x (by simp))
    obtain ⟨c,_,e2⟩:=colK_get hk
    rw [hk] at e
    simp only [e2] at e
    have hlt:=(List.getElem?_eq_some_iff.1 h).1
    by_cases q:fitsF c x.Value = 0
    · rw [if_pos q] at e
      rw [dueF]
      by_cases hx:x.Column = n
      · rw [hx,hn] at hk
        cases hk
        rw [if_pos hx]
        exact setF_due t n i hn l _ cs' x.Value (fun y hy => hc y (by simp [hy])) (by rw [List.getElem?_set,if_pos rfl,if_pos hlt]) e
      · rw [if_neg hx]
        have hki:k ≠ i:=by
          intro he
          subst he
          obtain ⟨h1,h2,_⟩:=List.findIdx?_eq_some_iff_getElem.1 hk
          obtain ⟨h3,h4,_⟩:=List.findIdx?_eq_some_iff_getElem.1 hn
          simp only [beq_iff_eq] at h2 h4
          exact hx (h2.symm.trans h4)
        exact setF_due t n i hn l _ cs' d (fun y hy => hc y (by simp [hy])) (by rw [List.getElem?_set,if_neg hki]; exact h) e
    · rw [if_neg q] at e; cases e
theorem p_PickC {t:GTable} (ht:t = nt0 ∨ t = nt1 ∨ t = nt2) (r:GRow) (hr:rowOKB t r = true) (n:Str) (i:Nat) (hn:colK t n = some i):impl_PickColumns t r [n,[95,117,117,105,100]] = some (⟨r.Id,[rcell t r n,[⟨4,r.Id,[]⟩]]⟩,0):=by
  have hsm:∀ d ∈ r.Cells,d.length ≤ maxLen:=fun d hd => by have:=datB_len (rowOKB_cell hr hd); unfold maxLen; omega
  unfold impl_PickColumns impl_isList_string
  rw [p_RowOK t r hsm,p_columnsCode,nt_tab ht,hr,p_pick hr _ (by simp)]
  have e1:(namedC t n).isSome = true:=by
    obtain ⟨x,_,h2⟩:=colK_get hn
    unfold namedC
    rw [hn]
    show (t.Columns[i]?).isSome = true
    rw [h2]; rfl
  have e2:(namedC t [95,117,117,105,100]).isSome = true:=by
    unfold namedC
    rw [nt_uuid ht]
    rfl
  have e3:firstI (nameI t) [n,[95,117,117,105,100]] = 0:=by simp [firstI,nameI,e1,e2]
  have e4:rcell t r [95,117,117,105,100] = [⟨4,r.Id,[]⟩]:=by unfold rcell; rw [nt_uuid ht]
  rw [e3]
  simp [e4]
theorem p_cells_L1 {t:GTable} (ht:t = nt0 ∨ t = nt1 ∨ t = nt2) (id:Int) (cs cs':List (List GAtom)) (l:List GSet) (hl:∀ x ∈ l,(colK t x.Column).isSome = true) (hcs:cs.length = t.Columns.length) (he:setF t l cs = .go cs') (hr:rowOKB t ⟨id,cs'⟩ = true) (c:Int):∀ (xs:List GColumn) (i:Nat),t.Columns.drop i = xs → laws_FnCells_L1 cs l t (⟨id,cs'⟩,c) id xs i = some (.go ())
  | [],i,_ => by rw [laws_FnCells_L1]
  | x :: xs,i,hd => by
    have hlt:=drop_lt hd
    have hx:t.Columns[i]? = some x:=by have:=congrArg (·[0]?) hd; simpa using this
    have hn:colK t x.Name = some i:=by
      have:=(allI_iff _ _ _).1 (nt_here ht) i x hx
      simpa using this
    obtain ⟨d,hdd⟩:∃ d,cs[i]? = some d:=⟨cs[i]'(by omega),List.getElem?_eq_getElem (by omega)⟩
    have hdue:=setF_due t x.Name i hn l cs cs' d hl hdd he
    have hrc:rcell t ⟨id,cs'⟩ x.Name = dueF x.Name l d:=by
      unfold rcell
      rw [hn]
      show (cs'[i]?).getD [] = _
      rw [hdue]; rfl
    rw [laws_FnCells_L1,idx_nat,hdd,Option.bind_some,p_due,Option.bind_some,p_PickC ht ⟨id,cs'⟩ hr x.Name i hn,Option.bind_some,Option.bind_some,hrc]
    simp only [bne_self_eq_false,cond_false,List.length_cons,List.length_nil]
    have i0:idx [dueF x.Name l d,[(⟨4,id,[]⟩:GAtom)]] 0 = some (dueF x.Name l d):=rfl
    have i1:idx [dueF x.Name l d,[(⟨4,id,[]⟩:GAtom)]] 1 = some [⟨4,id,[]⟩]:=rfl
    have i2:idx [(⟨4,id,[]⟩:GAtom)] 0 = some ⟨4,id,[]⟩:=rfl
    rw [i0,i1]
    simp [p_same,i2,p_cells_L1 ht id cs cs' l hl hcs he hr c xs (i + 1) (drop_next hd)]
theorem law_FnCells (code more:List Int) (h1:okL (okI .u8) code) (h2:okL (okI .u8) more):laws_FnCells code more = some true:=by
  unfold laws_FnCells
  by_cases c1:(code.length:Int) > 1048576
  · rw [if_pos (by simpa using c1)]; rfl
  by_cases c2:(more.length:Int) > 1048576
  · rw [if_neg (by simpa using c1),Option.bind_some,if_pos (by simpa using c2)]
  rw [if_neg (by simpa using c1),Option.bind_some,if_neg (by simpa using c2)]
  have b1:∀ z ∈ code,0 ≤ z ∧ z < 256:=fun z hz => by have:=okI_u8.1 (h1.2 z hz); omega
  have b2:∀ z ∈ more,0 ≤ z ∧ z < 256:=fun z hz => by have:=okI_u8.1 (h2.2 z hz); omega
  obtain ⟨v,ev,v1,v2⟩:=p_at more 3 b2 (by omega) (by omega) 0 (by omega)
  obtain ⟨u,eu,u1,u2⟩:=p_at more 99 b2 (by omega) (by omega) 1 (by omega)
  have w1:w64 (1 + u) = 1 + u:=w64_id (by omega)
  obtain ⟨t,et,_,ht⟩:=plain_idx v ⟨v1,v2⟩
  obtain ⟨l,el,hl⟩:=p_SetsOf code v ⟨v1,v2⟩ b1 (by omega)
  have hrow:=nt_rowOK ht (1 + u) (by omega)
  have hsm:∀ d ∈ (⟨1 + u,t.Columns.map startF⟩:GRow).Cells,d.length ≤ maxLen:=fun d hd => by have:=datB_len (rowOKB_cell hrow hd); unfold maxLen; omega
  obtain ⟨o,c,f1,f2,hk⟩:=p_SetRow t ⟨1 + u,t.Columns.map startF⟩ l hsm (fun x hx => by have:=hl x hx; unfold maxLen; omega)
  rw [ev,Option.bind_some,p_plainS,Option.bind_some,et,Option.bind_some,eu,Option.bind_some,w1,p_FreshRow ht (1 + u) (by omega),Option.bind_some,Option.bind_some]
  simp only [el,f1,f2,Option.bind_some,bne_self_eq_false,cond_false,Bool.false_eq_true,if_false,p_sameRow,Bool.not_true,p_RowOK t _ hsm,nt_tab ht,hrow,Bool.and_self,w1]
  rcases hk with ⟨k1,k2⟩ | ⟨k1,k2,k3,k4,cs,k5,k6⟩
  · rw [if_pos (by simpa using k1),k2]; rfl
  · subst k1 k6
    have hs:∀ x ∈ l,setB x = true:=fun x hx => List.all_eq_true.1 k3 x hx
    have hlen:=(setF_go t k5).1
    have hr':rowOKB t ⟨1 + u,cs⟩ = true:=by
      unfold rowOKB
      have:=setF_cells t l _ cs hs (nt_cells ht) k5
      simp only [List.length_map] at hlen
      rw [this,decide_eq_true (show 1 ≤ 1 + u ∧ 1 + u ≤ 1000000 by omega),decide_eq_true hlen]
      rfl
    rw [if_neg (by simp),p_cells_L1 ht (1 + u) _ cs l (setsI_col t l k4) (by simp) k5 hr' 0 t.Columns 0 (by simp)]
    rfl
end Go.R
