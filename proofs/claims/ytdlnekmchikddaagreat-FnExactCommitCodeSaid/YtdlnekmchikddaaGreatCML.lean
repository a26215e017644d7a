/- Plain laws of what this statement reaches. -/
import Derived.Test.YtdlnekmchikddaaGreatCMH
import Derived.Test.YtdlnekmchikddaaGreatP0
set_option linter.all false
namespace Go.R
open Go
set_option linter.all false
theorem p_slices_IndexFunc_impl_Atom_impl_Atom_L1 (f:GAtom → Option Bool) (p:GAtom → Bool):∀ (xs:List GAtom) (i:Nat),(∀ x ∈ xs,f x = some (p x)) → slices_IndexFunc_impl_Atom_impl_Atom_L1 f xs i = some (match xs.findIdx? p with | some k => .ret ((i + k:Nat):Int) | none => .go ())
  | [],i,_ => by rw [slices_IndexFunc_impl_Atom_impl_Atom_L1]; rfl
  | x :: xs,i,h => by
    rw [slices_IndexFunc_impl_Atom_impl_Atom_L1,h x (by simp),Option.bind_some,p_slices_IndexFunc_impl_Atom_impl_Atom_L1 f p xs (i + 1) (fun y hy => h y (by simp [hy])),List.findIdx?_cons]
    cases hp:p x with
    | true => simp
    | false =>
      cases hq:xs.findIdx? p with
      | none => simp
      | some k => simp; omega
theorem p_slices_IndexFunc_impl_Atom_impl_Atom (f:GAtom → Option Bool) (p:GAtom → Bool) (xs:List GAtom) (h:∀ x ∈ xs,f x = some (p x)):slices_IndexFunc_impl_Atom_impl_Atom xs f = some (match xs.findIdx? p with | some k => (k:Int) | none => -1):=by
  unfold slices_IndexFunc_impl_Atom_impl_Atom
  rw [p_slices_IndexFunc_impl_Atom_impl_Atom_L1 f p xs 0 h]
  cases hq:xs.findIdx? p with
  | none => rfl
  | some k => simp
theorem p_slices_IndexFunc_impl_Column_impl_Column_L1 (f:GColumn → Option Bool) (p:GColumn → Bool):∀ (xs:List GColumn) (i:Nat),(∀ x ∈ xs,f x = some (p x)) → slices_IndexFunc_impl_Column_impl_Column_L1 f xs i = some (match xs.findIdx? p with | some k => .ret ((i + k:Nat):Int) | none => .go ())
  | [],i,_ => by rw [slices_IndexFunc_impl_Column_impl_Column_L1]; rfl
  | x :: xs,i,h => by
    rw [slices_IndexFunc_impl_Column_impl_Column_L1,h x (by simp),Option.bind_some,p_slices_IndexFunc_impl_Column_impl_Column_L1 f p xs (i + 1) (fun y hy => h y (by simp [hy])),List.findIdx?_cons]
    cases hp:p x with
    | true => simp
    | false =>
      cases hq:xs.findIdx? p with
      | none => simp
      | some k => simp; omega
theorem p_slices_IndexFunc_impl_Column_impl_Column (f:GColumn → Option Bool) (p:GColumn → Bool) (xs:List GColumn) (h:∀ x ∈ xs,f x = some (p x)):slices_IndexFunc_impl_Column_impl_Column xs f = some (match xs.findIdx? p with | some k => (k:Int) | none => -1):=by
  unfold slices_IndexFunc_impl_Column_impl_Column
  rw [p_slices_IndexFunc_impl_Column_impl_Column_L1 f p xs 0 h]
  cases hq:xs.findIdx? p with
  | none => rfl
  | some k => simp
theorem p_slices_IndexFunc_impl_Table_impl_Table_L1 (f:GTable → Option Bool) (p:GTable → Bool):∀ (xs:List GTable) (i:Nat),(∀ x ∈ xs,f x = some (p x)) → slices_IndexFunc_impl_Table_impl_Table_L1 f xs i = some (match xs.findIdx? p with | some k => .ret ((i + k:Nat):Int) | none => .go ())
  | [],i,_ => by rw [slices_IndexFunc_impl_Table_impl_Table_L1]; rfl
  | x :: xs,i,h => by
    rw [slices_IndexFunc_impl_Table_impl_Table_L1,h x (by simp),Option.bind_some,p_slices_IndexFunc_impl_Table_impl_Table_L1 f p xs (i + 1) (fun y hy => h y (by simp [hy])),List.findIdx?_cons]
    cases hp:p x with
    | true => simp
    | false =>
      cases hq:xs.findIdx? p with
      | none => simp
      | some k => simp; omega
theorem p_slices_IndexFunc_impl_Table_impl_Table (f:GTable → Option Bool) (p:GTable → Bool) (xs:List GTable) (h:∀ x ∈ xs,f x = some (p x)):slices_IndexFunc_impl_Table_impl_Table xs f = some (match xs.findIdx? p with | some k => (k:Int) | none => -1):=by
  unfold slices_IndexFunc_impl_Table_impl_Table
  rw [p_slices_IndexFunc_impl_Table_impl_Table_L1 f p xs 0 h]
  cases hq:xs.findIdx? p with
  | none => rfl
  | some k => simp
theorem p_slices_IndexFunc_int_int_L1 (f:Int → Option Bool) (p:Int → Bool):∀ (xs:List Int) (i:Nat),(∀ x ∈ xs,f x = some (p x)) → slices_IndexFunc_int_int_L1 f xs i = some (match xs.findIdx? p with | some k => .ret ((i + k:Nat):Int) | none => .go ())
  | [],i,_ => by rw [slices_IndexFunc_int_int_L1]; rfl
  | x :: xs,i,h => by
    rw [slices_IndexFunc_int_int_L1,h x (by simp),Option.bind_some,p_slices_IndexFunc_int_int_L1 f p xs (i + 1) (fun y hy => h y (by simp [hy])),List.findIdx?_cons]
    cases hp:p x with
    | true => simp
    | false =>
      cases hq:xs.findIdx? p with
      | none => simp
      | some k => simp; omega
theorem p_slices_IndexFunc_int_int (f:Int → Option Bool) (p:Int → Bool) (xs:List Int) (h:∀ x ∈ xs,f x = some (p x)):slices_IndexFunc_int_int xs f = some (match xs.findIdx? p with | some k => (k:Int) | none => -1):=by
  unfold slices_IndexFunc_int_int
  rw [p_slices_IndexFunc_int_int_L1 f p xs 0 h]
  cases hq:xs.findIdx? p with
  | none => rfl
  | some k => simp
theorem p_slices_ContainsFunc_impl_Atom_impl_Atom (f:GAtom → Option Bool) (p:GAtom → Bool) (xs:List GAtom) (h:∀ x ∈ xs,f x = some (p x)):slices_ContainsFunc_impl_Atom_impl_Atom xs f = some (xs.any p):=by
  unfold slices_ContainsFunc_impl_Atom_impl_Atom
  rw [p_slices_IndexFunc_impl_Atom_impl_Atom f p xs h,Option.bind_some]
  cases hq:xs.findIdx? p with
  | none =>
    have:xs.any p = false:=by
      rw [List.any_eq_false]
      intro x hx
      have:=List.findIdx?_eq_none_iff.1 hq x hx
      simp [this]
    rw [this]; rfl
  | some k =>
    have:xs.any p = true:=by
      obtain ⟨x,hx,hp⟩:∃ x,x ∈ xs ∧ p x = true:=by
        have:=List.findIdx?_eq_some_iff_getElem.1 hq
        obtain ⟨hk,h1,_⟩:=this
        exact ⟨xs[k],List.getElem_mem _,h1⟩
      exact List.any_eq_true.2 ⟨x,hx,hp⟩
    rw [this]
    simp
theorem p_slices_ContainsFunc_impl_Column_impl_Column (f:GColumn → Option Bool) (p:GColumn → Bool) (xs:List GColumn) (h:∀ x ∈ xs,f x = some (p x)):slices_ContainsFunc_impl_Column_impl_Column xs f = some (xs.any p):=by
  unfold slices_ContainsFunc_impl_Column_impl_Column
  rw [p_slices_IndexFunc_impl_Column_impl_Column f p xs h,Option.bind_some]
  cases hq:xs.findIdx? p with
  | none =>
    have:xs.any p = false:=by
      rw [List.any_eq_false]
      intro x hx
      have:=List.findIdx?_eq_none_iff.1 hq x hx
      simp [this]
    rw [this]; rfl
  | some k =>
    have:xs.any p = true:=by
      obtain ⟨x,hx,hp⟩:∃ x,x ∈ xs ∧ p x = true:=by
        have:=List.findIdx?_eq_some_iff_getElem.1 hq
        obtain ⟨hk,h1,_⟩:=this
        exact ⟨xs[k],List.getElem_mem _,h1⟩
      exact List.any_eq_true.2 ⟨x,hx,hp⟩
    rw [this]
    simp
theorem p_slices_ContainsFunc_impl_Table_impl_Table (f:GTable → Option Bool) (p:GTable → Bool) (xs:List GTable) (h:∀ x ∈ xs,f x = some (p x)):slices_ContainsFunc_impl_Table_impl_Table xs f = some (xs.any p):=by
  unfold slices_ContainsFunc_impl_Table_impl_Table
  rw [p_slices_IndexFunc_impl_Table_impl_Table f p xs h,Option.bind_some]
  cases hq:xs.findIdx? p with
  | none =>
    have:xs.any p = false:=by
      rw [List.any_eq_false]
      intro x hx
      have:=List.findIdx?_eq_none_iff.1 hq x hx
      simp [this]
    rw [this]; rfl
  | some k =>
    have:xs.any p = true:=by
      obtain ⟨x,hx,hp⟩:∃ x,x ∈ xs ∧ p x = true:=by
        have:=List.findIdx?_eq_some_iff_getElem.1 hq
        obtain ⟨hk,h1,_⟩:=this
        exact ⟨xs[k],List.getElem_mem _,h1⟩
      exact List.any_eq_true.2 ⟨x,hx,hp⟩
    rw [this]
    simp
theorem p_slices_ContainsFunc_int_int (f:Int → Option Bool) (p:Int → Bool) (xs:List Int) (h:∀ x ∈ xs,f x = some (p x)):slices_ContainsFunc_int_int xs f = some (xs.any p):=by
  unfold slices_ContainsFunc_int_int
  rw [p_slices_IndexFunc_int_int f p xs h,Option.bind_some]
  cases hq:xs.findIdx? p with
  | none =>
    have:xs.any p = false:=by
      rw [List.any_eq_false]
      intro x hx
      have:=List.findIdx?_eq_none_iff.1 hq x hx
      simp [this]
    rw [this]; rfl
  | some k =>
    have:xs.any p = true:=by
      obtain ⟨x,hx,hp⟩:∃ x,x ∈ xs ∧ p x = true:=by
        have:=List.findIdx?_eq_some_iff_getElem.1 hq
        obtain ⟨hk,h1,_⟩:=this
        exact ⟨xs[k],List.getElem_mem _,h1⟩
      exact List.any_eq_true.2 ⟨x,hx,hp⟩
    rw [this]
    simp
def charB (c:UInt8):Bool:=!(decide ((c.toNat:Int) < 32) || decide ((c.toNat:Int) > 126))
def textB (t:Str):Bool:=t.all charB && decide ((t.length:Int) ≤ 200)
theorem p_plain_L1:∀ t:Str,impl_isPlain_L1 t = some (if t.all charB = true then .go () else .ret false)
  | [] => by rw [impl_isPlain_L1]; simp
  | x :: xs => by
    rw [impl_isPlain_L1,p_plain_L1 xs]
    by_cases h1:(x.toNat:Int) < 32
    · simp [h1,charB]
    · by_cases h2:(x.toNat:Int) > 126
      · simp [h1,h2,charB]
      · simp [h1,h2,charB]
theorem p_plain (t:Str):impl_isPlain t = some (textB t):=by
  unfold impl_isPlain textB
  rw [p_plain_L1]
  by_cases h:t.all charB = true
  · simp only [h,if_pos,Option.bind_some,Bool.true_and]
  · simp only [h,Bool.not_eq_true] at h ⊢
    simp [h]
theorem p_within (n a b:Int):impl_within n a b = some (decide (a ≤ n ∧ n ≤ b)):=by
  unfold impl_within
  by_cases h:a ≤ n <;> simp [h]
theorem p_text_L1:∀ t:Str,spec_l01Text_L1 t = some (if t.all charB = true then .go () else .ret false)
  | [] => by rw [spec_l01Text_L1]; simp
  | x :: xs => by
    rw [spec_l01Text_L1,p_text_L1 xs]
    by_cases h1:(x.toNat:Int) < 32
    · simp [h1,charB]
    · by_cases h2:(x.toNat:Int) > 126
      · simp [h1,h2,charB]
      · simp [h1,h2,charB]
theorem p_text (t:Str):spec_l01Text t = some (textB t):=by
  unfold spec_l01Text textB
  rw [p_text_L1]
  by_cases h:t.all charB = true
  · simp only [h,if_pos,Option.bind_some,Bool.true_and]
  · simp only [h,Bool.not_eq_true] at h ⊢
    simp [h]
theorem p_in (n a b:Int):spec_l01In n a b = some (decide (a ≤ n ∧ n ≤ b)):=by
  unfold spec_l01In
  by_cases h:a ≤ n <;> simp [h]
theorem cmpB_range:∀ a b:Str,Lib.compareBytes a b = -1 ∨ Lib.compareBytes a b = 0 ∨ Lib.compareBytes a b = 1
  | [],[] => by simp [Lib.compareBytes]
  | [],_ :: _ => by simp [Lib.compareBytes]
  | _ :: _,[] => by simp [Lib.compareBytes]
  | a :: xs,b :: ys => by
    have:=cmpB_range xs ys
    unfold Lib.compareBytes
    split
    · simp
    · split
      · simp
      · exact this
theorem u8_tri (a b:UInt8):a < b ∨ a = b ∨ b < a:=by
  simp only [UInt8.lt_iff_toNat_lt,← UInt8.toNat_inj]
  omega
theorem u8_asym {a b:UInt8} (h:a < b):¬ b < a:=by
  simp only [UInt8.lt_iff_toNat_lt] at *
  omega
theorem cmpB_zero:∀ a b:Str,Lib.compareBytes a b = 0 ↔ a = b
  | [],[] => by simp [Lib.compareBytes]
  | [],_ :: _ => by simp [Lib.compareBytes]
  | _ :: _,[] => by simp [Lib.compareBytes]
  | a :: xs,b :: ys => by
    have ih:=cmpB_zero xs ys
    unfold Lib.compareBytes
    rcases u8_tri a b with h | h | h
    · have hne:a ≠ b:=by rintro rfl; exact UInt8.lt_irrefl _ h
      simp [h,hne]
    · subst h; simp [UInt8.lt_irrefl,ih]
    · have hne:a ≠ b:=by rintro rfl; exact UInt8.lt_irrefl _ h
      simp [h,u8_asym h,hne]
theorem cmpB_less:∀ a b:Str,Op.bytesLess a b = decide (Lib.compareBytes a b < 0)
  | [],[] => by simp [Lib.compareBytes,Op.bytesLess]
  | [],_ :: _ => by simp [Lib.compareBytes,Op.bytesLess]
  | _ :: _,[] => by simp [Lib.compareBytes,Op.bytesLess]
  | a :: xs,b :: ys => by
    have ih:=cmpB_less xs ys
    unfold Lib.compareBytes Op.bytesLess
    rcases u8_tri a b with h | h | h
    · simp [h]
    · subst h; simp [UInt8.lt_irrefl,ih]
    · have hne:¬ a = b:=by rintro rfl; exact UInt8.lt_irrefl _ h
      simp [h,u8_asym h,hne]
def ordA (a b:GAtom):Int:=if a.Kind ≠ b.Kind then (if a.Kind < b.Kind then -1 else 1) else if a.N ≠ b.N then (if a.N < b.N then -1 else 1) else Lib.compareBytes a.T b.T
theorem p_cmpInt (x y:Int):cmp_Compare_int x y = some (if x < y then -1 else if x > y then 1 else 0):=by
  unfold cmp_Compare_int cmp_isNaN_int
  by_cases h1:x < y <;> by_cases h2:x > y <;> simp [h1,h2]
theorem p_compareAtoms (a b:GAtom):impl_compareAtoms a b = some (ordA a b):=by
  unfold impl_compareAtoms strings_Compare internal_bytealg_CompareString cmp_Or_int
  simp only [p_cmpInt,Option.bind_some]
  unfold ordA
  by_cases h1:a.Kind = b.Kind
  · by_cases h2:a.N = b.N
    · have e1:(if a.Kind < b.Kind then (-1:Int) else if a.Kind > b.Kind then 1 else 0) = 0:=by rw [h1]; simp
      have e2:(if a.N < b.N then (-1:Int) else if a.N > b.N then 1 else 0) = 0:=by rw [h2]; simp
      rw [e1,e2]
      simp only [cmp_Or_int_L1,h1,h2]
      by_cases h3:Lib.compareBytes a.T b.T = 0
      · simp [h3]
      · simp [h3]
    · have e1:(if a.Kind < b.Kind then (-1:Int) else if a.Kind > b.Kind then 1 else 0) = 0:=by rw [h1]; simp
      rw [e1]
      rcases Int.lt_or_gt_of_ne h2 with h3 | h3
      · simp [cmp_Or_int_L1,h1,h2,h3]
      · have h4:¬ a.N < b.N:=by omega
        simp [cmp_Or_int_L1,h1,h2,h3,h4]
  · rcases Int.lt_or_gt_of_ne h1 with h3 | h3
    · simp [cmp_Or_int_L1,h1,h3]
    · have h4:¬ a.Kind < b.Kind:=by omega
      simp [cmp_Or_int_L1,h1,h3,h4]
theorem p_Order (a b:GAtom):spec_l03Order a b = some (ordA a b):=by
  unfold spec_l03Order spec_l01Bit ordA
  have w0:w64 (1 - w64 0) = 1:=by decide
  have w1:w64 (1 - w64 2) = -1:=by decide
  by_cases h1:a.Kind = b.Kind
  · by_cases h2:a.N = b.N
    · simp only [h1,h2,bne_self_eq_false,Bool.false_eq_true,if_false,ne_eq,not_true_eq_false,cmpB_less]
      by_cases h3:a.T = b.T
      · simp [h3,(cmpB_zero b.T b.T).2 rfl]
      · have hne:Lib.compareBytes a.T b.T ≠ 0:=fun h => h3 ((cmpB_zero _ _).1 h)
        rcases cmpB_range a.T b.T with h | h | h
        · simp [h3,h,w1]
        · exact absurd h hne
        · simp [h3,h,w0]
    · by_cases h3:a.N < b.N <;> simp [h1,h2,h3,w0,w1]
  · by_cases h3:a.Kind < b.Kind <;> simp [h1,h3,w0,w1]
def atomB (a:GAtom):Bool :=
  (decide (a.Kind = 1) && decide (-1000000000 ≤ a.N ∧ a.N ≤ 1000000000) && decide (a.T = [])) ||
  (decide (a.Kind = 2) && decide (a.N = 0) && textB a.T) ||
  (decide (a.Kind = 3) && decide (0 ≤ a.N ∧ a.N ≤ 1) && decide (a.T = [])) ||
  (decide (a.Kind = 4) && decide (1 ≤ a.N ∧ a.N ≤ 1000000) && decide (a.T = []))
theorem p_AtomOK (a:GAtom):impl_AtomOK a = some (atomB a):=by
  unfold impl_AtomOK impl_isNumber impl_isId atomB
  simp only [p_within,p_plain,Option.bind_some]
  by_cases h1:a.Kind = 1
  · simp only [h1]
    by_cases c:(-1000000000 ≤ a.N ∧ a.N ≤ 1000000000) <;> by_cases d:a.T = [] <;> simp [c,d]
  by_cases h2:a.Kind = 2
  · simp only [h2]
    by_cases c:a.N = 0 <;> simp [c]
  by_cases h3:a.Kind = 3
  · simp only [h3]
    by_cases c:(0 ≤ a.N ∧ a.N ≤ 1) <;> by_cases d:a.T = [] <;> simp [c,d]
  by_cases h4:a.Kind = 4
  · simp only [h4]
    by_cases c:(1 ≤ a.N ∧ a.N ≤ 1000000) <;> by_cases d:a.T = [] <;> simp [c,d]
  · simp [h1,h2,h3,h4]
def stepB (d:List GAtom) (q:Nat) (x:GAtom):Bool :=
  atomB x && (match d[0]? with | some h => x.Kind == h.Kind | none => false) && (q == 0 || match d[q - 1]? with | some y => decide (ordA y x < 0) | none => false)
def allS (d:List GAtom):List GAtom → Nat → Bool
  | [],_ => true
  | x :: xs,i => stepB d i x && allS d xs (i + 1)
def datB (d:List GAtom):Bool:=allS d d 0 && decide ((d.length:Int) ≤ 8)
theorem p_step (d:List GAtom) (i:Nat) (x:GAtom) (hi:i < d.length) (hl:d.length ≤ maxLen) (A:GAtom → Option Bool) (hA:∀ a,A a = some (atomB a)) (O:GAtom → GAtom → Option Int) (hO:∀ a b,O a b = some (ordA a b)) :
    ((A x).bind fun r_110 =>
    if (!r_110) then
    some true
    else
    (idx d 0).bind fun x_113 =>
    if (x.Kind != x_113.Kind) then
    some true
    else
    if (decide ((i:Int) > 0)) then
    (idx d (w64 ((i:Int) - 1))).bind fun x_117 =>
    (O x_117 x).bind fun r_119 =>
    some (decide (r_119 ≥ 0))
    else
    some false:Option Bool) = some (!stepB d i x):=by
  simp only [maxLen] at hl
  obtain ⟨h,hh⟩:∃ h,d[0]? = some h:=⟨d[0],List.getElem?_eq_getElem (by omega)⟩
  have e0:idx d 0 = some h:=by rw [show (0:Int) = ((0:Nat):Int) from rfl,idx_nat,hh]
  rw [hA,Option.bind_some,e0]
  unfold stepB
  rw [hh]
  by_cases ha:atomB x = true
  · by_cases hk:x.Kind = h.Kind
    · by_cases h0:i = 0
      · subst h0; simp [ha,hk]
      · obtain ⟨y,hy⟩:∃ y,d[i - 1]? = some y:=⟨d[i - 1],List.getElem?_eq_getElem (by omega)⟩
        have e1:w64 ((i:Int) - 1) = ((i - 1:Nat):Int):=by rw [w64_id (by omega)]; omega
        rw [e1,idx_nat,hy]
        have hp:0 < i:=by omega
        simp [ha,hk,h0,hO,hp]
        by_cases hc:ordA y x < 0
        · have:¬ 0 ≤ ordA y x:=by omega
          simp [hc,this,h0]
        · have:0 ≤ ordA y x:=by omega
          simp [hc,this,h0]
    · simp [ha,hk]
  · simp only [Bool.not_eq_true] at ha
    simp [ha]
theorem p_DatumOK_L1 (d:List GAtom) (hl:d.length ≤ maxLen):∀ (xs:List GAtom) (i:Nat),d.drop i = xs → impl_DatumOK_L1 d xs i = some (if allS d xs i = true then .go () else .ret false)
  | [],i,h => by rw [impl_DatumOK_L1]; simp [allS]
  | x :: xs,i,h => by
    rw [impl_DatumOK_L1,p_step d i x (drop_lt h) hl impl_AtomOK p_AtomOK impl_compareAtoms p_compareAtoms,Option.bind_some,p_DatumOK_L1 d hl xs (i + 1) (drop_next h)]
    cases hs:stepB d i x <;> simp [allS,hs]
theorem p_DatumOK (d:List GAtom) (hl:d.length ≤ maxLen):impl_DatumOK d = some (datB d):=by
  unfold impl_DatumOK datB
  rw [p_DatumOK_L1 d hl d 0 (by simp)]
  cases allS d d 0 <;> simp
theorem p_sAtomOK (a:GAtom):spec_AtomOK a = some (atomB a):=by
  unfold spec_AtomOK atomB
  simp only [p_in,p_text,Option.bind_some]
  by_cases h1:a.Kind = 1
  · simp only [h1]
    by_cases c:(-1000000000 ≤ a.N ∧ a.N ≤ 1000000000) <;> by_cases d:a.T = [] <;> simp [c,d]
  by_cases h2:a.Kind = 2
  · simp only [h2]
    by_cases c:a.N = 0 <;> simp [c]
  by_cases h3:a.Kind = 3
  · simp only [h3]
    by_cases c:(0 ≤ a.N ∧ a.N ≤ 1) <;> by_cases d:a.T = [] <;> simp [c,d]
  by_cases h4:a.Kind = 4
  · simp only [h4]
    by_cases c:(1 ≤ a.N ∧ a.N ≤ 1000000) <;> by_cases d:a.T = [] <;> simp [c,d]
  · simp [h1,h2,h3,h4]
theorem p_sDatumOK_L1 (d:List GAtom) (hl:d.length ≤ maxLen):∀ (xs:List GAtom) (i:Nat),d.drop i = xs → spec_DatumOK_L1 d xs i = some (if allS d xs i = true then .go () else .ret false)
  | [],i,h => by rw [spec_DatumOK_L1]; simp [allS]
  | x :: xs,i,h => by
    rw [spec_DatumOK_L1,p_step d i x (drop_lt h) hl spec_AtomOK p_sAtomOK spec_l03Order p_Order,Option.bind_some,p_sDatumOK_L1 d hl xs (i + 1) (drop_next h)]
    cases hs:stepB d i x <;> simp [allS,hs]
theorem p_sDatumOK (d:List GAtom):spec_DatumOK d = some (datB d):=by
  unfold spec_DatumOK datB
  by_cases h:(d.length:Int) > 4096
  · rw [if_pos (by simpa using h)]
    have:¬ (d.length:Int) ≤ 8:=by omega
    simp [this]
  · rw [if_neg (by simpa using h),p_sDatumOK_L1 d (by simp only [maxLen]; omega) d 0 (by simp)]
    cases allS d d 0 <;> simp
def isLet (c:Int):Bool:=(decide (97 ≤ c) && decide (c ≤ 122)) || (decide (65 ≤ c) && decide (c ≤ 90)) || c == 95
def isDig (c:Int):Bool:=decide (48 ≤ c) && decide (c ≤ 57)
theorem p_l00Letter (c:Int):spec_l00Letter c = some (isLet c):=by
  unfold spec_l00Letter isLet
  by_cases h1:97 ≤ c <;> by_cases h2:c ≤ 122 <;> by_cases h3:65 ≤ c <;> by_cases h4:c ≤ 90 <;> by_cases h5:c = 95 <;> simp [h1,h2,h3,h4,h5]
theorem p_l00Digit (c:Int):spec_l00Digit c = some (isDig c):=by
  unfold spec_l00Digit isDig
  by_cases h1:48 ≤ c <;> simp [h1]
theorem p_isDigit (c:Int):impl_isDigit c = some (isDig c):=by
  unfold impl_isDigit isDig
  by_cases h1:48 ≤ c <;> simp [h1]
def isWordC (b:UInt8):Bool:=isLet b.toNat || isDig b.toNat
def nameOK (t:Str):Bool:=decide (1 ≤ t.length) && decide (t.length ≤ 40) && isLet (t.headD 0).toNat && (t.drop 1).all isWordC
theorem p_l00Word_L1:∀ (t:Str),spec_l00Word_L1 t = some (if t.all isWordC then .go () else .ret false)
  | [] => by rw [spec_l00Word_L1]; rfl
  | c :: t => by
    rw [spec_l00Word_L1,p_l00Letter,Option.bind_some,p_l00Digit,p_l00Word_L1 t]
    cases h1:isLet (c.toNat:Int) <;> cases h2:isDig (c.toNat:Int) <;> simp [isWordC,h1,h2]
theorem p_l00Word (t:Str):spec_l00Word t = some (nameOK t):=by
  unfold spec_l00Word nameOK
  cases t with
  | nil => rfl
  | cons c t =>
    have e:idx (c :: t) 0 = some c:=rfl
    rw [e,Option.bind_some,p_l00Letter,Option.bind_some,p_l00Word_L1]
    have e1:decide (((c :: t).length:Int) < 1) = false:=decide_eq_false (by simp only [List.length_cons]; omega)
    have e2:decide (1 ≤ (c :: t).length) = true:=decide_eq_true (by simp only [List.length_cons]; omega)
    rw [e1,e2]
    by_cases h:(c :: t).length ≤ 40
    · have e3:decide (((c :: t).length:Int) > 40) = false:=decide_eq_false (by omega)
      have e4:decide ((c :: t).length ≤ 40) = true:=decide_eq_true h
      rw [e3,e4]
      cases h1:isLet (c.toNat:Int) <;> cases h3:t.all isWordC <;> simp [h1,h3]
    · have e3:decide (((c :: t).length:Int) > 40) = true:=decide_eq_true (by omega)
      have e4:decide ((c :: t).length ≤ 40) = false:=decide_eq_false h
      rw [e3,e4]
      simp
theorem p_specNameOK (t:Str):spec_NameOK t = some (nameOK t):=by
  unfold spec_NameOK
  rw [p_l00Word]; rfl
def nameC (p:UInt8 × Nat):Bool:=isLet p.1.toNat || (p.2 != 0 && isDig p.1.toNat)
theorem p_NameOK_L1:∀ (t:Str) (i:Nat),impl_NameOK_L1 t i = some (if (t.zipIdx i).all nameC then .go () else .ret false)
  | [],i => by rw [impl_NameOK_L1]; rfl
  | c :: t,i => by
    have e0:((i:Int) == 0) = (i == 0):=by cases i <;> simp; omega
    rw [impl_NameOK_L1,p_NameOK_L1 t (i + 1),List.zipIdx_cons,List.all_cons,p_isDigit,e0]
    unfold nameC isLet
    generalize (List.zipIdx t (i + 1)).all _ = A
    generalize isDig (c.toNat:Int) = D
    generalize (c.toNat:Int) = n
    by_cases h1:97 ≤ n <;> by_cases h2:n ≤ 122 <;> by_cases h3:65 ≤ n <;> by_cases h4:n ≤ 90 <;> by_cases h5:n = 95 <;> cases D <;> by_cases h0:i = 0 <;> simp [h1,h2,h3,h4,h5,h0]
theorem p_NameOK (t:Str):impl_NameOK t = some (nameOK t):=by
  unfold impl_NameOK nameOK
  rw [p_NameOK_L1,Option.bind_some]
  have hz:∀ (r:Str) (k:Nat),(r.zipIdx (k + 1)).all nameC = r.all isWordC:=by
    intro r
    induction r with
    | nil => intro k; rfl
    | cons c r ih => intro k; simp only [List.zipIdx_cons,List.all_cons,ih (k + 1)]; rfl
  cases t with
  | nil => simp [p_within]
  | cons c t =>
    rw [List.zipIdx_cons,List.all_cons,hz t 0]
    have hl:decide (1 ≤ (c :: t).length) = true:=decide_eq_true (by simp)
    have e:nameC (c,0) = isLet (c.toNat:Int):=by simp [nameC]
    rw [e,hl,p_within,Bool.decide_and]
    have e2:decide ((1:Int) ≤ ((c :: t).length:Int)) = true:=decide_eq_true (by simp only [List.length_cons]; omega)
    have e3:decide (((c :: t).length:Int) ≤ 40) = decide ((c :: t).length ≤ 40):=by rw [decide_eq_decide]; omega
    rw [e2,e3]
    show _ = some ((true && _ && isLet (c.toNat:Int)) && t.all isWordC)
    cases isLet (c.toNat:Int) <;> cases t.all isWordC <;> simp
theorem any_notB {α:Type} (p:α → Bool):∀ l:List α,(l.any fun x => !p x) = !l.all p
  | [] => rfl
  | x :: l => by simp only [List.any_cons,List.all_cons,any_notB p l,Bool.not_and]
def smallC (r:GRow):Prop:=∀ d ∈ r.Cells,d.length ≤ maxLen
theorem beqD {α:Type} [BEq α] [LawfulBEq α] [DecidableEq α] (a b:α):(a == b) = decide (a = b):=by by_cases h:a = b <;> simp [h]
def allI {α:Type} (f:Nat → α → Bool):List α → Nat → Bool
  | [],_ => true
  | x :: xs,i => f i x && allI f xs (i + 1)
theorem allI_iff {α:Type} (f:Nat → α → Bool):∀ (xs:List α) (i:Nat),allI f xs i = true ↔ ∀ q x,xs[q]? = some x → f (i + q) x = true
  | [],i => by simp [allI]
  | x :: xs,i => by
    simp only [allI,Bool.and_eq_true,allI_iff f xs (i + 1)]
    constructor
    · rintro ⟨h1,h2⟩ q y hq
      cases q with
      | zero => simp at hq; subst hq; simpa using h1
      | succ q => have:=h2 q y (by simpa using hq); rw [show i + (q + 1) = i + 1 + q from by omega]; exact this
    · intro h
      refine ⟨by simpa using h 0 x (by simp),fun q y hq => ?_⟩
      have:=h (q + 1) y (by simpa using hq)
      rw [show i + 1 + q = i + (q + 1) from by omega]; exact this
theorem allI_and {α:Type} (f:Nat → α → Bool) (g:α → Bool):∀ (xs:List α) (i:Nat),allI (fun i x => f i x && g x) xs i = (allI f xs i && xs.all g)
  | [],i => rfl
  | x :: xs,i => by
    simp only [allI,List.all_cons,allI_and f g xs (i + 1)]
    cases f i x <;> cases g x <;> simp
theorem allI_mem {α:Type} {f:Nat → α → Bool} {xs:List α} {i:Nat} (h:allI f xs i = true) {x:α} (hx:x ∈ xs):∃ q,f q x = true:=by
  obtain ⟨q,hq⟩:=List.mem_iff_getElem?.1 hx
  exact ⟨_,(allI_iff f xs i).1 h q x hq⟩
def atI (o:Option Nat):Int:=match o with | some k => (k:Int) | none => -1
theorem atI_neg {o:Option Nat}:decide (atI o < 0) = o.isNone:=by
  cases o with
  | none => rfl
  | some k => exact decide_eq_false (show ¬ ((k:Nat):Int) < 0 by omega)
def colK (t:GTable) (name:Str):Option Nat:=t.Columns.findIdx? (fun c => c.Name == name)
def tabK (s:GSchema) (name:Str):Option Nat:=s.Tables.findIdx? (fun c => c.Name == name)
theorem p_l04Find_L1 (name:Str):∀ (xs:List GTable) (i:Nat),spec_l04Find_L1 name xs i = some (match xs.findIdx? (fun c => c.Name == name) with | some k => .ret ((i + k:Nat):Int) | none => .go ())
  | [],i => by rw [spec_l04Find_L1]; rfl
  | x :: xs,i => by
    rw [spec_l04Find_L1,p_l04Find_L1 name xs (i + 1),List.findIdx?_cons]
    cases hp:(x.Name == name) with
    | true => simp
    | false =>
      cases hq:xs.findIdx? (fun c => c.Name == name) with
      | none => simp
      | some k => simp; omega
theorem p_l04Find (s:GSchema) (name:Str):spec_l04Find s name = some (atI (tabK s name)):=by
  unfold spec_l04Find tabK atI
  rw [p_l04Find_L1]
  cases hq:s.Tables.findIdx? (fun c => c.Name == name) <;> simp
theorem p_columnAt (t:GTable) (name:Str):impl_Table_columnAt t name = some (atI (colK t name)):=by
  unfold impl_Table_columnAt
  rw [p_slices_IndexFunc_impl_Column_impl_Column _ (fun c => c.Name == name) t.Columns (fun x _ => by unfold impl_Table_columnAt_1; rfl)]
  rfl
theorem p_tableAt (s:GSchema) (name:Str):impl_Schema_tableAt s name = some (atI (tabK s name)):=by
  unfold impl_Schema_tableAt
  rw [p_slices_IndexFunc_impl_Table_impl_Table _ (fun c => c.Name == name) s.Tables (fun x _ => by unfold impl_Schema_tableAt_1; rfl)]
  rfl
def colB (c:GColumn):Bool :=
  nameOK c.Name && decide (0 ≤ c.Min ∧ c.Min ≤ 1) && decide (1 ≤ c.Max ∧ c.Max ≤ 8) &&
  ((decide (c.Kind = 1) && decide (-1000000000 ≤ c.Low ∧ c.Low ≤ c.High ∧ c.High ≤ 1000000000) && decide (c.Ref = []) && !c.Strong) ||
   ((decide (c.Kind = 2) || decide (c.Kind = 3)) && decide (c.Low = 0) && decide (c.High = 0) && decide (c.Ref = []) && !c.Strong) ||
   (decide (c.Kind = 4) && decide (c.Low = 0) && decide (c.High = 0) && nameOK c.Ref && decide (c.Min = 0)))
theorem p_ColumnOK (c:GColumn):impl_ColumnOK c = some (colB c):=by
  unfold impl_ColumnOK impl_isNumber colB
  simp only [p_NameOK,p_within,Option.bind_some,beqD]
  by_cases h1:0 ≤ c.Min ∧ c.Min ≤ 1
  · by_cases h2:1 ≤ c.Max ∧ c.Max ≤ 8
    · cases hn:nameOK c.Name with
      | false => simp
      | true =>
        simp only [h1,h2,and_self,decide_true,Bool.not_true,Bool.false_eq_true,if_false,Option.bind_some,Bool.true_and]
        by_cases k1:c.Kind = 1
        · simp only [k1]
          by_cases a1:-1000000000 ≤ c.Low ∧ c.Low ≤ c.High ∧ c.High ≤ 1000000000
          · have e1:-1000000000 ≤ c.Low ∧ c.Low ≤ 1000000000:=by omega
            have e2:-1000000000 ≤ c.High ∧ c.High ≤ 1000000000:=by omega
            simp [a1,e1,e2]
          · by_cases e1:-1000000000 ≤ c.Low ∧ c.Low ≤ 1000000000
            · by_cases e2:-1000000000 ≤ c.High ∧ c.High ≤ 1000000000
              · have e3:¬ c.Low ≤ c.High:=by omega
                simp [a1,e1,e2,e3]
              · have a1':¬ (c.Low ≤ c.High ∧ c.High ≤ 1000000000):=by omega
                simp [e1,e2]
                intro p q; exact absurd ⟨p,q⟩ a1'
            · have a2:(-1000000000 ≤ c.Low ∧ c.Low ≤ c.High ∧ c.High ≤ 1000000000) = False:=eq_false a1
              simp only [e1,a2]; simp
        · by_cases k2:c.Kind = 2
          · simp [k2]
          · by_cases k3:c.Kind = 3
            · simp [k3]
            · by_cases k4:c.Kind = 4
              · simp only [k4]
                by_cases a1:c.Low = 0 <;> by_cases a2:c.High = 0 <;> cases a3:nameOK c.Ref <;> simp [a1,a2]
              · simp [k1,k2,k3,k4]
    · cases hn:nameOK c.Name <;> simp [h1,h2]
  · cases hn:nameOK c.Name <;> simp [h1]
theorem p_sColumnOK (c:GColumn):spec_ColumnOK c = some (colB c):=by
  unfold spec_ColumnOK colB
  simp only [p_specNameOK,p_in,Option.bind_some,beqD,bne]
  by_cases h1:0 ≤ c.Min ∧ c.Min ≤ 1
  · by_cases h2:1 ≤ c.Max ∧ c.Max ≤ 8
    · cases hn:nameOK c.Name with
      | false => simp
      | true =>
        by_cases hk:1 ≤ c.Kind ∧ c.Kind ≤ 4
        · simp only [h1,h2,hk,and_self,decide_true,Bool.not_true,Bool.false_eq_true,if_false,Option.bind_some,Bool.true_and]
          by_cases k1:c.Kind = 1
          · simp only [k1]
            by_cases a1:-1000000000 ≤ c.Low ∧ c.Low ≤ c.High ∧ c.High ≤ 1000000000
            · have e1:-1000000000 ≤ c.Low ∧ c.Low ≤ c.High:=by omega
              have e2:c.Low ≤ c.High ∧ c.High ≤ 1000000000:=by omega
              simp [a1,e1,e2]
            · by_cases e1:-1000000000 ≤ c.Low ∧ c.Low ≤ c.High
              · have e2:¬ (c.Low ≤ c.High ∧ c.High ≤ 1000000000):=by omega
                simp [a1,e1,e2]
              · simp [a1,e1]
          · by_cases a1:c.Low = 0
            · by_cases a2:c.High = 0
              · by_cases k4:c.Kind = 4
                · cases a3:nameOK c.Ref <;> simp [k4,a1,a2]
                · have:c.Kind = 2 ∨ c.Kind = 3:=by omega
                  by_cases a4:c.Ref = [] <;> rcases this with k | k <;> simp [k,a1,a2,a4]
              · simp [k1,a1,a2]
            · simp [k1,a1]
        · have k1:¬ c.Kind = 1:=by omega
          have k2:¬ c.Kind = 2:=by omega
          have k3:¬ c.Kind = 3:=by omega
          have k4:¬ c.Kind = 4:=by omega
          simp [hk,k1,k2,k3,k4]
    · cases hn:nameOK c.Name <;> by_cases hk:1 ≤ c.Kind ∧ c.Kind ≤ 4 <;> simp [h1,h2,hk]
  · cases hn:nameOK c.Name <;> by_cases hk:1 ≤ c.Kind ∧ c.Kind ≤ 4 <;> simp [h1,hk]
theorem colB_ref {c:GColumn} (h:colB c = true):(c.Kind = 4 ↔ c.Ref ≠ []):=by
  unfold colB at h
  simp only [Bool.and_eq_true,Bool.or_eq_true,decide_eq_true_eq] at h
  rcases h.2 with (⟨⟨⟨h1,_⟩,h2⟩,_⟩ | ⟨⟨⟨⟨h1,_⟩,_⟩,h2⟩,_⟩) | ⟨⟨⟨⟨h1,_⟩,_⟩,h2⟩,_⟩
  · simp [h1,h2]
  · have:c.Kind ≠ 4:=by omega
    simp [this,h2]
  · refine ⟨fun _ he => ?_,fun _ => h1⟩
    rw [he] at h2
    cases h2
def colStep (t:GTable) (i:Nat) (x:GColumn):Bool:=colB x && !(t.Columns.take i).any (fun c => c.Name == x.Name)
theorem colK_here {t:GTable} {i:Nat} {x:GColumn} (hx:t.Columns[i]? = some x):(atI (colK t x.Name) != (i:Int)) = (t.Columns.take i).any (fun c => c.Name == x.Name):=by
  have hi:=(List.getElem?_eq_some_iff.1 hx).1
  have hxe:=(List.getElem?_eq_some_iff.1 hx).2
  by_cases ha:(t.Columns.take i).any (fun c => c.Name == x.Name) = true
  · rw [ha]
    obtain ⟨c,hc,hn⟩:=List.any_eq_true.1 ha
    obtain ⟨j,hj⟩:=List.mem_iff_getElem?.1 hc
    have hji:j < i:=by have:=(List.getElem?_eq_some_iff.1 hj).1; simp at this; omega
    rw [List.getElem?_take_of_lt hji] at hj
    have hne:colK t x.Name ≠ some i:=by
      intro he
      obtain ⟨_,_,h3⟩:=List.findIdx?_eq_some_iff_getElem.1 he
      have:=h3 j hji
      rw [(List.getElem?_eq_some_iff.1 hj).2] at this
      exact this hn
    cases hk:colK t x.Name with
    | none => simp [atI]
    | some k =>
      have:k ≠ i:=fun h => hne (by rw [hk,h])
      simp [atI]; omega
  · simp only [Bool.not_eq_true] at ha
    rw [ha]
    have:colK t x.Name = some i:=by
      refine List.findIdx?_eq_some_iff_getElem.2 ⟨hi,by simp [hxe],fun j hj => ?_⟩
      have hm:t.Columns[j]'(by omega) ∈ t.Columns.take i:=by
        rw [List.mem_iff_getElem?]
        exact ⟨j,by rw [List.getElem?_take_of_lt hj]; simp⟩
      have:=List.any_eq_false.1 ha _ hm
      simpa using this
    rw [this]
    simp [atI]
theorem p_isTable_L1 (t:GTable):∀ (xs:List GColumn) (i:Nat),t.Columns.drop i = xs → impl_isTable_L1 t xs i = some (if allI (colStep t) xs i = true then .go () else .ret false)
  | [],i,_ => by rw [impl_isTable_L1]; simp [allI]
  | x :: xs,i,h => by
    have hx:t.Columns[i]? = some x:=by rw [← idx_nat]; exact idx_drop h
    rw [impl_isTable_L1,p_ColumnOK,Option.bind_some,p_columnAt,Option.bind_some,colK_here hx,p_isTable_L1 t xs (i + 1) (drop_next h)]
    cases h1:colB x <;> cases h2:(t.Columns.take i).any (fun c => c.Name == x.Name) <;> simp [allI,colStep,h1,h2]
theorem p_l04Table_L2 (t:GTable) (x:GColumn) (i:Nat) (hi:i ≤ t.Columns.length) (hl:t.Columns.length ≤ 6):∀ (n k fuel:Nat),n + k = i → n < fuel → spec_l04Table_L2 i t x fuel k = some (if ((t.Columns.take i).drop k).any (fun c => c.Name == x.Name) = true then .ret false else .go ())
  | _,_,0,_,h => by omega
  | 0,k,fuel + 1,hk,_ => by
    rw [spec_l04Table_L2,if_neg (by simp; omega),List.drop_of_length_le (by simp; omega)]; simp
  | n + 1,k,fuel + 1,hk,hf => by
    obtain ⟨y,hy⟩:∃ y,t.Columns[k]? = some y:=⟨t.Columns[k]'(by omega),List.getElem?_eq_getElem (by omega)⟩
    have hd:(t.Columns.take i).drop k = y :: (t.Columns.take i).drop (k + 1):=by
      have hk2:k < (t.Columns.take i).length:=by simp; omega
      rw [List.drop_eq_getElem_cons hk2]
      congr 1
      rw [List.getElem_take]
      exact (List.getElem?_eq_some_iff.1 hy).2
    have ew:w64 ((k:Int) + 1) = ((k + 1:Nat):Int):=by rw [w64_id (by omega)]; omega
    rw [spec_l04Table_L2,if_pos (by simp; omega),idx_nat,hy,Option.bind_some,ew,p_l04Table_L2 t x i hi hl n (k + 1) fuel (by omega) (by omega),hd]
    cases hn:(y.Name == x.Name) <;> simp [hn]
theorem p_l04Table_L1 (t:GTable) (hl:t.Columns.length ≤ 6):∀ (xs:List GColumn) (i:Nat),t.Columns.drop i = xs → spec_l04Table_L1 t xs i = some (if allI (colStep t) xs i = true then .go () else .ret false)
  | [],i,_ => by rw [spec_l04Table_L1]; simp [allI]
  | x :: xs,i,h => by
    have hi:=drop_lt h
    have hf:2 ^ 40 < FUEL:=by unfold FUEL; decide
    have e:=p_l04Table_L2 t x i (by omega) hl i 0 FUEL (by omega) (by omega)
    rw [List.drop_zero] at e
    have e':spec_l04Table_L2 i t x FUEL 0 = _:=e
    rw [spec_l04Table_L1,p_sColumnOK,Option.bind_some,e',p_l04Table_L1 t hl xs (i + 1) (drop_next h)]
    cases h1:colB x <;> cases h2:(t.Columns.take i).any (fun c => c.Name == x.Name) <;> simp [allI,colStep,h1,h2]
def uniStep (t:GTable) (i:Nat) (x:Int):Bool:=decide (0 ≤ x ∧ x ≤ (t.Columns.length:Int) - 1) && (i == 0 || match t.Unique[i - 1]? with | some y => decide (y < x) | none => false)
theorem p_uni (t:GTable) (i:Nat) (x:Int) (hi:i < t.Unique.length) (hl:t.Unique.length ≤ 6) (hc:t.Columns.length ≤ 6) (W:Int → Int → Int → Option Bool) (hW:∀ n a b,W n a b = some (decide (a ≤ n ∧ n ≤ b))) :
    ((W x 0 (w64 ((t.Columns.length:Int) - 1))).bind fun r_176 =>
    if (!r_176) then
    some true
    else
    if (decide ((i:Int) > 0)) then
    (idx t.Unique (w64 ((i:Int) - 1))).bind fun x_180 =>
    some (decide (x_180 ≥ x))
    else
    some false:Option Bool) = some (!uniStep t i x):=by
  rw [hW,Option.bind_some,w64_id (n:=(t.Columns.length:Int) - 1) (by omega)]
  unfold uniStep
  by_cases h:0 ≤ x ∧ x ≤ (t.Columns.length:Int) - 1
  · by_cases h0:i = 0
    · subst h0; simp [h]
    · obtain ⟨y,hy⟩:∃ y,t.Unique[i - 1]? = some y:=⟨t.Unique[i - 1],List.getElem?_eq_getElem (by omega)⟩
      have e1:w64 ((i:Int) - 1) = ((i - 1:Nat):Int):=by rw [w64_id (by omega)]; omega
      rw [e1,idx_nat,hy]
      have hp:0 < i:=by omega
      by_cases hc:y < x
      · have:¬ x ≤ y:=by omega
        simp [h,h0,hp,hc,this]
      · have:x ≤ y:=by omega
        simp [h,h0,hp,hc,this]
  · simp [h]
theorem p_isTable_L2 (t:GTable) (hl:t.Unique.length ≤ 6) (hc:t.Columns.length ≤ 6):∀ (xs:List Int) (i:Nat),t.Unique.drop i = xs → impl_isTable_L2 t xs i = some (if allI (uniStep t) xs i = true then .go () else .ret false)
  | [],i,_ => by rw [impl_isTable_L2]; simp [allI]
  | x :: xs,i,h => by
    rw [impl_isTable_L2,p_uni t i x (drop_lt h) hl hc impl_within p_within,Option.bind_some,p_isTable_L2 t hl hc xs (i + 1) (drop_next h)]
    cases h1:uniStep t i x <;> simp [allI,h1]
theorem p_l04Table_L3 (t:GTable) (hl:t.Unique.length ≤ 6) (hc:t.Columns.length ≤ 6):∀ (xs:List Int) (i:Nat),t.Unique.drop i = xs → spec_l04Table_L3 t xs i = some (if allI (uniStep t) xs i = true then .go () else .ret false)
  | [],i,_ => by rw [spec_l04Table_L3]; simp [allI]
  | x :: xs,i,h => by
    rw [spec_l04Table_L3,p_uni t i x (drop_lt h) hl hc spec_l01In p_in,Option.bind_some,p_l04Table_L3 t hl hc xs (i + 1) (drop_next h)]
    cases h1:uniStep t i x <;> simp [allI,h1]
theorem uni_ge (t:GTable) (h:allI (uniStep t) t.Unique 0 = true):∀ (i:Nat) x,t.Unique[i]? = some x → (i:Int) ≤ x
  | 0,x,hx => by
    have:=(allI_iff _ _ _).1 h 0 x hx
    simp only [uniStep,Bool.and_eq_true,decide_eq_true_eq] at this
    exact this.1.1
  | i + 1,x,hx => by
    have hl:=(List.getElem?_eq_some_iff.1 hx).1
    obtain ⟨y,hy⟩:∃ y,t.Unique[i]? = some y:=⟨t.Unique[i],List.getElem?_eq_getElem (by omega)⟩
    have h1:=uni_ge t h i y hy
    have:=(allI_iff _ _ _).1 h (i + 1) x hx
    simp only [uniStep,Bool.and_eq_true,decide_eq_true_eq,Bool.or_eq_true,Nat.zero_add,Nat.add_sub_cancel,hy] at this
    rcases this.2 with h2 | h2
    · simp at h2
    · omega
theorem uni_len (t:GTable) (h:allI (uniStep t) t.Unique 0 = true):t.Unique.length ≤ t.Columns.length:=by
  rcases Nat.eq_zero_or_pos t.Unique.length with h0 | h0
  · omega
  · obtain ⟨x,hx⟩:∃ x,t.Unique[t.Unique.length - 1]? = some x:=⟨t.Unique[t.Unique.length - 1],List.getElem?_eq_getElem (by omega)⟩
    have h1:=uni_ge t h _ x hx
    have:=(allI_iff _ _ _).1 h _ x hx
    simp only [uniStep,Bool.and_eq_true,decide_eq_true_eq] at this
    have:=this.1.2
    omega
def tabB (t:GTable):Bool:=nameOK t.Name && decide (1 ≤ (t.Columns.length:Int) ∧ (t.Columns.length:Int) ≤ 6) && allI (colStep t) t.Columns 0 && allI (uniStep t) t.Unique 0
theorem p_isTable (t:GTable):impl_isTable t = some (tabB t):=by
  unfold impl_isTable tabB
  rw [p_NameOK,Option.bind_some,p_within,Option.bind_some]
  cases hn:nameOK t.Name with
  | false => simp
  | true =>
    by_cases hc:1 ≤ (t.Columns.length:Int) ∧ (t.Columns.length:Int) ≤ 6
    · by_cases hu:(t.Unique.length:Int) > (t.Columns.length:Int)
      · have:allI (uniStep t) t.Unique 0 = false:=by
          cases hh:allI (uniStep t) t.Unique 0 with
          | false => rfl
          | true => have:=uni_len t hh; omega
        simp [hc,hu,this]
      · rw [p_isTable_L1 t t.Columns 0 (by simp),p_isTable_L2 t (by omega) (by omega) t.Unique 0 (by simp)]
        cases h1:allI (colStep t) t.Columns 0 <;> cases h2:allI (uniStep t) t.Unique 0 <;> simp [hc,hu]
    · simp [hc]
theorem p_l04Table (t:GTable):spec_l04Table t = some (tabB t):=by
  unfold spec_l04Table tabB
  rw [p_specNameOK,Option.bind_some,p_in,Option.bind_some]
  cases hn:nameOK t.Name with
  | false => simp
  | true =>
    by_cases hc:1 ≤ (t.Columns.length:Int) ∧ (t.Columns.length:Int) ≤ 6
    · by_cases hu:(t.Unique.length:Int) > 6
      · have:allI (uniStep t) t.Unique 0 = false:=by
          cases hh:allI (uniStep t) t.Unique 0 with
          | false => rfl
          | true => have:=uni_len t hh; omega
        simp [hc,hu,this]
      · rw [p_l04Table_L1 t (by omega) t.Columns 0 (by simp),p_l04Table_L3 t (by omega) (by omega) t.Unique 0 (by simp)]
        cases h1:allI (colStep t) t.Columns 0 <;> cases h2:allI (uniStep t) t.Unique 0 <;> simp [hc,hu]
    · simp [hc]
def refOK (s:GSchema) (c:GColumn):Bool:=!(decide (c.Kind = 4) && (tabK s c.Ref).isNone)
def tabStep (s:GSchema) (i:Nat) (x:GTable):Bool:=tabB x && (i == 0 || match s.Tables[i - 1]? with | some y => Op.bytesLess y.Name x.Name | none => false)
def schB (s:GSchema):Bool:=decide (1 ≤ (s.Tables.length:Int) ∧ (s.Tables.length:Int) ≤ 4) && allI (tabStep s) s.Tables 0 && s.Tables.all (fun t => t.Columns.all (refOK s))
theorem p_tstep (s:GSchema) (i:Nat) (x:GTable) (hi:i < s.Tables.length) (hl:s.Tables.length ≤ 4) (T:GTable → Option Bool) (hT:∀ t,T t = some (tabB t)) :
    ((T x).bind fun r_79 =>
    if (!r_79) then
    some true
    else
    if (decide ((i:Int) > 0)) then
    (idx s.Tables (w64 ((i:Int) - 1))).bind fun x_83 =>
    some (!Op.bytesLess x_83.Name x.Name)
    else
    some false:Option Bool) = some (!tabStep s i x):=by
  rw [hT,Option.bind_some]
  unfold tabStep
  cases tabB x with
  | false => simp
  | true =>
    by_cases h0:i = 0
    · subst h0; simp
    · obtain ⟨y,hy⟩:∃ y,s.Tables[i - 1]? = some y:=⟨s.Tables[i - 1],List.getElem?_eq_getElem (by omega)⟩
      have e1:w64 ((i:Int) - 1) = ((i - 1:Nat):Int):=by rw [w64_id (by omega)]; omega
      rw [e1,idx_nat,hy]
      have hp:0 < i:=by omega
      simp [h0,hp]
theorem p_SchemaOK_L1 (s:GSchema) (hl:s.Tables.length ≤ 4):∀ (xs:List GTable) (i:Nat),s.Tables.drop i = xs → impl_SchemaOK_L1 s xs i = some (if allI (tabStep s) xs i = true then .go () else .ret false)
  | [],i,_ => by rw [impl_SchemaOK_L1]; simp [allI]
  | x :: xs,i,h => by
    rw [impl_SchemaOK_L1,p_tstep s i x (drop_lt h) hl impl_isTable p_isTable,Option.bind_some,p_SchemaOK_L1 s hl xs (i + 1) (drop_next h)]
    cases h1:tabStep s i x <;> simp [allI,h1]
theorem p_SchemaOK (s:GSchema):impl_SchemaOK s = some (schB s):=by
  unfold impl_SchemaOK schB
  rw [p_within,Option.bind_some]
  by_cases hc:1 ≤ (s.Tables.length:Int) ∧ (s.Tables.length:Int) ≤ 4
  · have e1:∀ c:GColumn,impl_SchemaOK_1_1 c s = some (!refOK s c):=by
      intro c
      unfold impl_SchemaOK_1_1 refOK
      by_cases k:c.Kind = 4
      · rw [if_pos (by simpa using k),p_tableAt,Option.bind_some,atI_neg]; simp [k]
      · rw [if_neg (by simpa using k)]; simp [k]
    have e2:∀ t:GTable,impl_SchemaOK_1 t s = some (!t.Columns.all (refOK s)):=by
      intro t
      unfold impl_SchemaOK_1
      rw [p_slices_ContainsFunc_impl_Column_impl_Column _ (fun c => !refOK s c) t.Columns (fun x _ => e1 x),Option.bind_some,List.not_all_eq_any_not]
    rw [p_SchemaOK_L1 s (by omega) s.Tables 0 (by simp),p_slices_ContainsFunc_impl_Table_impl_Table _ (fun t => !t.Columns.all (refOK s)) s.Tables (fun x _ => e2 x)]
    have e3:(s.Tables.any fun t => !t.Columns.all (refOK s)) = !s.Tables.all (fun t => t.Columns.all (refOK s)):=by rw [List.not_all_eq_any_not]
    rw [e3]
    cases allI (tabStep s) s.Tables 0 <;> cases s.Tables.all (fun t => t.Columns.all (refOK s)) <;> simp [hc]
  · simp [hc]
theorem p_sSchemaOK_L2 (s:GSchema):∀ (xs:List GColumn),(∀ c ∈ xs,colB c = true) → spec_SchemaOK_L2 s xs = some (if xs.all (refOK s) = true then .go () else .ret false)
  | [],_ => by rw [spec_SchemaOK_L2]; simp
  | x :: xs,h => by
    have hr:=colB_ref (h x (by simp))
    rw [spec_SchemaOK_L2,p_l04Find,Option.bind_some,atI_neg,p_sSchemaOK_L2 s xs (fun c hc => h c (by simp [hc]))]
    by_cases k:x.Ref = []
    · have k4:¬ x.Kind = 4:=fun hh => hr.1 hh k
      simp [k,refOK,k4]
    · have k4:x.Kind = 4:=hr.2 k
      cases hn:(tabK s x.Ref).isNone <;> simp [k,refOK,k4,hn]
theorem tabB_cols {t:GTable} (h:tabB t = true):∀ c ∈ t.Columns,colB c = true:=by
  intro c hc
  simp only [tabB,Bool.and_eq_true] at h
  obtain ⟨q,hq⟩:=allI_mem h.1.2 hc
  simp only [colStep,Bool.and_eq_true] at hq
  exact hq.1
theorem p_sSchemaOK_L1 (s:GSchema) (hl:s.Tables.length ≤ 4):∀ (xs:List GTable) (i:Nat),s.Tables.drop i = xs → spec_SchemaOK_L1 s xs i = some (if allI (fun i x => tabStep s i x && x.Columns.all (refOK s)) xs i = true then .go () else .ret false)
  | [],i,_ => by rw [spec_SchemaOK_L1]; simp [allI]
  | x :: xs,i,h => by
    rw [spec_SchemaOK_L1,p_tstep s i x (drop_lt h) hl spec_l04Table p_l04Table,Option.bind_some,p_sSchemaOK_L1 s hl xs (i + 1) (drop_next h)]
    cases ht:tabStep s i x with
    | false => simp [allI,ht]
    | true =>
      have hb:tabB x = true:=by simp only [tabStep,Bool.and_eq_true] at ht; exact ht.1
      rw [p_sSchemaOK_L2 s x.Columns (tabB_cols hb)]
      cases hr:x.Columns.all (refOK s) <;> simp [allI,ht,hr]
theorem p_sSchemaOK (s:GSchema):spec_SchemaOK s = some (schB s):=by
  unfold spec_SchemaOK schB
  rw [p_in,Option.bind_some]
  by_cases hc:1 ≤ (s.Tables.length:Int) ∧ (s.Tables.length:Int) ≤ 4
  · rw [p_sSchemaOK_L1 s (by omega) s.Tables 0 (by simp),allI_and (tabStep s) (fun x => x.Columns.all (refOK s))]
    cases allI (tabStep s) s.Tables 0 <;> cases s.Tables.all (fun t => t.Columns.all (refOK s)) <;> simp [hc]
  · simp [hc]
theorem schB_tab {s:GSchema} (h:schB s = true) {t:GTable} (ht:t ∈ s.Tables):tabB t = true:=by
  simp only [schB,Bool.and_eq_true] at h
  obtain ⟨q,hq⟩:=allI_mem h.1.2 ht
  simp only [tabStep,Bool.and_eq_true] at hq
  exact hq.1
def outB (c:GColumn) (x:GAtom):Bool:=!decide (c.Low ≤ x.N ∧ x.N ≤ c.High)
theorem p_Idx_L1 (c:GColumn):∀ (xs:List GAtom) (i:Nat),slices_IndexFunc_impl_Atom_impl_Atom_L1 (fun a => impl_Column_fits_1 a c) xs i = some (.go ()) ∧ xs.any (outB c) = false ∨ ∃ j:Nat,slices_IndexFunc_impl_Atom_impl_Atom_L1 (fun a => impl_Column_fits_1 a c) xs i = some (.ret (j:Int)) ∧ xs.any (outB c) = true
  | [],i => .inl ⟨by rw [slices_IndexFunc_impl_Atom_impl_Atom_L1],rfl⟩
  | x :: xs,i => by
    rw [slices_IndexFunc_impl_Atom_impl_Atom_L1]
    have e:impl_Column_fits_1 x c = some (outB c x):=by unfold impl_Column_fits_1; rw [p_within,Option.bind_some]; rfl
    rw [e,Option.bind_some]
    cases h:outB c x with
    | true => rw [if_pos rfl]; exact .inr ⟨i,rfl,by simp [h]⟩
    | false =>
      rw [if_neg (by simp)]
      rcases p_Idx_L1 c xs (i + 1) with ⟨h1,h2⟩ | ⟨j,h1,h2⟩
      · exact .inl ⟨h1,by simp [h,h2]⟩
      · exact .inr ⟨j,h1,by simp [h,h2]⟩
theorem p_Contains (c:GColumn) (d:List GAtom):slices_ContainsFunc_impl_Atom_impl_Atom d (fun a => impl_Column_fits_1 a c) = some (d.any (outB c)):=by
  unfold slices_ContainsFunc_impl_Atom_impl_Atom slices_IndexFunc_impl_Atom_impl_Atom
  rcases p_Idx_L1 c d 0 with ⟨h1,h2⟩ | ⟨j,h1,h2⟩
  · rw [h1,h2]; rfl
  · rw [h1,h2]; simp
theorem p_sFits_L1 (c:GColumn):∀ (xs:List GAtom),spec_l04Fits_L1 c xs = some (if (c.Kind == 1 && xs.any (outB c)) = true then .ret 4 else .go ())
  | [] => by rw [spec_l04Fits_L1]; simp
  | x :: xs => by
    rw [spec_l04Fits_L1,p_sFits_L1 c xs]
    by_cases k:c.Kind = 1
    · rw [if_pos (by simpa using k),p_in,Option.bind_some,Option.bind_some]
      have e:(!decide (c.Low ≤ x.N ∧ x.N ≤ c.High)) = outB c x:=rfl
      rw [e]
      cases h:outB c x <;> simp [k,h]
    · rw [if_neg (by simpa using k),Option.bind_some,if_neg (by simp)]
      simp [k]
def fitsF (c:GColumn) (d:List GAtom):Int :=
  if (match d[0]? with | some x => x.Kind != c.Kind | none => false) = true then 9 else if ¬ (c.Min ≤ d.length ∧ (d.length:Int) ≤ c.Max) then 6 else if (c.Kind == 1 && d.any (outB c)) = true then 4 else 0
theorem p_cond (c:GColumn) (d:List GAtom):((if (decide ((d.length:Int) > 0)) then (idx d 0).bind fun x_11 => some (x_11.Kind != c.Kind) else some false:Option Bool)) = some (match d[0]? with | some x => x.Kind != c.Kind | none => false):=by
  cases d with
  | nil => rfl
  | cons x xs =>
    rw [if_pos (by simp)]
    rfl
theorem p_fits (c:GColumn) (d:List GAtom):impl_Column_fits c d = some (fitsF c d):=by
  unfold impl_Column_fits fitsF
  rw [p_cond,Option.bind_some]
  generalize (match d[0]? with | some x => x.Kind != c.Kind | none => false) = b
  cases b with
  | true => simp
  | false =>
    simp only [Bool.false_eq_true,if_false]
    rw [p_within,Option.bind_some]
    by_cases h:c.Min ≤ d.length ∧ (d.length:Int) ≤ c.Max
    · rw [decide_eq_true h,if_neg (not_not_intro h)]
      simp only [Bool.not_true,Bool.false_eq_true,if_false]
      by_cases k:c.Kind = 1
      · rw [if_pos (by simpa using k),p_Contains,Option.bind_some]
        cases hh:d.any (outB c) <;> simp [k]
      · rw [if_neg (by simpa using k)]
        simp [k]
    · rw [decide_eq_false h,if_pos h]
      simp
theorem p_sfits (c:GColumn) (d:List GAtom):spec_l04Fits c d = some (fitsF c d):=by
  unfold spec_l04Fits fitsF
  rw [p_cond,Option.bind_some]
  generalize (match d[0]? with | some x => x.Kind != c.Kind | none => false) = b
  cases b with
  | true => simp
  | false =>
    simp only [Bool.false_eq_true,if_false]
    rw [p_in,Option.bind_some]
    by_cases h:c.Min ≤ d.length ∧ (d.length:Int) ≤ c.Max
    · rw [decide_eq_true h,if_neg (not_not_intro h)]
      simp only [Bool.not_true,Bool.false_eq_true,if_false]
      rw [p_sFits_L1]
      cases hh:(c.Kind == 1 && d.any (outB c)) <;> simp
    · rw [decide_eq_false h,if_pos h]
      simp
def cellB (t:GTable) (i:Nat) (d:List GAtom):Bool:=datB d && match t.Columns[i]? with | some c => fitsF c d == 0 | none => false
def rowOKB (t:GTable) (r:GRow):Bool:=decide (1 ≤ r.Id ∧ r.Id ≤ 1000000) && decide (r.Cells.length = t.Columns.length) && allI (cellB t) r.Cells 0
theorem p_cellsOK_L1 (t:GTable):∀ (xs:List (List GAtom)) (i:Nat),i + xs.length ≤ t.Columns.length → (∀ d ∈ xs,d.length ≤ maxLen) → impl_cellsOK_L1 t xs i = some (if allI (cellB t) xs i = true then .go () else .ret false)
  | [],i,_,_ => by rw [impl_cellsOK_L1]; rfl
  | d :: xs,i,h,hd => by
    simp only [List.length_cons] at h
    obtain ⟨c,hc⟩:∃ c,t.Columns[i]? = some c:=⟨t.Columns[i]'(by omega),List.getElem?_eq_getElem (by omega)⟩
    rw [impl_cellsOK_L1,p_DatumOK d (hd d (by simp)),Option.bind_some,idx_nat,hc,p_cellsOK_L1 t xs (i + 1) (by omega) (fun x hx => hd x (by simp [hx]))]
    simp only [allI,cellB,hc,Option.bind_some,p_fits]
    cases datB d <;> by_cases q:fitsF c d = 0 <;> simp [q]
theorem p_l05Row_L1 (t:GTable):∀ (xs:List (List GAtom)) (i:Nat),i + xs.length ≤ t.Columns.length → spec_l05Row_L1 t xs i = some (if allI (cellB t) xs i = true then .go () else .ret false)
  | [],i,_ => by rw [spec_l05Row_L1]; rfl
  | d :: xs,i,h => by
    simp only [List.length_cons] at h
    obtain ⟨c,hc⟩:∃ c,t.Columns[i]? = some c:=⟨t.Columns[i]'(by omega),List.getElem?_eq_getElem (by omega)⟩
    rw [spec_l05Row_L1,p_sDatumOK d,Option.bind_some,idx_nat,hc,p_l05Row_L1 t xs (i + 1) (by omega)]
    simp only [allI,cellB,hc,Option.bind_some,p_sfits]
    cases datB d <;> by_cases q:fitsF c d = 0 <;> simp [q]
theorem p_cellsOK (t:GTable) (r:GRow) (h:∀ d ∈ r.Cells,d.length ≤ maxLen):impl_cellsOK t r = some (decide (r.Cells.length = t.Columns.length) && allI (cellB t) r.Cells 0):=by
  unfold impl_cellsOK
  by_cases e:r.Cells.length = t.Columns.length
  · have e':((r.Cells.length:Int) != (t.Columns.length:Int)) = false:=by simp [e]
    rw [e',p_cellsOK_L1 t r.Cells 0 (by omega) h]
    cases allI (cellB t) r.Cells 0 <;> simp [e]
  · have e':((r.Cells.length:Int) != (t.Columns.length:Int)) = true:=by simp; omega
    rw [e']
    simp [e]
theorem p_l05Row (t:GTable) (r:GRow):spec_l05Row t r = some (rowOKB t r):=by
  unfold spec_l05Row rowOKB
  rw [p_in,Option.bind_some]
  by_cases e:r.Cells.length = t.Columns.length
  · have e':((r.Cells.length:Int) != (t.Columns.length:Int)) = false:=by simp [e]
    rw [e',p_l05Row_L1 t r.Cells 0 (by omega)]
    cases decide (1 ≤ r.Id ∧ r.Id ≤ 1000000) <;> cases allI (cellB t) r.Cells 0 <;> simp [e]
  · have e':((r.Cells.length:Int) != (t.Columns.length:Int)) = true:=by simp; omega
    rw [e']
    cases decide (1 ≤ r.Id ∧ r.Id ≤ 1000000) <;> simp [e]
theorem okRow_small {r:GRow} (h:okGRow r):∀ d ∈ r.Cells,d.length ≤ maxLen:=fun d hd => (h.2.2 d hd).1
theorem atomEq (x y:GAtom):(x.Kind == y.Kind && (x.N == y.N && (x.T == y.T && true))) = decide (x = y):=by
  cases x; cases y
  rw [Bool.eq_iff_iff]
  simp
theorem fuel40:2 ^ 40 < FUEL:=by unfold FUEL; decide
def risB:List GRow → Bool
  | [] => true
  | [_] => true
  | a :: b :: l => decide (a.Id < b.Id) && risB (b :: l)
theorem risB_cons {a:GRow} {l:List GRow} (h:risB (a :: l) = true):risB l = true ∧ ∀ b ∈ l,a.Id < b.Id:=by
  induction l generalizing a with
  | nil => exact ⟨rfl,by simp⟩
  | cons b l ih =>
    simp only [risB,Bool.and_eq_true,decide_eq_true_eq] at h
    refine ⟨h.2,fun c hc => ?_⟩
    rcases List.mem_cons.1 hc with rfl | hc
    · exact h.1
    · have:=(ih h.2).2 c hc; omega
theorem risB_pair {l:List GRow} (h:risB l = true):l.Pairwise fun a b => a.Id < b.Id:=by
  induction l with
  | nil => exact .nil
  | cons a l ih => exact List.pairwise_cons.2 ⟨(risB_cons h).2,ih (risB_cons h).1⟩
theorem risB_lt {l:List GRow} (h:risB l = true) {i j:Nat} {a b:GRow} (hi:l[i]? = some a) (hj:l[j]? = some b) (hij:i < j):a.Id < b.Id:=by
  obtain ⟨h1,rfl⟩:=List.getElem?_eq_some_iff.1 hi
  obtain ⟨h2,rfl⟩:=List.getElem?_eq_some_iff.1 hj
  exact List.pairwise_iff_getElem.1 (risB_pair h) i j h1 h2 hij
theorem p_areRising_L1 (rows:List GRow):∀ (xs:List GRow) (i:Nat) (p:GRow),rows.length ≤ maxLen → rows.drop (i + 1) = xs → rows[i]? = some p → impl_areRising_L1 rows xs (i + 1) = some (if risB (p :: xs) = true then .go () else .ret false)
  | [],i,p,_,_,_ => by rw [impl_areRising_L1]; rfl
  | x :: xs,i,p,hl,hd,hp => by
    have hlt:=drop_lt hd
    rw [impl_areRising_L1]
    have e:w64 (((i + 1:Nat):Int) - 1) = (i:Int):=by rw [w64_id (by unfold maxLen at hl; omega)]; omega
    rw [e,idx_nat,hp,Option.bind_some]
    have hx:rows[i + 1]? = some x:=by have:=congrArg (·[0]?) hd; simpa using this
    by_cases c:p.Id < x.Id
    · have c':¬ p.Id ≥ x.Id:=by omega
      rw [if_neg (by simpa using c'),p_areRising_L1 rows xs (i + 1) x hl (drop_next hd) hx]
      simp [risB,c]
    · rw [if_pos (by simp; omega)]
      simp [risB,c]
theorem p_areRising (rows:List GRow) (hl:rows.length ≤ maxLen):impl_areRising rows = some (risB rows):=by
  unfold impl_areRising
  cases rows with
  | nil => rfl
  | cons p xs =>
    rw [show (1:Nat) = 0 + 1 from rfl,p_areRising_L1 (p :: xs) _ 0 p hl rfl rfl]
    have:(p :: xs).drop (0 + 1) = xs:=rfl
    rw [this]
    rcases Bool.eq_false_or_eq_true (risB (p :: xs)) with hz1 | hz1 <;> simp [hz1]
def rowsB (t:GTable) (nx:Int) (rows:List GRow):Bool:=rows.all fun r => decide (1 ≤ r.Id ∧ r.Id ≤ nx - 1) && decide (r.Cells.length = t.Columns.length) && allI (cellB t) r.Cells 0
theorem p_storeFits_L2 (x:GStore) (s:GSchema) (i:Nat) (t:GTable) (ht:s.Tables[i]? = some t) (hn:1 ≤ x.Next ∧ x.Next ≤ 1000000):∀ (xs:List GRow),(∀ r ∈ xs,smallC r) → impl_storeFits_L2 x s i xs = some (if rowsB t x.Next xs = true then .go () else .ret false)
  | [],_ => by rw [impl_storeFits_L2]; rfl
  | r :: xs,h => by
    rw [impl_storeFits_L2,p_within,Option.bind_some,w64_id (by omega),idx_nat,ht,p_storeFits_L2 x s i t ht hn xs (fun y hy => h y (by simp [hy]))]
    have e:rowsB t x.Next (r :: xs) = (decide (1 ≤ r.Id ∧ r.Id ≤ x.Next - 1) && (decide (r.Cells.length = t.Columns.length) && allI (cellB t) r.Cells 0) && rowsB t x.Next xs):=by simp only [rowsB,List.all_cons,Bool.and_assoc]
    rw [e]
    simp only [Option.bind_some,p_cellsOK t r (h r (by simp))]
    rcases Bool.eq_false_or_eq_true (decide (1 ≤ r.Id ∧ r.Id ≤ x.Next - 1)) with hz1 | hz1 <;> rcases Bool.eq_false_or_eq_true ((decide (r.Cells.length = t.Columns.length) && allI (cellB t) r.Cells 0)) with hz2 | hz2 <;> simp [hz1,hz2]
def tabRB (s:GSchema) (nx:Int) (i:Nat) (rows:List GRow):Bool:=match s.Tables[i]? with | none => false | some t => decide (rows.length ≤ 12) && risB rows && rowsB t nx rows
theorem p_storeFits_L1 (x:GStore) (s:GSchema) (hn:1 ≤ x.Next ∧ x.Next ≤ 1000000):∀ (xs:List (List GRow)) (i:Nat),i + xs.length ≤ s.Tables.length → (∀ l ∈ xs,∀ r ∈ l,smallC r) → impl_storeFits_L1 x s xs i = some (if allI (tabRB s x.Next) xs i = true then .go () else .ret false)
  | [],i,_,_ => by rw [impl_storeFits_L1]; rfl
  | l :: xs,i,h,hs => by
    simp only [List.length_cons] at h
    obtain ⟨t,ht⟩:∃ t,s.Tables[i]? = some t:=⟨s.Tables[i]'(by omega),List.getElem?_eq_getElem (by omega)⟩
    rw [impl_storeFits_L1,p_storeFits_L2 x s i t ht hn l (hs l (by simp)),p_storeFits_L1 x s hn xs (i + 1) (by omega) (fun y hy => hs y (by simp [hy]))]
    simp only [allI,tabRB,ht]
    by_cases c:l.length ≤ 12
    · have c':¬ (l.length:Int) > 12:=by omega
      rw [if_neg (by simpa using c'),p_areRising l (by unfold maxLen; omega)]
      rcases Bool.eq_false_or_eq_true (risB l) with hz1 | hz1 <;> rcases Bool.eq_false_or_eq_true (rowsB t x.Next l) with hz2 | hz2 <;> simp [hz1,hz2,c]
    · have c':(l.length:Int) > 12:=by omega
      simp [c',c]
def storeB (s:GSchema) (x:GStore):Bool:=schB s && decide (x.Tables.length = s.Tables.length) && decide (1 ≤ x.Next ∧ x.Next ≤ 1000000) && allI (tabRB s x.Next) x.Tables 0
theorem p_storeFits (s:GSchema) (x:GStore) (hs:∀ l ∈ x.Tables,∀ r ∈ l,smallC r):impl_storeFits s x = some (storeB s x):=by
  unfold impl_storeFits storeB impl_isId
  rw [p_SchemaOK,p_within]
  by_cases e:x.Tables.length = s.Tables.length
  · have e':((x.Tables.length:Int) != (s.Tables.length:Int)) = false:=by simp [e]
    rw [e']
    by_cases n:1 ≤ x.Next ∧ x.Next ≤ 1000000
    · rw [p_storeFits_L1 x s n x.Tables 0 (by omega) hs]
      rcases Bool.eq_false_or_eq_true (schB s) with hz1 | hz1 <;> rcases Bool.eq_false_or_eq_true (allI (tabRB s x.Next) x.Tables 0) with hz2 | hz2 <;> simp [hz1,hz2,e,n]
    · cases schB s <;> simp [e,n]
  · have e':((x.Tables.length:Int) != (s.Tables.length:Int)) = true:=by simp; omega
    rw [e']
    rcases Bool.eq_false_or_eq_true (schB s) with hz1 | hz1 <;> simp [hz1,e]
def stepR (t:GTable) (nx:Int) (l:List GRow) (k:Nat) (r:GRow):Bool:=rowOKB t r && decide (r.Id < nx) && (k == 0 || match l[k - 1]? with | some p => decide (p.Id < r.Id) | none => false)
theorem p_l05Form_L2 (s:GSchema) (i:Nat) (x:GStore) (l:List GRow) (t:GTable) (ht:s.Tables[i]? = some t) (hl:l.length ≤ maxLen):∀ (xs:List GRow) (k:Nat),l.drop k = xs → spec_l05Form_L2 s i x l xs k = some (if allI (stepR t x.Next l) xs k = true then .go () else .ret false)
  | [],k,_ => by rw [spec_l05Form_L2]; rfl
  | r :: xs,k,hd => by
    have hlt:=drop_lt hd
    rw [spec_l05Form_L2,idx_nat,ht,Option.bind_some,p_l05Row,Option.bind_some,p_l05Form_L2 s i x l t ht hl xs (k + 1) (drop_next hd)]
    simp only [allI,stepR]
    rcases Bool.eq_false_or_eq_true (rowOKB t r) with h1 | h1
    rotate_left
    · simp [h1]
    · simp only [h1]
      by_cases c:r.Id < x.Next
      · have c':decide (r.Id ≥ x.Next) = false:=decide_eq_false (by omega)
        rw [c']
        cases k with
        | zero => simp [c]
        | succ k =>
          obtain ⟨p,hp⟩:∃ p,l[k]? = some p:=⟨l[k]'(by omega),List.getElem?_eq_getElem (by omega)⟩
          have e:w64 (((k + 1:Nat):Int) - 1) = (k:Int):=by rw [w64_id (by unfold maxLen at hl; omega)]; omega
          have c2:decide (((k + 1:Nat):Int) > 0) = true:=decide_eq_true (by omega)
          rw [e,c2,idx_nat,hp]
          by_cases q:p.Id < r.Id
          · have q':decide (p.Id ≥ r.Id) = false:=decide_eq_false (by omega)
            simp [c,hp,q,q']
          · have q':decide (p.Id ≥ r.Id) = true:=decide_eq_true (by omega)
            simp [c,hp,q,q']
      · have c':decide (r.Id ≥ x.Next) = true:=decide_eq_true (by omega)
        rw [c']
        simp [c]
theorem ris_adj:∀ (l:List GRow),risB l = true ↔ ∀ i a b,l[i]? = some a → l[i + 1]? = some b → a.Id < b.Id
  | [] => by simp [risB]
  | [a] => by simp [risB]
  | a :: b :: l => by
    have ih:=ris_adj (b :: l)
    simp only [risB,Bool.and_eq_true,decide_eq_true_eq,ih]
    constructor
    · rintro ⟨h1,h2⟩ i x y hx hy
      cases i with
      | zero => simp at hx hy; subst hx; subst hy; exact h1
      | succ i => exact h2 i x y (by simpa using hx) (by simpa using hy)
    · intro h
      exact ⟨h 0 a b rfl rfl,fun i x y hx hy => h (i + 1) x y (by simpa using hx) (by simpa using hy)⟩
theorem stepR_iff (t:GTable) (nx:Int) (hn:nx ≤ 1000000) (l:List GRow):allI (stepR t nx l) l 0 = (risB l && rowsB t nx l):=by
  rw [Bool.eq_iff_iff,allI_iff,Bool.and_eq_true,ris_adj]
  have key:∀ r:GRow,(rowOKB t r && decide (r.Id < nx)) = (decide (1 ≤ r.Id ∧ r.Id ≤ nx - 1) && decide (r.Cells.length = t.Columns.length) && allI (cellB t) r.Cells 0):=by
    intro r
    unfold rowOKB
    have:(decide (1 ≤ r.Id ∧ r.Id ≤ 1000000) && decide (r.Id < nx)) = decide (1 ≤ r.Id ∧ r.Id ≤ nx - 1):=by
      rw [Bool.eq_iff_iff]; simp only [Bool.and_eq_true,decide_eq_true_eq]; omega
    rw [← this]
    rcases Bool.eq_false_or_eq_true (decide (1 ≤ r.Id ∧ r.Id ≤ 1000000)) with hz1 | hz1 <;> rcases Bool.eq_false_or_eq_true (decide (r.Id < nx)) with hz2 | hz2 <;> simp [hz1,hz2]
  constructor
  · intro h
    refine ⟨fun i a b ha hb => ?_,?_⟩
    · have:=h (i + 1) b hb
      rw [Nat.zero_add] at this
      unfold stepR at this
      simp only [Bool.and_eq_true,Bool.or_eq_true,Nat.add_sub_cancel,ha] at this
      rcases this.2 with q | q
      · simp at q
      · simpa using q
    · unfold rowsB
      rw [List.all_eq_true]
      intro r hr
      obtain ⟨q,hq⟩:=List.mem_iff_getElem?.1 hr
      have:=h q r hq
      unfold stepR at this
      rw [key] at this
      simp only [Bool.and_eq_true] at this ⊢
      exact this.1
  · rintro ⟨h1,h2⟩ q r hq
    unfold rowsB at h2
    have:=List.all_eq_true.1 h2 r (List.mem_of_getElem? hq)
    unfold stepR
    rw [key,this,Nat.zero_add,Bool.true_and]
    cases q with
    | zero => rfl
    | succ q =>
      have hlt:=(List.getElem?_eq_some_iff.1 hq).1
      obtain ⟨p,hp⟩:∃ p,l[q]? = some p:=⟨l[q]'(by omega),List.getElem?_eq_getElem (by omega)⟩
      have:=h1 q p r hp hq
      simp [hp,this]
theorem p_l05Form_L1 (s:GSchema) (x:GStore) (hn:1 ≤ x.Next ∧ x.Next ≤ 1000000):∀ (xs:List (List GRow)) (i:Nat),i + xs.length ≤ s.Tables.length → spec_l05Form_L1 s x xs i = some (if allI (tabRB s x.Next) xs i = true then .go () else .ret false)
  | [],i,_ => by rw [spec_l05Form_L1]; rfl
  | l :: xs,i,h => by
    simp only [List.length_cons] at h
    obtain ⟨t,ht⟩:∃ t,s.Tables[i]? = some t:=⟨s.Tables[i]'(by omega),List.getElem?_eq_getElem (by omega)⟩
    rw [spec_l05Form_L1,p_l05Form_L1 s x hn xs (i + 1) (by omega)]
    simp only [allI,tabRB,ht]
    by_cases c:l.length ≤ 12
    · have c':¬ (l.length:Int) > 12:=by omega
      rw [if_neg (by simpa using c'),p_l05Form_L2 s i x l t ht (by unfold maxLen; omega) l 0 (by simp),stepR_iff t x.Next hn.2 l]
      rcases Bool.eq_false_or_eq_true (risB l) with hz1 | hz1 <;> rcases Bool.eq_false_or_eq_true (rowsB t x.Next l) with hz2 | hz2 <;> simp [hz1,hz2,c]
    · have c':(l.length:Int) > 12:=by omega
      simp [c',c]
theorem p_l05Form (s:GSchema) (x:GStore):spec_l05Form s x = some (decide (x.Tables.length = s.Tables.length) && decide (1 ≤ x.Next ∧ x.Next ≤ 1000000) && allI (tabRB s x.Next) x.Tables 0):=by
  unfold spec_l05Form
  rw [p_in]
  by_cases e:x.Tables.length = s.Tables.length
  · have e':((x.Tables.length:Int) != (s.Tables.length:Int)) = false:=by simp [e]
    rw [e']
    by_cases n:1 ≤ x.Next ∧ x.Next ≤ 1000000
    · rw [p_l05Form_L1 s x n x.Tables 0 (by omega)]
      rcases Bool.eq_false_or_eq_true (allI (tabRB s x.Next) x.Tables 0) with hz1 | hz1 <;> simp [hz1,e,n]
    · simp [e,n]
  · have e':((x.Tables.length:Int) != (s.Tables.length:Int)) = true:=by simp; omega
    rw [e']
    simp [e]
theorem p_sStoreFits (s:GSchema) (x:GStore):((spec_SchemaOK s).bind fun r => if (!r) = true then some true else (spec_l05Form s x).bind fun r => some (!r)) = some (!storeB s x):=by
  rw [p_sSchemaOK,Option.bind_some,p_l05Form]
  unfold storeB
  rcases Bool.eq_false_or_eq_true (schB s) with hz1 | hz1 <;> simp [hz1]
/-! finding a row -/
def hasId (l:List GRow) (id:Int):Bool:=l.any fun r => r.Id == id
theorem p_l05Place_L1 (id:Int):∀ (l:List GRow) (i:Nat),spec_l05Place_L1 id l i = some (match l.findIdx? (fun r => r.Id == id) with | some k => .ret ((i + k:Nat):Int) | none => .go ())
  | [],i => by rw [spec_l05Place_L1]; rfl
  | x :: xs,i => by
    rw [spec_l05Place_L1,p_l05Place_L1 id xs (i + 1),List.findIdx?_cons]
    cases hp:(x.Id == id) with
    | true => simp
    | false =>
      cases hq:xs.findIdx? (fun r => r.Id == id) with
      | none => simp
      | some k => simp; omega
theorem p_l05Place (l:List GRow) (id:Int):spec_l05Place l id = some (atI (l.findIdx? (fun r => r.Id == id))):=by
  unfold spec_l05Place atI
  rw [p_l05Place_L1]
  cases hq:l.findIdx? (fun r => r.Id == id) <;> simp
theorem place_neg (l:List GRow) (id:Int):decide (atI (l.findIdx? (fun r => r.Id == id)) < 0) = !hasId l id:=by
  rw [atI_neg]
  unfold hasId
  rw [← List.findIdx?_isSome]
  cases l.findIdx? (fun r => r.Id == id) <;> rfl
theorem mid_id {i j:Int} (h0:0 ≤ i) (h1:i < j) (h2:j ≤ 2 ^ 60):w64 (Int.fdiv (IntKind.u64.wrap (w64 (i + j))) (2 ^ (min (Int.toNat 1) (IntKind.bits .u64)))) = (i + j) / 2:=by
  have e1:w64 (i + j) = i + j:=w64_id (by omega)
  have e2:IntKind.u64.wrap (i + j) = i + j:=by
    have:IntKind.u64.wrap (i + j) = (i + j) % 2 ^ 64:=rfl
    rw [this]; omega
  have e3:min (Int.toNat 1) (IntKind.bits .u64) = 1:=by decide
  rw [e1,e2,e3,Int.fdiv_eq_ediv_of_nonneg _ (by omega)]
  have:((2:Int) ^ 1) = 2:=rfl
  rw [this,w64_id (by omega)]
theorem p_rowAt_1 (r:GRow) (id:Int):impl_rowAt_1 r id = some (if r.Id < id then -1 else if r.Id > id then 1 else 0):=by
  unfold impl_rowAt_1
  rw [p_cmpInt]
  rfl
theorem p_Bin_L1 (l:List GRow) (id:Int) (hs:risB l = true) (hl:l.length ≤ 2 ^ 30):∀ (k i j:Nat),i ≤ j → j ≤ l.length → j - i < k → (∀ q r,q < i → l[q]? = some r → r.Id < id) → (∀ q r,j ≤ q → l[q]? = some r → id ≤ r.Id) → ∃ m:Nat,slices_BinarySearchFunc_impl_Row_impl_Row_int_L1 l impl_rowAt_1 id k i j = some (m:Int) ∧ m ≤ l.length ∧ (∀ q r,q < m → l[q]? = some r → r.Id < id) ∧ (∀ q r,m ≤ q → l[q]? = some r → id ≤ r.Id)
  | 0,i,j,_,_,h,_,_ => by omega
  | k + 1,i,j,hij,hj,hk,ha,hb => by
    rw [slices_BinarySearchFunc_impl_Row_impl_Row_int_L1]
    by_cases c:i < j
    · rw [if_pos (by simpa using c),mid_id (by omega) (by omega) (by omega)]
      have em:((i:Int) + j) / 2 = (((i + j) / 2:Nat):Int):=by omega
      rw [em,idx_nat]
      have hm:(i + j) / 2 < l.length:=by omega
      obtain ⟨r,hr⟩:∃ r,l[(i + j) / 2]? = some r:=⟨l[(i + j) / 2],List.getElem?_eq_getElem hm⟩
      rw [hr,Option.bind_some,p_rowAt_1,Option.bind_some]
      by_cases d:r.Id < id
      · rw [if_pos (by simp [d]),w64_id (by omega)]
        have:(((i + j) / 2:Nat):Int) + 1 = (((i + j) / 2 + 1:Nat):Int):=by omega
        rw [this]
        refine p_Bin_L1 l id hs hl k ((i + j) / 2 + 1) j (by omega) hj (by omega) (fun q r' hq hr' => ?_) hb
        by_cases e:q = (i + j) / 2
        · subst e; rw [hr] at hr'; cases hr'; exact d
        · have:=risB_lt hs hr' hr (by omega); omega
      · rw [if_neg (by simp only [d,if_false]; split <;> simp)]
        refine p_Bin_L1 l id hs hl k i ((i + j) / 2) (by omega) (by omega) (by omega) ha (fun q r' hq hr' => ?_)
        by_cases e:q = (i + j) / 2
        · subst e; rw [hr] at hr'; cases hr'; omega
        · have:=risB_lt hs hr hr' (by omega); omega
    · rw [if_neg (by simpa using c)]
      exact ⟨i,rfl,by omega,ha,fun q r hq => hb q r (by omega)⟩
theorem p_rowAt (l:List GRow) (id:Int) (hs:risB l = true) (hl:l.length ≤ 2 ^ 30):∃ m:Nat,impl_rowAt l id = some ((m:Int),hasId l id) ∧ m ≤ l.length ∧ (∀ q r,q < m → l[q]? = some r → r.Id < id) ∧ (∀ q r,m ≤ q → l[q]? = some r → id ≤ r.Id):=by
  have hf:=fuel40
  obtain ⟨m,e,h1,h2,h3⟩:=p_Bin_L1 l id hs hl FUEL 0 l.length (by omega) (by omega) (by omega) (fun q r h => by omega) (fun q r h hr => by have:=(List.getElem?_eq_some_iff.1 hr).1; omega)
  have e':slices_BinarySearchFunc_impl_Row_impl_Row_int_L1 l impl_rowAt_1 id FUEL 0 (l.length:Int) = some (m:Int):=e
  refine ⟨m,?_,h1,h2,h3⟩
  unfold impl_rowAt slices_BinarySearchFunc_impl_Row_impl_Row_int
  rw [e',Option.bind_some]
  by_cases c:m < l.length
  · obtain ⟨r,hr⟩:∃ r,l[m]? = some r:=⟨l[m],List.getElem?_eq_getElem c⟩
    rw [if_pos (by simpa using c),idx_nat,hr,Option.bind_some,p_rowAt_1,Option.bind_some,Option.bind_some]
    have hge:=h3 m r (Nat.le_refl _) hr
    by_cases d:r.Id = id
    · have hh:hasId l id = true:=List.any_eq_true.2 ⟨r,List.mem_of_getElem? hr,by simp [d]⟩
      rw [hh]; simp [d]
    · have hh:hasId l id = false:=by
        unfold hasId
        rw [List.any_eq_false]
        intro y hy
        obtain ⟨q,hq⟩:=List.mem_iff_getElem?.1 hy
        rcases Nat.lt_trichotomy q m with g | g | g
        · have:=h2 q y g hq; simp; omega
        · subst g; rw [hr] at hq; cases hq; simpa using d
        · have:=risB_lt hs hr hq g; simp; omega
      have g1:¬ r.Id < id:=by omega
      have g2:r.Id > id:=by omega
      rw [hh]; simp [g1,g2]
  · have hh:hasId l id = false:=by
      unfold hasId
      rw [List.any_eq_false]
      intro y hy
      obtain ⟨q,hq⟩:=List.mem_iff_getElem?.1 hy
      have:=(List.getElem?_eq_some_iff.1 hq).1
      have:=h2 q y (by omega) hq
      simp; omega
    rw [if_neg (by simpa using c),Option.bind_some,hh]
theorem p_hasRow (x:GStore) (j:Nat) (l:List GRow) (id:Int) (hj:x.Tables[j]? = some l) (hs:risB l = true) (hl:l.length ≤ 2 ^ 30):impl_Store_hasRow x (j:Int) id = some (hasId l id):=by
  unfold impl_Store_hasRow
  obtain ⟨m,e,_⟩:=p_rowAt l id hs hl
  rw [idx_nat,hj,Option.bind_some,e,Option.bind_some]
/-! references -/
def cellR (there:List GRow) (d:List GAtom):Bool:=d.all fun a => hasId there a.N
theorem p_isRefUnmet (x:GStore) (j:Nat) (l:List GRow) (d:List GAtom) (hj:x.Tables[j]? = some l) (hs:risB l = true) (hl:l.length ≤ 2 ^ 30):impl_Store_isRefUnmet x (j:Int) d = some (!cellR l d):=by
  unfold impl_Store_isRefUnmet
  rw [p_slices_ContainsFunc_impl_Atom_impl_Atom _ (fun a => !hasId l a.N) d (fun a _ => by unfold impl_Store_isRefUnmet_1; rw [p_hasRow x j l a.N hj hs hl]; rfl),Option.bind_some,any_notB]
  rfl
def colR (x:GStore) (s:GSchema) (rows:List GRow) (k:Nat) (c:GColumn):Bool:=c.Kind != 4 || match tabK s c.Ref with | none => false | some j => match x.Tables[j]? with | none => false | some there => rows.all fun r => match r.Cells[k]? with | some d => cellR there d | none => false
theorem p_each_L3 (x:GStore) (s:GSchema) (k:Nat) (c:GColumn) (j:Nat) (there:List GRow) (hr:tabK s c.Ref = some j) (hj:x.Tables[j]? = some there) (hs:risB there = true) (hl:there.length ≤ 2 ^ 30):∀ (rows:List GRow) (code:Int),(∀ r ∈ rows,k < r.Cells.length) →
    impl_eachSet_h0_L3 k s c rows true x.Tables x.Next code = some (true,x.Tables,x.Next,if (rows.all fun r => match r.Cells[k]? with | some d => cellR there d | none => false) = true then code else 13)
  | [],code,_ => by rw [impl_eachSet_h0_L3]; rfl
  | r :: rows,code,h => by
    have hk:=h r (by simp)
    obtain ⟨d,hd⟩:∃ d,r.Cells[k]? = some d:=⟨r.Cells[k],List.getElem?_eq_getElem hk⟩
    have ea:atI (some j) = (j:Int):=rfl
    have ex:(⟨x.Tables,x.Next⟩:GStore) = x:=rfl
    rw [impl_eachSet_h0_L3,idx_nat,hd,Option.bind_some,p_tableAt,hr,Option.bind_some,ea,ex]
    unfold impl_commitCode_1_h0
    rw [if_pos rfl,p_isRefUnmet x j there d hj hs hl]
    simp only [Option.bind_some,List.all_cons,hd]
    cases hc:cellR there d with
    | true =>
      rw [if_neg (by simp)]
      simp only [Option.bind_some]
      rw [p_each_L3 x s k c j there hr hj hs hl rows code (fun y hy => h y (by simp [hy]))]
      simp
    | false =>
      rw [if_pos (by simp)]
      simp only [Option.bind_some]
      rw [p_each_L3 x s k c j there hr hj hs hl rows 13 (fun y hy => h y (by simp [hy]))]
      simp
def RisT (x:GStore):Prop:=∀ l ∈ x.Tables,risB l = true ∧ l.length ≤ 12
theorem p_each_L2 (x:GStore) (s:GSchema) (i:Nat) (rows:List GRow) (hi:x.Tables[i]? = some rows) (hx:RisT x) (hlen:x.Tables.length = s.Tables.length):∀ (cs:List GColumn) (k:Nat) (code:Int),(∀ c ∈ cs,refOK s c = true) → (∀ r ∈ rows,k + cs.length ≤ r.Cells.length) →
    impl_eachSet_h0_L2 x i s cs k true x.Tables x.Next code = some (true,x.Tables,x.Next,if allI (colR x s rows) cs k = true then code else 13)
  | [],k,code,_,_ => by rw [impl_eachSet_h0_L2]; rfl
  | c :: cs,k,code,hc,h => by
    simp only [List.length_cons] at h
    rw [impl_eachSet_h0_L2]
    have hc0:=hc c (by simp)
    by_cases q:c.Kind = 4
    · rw [if_neg (by simp [q]),idx_nat,hi,Option.bind_some]
      unfold refOK at hc0
      cases hr:tabK s c.Ref with
      | none => simp [q,hr] at hc0
      | some j =>
        have hj':j < s.Tables.length:=by
          unfold tabK at hr
          exact (List.findIdx?_eq_some_iff_getElem.1 hr).1
        obtain ⟨there,hj⟩:∃ l,x.Tables[j]? = some l:=⟨x.Tables[j]'(by omega),List.getElem?_eq_getElem (by omega)⟩
        obtain ⟨g1,g2⟩:=hx there (List.mem_of_getElem? hj)
        rw [p_each_L3 x s k c j there hr hj g1 (by omega) rows code (fun r hr => by have:=h r hr; omega),Option.bind_some]
        simp only
        rw [p_each_L2 x s i rows hi hx hlen cs (k + 1) _ (fun y hy => hc y (by simp [hy])) (fun r hr => by have:=h r hr; omega)]
        simp only [allI,colR,hr,hj,q,bne_self_eq_false,Bool.false_or]
        rcases Bool.eq_false_or_eq_true ((rows.all fun r => match r.Cells[k]? with | some d => cellR there d | none => false)) with hz1 | hz1 <;> rcases Bool.eq_false_or_eq_true (allI (colR x s rows) cs (k + 1)) with hz2 | hz2 <;> simp [hz1,hz2]
    · rw [if_pos (by simpa using q),p_each_L2 x s i rows hi hx hlen cs (k + 1) code (fun y hy => hc y (by simp [hy])) (fun r hr => by have:=h r hr; omega)]
      have:(c.Kind != 4) = true:=by simpa using q
      simp only [allI,colR,this,Bool.true_or,Bool.true_and]
def tabR (x:GStore) (s:GSchema) (i:Nat) (t:GTable):Bool:=match x.Tables[i]? with | none => false | some rows => allI (colR x s rows) t.Columns 0
theorem p_each_L1 (x:GStore) (s:GSchema) (hx:RisT x) (hlen:x.Tables.length = s.Tables.length):∀ (ts:List GTable) (i:Nat) (code:Int),i + ts.length = s.Tables.length → (∀ t ∈ ts,∀ c ∈ t.Columns,refOK s c = true) → (∀ (q:Nat) (t:GTable) (rows:List GRow),ts[q]? = some t → x.Tables[i + q]? = some rows → ∀ r ∈ rows,t.Columns.length ≤ r.Cells.length) →
    impl_eachSet_h0_L1 x s ts i true x.Tables x.Next code = some (true,x,if allI (tabR x s) ts i = true then code else 13)
  | [],i,code,_,_,_ => by rw [impl_eachSet_h0_L1]; rfl
  | t :: ts,i,code,hl,hc,h => by
    simp only [List.length_cons] at hl
    obtain ⟨rows,hi⟩:∃ l,x.Tables[i]? = some l:=⟨x.Tables[i]'(by omega),List.getElem?_eq_getElem (by omega)⟩
    rw [impl_eachSet_h0_L1,p_each_L2 x s i rows hi hx hlen t.Columns 0 code (hc t (by simp)) (fun r hr => by have:=h 0 t rows rfl (by simpa using hi) r hr; omega),Option.bind_some]
    simp only
    rw [p_each_L1 x s hx hlen ts (i + 1) _ (by omega) (fun y hy => hc y (by simp [hy])) (fun q t' rows' h1 h2 => h (q + 1) t' rows' (by simpa using h1) (by rw [show i + (q + 1) = i + 1 + q from by omega]; exact h2))]
    simp only [allI,tabR,hi]
    rcases Bool.eq_false_or_eq_true (allI (colR x s rows) t.Columns 0) with hz1 | hz1 <;> rcases Bool.eq_false_or_eq_true (allI (tabR x s) ts (i + 1)) with hz2 | hz2 <;> simp [hz1,hz2]
theorem p_l05Refs_L4 (there:List GRow):∀ d:List GAtom,spec_l05Refs_L4 there d = some (if cellR there d = true then .go () else .ret false)
  | [] => by rw [spec_l05Refs_L4]; rfl
  | a :: d => by
    rw [spec_l05Refs_L4,p_l05Place,Option.bind_some,place_neg,p_l05Refs_L4 there d]
    simp only [cellR,List.all_cons]
    rcases Bool.eq_false_or_eq_true (hasId there a.N) with hz1 | hz1 <;> simp [hz1]
theorem p_l05Refs_L3 (k:Nat) (there:List GRow):∀ rows:List GRow,(∀ r ∈ rows,k < r.Cells.length) → spec_l05Refs_L3 (k:Int) there rows = some (if (rows.all fun r => match r.Cells[k]? with | some d => cellR there d | none => false) = true then .go () else .ret false)
  | [],_ => by rw [spec_l05Refs_L3]; rfl
  | r :: rows,h => by
    have hk:=h r (by simp)
    obtain ⟨d,hd⟩:∃ d,r.Cells[k]? = some d:=⟨r.Cells[k],List.getElem?_eq_getElem hk⟩
    rw [spec_l05Refs_L3,idx_nat,hd,Option.bind_some,p_l05Refs_L4,p_l05Refs_L3 k there rows (fun y hy => h y (by simp [hy]))]
    simp only [List.all_cons,hd]
    rcases Bool.eq_false_or_eq_true (cellR there d) with hz1 | hz1 <;> simp [hz1]
theorem p_l05Refs_L2 (s:GSchema) (i:Nat) (x:GStore) (rows:List GRow) (t:GTable) (ht:s.Tables[i]? = some t) (hlen:x.Tables.length = s.Tables.length) (hc:∀ c ∈ t.Columns,refOK s c = true) (h:∀ r ∈ rows,t.Columns.length ≤ r.Cells.length) (h6:t.Columns.length ≤ 6):∀ (n fuel k:Nat),n + k = t.Columns.length → n < fuel →
    spec_l05Refs_L2 s i x rows fuel k = some (if allI (colR x s rows) (t.Columns.drop k) k = true then .go () else .ret false)
  | n,0,k,_,hf => by omega
  | n,fuel + 1,k,hn,hf => by
    rw [spec_l05Refs_L2,idx_nat,ht,Option.bind_some]
    cases n with
    | zero =>
      have:¬ k < t.Columns.length:=by omega
      rw [if_neg (by simpa using this),List.drop_of_length_le (by omega)]
      rfl
    | succ n =>
      have hk:k < t.Columns.length:=by omega
      obtain ⟨c,hcc⟩:∃ c,t.Columns[k]? = some c:=⟨t.Columns[k],List.getElem?_eq_getElem hk⟩
      have ed:t.Columns.drop k = c :: t.Columns.drop (k + 1):=by
        rw [List.drop_eq_getElem_cons hk]; congr 1; exact (List.getElem?_eq_some_iff.1 hcc).2
      have ew:w64 ((k:Int) + 1) = ((k + 1:Nat):Int):=by rw [w64_id (by omega)]; omega
      rw [if_pos (by simpa using hk),Option.bind_some,idx_nat,hcc,Option.bind_some,ew,p_l05Refs_L2 s i x rows t ht hlen hc h h6 n fuel (k + 1) (by omega) (by omega),ed]
      by_cases q:c.Kind = 4
      · rw [if_neg (by simp [q]),p_l04Find,Option.bind_some]
        have hc0:=hc c (List.mem_of_getElem? hcc)
        unfold refOK at hc0
        cases hr:tabK s c.Ref with
        | none => simp [q,hr] at hc0
        | some j =>
          have hj':j < s.Tables.length:=by
            unfold tabK at hr
            exact (List.findIdx?_eq_some_iff_getElem.1 hr).1
          obtain ⟨there,hj⟩:∃ l,x.Tables[j]? = some l:=⟨x.Tables[j]'(by omega),List.getElem?_eq_getElem (by omega)⟩
          have ea:atI (some j) = (j:Int):=rfl
          rw [ea,idx_nat,hj,Option.bind_some,p_l05Refs_L3 k there rows (fun r hr => by have:=h r hr; omega)]
          simp only [allI,colR,hr,hj,q,bne_self_eq_false,Bool.false_or]
          rcases Bool.eq_false_or_eq_true ((rows.all fun r => match r.Cells[k]? with | some d => cellR there d | none => false)) with hz1 | hz1 <;> simp [hz1]
      · have q':(c.Kind != 4) = true:=by simpa using q
        rw [if_pos q']
        simp only [allI,colR,q',Bool.true_or,Bool.true_and]
theorem p_l05Refs_L1 (s:GSchema) (x:GStore) (hlen:x.Tables.length = s.Tables.length) (h6:∀ t ∈ s.Tables,t.Columns.length ≤ 6):∀ (xs:List (List GRow)) (i:Nat),x.Tables.drop i = xs → (∀ t ∈ s.Tables,∀ c ∈ t.Columns,refOK s c = true) → (∀ (q:Nat) (t:GTable) (rows:List GRow),s.Tables[q]? = some t → x.Tables[q]? = some rows → ∀ r ∈ rows,t.Columns.length ≤ r.Cells.length) →
    spec_l05Refs_L1 s x xs i = some (if allI (tabR x s) (s.Tables.drop i) i = true then .go () else .ret false)
  | [],i,hd,_,_ => by
    have:x.Tables.length ≤ i:=by simpa using hd
    rw [spec_l05Refs_L1,List.drop_of_length_le (by omega)]
    rfl
  | rows :: xs,i,hd,hc,h => by
    have hlt:=drop_lt hd
    have hi:x.Tables[i]? = some rows:=by have:=congrArg (·[0]?) hd; simpa using this
    obtain ⟨t,ht⟩:∃ t,s.Tables[i]? = some t:=⟨s.Tables[i]'(by omega),List.getElem?_eq_getElem (by omega)⟩
    have hf:=fuel40
    have htm:=List.mem_of_getElem? ht
    have h6':=h6 t htm
    have ed:s.Tables.drop i = t :: s.Tables.drop (i + 1):=by
      rw [List.drop_eq_getElem_cons (by omega)]; congr 1; exact (List.getElem?_eq_some_iff.1 ht).2
    have e2:=p_l05Refs_L2 s i x rows t ht hlen (hc t htm) (h i t rows ht hi) h6' t.Columns.length FUEL 0 (by omega) (by omega)
    have e2':spec_l05Refs_L2 s i x rows FUEL 0 = _:=e2
    rw [spec_l05Refs_L1,e2',p_l05Refs_L1 s x hlen h6 xs (i + 1) (drop_next hd) hc h,ed]
    simp only [allI,tabR,hi,List.drop_zero]
    rcases Bool.eq_false_or_eq_true (allI (colR x s rows) t.Columns 0) with hz1 | hz1 <;> simp [hz1]
def refsB (s:GSchema) (x:GStore):Bool:=allI (tabR x s) s.Tables 0
/-! sets that must be different -/
theorem p_Equal_L1 (b:List GAtom):∀ (xs:List GAtom) (i:Nat),i + xs.length = b.length → slices_Equal_impl_Atom_impl_Atom_L1 b xs i = some (if xs = b.drop i then .go () else .ret false)
  | [],i,h => by
    rw [slices_Equal_impl_Atom_impl_Atom_L1,List.drop_of_length_le (by simp at h; omega)]; rfl
  | x :: xs,i,h => by
    simp only [List.length_cons] at h
    obtain ⟨y,hy⟩:∃ y,b[i]? = some y:=⟨b[i]'(by omega),List.getElem?_eq_getElem (by omega)⟩
    have ed:b.drop i = y :: b.drop (i + 1):=by
      rw [List.drop_eq_getElem_cons (by omega)]; congr 1; exact (List.getElem?_eq_some_iff.1 hy).2
    rw [slices_Equal_impl_Atom_impl_Atom_L1,idx_nat,hy,Option.bind_some,atomEq,p_Equal_L1 b xs (i + 1) (by omega),ed]
    by_cases e:x = y
    · subst e; simp
    · simp [e]
theorem p_Equal (a b:List GAtom):slices_Equal_impl_Atom_impl_Atom a b = some (decide (a = b)):=by
  unfold slices_Equal_impl_Atom_impl_Atom
  by_cases e:a.length = b.length
  · rw [if_neg (by simp [e]),p_Equal_L1 b a 0 (by omega),List.drop_zero]
    by_cases q:a = b <;> simp [q]
  · have:a ≠ b:=fun h => e (by rw [h])
    rw [if_pos (by simp; omega)]
    simp [this]
theorem p_l03Same_L1 (b:List GAtom):∀ (xs:List GAtom) (i:Nat),i + xs.length = b.length → spec_l03Same_L1 b xs i = some (if xs = b.drop i then .go () else .ret false)
  | [],i,h => by
    rw [spec_l03Same_L1,List.drop_of_length_le (by simp at h; omega)]; rfl
  | x :: xs,i,h => by
    simp only [List.length_cons] at h
    obtain ⟨y,hy⟩:∃ y,b[i]? = some y:=⟨b[i]'(by omega),List.getElem?_eq_getElem (by omega)⟩
    have ed:b.drop i = y :: b.drop (i + 1):=by
      rw [List.drop_eq_getElem_cons (by omega)]; congr 1; exact (List.getElem?_eq_some_iff.1 hy).2
    rw [spec_l03Same_L1,idx_nat,hy,Option.bind_some,atomEq,p_l03Same_L1 b xs (i + 1) (by omega),ed]
    by_cases e:x = y
    · subst e; simp
    · simp [e]
theorem p_l03Same (a b:List GAtom):spec_l03Same a b = some (decide (a = b)):=by
  unfold spec_l03Same
  by_cases e:a.length = b.length
  · rw [if_neg (by simp [e]),p_l03Same_L1 b a 0 (by omega),List.drop_zero]
    by_cases q:a = b <;> simp [q]
  · have:a ≠ b:=fun h => e (by rw [h])
    rw [if_pos (by simp; omega)]
    simp [this]
def cellAt (r:GRow) (k:Int):List GAtom:=(r.Cells[k.toNat]?).getD []
theorem idx_cell (r:GRow) (k:Int) (h:0 ≤ k ∧ k < r.Cells.length):idx r.Cells k = some (cellAt r k):=by
  obtain ⟨n,rfl⟩:∃ n:Nat,k = n:=⟨k.toNat,by omega⟩
  rw [idx_nat]
  unfold cellAt
  simp only [Int.toNat_natCast]
  rw [List.getElem?_eq_getElem (by omega)]
  rfl
def sameU (u:List Int) (a b:GRow):Bool:=u.all fun k => decide (cellAt a k = cellAt b k)
def inU (u:List Int) (r:GRow):Prop:=∀ k ∈ u,0 ≤ k ∧ k < r.Cells.length
theorem p_alikeF (u:List Int) (a b:GRow) (ha:inU u a) (hb:inU u b):slices_ContainsFunc_int_int u (fun a0 => impl_hasAlike_1 a0 a b) = some (!sameU u a b):=by
  rw [p_slices_ContainsFunc_int_int _ (fun k => !decide (cellAt a k = cellAt b k)) u (fun k hk => by unfold impl_hasAlike_1; rw [idx_cell a k (ha k hk),Option.bind_some,idx_cell b k (hb k hk),Option.bind_some,p_Equal]; rfl),any_notB]
  rfl
theorem p_hasAlike_L2 (rows:List GRow) (i:Nat) (t:GTable) (a:GRow) (ha:inU t.Unique a) (hr:∀ r ∈ rows,inU t.Unique r):∀ (xs:List GRow) (k:Nat),(rows.take i).drop k = xs → impl_hasAlike_L2 rows i t a xs k = some (if (xs.all fun b => !sameU t.Unique a b) = true then .go () else .ret true)
  | [],k,_ => by rw [impl_hasAlike_L2]; rfl
  | b :: xs,k,hd => by
    have hk:(rows.take i)[k]? = some b:=by have:=congrArg (·[0]?) hd; simpa using this
    have hb:b ∈ rows:=List.mem_of_mem_take (List.mem_of_getElem? hk)
    rw [impl_hasAlike_L2,idx_nat,hk,Option.bind_some,p_alikeF _ a b ha (hr b hb),Option.bind_some,p_hasAlike_L2 rows i t a ha hr xs (k + 1) (drop_next hd)]
    simp only [List.all_cons]
    rcases Bool.eq_false_or_eq_true (sameU t.Unique a b) with hz1 | hz1 <;> simp [hz1]
def alikeI (t:GTable) (rows:List GRow) (i:Nat) (a:GRow):Bool:=(rows.take i).all fun b => !sameU t.Unique a b
theorem p_hasAlike_L1 (rows:List GRow) (t:GTable) (hr:∀ r ∈ rows,inU t.Unique r):∀ (xs:List GRow) (i:Nat),rows.drop i = xs → impl_hasAlike_L1 rows t xs i = some (if allI (alikeI t rows) xs i = true then .go () else .ret true)
  | [],i,_ => by rw [impl_hasAlike_L1]; rfl
  | a :: xs,i,hd => by
    have hlt:=drop_lt hd
    have ha:rows[i]? = some a:=by have:=congrArg (·[0]?) hd; simpa using this
    rw [impl_hasAlike_L1,if_pos (by omega),p_hasAlike_L2 rows i t a (hr a (List.mem_of_getElem? ha)) hr (rows.take i) 0 (by simp),p_hasAlike_L1 rows t hr xs (i + 1) (drop_next hd)]
    simp only [allI,alikeI]
    rcases Bool.eq_false_or_eq_true (((rows.take i).all fun b => !sameU t.Unique a b)) with hz1 | hz1 <;> simp [hz1]
def uniB (t:GTable) (rows:List GRow):Bool:=decide (t.Unique = []) || allI (alikeI t rows) rows 0
theorem p_hasAlike (t:GTable) (rows:List GRow) (hr:∀ r ∈ rows,inU t.Unique r):impl_hasAlike t rows = some (!uniB t rows):=by
  unfold impl_hasAlike uniB
  by_cases e:t.Unique = []
  · simp [e]
  · have e':((t.Unique.length:Int) == 0) = false:=by
      have:t.Unique.length ≠ 0:=fun h => e (List.length_eq_zero_iff.1 h)
      simp; omega
    rw [e',p_hasAlike_L1 rows t hr rows 0 (by simp)]
    rcases Bool.eq_false_or_eq_true (allI (alikeI t rows) rows 0) with hz1 | hz1 <;> simp [hz1,e]
def tabU (x:GStore) (i:Nat) (t:GTable):Bool:=match x.Tables[i]? with | none => false | some rows => uniB t rows
theorem p_commit_L1 (x:GStore) (s:GSchema) (hlen:x.Tables.length = s.Tables.length):∀ (ts:List GTable) (i:Nat) (code:Int),i + ts.length = s.Tables.length → (∀ (q:Nat) (t:GTable) (rows:List GRow),ts[q]? = some t → x.Tables[i + q]? = some rows → ∀ r ∈ rows,inU t.Unique r) →
    ∀ c0 c1,impl_commitCode_L1 (c0,x,c1) ts i code = some (if code = 0 ∧ allI (tabU x) ts i = false then 12 else code)
  | [],i,code,_,_,c0,c1 => by rw [impl_commitCode_L1]; simp [allI]
  | t :: ts,i,code,hl,h,c0,c1 => by
    simp only [List.length_cons] at hl
    obtain ⟨rows,hi⟩:∃ l,x.Tables[i]? = some l:=⟨x.Tables[i]'(by omega),List.getElem?_eq_getElem (by omega)⟩
    have ih:=fun code => p_commit_L1 x s hlen ts (i + 1) code (by omega) (fun q t' rows' h1 h2 => h (q + 1) t' rows' (by simpa using h1) (by rw [show i + (q + 1) = i + 1 + q from by omega]; exact h2)) c0 c1
    rw [impl_commitCode_L1]
    by_cases c:code = 0
    · subst c
      simp only [beq_self_eq_true,if_true,idx_nat,hi,Option.bind_some,p_hasAlike t rows (h 0 t rows rfl (by simpa using hi)),ih,allI,tabU]
      rcases Bool.eq_false_or_eq_true (uniB t rows) with hz1 | hz1 <;> simp [hz1]
    · have c':(code == 0) = false:=by simpa using c
      rw [c']
      simp only [Bool.false_eq_true,if_false,Option.bind_some,ih]
      simp [c]
def unisB (s:GSchema) (x:GStore):Bool:=allI (tabU x) s.Tables 0
structure StoreP (s:GSchema) (x:GStore):Prop where
  len:x.Tables.length = s.Tables.length
  ris:RisT x
  ref:∀ t ∈ s.Tables,∀ c ∈ t.Columns,refOK s c = true
  cols:∀ t ∈ s.Tables,t.Columns.length ≤ 6
  uni:∀ t ∈ s.Tables,t.Unique.length ≤ 6 ∧ ∀ k ∈ t.Unique,0 ≤ k ∧ k < t.Columns.length
  cell:∀ (q:Nat) (t:GTable) (rows:List GRow),s.Tables[q]? = some t → x.Tables[q]? = some rows → ∀ r ∈ rows,r.Cells.length = t.Columns.length
theorem storeB_P {s:GSchema} {x:GStore} (h:storeB s x = true):StoreP s x:=by
  unfold storeB at h
  simp only [Bool.and_eq_true,decide_eq_true_eq] at h
  obtain ⟨⟨⟨h1,h2⟩,h3⟩,h4⟩:=h
  have tab:∀ t ∈ s.Tables,tabB t = true:=fun t ht => schB_tab h1 ht
  have hI:=(allI_iff _ _ _).1 h4
  have rowt:∀ (q:Nat) (l:List GRow),x.Tables[q]? = some l → ∃ t,s.Tables[q]? = some t ∧ l.length ≤ 12 ∧ risB l = true ∧ rowsB t x.Next l = true:=by
    intro q l hq
    have:=hI q l hq
    rw [Nat.zero_add] at this
    unfold tabRB at this
    cases ht:s.Tables[q]? with
    | none => rw [ht] at this; cases this
    | some t =>
      rw [ht] at this
      simp only [Bool.and_eq_true,decide_eq_true_eq] at this
      exact ⟨t,rfl,this.1.1,this.1.2,this.2⟩
  refine ⟨h2,fun l hl => ?_,?_,fun t ht => ?_,fun t ht => ?_,fun q t rows ht hr r hm => ?_⟩
  · obtain ⟨q,hq⟩:=List.mem_iff_getElem?.1 hl
    obtain ⟨t,_,g1,g2,_⟩:=rowt q l hq
    exact ⟨g2,g1⟩
  · unfold schB at h1
    simp only [Bool.and_eq_true] at h1
    intro t ht c hc
    exact List.all_eq_true.1 (List.all_eq_true.1 h1.2 t ht) c hc
  · have:=tab t ht
    unfold tabB at this
    simp only [Bool.and_eq_true,decide_eq_true_eq] at this
    omega
  · have:=tab t ht
    unfold tabB at this
    simp only [Bool.and_eq_true,decide_eq_true_eq] at this
    have hu:=uni_len t this.2
    refine ⟨by omega,fun k hk => ?_⟩
    obtain ⟨q,hq⟩:=allI_mem this.2 hk
    unfold uniStep at hq
    simp only [Bool.and_eq_true,decide_eq_true_eq] at hq
    omega
  · obtain ⟨t',ht',_,_,g⟩:=rowt q rows hr
    rw [ht] at ht'; cases ht'
    unfold rowsB at g
    have:=List.all_eq_true.1 g r hm
    simp only [Bool.and_eq_true,decide_eq_true_eq] at this
    exact this.1.2
theorem storeP_inu {s:GSchema} {x:GStore} (h:StoreP s x) {q:Nat} {t:GTable} {rows:List GRow} (ht:s.Tables[q]? = some t) (hr:x.Tables[q]? = some rows):∀ r ∈ rows,inU t.Unique r:=by
  intro r hm k hk
  have h1:=(h.uni t (List.mem_of_getElem? ht)).2 k hk
  have h2:=h.cell q t rows ht hr r hm
  omega
theorem p_commitCode {s:GSchema} {x:GStore} (h:StoreP s x):impl_commitCode s x true = some (if refsB s x = false then 13 else if unisB s x = false then 12 else 0):=by
  unfold impl_commitCode impl_eachSet_h0
  rw [p_each_L1 x s h.ris h.len s.Tables 0 0 (by omega) h.ref (fun q t rows h1 h2 r hm => by rw [h.cell q t rows h1 (by simpa using h2) r hm]; omega),Option.bind_some]
  simp only
  rw [p_commit_L1 x s h.len s.Tables 0 _ (by omega) (fun q t rows h1 h2 => storeP_inu h h1 (by simpa using h2)),Option.bind_some]
  unfold refsB unisB
  rcases Bool.eq_false_or_eq_true (allI (tabR x s) s.Tables 0) with hz1 | hz1 <;> rcases Bool.eq_false_or_eq_true (allI (tabU x) s.Tables 0) with hz2 | hz2 <;> simp [hz1,hz2]
theorem p_l05Unique_L4 (rows:List GRow) (k j:Nat) (a b:GRow) (hk:rows[k]? = some a) (hj:rows[j]? = some b):∀ (u:List Int) (same:Bool),inU u a → inU u b → spec_l05Unique_L4 rows (k:Int) (j:Int) u same = some (same && sameU u a b)
  | [],same,_,_ => by rw [spec_l05Unique_L4]; simp [sameU]
  | n :: u,same,ha,hb => by
    have ih:=fun same => p_l05Unique_L4 rows k j a b hk hj u same (fun z hz => ha z (by simp [hz])) (fun z hz => hb z (by simp [hz]))
    rw [spec_l05Unique_L4]
    cases same with
    | true =>
      rw [if_pos rfl,idx_nat,hk,Option.bind_some,idx_cell a n (ha n (by simp)),Option.bind_some,idx_nat,hj,Option.bind_some,idx_cell b n (hb n (by simp)),Option.bind_some,p_l03Same,Option.bind_some,ih]
      simp [sameU]
    | false =>
      rw [if_neg (by simp),ih]
      simp
theorem p_l05Unique_L3 (rows:List GRow) (t:GTable) (k:Nat) (a:GRow) (hk:rows[k]? = some a) (hr:∀ r ∈ rows,inU t.Unique r) (hl:rows.length ≤ 12):∀ (n fuel j:Nat),n + j = k → n < fuel → spec_l05Unique_L3 (k:Int) rows t fuel (j:Int) = some (if (((rows.take k).drop j).all fun b => !sameU t.Unique a b) = true then .go () else .ret false)
  | n,0,j,_,hf => by omega
  | n,fuel + 1,j,hn,hf => by
    have hlt:=(List.getElem?_eq_some_iff.1 hk).1
    rw [spec_l05Unique_L3]
    cases n with
    | zero =>
      have:¬ ((j:Int) < (k:Int)):=by omega
      rw [if_neg (by simpa using this),List.drop_of_length_le (by simp; omega)]
      rfl
    | succ n =>
      have hj:j < k:=by omega
      obtain ⟨b,hb⟩:∃ b,rows[j]? = some b:=⟨rows[j]'(by omega),List.getElem?_eq_getElem (by omega)⟩
      have ed:(rows.take k).drop j = b :: (rows.take k).drop (j + 1):=by
        have:(rows.take k)[j]? = some b:=by rw [List.getElem?_take_of_lt hj]; exact hb
        obtain ⟨h1,h2⟩:=List.getElem?_eq_some_iff.1 this
        rw [List.drop_eq_getElem_cons h1,h2]
      have ew:w64 ((j:Int) + 1) = ((j + 1:Nat):Int):=by rw [w64_id (by omega)]; omega
      rw [if_pos (by simpa using hj),p_l05Unique_L4 rows k j a b hk hb t.Unique true (hr a (List.mem_of_getElem? hk)) (hr b (List.mem_of_getElem? hb)),Option.bind_some,ew,p_l05Unique_L3 rows t k a hk hr hl n fuel (j + 1) (by omega) (by omega),ed]
      simp only [List.all_cons,Bool.true_and]
      rcases Bool.eq_false_or_eq_true (sameU t.Unique a b) with hz1 | hz1 <;> simp [hz1]
theorem p_l05Unique_L2 (rows:List GRow) (t:GTable) (hr:∀ r ∈ rows,inU t.Unique r) (hl:rows.length ≤ 12) (hu:t.Unique ≠ []):∀ (n fuel k:Nat),n + k = rows.length → n < fuel → spec_l05Unique_L2 rows t fuel (k:Int) = some (if allI (alikeI t rows) (rows.drop k) k = true then .go () else .ret false)
  | n,0,k,_,hf => by omega
  | n,fuel + 1,k,hn,hf => by
    rw [spec_l05Unique_L2,Option.bind_some]
    have u1:decide ((t.Unique.length:Int) > 0) = true:=by
      have:t.Unique.length ≠ 0:=fun h => hu (List.length_eq_zero_iff.1 h)
      simp; omega
    cases n with
    | zero =>
      have:decide ((k:Int) < (rows.length:Int)) = false:=decide_eq_false (by omega)
      rw [this,List.drop_of_length_le (by omega)]
      rfl
    | succ n =>
      have hk:k < rows.length:=by omega
      have c1:decide ((k:Int) < (rows.length:Int)) = true:=decide_eq_true (by omega)
      obtain ⟨a,ha⟩:∃ a,rows[k]? = some a:=⟨rows[k],List.getElem?_eq_getElem hk⟩
      have ed:rows.drop k = a :: rows.drop (k + 1):=by
        rw [List.drop_eq_getElem_cons hk]; congr 1; exact (List.getElem?_eq_some_iff.1 ha).2
      have ew:w64 ((k:Int) + 1) = ((k + 1:Nat):Int):=by rw [w64_id (by omega)]; omega
      have hf':=fuel40
      have e3:=p_l05Unique_L3 rows t k a ha hr hl k FUEL 0 (by omega) (by omega)
      have e3':spec_l05Unique_L3 (k:Int) rows t FUEL 0 = _:=e3
      rw [c1,u1,show (bif true then true else false) = true from rfl,if_pos rfl,e3',ew,p_l05Unique_L2 rows t hr hl hu n fuel (k + 1) (by omega) (by omega),ed,List.drop_zero]
      simp only [allI,alikeI]
      rcases Bool.eq_false_or_eq_true (((rows.take k).all fun b => !sameU t.Unique a b)) with hz1 | hz1 <;> simp [hz1]
theorem p_l05Unique_L2' (rows:List GRow) (t:GTable) (hr:∀ r ∈ rows,inU t.Unique r) (hl:rows.length ≤ 12):spec_l05Unique_L2 rows t FUEL 0 = some (if uniB t rows = true then .go () else .ret false):=by
  have hf:=fuel40
  by_cases hu:t.Unique = []
  · obtain ⟨k,hk⟩:∃ k,FUEL = k + 1:=⟨FUEL - 1,by omega⟩
    rw [hk,spec_l05Unique_L2,Option.bind_some]
    unfold uniB
    rcases Bool.eq_false_or_eq_true (decide ((0:Int) < (rows.length:Int))) with hz1 | hz1 <;> simp [hz1,hu]
  · have e:=p_l05Unique_L2 rows t hr hl hu rows.length FUEL 0 (by omega) (by omega)
    have e':spec_l05Unique_L2 rows t FUEL 0 = _:=e
    rw [e']
    unfold uniB
    simp [hu]
theorem p_l05Unique_L1 {s:GSchema} {x:GStore} (h:StoreP s x):∀ (xs:List (List GRow)) (i:Nat),x.Tables.drop i = xs → spec_l05Unique_L1 s xs i = some (if allI (tabU x) (s.Tables.drop i) i = true then .go () else .ret false)
  | [],i,hd => by
    have:=h.len
    have:x.Tables.length ≤ i:=by simpa using hd
    rw [spec_l05Unique_L1,List.drop_of_length_le (by omega)]
    rfl
  | rows :: xs,i,hd => by
    have hlt:=drop_lt hd
    have hlen:=h.len
    have hi:x.Tables[i]? = some rows:=by have:=congrArg (·[0]?) hd; simpa using this
    obtain ⟨t,ht⟩:∃ t,s.Tables[i]? = some t:=⟨s.Tables[i]'(by omega),List.getElem?_eq_getElem (by omega)⟩
    have ed:s.Tables.drop i = t :: s.Tables.drop (i + 1):=by
      rw [List.drop_eq_getElem_cons (by omega)]; congr 1; exact (List.getElem?_eq_some_iff.1 ht).2
    rw [spec_l05Unique_L1,idx_nat,ht,Option.bind_some,p_l05Unique_L2' rows t (storeP_inu h ht hi) (h.ris rows (List.mem_of_getElem? hi)).2,p_l05Unique_L1 h xs (i + 1) (drop_next hd),ed]
    simp only [allI,tabU,hi]
    rcases Bool.eq_false_or_eq_true (uniB t rows) with hz1 | hz1 <;> simp [hz1]
theorem p_l09Commit {s:GSchema} {x:GStore} (h:StoreP s x):spec_l09Commit s x = some (if refsB s x = false then 13 else if unisB s x = false then 12 else 0):=by
  unfold spec_l09Commit spec_l05Refs spec_l05Unique
  rw [p_l05Refs_L1 s x h.len h.cols x.Tables 0 (by simp) h.ref (fun q t rows h1 h2 r hm => by rw [h.cell q t rows h1 h2 r hm]; omega),p_l05Unique_L1 h x.Tables 0 (by simp)]
  unfold refsB unisB
  simp only [List.drop_zero]
  rcases Bool.eq_false_or_eq_true (allI (tabR x s) s.Tables 0) with hz1 | hz1 <;> rcases Bool.eq_false_or_eq_true (allI (tabU x) s.Tables 0) with hz2 | hz2 <;> simp [hz1,hz2]
theorem p_CommitCode (s:GSchema) (x:GStore) (hs:∀ l ∈ x.Tables,∀ r ∈ l,smallC r):∃ o,impl_CommitCode s x = some o ∧ spec_CommitCode s x = some o:=by
  unfold impl_CommitCode spec_CommitCode
  rw [p_storeFits s x hs,p_sStoreFits]
  cases h:storeB s x with
  | false => exact ⟨_,rfl,rfl⟩
  | true =>
    rw [Option.bind_some,Option.bind_some,if_neg (by simp),if_neg (by simp),p_commitCode (storeB_P h),p_l09Commit (storeB_P h)]
    exact ⟨_,rfl,rfl⟩
theorem okStore_small {x:GStore} (h:okGStore x):∀ l ∈ x.Tables,∀ r ∈ l,smallC r:=fun l hl r hr => okRow_small ((h.1.2 l hl).2 r hr)
theorem law_FnExactCommitCode (s:GSchema) (x:GStore) (hs:okGSchema s) (hx:okGStore x):laws_FnExactCommitCode s x = some true:=by
  unfold laws_FnExactCommitCode
  obtain ⟨r,e,hr⟩:=p_szSchema s 1048576 (by omega) (by omega) hs
  rw [e,Option.bind_some]
  by_cases hn:r < 0
  · rw [if_pos (decide_eq_true hn)]
  rw [if_neg (by simpa using hn)]
  obtain ⟨a1,a2⟩:=hr.resolve_left hn
  obtain ⟨r2,e2,hr2⟩:=p_szStore x r (by omega) (by omega) hx
  rw [e2,Option.bind_some]
  by_cases hn2:r2 < 0
  · rw [if_pos (decide_eq_true hn2)]
  rw [if_neg (by simpa using hn2)]
  obtain ⟨b1,b2⟩:=hr2.resolve_left hn2
  have t1:=p_toSchema s (by omega)
  have t2:=p_toStore x (by omega)
  obtain ⟨⟨o,c⟩,f1,f2⟩:=p_CommitCode s x (okStore_small hx)
  simp only [t1,t2,Option.bind_some,f1,f2,p_eqSchema,p_eqStore,Bool.not_true,Bool.false_eq_true,if_false,bne_self_eq_false]
end Go.R
