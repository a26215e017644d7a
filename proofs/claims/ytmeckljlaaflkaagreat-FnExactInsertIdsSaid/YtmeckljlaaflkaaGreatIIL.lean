/- Plain laws of what this statement reaches. -/
import Derived.Test.YtmeckljlaaflkaaGreatIIH
import Derived.Test.YtmeckljlaaflkaaGreatP0
set_option linter.all false
namespace Go.R
open Go
set_option linter.all false
theorem p_slices_IndexFunc_impl_Cond_impl_Cond_L1 (f:GCond → Option Bool) (p:GCond → Bool):∀ (xs:List GCond) (i:Nat),(∀ x ∈ xs,f x = some (p x)) → slices_IndexFunc_impl_Cond_impl_Cond_L1 f xs i = some (match xs.findIdx? p with | some k => .ret ((i + k:Nat):Int) | none => .go ())
  | [],i,_ => by rw [slices_IndexFunc_impl_Cond_impl_Cond_L1]; rfl
  | x :: xs,i,h => by
    rw [slices_IndexFunc_impl_Cond_impl_Cond_L1,h x (by simp),Option.bind_some,p_slices_IndexFunc_impl_Cond_impl_Cond_L1 f p xs (i + 1) (fun y hy => h y (by simp [hy])),List.findIdx?_cons]
    cases hp:p x with
    | true => simp
    | false =>
      cases hq:xs.findIdx? p with
      | none => simp
      | some k => simp; omega
theorem p_slices_IndexFunc_impl_Cond_impl_Cond (f:GCond → Option Bool) (p:GCond → Bool) (xs:List GCond) (h:∀ x ∈ xs,f x = some (p x)):slices_IndexFunc_impl_Cond_impl_Cond xs f = some (match xs.findIdx? p with | some k => (k:Int) | none => -1):=by
  unfold slices_IndexFunc_impl_Cond_impl_Cond
  rw [p_slices_IndexFunc_impl_Cond_impl_Cond_L1 f p xs 0 h]
  cases hq:xs.findIdx? p with
  | none => rfl
  | some k => simp
theorem p_slices_IndexFunc_impl_Mut_impl_Mut_L1 (f:GMut → Option Bool) (p:GMut → Bool):∀ (xs:List GMut) (i:Nat),(∀ x ∈ xs,f x = some (p x)) → slices_IndexFunc_impl_Mut_impl_Mut_L1 f xs i = some (match xs.findIdx? p with | some k => .ret ((i + k:Nat):Int) | none => .go ())
  | [],i,_ => by rw [slices_IndexFunc_impl_Mut_impl_Mut_L1]; rfl
  | x :: xs,i,h => by
    rw [slices_IndexFunc_impl_Mut_impl_Mut_L1,h x (by simp),Option.bind_some,p_slices_IndexFunc_impl_Mut_impl_Mut_L1 f p xs (i + 1) (fun y hy => h y (by simp [hy])),List.findIdx?_cons]
    cases hp:p x with
    | true => simp
    | false =>
      cases hq:xs.findIdx? p with
      | none => simp
      | some k => simp; omega
theorem p_slices_IndexFunc_impl_Mut_impl_Mut (f:GMut → Option Bool) (p:GMut → Bool) (xs:List GMut) (h:∀ x ∈ xs,f x = some (p x)):slices_IndexFunc_impl_Mut_impl_Mut xs f = some (match xs.findIdx? p with | some k => (k:Int) | none => -1):=by
  unfold slices_IndexFunc_impl_Mut_impl_Mut
  rw [p_slices_IndexFunc_impl_Mut_impl_Mut_L1 f p xs 0 h]
  cases hq:xs.findIdx? p with
  | none => rfl
  | some k => simp
theorem p_slices_IndexFunc_impl_Op_impl_Op_L1 (f:GOp → Option Bool) (p:GOp → Bool):∀ (xs:List GOp) (i:Nat),(∀ x ∈ xs,f x = some (p x)) → slices_IndexFunc_impl_Op_impl_Op_L1 f xs i = some (match xs.findIdx? p with | some k => .ret ((i + k:Nat):Int) | none => .go ())
  | [],i,_ => by rw [slices_IndexFunc_impl_Op_impl_Op_L1]; rfl
  | x :: xs,i,h => by
    rw [slices_IndexFunc_impl_Op_impl_Op_L1,h x (by simp),Option.bind_some,p_slices_IndexFunc_impl_Op_impl_Op_L1 f p xs (i + 1) (fun y hy => h y (by simp [hy])),List.findIdx?_cons]
    cases hp:p x with
    | true => simp
    | false =>
      cases hq:xs.findIdx? p with
      | none => simp
      | some k => simp; omega
theorem p_slices_IndexFunc_impl_Op_impl_Op (f:GOp → Option Bool) (p:GOp → Bool) (xs:List GOp) (h:∀ x ∈ xs,f x = some (p x)):slices_IndexFunc_impl_Op_impl_Op xs f = some (match xs.findIdx? p with | some k => (k:Int) | none => -1):=by
  unfold slices_IndexFunc_impl_Op_impl_Op
  rw [p_slices_IndexFunc_impl_Op_impl_Op_L1 f p xs 0 h]
  cases hq:xs.findIdx? p with
  | none => rfl
  | some k => simp
theorem p_slices_IndexFunc_impl_Set_impl_Set_L1 (f:GSet → Option Bool) (p:GSet → Bool):∀ (xs:List GSet) (i:Nat),(∀ x ∈ xs,f x = some (p x)) → slices_IndexFunc_impl_Set_impl_Set_L1 f xs i = some (match xs.findIdx? p with | some k => .ret ((i + k:Nat):Int) | none => .go ())
  | [],i,_ => by rw [slices_IndexFunc_impl_Set_impl_Set_L1]; rfl
  | x :: xs,i,h => by
    rw [slices_IndexFunc_impl_Set_impl_Set_L1,h x (by simp),Option.bind_some,p_slices_IndexFunc_impl_Set_impl_Set_L1 f p xs (i + 1) (fun y hy => h y (by simp [hy])),List.findIdx?_cons]
    cases hp:p x with
    | true => simp
    | false =>
      cases hq:xs.findIdx? p with
      | none => simp
      | some k => simp; omega
theorem p_slices_IndexFunc_impl_Set_impl_Set (f:GSet → Option Bool) (p:GSet → Bool) (xs:List GSet) (h:∀ x ∈ xs,f x = some (p x)):slices_IndexFunc_impl_Set_impl_Set xs f = some (match xs.findIdx? p with | some k => (k:Int) | none => -1):=by
  unfold slices_IndexFunc_impl_Set_impl_Set
  rw [p_slices_IndexFunc_impl_Set_impl_Set_L1 f p xs 0 h]
  cases hq:xs.findIdx? p with
  | none => rfl
  | some k => simp
theorem p_slices_IndexFunc_string_string_L1 (f:Str → Option Bool) (p:Str → Bool):∀ (xs:List Str) (i:Nat),(∀ x ∈ xs,f x = some (p x)) → slices_IndexFunc_string_string_L1 f xs i = some (match xs.findIdx? p with | some k => .ret ((i + k:Nat):Int) | none => .go ())
  | [],i,_ => by rw [slices_IndexFunc_string_string_L1]; rfl
  | x :: xs,i,h => by
    rw [slices_IndexFunc_string_string_L1,h x (by simp),Option.bind_some,p_slices_IndexFunc_string_string_L1 f p xs (i + 1) (fun y hy => h y (by simp [hy])),List.findIdx?_cons]
    cases hp:p x with
    | true => simp
    | false =>
      cases hq:xs.findIdx? p with
      | none => simp
      | some k => simp; omega
theorem p_slices_IndexFunc_string_string (f:Str → Option Bool) (p:Str → Bool) (xs:List Str) (h:∀ x ∈ xs,f x = some (p x)):slices_IndexFunc_string_string xs f = some (match xs.findIdx? p with | some k => (k:Int) | none => -1):=by
  unfold slices_IndexFunc_string_string
  rw [p_slices_IndexFunc_string_string_L1 f p xs 0 h]
  cases hq:xs.findIdx? p with
  | none => rfl
  | some k => simp
theorem p_slices_ContainsFunc_impl_Cond_impl_Cond (f:GCond → Option Bool) (p:GCond → Bool) (xs:List GCond) (h:∀ x ∈ xs,f x = some (p x)):slices_ContainsFunc_impl_Cond_impl_Cond xs f = some (xs.any p):=by
  unfold slices_ContainsFunc_impl_Cond_impl_Cond
  rw [p_slices_IndexFunc_impl_Cond_impl_Cond f p xs h,Option.bind_some]
  cases hq:xs.findIdx? p with
  | none =>
    have:xs.any p = false:=by
      rw [List.any_eq_false]
      intro x hx
      have:=List.findIdx?_eq_none_iff.1 hq x hx
      simp [this]
    rw [this]; rfl
  | some k =>
    have:xs.any p = true:=by
      obtain ⟨x,hx,hp⟩:∃ x,x ∈ xs ∧ p x = true:=by
        have:=List.findIdx?_eq_some_iff_getElem.1 hq
        obtain ⟨hk,h1,_⟩:=this
        exact ⟨xs[k],List.getElem_mem _,h1⟩
      exact List.any_eq_true.2 ⟨x,hx,hp⟩
    rw [this]
    simp
theorem p_slices_ContainsFunc_impl_Mut_impl_Mut (f:GMut → Option Bool) (p:GMut → Bool) (xs:List GMut) (h:∀ x ∈ xs,f x = some (p x)):slices_ContainsFunc_impl_Mut_impl_Mut xs f = some (xs.any p):=by
  unfold slices_ContainsFunc_impl_Mut_impl_Mut
  rw [p_slices_IndexFunc_impl_Mut_impl_Mut f p xs h,Option.bind_some]
  cases hq:xs.findIdx? p with
  | none =>
    have:xs.any p = false:=by
      rw [List.any_eq_false]
      intro x hx
      have:=List.findIdx?_eq_none_iff.1 hq x hx
      simp [this]
    rw [this]; rfl
  | some k =>
    have:xs.any p = true:=by
      obtain ⟨x,hx,hp⟩:∃ x,x ∈ xs ∧ p x = true:=by
        have:=List.findIdx?_eq_some_iff_getElem.1 hq
        obtain ⟨hk,h1,_⟩:=this
        exact ⟨xs[k],List.getElem_mem _,h1⟩
      exact List.any_eq_true.2 ⟨x,hx,hp⟩
    rw [this]
    simp
theorem p_slices_ContainsFunc_impl_Op_impl_Op (f:GOp → Option Bool) (p:GOp → Bool) (xs:List GOp) (h:∀ x ∈ xs,f x = some (p x)):slices_ContainsFunc_impl_Op_impl_Op xs f = some (xs.any p):=by
  unfold slices_ContainsFunc_impl_Op_impl_Op
  rw [p_slices_IndexFunc_impl_Op_impl_Op f p xs h,Option.bind_some]
  cases hq:xs.findIdx? p with
  | none =>
    have:xs.any p = false:=by
      rw [List.any_eq_false]
      intro x hx
      have:=List.findIdx?_eq_none_iff.1 hq x hx
      simp [this]
    rw [this]; rfl
  | some k =>
    have:xs.any p = true:=by
      obtain ⟨x,hx,hp⟩:∃ x,x ∈ xs ∧ p x = true:=by
        have:=List.findIdx?_eq_some_iff_getElem.1 hq
        obtain ⟨hk,h1,_⟩:=this
        exact ⟨xs[k],List.getElem_mem _,h1⟩
      exact List.any_eq_true.2 ⟨x,hx,hp⟩
    rw [this]
    simp
theorem p_slices_ContainsFunc_impl_Set_impl_Set (f:GSet → Option Bool) (p:GSet → Bool) (xs:List GSet) (h:∀ x ∈ xs,f x = some (p x)):slices_ContainsFunc_impl_Set_impl_Set xs f = some (xs.any p):=by
  unfold slices_ContainsFunc_impl_Set_impl_Set
  rw [p_slices_IndexFunc_impl_Set_impl_Set f p xs h,Option.bind_some]
  cases hq:xs.findIdx? p with
  | none =>
    have:xs.any p = false:=by
      rw [List.any_eq_false]
      intro x hx
      have:=List.findIdx?_eq_none_iff.1 hq x hx
      simp [this]
    rw [this]; rfl
  | some k =>
    have:xs.any p = true:=by
      obtain ⟨x,hx,hp⟩:∃ x,x ∈ xs ∧ p x = true:=by
        have:=List.findIdx?_eq_some_iff_getElem.1 hq
        obtain ⟨hk,h1,_⟩:=this
        exact ⟨xs[k],List.getElem_mem _,h1⟩
      exact List.any_eq_true.2 ⟨x,hx,hp⟩
    rw [this]
    simp
theorem p_slices_ContainsFunc_string_string (f:Str → Option Bool) (p:Str → Bool) (xs:List Str) (h:∀ x ∈ xs,f x = some (p x)):slices_ContainsFunc_string_string xs f = some (xs.any p):=by
  unfold slices_ContainsFunc_string_string
  rw [p_slices_IndexFunc_string_string f p xs h,Option.bind_some]
  cases hq:xs.findIdx? p with
  | none =>
    have:xs.any p = false:=by
      rw [List.any_eq_false]
      intro x hx
      have:=List.findIdx?_eq_none_iff.1 hq x hx
      simp [this]
    rw [this]; rfl
  | some k =>
    have:xs.any p = true:=by
      obtain ⟨x,hx,hp⟩:∃ x,x ∈ xs ∧ p x = true:=by
        have:=List.findIdx?_eq_some_iff_getElem.1 hq
        obtain ⟨hk,h1,_⟩:=this
        exact ⟨xs[k],List.getElem_mem _,h1⟩
      exact List.any_eq_true.2 ⟨x,hx,hp⟩
    rw [this]
    simp
def charB (c:UInt8):Bool:=!(decide ((c.toNat:Int) < 32) || decide ((c.toNat:Int) > 126))
def textB (t:Str):Bool:=t.all charB && decide ((t.length:Int) ≤ 200)
theorem p_plain_L1:∀ t:Str,impl_isPlain_L1 t = some (if t.all charB = true then .go () else .ret false)
  | [] => by rw [impl_isPlain_L1]; simp
  | x :: xs => by
    rw [impl_isPlain_L1,p_plain_L1 xs]
    by_cases h1:(x.toNat:Int) < 32
    · simp [h1,charB]
    · by_cases h2:(x.toNat:Int) > 126
      · simp [h1,h2,charB]
      · simp [h1,h2,charB]
theorem p_plain (t:Str):impl_isPlain t = some (textB t):=by
  unfold impl_isPlain textB
  rw [p_plain_L1]
  by_cases h:t.all charB = true
  · simp only [h,if_pos,Option.bind_some,Bool.true_and]
  · simp only [h,Bool.not_eq_true] at h ⊢
    simp [h]
theorem p_within (n a b:Int):impl_within n a b = some (decide (a ≤ n ∧ n ≤ b)):=by
  unfold impl_within
  by_cases h:a ≤ n <;> simp [h]
theorem p_text_L1:∀ t:Str,spec_l01Text_L1 t = some (if t.all charB = true then .go () else .ret false)
  | [] => by rw [spec_l01Text_L1]; simp
  | x :: xs => by
    rw [spec_l01Text_L1,p_text_L1 xs]
    by_cases h1:(x.toNat:Int) < 32
    · simp [h1,charB]
    · by_cases h2:(x.toNat:Int) > 126
      · simp [h1,h2,charB]
      · simp [h1,h2,charB]
theorem p_text (t:Str):spec_l01Text t = some (textB t):=by
  unfold spec_l01Text textB
  rw [p_text_L1]
  by_cases h:t.all charB = true
  · simp only [h,if_pos,Option.bind_some,Bool.true_and]
  · simp only [h,Bool.not_eq_true] at h ⊢
    simp [h]
theorem p_in (n a b:Int):spec_l01In n a b = some (decide (a ≤ n ∧ n ≤ b)):=by
  unfold spec_l01In
  by_cases h:a ≤ n <;> simp [h]
theorem cmpB_range:∀ a b:Str,Lib.compareBytes a b = -1 ∨ Lib.compareBytes a b = 0 ∨ Lib.compareBytes a b = 1
  | [],[] => by simp [Lib.compareBytes]
  | [],_ :: _ => by simp [Lib.compareBytes]
  | _ :: _,[] => by simp [Lib.compareBytes]
  | a :: xs,b :: ys => by
    have:=cmpB_range xs ys
    unfold Lib.compareBytes
    split
    · simp
    · split
      · simp
      · exact this
theorem u8_tri (a b:UInt8):a < b ∨ a = b ∨ b < a:=by
  simp only [UInt8.lt_iff_toNat_lt,← UInt8.toNat_inj]
  omega
theorem u8_asym {a b:UInt8} (h:a < b):¬ b < a:=by
  simp only [UInt8.lt_iff_toNat_lt] at *
  omega
theorem cmpB_zero:∀ a b:Str,Lib.compareBytes a b = 0 ↔ a = b
  | [],[] => by simp [Lib.compareBytes]
  | [],_ :: _ => by simp [Lib.compareBytes]
  | _ :: _,[] => by simp [Lib.compareBytes]
  | a :: xs,b :: ys => by
    have ih:=cmpB_zero xs ys
    unfold Lib.compareBytes
    rcases u8_tri a b with h | h | h
    · have hne:a ≠ b:=by rintro rfl; exact UInt8.lt_irrefl _ h
      simp [h,hne]
    · subst h; simp [UInt8.lt_irrefl,ih]
    · have hne:a ≠ b:=by rintro rfl; exact UInt8.lt_irrefl _ h
      simp [h,u8_asym h,hne]
theorem cmpB_less:∀ a b:Str,Op.bytesLess a b = decide (Lib.compareBytes a b < 0)
  | [],[] => by simp [Lib.compareBytes,Op.bytesLess]
  | [],_ :: _ => by simp [Lib.compareBytes,Op.bytesLess]
  | _ :: _,[] => by simp [Lib.compareBytes,Op.bytesLess]
  | a :: xs,b :: ys => by
    have ih:=cmpB_less xs ys
    unfold Lib.compareBytes Op.bytesLess
    rcases u8_tri a b with h | h | h
    · simp [h]
    · subst h; simp [UInt8.lt_irrefl,ih]
    · have hne:¬ a = b:=by rintro rfl; exact UInt8.lt_irrefl _ h
      simp [h,u8_asym h,hne]
def ordA (a b:GAtom):Int:=if a.Kind ≠ b.Kind then (if a.Kind < b.Kind then -1 else 1) else if a.N ≠ b.N then (if a.N < b.N then -1 else 1) else Lib.compareBytes a.T b.T
theorem p_cmpInt (x y:Int):cmp_Compare_int x y = some (if x < y then -1 else if x > y then 1 else 0):=by
  unfold cmp_Compare_int cmp_isNaN_int
  by_cases h1:x < y <;> by_cases h2:x > y <;> simp [h1,h2]
theorem p_compareAtoms (a b:GAtom):impl_compareAtoms a b = some (ordA a b):=by
  unfold impl_compareAtoms strings_Compare internal_bytealg_CompareString cmp_Or_int
  simp only [p_cmpInt,Option.bind_some]
  unfold ordA
  by_cases h1:a.Kind = b.Kind
  · by_cases h2:a.N = b.N
    · have e1:(if a.Kind < b.Kind then (-1:Int) else if a.Kind > b.Kind then 1 else 0) = 0:=by rw [h1]; simp
      have e2:(if a.N < b.N then (-1:Int) else if a.N > b.N then 1 else 0) = 0:=by rw [h2]; simp
      rw [e1,e2]
      simp only [cmp_Or_int_L1,h1,h2]
      by_cases h3:Lib.compareBytes a.T b.T = 0
      · simp [h3]
      · simp [h3]
    · have e1:(if a.Kind < b.Kind then (-1:Int) else if a.Kind > b.Kind then 1 else 0) = 0:=by rw [h1]; simp
      rw [e1]
      rcases Int.lt_or_gt_of_ne h2 with h3 | h3
      · simp [cmp_Or_int_L1,h1,h2,h3]
      · have h4:¬ a.N < b.N:=by omega
        simp [cmp_Or_int_L1,h1,h2,h3,h4]
  · rcases Int.lt_or_gt_of_ne h1 with h3 | h3
    · simp [cmp_Or_int_L1,h1,h3]
    · have h4:¬ a.Kind < b.Kind:=by omega
      simp [cmp_Or_int_L1,h1,h3,h4]
theorem p_Order (a b:GAtom):spec_l03Order a b = some (ordA a b):=by
  unfold spec_l03Order spec_l01Bit ordA
  have w0:w64 (1 - w64 0) = 1:=by decide
  have w1:w64 (1 - w64 2) = -1:=by decide
  by_cases h1:a.Kind = b.Kind
  · by_cases h2:a.N = b.N
    · simp only [h1,h2,bne_self_eq_false,Bool.false_eq_true,if_false,ne_eq,not_true_eq_false,cmpB_less]
      by_cases h3:a.T = b.T
      · simp [h3,(cmpB_zero b.T b.T).2 rfl]
      · have hne:Lib.compareBytes a.T b.T ≠ 0:=fun h => h3 ((cmpB_zero _ _).1 h)
        rcases cmpB_range a.T b.T with h | h | h
        · simp [h3,h,w1]
        · exact absurd h hne
        · simp [h3,h,w0]
    · by_cases h3:a.N < b.N <;> simp [h1,h2,h3,w0,w1]
  · by_cases h3:a.Kind < b.Kind <;> simp [h1,h3,w0,w1]
def atomB (a:GAtom):Bool :=
  (decide (a.Kind = 1) && decide (-1000000000 ≤ a.N ∧ a.N ≤ 1000000000) && decide (a.T = [])) ||
  (decide (a.Kind = 2) && decide (a.N = 0) && textB a.T) ||
  (decide (a.Kind = 3) && decide (0 ≤ a.N ∧ a.N ≤ 1) && decide (a.T = [])) ||
  (decide (a.Kind = 4) && decide (1 ≤ a.N ∧ a.N ≤ 1000000) && decide (a.T = []))
theorem p_AtomOK (a:GAtom):impl_AtomOK a = some (atomB a):=by
  unfold impl_AtomOK impl_isNumber impl_isId atomB
  simp only [p_within,p_plain,Option.bind_some]
  by_cases h1:a.Kind = 1
  · simp only [h1]
    by_cases c:(-1000000000 ≤ a.N ∧ a.N ≤ 1000000000) <;> by_cases d:a.T = [] <;> simp [c,d]
  by_cases h2:a.Kind = 2
  · simp only [h2]
    by_cases c:a.N = 0 <;> simp [c]
  by_cases h3:a.Kind = 3
  · simp only [h3]
    by_cases c:(0 ≤ a.N ∧ a.N ≤ 1) <;> by_cases d:a.T = [] <;> simp [c,d]
  by_cases h4:a.Kind = 4
  · simp only [h4]
    by_cases c:(1 ≤ a.N ∧ a.N ≤ 1000000) <;> by_cases d:a.T = [] <;> simp [c,d]
  · simp [h1,h2,h3,h4]
def stepB (d:List GAtom) (q:Nat) (x:GAtom):Bool :=
  atomB x && (match d[0]? with | some h => x.Kind == h.Kind | none => false) && (q == 0 || match d[q - 1]? with | some y => decide (ordA y x < 0) | none => false)
def allS (d:List GAtom):List GAtom → Nat → Bool
  | [],_ => true
  | x :: xs,i => stepB d i x && allS d xs (i + 1)
def datB (d:List GAtom):Bool:=allS d d 0 && decide ((d.length:Int) ≤ 8)
theorem p_step (d:List GAtom) (i:Nat) (x:GAtom) (hi:i < d.length) (hl:d.length ≤ maxLen) (A:GAtom → Option Bool) (hA:∀ a,A a = some (atomB a)) (O:GAtom → GAtom → Option Int) (hO:∀ a b,O a b = some (ordA a b)) :
    ((A x).bind fun r_110 =>
    if (!r_110) then
    some true
    else
    (idx d 0).bind fun x_113 =>
    if (x.Kind != x_113.Kind) then
    some true
    else
    if (decide ((i:Int) > 0)) then
    (idx d (w64 ((i:Int) - 1))).bind fun x_117 =>
    (O x_117 x).bind fun r_119 =>
    some (decide (r_119 ≥ 0))
    else
    some false:Option Bool) = some (!stepB d i x):=by
  simp only [maxLen] at hl
  obtain ⟨h,hh⟩:∃ h,d[0]? = some h:=⟨d[0],List.getElem?_eq_getElem (by omega)⟩
  have e0:idx d 0 = some h:=by rw [show (0:Int) = ((0:Nat):Int) from rfl,idx_nat,hh]
  rw [hA,Option.bind_some,e0]
  unfold stepB
  rw [hh]
  by_cases ha:atomB x = true
  · by_cases hk:x.Kind = h.Kind
    · by_cases h0:i = 0
      · subst h0; simp [ha,hk]
      · obtain ⟨y,hy⟩:∃ y,d[i - 1]? = some y:=⟨d[i - 1],List.getElem?_eq_getElem (by omega)⟩
        have e1:w64 ((i:Int) - 1) = ((i - 1:Nat):Int):=by rw [w64_id (by omega)]; omega
        rw [e1,idx_nat,hy]
        have hp:0 < i:=by omega
        simp [ha,hk,h0,hO,hp]
        by_cases hc:ordA y x < 0
        · have:¬ 0 ≤ ordA y x:=by omega
          simp [hc,this,h0]
        · have:0 ≤ ordA y x:=by omega
          simp [hc,this,h0]
    · simp [ha,hk]
  · simp only [Bool.not_eq_true] at ha
    simp [ha]
theorem p_DatumOK_L1 (d:List GAtom) (hl:d.length ≤ maxLen):∀ (xs:List GAtom) (i:Nat),d.drop i = xs → impl_DatumOK_L1 d xs i = some (if allS d xs i = true then .go () else .ret false)
  | [],i,h => by rw [impl_DatumOK_L1]; simp [allS]
  | x :: xs,i,h => by
    rw [impl_DatumOK_L1,p_step d i x (drop_lt h) hl impl_AtomOK p_AtomOK impl_compareAtoms p_compareAtoms,Option.bind_some,p_DatumOK_L1 d hl xs (i + 1) (drop_next h)]
    cases hs:stepB d i x <;> simp [allS,hs]
theorem p_DatumOK (d:List GAtom) (hl:d.length ≤ maxLen):impl_DatumOK d = some (datB d):=by
  unfold impl_DatumOK datB
  rw [p_DatumOK_L1 d hl d 0 (by simp)]
  cases allS d d 0 <;> simp
theorem p_sAtomOK (a:GAtom):spec_AtomOK a = some (atomB a):=by
  unfold spec_AtomOK atomB
  simp only [p_in,p_text,Option.bind_some]
  by_cases h1:a.Kind = 1
  · simp only [h1]
    by_cases c:(-1000000000 ≤ a.N ∧ a.N ≤ 1000000000) <;> by_cases d:a.T = [] <;> simp [c,d]
  by_cases h2:a.Kind = 2
  · simp only [h2]
    by_cases c:a.N = 0 <;> simp [c]
  by_cases h3:a.Kind = 3
  · simp only [h3]
    by_cases c:(0 ≤ a.N ∧ a.N ≤ 1) <;> by_cases d:a.T = [] <;> simp [c,d]
  by_cases h4:a.Kind = 4
  · simp only [h4]
    by_cases c:(1 ≤ a.N ∧ a.N ≤ 1000000) <;> by_cases d:a.T = [] <;> simp [c,d]
  · simp [h1,h2,h3,h4]
theorem p_sDatumOK_L1 (d:List GAtom) (hl:d.length ≤ maxLen):∀ (xs:List GAtom) (i:Nat),d.drop i = xs → spec_DatumOK_L1 d xs i = some (if allS d xs i = true then .go () else .ret false)
  | [],i,h => by rw [spec_DatumOK_L1]; simp [allS]
  | x :: xs,i,h => by
    rw [spec_DatumOK_L1,p_step d i x (drop_lt h) hl spec_AtomOK p_sAtomOK spec_l03Order p_Order,Option.bind_some,p_sDatumOK_L1 d hl xs (i + 1) (drop_next h)]
    cases hs:stepB d i x <;> simp [allS,hs]
theorem p_sDatumOK (d:List GAtom):spec_DatumOK d = some (datB d):=by
  unfold spec_DatumOK datB
  by_cases h:(d.length:Int) > 4096
  · rw [if_pos (by simpa using h)]
    have:¬ (d.length:Int) ≤ 8:=by omega
    simp [this]
  · rw [if_neg (by simpa using h),p_sDatumOK_L1 d (by simp only [maxLen]; omega) d 0 (by simp)]
    cases allS d d 0 <;> simp
def isLet (c:Int):Bool:=(decide (97 ≤ c) && decide (c ≤ 122)) || (decide (65 ≤ c) && decide (c ≤ 90)) || c == 95
def isDig (c:Int):Bool:=decide (48 ≤ c) && decide (c ≤ 57)
theorem p_l00Letter (c:Int):spec_l00Letter c = some (isLet c):=by
  unfold spec_l00Letter isLet
  by_cases h1:97 ≤ c <;> by_cases h2:c ≤ 122 <;> by_cases h3:65 ≤ c <;> by_cases h4:c ≤ 90 <;> by_cases h5:c = 95 <;> simp [h1,h2,h3,h4,h5]
theorem p_l00Digit (c:Int):spec_l00Digit c = some (isDig c):=by
  unfold spec_l00Digit isDig
  by_cases h1:48 ≤ c <;> simp [h1]
theorem p_isDigit (c:Int):impl_isDigit c = some (isDig c):=by
  unfold impl_isDigit isDig
  by_cases h1:48 ≤ c <;> simp [h1]
def isWordC (b:UInt8):Bool:=isLet b.toNat || isDig b.toNat
def nameOK (t:Str):Bool:=decide (1 ≤ t.length) && decide (t.length ≤ 40) && isLet (t.headD 0).toNat && (t.drop 1).all isWordC
theorem p_l00Word_L1:∀ (t:Str),spec_l00Word_L1 t = some (if t.all isWordC then .go () else .ret false)
  | [] => by rw [spec_l00Word_L1]; rfl
  | c :: t => by
    rw [spec_l00Word_L1,p_l00Letter,Option.bind_some,p_l00Digit,p_l00Word_L1 t]
    cases h1:isLet (c.toNat:Int) <;> cases h2:isDig (c.toNat:Int) <;> simp [isWordC,h1,h2]
theorem p_l00Word (t:Str):spec_l00Word t = some (nameOK t):=by
  unfold spec_l00Word nameOK
  cases t with
  | nil => rfl
  | cons c t =>
    have e:idx (c :: t) 0 = some c:=rfl
    rw [e,Option.bind_some,p_l00Letter,Option.bind_some,p_l00Word_L1]
    have e1:decide (((c :: t).length:Int) < 1) = false:=decide_eq_false (by simp only [List.length_cons]; omega)
    have e2:decide (1 ≤ (c :: t).length) = true:=decide_eq_true (by simp only [List.length_cons]; omega)
    rw [e1,e2]
    by_cases h:(c :: t).length ≤ 40
    · have e3:decide (((c :: t).length:Int) > 40) = false:=decide_eq_false (by omega)
      have e4:decide ((c :: t).length ≤ 40) = true:=decide_eq_true h
      rw [e3,e4]
      cases h1:isLet (c.toNat:Int) <;> cases h3:t.all isWordC <;> simp [h1,h3]
    · have e3:decide (((c :: t).length:Int) > 40) = true:=decide_eq_true (by omega)
      have e4:decide ((c :: t).length ≤ 40) = false:=decide_eq_false h
      rw [e3,e4]
      simp
theorem p_specNameOK (t:Str):spec_NameOK t = some (nameOK t):=by
  unfold spec_NameOK
  rw [p_l00Word]; rfl
def nameC (p:UInt8 × Nat):Bool:=isLet p.1.toNat || (p.2 != 0 && isDig p.1.toNat)
theorem p_NameOK_L1:∀ (t:Str) (i:Nat),impl_NameOK_L1 t i = some (if (t.zipIdx i).all nameC then .go () else .ret false)
  | [],i => by rw [impl_NameOK_L1]; rfl
  | c :: t,i => by
    have e0:((i:Int) == 0) = (i == 0):=by cases i <;> simp; omega
    rw [impl_NameOK_L1,p_NameOK_L1 t (i + 1),List.zipIdx_cons,List.all_cons,p_isDigit,e0]
    unfold nameC isLet
    generalize (List.zipIdx t (i + 1)).all _ = A
    generalize isDig (c.toNat:Int) = D
    generalize (c.toNat:Int) = n
    by_cases h1:97 ≤ n <;> by_cases h2:n ≤ 122 <;> by_cases h3:65 ≤ n <;> by_cases h4:n ≤ 90 <;> by_cases h5:n = 95 <;> cases D <;> by_cases h0:i = 0 <;> simp [h1,h2,h3,h4,h5,h0]
theorem p_NameOK (t:Str):impl_NameOK t = some (nameOK t):=by
  unfold impl_NameOK nameOK
  rw [p_NameOK_L1,Option.bind_some]
  have hz:∀ (r:Str) (k:Nat),(r.zipIdx (k + 1)).all nameC = r.all isWordC:=by
    intro r
    induction r with
    | nil => intro k; rfl
    | cons c r ih => intro k; simp only [List.zipIdx_cons,List.all_cons,ih (k + 1)]; rfl
  cases t with
  | nil => simp [p_within]
  | cons c t =>
    rw [List.zipIdx_cons,List.all_cons,hz t 0]
    have hl:decide (1 ≤ (c :: t).length) = true:=decide_eq_true (by simp)
    have e:nameC (c,0) = isLet (c.toNat:Int):=by simp [nameC]
    rw [e,hl,p_within,Bool.decide_and]
    have e2:decide ((1:Int) ≤ ((c :: t).length:Int)) = true:=decide_eq_true (by simp only [List.length_cons]; omega)
    have e3:decide (((c :: t).length:Int) ≤ 40) = decide ((c :: t).length ≤ 40):=by rw [decide_eq_decide]; omega
    rw [e2,e3]
    show _ = some ((true && _ && isLet (c.toNat:Int)) && t.all isWordC)
    cases isLet (c.toNat:Int) <;> cases t.all isWordC <;> simp
theorem any_notB {α:Type} (p:α → Bool):∀ l:List α,(l.any fun x => !p x) = !l.all p
  | [] => rfl
  | x :: l => by simp only [List.any_cons,List.all_cons,any_notB p l,Bool.not_and]
def shortB (t:Str):Bool:=decide ((t.length:Int) ≤ 40)
theorem p_areShort (l:List Str):impl_areShort l = some (l.all shortB):=by
  unfold impl_areShort
  rw [p_slices_ContainsFunc_string_string _ (fun t => !shortB t) l (fun x _ => by unfold impl_areShort_1 shortB; congr 1; rw [Bool.eq_iff_iff]; simp),Option.bind_some,List.not_any_eq_all_not]
  simp
def condB (c:GCond):Bool:=decide (1 ≤ c.Func ∧ c.Func ≤ 8) && datB c.Value && shortB c.Column
def mutB (c:GMut):Bool:=decide (1 ≤ c.Func ∧ c.Func ≤ 7) && datB c.Value && shortB c.Column
def setB (x:GSet):Bool:=shortB x.Column && datB x.Value && (x.Names.all nameOK && decide ((x.Names.length:Int) ≤ 8)) && (decide (x.Names = []) || decide (x.Value = []))
theorem p_condOK (c:GCond) (h:c.Value.length ≤ maxLen):impl_condOK c = some (condB c):=by
  unfold impl_condOK condB
  rw [p_within,Option.bind_some,p_DatumOK _ h,Option.bind_some,p_areShort,Option.bind_some]
  by_cases h1:(1 ≤ c.Func ∧ c.Func ≤ 8) <;> cases h2:datB c.Value <;> simp [h1]
theorem p_l06OK (c:GCond):spec_l06OK c = some (condB c):=by
  unfold spec_l06OK condB shortB
  rw [p_in,Option.bind_some,p_sDatumOK,Option.bind_some]
  by_cases h1:(1 ≤ c.Func ∧ c.Func ≤ 8) <;> cases h2:datB c.Value <;> simp [h1]
theorem p_mutOK (c:GMut) (h:c.Value.length ≤ maxLen):impl_mutOK c = some (mutB c):=by
  unfold impl_mutOK mutB
  rw [p_within,Option.bind_some,p_DatumOK _ h,Option.bind_some,p_areShort,Option.bind_some]
  by_cases h1:(1 ≤ c.Func ∧ c.Func ≤ 7) <;> cases h2:datB c.Value <;> simp [h1]
theorem p_l07OK (c:GMut):spec_l07OK c = some (mutB c):=by
  unfold spec_l07OK mutB shortB
  rw [p_in,Option.bind_some,p_sDatumOK,Option.bind_some]
  by_cases h1:(1 ≤ c.Func ∧ c.Func ≤ 7) <;> cases h2:datB c.Value <;> simp [h1]
theorem p_l06List_L1:∀ l:List GCond,spec_l06List_L1 l = some (if l.all condB = true then .go () else .ret false)
  | [] => by rw [spec_l06List_L1]; simp
  | x :: xs => by
    rw [spec_l06List_L1,p_l06OK,Option.bind_some,p_l06List_L1 xs]
    cases h:condB x <;> simp [h]
theorem p_l06List (l:List GCond):spec_l06List l = some (l.all condB && decide ((l.length:Int) ≤ 8)):=by
  unfold spec_l06List
  rw [p_l06List_L1]
  cases l.all condB <;> simp
theorem p_l07List_L1:∀ l:List GMut,spec_l07List_L1 l = some (if l.all mutB = true then .go () else .ret false)
  | [] => by rw [spec_l07List_L1]; simp
  | x :: xs => by
    rw [spec_l07List_L1,p_l07OK,Option.bind_some,p_l07List_L1 xs]
    cases h:mutB x <;> simp [h]
theorem p_l07List (l:List GMut):spec_l07List l = some (l.all mutB && decide ((l.length:Int) ≤ 8)):=by
  unfold spec_l07List
  rw [p_l07List_L1]
  cases l.all mutB <;> simp
theorem p_l08Names_L1:∀ l:List Str,spec_l08Names_L1 l = some (if l.all nameOK = true then .go () else .ret false)
  | [] => by rw [spec_l08Names_L1]; simp
  | x :: xs => by
    rw [spec_l08Names_L1,p_specNameOK,Option.bind_some,p_l08Names_L1 xs]
    cases h:nameOK x <;> simp [h]
theorem p_l08Names (l:List Str):spec_l08Names l = some (l.all nameOK && decide ((l.length:Int) ≤ 8)):=by
  unfold spec_l08Names
  rw [p_l08Names_L1]
  cases l.all nameOK <;> simp
theorem p_l08Set (x:GSet):spec_l08Set x = some (setB x):=by
  unfold spec_l08Set setB shortB
  rw [p_sDatumOK,Option.bind_some,p_l08Names,Option.bind_some]
  by_cases h1:(x.Column.length:Int) ≤ 40 <;> cases h2:datB x.Value <;> cases h3:(x.Names.all nameOK && decide ((x.Names.length:Int) ≤ 8)) <;> by_cases h4:x.Names = [] <;> by_cases h5:x.Value = [] <;> simp [h1,h4,h5]
theorem p_setOK (x:GSet) (h:x.Value.length ≤ maxLen):impl_setOK x = some (setB x):=by
  unfold impl_setOK setB
  rw [p_areShort,Option.bind_some,p_DatumOK _ h,Option.bind_some,p_slices_ContainsFunc_string_string _ (fun t => !nameOK t) x.Names (fun y _ => by unfold impl_setOK_1; rw [p_NameOK]; rfl),Option.bind_some,List.not_any_eq_all_not]
  have e:([x.Column].all shortB) = shortB x.Column:=by simp
  have e2:(x.Names.all fun a => !!nameOK a) = x.Names.all nameOK:=by simp
  rw [e,e2]
  have e3:decide ((x.Names.length:Int) ≤ 8) = !decide ((x.Names.length:Int) > 8):=by rw [Bool.eq_iff_iff]; simp
  rw [e3]
  cases h1:shortB x.Column <;> cases h2:datB x.Value <;> cases h3:x.Names.all nameOK <;> cases h6:decide ((x.Names.length:Int) > 8) <;> by_cases h4:x.Names = [] <;> by_cases h5:x.Value = [] <;> simp [h4,h5,List.length_pos_iff]
theorem p_condsOK (l:List GCond) (h:∀ c ∈ l,c.Value.length ≤ maxLen):impl_condsOK l = some (l.all condB && decide ((l.length:Int) ≤ 8)):=by
  unfold impl_condsOK
  rw [p_slices_ContainsFunc_impl_Cond_impl_Cond _ (fun t => !condB t) l (fun x hx => by unfold impl_condsOK_1; rw [p_condOK x (h x hx)]; rfl),Option.bind_some,List.not_any_eq_all_not]
  have e2:(l.all fun a => !!condB a) = l.all condB:=by simp
  rw [e2]
  by_cases c:(l.length:Int) ≤ 8 <;> simp [c]
theorem p_mutsOK (l:List GMut) (h:∀ c ∈ l,c.Value.length ≤ maxLen):impl_mutsOK l = some (l.all mutB && decide ((l.length:Int) ≤ 8)):=by
  unfold impl_mutsOK
  rw [p_slices_ContainsFunc_impl_Mut_impl_Mut _ (fun t => !mutB t) l (fun x hx => by unfold impl_mutsOK_1; rw [p_mutOK x (h x hx)]; rfl),Option.bind_some,List.not_any_eq_all_not]
  have e2:(l.all fun a => !!mutB a) = l.all mutB:=by simp
  rw [e2]
  by_cases c:(l.length:Int) ≤ 8 <;> simp [c]
theorem p_setsOK (l:List GSet) (h:∀ c ∈ l,c.Value.length ≤ maxLen):impl_setsOK l = some (l.all setB && decide ((l.length:Int) ≤ 6)):=by
  unfold impl_setsOK
  rw [p_slices_ContainsFunc_impl_Set_impl_Set _ (fun t => !setB t) l (fun x hx => by unfold impl_setsOK_1; rw [p_setOK x (h x hx)]; rfl),Option.bind_some,List.not_any_eq_all_not]
  have e2:(l.all fun a => !!setB a) = l.all setB:=by simp
  rw [e2]
  by_cases c:(l.length:Int) ≤ 6 <;> simp [c]
theorem p_OpOK_L1:∀ l:List GSet,spec_OpOK_L1 l = some (if l.all setB = true then .go () else .ret false)
  | [] => by rw [spec_OpOK_L1]; simp
  | x :: xs => by
    rw [spec_OpOK_L1,p_l08Set,Option.bind_some,p_OpOK_L1 xs]
    cases h:setB x <;> simp [h]
theorem p_OpOK_L2:∀ l:List Str,spec_OpOK_L2 l = some (if l.all shortB = true then .go () else .ret false)
  | [] => by rw [spec_OpOK_L2]; simp
  | x :: xs => by
    rw [spec_OpOK_L2,p_OpOK_L2 xs]
    by_cases h:(x.length:Int) > 40
    · have:¬ (x.length:Int) ≤ 40:=by omega
      simp [h,shortB,this]
    · have:(x.length:Int) ≤ 40:=by omega
      simp [h,shortB,this]
def useB (o:GOp):Bool :=
  decide (1 ≤ o.Kind ∧ o.Kind ≤ 10) && (decide (1 ≤ o.Kind ∧ o.Kind ≤ 6) || decide (o.Table = [])) && (decide (2 ≤ o.Kind ∧ o.Kind ≤ 6) || decide (o.Where = [])) && (decide (o.Kind = 1) || decide (o.Kind ≥ 9) || decide (o.Name = [])) && (decide (o.Kind = 1) || decide (o.Kind = 3) || decide (o.Kind = 6) || decide (o.Row = [])) && (decide (o.Kind = 4) || decide (o.Muts = [])) && (decide (o.Kind = 2) || decide (o.Columns = [])) && (decide (o.Kind = 6) || !o.Until)
theorem kinds (k:Int):k = 1 ∨ k = 2 ∨ k = 3 ∨ k = 4 ∨ k = 5 ∨ k = 6 ∨ k = 7 ∨ k = 8 ∨ k = 9 ∨ k = 10 ∨ ¬ (1 ≤ k ∧ k ≤ 10):=by omega
set_option maxHeartbeats 8000000 in
theorem p_isUnused (o:GOp):impl_Op_isUnused o = some (useB o):=by
  unfold impl_Op_isUnused useB
  rcases kinds o.Kind with h | h | h | h | h | h | h | h | h | h | h
  all_goals try (simp only [h]; by_cases h1:o.Name = [] <;> by_cases h2:o.Where = [] <;> by_cases h3:o.Row = [] <;> by_cases h4:o.Muts = [] <;> by_cases h5:o.Columns = [] <;> by_cases h6:o.Table = [] <;> simp [h1,h2,h3,h4,h5,h6]; done)
  have e1:¬ o.Kind = 1:=by omega
  have e2:¬ o.Kind = 2:=by omega
  have e3:¬ o.Kind = 3:=by omega
  have e4:¬ o.Kind = 4:=by omega
  have e5:¬ o.Kind = 5:=by omega
  have e6:¬ o.Kind = 6:=by omega
  have e7:¬ o.Kind = 7:=by omega
  have e8:¬ o.Kind = 8:=by omega
  have e9:¬ o.Kind = 9:=by omega
  have e10:¬ o.Kind = 10:=by omega
  simp [e1,e2,e3,e4,e5,e6,e7,e8,e9,e10,h]
def opB (o:GOp):Bool:=useB o && (shortB o.Table && shortB o.Name) && decide ((o.Columns.length:Int) ≤ 6) && o.Columns.all shortB && (o.Where.all condB && decide ((o.Where.length:Int) ≤ 8)) && (o.Muts.all mutB && decide ((o.Muts.length:Int) ≤ 8)) && (o.Row.all setB && decide ((o.Row.length:Int) ≤ 6))
structure OpLen (o:GOp):Prop where
  w:∀ c ∈ o.Where,c.Value.length ≤ maxLen
  m:∀ c ∈ o.Muts,c.Value.length ≤ maxLen
  r:∀ c ∈ o.Row,c.Value.length ≤ maxLen
theorem p_OpOK (o:GOp) (h:OpLen o):impl_OpOK o = some (opB o):=by
  unfold impl_OpOK opB
  rw [p_isUnused,Option.bind_some,p_areShort,Option.bind_some,p_areShort,Option.bind_some,p_condsOK _ h.w,Option.bind_some,p_mutsOK _ h.m,Option.bind_some,p_setsOK _ h.r,Option.bind_some]
  have e:([o.Table,o.Name].all shortB) = (shortB o.Table && shortB o.Name):=by simp
  rw [e]
  cases useB o <;> cases (shortB o.Table && shortB o.Name) <;> cases decide ((o.Columns.length:Int) ≤ 6) <;> cases o.Columns.all shortB <;> cases (o.Where.all condB && decide ((o.Where.length:Int) ≤ 8)) <;> cases (o.Muts.all mutB && decide ((o.Muts.length:Int) ≤ 8)) <;> simp
set_option maxHeartbeats 8000000 in
theorem p_sOpOK (o:GOp):spec_OpOK o = some (opB o):=by
  unfold spec_OpOK opB
  simp only [p_in,p_l06List,p_l07List,Option.bind_some,p_OpOK_L1,p_OpOK_L2]
  generalize (o.Where.all condB && decide ((o.Where.length:Int) ≤ 8)) = W
  generalize (o.Muts.all mutB && decide ((o.Muts.length:Int) ≤ 8)) = M
  generalize o.Row.all setB = R
  generalize o.Columns.all shortB = S
  by_cases hk:1 ≤ o.Kind ∧ o.Kind ≤ 10
  · by_cases ht:(o.Table.length:Int) ≤ 40
    · by_cases hn:(o.Name.length:Int) ≤ 40
      · have ht':¬ (40:Int) < (o.Table.length:Int):=by omega
        have hn':¬ (40:Int) < (o.Name.length:Int):=by omega
        cases W with
        | false => simp [hk,ht',hn']
        | true =>
          cases M with
          | false => simp [hk,ht',hn']
          | true =>
            by_cases hr:(o.Row.length:Int) ≤ 6
            · by_cases hc:(o.Columns.length:Int) ≤ 6
              · have hr':¬ (6:Int) < (o.Row.length:Int):=by omega
                have hc':¬ (6:Int) < (o.Columns.length:Int):=by omega
                cases R with
                | false => simp [hk,ht',hn',hr',hc']
                | true =>
                  cases S with
                  | false => simp [hk,ht',hn',hr',hc']
                  | true =>
                    have e:(useB o && (shortB o.Table && shortB o.Name) && decide ((o.Columns.length:Int) ≤ 6) && true && true && true && (true && decide ((o.Row.length:Int) ≤ 6))) = useB o:=by simp [shortB,ht,hn,hr,hc]
                    rw [e]
                    simp only [hk,ht',hn',hr',hc',gt_iff_lt,and_self,decide_true,decide_false,Bool.not_true,Bool.false_eq_true,if_false,if_true,Option.bind_some]
                    unfold useB
                    rcases kinds o.Kind with h | h | h | h | h | h | h | h | h | h | h
                    all_goals try (simp only [h]; by_cases h1:o.Name = [] <;> by_cases h2:o.Where = [] <;> by_cases h3:o.Row = [] <;> by_cases h4:o.Muts = [] <;> by_cases h5:o.Columns = [] <;> by_cases h6:o.Table = [] <;> simp [h1,h2,h3,h4,h5,h6]; done)
                    exact absurd hk h
              · have hc':(6:Int) < (o.Columns.length:Int):=by omega
                have hr':¬ (6:Int) < (o.Row.length:Int):=by omega
                simp [hk,ht',hn',hr',hc',hc]
            · have hr':(6:Int) < (o.Row.length:Int):=by omega
              simp [hk,ht',hn',hr',hr]
      · have ht':¬ (40:Int) < (o.Table.length:Int):=by omega
        have hn':(40:Int) < (o.Name.length:Int):=by omega
        simp [hk,ht',hn',shortB,hn]
    · have ht':(40:Int) < (o.Table.length:Int):=by omega
      simp [hk,ht',shortB,ht]
  · have:useB o = false:=by unfold useB; simp [hk]
    rw [this]
    simp [hk]
theorem okOp_len {o:GOp} (h:okGOp o):OpLen o:=by
  obtain ⟨_,_,_,hw,hr,hm,_,_⟩:=h
  exact ⟨fun c hc => (hw.2 c hc).2.2.1,fun c hc => (hm.2 c hc).2.2.1,fun c hc => (hr.2 c hc).2.1.1⟩
def opsI (l:List GOp):Int:=if (l.length:Int) > 8 then 6 else if l.all opB = true then 0 else 1
theorem p_opsCode (l:List GOp) (h:∀ o ∈ l,OpLen o):impl_opsCode l = some (opsI l):=by
  unfold impl_opsCode opsI
  rw [p_slices_ContainsFunc_impl_Op_impl_Op _ (fun o => !opB o) l (fun o ho => by unfold impl_opsCode_1; rw [p_OpOK o (h o ho)]; rfl),any_notB]
  by_cases c:(l.length:Int) > 8
  · simp [c]
  · cases l.all opB <;> simp [c]
theorem p_l09Ops_L1:∀ l:List GOp,spec_l09Ops_L1 l = some (if l.all opB = true then .go () else .ret 1)
  | [] => by rw [spec_l09Ops_L1]; rfl
  | x :: l => by
    rw [spec_l09Ops_L1,p_sOpOK,Option.bind_some,p_l09Ops_L1 l,List.all_cons]
    cases opB x <;> simp
theorem p_l09Ops (l:List GOp):spec_l09Ops l = some (opsI l):=by
  unfold spec_l09Ops opsI
  rw [p_l09Ops_L1]
  by_cases c:(l.length:Int) > 8
  · simp [c]
  · cases l.all opB <;> simp [c]
def idsL:List GOp → Int → List Int
  | [],_ => []
  | o :: l,n => if o.Kind = 1 then n :: idsL l (w64 (n + 1)) else 0 :: idsL l n
theorem idsL_len:∀ (l:List GOp) (n:Int),(idsL l n).length = l.length
  | [],_ => rfl
  | o :: l,n => by
    rw [idsL]
    split <;> simp [idsL_len l]
theorem p_iIds_L1:∀ (l:List GOp) (n:Int) (out:List Int),out.length + l.length ≤ 1000 → impl_insertIds_L1 l n out = some (out ++ idsL l n)
  | [],n,out,_ => by rw [impl_insertIds_L1]; simp [idsL]
  | o :: l,n,out,h => by
    simp only [List.length_cons] at h
    rw [impl_insertIds_L1,idsL]
    by_cases c:o.Kind = 1
    · rw [if_pos (by simpa using c),if_pos c]
      simp only [Option.bind_some]
      rw [if_pos (by simp; omega),p_iIds_L1 l _ _ (by simp; omega)]
      simp
    · rw [if_neg (by simpa using c),if_neg c]
      simp only [Option.bind_some]
      rw [if_pos (by simp; omega),p_iIds_L1 l _ _ (by simp; omega)]
      simp
theorem p_sIds_L1:∀ (l:List GOp) (n:Int) (out:List Int),out.length + l.length ≤ 1000 → spec_l09Ids_L1 l n out = some (out ++ idsL l n)
  | [],n,out,_ => by rw [spec_l09Ids_L1]; simp [idsL]
  | o :: l,n,out,h => by
    simp only [List.length_cons] at h
    rw [spec_l09Ids_L1,idsL]
    by_cases c:o.Kind = 1
    · rw [if_pos (by simpa using c),if_pos c,if_pos (by simp; omega),p_sIds_L1 l _ _ (by simp; omega)]
      simp
    · rw [if_neg (by simpa using c),if_neg c,if_pos (by simp; omega),p_sIds_L1 l _ _ (by simp; omega)]
      simp
theorem p_InsertIds (l:List GOp) (n:Int) (h:∀ o ∈ l,OpLen o):∃ o c,impl_InsertIds l n = some (o,c) ∧ spec_InsertIds l n = some (o,c) ∧ o.length ≤ 8:=by
  unfold impl_InsertIds spec_InsertIds impl_isList_impl_Op impl_isId impl_insertIds spec_l09Ids
  rw [p_opsCode l h,p_l09Ops,p_within,p_in]
  by_cases c:(l.length:Int) > 4096
  · have c':¬ (l.length:Int) ≤ 4096:=by omega
    exact ⟨[],2,by simp [c'],by simp [c],by simp⟩
  · have c':(l.length:Int) ≤ 4096:=by omega
    by_cases k:opsI l = 0
    · have h8:l.length ≤ 8:=by
        unfold opsI at k
        split at k
        · cases k
        · omega
      rw [p_iIds_L1 l n [] (by simp; omega),p_sIds_L1 l n [] (by simp; omega)]
      by_cases q:1 ≤ n ∧ n ≤ 1000000
      · exact ⟨idsL l n,0,by simp [c',k,q],by simp [c,k,q],by rw [idsL_len]; exact h8⟩
      · exact ⟨[],4,by simp [c',k,q],by simp [c,k,q],by simp⟩
    · exact ⟨[],opsI l,by simp [c',k],by simp [c,k],by simp⟩
theorem law_FnExactInsertIds (l:List GOp) (n:Int) (h:okL okGOp l) (hn:okI .i64 n):laws_FnExactInsertIds l n = some true:=by
  unfold laws_FnExactInsertIds
  obtain ⟨r,e,hr⟩:=p_szOpS l 1048576 (by omega) (by omega) h
  rw [e,Option.bind_some]
  split
  · rfl
  · rename_i hn
    simp only [decide_eq_true_eq] at hn
    obtain ⟨h1,h2⟩:=hr.resolve_left hn
    have hw:wtOpS l ≤ 1048576:=by omega
    have et:=p_toOpS l (by omega)
    obtain ⟨o,c,e1,e2,k1⟩:=p_InsertIds l n (fun o ho => okOp_len (h.2 o ho))
    have q1:=cnt_wtOpS l
    have m1:=p_markOpS l 1 (fit_wtOpS l (by omega)) (by omega) (by omega)
    have hwo:wtIntS o ≤ 100:=by unfold wtIntS; omega
    have q2:=cnt_wtIntS o
    have m2:=p_markIntS o 1 (fit_wtIntS o (by omega)) (by omega) (by omega)
    have m3:=p_heldIntS o 1 (fit_wtIntS o (by omega)) (by omega) (by omega)
    have n1:decide ((1:Int) + (cntOpS l:Nat) < 0) = false:=decide_eq_false (by omega)
    have n2:decide ((1:Int) + (cntIntS o:Nat) < 0) = false:=decide_eq_false (by omega)
    simp only [et,Option.bind_some,e1,e2,p_eqIntS,p_eqOpS,m1,m2,m3,n1,n2,Bool.not_true,Bool.false_eq_true,if_false,bne_self_eq_false,cond_false]
end Go.R
