/- Plain laws of what this statement reaches. -/
import Derived.Test.YtmeckljlaaflkaaPCH
import Derived.Test.YtmeckljlaaflkaaP0
set_option linter.all false
namespace Go.R
open Go
set_option linter.all false
theorem p_slices_IndexFunc_impl_Column_impl_Column_L1 (f:GColumn → Option Bool) (p:GColumn → Bool):∀ (xs:List GColumn) (i:Nat),(∀ x ∈ xs,f x = some (p x)) → slices_IndexFunc_impl_Column_impl_Column_L1 f xs i = some (match xs.findIdx? p with | some k => .ret ((i + k:Nat):Int) | none => .go ())
  | [],i,_ => by rw [slices_IndexFunc_impl_Column_impl_Column_L1]; rfl
  | x :: xs,i,h => by
    rw [slices_IndexFunc_impl_Column_impl_Column_L1,h x (by simp),Option.bind_some,p_slices_IndexFunc_impl_Column_impl_Column_L1 f p xs (i + 1) (fun y hy => h y (by simp [hy])),List.findIdx?_cons]
    cases hp:p x with
    | true => simp
    | false =>
      cases hq:xs.findIdx? p with
      | none => simp
      | some k => simp; omega
theorem p_slices_IndexFunc_impl_Column_impl_Column (f:GColumn → Option Bool) (p:GColumn → Bool) (xs:List GColumn) (h:∀ x ∈ xs,f x = some (p x)):slices_IndexFunc_impl_Column_impl_Column xs f = some (match xs.findIdx? p with | some k => (k:Int) | none => -1):=by
  unfold slices_IndexFunc_impl_Column_impl_Column
  rw [p_slices_IndexFunc_impl_Column_impl_Column_L1 f p xs 0 h]
  cases hq:xs.findIdx? p with
  | none => rfl
  | some k => simp
def charB (c:UInt8):Bool:=!(decide ((c.toNat:Int) < 32) || decide ((c.toNat:Int) > 126))
def textB (t:Str):Bool:=t.all charB && decide ((t.length:Int) ≤ 200)
theorem p_plain_L1:∀ t:Str,impl_isPlain_L1 t = some (if t.all charB = true then .go () else .ret false)
  | [] => by rw [impl_isPlain_L1]; simp
  | x :: xs => by
    rw [impl_isPlain_L1,p_plain_L1 xs]
    by_cases h1:(x.toNat:Int) < 32
    · simp [h1,charB]
    · by_cases h2:(x.toNat:Int) > 126
      · simp [h1,h2,charB]
      · simp [h1,h2,charB]
theorem p_plain (t:Str):impl_isPlain t = some (textB t):=by
  unfold impl_isPlain textB
  rw [p_plain_L1]
  by_cases h:t.all charB = true
  · simp only [h,if_pos,Option.bind_some,Bool.true_and]
  · simp only [h,Bool.not_eq_true] at h ⊢
    simp [h]
theorem p_within (n a b:Int):impl_within n a b = some (decide (a ≤ n ∧ n ≤ b)):=by
  unfold impl_within
  by_cases h:a ≤ n <;> simp [h]
theorem p_text_L1:∀ t:Str,spec_l01Text_L1 t = some (if t.all charB = true then .go () else .ret false)
  | [] => by rw [spec_l01Text_L1]; simp
  | x :: xs => by
    rw [spec_l01Text_L1,p_text_L1 xs]
    by_cases h1:(x.toNat:Int) < 32
    · simp [h1,charB]
    · by_cases h2:(x.toNat:Int) > 126
      · simp [h1,h2,charB]
      · simp [h1,h2,charB]
theorem p_text (t:Str):spec_l01Text t = some (textB t):=by
  unfold spec_l01Text textB
  rw [p_text_L1]
  by_cases h:t.all charB = true
  · simp only [h,if_pos,Option.bind_some,Bool.true_and]
  · simp only [h,Bool.not_eq_true] at h ⊢
    simp [h]
theorem p_in (n a b:Int):spec_l01In n a b = some (decide (a ≤ n ∧ n ≤ b)):=by
  unfold spec_l01In
  by_cases h:a ≤ n <;> simp [h]
theorem cmpB_range:∀ a b:Str,Lib.compareBytes a b = -1 ∨ Lib.compareBytes a b = 0 ∨ Lib.compareBytes a b = 1
  | [],[] => by simp [Lib.compareBytes]
  | [],_ :: _ => by simp [Lib.compareBytes]
  | _ :: _,[] => by simp [Lib.compareBytes]
  | a :: xs,b :: ys => by
    have:=cmpB_range xs ys
    unfold Lib.compareBytes
    split
    · simp
    · split
      · simp
      · exact this
theorem u8_tri (a b:UInt8):a < b ∨ a = b ∨ b < a:=by
  simp only [UInt8.lt_iff_toNat_lt,← UInt8.toNat_inj]
  omega
theorem u8_asym {a b:UInt8} (h:a < b):¬ b < a:=by
  simp only [UInt8.lt_iff_toNat_lt] at *
  omega
theorem cmpB_zero:∀ a b:Str,Lib.compareBytes a b = 0 ↔ a = b
  | [],[] => by simp [Lib.compareBytes]
  | [],_ :: _ => by simp [Lib.compareBytes]
  | _ :: _,[] => by simp [Lib.compareBytes]
  | a :: xs,b :: ys => by
    have ih:=cmpB_zero xs ys
    unfold Lib.compareBytes
    rcases u8_tri a b with h | h | h
    · have hne:a ≠ b:=by rintro rfl; exact UInt8.lt_irrefl _ h
      simp [h,hne]
    · subst h; simp [UInt8.lt_irrefl,ih]
    · have hne:a ≠ b:=by rintro rfl; exact UInt8.lt_irrefl _ h
      simp [h,u8_asym h,hne]
theorem cmpB_less:∀ a b:Str,Op.bytesLess a b = decide (Lib.compareBytes a b < 0)
  | [],[] => by simp [Lib.compareBytes,Op.bytesLess]
  | [],_ :: _ => by simp [Lib.compareBytes,Op.bytesLess]
  | _ :: _,[] => by simp [Lib.compareBytes,Op.bytesLess]
  | a :: xs,b :: ys => by
    have ih:=cmpB_less xs ys
    unfold Lib.compareBytes Op.bytesLess
    rcases u8_tri a b with h | h | h
    · simp [h]
    · subst h; simp [UInt8.lt_irrefl,ih]
    · have hne:¬ a = b:=by rintro rfl; exact UInt8.lt_irrefl _ h
      simp [h,u8_asym h,hne]
def ordA (a b:GAtom):Int:=if a.Kind ≠ b.Kind then (if a.Kind < b.Kind then -1 else 1) else if a.N ≠ b.N then (if a.N < b.N then -1 else 1) else Lib.compareBytes a.T b.T
theorem p_cmpInt (x y:Int):cmp_Compare_int x y = some (if x < y then -1 else if x > y then 1 else 0):=by
  unfold cmp_Compare_int cmp_isNaN_int
  by_cases h1:x < y <;> by_cases h2:x > y <;> simp [h1,h2]
theorem p_compareAtoms (a b:GAtom):impl_compareAtoms a b = some (ordA a b):=by
  unfold impl_compareAtoms strings_Compare internal_bytealg_CompareString cmp_Or_int
  simp only [p_cmpInt,Option.bind_some]
  unfold ordA
  by_cases h1:a.Kind = b.Kind
  · by_cases h2:a.N = b.N
    · have e1:(if a.Kind < b.Kind then (-1:Int) else if a.Kind > b.Kind then 1 else 0) = 0:=by rw [h1]; simp
      have e2:(if a.N < b.N then (-1:Int) else if a.N > b.N then 1 else 0) = 0:=by rw [h2]; simp
      rw [e1,e2]
      simp only [cmp_Or_int_L1,h1,h2]
      by_cases h3:Lib.compareBytes a.T b.T = 0
      · simp [h3]
      · simp [h3]
    · have e1:(if a.Kind < b.Kind then (-1:Int) else if a.Kind > b.Kind then 1 else 0) = 0:=by rw [h1]; simp
      rw [e1]
      rcases Int.lt_or_gt_of_ne h2 with h3 | h3
      · simp [cmp_Or_int_L1,h1,h2,h3]
      · have h4:¬ a.N < b.N:=by omega
        simp [cmp_Or_int_L1,h1,h2,h3,h4]
  · rcases Int.lt_or_gt_of_ne h1 with h3 | h3
    · simp [cmp_Or_int_L1,h1,h3]
    · have h4:¬ a.Kind < b.Kind:=by omega
      simp [cmp_Or_int_L1,h1,h3,h4]
theorem p_Order (a b:GAtom):spec_l03Order a b = some (ordA a b):=by
  unfold spec_l03Order spec_l01Bit ordA
  have w0:w64 (1 - w64 0) = 1:=by decide
  have w1:w64 (1 - w64 2) = -1:=by decide
  by_cases h1:a.Kind = b.Kind
  · by_cases h2:a.N = b.N
    · simp only [h1,h2,bne_self_eq_false,Bool.false_eq_true,if_false,ne_eq,not_true_eq_false,cmpB_less]
      by_cases h3:a.T = b.T
      · simp [h3,(cmpB_zero b.T b.T).2 rfl]
      · have hne:Lib.compareBytes a.T b.T ≠ 0:=fun h => h3 ((cmpB_zero _ _).1 h)
        rcases cmpB_range a.T b.T with h | h | h
        · simp [h3,h,w1]
        · exact absurd h hne
        · simp [h3,h,w0]
    · by_cases h3:a.N < b.N <;> simp [h1,h2,h3,w0,w1]
  · by_cases h3:a.Kind < b.Kind <;> simp [h1,h3,w0,w1]
def atomB (a:GAtom):Bool :=
  (decide (a.Kind = 1) && decide (-1000000000 ≤ a.N ∧ a.N ≤ 1000000000) && decide (a.T = [])) ||
  (decide (a.Kind = 2) && decide (a.N = 0) && textB a.T) ||
  (decide (a.Kind = 3) && decide (0 ≤ a.N ∧ a.N ≤ 1) && decide (a.T = [])) ||
  (decide (a.Kind = 4) && decide (1 ≤ a.N ∧ a.N ≤ 1000000) && decide (a.T = []))
theorem p_AtomOK (a:GAtom):impl_AtomOK a = some (atomB a):=by
  unfold impl_AtomOK impl_isNumber impl_isId atomB
  simp only [p_within,p_plain,Option.bind_some]
  by_cases h1:a.Kind = 1
  · simp only [h1]
    by_cases c:(-1000000000 ≤ a.N ∧ a.N ≤ 1000000000) <;> by_cases d:a.T = [] <;> simp [c,d]
  by_cases h2:a.Kind = 2
  · simp only [h2]
    by_cases c:a.N = 0 <;> simp [c]
  by_cases h3:a.Kind = 3
  · simp only [h3]
    by_cases c:(0 ≤ a.N ∧ a.N ≤ 1) <;> by_cases d:a.T = [] <;> simp [c,d]
  by_cases h4:a.Kind = 4
  · simp only [h4]
    by_cases c:(1 ≤ a.N ∧ a.N ≤ 1000000) <;> by_cases d:a.T = [] <;> simp [c,d]
  · simp [h1,h2,h3,h4]
def stepB (d:List GAtom) (q:Nat) (x:GAtom):Bool :=
  atomB x && (match d[0]? with | some h => x.Kind == h.Kind | none => false) && (q == 0 || match d[q - 1]? with | some y => decide (ordA y x < 0) | none => false)
def allS (d:List GAtom):List GAtom → Nat → Bool
  | [],_ => true
  | x :: xs,i => stepB d i x && allS d xs (i + 1)
def datB (d:List GAtom):Bool:=allS d d 0 && decide ((d.length:Int) ≤ 8)
theorem p_step (d:List GAtom) (i:Nat) (x:GAtom) (hi:i < d.length) (hl:d.length ≤ maxLen) (A:GAtom → Option Bool) (hA:∀ a,A a = some (atomB a)) (O:GAtom → GAtom → Option Int) (hO:∀ a b,O a b = some (ordA a b)) :
    ((A x).bind fun r_110 =>
    if (!r_110) then
    some true
    else
    (idx d 0).bind fun x_113 =>
    if (x.Kind != x_113.Kind) then
    some true
    else
    if (decide ((i:Int) > 0)) then
    (idx d (w64 ((i:Int) - 1))).bind fun x_117 =>
    (O x_117 x).bind fun r_119 =>
    some (decide (r_119 ≥ 0))
    else
    some false:Option Bool) = some (!stepB d i x):=by
  simp only [maxLen] at hl
  obtain ⟨h,hh⟩:∃ h,d[0]? = some h:=⟨d[0],List.getElem?_eq_getElem (by omega)⟩
  have e0:idx d 0 = some h:=by rw [show (0:Int) = ((0:Nat):Int) from rfl,idx_nat,hh]
  rw [hA,Option.bind_some,e0]
  unfold stepB
  rw [hh]
  by_cases ha:atomB x = true
  · by_cases hk:x.Kind = h.Kind
    · by_cases h0:i = 0
      · subst h0; simp [ha,hk]
      · obtain ⟨y,hy⟩:∃ y,d[i - 1]? = some y:=⟨d[i - 1],List.getElem?_eq_getElem (by omega)⟩
        have e1:w64 ((i:Int) - 1) = ((i - 1:Nat):Int):=by rw [w64_id (by omega)]; omega
        rw [e1,idx_nat,hy]
        have hp:0 < i:=by omega
        simp [ha,hk,h0,hO,hp]
        by_cases hc:ordA y x < 0
        · have:¬ 0 ≤ ordA y x:=by omega
          simp [hc,this,h0]
        · have:0 ≤ ordA y x:=by omega
          simp [hc,this,h0]
    · simp [ha,hk]
  · simp only [Bool.not_eq_true] at ha
    simp [ha]
theorem p_DatumOK_L1 (d:List GAtom) (hl:d.length ≤ maxLen):∀ (xs:List GAtom) (i:Nat),d.drop i = xs → impl_DatumOK_L1 d xs i = some (if allS d xs i = true then .go () else .ret false)
  | [],i,h => by rw [impl_DatumOK_L1]; simp [allS]
  | x :: xs,i,h => by
    rw [impl_DatumOK_L1,p_step d i x (drop_lt h) hl impl_AtomOK p_AtomOK impl_compareAtoms p_compareAtoms,Option.bind_some,p_DatumOK_L1 d hl xs (i + 1) (drop_next h)]
    cases hs:stepB d i x <;> simp [allS,hs]
theorem p_DatumOK (d:List GAtom) (hl:d.length ≤ maxLen):impl_DatumOK d = some (datB d):=by
  unfold impl_DatumOK datB
  rw [p_DatumOK_L1 d hl d 0 (by simp)]
  cases allS d d 0 <;> simp
theorem p_sAtomOK (a:GAtom):spec_AtomOK a = some (atomB a):=by
  unfold spec_AtomOK atomB
  simp only [p_in,p_text,Option.bind_some]
  by_cases h1:a.Kind = 1
  · simp only [h1]
    by_cases c:(-1000000000 ≤ a.N ∧ a.N ≤ 1000000000) <;> by_cases d:a.T = [] <;> simp [c,d]
  by_cases h2:a.Kind = 2
  · simp only [h2]
    by_cases c:a.N = 0 <;> simp [c]
  by_cases h3:a.Kind = 3
  · simp only [h3]
    by_cases c:(0 ≤ a.N ∧ a.N ≤ 1) <;> by_cases d:a.T = [] <;> simp [c,d]
  by_cases h4:a.Kind = 4
  · simp only [h4]
    by_cases c:(1 ≤ a.N ∧ a.N ≤ 1000000) <;> by_cases d:a.T = [] <;> simp [c,d]
  · simp [h1,h2,h3,h4]
theorem p_sDatumOK_L1 (d:List GAtom) (hl:d.length ≤ maxLen):∀ (xs:List GAtom) (i:Nat),d.drop i = xs → spec_DatumOK_L1 d xs i = some (if allS d xs i = true then .go () else .ret false)
  | [],i,h => by rw [spec_DatumOK_L1]; simp [allS]
  | x :: xs,i,h => by
    rw [spec_DatumOK_L1,p_step d i x (drop_lt h) hl spec_AtomOK p_sAtomOK spec_l03Order p_Order,Option.bind_some,p_sDatumOK_L1 d hl xs (i + 1) (drop_next h)]
    cases hs:stepB d i x <;> simp [allS,hs]
theorem p_sDatumOK (d:List GAtom):spec_DatumOK d = some (datB d):=by
  unfold spec_DatumOK datB
  by_cases h:(d.length:Int) > 4096
  · rw [if_pos (by simpa using h)]
    have:¬ (d.length:Int) ≤ 8:=by omega
    simp [this]
  · rw [if_neg (by simpa using h),p_sDatumOK_L1 d (by simp only [maxLen]; omega) d 0 (by simp)]
    cases allS d d 0 <;> simp
def isLet (c:Int):Bool:=(decide (97 ≤ c) && decide (c ≤ 122)) || (decide (65 ≤ c) && decide (c ≤ 90)) || c == 95
def isDig (c:Int):Bool:=decide (48 ≤ c) && decide (c ≤ 57)
theorem p_l00Letter (c:Int):spec_l00Letter c = some (isLet c):=by
  unfold spec_l00Letter isLet
  by_cases h1:97 ≤ c <;> by_cases h2:c ≤ 122 <;> by_cases h3:65 ≤ c <;> by_cases h4:c ≤ 90 <;> by_cases h5:c = 95 <;> simp [h1,h2,h3,h4,h5]
theorem p_l00Digit (c:Int):spec_l00Digit c = some (isDig c):=by
  unfold spec_l00Digit isDig
  by_cases h1:48 ≤ c <;> simp [h1]
theorem p_isDigit (c:Int):impl_isDigit c = some (isDig c):=by
  unfold impl_isDigit isDig
  by_cases h1:48 ≤ c <;> simp [h1]
def isWordC (b:UInt8):Bool:=isLet b.toNat || isDig b.toNat
def nameOK (t:Str):Bool:=decide (1 ≤ t.length) && decide (t.length ≤ 40) && isLet (t.headD 0).toNat && (t.drop 1).all isWordC
theorem p_l00Word_L1:∀ (t:Str),spec_l00Word_L1 t = some (if t.all isWordC then .go () else .ret false)
  | [] => by rw [spec_l00Word_L1]; rfl
  | c :: t => by
    rw [spec_l00Word_L1,p_l00Letter,Option.bind_some,p_l00Digit,p_l00Word_L1 t]
    cases h1:isLet (c.toNat:Int) <;> cases h2:isDig (c.toNat:Int) <;> simp [isWordC,h1,h2]
theorem p_l00Word (t:Str):spec_l00Word t = some (nameOK t):=by
  unfold spec_l00Word nameOK
  cases t with
  | nil => rfl
  | cons c t =>
    have e:idx (c :: t) 0 = some c:=rfl
    rw [e,Option.bind_some,p_l00Letter,Option.bind_some,p_l00Word_L1]
    have e1:decide (((c :: t).length:Int) < 1) = false:=decide_eq_false (by simp only [List.length_cons]; omega)
    have e2:decide (1 ≤ (c :: t).length) = true:=decide_eq_true (by simp only [List.length_cons]; omega)
    rw [e1,e2]
    by_cases h:(c :: t).length ≤ 40
    · have e3:decide (((c :: t).length:Int) > 40) = false:=decide_eq_false (by omega)
      have e4:decide ((c :: t).length ≤ 40) = true:=decide_eq_true h
      rw [e3,e4]
      cases h1:isLet (c.toNat:Int) <;> cases h3:t.all isWordC <;> simp [h1,h3]
    · have e3:decide (((c :: t).length:Int) > 40) = true:=decide_eq_true (by omega)
      have e4:decide ((c :: t).length ≤ 40) = false:=decide_eq_false h
      rw [e3,e4]
      simp
theorem p_specNameOK (t:Str):spec_NameOK t = some (nameOK t):=by
  unfold spec_NameOK
  rw [p_l00Word]; rfl
def nameC (p:UInt8 × Nat):Bool:=isLet p.1.toNat || (p.2 != 0 && isDig p.1.toNat)
theorem p_NameOK_L1:∀ (t:Str) (i:Nat),impl_NameOK_L1 t i = some (if (t.zipIdx i).all nameC then .go () else .ret false)
  | [],i => by rw [impl_NameOK_L1]; rfl
  | c :: t,i => by
    have e0:((i:Int) == 0) = (i == 0):=by cases i <;> simp; omega
    rw [impl_NameOK_L1,p_NameOK_L1 t (i + 1),List.zipIdx_cons,List.all_cons,p_isDigit,e0]
    unfold nameC isLet
    generalize (List.zipIdx t (i + 1)).all _ = A
    generalize isDig (c.toNat:Int) = D
    generalize (c.toNat:Int) = n
    by_cases h1:97 ≤ n <;> by_cases h2:n ≤ 122 <;> by_cases h3:65 ≤ n <;> by_cases h4:n ≤ 90 <;> by_cases h5:n = 95 <;> cases D <;> by_cases h0:i = 0 <;> simp [h1,h2,h3,h4,h5,h0]
theorem p_NameOK (t:Str):impl_NameOK t = some (nameOK t):=by
  unfold impl_NameOK nameOK
  rw [p_NameOK_L1,Option.bind_some]
  have hz:∀ (r:Str) (k:Nat),(r.zipIdx (k + 1)).all nameC = r.all isWordC:=by
    intro r
    induction r with
    | nil => intro k; rfl
    | cons c r ih => intro k; simp only [List.zipIdx_cons,List.all_cons,ih (k + 1)]; rfl
  cases t with
  | nil => simp [p_within]
  | cons c t =>
    rw [List.zipIdx_cons,List.all_cons,hz t 0]
    have hl:decide (1 ≤ (c :: t).length) = true:=decide_eq_true (by simp)
    have e:nameC (c,0) = isLet (c.toNat:Int):=by simp [nameC]
    rw [e,hl,p_within,Bool.decide_and]
    have e2:decide ((1:Int) ≤ ((c :: t).length:Int)) = true:=decide_eq_true (by simp only [List.length_cons]; omega)
    have e3:decide (((c :: t).length:Int) ≤ 40) = decide ((c :: t).length ≤ 40):=by rw [decide_eq_decide]; omega
    rw [e2,e3]
    show _ = some ((true && _ && isLet (c.toNat:Int)) && t.all isWordC)
    cases isLet (c.toNat:Int) <;> cases t.all isWordC <;> simp
theorem beqD {α:Type} [BEq α] [LawfulBEq α] [DecidableEq α] (a b:α):(a == b) = decide (a = b):=by by_cases h:a = b <;> simp [h]
def allI {α:Type} (f:Nat → α → Bool):List α → Nat → Bool
  | [],_ => true
  | x :: xs,i => f i x && allI f xs (i + 1)
theorem allI_iff {α:Type} (f:Nat → α → Bool):∀ (xs:List α) (i:Nat),allI f xs i = true ↔ ∀ q x,xs[q]? = some x → f (i + q) x = true
  | [],i => by simp [allI]
  | x :: xs,i => by
    simp only [allI,Bool.and_eq_true,allI_iff f xs (i + 1)]
    constructor
    · rintro ⟨h1,h2⟩ q y hq
      cases q with
      | zero => simp at hq; subst hq; simpa using h1
      | succ q => have:=h2 q y (by simpa using hq); rw [show i + (q + 1) = i + 1 + q from by omega]; exact this
    · intro h
      refine ⟨by simpa using h 0 x (by simp),fun q y hq => ?_⟩
      have:=h (q + 1) y (by simpa using hq)
      rw [show i + 1 + q = i + (q + 1) from by omega]; exact this
theorem allI_mem {α:Type} {f:Nat → α → Bool} {xs:List α} {i:Nat} (h:allI f xs i = true) {x:α} (hx:x ∈ xs):∃ q,f q x = true:=by
  obtain ⟨q,hq⟩:=List.mem_iff_getElem?.1 hx
  exact ⟨_,(allI_iff f xs i).1 h q x hq⟩
def atI (o:Option Nat):Int:=match o with | some k => (k:Int) | none => -1
theorem atI_neg {o:Option Nat}:decide (atI o < 0) = o.isNone:=by
  cases o with
  | none => rfl
  | some k => exact decide_eq_false (show ¬ ((k:Nat):Int) < 0 by omega)
theorem atI_nn {o:Option Nat}:decide (atI o ≥ 0) = o.isSome:=by
  cases o with
  | none => rfl
  | some k => simp [atI]
def colK (t:GTable) (name:Str):Option Nat:=t.Columns.findIdx? (fun c => c.Name == name)
theorem colK_get {t:GTable} {name:Str} {k:Nat} (h:colK t name = some k):∃ x,idx t.Columns (k:Int) = some x ∧ t.Columns[k]? = some x:=by
  obtain ⟨h1,h2,_⟩:=List.findIdx?_eq_some_iff_getElem.1 h
  exact ⟨t.Columns[k],by rw [idx_nat]; simp [h1],by simp [h1]⟩
theorem p_l04Column_L1 (name:Str):∀ (xs:List GColumn) (i:Nat),spec_l04Column_L1 name xs i = some (match xs.findIdx? (fun c => c.Name == name) with | some k => .ret ((i + k:Nat):Int) | none => .go ())
  | [],i => by rw [spec_l04Column_L1]; rfl
  | x :: xs,i => by
    rw [spec_l04Column_L1,p_l04Column_L1 name xs (i + 1),List.findIdx?_cons]
    cases hp:(x.Name == name) with
    | true => simp
    | false =>
      cases hq:xs.findIdx? (fun c => c.Name == name) with
      | none => simp
      | some k => simp; omega
theorem p_l04Column (t:GTable) (name:Str):spec_l04Column t name = some (atI (colK t name)):=by
  unfold spec_l04Column colK atI
  rw [p_l04Column_L1]
  cases hq:t.Columns.findIdx? (fun c => c.Name == name) <;> simp
theorem p_columnAt (t:GTable) (name:Str):impl_Table_columnAt t name = some (atI (colK t name)):=by
  unfold impl_Table_columnAt
  rw [p_slices_IndexFunc_impl_Column_impl_Column _ (fun c => c.Name == name) t.Columns (fun x _ => by unfold impl_Table_columnAt_1; rfl)]
  rfl
def colB (c:GColumn):Bool :=
  nameOK c.Name && decide (0 ≤ c.Min ∧ c.Min ≤ 1) && decide (1 ≤ c.Max ∧ c.Max ≤ 8) &&
  ((decide (c.Kind = 1) && decide (-1000000000 ≤ c.Low ∧ c.Low ≤ c.High ∧ c.High ≤ 1000000000) && decide (c.Ref = []) && !c.Strong) ||
   ((decide (c.Kind = 2) || decide (c.Kind = 3)) && decide (c.Low = 0) && decide (c.High = 0) && decide (c.Ref = []) && !c.Strong) ||
   (decide (c.Kind = 4) && decide (c.Low = 0) && decide (c.High = 0) && nameOK c.Ref && decide (c.Min = 0)))
theorem p_ColumnOK (c:GColumn):impl_ColumnOK c = some (colB c):=by
  unfold impl_ColumnOK impl_isNumber colB
  simp only [p_NameOK,p_within,Option.bind_some,beqD]
  by_cases h1:0 ≤ c.Min ∧ c.Min ≤ 1
  · by_cases h2:1 ≤ c.Max ∧ c.Max ≤ 8
    · cases hn:nameOK c.Name with
      | false => simp
      | true =>
        simp only [h1,h2,and_self,decide_true,Bool.not_true,Bool.false_eq_true,if_false,Option.bind_some,Bool.true_and]
        by_cases k1:c.Kind = 1
        · simp only [k1]
          by_cases a1:-1000000000 ≤ c.Low ∧ c.Low ≤ c.High ∧ c.High ≤ 1000000000
          · have e1:-1000000000 ≤ c.Low ∧ c.Low ≤ 1000000000:=by omega
            have e2:-1000000000 ≤ c.High ∧ c.High ≤ 1000000000:=by omega
            simp [a1,e1,e2]
          · by_cases e1:-1000000000 ≤ c.Low ∧ c.Low ≤ 1000000000
            · by_cases e2:-1000000000 ≤ c.High ∧ c.High ≤ 1000000000
              · have e3:¬ c.Low ≤ c.High:=by omega
                simp [a1,e1,e2,e3]
              · have a1':¬ (c.Low ≤ c.High ∧ c.High ≤ 1000000000):=by omega
                simp [e1,e2]
                intro p q; exact absurd ⟨p,q⟩ a1'
            · have a2:(-1000000000 ≤ c.Low ∧ c.Low ≤ c.High ∧ c.High ≤ 1000000000) = False:=eq_false a1
              simp only [e1,a2]; simp
        · by_cases k2:c.Kind = 2
          · simp [k2]
          · by_cases k3:c.Kind = 3
            · simp [k3]
            · by_cases k4:c.Kind = 4
              · simp only [k4]
                by_cases a1:c.Low = 0 <;> by_cases a2:c.High = 0 <;> cases a3:nameOK c.Ref <;> simp [a1,a2]
              · simp [k1,k2,k3,k4]
    · cases hn:nameOK c.Name <;> simp [h1,h2]
  · cases hn:nameOK c.Name <;> simp [h1]
theorem p_sColumnOK (c:GColumn):spec_ColumnOK c = some (colB c):=by
  unfold spec_ColumnOK colB
  simp only [p_specNameOK,p_in,Option.bind_some,beqD,bne]
  by_cases h1:0 ≤ c.Min ∧ c.Min ≤ 1
  · by_cases h2:1 ≤ c.Max ∧ c.Max ≤ 8
    · cases hn:nameOK c.Name with
      | false => simp
      | true =>
        by_cases hk:1 ≤ c.Kind ∧ c.Kind ≤ 4
        · simp only [h1,h2,hk,and_self,decide_true,Bool.not_true,Bool.false_eq_true,if_false,Option.bind_some,Bool.true_and]
          by_cases k1:c.Kind = 1
          · simp only [k1]
            by_cases a1:-1000000000 ≤ c.Low ∧ c.Low ≤ c.High ∧ c.High ≤ 1000000000
            · have e1:-1000000000 ≤ c.Low ∧ c.Low ≤ c.High:=by omega
              have e2:c.Low ≤ c.High ∧ c.High ≤ 1000000000:=by omega
              simp [a1,e1,e2]
            · by_cases e1:-1000000000 ≤ c.Low ∧ c.Low ≤ c.High
              · have e2:¬ (c.Low ≤ c.High ∧ c.High ≤ 1000000000):=by omega
                simp [a1,e1,e2]
              · simp [a1,e1]
          · by_cases a1:c.Low = 0
            · by_cases a2:c.High = 0
              · by_cases k4:c.Kind = 4
                · cases a3:nameOK c.Ref <;> simp [k4,a1,a2]
                · have:c.Kind = 2 ∨ c.Kind = 3:=by omega
                  by_cases a4:c.Ref = [] <;> rcases this with k | k <;> simp [k,a1,a2,a4]
              · simp [k1,a1,a2]
            · simp [k1,a1]
        · have k1:¬ c.Kind = 1:=by omega
          have k2:¬ c.Kind = 2:=by omega
          have k3:¬ c.Kind = 3:=by omega
          have k4:¬ c.Kind = 4:=by omega
          simp [hk,k1,k2,k3,k4]
    · cases hn:nameOK c.Name <;> by_cases hk:1 ≤ c.Kind ∧ c.Kind ≤ 4 <;> simp [h1,h2,hk]
  · cases hn:nameOK c.Name <;> by_cases hk:1 ≤ c.Kind ∧ c.Kind ≤ 4 <;> simp [h1,hk]
def colStep (t:GTable) (i:Nat) (x:GColumn):Bool:=colB x && !(t.Columns.take i).any (fun c => c.Name == x.Name)
theorem colK_here {t:GTable} {i:Nat} {x:GColumn} (hx:t.Columns[i]? = some x):(atI (colK t x.Name) != (i:Int)) = (t.Columns.take i).any (fun c => c.Name == x.Name):=by
  have hi:=(List.getElem?_eq_some_iff.1 hx).1
  have hxe:=(List.getElem?_eq_some_iff.1 hx).2
  by_cases ha:(t.Columns.take i).any (fun c => c.Name == x.Name) = true
  · rw [ha]
    obtain ⟨c,hc,hn⟩:=List.any_eq_true.1 ha
    obtain ⟨j,hj⟩:=List.mem_iff_getElem?.1 hc
    have hji:j < i:=by have:=(List.getElem?_eq_some_iff.1 hj).1; simp at this; omega
    rw [List.getElem?_take_of_lt hji] at hj
    have hne:colK t x.Name ≠ some i:=by
      intro he
      obtain ⟨_,_,h3⟩:=List.findIdx?_eq_some_iff_getElem.1 he
      have:=h3 j hji
      rw [(List.getElem?_eq_some_iff.1 hj).2] at this
      exact this hn
    cases hk:colK t x.Name with
    | none => simp [atI]
    | some k =>
      have:k ≠ i:=fun h => hne (by rw [hk,h])
      simp [atI]; omega
  · simp only [Bool.not_eq_true] at ha
    rw [ha]
    have:colK t x.Name = some i:=by
      refine List.findIdx?_eq_some_iff_getElem.2 ⟨hi,by simp [hxe],fun j hj => ?_⟩
      have hm:t.Columns[j]'(by omega) ∈ t.Columns.take i:=by
        rw [List.mem_iff_getElem?]
        exact ⟨j,by rw [List.getElem?_take_of_lt hj]; simp⟩
      have:=List.any_eq_false.1 ha _ hm
      simpa using this
    rw [this]
    simp [atI]
theorem p_isTable_L1 (t:GTable):∀ (xs:List GColumn) (i:Nat),t.Columns.drop i = xs → impl_isTable_L1 t xs i = some (if allI (colStep t) xs i = true then .go () else .ret false)
  | [],i,_ => by rw [impl_isTable_L1]; simp [allI]
  | x :: xs,i,h => by
    have hx:t.Columns[i]? = some x:=by rw [← idx_nat]; exact idx_drop h
    rw [impl_isTable_L1,p_ColumnOK,Option.bind_some,p_columnAt,Option.bind_some,colK_here hx,p_isTable_L1 t xs (i + 1) (drop_next h)]
    cases h1:colB x <;> cases h2:(t.Columns.take i).any (fun c => c.Name == x.Name) <;> simp [allI,colStep,h1,h2]
theorem p_l04Table_L2 (t:GTable) (x:GColumn) (i:Nat) (hi:i ≤ t.Columns.length) (hl:t.Columns.length ≤ 6):∀ (n k fuel:Nat),n + k = i → n < fuel → spec_l04Table_L2 i t x fuel k = some (if ((t.Columns.take i).drop k).any (fun c => c.Name == x.Name) = true then .ret false else .go ())
  | _,_,0,_,h => by omega
  | 0,k,fuel + 1,hk,_ => by
    rw [spec_l04Table_L2,if_neg (by simp; omega),List.drop_of_length_le (by simp; omega)]; simp
  | n + 1,k,fuel + 1,hk,hf => by
    obtain ⟨y,hy⟩:∃ y,t.Columns[k]? = some y:=⟨t.Columns[k]'(by omega),List.getElem?_eq_getElem (by omega)⟩
    have hd:(t.Columns.take i).drop k = y :: (t.Columns.take i).drop (k + 1):=by
      have hk2:k < (t.Columns.take i).length:=by simp; omega
      rw [List.drop_eq_getElem_cons hk2]
      congr 1
      rw [List.getElem_take]
      exact (List.getElem?_eq_some_iff.1 hy).2
    have ew:w64 ((k:Int) + 1) = ((k + 1:Nat):Int):=by rw [w64_id (by omega)]; omega
    rw [spec_l04Table_L2,if_pos (by simp; omega),idx_nat,hy,Option.bind_some,ew,p_l04Table_L2 t x i hi hl n (k + 1) fuel (by omega) (by omega),hd]
    cases hn:(y.Name == x.Name) <;> simp [hn]
theorem p_l04Table_L1 (t:GTable) (hl:t.Columns.length ≤ 6):∀ (xs:List GColumn) (i:Nat),t.Columns.drop i = xs → spec_l04Table_L1 t xs i = some (if allI (colStep t) xs i = true then .go () else .ret false)
  | [],i,_ => by rw [spec_l04Table_L1]; simp [allI]
  | x :: xs,i,h => by
    have hi:=drop_lt h
    have hf:2 ^ 40 < FUEL:=by unfold FUEL; decide
    have e:=p_l04Table_L2 t x i (by omega) hl i 0 FUEL (by omega) (by omega)
    rw [List.drop_zero] at e
    have e':spec_l04Table_L2 i t x FUEL 0 = _:=e
    rw [spec_l04Table_L1,p_sColumnOK,Option.bind_some,e',p_l04Table_L1 t hl xs (i + 1) (drop_next h)]
    cases h1:colB x <;> cases h2:(t.Columns.take i).any (fun c => c.Name == x.Name) <;> simp [allI,colStep,h1,h2]
def uniStep (t:GTable) (i:Nat) (x:Int):Bool:=decide (0 ≤ x ∧ x ≤ (t.Columns.length:Int) - 1) && (i == 0 || match t.Unique[i - 1]? with | some y => decide (y < x) | none => false)
theorem p_uni (t:GTable) (i:Nat) (x:Int) (hi:i < t.Unique.length) (hl:t.Unique.length ≤ 6) (hc:t.Columns.length ≤ 6) (W:Int → Int → Int → Option Bool) (hW:∀ n a b,W n a b = some (decide (a ≤ n ∧ n ≤ b))) :
    ((W x 0 (w64 ((t.Columns.length:Int) - 1))).bind fun r_176 =>
    if (!r_176) then
    some true
    else
    if (decide ((i:Int) > 0)) then
    (idx t.Unique (w64 ((i:Int) - 1))).bind fun x_180 =>
    some (decide (x_180 ≥ x))
    else
    some false:Option Bool) = some (!uniStep t i x):=by
  rw [hW,Option.bind_some,w64_id (n:=(t.Columns.length:Int) - 1) (by omega)]
  unfold uniStep
  by_cases h:0 ≤ x ∧ x ≤ (t.Columns.length:Int) - 1
  · by_cases h0:i = 0
    · subst h0; simp [h]
    · obtain ⟨y,hy⟩:∃ y,t.Unique[i - 1]? = some y:=⟨t.Unique[i - 1],List.getElem?_eq_getElem (by omega)⟩
      have e1:w64 ((i:Int) - 1) = ((i - 1:Nat):Int):=by rw [w64_id (by omega)]; omega
      rw [e1,idx_nat,hy]
      have hp:0 < i:=by omega
      by_cases hc:y < x
      · have:¬ x ≤ y:=by omega
        simp [h,h0,hp,hc,this]
      · have:x ≤ y:=by omega
        simp [h,h0,hp,hc,this]
  · simp [h]
theorem p_isTable_L2 (t:GTable) (hl:t.Unique.length ≤ 6) (hc:t.Columns.length ≤ 6):∀ (xs:List Int) (i:Nat),t.Unique.drop i = xs → impl_isTable_L2 t xs i = some (if allI (uniStep t) xs i = true then .go () else .ret false)
  | [],i,_ => by rw [impl_isTable_L2]; simp [allI]
  | x :: xs,i,h => by
    rw [impl_isTable_L2,p_uni t i x (drop_lt h) hl hc impl_within p_within,Option.bind_some,p_isTable_L2 t hl hc xs (i + 1) (drop_next h)]
    cases h1:uniStep t i x <;> simp [allI,h1]
theorem p_l04Table_L3 (t:GTable) (hl:t.Unique.length ≤ 6) (hc:t.Columns.length ≤ 6):∀ (xs:List Int) (i:Nat),t.Unique.drop i = xs → spec_l04Table_L3 t xs i = some (if allI (uniStep t) xs i = true then .go () else .ret false)
  | [],i,_ => by rw [spec_l04Table_L3]; simp [allI]
  | x :: xs,i,h => by
    rw [spec_l04Table_L3,p_uni t i x (drop_lt h) hl hc spec_l01In p_in,Option.bind_some,p_l04Table_L3 t hl hc xs (i + 1) (drop_next h)]
    cases h1:uniStep t i x <;> simp [allI,h1]
theorem uni_ge (t:GTable) (h:allI (uniStep t) t.Unique 0 = true):∀ (i:Nat) x,t.Unique[i]? = some x → (i:Int) ≤ x
  | 0,x,hx => by
    have:=(allI_iff _ _ _).1 h 0 x hx
    simp only [uniStep,Bool.and_eq_true,decide_eq_true_eq] at this
    exact this.1.1
  | i + 1,x,hx => by
    have hl:=(List.getElem?_eq_some_iff.1 hx).1
    obtain ⟨y,hy⟩:∃ y,t.Unique[i]? = some y:=⟨t.Unique[i],List.getElem?_eq_getElem (by omega)⟩
    have h1:=uni_ge t h i y hy
    have:=(allI_iff _ _ _).1 h (i + 1) x hx
    simp only [uniStep,Bool.and_eq_true,decide_eq_true_eq,Bool.or_eq_true,Nat.zero_add,Nat.add_sub_cancel,hy] at this
    rcases this.2 with h2 | h2
    · simp at h2
    · omega
theorem uni_len (t:GTable) (h:allI (uniStep t) t.Unique 0 = true):t.Unique.length ≤ t.Columns.length:=by
  rcases Nat.eq_zero_or_pos t.Unique.length with h0 | h0
  · omega
  · obtain ⟨x,hx⟩:∃ x,t.Unique[t.Unique.length - 1]? = some x:=⟨t.Unique[t.Unique.length - 1],List.getElem?_eq_getElem (by omega)⟩
    have h1:=uni_ge t h _ x hx
    have:=(allI_iff _ _ _).1 h _ x hx
    simp only [uniStep,Bool.and_eq_true,decide_eq_true_eq] at this
    have:=this.1.2
    omega
def tabB (t:GTable):Bool:=nameOK t.Name && decide (1 ≤ (t.Columns.length:Int) ∧ (t.Columns.length:Int) ≤ 6) && allI (colStep t) t.Columns 0 && allI (uniStep t) t.Unique 0
theorem p_isTable (t:GTable):impl_isTable t = some (tabB t):=by
  unfold impl_isTable tabB
  rw [p_NameOK,Option.bind_some,p_within,Option.bind_some]
  cases hn:nameOK t.Name with
  | false => simp
  | true =>
    by_cases hc:1 ≤ (t.Columns.length:Int) ∧ (t.Columns.length:Int) ≤ 6
    · by_cases hu:(t.Unique.length:Int) > (t.Columns.length:Int)
      · have:allI (uniStep t) t.Unique 0 = false:=by
          cases hh:allI (uniStep t) t.Unique 0 with
          | false => rfl
          | true => have:=uni_len t hh; omega
        simp [hc,hu,this]
      · rw [p_isTable_L1 t t.Columns 0 (by simp),p_isTable_L2 t (by omega) (by omega) t.Unique 0 (by simp)]
        cases h1:allI (colStep t) t.Columns 0 <;> cases h2:allI (uniStep t) t.Unique 0 <;> simp [hc,hu]
    · simp [hc]
theorem p_l04Table (t:GTable):spec_l04Table t = some (tabB t):=by
  unfold spec_l04Table tabB
  rw [p_specNameOK,Option.bind_some,p_in,Option.bind_some]
  cases hn:nameOK t.Name with
  | false => simp
  | true =>
    by_cases hc:1 ≤ (t.Columns.length:Int) ∧ (t.Columns.length:Int) ≤ 6
    · by_cases hu:(t.Unique.length:Int) > 6
      · have:allI (uniStep t) t.Unique 0 = false:=by
          cases hh:allI (uniStep t) t.Unique 0 with
          | false => rfl
          | true => have:=uni_len t hh; omega
        simp [hc,hu,this]
      · rw [p_l04Table_L1 t (by omega) t.Columns 0 (by simp),p_l04Table_L3 t (by omega) (by omega) t.Unique 0 (by simp)]
        cases h1:allI (colStep t) t.Columns 0 <;> cases h2:allI (uniStep t) t.Unique 0 <;> simp [hc,hu]
    · simp [hc]
def outB (c:GColumn) (x:GAtom):Bool:=!decide (c.Low ≤ x.N ∧ x.N ≤ c.High)
theorem p_Idx_L1 (c:GColumn):∀ (xs:List GAtom) (i:Nat),slices_IndexFunc_impl_Atom_impl_Atom_L1 (fun a => impl_Column_fits_1 a c) xs i = some (.go ()) ∧ xs.any (outB c) = false ∨ ∃ j:Nat,slices_IndexFunc_impl_Atom_impl_Atom_L1 (fun a => impl_Column_fits_1 a c) xs i = some (.ret (j:Int)) ∧ xs.any (outB c) = true
  | [],i => .inl ⟨by rw [slices_IndexFunc_impl_Atom_impl_Atom_L1],rfl⟩
  | x :: xs,i => by
    rw [slices_IndexFunc_impl_Atom_impl_Atom_L1]
    have e:impl_Column_fits_1 x c = some (outB c x):=by unfold impl_Column_fits_1; rw [p_within,Option.bind_some]; rfl
    rw [e,Option.bind_some]
    cases h:outB c x with
    | true => rw [if_pos rfl]; exact .inr ⟨i,rfl,by simp [h]⟩
    | false =>
      rw [if_neg (by simp)]
      rcases p_Idx_L1 c xs (i + 1) with ⟨h1,h2⟩ | ⟨j,h1,h2⟩
      · exact .inl ⟨h1,by simp [h,h2]⟩
      · exact .inr ⟨j,h1,by simp [h,h2]⟩
theorem p_Contains (c:GColumn) (d:List GAtom):slices_ContainsFunc_impl_Atom_impl_Atom d (fun a => impl_Column_fits_1 a c) = some (d.any (outB c)):=by
  unfold slices_ContainsFunc_impl_Atom_impl_Atom slices_IndexFunc_impl_Atom_impl_Atom
  rcases p_Idx_L1 c d 0 with ⟨h1,h2⟩ | ⟨j,h1,h2⟩
  · rw [h1,h2]; rfl
  · rw [h1,h2]; simp
theorem p_sFits_L1 (c:GColumn):∀ (xs:List GAtom),spec_l04Fits_L1 c xs = some (if (c.Kind == 1 && xs.any (outB c)) = true then .ret 4 else .go ())
  | [] => by rw [spec_l04Fits_L1]; simp
  | x :: xs => by
    rw [spec_l04Fits_L1,p_sFits_L1 c xs]
    by_cases k:c.Kind = 1
    · rw [if_pos (by simpa using k),p_in,Option.bind_some,Option.bind_some]
      have e:(!decide (c.Low ≤ x.N ∧ x.N ≤ c.High)) = outB c x:=rfl
      rw [e]
      cases h:outB c x <;> simp [k,h]
    · rw [if_neg (by simpa using k),Option.bind_some,if_neg (by simp)]
      simp [k]
def fitsF (c:GColumn) (d:List GAtom):Int :=
  if (match d[0]? with | some x => x.Kind != c.Kind | none => false) = true then 9 else if ¬ (c.Min ≤ d.length ∧ (d.length:Int) ≤ c.Max) then 6 else if (c.Kind == 1 && d.any (outB c)) = true then 4 else 0
theorem p_cond (c:GColumn) (d:List GAtom):((if (decide ((d.length:Int) > 0)) then (idx d 0).bind fun x_11 => some (x_11.Kind != c.Kind) else some false:Option Bool)) = some (match d[0]? with | some x => x.Kind != c.Kind | none => false):=by
  cases d with
  | nil => rfl
  | cons x xs =>
    rw [if_pos (by simp)]
    rfl
theorem p_fits (c:GColumn) (d:List GAtom):impl_Column_fits c d = some (fitsF c d):=by
  unfold impl_Column_fits fitsF
  rw [p_cond,Option.bind_some]
  generalize (match d[0]? with | some x => x.Kind != c.Kind | none => false) = b
  cases b with
  | true => simp
  | false =>
    simp only [Bool.false_eq_true,if_false]
    rw [p_within,Option.bind_some]
    by_cases h:c.Min ≤ d.length ∧ (d.length:Int) ≤ c.Max
    · rw [decide_eq_true h,if_neg (not_not_intro h)]
      simp only [Bool.not_true,Bool.false_eq_true,if_false]
      by_cases k:c.Kind = 1
      · rw [if_pos (by simpa using k),p_Contains,Option.bind_some]
        cases hh:d.any (outB c) <;> simp [k]
      · rw [if_neg (by simpa using k)]
        simp [k]
    · rw [decide_eq_false h,if_pos h]
      simp
theorem p_sfits (c:GColumn) (d:List GAtom):spec_l04Fits c d = some (fitsF c d):=by
  unfold spec_l04Fits fitsF
  rw [p_cond,Option.bind_some]
  generalize (match d[0]? with | some x => x.Kind != c.Kind | none => false) = b
  cases b with
  | true => simp
  | false =>
    simp only [Bool.false_eq_true,if_false]
    rw [p_in,Option.bind_some]
    by_cases h:c.Min ≤ d.length ∧ (d.length:Int) ≤ c.Max
    · rw [decide_eq_true h,if_neg (not_not_intro h)]
      simp only [Bool.not_true,Bool.false_eq_true,if_false]
      rw [p_sFits_L1]
      cases hh:(c.Kind == 1 && d.any (outB c)) <;> simp
    · rw [decide_eq_false h,if_pos h]
      simp
def cellB (t:GTable) (i:Nat) (d:List GAtom):Bool:=datB d && match t.Columns[i]? with | some c => fitsF c d == 0 | none => false
def rowOKB (t:GTable) (r:GRow):Bool:=decide (1 ≤ r.Id ∧ r.Id ≤ 1000000) && decide (r.Cells.length = t.Columns.length) && allI (cellB t) r.Cells 0
theorem p_cellsOK_L1 (t:GTable):∀ (xs:List (List GAtom)) (i:Nat),i + xs.length ≤ t.Columns.length → (∀ d ∈ xs,d.length ≤ maxLen) → impl_cellsOK_L1 t xs i = some (if allI (cellB t) xs i = true then .go () else .ret false)
  | [],i,_,_ => by rw [impl_cellsOK_L1]; rfl
  | d :: xs,i,h,hd => by
    simp only [List.length_cons] at h
    obtain ⟨c,hc⟩:∃ c,t.Columns[i]? = some c:=⟨t.Columns[i]'(by omega),List.getElem?_eq_getElem (by omega)⟩
    rw [impl_cellsOK_L1,p_DatumOK d (hd d (by simp)),Option.bind_some,idx_nat,hc,p_cellsOK_L1 t xs (i + 1) (by omega) (fun x hx => hd x (by simp [hx]))]
    simp only [allI,cellB,hc,Option.bind_some,p_fits]
    cases datB d <;> by_cases q:fitsF c d = 0 <;> simp [q]
theorem p_l05Row_L1 (t:GTable):∀ (xs:List (List GAtom)) (i:Nat),i + xs.length ≤ t.Columns.length → spec_l05Row_L1 t xs i = some (if allI (cellB t) xs i = true then .go () else .ret false)
  | [],i,_ => by rw [spec_l05Row_L1]; rfl
  | d :: xs,i,h => by
    simp only [List.length_cons] at h
    obtain ⟨c,hc⟩:∃ c,t.Columns[i]? = some c:=⟨t.Columns[i]'(by omega),List.getElem?_eq_getElem (by omega)⟩
    rw [spec_l05Row_L1,p_sDatumOK d,Option.bind_some,idx_nat,hc,p_l05Row_L1 t xs (i + 1) (by omega)]
    simp only [allI,cellB,hc,Option.bind_some,p_sfits]
    cases datB d <;> by_cases q:fitsF c d = 0 <;> simp [q]
theorem p_cellsOK (t:GTable) (r:GRow) (h:∀ d ∈ r.Cells,d.length ≤ maxLen):impl_cellsOK t r = some (decide (r.Cells.length = t.Columns.length) && allI (cellB t) r.Cells 0):=by
  unfold impl_cellsOK
  by_cases e:r.Cells.length = t.Columns.length
  · have e':((r.Cells.length:Int) != (t.Columns.length:Int)) = false:=by simp [e]
    rw [e',p_cellsOK_L1 t r.Cells 0 (by omega) h]
    cases allI (cellB t) r.Cells 0 <;> simp [e]
  · have e':((r.Cells.length:Int) != (t.Columns.length:Int)) = true:=by simp; omega
    rw [e']
    simp [e]
theorem p_l05Row (t:GTable) (r:GRow):spec_l05Row t r = some (rowOKB t r):=by
  unfold spec_l05Row rowOKB
  rw [p_in,Option.bind_some]
  by_cases e:r.Cells.length = t.Columns.length
  · have e':((r.Cells.length:Int) != (t.Columns.length:Int)) = false:=by simp [e]
    rw [e',p_l05Row_L1 t r.Cells 0 (by omega)]
    cases decide (1 ≤ r.Id ∧ r.Id ≤ 1000000) <;> cases allI (cellB t) r.Cells 0 <;> simp [e]
  · have e':((r.Cells.length:Int) != (t.Columns.length:Int)) = true:=by simp; omega
    rw [e']
    cases decide (1 ≤ r.Id ∧ r.Id ≤ 1000000) <;> simp [e]
theorem p_RowOK (t:GTable) (r:GRow) (h:∀ d ∈ r.Cells,d.length ≤ maxLen):impl_RowOK t r = some (tabB t && rowOKB t r):=by
  unfold impl_RowOK impl_isId rowOKB
  rw [p_isTable,p_within,p_cellsOK t r h]
  cases tabB t <;> cases decide (1 ≤ r.Id ∧ r.Id ≤ 1000000) <;> simp
theorem p_sRowOK (t:GTable) (r:GRow):spec_RowOK t r = some (tabB t && rowOKB t r):=by
  unfold spec_RowOK
  rw [p_l04Table,p_l05Row]
  cases tabB t <;> simp
theorem rowOKB_len {t:GTable} {r:GRow} (h:rowOKB t r = true):r.Cells.length = t.Columns.length:=by
  unfold rowOKB at h
  simp only [Bool.and_eq_true,decide_eq_true_eq] at h
  exact h.1.2
theorem rowOKB_cell {t:GTable} {r:GRow} (h:rowOKB t r = true) {d:List GAtom} (hd:d ∈ r.Cells):datB d = true:=by
  unfold rowOKB at h
  simp only [Bool.and_eq_true] at h
  obtain ⟨q,hq⟩:=allI_mem h.2 hd
  unfold cellB at hq
  simp only [Bool.and_eq_true] at hq
  exact hq.1
theorem datB_len {d:List GAtom} (h:datB d = true):d.length ≤ 8:=by
  unfold datB at h
  simp only [Bool.and_eq_true,decide_eq_true_eq] at h
  omega
theorem okRow_small {r:GRow} (h:okGRow r):∀ d ∈ r.Cells,d.length ≤ maxLen:=fun d hd => (h.2.2 d hd).1
def rcell (t:GTable) (r:GRow) (n:Str):List GAtom:=match colK t n with | some k => (r.Cells[k]?).getD [] | none => [⟨4,r.Id,[]⟩]
theorem rcell_some {t:GTable} {r:GRow} {n:Str} {k:Nat} (hl:r.Cells.length = t.Columns.length) (hk:colK t n = some k):idx r.Cells (k:Int) = some (rcell t r n) ∧ rcell t r n ∈ r.Cells:=by
  obtain ⟨x,_,h2⟩:=colK_get hk
  have hlt:k < r.Cells.length:=by rw [hl]; exact (List.getElem?_eq_some_iff.1 h2).1
  unfold rcell
  rw [hk,idx_nat]
  simp only [List.getElem?_eq_getElem hlt,Option.getD_some]
  exact ⟨trivial,List.getElem_mem hlt⟩
theorem rcell_len {t:GTable} {r:GRow} {n:Str} (h:rowOKB t r = true):(rcell t r n).length ≤ 8:=by
  cases hk:colK t n with
  | some k => exact datB_len (rowOKB_cell h (rcell_some (rowOKB_len h) hk).2)
  | none => simp [rcell,hk]
theorem p_cell {t:GTable} {r:GRow} (hl:r.Cells.length = t.Columns.length) (n:Str):impl_Table_cell t r n = some (rcell t r n):=by
  unfold impl_Table_cell
  rw [p_columnAt,Option.bind_some,atI_nn]
  cases hk:colK t n with
  | some k => simp [atI,(rcell_some hl hk).1]
  | none => simp [rcell,hk]
theorem p_l06Cell {t:GTable} {r:GRow} (hl:r.Cells.length = t.Columns.length) (n:Str):spec_l06Cell t r n = some (rcell t r n):=by
  unfold spec_l06Cell
  rw [p_l04Column,Option.bind_some,atI_neg]
  cases hk:colK t n with
  | some k => simp [atI,(rcell_some hl hk).1]
  | none => simp [rcell,hk]
theorem p_pick_L1 {t:GTable} {r:GRow} (h:rowOKB t r = true):∀ (ns:List Str) (out:List (List GAtom)),out.length + ns.length ≤ 2 ^ 30 → impl_pick_L1 t r ns out = some (out ++ ns.map (rcell t r))
  | [],out,_ => by rw [impl_pick_L1]; simp
  | n :: ns,out,hl => by
    simp only [List.length_cons] at hl
    have:=rcell_len (n:=n) h
    rw [impl_pick_L1,p_cell (rowOKB_len h),Option.bind_some]
    unfold slices_Clone_impl_Atom_impl_Atom
    rw [if_pos (by simp; omega),Option.bind_some,if_pos (by simp; omega),p_pick_L1 h ns _ (by simp; omega)]
    simp
theorem p_l08Pick_L1 {t:GTable} {r:GRow} (h:rowOKB t r = true):∀ (ns:List Str) (out:List (List GAtom)),out.length + ns.length ≤ 2 ^ 30 → spec_l08Pick_L1 t r ns out = some (out ++ ns.map (rcell t r))
  | [],out,_ => by rw [spec_l08Pick_L1]; simp
  | n :: ns,out,hl => by
    simp only [List.length_cons] at hl
    have:=rcell_len (n:=n) h
    rw [spec_l08Pick_L1,p_l06Cell (rowOKB_len h),Option.bind_some,if_pos (by simp; omega),if_pos (by simp; omega),p_l08Pick_L1 h ns _ (by simp; omega)]
    simp
theorem p_pick {t:GTable} {r:GRow} (h:rowOKB t r = true) (ns:List Str) (hl:ns.length ≤ 4096):impl_pick t r ns = some ⟨r.Id,ns.map (rcell t r)⟩:=by
  unfold impl_pick
  rw [p_pick_L1 h ns [] (by simp; omega)]
  rfl
theorem p_l08Pick {t:GTable} {r:GRow} (h:rowOKB t r = true) (ns:List Str) (hl:ns.length ≤ 4096):spec_l08Pick t r ns = some ⟨r.Id,ns.map (rcell t r)⟩:=by
  unfold spec_l08Pick
  rw [p_l08Pick_L1 h ns [] (by simp; omega)]
  rfl
def uuidS:Str:=[95,117,117,105,100]
def namedC (t:GTable) (name:Str):Option GColumn:=match colK t name with
  | some k => t.Columns[k]?
  | none => if name = uuidS then some ⟨uuidS,4,0,1,0,0,[],false⟩ else none
theorem p_named (t:GTable) (name:Str):∃ c,impl_Table_named t name = some (c,(namedC t name).isSome) ∧ ∀ d,namedC t name = some d → c = d:=by
  unfold impl_Table_named namedC
  rw [p_columnAt,Option.bind_some,atI_nn]
  cases hk:colK t name with
  | some k =>
    obtain ⟨x,e1,e2⟩:=colK_get hk
    simp only [Option.isSome_some,if_true,atI]
    rw [e1,Option.bind_some,e2]
    exact ⟨x,rfl,fun d hd => Option.some.inj hd⟩
  | none =>
    rw [if_neg (by simp)]
    by_cases h:name = uuidS
    · subst h
      refine ⟨⟨uuidS,4,0,1,0,0,[],false⟩,?_,fun d hd => ?_⟩
      · rw [if_pos rfl]; rw [if_pos (by simp [uuidS])]; rfl
      · rw [if_pos rfl] at hd; exact Option.some.inj hd
    · refine ⟨⟨[],0,0,0,0,0,[],false⟩,?_,fun d hd => ?_⟩
      · rw [if_neg h,if_neg (by simpa [uuidS] using h)]; rfl
      · rw [if_neg h] at hd; cases hd
def firstI {α:Type} (f:α → Int):List α → Int
  | [] => 0
  | x :: xs => if f x = 0 then firstI f xs else f x
def nameI (t:GTable) (n:Str):Int:=if (namedC t n).isSome = true then 0 else 11
theorem p_columnsCode_L1 (t:GTable):∀ l:List Str,impl_columnsCode_L1 t l = some (if firstI (nameI t) l = 0 then .go () else .ret 11)
  | [] => by rw [impl_columnsCode_L1]; simp [firstI]
  | x :: xs => by
    obtain ⟨c,e,_⟩:=p_named t x
    rw [impl_columnsCode_L1,e,Option.bind_some,p_columnsCode_L1 t xs]
    cases h:(namedC t x).isSome <;> simp [firstI,nameI,h]
theorem first_11 (t:GTable):∀ l:List Str,firstI (nameI t) l = 0 ∨ firstI (nameI t) l = 11
  | [] => .inl rfl
  | x :: xs => by
    simp only [firstI]
    split
    · exact first_11 t xs
    · rename_i h
      unfold nameI at h ⊢
      split
      · rename_i h2; rw [if_pos h2] at h; exact absurd rfl h
      · exact .inr rfl
theorem p_columnsCode (t:GTable) (l:List Str):impl_columnsCode t l = some (firstI (nameI t) l):=by
  unfold impl_columnsCode
  rw [p_columnsCode_L1]
  rcases first_11 t l with h | h <;> simp [h]
theorem p_sPick_L1 (t:GTable):∀ l:List Str,spec_PickColumns_L1 t l = some (if firstI (nameI t) l = 0 then .go () else .ret ((⟨0,[]⟩:GRow),11))
  | [] => by rw [spec_PickColumns_L1]; simp [firstI]
  | x :: xs => by
    rw [spec_PickColumns_L1,p_l04Column,Option.bind_some,atI_neg,p_sPick_L1 t xs]
    have hs:(namedC t x).isSome = (decide (x = uuidS) || (colK t x).isSome):=by
      unfold namedC
      cases hk:colK t x with
      | some k =>
        obtain ⟨c,_,e2⟩:=colK_get hk
        show (t.Columns[k]?).isSome = _
        rw [e2]; simp
      | none => by_cases h:x = uuidS <;> simp [h]
    by_cases h:x = uuidS
    · have hb:(!(x == [95,117,117,105,100])) = false:=by simp [h,uuidS]
      have hs':(namedC t x).isSome = true:=by rw [hs]; simp [h]
      have e:firstI (nameI t) (x :: xs) = firstI (nameI t) xs:=by simp only [firstI,nameI,hs',if_true]
      rw [hb,e]
      simp
    · have hb:(!(x == [95,117,117,105,100])) = true:=by simpa [uuidS] using h
      rw [hb]
      cases hk:colK t x <;> simp [firstI,nameI,hs,h,hk]
theorem p_PickColumns (t:GTable) (r:GRow) (ns:List Str) (hr:∀ d ∈ r.Cells,d.length ≤ maxLen):∃ o c,impl_PickColumns t r ns = some (o,c) ∧ spec_PickColumns t r ns = some (o,c) ∧ (o.Cells = [] ∨ (ns.length ≤ 4096 ∧ rowOKB t r = true ∧ o.Cells = ns.map (rcell t r))):=by
  unfold impl_PickColumns spec_PickColumns impl_isList_string
  rw [p_RowOK t r hr,p_sRowOK,p_columnsCode,p_sPick_L1]
  by_cases c:(ns.length:Int) > 4096
  · have c':¬ (ns.length:Int) ≤ 4096:=by omega
    exact ⟨⟨0,[]⟩,2,by simp [c'],by simp [c],.inl rfl⟩
  · have c':(ns.length:Int) ≤ 4096:=by omega
    cases hb:(tabB t && rowOKB t r) with
    | false => exact ⟨⟨0,[]⟩,1,by simp [c'],by simp [c],.inl rfl⟩
    | true =>
      simp only [Bool.and_eq_true] at hb
      rw [p_pick hb.2 ns (by omega),p_l08Pick hb.2 ns (by omega)]
      rcases first_11 t ns with k | k
      · exact ⟨⟨r.Id,ns.map (rcell t r)⟩,0,by simp [c',k],by simp [c,k],.inr ⟨by omega,hb.2,rfl⟩⟩
      · exact ⟨⟨0,[]⟩,11,by simp [c',k],by simp [c,k],.inl rfl⟩
theorem sw_map {α:Type} (f:α → List GAtom) (b:Nat) (h:∀ a,wtAtomS (f a) ≤ b):∀ l:List α,swAtomSS (l.map f) ≤ l.length * b
  | [] => by simp [swAtomSS]
  | a :: l => by
    have ih:=sw_map f b h l
    have:=h a
    simp only [List.map_cons,swAtomSS,List.length_cons,Nat.add_mul]
    omega
theorem rcell_wt {t:GTable} {r:GRow} (h:rowOKB t r = true) (n:Str):wtAtomS (rcell t r n) ≤ wtRow r + 1:=by
  cases hk:colK t n with
  | some k =>
    have:=swAtomSS_mem (rcell_some (rowOKB_len h) hk).2
    unfold wtRow wtAtomSS
    omega
  | none => simp [rcell,hk,wtAtomS,swAtomS,wtAtom]
theorem law_FnExactPickColumns (t:GTable) (r:GRow) (ns:List Str) (ht:okGTable t) (h:okGRow r) (hns:okL okS ns):laws_FnExactPickColumns t r ns = some true:=by
  unfold laws_FnExactPickColumns
  obtain ⟨r1,e1,hr1⟩:=p_szTable t 1048576 (by omega) (by omega) ht
  rw [e1,Option.bind_some]
  by_cases hn1:r1 < 0
  · rw [if_pos (decide_eq_true hn1)]
  rw [if_neg (by simpa using hn1)]
  obtain ⟨a1,a2⟩:=hr1.resolve_left hn1
  obtain ⟨r2,e2,hr2⟩:=p_szRow r r1 (by omega) (by omega) h
  rw [e2,Option.bind_some]
  by_cases hn2:r2 < 0
  · rw [if_pos (decide_eq_true hn2)]
  rw [if_neg (by simpa using hn2)]
  obtain ⟨b1,b2⟩:=hr2.resolve_left hn2
  obtain ⟨r3,e3,hr3⟩:=p_szStringS ns r2 (by omega) (by omega) hns
  rw [e3,Option.bind_some]
  by_cases hn3:r3 < 0
  · rw [if_pos (decide_eq_true hn3)]
  rw [if_neg (by simpa using hn3)]
  obtain ⟨c1,c2⟩:=hr3.resolve_left hn3
  have t1:=p_toTable t (by omega)
  have t2:=p_toRow r (by omega)
  have t3:=p_toStringS ns (by omega)
  obtain ⟨o,c,f1,f2,hk⟩:=p_PickColumns t r ns (okRow_small h)
  have hwo:wtRow o < 2 ^ 50:=by
    unfold wtRow wtAtomSS
    rcases hk with hk | ⟨k1,k2,k3⟩
    · rw [hk]; simp [swAtomSS]
    · rw [k3]
      have hm:=sw_map (rcell t r) (2 ^ 21) (fun n => by have:=rcell_wt k2 n; omega) ns
      have:ns.length * 2 ^ 21 ≤ 4096 * 2 ^ 21:=Nat.mul_le_mul_right _ k1
      rw [List.length_map]
      omega
  have q1:=cnt_wtTable t
  have q2:=cnt_wtRow r
  have q3:=cnt_wtStringS ns
  have m1:=p_markTable t 1 (fit_wtTable t (by omega)) (by omega) (by omega)
  have m2:=p_markRow r (1 + (cntTable t:Nat)) (fit_wtRow r (by omega)) (by omega) (by omega)
  have m3:=p_markStringS ns (1 + (cntTable t:Nat) + (cntRow r:Nat)) (fit_wtStringS ns (by omega)) (by omega) (by omega)
  have q4:=cnt_wtRow o
  have m4:=p_markRow o 1 (fit_wtRow o (by omega)) (by omega) (by omega)
  have m5:=p_heldRow o 1 (fit_wtRow o (by omega)) (by omega) (by omega)
  obtain ⟨oi,oc⟩:=o
  have em:(⟨oi,(mkRow ⟨oi,oc⟩ 1).Cells⟩:GRow) = mkRow ⟨oi,oc⟩ 1:=rfl
  have n1:decide ((1:Int) + (cntTable t:Nat) + (cntRow r:Nat) + (cntStringS ns:Nat) < 0) = false:=decide_eq_false (by omega)
  have n2:decide ((1:Int) + (cntRow ⟨oi,oc⟩:Nat) < 0) = false:=decide_eq_false (by omega)
  simp only [t1,t2,t3,Option.bind_some,f1,f2,p_eqRow,p_eqTable,p_eqStringS,m1,m2,m3,m4,em,m5,n1,n2,Bool.not_true,Bool.false_eq_true,if_false,bne_self_eq_false,cond_false]
end Go.R
