/- OpCode: the two ways come to one, and the law. -/
import Derived.Test.YthejoafcjkoahaaGreatSCH
set_option linter.all false
namespace Go.R
open Go
set_option linter.all false
def uuidS:Str:=[95,117,117,105,100]
def namedC (t:GTable) (name:Str):Option GColumn:=match colK t name with
  | some k => t.Columns[k]?
  | none => if name = uuidS then some ⟨uuidS,4,0,1,0,0,[],false⟩ else none
theorem p_named (t:GTable) (name:Str):∃ c,impl_Table_named t name = some (c,(namedC t name).isSome) ∧ ∀ d,namedC t name = some d → c = d:=by
  unfold impl_Table_named namedC
  rw [p_columnAt,Option.bind_some,atI_nn]
  cases hk:colK t name with
  | some k =>
    obtain ⟨x,e1,e2⟩:=colK_get hk
    simp only [Option.isSome_some,if_true,atI]
    rw [e1,Option.bind_some,e2]
    exact ⟨x,rfl,fun d hd => Option.some.inj hd⟩
  | none =>
    rw [if_neg (by simp)]
    by_cases h:name = uuidS
    · subst h
      refine ⟨⟨uuidS,4,0,1,0,0,[],false⟩,?_,fun d hd => ?_⟩
      · rw [if_pos rfl]; rw [if_pos (by simp [uuidS])]; rfl
      · rw [if_pos rfl] at hd; exact Option.some.inj hd
    · refine ⟨⟨[],0,0,0,0,0,[],false⟩,?_,fun d hd => ?_⟩
      · rw [if_neg h,if_neg (by simpa [uuidS] using h)]; rfl
      · rw [if_neg h] at hd; cases hd
def otherK (v:List GAtom) (k:Int):Bool:=match v[0]? with | some x => x.Kind != k | none => false
theorem p_other (v:List GAtom) (k:Int):((if (decide ((v.length:Int) > 0)) then (idx v 0).bind fun x => some (x.Kind != k) else some false:Option Bool)) = some (otherK v k):=by
  cases v with
  | nil => rfl
  | cons x xs => rw [if_pos (by simp)]; rfl
def condI (t:GTable) (c:GCond):Int:=match namedC t c.Column with
  | none => 11
  | some x => if otherK c.Value x.Kind = true then 9 else if (decide (3 ≤ c.Func ∧ c.Func ≤ 6) && (x.Kind != 1 || x.Max != 1 || (c.Value.length:Int) != 1)) = true then 9 else 0
theorem p_condCode (t:GTable) (c:GCond):impl_condCode t c = some (condI t c):=by
  unfold impl_condCode condI
  obtain ⟨x,e,h⟩:=p_named t c.Column
  rw [e,Option.bind_some]
  cases hn:namedC t c.Column with
  | none => simp
  | some d =>
    have:=h d hn
    subst this
    simp only [Option.isSome_some,Bool.not_true,Bool.false_eq_true,if_false,p_other,Option.bind_some,p_within]
    cases otherK c.Value x.Kind with
    | true => simp
    | false =>
      by_cases hf:3 ≤ c.Func ∧ c.Func ≤ 6 <;> cases h1:(x.Kind != 1) <;> cases h2:(x.Max != 1) <;> cases h3:((c.Value.length:Int) != 1) <;> simp [hf]
theorem p_l06Code (t:GTable) (c:GCond):spec_l06Code t c = some (condI t c):=by
  unfold spec_l06Code condI namedC
  rw [p_l04Column,Option.bind_some,atI_nn]
  cases hk:colK t c.Column with
  | some k =>
    obtain ⟨x,e1,e2⟩:=colK_get hk
    simp only [Option.isSome_some,if_true,atI]
    rw [e1,Option.bind_some,Option.bind_some,e2]
    simp only [p_other,Option.bind_some,p_in]
    cases otherK c.Value x.Kind with
    | true => simp
    | false =>
      by_cases hf:3 ≤ c.Func ∧ c.Func ≤ 6 <;> cases h1:(x.Kind != 1) <;> cases h2:(x.Max != 1) <;> cases h3:((c.Value.length:Int) != 1) <;> simp [hf]
  | none =>
    rw [if_neg (by simp)]
    by_cases h:c.Column = uuidS
    · have hb:(!(c.Column == [95,117,117,105,100])) = false:=by simp [h,uuidS]
      rw [hb]
      simp only [h,if_true,Bool.false_eq_true,if_false,Option.bind_some,p_other,p_in]
      cases otherK c.Value 4 with
      | true => simp
      | false => by_cases hf:3 ≤ c.Func ∧ c.Func ≤ 6 <;> simp [hf]
    · have hb:(!(c.Column == [95,117,117,105,100])) = true:=by simpa [uuidS] using h
      rw [hb]
      simp [h]
def firstI {α:Type} (f:α → Int):List α → Int
  | [] => 0
  | x :: xs => if f x = 0 then firstI f xs else f x
theorem firstI_ret {α:Type} {f:α → Int}:∀ {l:List α},firstI f l = 0 → ∀ x ∈ l,f x = 0
  | [],_,x,hx => by simp at hx
  | y :: ys,h,x,hx => by
    simp only [firstI] at h
    split at h
    · rename_i h0
      rcases List.mem_cons.1 hx with rfl | hx
      · exact h0
      · exact firstI_ret h x hx
    · rename_i h0; exact absurd h h0
theorem p_condsCode_L1 (t:GTable):∀ l:List GCond,impl_condsCode_L1 t l = some (if firstI (condI t) l = 0 then .go () else .ret (firstI (condI t) l))
  | [] => by rw [impl_condsCode_L1]; simp [firstI]
  | x :: xs => by
    rw [impl_condsCode_L1,p_condCode,Option.bind_some,p_condsCode_L1 t xs]
    by_cases h:condI t x = 0 <;> simp [firstI,h]
theorem p_condsCode (t:GTable) (l:List GCond):impl_condsCode t l = some (firstI (condI t) l):=by
  unfold impl_condsCode
  rw [p_condsCode_L1]
  by_cases h:firstI (condI t) l = 0 <;> simp [h]
theorem p_l06Conds_L1 (t:GTable):∀ l:List GCond,spec_l06Conds_L1 t l = some (if firstI (condI t) l = 0 then .go () else .ret (firstI (condI t) l))
  | [] => by rw [spec_l06Conds_L1]; simp [firstI]
  | x :: xs => by
    rw [spec_l06Conds_L1,p_l06Code,Option.bind_some,p_l06Conds_L1 t xs]
    by_cases h:condI t x = 0 <;> simp [firstI,h]
theorem p_l06Conds (t:GTable) (l:List GCond):spec_l06Conds t l = some (firstI (condI t) l):=by
  unfold spec_l06Conds
  rw [p_l06Conds_L1]
  by_cases h:firstI (condI t) l = 0 <;> simp [h]
def mutI (t:GTable) (m:GMut):Int:=match colK t m.Column with
  | none => 11
  | some k => match t.Columns[k]? with
    | none => 0
    | some x => if otherK m.Value x.Kind = true then 9 else if (decide (m.Func ≤ 5) && (x.Kind != 1 || (m.Value.length:Int) != 1)) = true then 9 else 0
theorem p_mutCode (t:GTable) (m:GMut):impl_mutCode t m = some (mutI t m):=by
  unfold impl_mutCode impl_Mut_typeCode mutI
  rw [p_columnAt,Option.bind_some,atI_neg]
  cases hk:colK t m.Column with
  | none => simp
  | some k =>
    obtain ⟨x,e1,e2⟩:=colK_get hk
    simp only [Option.isNone_some,Bool.false_eq_true,if_false,atI]
    rw [e1,Option.bind_some,e2]
    simp only [p_other,Option.bind_some]
    cases otherK m.Value x.Kind with
    | true => simp
    | false =>
      by_cases hf:m.Func ≤ 5 <;> cases h1:(x.Kind != 1) <;> cases h3:((m.Value.length:Int) != 1) <;> simp [hf]
theorem p_l07Code (t:GTable) (m:GMut):spec_l07Code t m = some (mutI t m):=by
  unfold spec_l07Code mutI
  rw [p_l04Column,Option.bind_some,atI_neg]
  cases hk:colK t m.Column with
  | none => simp
  | some k =>
    obtain ⟨x,e1,e2⟩:=colK_get hk
    simp only [Option.isNone_some,Bool.false_eq_true,if_false,atI]
    rw [e1,Option.bind_some,e2]
    simp only [p_other,Option.bind_some]
    cases otherK m.Value x.Kind with
    | true => simp
    | false =>
      by_cases hf:m.Func ≤ 5 <;> cases h1:(x.Kind != 1) <;> cases h3:((m.Value.length:Int) != 1) <;> simp [hf]
theorem p_mutsCode_L1 (t:GTable):∀ l:List GMut,impl_mutsCode_L1 t l = some (if firstI (mutI t) l = 0 then .go () else .ret (firstI (mutI t) l))
  | [] => by rw [impl_mutsCode_L1]; simp [firstI]
  | x :: xs => by
    rw [impl_mutsCode_L1,p_mutCode,Option.bind_some,p_mutsCode_L1 t xs]
    by_cases h:mutI t x = 0 <;> simp [firstI,h]
theorem p_mutsCode (t:GTable) (l:List GMut):impl_mutsCode t l = some (firstI (mutI t) l):=by
  unfold impl_mutsCode
  rw [p_mutsCode_L1]
  by_cases h:firstI (mutI t) l = 0 <;> simp [h]
theorem p_l07Codes_L1 (t:GTable):∀ l:List GMut,spec_l07Codes_L1 t l = some (if firstI (mutI t) l = 0 then .go () else .ret (firstI (mutI t) l))
  | [] => by rw [spec_l07Codes_L1]; simp [firstI]
  | x :: xs => by
    rw [spec_l07Codes_L1,p_l07Code,Option.bind_some,p_l07Codes_L1 t xs]
    by_cases h:mutI t x = 0 <;> simp [firstI,h]
theorem p_l07Codes (t:GTable) (l:List GMut):spec_l07Codes t l = some (firstI (mutI t) l):=by
  unfold spec_l07Codes
  rw [p_l07Codes_L1]
  by_cases h:firstI (mutI t) l = 0 <;> simp [h]
def setI (t:GTable) (list:List GSet) (i:Nat) (x:GSet):Int:=match colK t x.Column with
  | none => 11
  | some k => if (list.take i).any (fun y => y.Column == x.Column) = true then 8 else match t.Columns[k]? with
    | none => 0
    | some c => if (otherK x.Value c.Kind || (decide ((x.Names.length:Int) > 0) && c.Kind != 4)) = true then 9 else 0
def setsI (t:GTable) (list:List GSet):List GSet → Nat → Int
  | [],_ => 0
  | x :: xs,i => if setI t list i x = 0 then setsI t list xs (i + 1) else setI t list i x
theorem p_setsCode_L1 (t:GTable) (list:List GSet):∀ (xs:List GSet) (i:Nat),list.drop i = xs → impl_setsCode_L1 t list xs i = some (if setsI t list xs i = 0 then .go () else .ret (setsI t list xs i))
  | [],i,_ => by rw [impl_setsCode_L1]; simp [setsI]
  | x :: xs,i,h => by
    have hi:=drop_lt h
    rw [impl_setsCode_L1,p_columnAt,Option.bind_some,atI_neg]
    have hx:setsI t list (x :: xs) i = if setI t list i x = 0 then setsI t list xs (i + 1) else setI t list i x:=rfl
    rw [hx,p_setsCode_L1 t list xs (i + 1) (drop_next h)]
    unfold setI
    cases hk:colK t x.Column with
    | none => simp
    | some k =>
      obtain ⟨c,e1,e2⟩:=colK_get hk
      simp only [Option.isNone_some,Bool.false_eq_true,if_false,atI]
      rw [if_pos (by omega),p_slices_ContainsFunc_impl_Set_impl_Set _ (fun y => y.Column == x.Column) (list.take i) (fun y _ => by unfold impl_setsCode_1; rfl),Option.bind_some]
      cases ha:(list.take i).any (fun y => y.Column == x.Column) with
      | true => simp
      | false =>
        simp only [Bool.false_eq_true,if_false,e2,e1,Option.bind_some]
        have ho:=p_other x.Value c.Kind
        cases hv:x.Value with
        | nil =>
          by_cases hn:x.Names = [] <;> by_cases h4:c.Kind = 4 <;> simp [otherK,hn,List.length_pos_iff,h4]
        | cons a v =>
          have e0:idx (a :: v) 0 = some a:=rfl
          rw [e0]
          by_cases hn:x.Names = [] <;> by_cases h4:c.Kind = 4 <;> by_cases h5:a.Kind = c.Kind <;> by_cases h6:a.Kind = 4 <;> by_cases h7:4 = c.Kind <;> first | (exfalso; omega) | (simp [otherK,hn,List.length_pos_iff,h5,h4,h6]; done) | (simp [otherK,hn,List.length_pos_iff,h5,h4,h6,h7]; done)
theorem p_setsCode (t:GTable) (list:List GSet):impl_setsCode t list = some (setsI t list list 0):=by
  unfold impl_setsCode
  rw [p_setsCode_L1 t list list 0 (by simp)]
  by_cases h:setsI t list list 0 = 0 <;> simp [h]
theorem p_l08Sets_L2 (list:List GSet) (x:GSet) (i:Nat) (hi:i ≤ list.length) (hl:list.length ≤ 6):∀ (n k fuel:Nat),n + k = i → n < fuel → spec_l08Sets_L2 i list x fuel k = some (if ((list.take i).drop k).any (fun c => c.Column == x.Column) = true then .ret 8 else .go ())
  | _,_,0,_,h => by omega
  | 0,k,fuel + 1,hk,_ => by
    rw [spec_l08Sets_L2,if_neg (by simp; omega),List.drop_of_length_le (by simp; omega)]; simp
  | n + 1,k,fuel + 1,hk,hf => by
    obtain ⟨y,hy⟩:∃ y,list[k]? = some y:=⟨list[k]'(by omega),List.getElem?_eq_getElem (by omega)⟩
    have hd:(list.take i).drop k = y :: (list.take i).drop (k + 1):=by
      have hk2:k < (list.take i).length:=by simp; omega
      rw [List.drop_eq_getElem_cons hk2]
      congr 1
      rw [List.getElem_take]
      exact (List.getElem?_eq_some_iff.1 hy).2
    have ew:w64 ((k:Int) + 1) = ((k + 1:Nat):Int):=by rw [w64_id (by omega)]; omega
    rw [spec_l08Sets_L2,if_pos (by simp; omega),idx_nat,hy,Option.bind_some,ew,p_l08Sets_L2 list x i hi hl n (k + 1) fuel (by omega) (by omega),hd]
    cases hn:(y.Column == x.Column) <;> simp [hn]
theorem p_l08Sets_L1 (t:GTable) (list:List GSet) (hl:list.length ≤ 6):∀ (xs:List GSet) (i:Nat),list.drop i = xs → spec_l08Sets_L1 t list xs i = some (if setsI t list xs i = 0 then .go () else .ret (setsI t list xs i))
  | [],i,_ => by rw [spec_l08Sets_L1]; simp [setsI]
  | x :: xs,i,h => by
    have hi:=drop_lt h
    have hf:2 ^ 40 < FUEL:=by unfold FUEL; decide
    have e:=p_l08Sets_L2 list x i (by omega) hl i 0 FUEL (by omega) (by omega)
    rw [List.drop_zero] at e
    have e':spec_l08Sets_L2 i list x FUEL 0 = _:=e
    rw [spec_l08Sets_L1,p_l04Column,Option.bind_some,atI_neg]
    have hx:setsI t list (x :: xs) i = if setI t list i x = 0 then setsI t list xs (i + 1) else setI t list i x:=rfl
    rw [hx,p_l08Sets_L1 t list hl xs (i + 1) (drop_next h),e']
    unfold setI
    cases hk:colK t x.Column with
    | none => simp
    | some k =>
      obtain ⟨c,e1,e2⟩:=colK_get hk
      simp only [Option.isNone_some,Bool.false_eq_true,if_false,atI]
      cases ha:(list.take i).any (fun y => y.Column == x.Column) with
      | true => simp
      | false =>
        simp only [Bool.false_eq_true,if_false,e2,e1,Option.bind_some]
        cases hv:x.Value with
        | nil =>
          by_cases hn:x.Names = [] <;> by_cases h4:c.Kind = 4 <;> simp [otherK,hn,List.length_pos_iff,h4]
        | cons a v =>
          have e0:idx (a :: v) 0 = some a:=rfl
          rw [e0]
          by_cases hn:x.Names = [] <;> by_cases h4:c.Kind = 4 <;> by_cases h5:a.Kind = c.Kind <;> by_cases h6:a.Kind = 4 <;> by_cases h7:4 = c.Kind <;> first | (exfalso; omega) | (simp [otherK,hn,List.length_pos_iff,h5,h4,h6]; done) | (simp [otherK,hn,List.length_pos_iff,h5,h4,h6,h7]; done)
theorem p_l08Sets (t:GTable) (list:List GSet) (hl:list.length ≤ 6):spec_l08Sets t list = some (setsI t list list 0):=by
  unfold spec_l08Sets
  rw [p_l08Sets_L1 t list hl list 0 (by simp)]
  by_cases h:setsI t list list 0 = 0 <;> simp [h]
def nameI (t:GTable) (n:Str):Int:=if (namedC t n).isSome = true then 0 else 11
theorem p_columnsCode_L1 (t:GTable):∀ l:List Str,impl_columnsCode_L1 t l = some (if firstI (nameI t) l = 0 then .go () else .ret 11)
  | [] => by rw [impl_columnsCode_L1]; simp [firstI]
  | x :: xs => by
    obtain ⟨c,e,_⟩:=p_named t x
    rw [impl_columnsCode_L1,e,Option.bind_some,p_columnsCode_L1 t xs]
    cases h:(namedC t x).isSome <;> simp [firstI,nameI,h]
theorem first_11 (t:GTable):∀ l:List Str,firstI (nameI t) l = 0 ∨ firstI (nameI t) l = 11
  | [] => .inl rfl
  | x :: xs => by
    simp only [firstI]
    split
    · exact first_11 t xs
    · rename_i h
      unfold nameI at h ⊢
      split
      · rename_i h2; rw [if_pos h2] at h; exact absurd rfl h
      · exact .inr rfl
theorem p_columnsCode (t:GTable) (l:List Str):impl_columnsCode t l = some (firstI (nameI t) l):=by
  unfold impl_columnsCode
  rw [p_columnsCode_L1]
  rcases first_11 t l with h | h <;> simp [h]
theorem p_l08Code_L1 (t:GTable):∀ l:List Str,spec_l08Code_L1 t l = some (if firstI (nameI t) l = 0 then .go () else .ret 11)
  | [] => by rw [spec_l08Code_L1]; simp [firstI]
  | x :: xs => by
    rw [spec_l08Code_L1,p_l04Column,Option.bind_some,atI_neg,p_l08Code_L1 t xs]
    have hs:(namedC t x).isSome = (decide (x = uuidS) || (colK t x).isSome):=by
      unfold namedC
      cases hk:colK t x with
      | some k =>
        obtain ⟨c,_,e2⟩:=colK_get hk
        show (t.Columns[k]?).isSome = _
        rw [e2]; simp
      | none => by_cases h:x = uuidS <;> simp [h]
    by_cases h:x = uuidS
    · have hb:(!(x == [95,117,117,105,100])) = false:=by simp [h,uuidS]
      have hs':(namedC t x).isSome = true:=by rw [hs]; simp [h]
      have e:firstI (nameI t) (x :: xs) = firstI (nameI t) xs:=by simp only [firstI,nameI,hs',if_true]
      rw [hb,e]
      simp
    · have hb:(!(x == [95,117,117,105,100])) = true:=by simpa [uuidS] using h
      rw [hb]
      cases hk:colK t x <;> simp [firstI,nameI,hs,h,hk]
theorem p_firstOf (a b c d:Int):impl_firstOf [a,b,c,d] = some (if a ≠ 0 then a else if b ≠ 0 then b else if c ≠ 0 then c else d):=by
  unfold impl_firstOf
  simp only [impl_firstOf_L1]
  by_cases h1:a = 0 <;> by_cases h2:b = 0 <;> by_cases h3:c = 0 <;> by_cases h4:d = 0 <;> simp [h1,h2,h3,h4]
theorem opB_row {o:GOp} (h:opB o = true):o.Row.length ≤ 6 ∧ (o.Kind ≤ 6 → o.Kind ≠ 1 → o.Name = []):=by
  simp only [opB,Bool.and_eq_true,decide_eq_true_eq] at h
  refine ⟨by omega,fun h1 h2 => ?_⟩
  have hu:=h.1.1.1.1.1.1
  simp only [useB,Bool.and_eq_true,Bool.or_eq_true,decide_eq_true_eq] at hu
  have:=hu.1.1.1.1.2
  rcases this with (h3 | h3) | h3
  · exact absurd h3 h2
  · omega
  · exact h3
theorem p_opCode (s:GSchema) (o:GOp) (ho:opB o = true):∃ r,impl_opCode s o = some r ∧ spec_l08Code s o = some r:=by
  obtain ⟨hr,hnm⟩:=opB_row ho
  unfold impl_opCode spec_l08Code
  simp only [p_NameOK,p_specNameOK,Option.bind_some,p_tableAt,p_l04Find,atI_neg]
  by_cases hk:o.Kind > 6
  · have hd:decide (o.Kind > 6) = true:=decide_eq_true hk
    simp only [hd,if_true]
    by_cases h10:o.Kind = 10 <;> cases hn:nameOK o.Name <;> simp [h10]
  · have hd:decide (o.Kind > 6) = false:=decide_eq_false hk
    simp only [hd,Bool.false_eq_true,if_false]
    cases ht:tabK s o.Table with
    | none => exact ⟨10,by simp,by simp⟩
    | some k =>
      obtain ⟨t,e1,_⟩:=tabK_get ht
      have en:(bif (o.Kind == 1) then (!(o.Name == [])) else false) = (!(o.Name == [])):=by
        by_cases h1:o.Kind = 1
        · simp [h1]
        · have:=hnm (by omega) h1
          simp [h1,this]
      rw [en]
      simp only [Option.isNone_some,Bool.false_eq_true,if_false,atI,e1,Option.bind_some,p_columnsCode,p_condsCode,p_setsCode,p_mutsCode,p_firstOf,p_l08Code_L1,p_l06Conds,p_l08Sets t o.Row hr,p_l07Codes]
      cases hc:((if (!(o.Name == [])) = true then some (!nameOK o.Name) else some false:Option Bool)) with
      | none => exfalso; split at hc <;> cases hc
      | some b =>
        rw [Option.bind_some,Option.bind_some]
        cases b with
        | true => exact ⟨3,by simp,by simp⟩
        | false =>
          simp only [Bool.false_eq_true,if_false]
          rcases first_11 t o.Columns with h | h
          · rw [h]
            by_cases h2:firstI (condI t) o.Where = 0
            · by_cases h3:setsI t o.Row o.Row 0 = 0
              · exact ⟨_,rfl,by simp [h2,h3]⟩
              · exact ⟨_,rfl,by simp [h2,h3]⟩
            · exact ⟨_,rfl,by simp [h2]⟩
          · rw [h]
            exact ⟨11,by simp,by simp⟩
theorem p_OpCode (s:GSchema) (o:GOp) (h:OpLen o):∃ r,impl_OpCode s o = some r ∧ spec_OpCode s o = some r:=by
  unfold impl_OpCode spec_OpCode
  rw [p_SchemaOK,p_sSchemaOK,p_OpOK o h,p_sOpOK]
  cases hs:schB s with
  | false => exact ⟨(0,1),by simp,by simp⟩
  | true =>
    cases ho:opB o with
    | false => exact ⟨(0,1),by simp,by simp⟩
    | true =>
      obtain ⟨r,e1,e2⟩:=p_opCode s o ho
      exact ⟨(r,0),by simp [e1],by simp [e2]⟩
theorem law_FnExactOpCode (s:GSchema) (o:GOp) (hs:okGSchema s) (h:okGOp o):laws_FnExactOpCode s o = some true:=by
  unfold laws_FnExactOpCode
  obtain ⟨r,e,hr⟩:=p_szSchema s 1048576 (by omega) (by omega) hs
  rw [e,Option.bind_some]
  split
  · rfl
  · rename_i hn
    simp only [decide_eq_true_eq] at hn
    obtain ⟨h1,h2,h3⟩:=hr.resolve_left hn
    obtain ⟨r2,e2,hr2⟩:=p_szOp o r (by omega) (by omega) h
    rw [e2,Option.bind_some]
    split
    · rfl
    · rename_i hn2
      simp only [decide_eq_true_eq] at hn2
      obtain ⟨k1,k2,k3⟩:=hr2.resolve_left hn2
      have es:=p_toSchema s (smSchema_mono (by omega) h3)
      have et:=p_toOp o (smOp_mono (by omega) k3)
      have hl:OpLen o:=by
        obtain ⟨_,_,_,hw,hr,hm,_,_⟩:=h
        exact ⟨fun c hc => (hw.2 c hc).2.2.1,fun c hc => (hm.2 c hc).2.2.1,fun c hc => (hr.2 c hc).2.1.1⟩
      obtain ⟨q,g1,g2⟩:=p_OpCode s o hl
      have eq1:=p_eqOp o
      have eq2:=p_eqSchema s
      simp only [es,et,Option.bind_some,g1,g2,eq1,eq2]
      simp
end Go.R
