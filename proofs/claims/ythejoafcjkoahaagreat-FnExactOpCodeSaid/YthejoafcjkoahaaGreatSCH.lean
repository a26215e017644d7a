/- Schemas: the two ways come to one. Behind TXI, TXS, NM, and the law's slices.IndexFunc. -/
import Derived.Test.YthejoafcjkoahaaGreatOOL2
import Derived.Test.YthejoafcjkoahaaGreatP0
set_option linter.all false
namespace Go.R
open Go
set_option linter.all false
theorem beqD {α:Type} [BEq α] [LawfulBEq α] [DecidableEq α] (a b:α):(a == b) = decide (a = b):=by by_cases h:a = b <;> simp [h]
def allI {α:Type} (f:Nat → α → Bool):List α → Nat → Bool
  | [],_ => true
  | x :: xs,i => f i x && allI f xs (i + 1)
theorem allI_iff {α:Type} (f:Nat → α → Bool):∀ (xs:List α) (i:Nat),allI f xs i = true ↔ ∀ q x,xs[q]? = some x → f (i + q) x = true
  | [],i => by simp [allI]
  | x :: xs,i => by
    simp only [allI,Bool.and_eq_true,allI_iff f xs (i + 1)]
    constructor
    · rintro ⟨h1,h2⟩ q y hq
      cases q with
      | zero => simp at hq; subst hq; simpa using h1
      | succ q => have:=h2 q y (by simpa using hq); rw [show i + (q + 1) = i + 1 + q from by omega]; exact this
    · intro h
      refine ⟨by simpa using h 0 x (by simp),fun q y hq => ?_⟩
      have:=h (q + 1) y (by simpa using hq)
      rw [show i + 1 + q = i + (q + 1) from by omega]; exact this
theorem allI_and {α:Type} (f:Nat → α → Bool) (g:α → Bool):∀ (xs:List α) (i:Nat),allI (fun i x => f i x && g x) xs i = (allI f xs i && xs.all g)
  | [],i => rfl
  | x :: xs,i => by
    simp only [allI,List.all_cons,allI_and f g xs (i + 1)]
    cases f i x <;> cases g x <;> simp
theorem allI_mem {α:Type} {f:Nat → α → Bool} {xs:List α} {i:Nat} (h:allI f xs i = true) {x:α} (hx:x ∈ xs):∃ q,f q x = true:=by
  obtain ⟨q,hq⟩:=List.mem_iff_getElem?.1 hx
  exact ⟨_,(allI_iff f xs i).1 h q x hq⟩
def atI (o:Option Nat):Int:=match o with | some k => (k:Int) | none => -1
theorem atI_neg {o:Option Nat}:decide (atI o < 0) = o.isNone:=by
  cases o with
  | none => rfl
  | some k => exact decide_eq_false (show ¬ ((k:Nat):Int) < 0 by omega)
theorem atI_nn {o:Option Nat}:decide (atI o ≥ 0) = o.isSome:=by
  cases o with
  | none => rfl
  | some k => simp [atI]
def colK (t:GTable) (name:Str):Option Nat:=t.Columns.findIdx? (fun c => c.Name == name)
def tabK (s:GSchema) (name:Str):Option Nat:=s.Tables.findIdx? (fun c => c.Name == name)
theorem colK_get {t:GTable} {name:Str} {k:Nat} (h:colK t name = some k):∃ x,idx t.Columns (k:Int) = some x ∧ t.Columns[k]? = some x:=by
  obtain ⟨h1,h2,_⟩:=List.findIdx?_eq_some_iff_getElem.1 h
  exact ⟨t.Columns[k],by rw [idx_nat]; simp [h1],by simp [h1]⟩
theorem tabK_get {s:GSchema} {name:Str} {k:Nat} (h:tabK s name = some k):∃ x,idx s.Tables (k:Int) = some x ∧ x ∈ s.Tables:=by
  obtain ⟨h1,h2,_⟩:=List.findIdx?_eq_some_iff_getElem.1 h
  exact ⟨s.Tables[k],by rw [idx_nat]; simp [h1],List.getElem_mem _⟩
theorem p_l04Column_L1 (name:Str):∀ (xs:List GColumn) (i:Nat),spec_l04Column_L1 name xs i = some (match xs.findIdx? (fun c => c.Name == name) with | some k => .ret ((i + k:Nat):Int) | none => .go ())
  | [],i => by rw [spec_l04Column_L1]; rfl
  | x :: xs,i => by
    rw [spec_l04Column_L1,p_l04Column_L1 name xs (i + 1),List.findIdx?_cons]
    cases hp:(x.Name == name) with
    | true => simp
    | false =>
      cases hq:xs.findIdx? (fun c => c.Name == name) with
      | none => simp
      | some k => simp; omega
theorem p_l04Column (t:GTable) (name:Str):spec_l04Column t name = some (atI (colK t name)):=by
  unfold spec_l04Column colK atI
  rw [p_l04Column_L1]
  cases hq:t.Columns.findIdx? (fun c => c.Name == name) <;> simp
theorem p_l04Find_L1 (name:Str):∀ (xs:List GTable) (i:Nat),spec_l04Find_L1 name xs i = some (match xs.findIdx? (fun c => c.Name == name) with | some k => .ret ((i + k:Nat):Int) | none => .go ())
  | [],i => by rw [spec_l04Find_L1]; rfl
  | x :: xs,i => by
    rw [spec_l04Find_L1,p_l04Find_L1 name xs (i + 1),List.findIdx?_cons]
    cases hp:(x.Name == name) with
    | true => simp
    | false =>
      cases hq:xs.findIdx? (fun c => c.Name == name) with
      | none => simp
      | some k => simp; omega
theorem p_l04Find (s:GSchema) (name:Str):spec_l04Find s name = some (atI (tabK s name)):=by
  unfold spec_l04Find tabK atI
  rw [p_l04Find_L1]
  cases hq:s.Tables.findIdx? (fun c => c.Name == name) <;> simp
theorem p_columnAt (t:GTable) (name:Str):impl_Table_columnAt t name = some (atI (colK t name)):=by
  unfold impl_Table_columnAt
  rw [p_slices_IndexFunc_impl_Column_impl_Column _ (fun c => c.Name == name) t.Columns (fun x _ => by unfold impl_Table_columnAt_1; rfl)]
  rfl
theorem p_tableAt (s:GSchema) (name:Str):impl_Schema_tableAt s name = some (atI (tabK s name)):=by
  unfold impl_Schema_tableAt
  rw [p_slices_IndexFunc_impl_Table_impl_Table _ (fun c => c.Name == name) s.Tables (fun x _ => by unfold impl_Schema_tableAt_1; rfl)]
  rfl
def colB (c:GColumn):Bool :=
  nameOK c.Name && decide (0 ≤ c.Min ∧ c.Min ≤ 1) && decide (1 ≤ c.Max ∧ c.Max ≤ 8) &&
  ((decide (c.Kind = 1) && decide (-1000000000 ≤ c.Low ∧ c.Low ≤ c.High ∧ c.High ≤ 1000000000) && decide (c.Ref = []) && !c.Strong) ||
   ((decide (c.Kind = 2) || decide (c.Kind = 3)) && decide (c.Low = 0) && decide (c.High = 0) && decide (c.Ref = []) && !c.Strong) ||
   (decide (c.Kind = 4) && decide (c.Low = 0) && decide (c.High = 0) && nameOK c.Ref && decide (c.Min = 0)))
theorem p_ColumnOK (c:GColumn):impl_ColumnOK c = some (colB c):=by
  unfold impl_ColumnOK impl_isNumber colB
  simp only [p_NameOK,p_within,Option.bind_some,beqD]
  by_cases h1:0 ≤ c.Min ∧ c.Min ≤ 1
  · by_cases h2:1 ≤ c.Max ∧ c.Max ≤ 8
    · cases hn:nameOK c.Name with
      | false => simp
      | true =>
        simp only [h1,h2,and_self,decide_true,Bool.not_true,Bool.false_eq_true,if_false,Option.bind_some,Bool.true_and]
        by_cases k1:c.Kind = 1
        · simp only [k1]
          by_cases a1:-1000000000 ≤ c.Low ∧ c.Low ≤ c.High ∧ c.High ≤ 1000000000
          · have e1:-1000000000 ≤ c.Low ∧ c.Low ≤ 1000000000:=by omega
            have e2:-1000000000 ≤ c.High ∧ c.High ≤ 1000000000:=by omega
            simp [a1,e1,e2]
          · by_cases e1:-1000000000 ≤ c.Low ∧ c.Low ≤ 1000000000
            · by_cases e2:-1000000000 ≤ c.High ∧ c.High ≤ 1000000000
              · have e3:¬ c.Low ≤ c.High:=by omega
                simp [a1,e1,e2,e3]
              · have a1':¬ (c.Low ≤ c.High ∧ c.High ≤ 1000000000):=by omega
                simp [e1,e2]
                intro p q; exact absurd ⟨p,q⟩ a1'
            · have a2:(-1000000000 ≤ c.Low ∧ c.Low ≤ c.High ∧ c.High ≤ 1000000000) = False:=eq_false a1
              simp only [e1,a2]; simp
        · by_cases k2:c.Kind = 2
          · simp [k2]
          · by_cases k3:c.Kind = 3
            · simp [k3]
            · by_cases k4:c.Kind = 4
              · simp only [k4]
                by_cases a1:c.Low = 0 <;> by_cases a2:c.High = 0 <;> cases a3:nameOK c.Ref <;> simp [a1,a2]
              · simp [k1,k2,k3,k4]
    · cases hn:nameOK c.Name <;> simp [h1,h2]
  · cases hn:nameOK c.Name <;> simp [h1]
theorem p_sColumnOK (c:GColumn):spec_ColumnOK c = some (colB c):=by
  unfold spec_ColumnOK colB
  simp only [p_specNameOK,p_in,Option.bind_some,beqD,bne]
  by_cases h1:0 ≤ c.Min ∧ c.Min ≤ 1
  · by_cases h2:1 ≤ c.Max ∧ c.Max ≤ 8
    · cases hn:nameOK c.Name with
      | false => simp
      | true =>
        by_cases hk:1 ≤ c.Kind ∧ c.Kind ≤ 4
        · simp only [h1,h2,hk,and_self,decide_true,Bool.not_true,Bool.false_eq_true,if_false,Option.bind_some,Bool.true_and]
          by_cases k1:c.Kind = 1
          · simp only [k1]
            by_cases a1:-1000000000 ≤ c.Low ∧ c.Low ≤ c.High ∧ c.High ≤ 1000000000
            · have e1:-1000000000 ≤ c.Low ∧ c.Low ≤ c.High:=by omega
              have e2:c.Low ≤ c.High ∧ c.High ≤ 1000000000:=by omega
              simp [a1,e1,e2]
            · by_cases e1:-1000000000 ≤ c.Low ∧ c.Low ≤ c.High
              · have e2:¬ (c.Low ≤ c.High ∧ c.High ≤ 1000000000):=by omega
                simp [a1,e1,e2]
              · simp [a1,e1]
          · by_cases a1:c.Low = 0
            · by_cases a2:c.High = 0
              · by_cases k4:c.Kind = 4
                · cases a3:nameOK c.Ref <;> simp [k4,a1,a2]
                · have:c.Kind = 2 ∨ c.Kind = 3:=by omega
                  by_cases a4:c.Ref = [] <;> rcases this with k | k <;> simp [k,a1,a2,a4]
              · simp [k1,a1,a2]
            · simp [k1,a1]
        · have k1:¬ c.Kind = 1:=by omega
          have k2:¬ c.Kind = 2:=by omega
          have k3:¬ c.Kind = 3:=by omega
          have k4:¬ c.Kind = 4:=by omega
          simp [hk,k1,k2,k3,k4]
    · cases hn:nameOK c.Name <;> by_cases hk:1 ≤ c.Kind ∧ c.Kind ≤ 4 <;> simp [h1,h2,hk]
  · cases hn:nameOK c.Name <;> by_cases hk:1 ≤ c.Kind ∧ c.Kind ≤ 4 <;> simp [h1,hk]
theorem colB_ref {c:GColumn} (h:colB c = true):(c.Kind = 4 ↔ c.Ref ≠ []):=by
  unfold colB at h
  simp only [Bool.and_eq_true,Bool.or_eq_true,decide_eq_true_eq] at h
  rcases h.2 with (⟨⟨⟨h1,_⟩,h2⟩,_⟩ | ⟨⟨⟨⟨h1,_⟩,_⟩,h2⟩,_⟩) | ⟨⟨⟨⟨h1,_⟩,_⟩,h2⟩,_⟩
  · simp [h1,h2]
  · have:c.Kind ≠ 4:=by omega
    simp [this,h2]
  · refine ⟨fun _ he => ?_,fun _ => h1⟩
    rw [he] at h2
    cases h2
def colStep (t:GTable) (i:Nat) (x:GColumn):Bool:=colB x && !(t.Columns.take i).any (fun c => c.Name == x.Name)
theorem colK_here {t:GTable} {i:Nat} {x:GColumn} (hx:t.Columns[i]? = some x):(atI (colK t x.Name) != (i:Int)) = (t.Columns.take i).any (fun c => c.Name == x.Name):=by
  have hi:=(List.getElem?_eq_some_iff.1 hx).1
  have hxe:=(List.getElem?_eq_some_iff.1 hx).2
  by_cases ha:(t.Columns.take i).any (fun c => c.Name == x.Name) = true
  · rw [ha]
    obtain ⟨c,hc,hn⟩:=List.any_eq_true.1 ha
    obtain ⟨j,hj⟩:=List.mem_iff_getElem?.1 hc
    have hji:j < i:=by have:=(List.getElem?_eq_some_iff.1 hj).1; simp at this; omega
    rw [List.getElem?_take_of_lt hji] at hj
    have hne:colK t x.Name ≠ some i:=by
      intro he
      obtain ⟨_,_,h3⟩:=List.findIdx?_eq_some_iff_getElem.1 he
      have:=h3 j hji
      rw [(List.getElem?_eq_some_iff.1 hj).2] at this
      exact this hn
    cases hk:colK t x.Name with
    | none => simp [atI]
    | some k =>
      have:k ≠ i:=fun h => hne (by rw [hk,h])
      simp [atI]; omega
  · simp only [Bool.not_eq_true] at ha
    rw [ha]
    have:colK t x.Name = some i:=by
      refine List.findIdx?_eq_some_iff_getElem.2 ⟨hi,by simp [hxe],fun j hj => ?_⟩
      have hm:t.Columns[j]'(by omega) ∈ t.Columns.take i:=by
        rw [List.mem_iff_getElem?]
        exact ⟨j,by rw [List.getElem?_take_of_lt hj]; simp⟩
      have:=List.any_eq_false.1 ha _ hm
      simpa using this
    rw [this]
    simp [atI]
theorem p_isTable_L1 (t:GTable):∀ (xs:List GColumn) (i:Nat),t.Columns.drop i = xs → impl_isTable_L1 t xs i = some (if allI (colStep t) xs i = true then .go () else .ret false)
  | [],i,_ => by rw [impl_isTable_L1]; simp [allI]
  | x :: xs,i,h => by
    have hx:t.Columns[i]? = some x:=by rw [← idx_nat]; exact idx_drop h
    rw [impl_isTable_L1,p_ColumnOK,Option.bind_some,p_columnAt,Option.bind_some,colK_here hx,p_isTable_L1 t xs (i + 1) (drop_next h)]
    cases h1:colB x <;> cases h2:(t.Columns.take i).any (fun c => c.Name == x.Name) <;> simp [allI,colStep,h1,h2]
theorem p_l04Table_L2 (t:GTable) (x:GColumn) (i:Nat) (hi:i ≤ t.Columns.length) (hl:t.Columns.length ≤ 6):∀ (n k fuel:Nat),n + k = i → n < fuel → spec_l04Table_L2 i t x fuel k = some (if ((t.Columns.take i).drop k).any (fun c => c.Name == x.Name) = true then .ret false else .go ())
  | _,_,0,_,h => by omega
  | 0,k,fuel + 1,hk,_ => by
    rw [spec_l04Table_L2,if_neg (by simp; omega),List.drop_of_length_le (by simp; omega)]; simp
  | n + 1,k,fuel + 1,hk,hf => by
    obtain ⟨y,hy⟩:∃ y,t.Columns[k]? = some y:=⟨t.Columns[k]'(by omega),List.getElem?_eq_getElem (by omega)⟩
    have hd:(t.Columns.take i).drop k = y :: (t.Columns.take i).drop (k + 1):=by
      have hk2:k < (t.Columns.take i).length:=by simp; omega
      rw [List.drop_eq_getElem_cons hk2]
      congr 1
      rw [List.getElem_take]
      exact (List.getElem?_eq_some_iff.1 hy).2
    have ew:w64 ((k:Int) + 1) = ((k + 1:Nat):Int):=by rw [w64_id (by omega)]; omega
    rw [spec_l04Table_L2,if_pos (by simp; omega),idx_nat,hy,Option.bind_some,ew,p_l04Table_L2 t x i hi hl n (k + 1) fuel (by omega) (by omega),hd]
    cases hn:(y.Name == x.Name) <;> simp [hn]
theorem p_l04Table_L1 (t:GTable) (hl:t.Columns.length ≤ 6):∀ (xs:List GColumn) (i:Nat),t.Columns.drop i = xs → spec_l04Table_L1 t xs i = some (if allI (colStep t) xs i = true then .go () else .ret false)
  | [],i,_ => by rw [spec_l04Table_L1]; simp [allI]
  | x :: xs,i,h => by
    have hi:=drop_lt h
    have hf:2 ^ 40 < FUEL:=by unfold FUEL; decide
    have e:=p_l04Table_L2 t x i (by omega) hl i 0 FUEL (by omega) (by omega)
    rw [List.drop_zero] at e
    have e':spec_l04Table_L2 i t x FUEL 0 = _:=e
    rw [spec_l04Table_L1,p_sColumnOK,Option.bind_some,e',p_l04Table_L1 t hl xs (i + 1) (drop_next h)]
    cases h1:colB x <;> cases h2:(t.Columns.take i).any (fun c => c.Name == x.Name) <;> simp [allI,colStep,h1,h2]
def uniStep (t:GTable) (i:Nat) (x:Int):Bool:=decide (0 ≤ x ∧ x ≤ (t.Columns.length:Int) - 1) && (i == 0 || match t.Unique[i - 1]? with | some y => decide (y < x) | none => false)
theorem p_uni (t:GTable) (i:Nat) (x:Int) (hi:i < t.Unique.length) (hl:t.Unique.length ≤ 6) (hc:t.Columns.length ≤ 6) (W:Int → Int → Int → Option Bool) (hW:∀ n a b,W n a b = some (decide (a ≤ n ∧ n ≤ b))) :
    ((W x 0 (w64 ((t.Columns.length:Int) - 1))).bind fun r_176 =>
    if (!r_176) then
    some true
    else
    if (decide ((i:Int) > 0)) then
    (idx t.Unique (w64 ((i:Int) - 1))).bind fun x_180 =>
    some (decide (x_180 ≥ x))
    else
    some false:Option Bool) = some (!uniStep t i x):=by
  rw [hW,Option.bind_some,w64_id (n:=(t.Columns.length:Int) - 1) (by omega)]
  unfold uniStep
  by_cases h:0 ≤ x ∧ x ≤ (t.Columns.length:Int) - 1
  · by_cases h0:i = 0
    · subst h0; simp [h]
    · obtain ⟨y,hy⟩:∃ y,t.Unique[i - 1]? = some y:=⟨t.Unique[i - 1],List.getElem?_eq_getElem (by omega)⟩
      have e1:w64 ((i:Int) - 1) = ((i - 1:Nat):Int):=by rw [w64_id (by omega)]; omega
      rw [e1,idx_nat,hy]
      have hp:0 < i:=by omega
      by_cases hc:y < x
      · have:¬ x ≤ y:=by omega
        simp [h,h0,hp,hc,this]
      · have:x ≤ y:=by omega
        simp [h,h0,hp,hc,this]
  · simp [h]
theorem p_isTable_L2 (t:GTable) (hl:t.Unique.length ≤ 6) (hc:t.Columns.length ≤ 6):∀ (xs:List Int) (i:Nat),t.Unique.drop i = xs → impl_isTable_L2 t xs i = some (if allI (uniStep t) xs i = true then .go () else .ret false)
  | [],i,_ => by rw [impl_isTable_L2]; simp [allI]
  | x :: xs,i,h => by
    rw [impl_isTable_L2,p_uni t i x (drop_lt h) hl hc impl_within p_within,Option.bind_some,p_isTable_L2 t hl hc xs (i + 1) (drop_next h)]
    cases h1:uniStep t i x <;> simp [allI,h1]
theorem p_l04Table_L3 (t:GTable) (hl:t.Unique.length ≤ 6) (hc:t.Columns.length ≤ 6):∀ (xs:List Int) (i:Nat),t.Unique.drop i = xs → spec_l04Table_L3 t xs i = some (if allI (uniStep t) xs i = true then .go () else .ret false)
  | [],i,_ => by rw [spec_l04Table_L3]; simp [allI]
  | x :: xs,i,h => by
    rw [spec_l04Table_L3,p_uni t i x (drop_lt h) hl hc spec_l01In p_in,Option.bind_some,p_l04Table_L3 t hl hc xs (i + 1) (drop_next h)]
    cases h1:uniStep t i x <;> simp [allI,h1]
theorem uni_ge (t:GTable) (h:allI (uniStep t) t.Unique 0 = true):∀ (i:Nat) x,t.Unique[i]? = some x → (i:Int) ≤ x
  | 0,x,hx => by
    have:=(allI_iff _ _ _).1 h 0 x hx
    simp only [uniStep,Bool.and_eq_true,decide_eq_true_eq] at this
    exact this.1.1
  | i + 1,x,hx => by
    have hl:=(List.getElem?_eq_some_iff.1 hx).1
    obtain ⟨y,hy⟩:∃ y,t.Unique[i]? = some y:=⟨t.Unique[i],List.getElem?_eq_getElem (by omega)⟩
    have h1:=uni_ge t h i y hy
    have:=(allI_iff _ _ _).1 h (i + 1) x hx
    simp only [uniStep,Bool.and_eq_true,decide_eq_true_eq,Bool.or_eq_true,Nat.zero_add,Nat.add_sub_cancel,hy] at this
    rcases this.2 with h2 | h2
    · simp at h2
    · omega
theorem uni_len (t:GTable) (h:allI (uniStep t) t.Unique 0 = true):t.Unique.length ≤ t.Columns.length:=by
  rcases Nat.eq_zero_or_pos t.Unique.length with h0 | h0
  · omega
  · obtain ⟨x,hx⟩:∃ x,t.Unique[t.Unique.length - 1]? = some x:=⟨t.Unique[t.Unique.length - 1],List.getElem?_eq_getElem (by omega)⟩
    have h1:=uni_ge t h _ x hx
    have:=(allI_iff _ _ _).1 h _ x hx
    simp only [uniStep,Bool.and_eq_true,decide_eq_true_eq] at this
    have:=this.1.2
    omega
def tabB (t:GTable):Bool:=nameOK t.Name && decide (1 ≤ (t.Columns.length:Int) ∧ (t.Columns.length:Int) ≤ 6) && allI (colStep t) t.Columns 0 && allI (uniStep t) t.Unique 0
theorem p_isTable (t:GTable):impl_isTable t = some (tabB t):=by
  unfold impl_isTable tabB
  rw [p_NameOK,Option.bind_some,p_within,Option.bind_some]
  cases hn:nameOK t.Name with
  | false => simp
  | true =>
    by_cases hc:1 ≤ (t.Columns.length:Int) ∧ (t.Columns.length:Int) ≤ 6
    · by_cases hu:(t.Unique.length:Int) > (t.Columns.length:Int)
      · have:allI (uniStep t) t.Unique 0 = false:=by
          cases hh:allI (uniStep t) t.Unique 0 with
          | false => rfl
          | true => have:=uni_len t hh; omega
        simp [hc,hu,this]
      · rw [p_isTable_L1 t t.Columns 0 (by simp),p_isTable_L2 t (by omega) (by omega) t.Unique 0 (by simp)]
        cases h1:allI (colStep t) t.Columns 0 <;> cases h2:allI (uniStep t) t.Unique 0 <;> simp [hc,hu]
    · simp [hc]
theorem p_l04Table (t:GTable):spec_l04Table t = some (tabB t):=by
  unfold spec_l04Table tabB
  rw [p_specNameOK,Option.bind_some,p_in,Option.bind_some]
  cases hn:nameOK t.Name with
  | false => simp
  | true =>
    by_cases hc:1 ≤ (t.Columns.length:Int) ∧ (t.Columns.length:Int) ≤ 6
    · by_cases hu:(t.Unique.length:Int) > 6
      · have:allI (uniStep t) t.Unique 0 = false:=by
          cases hh:allI (uniStep t) t.Unique 0 with
          | false => rfl
          | true => have:=uni_len t hh; omega
        simp [hc,hu,this]
      · rw [p_l04Table_L1 t (by omega) t.Columns 0 (by simp),p_l04Table_L3 t (by omega) (by omega) t.Unique 0 (by simp)]
        cases h1:allI (colStep t) t.Columns 0 <;> cases h2:allI (uniStep t) t.Unique 0 <;> simp [hc,hu]
    · simp [hc]
def refOK (s:GSchema) (c:GColumn):Bool:=!(decide (c.Kind = 4) && (tabK s c.Ref).isNone)
def tabStep (s:GSchema) (i:Nat) (x:GTable):Bool:=tabB x && (i == 0 || match s.Tables[i - 1]? with | some y => Op.bytesLess y.Name x.Name | none => false)
def schB (s:GSchema):Bool:=decide (1 ≤ (s.Tables.length:Int) ∧ (s.Tables.length:Int) ≤ 4) && allI (tabStep s) s.Tables 0 && s.Tables.all (fun t => t.Columns.all (refOK s))
theorem p_tstep (s:GSchema) (i:Nat) (x:GTable) (hi:i < s.Tables.length) (hl:s.Tables.length ≤ 4) (T:GTable → Option Bool) (hT:∀ t,T t = some (tabB t)) :
    ((T x).bind fun r_79 =>
    if (!r_79) then
    some true
    else
    if (decide ((i:Int) > 0)) then
    (idx s.Tables (w64 ((i:Int) - 1))).bind fun x_83 =>
    some (!Op.bytesLess x_83.Name x.Name)
    else
    some false:Option Bool) = some (!tabStep s i x):=by
  rw [hT,Option.bind_some]
  unfold tabStep
  cases tabB x with
  | false => simp
  | true =>
    by_cases h0:i = 0
    · subst h0; simp
    · obtain ⟨y,hy⟩:∃ y,s.Tables[i - 1]? = some y:=⟨s.Tables[i - 1],List.getElem?_eq_getElem (by omega)⟩
      have e1:w64 ((i:Int) - 1) = ((i - 1:Nat):Int):=by rw [w64_id (by omega)]; omega
      rw [e1,idx_nat,hy]
      have hp:0 < i:=by omega
      simp [h0,hp]
theorem p_SchemaOK_L1 (s:GSchema) (hl:s.Tables.length ≤ 4):∀ (xs:List GTable) (i:Nat),s.Tables.drop i = xs → impl_SchemaOK_L1 s xs i = some (if allI (tabStep s) xs i = true then .go () else .ret false)
  | [],i,_ => by rw [impl_SchemaOK_L1]; simp [allI]
  | x :: xs,i,h => by
    rw [impl_SchemaOK_L1,p_tstep s i x (drop_lt h) hl impl_isTable p_isTable,Option.bind_some,p_SchemaOK_L1 s hl xs (i + 1) (drop_next h)]
    cases h1:tabStep s i x <;> simp [allI,h1]
theorem p_SchemaOK (s:GSchema):impl_SchemaOK s = some (schB s):=by
  unfold impl_SchemaOK schB
  rw [p_within,Option.bind_some]
  by_cases hc:1 ≤ (s.Tables.length:Int) ∧ (s.Tables.length:Int) ≤ 4
  · have e1:∀ c:GColumn,impl_SchemaOK_1_1 c s = some (!refOK s c):=by
      intro c
      unfold impl_SchemaOK_1_1 refOK
      by_cases k:c.Kind = 4
      · rw [if_pos (by simpa using k),p_tableAt,Option.bind_some,atI_neg]; simp [k]
      · rw [if_neg (by simpa using k)]; simp [k]
    have e2:∀ t:GTable,impl_SchemaOK_1 t s = some (!t.Columns.all (refOK s)):=by
      intro t
      unfold impl_SchemaOK_1
      rw [p_slices_ContainsFunc_impl_Column_impl_Column _ (fun c => !refOK s c) t.Columns (fun x _ => e1 x),Option.bind_some,List.not_all_eq_any_not]
    rw [p_SchemaOK_L1 s (by omega) s.Tables 0 (by simp),p_slices_ContainsFunc_impl_Table_impl_Table _ (fun t => !t.Columns.all (refOK s)) s.Tables (fun x _ => e2 x)]
    have e3:(s.Tables.any fun t => !t.Columns.all (refOK s)) = !s.Tables.all (fun t => t.Columns.all (refOK s)):=by rw [List.not_all_eq_any_not]
    rw [e3]
    cases allI (tabStep s) s.Tables 0 <;> cases s.Tables.all (fun t => t.Columns.all (refOK s)) <;> simp [hc]
  · simp [hc]
theorem p_sSchemaOK_L2 (s:GSchema):∀ (xs:List GColumn),(∀ c ∈ xs,colB c = true) → spec_SchemaOK_L2 s xs = some (if xs.all (refOK s) = true then .go () else .ret false)
  | [],_ => by rw [spec_SchemaOK_L2]; simp
  | x :: xs,h => by
    have hr:=colB_ref (h x (by simp))
    rw [spec_SchemaOK_L2,p_l04Find,Option.bind_some,atI_neg,p_sSchemaOK_L2 s xs (fun c hc => h c (by simp [hc]))]
    by_cases k:x.Ref = []
    · have k4:¬ x.Kind = 4:=fun hh => hr.1 hh k
      simp [k,refOK,k4]
    · have k4:x.Kind = 4:=hr.2 k
      cases hn:(tabK s x.Ref).isNone <;> simp [k,refOK,k4,hn]
theorem tabB_cols {t:GTable} (h:tabB t = true):∀ c ∈ t.Columns,colB c = true:=by
  intro c hc
  simp only [tabB,Bool.and_eq_true] at h
  obtain ⟨q,hq⟩:=allI_mem h.1.2 hc
  simp only [colStep,Bool.and_eq_true] at hq
  exact hq.1
theorem p_sSchemaOK_L1 (s:GSchema) (hl:s.Tables.length ≤ 4):∀ (xs:List GTable) (i:Nat),s.Tables.drop i = xs → spec_SchemaOK_L1 s xs i = some (if allI (fun i x => tabStep s i x && x.Columns.all (refOK s)) xs i = true then .go () else .ret false)
  | [],i,_ => by rw [spec_SchemaOK_L1]; simp [allI]
  | x :: xs,i,h => by
    rw [spec_SchemaOK_L1,p_tstep s i x (drop_lt h) hl spec_l04Table p_l04Table,Option.bind_some,p_sSchemaOK_L1 s hl xs (i + 1) (drop_next h)]
    cases ht:tabStep s i x with
    | false => simp [allI,ht]
    | true =>
      have hb:tabB x = true:=by simp only [tabStep,Bool.and_eq_true] at ht; exact ht.1
      rw [p_sSchemaOK_L2 s x.Columns (tabB_cols hb)]
      cases hr:x.Columns.all (refOK s) <;> simp [allI,ht,hr]
theorem p_sSchemaOK (s:GSchema):spec_SchemaOK s = some (schB s):=by
  unfold spec_SchemaOK schB
  rw [p_in,Option.bind_some]
  by_cases hc:1 ≤ (s.Tables.length:Int) ∧ (s.Tables.length:Int) ≤ 4
  · rw [p_sSchemaOK_L1 s (by omega) s.Tables 0 (by simp),allI_and (tabStep s) (fun x => x.Columns.all (refOK s))]
    cases allI (tabStep s) s.Tables 0 <;> cases s.Tables.all (fun t => t.Columns.all (refOK s)) <;> simp [hc]
  · simp [hc]
theorem schB_tab {s:GSchema} (h:schB s = true) {t:GTable} (ht:t ∈ s.Tables):tabB t = true:=by
  simp only [schB,Bool.and_eq_true] at h
  obtain ⟨q,hq⟩:=allI_mem h.1.2 ht
  simp only [tabStep,Bool.and_eq_true] at hq
  exact hq.1
end Go.R
