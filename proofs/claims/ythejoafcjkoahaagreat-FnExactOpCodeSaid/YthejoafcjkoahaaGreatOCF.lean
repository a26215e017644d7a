/- slices.IndexFunc, ContainsFunc, Index, Contains at the types of this law. -/
import Derived.Test.YthejoafcjkoahaaGreatNM
import Derived.Test.YthejoafcjkoahaaGreatP0
set_option linter.all false
namespace Go.R
open Go
set_option linter.all false
theorem p_slices_IndexFunc_impl_Column_impl_Column_L1 (f:GColumn → Option Bool) (p:GColumn → Bool):∀ (xs:List GColumn) (i:Nat),(∀ x ∈ xs,f x = some (p x)) → slices_IndexFunc_impl_Column_impl_Column_L1 f xs i = some (match xs.findIdx? p with | some k => .ret ((i + k:Nat):Int) | none => .go ())
  | [],i,_ => by rw [slices_IndexFunc_impl_Column_impl_Column_L1]; rfl
  | x :: xs,i,h => by
    rw [slices_IndexFunc_impl_Column_impl_Column_L1,h x (by simp),Option.bind_some,p_slices_IndexFunc_impl_Column_impl_Column_L1 f p xs (i + 1) (fun y hy => h y (by simp [hy])),List.findIdx?_cons]
    cases hp:p x with
    | true => simp
    | false =>
      cases hq:xs.findIdx? p with
      | none => simp
      | some k => simp; omega
theorem p_slices_IndexFunc_impl_Column_impl_Column (f:GColumn → Option Bool) (p:GColumn → Bool) (xs:List GColumn) (h:∀ x ∈ xs,f x = some (p x)):slices_IndexFunc_impl_Column_impl_Column xs f = some (match xs.findIdx? p with | some k => (k:Int) | none => -1):=by
  unfold slices_IndexFunc_impl_Column_impl_Column
  rw [p_slices_IndexFunc_impl_Column_impl_Column_L1 f p xs 0 h]
  cases hq:xs.findIdx? p with
  | none => rfl
  | some k => simp

theorem p_slices_IndexFunc_impl_Cond_impl_Cond_L1 (f:GCond → Option Bool) (p:GCond → Bool):∀ (xs:List GCond) (i:Nat),(∀ x ∈ xs,f x = some (p x)) → slices_IndexFunc_impl_Cond_impl_Cond_L1 f xs i = some (match xs.findIdx? p with | some k => .ret ((i + k:Nat):Int) | none => .go ())
  | [],i,_ => by rw [slices_IndexFunc_impl_Cond_impl_Cond_L1]; rfl
  | x :: xs,i,h => by
    rw [slices_IndexFunc_impl_Cond_impl_Cond_L1,h x (by simp),Option.bind_some,p_slices_IndexFunc_impl_Cond_impl_Cond_L1 f p xs (i + 1) (fun y hy => h y (by simp [hy])),List.findIdx?_cons]
    cases hp:p x with
    | true => simp
    | false =>
      cases hq:xs.findIdx? p with
      | none => simp
      | some k => simp; omega
theorem p_slices_IndexFunc_impl_Cond_impl_Cond (f:GCond → Option Bool) (p:GCond → Bool) (xs:List GCond) (h:∀ x ∈ xs,f x = some (p x)):slices_IndexFunc_impl_Cond_impl_Cond xs f = some (match xs.findIdx? p with | some k => (k:Int) | none => -1):=by
  unfold slices_IndexFunc_impl_Cond_impl_Cond
  rw [p_slices_IndexFunc_impl_Cond_impl_Cond_L1 f p xs 0 h]
  cases hq:xs.findIdx? p with
  | none => rfl
  | some k => simp

theorem p_slices_IndexFunc_impl_Mut_impl_Mut_L1 (f:GMut → Option Bool) (p:GMut → Bool):∀ (xs:List GMut) (i:Nat),(∀ x ∈ xs,f x = some (p x)) → slices_IndexFunc_impl_Mut_impl_Mut_L1 f xs i = some (match xs.findIdx? p with | some k => .ret ((i + k:Nat):Int) | none => .go ())
  | [],i,_ => by rw [slices_IndexFunc_impl_Mut_impl_Mut_L1]; rfl
  | x :: xs,i,h => by
    rw [slices_IndexFunc_impl_Mut_impl_Mut_L1,h x (by simp),Option.bind_some,p_slices_IndexFunc_impl_Mut_impl_Mut_L1 f p xs (i + 1) (fun y hy => h y (by simp [hy])),List.findIdx?_cons]
    cases hp:p x with
    | true => simp
    | false =>
      cases hq:xs.findIdx? p with
      | none => simp
      | some k => simp; omega
theorem p_slices_IndexFunc_impl_Mut_impl_Mut (f:GMut → Option Bool) (p:GMut → Bool) (xs:List GMut) (h:∀ x ∈ xs,f x = some (p x)):slices_IndexFunc_impl_Mut_impl_Mut xs f = some (match xs.findIdx? p with | some k => (k:Int) | none => -1):=by
  unfold slices_IndexFunc_impl_Mut_impl_Mut
  rw [p_slices_IndexFunc_impl_Mut_impl_Mut_L1 f p xs 0 h]
  cases hq:xs.findIdx? p with
  | none => rfl
  | some k => simp

theorem p_slices_IndexFunc_impl_Set_impl_Set_L1 (f:GSet → Option Bool) (p:GSet → Bool):∀ (xs:List GSet) (i:Nat),(∀ x ∈ xs,f x = some (p x)) → slices_IndexFunc_impl_Set_impl_Set_L1 f xs i = some (match xs.findIdx? p with | some k => .ret ((i + k:Nat):Int) | none => .go ())
  | [],i,_ => by rw [slices_IndexFunc_impl_Set_impl_Set_L1]; rfl
  | x :: xs,i,h => by
    rw [slices_IndexFunc_impl_Set_impl_Set_L1,h x (by simp),Option.bind_some,p_slices_IndexFunc_impl_Set_impl_Set_L1 f p xs (i + 1) (fun y hy => h y (by simp [hy])),List.findIdx?_cons]
    cases hp:p x with
    | true => simp
    | false =>
      cases hq:xs.findIdx? p with
      | none => simp
      | some k => simp; omega
theorem p_slices_IndexFunc_impl_Set_impl_Set (f:GSet → Option Bool) (p:GSet → Bool) (xs:List GSet) (h:∀ x ∈ xs,f x = some (p x)):slices_IndexFunc_impl_Set_impl_Set xs f = some (match xs.findIdx? p with | some k => (k:Int) | none => -1):=by
  unfold slices_IndexFunc_impl_Set_impl_Set
  rw [p_slices_IndexFunc_impl_Set_impl_Set_L1 f p xs 0 h]
  cases hq:xs.findIdx? p with
  | none => rfl
  | some k => simp

theorem p_slices_IndexFunc_impl_Table_impl_Table_L1 (f:GTable → Option Bool) (p:GTable → Bool):∀ (xs:List GTable) (i:Nat),(∀ x ∈ xs,f x = some (p x)) → slices_IndexFunc_impl_Table_impl_Table_L1 f xs i = some (match xs.findIdx? p with | some k => .ret ((i + k:Nat):Int) | none => .go ())
  | [],i,_ => by rw [slices_IndexFunc_impl_Table_impl_Table_L1]; rfl
  | x :: xs,i,h => by
    rw [slices_IndexFunc_impl_Table_impl_Table_L1,h x (by simp),Option.bind_some,p_slices_IndexFunc_impl_Table_impl_Table_L1 f p xs (i + 1) (fun y hy => h y (by simp [hy])),List.findIdx?_cons]
    cases hp:p x with
    | true => simp
    | false =>
      cases hq:xs.findIdx? p with
      | none => simp
      | some k => simp; omega
theorem p_slices_IndexFunc_impl_Table_impl_Table (f:GTable → Option Bool) (p:GTable → Bool) (xs:List GTable) (h:∀ x ∈ xs,f x = some (p x)):slices_IndexFunc_impl_Table_impl_Table xs f = some (match xs.findIdx? p with | some k => (k:Int) | none => -1):=by
  unfold slices_IndexFunc_impl_Table_impl_Table
  rw [p_slices_IndexFunc_impl_Table_impl_Table_L1 f p xs 0 h]
  cases hq:xs.findIdx? p with
  | none => rfl
  | some k => simp

theorem p_slices_IndexFunc_string_string_L1 (f:Str → Option Bool) (p:Str → Bool):∀ (xs:List Str) (i:Nat),(∀ x ∈ xs,f x = some (p x)) → slices_IndexFunc_string_string_L1 f xs i = some (match xs.findIdx? p with | some k => .ret ((i + k:Nat):Int) | none => .go ())
  | [],i,_ => by rw [slices_IndexFunc_string_string_L1]; rfl
  | x :: xs,i,h => by
    rw [slices_IndexFunc_string_string_L1,h x (by simp),Option.bind_some,p_slices_IndexFunc_string_string_L1 f p xs (i + 1) (fun y hy => h y (by simp [hy])),List.findIdx?_cons]
    cases hp:p x with
    | true => simp
    | false =>
      cases hq:xs.findIdx? p with
      | none => simp
      | some k => simp; omega
theorem p_slices_IndexFunc_string_string (f:Str → Option Bool) (p:Str → Bool) (xs:List Str) (h:∀ x ∈ xs,f x = some (p x)):slices_IndexFunc_string_string xs f = some (match xs.findIdx? p with | some k => (k:Int) | none => -1):=by
  unfold slices_IndexFunc_string_string
  rw [p_slices_IndexFunc_string_string_L1 f p xs 0 h]
  cases hq:xs.findIdx? p with
  | none => rfl
  | some k => simp

theorem p_slices_ContainsFunc_impl_Column_impl_Column (f:GColumn → Option Bool) (p:GColumn → Bool) (xs:List GColumn) (h:∀ x ∈ xs,f x = some (p x)):slices_ContainsFunc_impl_Column_impl_Column xs f = some (xs.any p):=by
  unfold slices_ContainsFunc_impl_Column_impl_Column
  rw [p_slices_IndexFunc_impl_Column_impl_Column f p xs h,Option.bind_some]
  cases hq:xs.findIdx? p with
  | none =>
    have:xs.any p = false:=by
      rw [List.any_eq_false]
      intro x hx
      have:=List.findIdx?_eq_none_iff.1 hq x hx
      simp [this]
    rw [this]; rfl
  | some k =>
    have:xs.any p = true:=by
      obtain ⟨x,hx,hp⟩:∃ x,x ∈ xs ∧ p x = true:=by
        have:=List.findIdx?_eq_some_iff_getElem.1 hq
        obtain ⟨hk,h1,_⟩:=this
        exact ⟨xs[k],List.getElem_mem _,h1⟩
      exact List.any_eq_true.2 ⟨x,hx,hp⟩
    rw [this]
    simp

theorem p_slices_ContainsFunc_impl_Cond_impl_Cond (f:GCond → Option Bool) (p:GCond → Bool) (xs:List GCond) (h:∀ x ∈ xs,f x = some (p x)):slices_ContainsFunc_impl_Cond_impl_Cond xs f = some (xs.any p):=by
  unfold slices_ContainsFunc_impl_Cond_impl_Cond
  rw [p_slices_IndexFunc_impl_Cond_impl_Cond f p xs h,Option.bind_some]
  cases hq:xs.findIdx? p with
  | none =>
    have:xs.any p = false:=by
      rw [List.any_eq_false]
      intro x hx
      have:=List.findIdx?_eq_none_iff.1 hq x hx
      simp [this]
    rw [this]; rfl
  | some k =>
    have:xs.any p = true:=by
      obtain ⟨x,hx,hp⟩:∃ x,x ∈ xs ∧ p x = true:=by
        have:=List.findIdx?_eq_some_iff_getElem.1 hq
        obtain ⟨hk,h1,_⟩:=this
        exact ⟨xs[k],List.getElem_mem _,h1⟩
      exact List.any_eq_true.2 ⟨x,hx,hp⟩
    rw [this]
    simp

theorem p_slices_ContainsFunc_impl_Mut_impl_Mut (f:GMut → Option Bool) (p:GMut → Bool) (xs:List GMut) (h:∀ x ∈ xs,f x = some (p x)):slices_ContainsFunc_impl_Mut_impl_Mut xs f = some (xs.any p):=by
  unfold slices_ContainsFunc_impl_Mut_impl_Mut
  rw [p_slices_IndexFunc_impl_Mut_impl_Mut f p xs h,Option.bind_some]
  cases hq:xs.findIdx? p with
  | none =>
    have:xs.any p = false:=by
      rw [List.any_eq_false]
      intro x hx
      have:=List.findIdx?_eq_none_iff.1 hq x hx
      simp [this]
    rw [this]; rfl
  | some k =>
    have:xs.any p = true:=by
      obtain ⟨x,hx,hp⟩:∃ x,x ∈ xs ∧ p x = true:=by
        have:=List.findIdx?_eq_some_iff_getElem.1 hq
        obtain ⟨hk,h1,_⟩:=this
        exact ⟨xs[k],List.getElem_mem _,h1⟩
      exact List.any_eq_true.2 ⟨x,hx,hp⟩
    rw [this]
    simp

theorem p_slices_ContainsFunc_impl_Set_impl_Set (f:GSet → Option Bool) (p:GSet → Bool) (xs:List GSet) (h:∀ x ∈ xs,f x = some (p x)):slices_ContainsFunc_impl_Set_impl_Set xs f = some (xs.any p):=by
  unfold slices_ContainsFunc_impl_Set_impl_Set
  rw [p_slices_IndexFunc_impl_Set_impl_Set f p xs h,Option.bind_some]
  cases hq:xs.findIdx? p with
  | none =>
    have:xs.any p = false:=by
      rw [List.any_eq_false]
      intro x hx
      have:=List.findIdx?_eq_none_iff.1 hq x hx
      simp [this]
    rw [this]; rfl
  | some k =>
    have:xs.any p = true:=by
      obtain ⟨x,hx,hp⟩:∃ x,x ∈ xs ∧ p x = true:=by
        have:=List.findIdx?_eq_some_iff_getElem.1 hq
        obtain ⟨hk,h1,_⟩:=this
        exact ⟨xs[k],List.getElem_mem _,h1⟩
      exact List.any_eq_true.2 ⟨x,hx,hp⟩
    rw [this]
    simp

theorem p_slices_ContainsFunc_impl_Table_impl_Table (f:GTable → Option Bool) (p:GTable → Bool) (xs:List GTable) (h:∀ x ∈ xs,f x = some (p x)):slices_ContainsFunc_impl_Table_impl_Table xs f = some (xs.any p):=by
  unfold slices_ContainsFunc_impl_Table_impl_Table
  rw [p_slices_IndexFunc_impl_Table_impl_Table f p xs h,Option.bind_some]
  cases hq:xs.findIdx? p with
  | none =>
    have:xs.any p = false:=by
      rw [List.any_eq_false]
      intro x hx
      have:=List.findIdx?_eq_none_iff.1 hq x hx
      simp [this]
    rw [this]; rfl
  | some k =>
    have:xs.any p = true:=by
      obtain ⟨x,hx,hp⟩:∃ x,x ∈ xs ∧ p x = true:=by
        have:=List.findIdx?_eq_some_iff_getElem.1 hq
        obtain ⟨hk,h1,_⟩:=this
        exact ⟨xs[k],List.getElem_mem _,h1⟩
      exact List.any_eq_true.2 ⟨x,hx,hp⟩
    rw [this]
    simp

theorem p_slices_ContainsFunc_string_string (f:Str → Option Bool) (p:Str → Bool) (xs:List Str) (h:∀ x ∈ xs,f x = some (p x)):slices_ContainsFunc_string_string xs f = some (xs.any p):=by
  unfold slices_ContainsFunc_string_string
  rw [p_slices_IndexFunc_string_string f p xs h,Option.bind_some]
  cases hq:xs.findIdx? p with
  | none =>
    have:xs.any p = false:=by
      rw [List.any_eq_false]
      intro x hx
      have:=List.findIdx?_eq_none_iff.1 hq x hx
      simp [this]
    rw [this]; rfl
  | some k =>
    have:xs.any p = true:=by
      obtain ⟨x,hx,hp⟩:∃ x,x ∈ xs ∧ p x = true:=by
        have:=List.findIdx?_eq_some_iff_getElem.1 hq
        obtain ⟨hk,h1,_⟩:=this
        exact ⟨xs[k],List.getElem_mem _,h1⟩
      exact List.any_eq_true.2 ⟨x,hx,hp⟩
    rw [this]
    simp
end Go.R
