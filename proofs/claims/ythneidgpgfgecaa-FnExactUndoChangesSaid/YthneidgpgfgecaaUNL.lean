/- Plain laws of what this statement reaches. -/
import Derived.Test.YthneidgpgfgecaaUNH
import Derived.Test.YthneidgpgfgecaaP0
set_option linter.all false
namespace Go.R
open Go
set_option linter.all false
theorem d8k (n a b:Int):b2a n a b = some (decide (a ≤ n ∧ n ≤ b)):=by
  unfold b2a
  by_cases h:a ≤ n <;> simp [h]
theorem d8l (x y:Int):cmp_Compare_int x y = some (if x < y then -1 else if x > y then 1 else 0):=by
  unfold cmp_Compare_int cmp_isNaN_int
  by_cases h1:x < y <;> by_cases h2:x > y <;> simp [h1,h2]
def atI (o:Option Nat):Int:=match o with | some k => (k:Int) | none => -1
theorem e1a {o:Option Nat}:decide (atI o < 0) = o.isNone:=by
  cases o with
  | none => rfl
  | some k => exact decide_eq_false (show ¬ ((k:Nat):Int) < 0 by omega)
theorem d8m (x y:a0c):(x.Kind == y.Kind && (x.N == y.N && (x.T == y.T && true))) = decide (x = y):=by
  cases x; cases y
  rw [Bool.eq_iff_iff]
  simp
theorem c0e:∀ (xs out:List (List a0c)),out.length + xs.length ≤ 2 ^ 30 → (∀ d ∈ xs,d.length ≤ 2 ^ 30) → a4f xs out = some (out ++ xs)
  | [],out,_,_ => by rw [a4f]; simp
  | x :: xs,out,h,hd => by
    simp only [List.length_cons] at h
    have:=hd x (by simp)
    rw [a4f]
    unfold a3a
    rw [if_pos (by simp; omega),Option.bind_some,if_pos (by simp; omega),c0e xs _ (by simp; omega) (fun y hy => hd y (by simp [hy]))]
    simp
theorem c7n (r:x8) (h:r.Cells.length ≤ 2 ^ 30) (hd:∀ d ∈ r.Cells,d.length ≤ 2 ^ 30):a8y r = some r:=by
  unfold a8y
  rw [c0e r.Cells [] (by simp; omega) hd,Option.bind_some]
  cases r with
  | mk i c =>
    cases c with
    | nil => rfl
    | cons a c => rw [if_pos (by simp)]; simp
theorem b6l:∀ (xs out:List (List a0c)),out.length + xs.length ≤ 2 ^ 30 → (∀ d ∈ xs,d.length ≤ 2 ^ 30) → a2y xs out = some (out ++ xs)
  | [],out,_,_ => by rw [a2y]; simp
  | x :: xs,out,h,hd => by
    simp only [List.length_cons] at h
    have:=hd x (by simp)
    rw [a2y,if_pos (by simp; omega),if_pos (by simp; omega),b6l xs _ (by simp; omega) (fun y hy => hd y (by simp [hy]))]
    simp
theorem b3m (r:x8) (h:r.Cells.length ≤ 2 ^ 30) (hd:∀ d ∈ r.Cells,d.length ≤ 2 ^ 30):a6d r = some r:=by
  unfold a6d
  rw [b6l r.Cells [] (by simp; omega) hd,Option.bind_some]
  cases r
  simp
theorem d8n:2 ^ 40 < FUEL:=by unfold FUEL; decide
def a5i:List x8 → Bool
  | [] => true
  | [_] => true
  | a :: b :: l => decide (a.Id < b.Id) && a5i (b :: l)
theorem b6z {a:x8} {l:List x8} (h:a5i (a :: l) = true):a5i l = true ∧ ∀ b ∈ l,a.Id < b.Id:=by
  induction l generalizing a with
  | nil => exact ⟨rfl,by simp⟩
  | cons b l ih =>
    simp only [a5i,Bool.and_eq_true,decide_eq_true_eq] at h
    refine ⟨h.2,fun c hc => ?_⟩
    rcases List.mem_cons.1 hc with rfl | hc
    · exact h.1
    · have:=(ih h.2).2 c hc; omega
theorem c7o {l:List x8} (h:a5i l = true):l.Pairwise fun a b => a.Id < b.Id:=by
  induction l with
  | nil => exact .nil
  | cons a l ih => exact List.pairwise_cons.2 ⟨(b6z h).2,ih (b6z h).1⟩
theorem c8w {l:List x8} (h:a5i l = true) {i j:Nat} {a b:x8} (hi:l[i]? = some a) (hj:l[j]? = some b) (hij:i < j):a.Id < b.Id:=by
  obtain ⟨h1,rfl⟩:=List.getElem?_eq_some_iff.1 hi
  obtain ⟨h2,rfl⟩:=List.getElem?_eq_some_iff.1 hj
  exact List.pairwise_iff_getElem.1 (c7o h) i j h1 h2 hij
theorem b6m (rows:List x8):∀ (xs:List x8) (i:Nat) (p:x8),rows.length ≤ maxLen → rows.drop (i + 1) = xs → rows[i]? = some p → a2z rows xs (i + 1) = some (if a5i (p :: xs) = true then .go () else .ret false)
  | [],i,p,_,_,_ => by rw [a2z]; rfl
  | x :: xs,i,p,hl,hd,hp => by
    have hlt:=d3w hd
    rw [a2z]
    have e:w64 (((i + 1:Nat):Int) - 1) = (i:Int):=by rw [a3i (by unfold maxLen at hl; omega)]; omega
    rw [e,b1o,hp,Option.bind_some]
    have hx:rows[i + 1]? = some x:=by have:=congrArg (·[0]?) hd; simpa using this
    by_cases c:p.Id < x.Id
    · have c':¬ p.Id ≥ x.Id:=by omega
      rw [if_neg (by simpa using c'),b6m rows xs (i + 1) x hl (b1j hd) hx]
      simp [a5i,c]
    · rw [if_pos (by simp; omega)]
      simp [a5i,c]
theorem d1l (rows:List x8) (hl:rows.length ≤ maxLen):a8i rows = some (a5i rows):=by
  unfold a8i
  cases rows with
  | nil => rfl
  | cons p xs =>
    rw [show (1:Nat) = 0 + 1 from rfl,b6m (p :: xs) _ 0 p hl rfl rfl]
    have:(p :: xs).drop (0 + 1) = xs:=rfl
    rw [this]
    rcases Bool.eq_false_or_eq_true (a5i (p :: xs)) with hz1 | hz1 <;> simp [hz1]
def b0b (l:List x8) (id:Int):Bool:=l.any fun r => r.Id == id
theorem b7r (id:Int):∀ (l:List x8) (i:Nat),a3p id l i = some (match l.findIdx? (fun r => r.Id == id) with | some k => .ret ((i + k:Nat):Int) | none => .go ())
  | [],i => by rw [a3p]; rfl
  | x :: xs,i => by
    rw [a3p,b7r id xs (i + 1),List.findIdx?_cons]
    cases hp:(x.Id == id) with
    | true => simp
    | false =>
      cases hq:xs.findIdx? (fun r => r.Id == id) with
      | none => simp
      | some k => simp; omega
theorem c5h (l:List x8) (id:Int):a7u l id = some (atI (l.findIdx? (fun r => r.Id == id))):=by
  unfold a7u atI
  rw [b7r]
  cases hq:l.findIdx? (fun r => r.Id == id) <;> simp
theorem d5n (l:List x8) (id:Int):decide (atI (l.findIdx? (fun r => r.Id == id)) < 0) = !b0b l id:=by
  rw [e1a]
  unfold b0b
  rw [← List.findIdx?_isSome]
  cases l.findIdx? (fun r => r.Id == id) <;> rfl
theorem e2w {i j:Int} (h0:0 ≤ i) (h1:i < j) (h2:j ≤ 2 ^ 60):w64 (Int.fdiv (IntKind.u64.wrap (w64 (i + j))) (2 ^ (min (Int.toNat 1) (IntKind.bits .u64)))) = (i + j) / 2:=by
  have e1:w64 (i + j) = i + j:=a3i (by omega)
  have e2:IntKind.u64.wrap (i + j) = i + j:=by
    have:IntKind.u64.wrap (i + j) = (i + j) % 2 ^ 64:=rfl
    rw [this]; omega
  have e3:min (Int.toNat 1) (IntKind.bits .u64) = 1:=by decide
  rw [e1,e2,e3,Int.fdiv_eq_ediv_of_nonneg _ (by omega)]
  have:((2:Int) ^ 1) = 2:=rfl
  rw [this,a3i (by omega)]
theorem c0f (b:List a0c):∀ (xs:List a0c) (i:Nat),i + xs.length = b.length → a4e b xs i = some (if xs = b.drop i then .go () else .ret false)
  | [],i,h => by
    rw [a4e,List.drop_of_length_le (by simp at h; omega)]; rfl
  | x :: xs,i,h => by
    simp only [List.length_cons] at h
    obtain ⟨y,hy⟩:∃ y,b[i]? = some y:=⟨b[i]'(by omega),List.getElem?_eq_getElem (by omega)⟩
    have ed:b.drop i = y :: b.drop (i + 1):=by
      rw [List.drop_eq_getElem_cons (by omega)]; congr 1; exact (List.getElem?_eq_some_iff.1 hy).2
    rw [a4e,b1o,hy,Option.bind_some,d8m,c0f b xs (i + 1) (by omega),ed]
    by_cases e:x = y
    · subst e; simp
    · simp [e]
theorem d5o (a b:List a0c):b1a a b = some (decide (a = b)):=by
  unfold b1a
  by_cases e:a.length = b.length
  · rw [if_neg (by simp [e]),c0f b a 0 (by omega),List.drop_zero]
    by_cases q:a = b <;> simp [q]
  · have:a ≠ b:=fun h => e (by rw [h])
    rw [if_pos (by simp; omega)]
    simp [this]
def smR (r:x8):Prop:=r.Cells.length ≤ 2 ^ 30 ∧ ∀ d ∈ r.Cells,d.length ≤ 2 ^ 30
def smL (l:List x8):Prop:=l.length ≤ 2 ^ 29 ∧ ∀ r ∈ l,smR r
def smS (x:a0l):Prop:=x.Tables.length ≤ 2 ^ 29 ∧ ∀ l ∈ x.Tables,smL l
def a7o (l:List x8) (id:Int):x8:=(l.find? fun r => r.Id == id).getD ⟨0,[]⟩
def b7s (l:List x8) (id:Int):List x8:=l.filter fun r => !(r.Id == id)
def b6n:List x8 → x8 → List x8
  | [],r => [r]
  | x :: xs,r => if x.Id < r.Id then x :: b6n xs r else if x.Id = r.Id then r :: xs else r :: x :: xs
def a5u (id:Int) (o n:x8):Int:=if id < 1 then 0 else if o.Id = 0 ∧ n.Id = id then 1 else if o.Id = id ∧ n.Id = 0 then 2 else if o.Id = id ∧ n.Id = id then 3 else 0
theorem c5i (id:Int) (o n:x8):a8k id o n = some (a5u id o n):=by
  unfold a8k a5u
  by_cases h1:id < 1
  · simp [h1]
  · have h0:¬ (0:Int) = id:=by omega
    have h0':¬ id = (0:Int):=by omega
    by_cases a:o.Id = 0 <;> by_cases b:n.Id = id <;> by_cases c:o.Id = id <;> by_cases d:n.Id = 0 <;> simp [h1,h0,h0',a,b,c,d] <;> omega
theorem c7p (t id:Int) (o n:x8) (h1:¬ id < 1):a6l ⟨t,id,o,n⟩ = some (a5u id o n):=by
  unfold a6l a5u
  have h0:¬ (0:Int) = id:=by omega
  have h0':¬ id = (0:Int):=by omega
  by_cases a:o.Id = 0 <;> by_cases b:n.Id = id <;> by_cases c:o.Id = id <;> by_cases d:n.Id = 0 <;> simp [h1,h0,h0',a,b,c,d] <;> omega
theorem c2g:∀ (xs out:List x8),out.length + xs.length ≤ 2 ^ 30 → (∀ r ∈ xs,smR r) → a4o xs out = some (out ++ xs)
  | [],out,_,_ => by rw [a4o]; simp
  | x :: xs,out,h,hd => by
    simp only [List.length_cons] at h
    have:=hd x (by simp)
    rw [a4o,b3m x this.1 this.2,Option.bind_some,if_pos (by simp; omega),c2g xs _ (by simp; omega) (fun y hy => hd y (by simp [hy]))]
    simp
theorem c2h:∀ (xs out:List (List x8)),out.length + xs.length ≤ 2 ^ 30 → (∀ l ∈ xs,smL l) → a4p xs out = some (out ++ xs)
  | [],out,_,_ => by rw [a4p]; simp
  | x :: xs,out,h,hd => by
    simp only [List.length_cons] at h
    have:=hd x (by simp)
    have h2:=this.1
    rw [a4p,c2g x [] (by simp; omega) this.2,Option.bind_some,if_pos (by simp; omega),c2h xs _ (by simp; omega) (fun y hy => hd y (by simp [hy]))]
    simp
theorem c5j (x:a0l) (h:smS x):a8h x = some x:=by
  have:=h.1
  unfold a8h
  rw [c2h x.Tables [] (by simp; omega) h.2]
  cases x
  rfl
theorem b7t (l:List x8):∀ (xs:List x8) (k:Nat) (p:x8),l.length ≤ maxLen → l[k]? = some p → l.drop (k + 1) = xs → a2i l xs (k + 1) = some (if a5i (p :: xs) = true then .go () else .ret false)
  | [],k,p,_,_,_ => by rw [a2i]; rfl
  | x :: xs,k,p,hl,hp,hd => by
    have hlt:=d3w hd
    have e:w64 (((k + 1:Nat):Int) - 1) = (k:Int):=by rw [a3i (by unfold maxLen at hl; omega)]; omega
    have hx:l[k + 1]? = some x:=by have:=congrArg (·[0]?) hd; simpa using this
    rw [a2i,if_pos (by simp <;> omega),e,b1o,hp,Option.bind_some,Option.bind_some]
    by_cases c:p.Id < x.Id
    · have c':¬ p.Id ≥ x.Id:=by omega
      rw [if_neg (by simpa using c'),b7t l xs (k + 1) x hl hx (b1j hd)]
      simp [a5i,c]
    · rw [if_pos (by simp; omega)]
      simp [a5i,c]
theorem c8x (l:List x8) (hl:l.length ≤ maxLen):a2i l l 0 = some (if a5i l = true then .go () else .ret false):=by
  cases l with
  | nil => rfl
  | cons p xs =>
    rw [a2i,if_neg (by simp),Option.bind_some,if_neg (by simp)]
    exact b7t (p :: xs) xs 0 p hl rfl rfl
theorem b7u:∀ (xs:List (List x8)),(∀ l ∈ xs,l.length ≤ maxLen) → a3o xs = some (if xs.all a5i = true then .go () else .ret false)
  | [],_ => by rw [a3o]; rfl
  | l :: xs,h => by
    rw [a3o,c8x l (h l (by simp)),b7u xs (fun y hy => h y (by simp [hy]))]
    rcases Bool.eq_false_or_eq_true (a5i l) with hz1 | hz1 <;> simp [hz1]
theorem d3b (x:a0l) (h:∀ l ∈ x.Tables,l.length ≤ maxLen):a9s x = some (x.Tables.all a5i):=by
  unfold a9s
  rw [b7u _ h]
  rcases Bool.eq_false_or_eq_true (x.Tables.all a5i) with hz1 | hz1 <;> simp [hz1]
theorem b2u (id:Int):∀ l:List x8,a5i l = true →
    (b0b l id = true ∧ ∃ A r B,l = A ++ r :: B ∧ r.Id = id ∧ (∀ x ∈ A,x.Id < id) ∧ ∀ x ∈ B,id < x.Id) ∨ (b0b l id = false ∧ ∃ A B,l = A ++ B ∧ (∀ x ∈ A,x.Id < id) ∧ ∀ x ∈ B,id < x.Id)
  | [],_ => .inr ⟨rfl,[],[],rfl,by simp,by simp⟩
  | a :: l,hs => by
    obtain ⟨h1,h2⟩:=b6z hs
    rcases Int.lt_trichotomy a.Id id with h | h | h
    · have hn:b0b (a :: l) id = b0b l id:=by
        have:¬ a.Id = id:=by omega
        simp [b0b,this]
      rw [hn]
      rcases b2u id l h1 with ⟨e,A,r,B,rfl,hr,hA,hB⟩ | ⟨e,A,B,rfl,hA,hB⟩
      · refine .inl ⟨e,a :: A,r,B,rfl,hr,fun x hx => ?_,hB⟩
        rcases List.mem_cons.1 hx with rfl | hx
        · exact h
        · exact hA x hx
      · refine .inr ⟨e,a :: A,B,rfl,fun x hx => ?_,hB⟩
        rcases List.mem_cons.1 hx with rfl | hx
        · exact h
        · exact hA x hx
    · refine .inl ⟨by simp [b0b,h],[],a,l,rfl,h,by simp,fun x hx => by have:=h2 x hx; omega⟩
    · refine .inr ⟨?_,[],a :: l,rfl,by simp,fun x hx => ?_⟩
      · unfold b0b
        rw [List.any_eq_false]
        intro x hx
        rcases List.mem_cons.1 hx with rfl | hx
        · simp; omega
        · have:=h2 x hx; simp; omega
      · rcases List.mem_cons.1 hx with rfl | hx
        · exact h
        · have:=h2 x hx; omega
theorem at_eq {A B:List x8} {id:Int} {m:Nat} (hm:m ≤ (A ++ B).length) (hA:∀ x ∈ A,x.Id < id) (hB:∀ x ∈ B,id ≤ x.Id) (h2:∀ q r,q < m → (A ++ B)[q]? = some r → r.Id < id) (h3:∀ q r,m ≤ q → (A ++ B)[q]? = some r → id ≤ r.Id):m = A.length:=by
  rcases Nat.lt_trichotomy m A.length with h | h | h
  · have:=h3 m A[m] (Nat.le_refl _) (by rw [List.getElem?_append_left h,List.getElem?_eq_getElem h])
    have:=hA A[m] (List.getElem_mem h)
    omega
  · exact h
  · have hb:A.length < (A ++ B).length:=by omega
    have e:(A ++ B)[A.length]? = some (A ++ B)[A.length]:=List.getElem?_eq_getElem hb
    have:=h2 A.length _ h e
    have hmem:(A ++ B)[A.length] ∈ B:=by
      rw [List.getElem_append_right (Nat.le_refl _)]
      exact List.getElem_mem _
    have:=hB _ hmem
    omega
theorem c5k {A B:List x8} {r:x8} {id:Int} (hA:∀ x ∈ A,x.Id < id) (hr:r.Id = id):(A ++ r :: B).find? (fun r => r.Id == id) = some r:=by
  induction A with
  | nil => simp [hr]
  | cons a A ih =>
    have h1:=hA a (by simp)
    rw [List.cons_append,List.find?_cons_of_neg (by simp; omega)]
    exact ih fun x hx => hA x (by simp [hx])
theorem c7q {A B:List x8} {id:Int} (hA:∀ x ∈ A,x.Id < id) (hB:∀ x ∈ B,id < x.Id):(A ++ B).find? (fun r => r.Id == id) = none:=by
  rw [List.find?_eq_none]
  intro x hx
  rcases List.mem_append.1 hx with h | h
  · have:=hA x h; simp; omega
  · have:=hB x h; simp; omega
theorem b7v {A B:List x8} {r:x8} {id:Int} (hA:∀ x ∈ A,x.Id < id) (hr:r.Id = id):(A ++ r :: B).findIdx? (fun r => r.Id == id) = some A.length:=by
  induction A with
  | nil => simp [List.findIdx?_cons,hr]
  | cons a A ih =>
    have h1:=hA a (by simp)
    rw [List.cons_append,List.findIdx?_cons,ih fun x hx => hA x (by simp [hx])]
    have:¬ a.Id = id:=by omega
    simp [this]
theorem d3c {A B:List x8} {r:x8} {id:Int} (hA:∀ x ∈ A,x.Id < id) (hr:r.Id = id) (hB:∀ x ∈ B,id < x.Id):b7s (A ++ r :: B) id = A ++ B:=by
  unfold b7s
  rw [List.filter_append,List.filter_cons,if_neg (by simp [hr]),List.filter_eq_self.2 (fun x hx => by have:=hA x hx; simp; omega),List.filter_eq_self.2 (fun x hx => by have:=hB x hx; simp; omega)]
theorem c1k {A B:List x8} {r x:x8} (hA:∀ y ∈ A,y.Id < x.Id) (hr:r.Id = x.Id):b6n (A ++ r :: B) x = A ++ x :: B:=by
  induction A with
  | nil => simp [b6n,hr]
  | cons a A ih =>
    have h1:=hA a (by simp)
    rw [List.cons_append,b6n,if_pos h1,ih fun y hy => hA y (by simp [hy])]; rfl
theorem c5l {A B:List x8} {x:x8} (hA:∀ y ∈ A,y.Id < x.Id) (hB:∀ y ∈ B,x.Id < y.Id):b6n (A ++ B) x = A ++ x :: B:=by
  induction A with
  | nil =>
    cases B with
    | nil => rfl
    | cons b B =>
      have:=hB b (by simp)
      rw [List.nil_append,b6n,if_neg (by omega),if_neg (by omega)]; rfl
  | cons a A ih =>
    have h1:=hA a (by simp)
    rw [List.cons_append,b6n,if_pos h1,ih fun y hy => hA y (by simp [hy])]; rfl
theorem b7a {A B:List x8} {r:x8}:idx (A ++ r :: B) (A.length:Int) = some r:=by rw [b1o]; simp
theorem d8o (l:List x8) (id:Int) (hs:a5i l = true) (hl:smL l):b1z l id = some (a7o l id):=by
  have:=hl.1
  unfold b1z a7o
  rw [c5h,Option.bind_some,d5n]
  rcases b2u id l hs with ⟨hh,A,r,B,rfl,hr,hA,hB⟩ | ⟨hh,A,B,rfl,hA,hB⟩
  · have h2:=hl.2 r (by simp)
    rw [hh,c5k hA hr,b7v hA hr]
    simp only [Bool.not_true,Bool.false_eq_true,if_false,atI,b7a,Option.bind_some,b3m r h2.1 h2.2,Option.getD_some]
  · rw [hh,c7q hA hB]; rfl
theorem b6o (l:List x8) (r:x8) (A B:List x8) (hl:l = A ++ B) (hA:∀ x ∈ A,x.Id < r.Id) (hB:∀ x ∈ B,r.Id ≤ x.Id) (hs:l.length ≤ 2 ^ 40):∀ (n f k:Nat),k + n = A.length → n < f → a3l l r f (k:Int) = some ((A.length:Nat):Int)
  | _,0,_,_,h => by omega
  | 0,f + 1,k,h,_ => by
    have hk:k = A.length:=by omega
    subst hk
    rw [a3l]
    cases B with
    | nil => rw [if_neg (by rw [hl]; simp),Option.bind_some,if_neg (by simp)]
    | cons b B =>
      have:=hB b (by simp)
      have hi:idx l (A.length:Int) = some b:=by rw [hl]; exact b7a
      rw [if_pos (by rw [hl]; simp <;> omega),hi,Option.bind_some,Option.bind_some,if_neg (by simp; omega)]
  | n + 1,f + 1,k,h,hf => by
    have hk:k < A.length:=by omega
    have hla:A.length ≤ l.length:=by rw [hl]; simp
    have hi:idx l (k:Int) = some A[k]:=by rw [b1o,hl,List.getElem?_append_left hk,List.getElem?_eq_getElem hk]
    have:=hA A[k] (List.getElem_mem hk)
    rw [a3l,if_pos (by simp; omega),hi,Option.bind_some,Option.bind_some,if_pos (by simpa using this),a3i (by omega)]
    exact b6o l r A B hl hA hB hs n f (k + 1) (by omega) (by omega)
theorem d8p (x:a0l) (t:Nat) (l:List x8) (r:x8) (hx:smS x) (ht:x.Tables[t]? = some l) (hs:a5i l = true) (hr:smR r):b0m x (t:Int) r = some ⟨x.Tables.set t (b6n l r),x.Next⟩:=by
  have hl:=hx.2 l (List.mem_of_getElem? ht)
  have h0:=hl.1
  have hf:=d8n
  have htl:=(List.getElem?_eq_some_iff.1 ht).1
  unfold b0m
  rw [c5j x hx,Option.bind_some,if_pos (by omega),Nat.zero_add,Int.toNat_natCast,ht,Option.bind_some]
  rcases b2u r.Id l hs with ⟨hh,A,q,B,rfl,hq,hA,hB⟩ | ⟨hh,A,B,rfl,hA,hB⟩
  · simp only [List.length_append,List.length_cons] at h0
    have hB':∀ y ∈ q :: B,r.Id ≤ y.Id:=by
      intro y hy
      rcases List.mem_cons.1 hy with rfl | hy
      · omega
      · have:=hB y hy; omega
    have e1:a3l (A ++ q :: B) r FUEL 0 = some ((A.length:Nat):Int):=b6o _ r A (q :: B) rfl hA hB' (by simp; omega) A.length FUEL 0 (by omega) (by omega)
    rw [e1,Option.bind_some,if_pos (by simp <;> omega),if_pos (by simp <;> omega),b7a,Option.bind_some,Option.bind_some,if_pos (by simp [hq]),a3i (by omega),if_pos (by simp <;> omega),Option.bind_some,
      if_pos (by simp <;> omega),if_pos (by simp; omega),b3m r hr.1 hr.2,Option.bind_some,if_pos (by simp <;> omega)]
    have e2:((A.length:Int) + 1).toNat = A.length + 1:=by omega
    rw [e2,if_pos (by simp <;> omega),if_pos (by omega),c1k hA hq,Int.toNat_natCast,List.take_left]
    have e3:(A ++ q :: B).drop (A.length + 1) = B:=by rw [← List.drop_drop,List.drop_left]; rfl
    rw [e3]
    simp
  · simp only [List.length_append] at h0
    have e1:a3l (A ++ B) r FUEL 0 = some ((A.length:Nat):Int):=b6o _ r A B rfl hA (fun y hy => by have:=hB y hy; omega) (by simp; omega) A.length FUEL 0 (by omega) (by omega)
    rw [e1,Option.bind_some,if_pos (by simp <;> omega)]
    have e4:(if decide (((A.length:Nat):Int) < (((A ++ B).length:Nat):Int)) = true then (idx (A ++ B) ((A.length:Nat):Int)).bind fun x_80 => some (x_80.Id == r.Id) else some false:Option Bool) = some false:=by
      cases B with
      | nil => rw [if_neg (by simp)]
      | cons b B =>
        have:=hB b (by simp)
        rw [if_pos (by simp <;> omega),b7a,Option.bind_some]
        have:¬ b.Id = r.Id:=by omega
        simp [this]
    rw [e4,Option.bind_some,if_neg (by simp),Option.bind_some,if_pos (by simp <;> omega),if_pos (by simp; omega),b3m r hr.1 hr.2,Option.bind_some,if_pos (by simp <;> omega),if_pos (by simp <;> omega),if_pos (by omega),
      c5l hA hB,Int.toNat_natCast,List.take_left,List.drop_left]
    simp
theorem d5p (x:a0l) (t:Nat) (l:List x8) (id:Int) (hx:smS x) (ht:x.Tables[t]? = some l) (hs:a5i l = true) (hh:b0b l id = true):b1b x (t:Int) (atI (l.findIdx? (fun r => r.Id == id))) = some ⟨x.Tables.set t (b7s l id),x.Next⟩:=by
  have hl:=hx.2 l (List.mem_of_getElem? ht)
  have h0:=hl.1
  have htl:=(List.getElem?_eq_some_iff.1 ht).1
  unfold b1b
  rw [c5j x hx,Option.bind_some,if_pos (by omega),Nat.zero_add,Int.toNat_natCast,ht,Option.bind_some]
  rcases b2u id l hs with ⟨_,A,q,B,rfl,hq,hA,hB⟩ | ⟨h,_⟩
  · simp only [List.length_append,List.length_cons] at h0
    have ea:atI (some A.length) = (A.length:Int):=rfl
    rw [b7v hA hq,d3c hA hq hB,ea]
    have e2:((A.length:Int) + 1).toNat = A.length + 1:=by omega
    have e3:(A ++ q :: B).drop (A.length + 1) = B:=by rw [← List.drop_drop,List.drop_left]; rfl
    rw [a3i (by omega),if_pos (by simp <;> omega),if_pos (by omega),if_pos (by simp <;> omega),e2,e3,Int.toNat_natCast,List.take_left,if_pos (by simp <;> omega),if_pos (by simp <;> omega),if_pos (by omega)]
    simp
  · rw [hh] at h; cases h
theorem d4a {A B:List x8} {r:x8}:a5i A = true → a5i B = true → (∀ x ∈ A,x.Id < r.Id) → (∀ x ∈ B,r.Id < x.Id) → a5i (A ++ r :: B) = true:=by
  have hc:∀ (a:x8) (l:List x8),a5i l = true → (∀ x ∈ l,a.Id < x.Id) → a5i (a :: l) = true:=by
    intro a l h1 h2
    cases l with
    | nil => rfl
    | cons b l => simp only [a5i,Bool.and_eq_true,decide_eq_true_eq]; exact ⟨h2 b (by simp),h1⟩
  intro h1 h2 h3 h4
  induction A with
  | nil => exact hc r B h2 h4
  | cons a A ih =>
    have ha:=b6z h1
    have har:=h3 a (by simp)
    refine hc a (A ++ r :: B) (ih ha.1 (fun x hx => h3 x (by simp [hx]))) ?_
    intro x hx
    rcases List.mem_append.1 hx with h | h
    · exact ha.2 x h
    · rcases List.mem_cons.1 h with rfl | h
      · exact har
      · have:=h4 x h; omega
theorem c0g {A B:List x8} (h:List.Sublist A B) (hb:a5i B = true):a5i A = true:=by
  have hp:=(c7o hb).sublist h
  have:∀ l:List x8,l.Pairwise (fun a b => a.Id < b.Id) → a5i l = true:=by
    intro l
    induction l with
    | nil => intro _; rfl
    | cons a l ih =>
      intro h
      rw [List.pairwise_cons] at h
      cases l with
      | nil => rfl
      | cons b l => simp only [a5i,Bool.and_eq_true,decide_eq_true_eq]; exact ⟨h.1 b (by simp),ih h.2⟩
  exact this A hp
theorem d8q {l:List x8} (id:Int) (h:a5i l = true):a5i (b7s l id) = true:=c0g List.filter_sublist h
theorem e1d {l:List x8} (r:x8) (h:a5i l = true) (hl:l.length ≤ 2 ^ 30):a5i (b6n l r) = true:=by
  rcases b2u r.Id l h with ⟨hh,A,q,B,rfl,hq,hA,hB⟩ | ⟨hh,A,B,rfl,hA,hB⟩
  · rw [c1k hA hq]
    exact d4a (c0g (List.sublist_append_left _ _) h) (c0g ((List.sublist_cons_self q B).trans (List.sublist_append_right _ _)) h) hA hB
  · rw [c5l hA hB]
    exact d4a (c0g (List.sublist_append_left _ _) h) (c0g (List.sublist_append_right _ _) h) hA hB
theorem d3d {l:List x8} {id:Int} {r:x8} (h:a7o l id = r) (hr:¬ r.Id = 0):b0b l id = true:=by
  unfold a7o at h
  cases hf:l.find? (fun r => r.Id == id) with
  | none => rw [hf] at h; subst h; exact absurd rfl hr
  | some y =>
    have:=List.find?_some hf
    exact List.any_eq_true.2 ⟨y,List.mem_of_find?_eq_some hf,this⟩
theorem d4b (x y:x8):(x = y) ↔ (x.Id = y.Id ∧ x.Cells = y.Cells):=by
  cases x; cases y; simp
theorem d8r {α:Type} {a b:List α} (h:¬ a.length = b.length):((a.length:Int) != (b.length:Int)) = true:=by
  simp only [bne_iff_ne,ne_eq]; omega
theorem d8s {α:Type} {a b:List α} (h:a.length = b.length):((a.length:Int) != (b.length:Int)) = false:=by
  rw [h]; simp
theorem b5g (b:x8):∀ (xs:List (List a0c)) (i:Nat),i + xs.length = b.Cells.length → a2l b xs i = some (if xs = b.Cells.drop i then .go () else .ret false)
  | [],i,h => by
    rw [a2l,List.drop_of_length_le (by simp at h; omega)]; rfl
  | x :: xs,i,h => by
    obtain ⟨y,hy⟩:=c0z (l:=b.Cells) (i:=i) (by simp at h; omega)
    have hd:b.Cells.drop i = y :: b.Cells.drop (i + 1):=by
      obtain ⟨h1,h2⟩:=List.getElem?_eq_some_iff.1 hy
      rw [List.drop_eq_getElem_cons h1,h2]
    rw [a2l,b1o,hy,Option.bind_some,d5o,Option.bind_some,b5g b xs (i + 1) (by simp at h ⊢; omega),hd]
    by_cases h1:x = y <;> by_cases h2:xs = b.Cells.drop (i + 1) <;> simp [h1,h2]
theorem c8y (a b:x8):a7p a b = some (decide (a = b)):=by
  unfold a7p
  by_cases h0:a.Id = b.Id
  · by_cases h:a.Cells.length = b.Cells.length
    · rw [d8s h,b5g b a.Cells 0 (by omega),List.drop_zero]
      by_cases h2:a.Cells = b.Cells <;> simp [h0,h2,d4b]
    · rw [d8r h]
      have:¬ a.Cells = b.Cells:=fun e => h (by rw [e])
      simp [h0,d4b,this]
  · simp [h0,d4b]
theorem c9a {id:Int} {o n:x8} (h:¬ a5u id o n = 0):¬ id < 1:=fun h1 => h (by unfold a5u; rw [if_pos h1])
theorem d1m {id:Int} {o n:x8} (h:¬ a5u id o n = 0) (hn:n.Id = 0):o.Id = id:=by
  have h1:=c9a h
  unfold a5u at h
  rw [if_neg h1] at h
  by_cases a:o.Id = 0 ∧ n.Id = id
  · omega
  · rw [if_neg a] at h
    by_cases b:o.Id = id ∧ n.Id = 0
    · exact b.1
    · rw [if_neg b] at h
      by_cases c:o.Id = id ∧ n.Id = id
      · exact c.1
      · rw [if_neg c] at h; exact absurd rfl h
theorem c5m (i:Int) (c:List (List a0c)) (id:Int):a6i i c id = some (if i < id then -1 else if i > id then 1 else 0):=by
  unfold a6i
  rw [d8l]
  rfl
theorem c1l (l:List x8) (id:Int) (hs:a5i l = true) (hl:l.length ≤ 2 ^ 30):∀ (k i j:Nat),i ≤ j → j ≤ l.length → j - i < k → (∀ q r,q < i → l[q]? = some r → r.Id < id) → (∀ q r,j ≤ q → l[q]? = some r → id ≤ r.Id) → ∃ m:Nat,a0g l id k i j = some (m:Int) ∧ m ≤ l.length ∧ (∀ q r,q < m → l[q]? = some r → r.Id < id) ∧ (∀ q r,m ≤ q → l[q]? = some r → id ≤ r.Id)
  | 0,i,j,_,_,h,_,_ => by omega
  | k + 1,i,j,hij,hj,hk,ha,hb => by
    rw [a0g]
    by_cases c:i < j
    · rw [if_pos (by simpa using c),e2w (by omega) (by omega) (by omega)]
      have em:((i:Int) + j) / 2 = (((i + j) / 2:Nat):Int):=by omega
      rw [em,Nat.zero_add,Int.toNat_natCast]
      have hm:(i + j) / 2 < l.length:=by omega
      obtain ⟨r,hr⟩:∃ r,l[(i + j) / 2]? = some r:=⟨l[(i + j) / 2],List.getElem?_eq_getElem hm⟩
      rw [hr,Option.bind_some,if_pos (by omega),c5m,Option.bind_some]
      by_cases d:r.Id < id
      · rw [if_pos (by simp [d]),a3i (by omega)]
        have:(((i + j) / 2:Nat):Int) + 1 = (((i + j) / 2 + 1:Nat):Int):=by omega
        rw [this]
        refine c1l l id hs hl k ((i + j) / 2 + 1) j (by omega) hj (by omega) (fun q r' hq hr' => ?_) hb
        by_cases e:q = (i + j) / 2
        · subst e; rw [hr] at hr'; cases hr'; exact d
        · have:=c8w hs hr' hr (by omega); omega
      · rw [if_neg (by simp only [d,if_false]; split <;> simp)]
        refine c1l l id hs hl k i ((i + j) / 2) (by omega) (by omega) (by omega) ha (fun q r' hq hr' => ?_)
        by_cases e:q = (i + j) / 2
        · subst e; rw [hr] at hr'; cases hr'; omega
        · have:=c8w hs hr hr' (by omega); omega
    · rw [if_neg (by simpa using c)]
      exact ⟨i,rfl,by omega,ha,fun q r hq => hb q r (by omega)⟩
theorem d8t (l:List x8) (id:Int) (hs:a5i l = true) (hl:l.length ≤ 2 ^ 30):∃ m:Nat,a6p l id = some ((m:Int),b0b l id) ∧ m ≤ l.length ∧ (∀ q r,q < m → l[q]? = some r → r.Id < id) ∧ (∀ q r,m ≤ q → l[q]? = some r → id ≤ r.Id):=by
  have hf:=d8n
  obtain ⟨m,e,h1,h2,h3⟩:=c1l l id hs hl FUEL 0 l.length (by omega) (by omega) (by omega) (fun q r h => by omega) (fun q r h hr => by have:=(List.getElem?_eq_some_iff.1 hr).1; omega)
  have e':a0g l id FUEL 0 (l.length:Int) = some (m:Int):=e
  refine ⟨m,?_,h1,h2,h3⟩
  unfold a6p a1n
  rw [e',Option.bind_some,Nat.zero_add,Int.toNat_natCast]
  by_cases c:m < l.length
  · obtain ⟨r,hr⟩:∃ r,l[m]? = some r:=⟨l[m],List.getElem?_eq_getElem c⟩
    rw [hr]
    simp only [c7m]
    rw [if_pos (by simpa using c),if_pos (by omega),c5m,Option.bind_some,Option.bind_some]
    have hge:=h3 m r (Nat.le_refl _) hr
    by_cases d:r.Id = id
    · have hh:b0b l id = true:=List.any_eq_true.2 ⟨r,List.mem_of_getElem? hr,by simp [d]⟩
      rw [hh]; simp [d]
    · have hh:b0b l id = false:=by
        unfold b0b
        rw [List.any_eq_false]
        intro y hy
        obtain ⟨q,hq⟩:=List.mem_iff_getElem?.1 hy
        rcases Nat.lt_trichotomy q m with g | g | g
        · have:=h2 q y g hq; simp; omega
        · subst g; rw [hr] at hq; cases hq; simpa using d
        · have:=c8w hs hr hq g; simp; omega
      have g1:¬ r.Id < id:=by omega
      have g2:r.Id > id:=by omega
      rw [hh]; simp [g1,g2]
  · have hh:b0b l id = false:=by
      unfold b0b
      rw [List.any_eq_false]
      intro y hy
      obtain ⟨q,hq⟩:=List.mem_iff_getElem?.1 hy
      have:=(List.getElem?_eq_some_iff.1 hq).1
      have:=h2 q y (by omega) hq
      simp; omega
    rw [List.getElem?_eq_none (by omega)]
    simp only [c7m]
    rw [if_neg (by simpa using c),Option.bind_some,hh]
theorem d4c (l:List x8) (id:Int) (hs:a5i l = true) (hl:l.length ≤ 2 ^ 30):∃ m:Nat,a6p l id = some ((m:Int),b0b l id) ∧ m ≤ l.length ∧
    ((b0b l id = true ∧ ∃ A r B,l = A ++ r :: B ∧ A.length = m ∧ r.Id = id ∧ (∀ x ∈ A,x.Id < id) ∧ ∀ x ∈ B,id < x.Id) ∨
     (b0b l id = false ∧ ∃ A B,l = A ++ B ∧ A.length = m ∧ (∀ x ∈ A,x.Id < id) ∧ ∀ x ∈ B,id < x.Id)):=by
  obtain ⟨m,e,h1,h2,h3⟩:=d8t l id hs hl
  refine ⟨m,e,h1,?_⟩
  rcases b2u id l hs with ⟨hh,A,r,B,rfl,hr,hA,hB⟩ | ⟨hh,A,B,rfl,hA,hB⟩
  · exact .inl ⟨hh,A,r,B,rfl,(at_eq h1 hA (fun x hx => by rcases List.mem_cons.1 hx with rfl | hx; exact Int.le_of_eq hr.symm; exact Int.le_of_lt (hB x hx)) h2 h3).symm,hr,hA,hB⟩
  · exact .inr ⟨hh,A,B,rfl,(at_eq h1 hA (fun x hx => Int.le_of_lt (hB x hx)) h2 h3).symm,hA,hB⟩
theorem b7w:∀ (xs out:List x8),out.length + xs.length ≤ 2 ^ 30 → (∀ r ∈ xs,smR r) → a3q xs out = some (out ++ xs)
  | [],out,_,_ => by rw [a3q]; simp
  | x :: xs,out,h,hd => by
    simp only [List.length_cons] at h
    have:=hd x (by simp)
    rw [a3q,c7n x this.1 this.2,Option.bind_some,if_pos (by simp; omega),b7w xs _ (by simp; omega) (fun y hy => hd y (by simp [hy]))]
    simp
theorem d3e (l:List x8) (h:smL l):a9t l = some l:=by
  have:=h.1
  unfold a9t
  rw [b7w l [] (by simp; omega) h.2]; rfl
theorem b6p:∀ (xs out:List (List x8)),out.length + xs.length ≤ 2 ^ 30 → (∀ l ∈ xs,smL l) → a3b xs out = some (out ++ xs)
  | [],out,_,_ => by rw [a3b]; simp
  | x :: xs,out,h,hd => by
    simp only [List.length_cons] at h
    rw [a3b,d3e x (hd x (by simp)),Option.bind_some,if_pos (by simp; omega),b6p xs _ (by simp; omega) (fun y hy => hd y (by simp [hy]))]
    simp
theorem d1n (x:a0l) (h:smS x):a8j x = some x:=by
  have:=h.1
  unfold a8j
  rw [b6p x.Tables [] (by simp; omega) h.2]
  cases x
  rfl
theorem d8u (d:List a0c) (h:d.length ≤ 2 ^ 30):a1x d = some d:=by
  unfold a1x
  rw [if_pos (by simpa using h)]
  rfl
theorem b7x (l:List (List a0c)):∀ (xs out:List (List a0c)) (i:Nat),i + xs.length = l.length → out.length + xs.length ≤ 2 ^ 30 → (∀ d ∈ xs,d.length ≤ 2 ^ 30) → a2m l xs i out = some (out ++ xs)
  | [],out,i,_,_,_ => by rw [a2m]; simp
  | x :: xs,out,i,hi,h,hd => by
    simp only [List.length_cons] at h hi
    have:=hd x (by simp)
    rw [a2m,if_pos (by omega),d8u x this,Option.bind_some,if_pos (by simp; omega),b7x l xs _ (i + 1) (by omega) (by simp; omega) (fun y hy => hd y (by simp [hy]))]
    simp
theorem d3f (r:x8) (h:smR r):a7q r.Id r.Cells = some r:=by
  have:=h.1
  unfold a7q
  rw [b7x r.Cells r.Cells [] 0 (by omega) (by simp; omega) h.2,Option.bind_some]
  cases r with
  | mk i c =>
    cases c with
    | nil => rfl
    | cons a c => rw [if_pos (by simp)]; simp
theorem c5n (l:List x8) (id:Int) (hs:a5i l = true) (hl:smL l):a6q l id = some (a7o l id):=by
  have:=hl.1
  unfold a6q a7o
  obtain ⟨m,e,h1,⟨hh,A,r,B,rfl,rfl,hr,hA,hB⟩ | ⟨hh,A,B,rfl,rfl,hA,hB⟩⟩:=d4c l id hs (by omega)
  · have h2:=hl.2 r (by simp)
    have hq:(A ++ r :: B)[A.length]? = some r:=by simp
    rw [e,Option.bind_some,hh,c5k hA hr]
    simp only [Bool.not_true,Bool.false_eq_true,if_false,Nat.zero_add,Int.toNat_natCast,hq,Option.bind_some]
    rw [if_pos (by simp <;> omega),d3f r h2]
    rfl
  · rw [e,Option.bind_some,hh,c7q hA hB]; rfl
theorem e2x (l:List x8) (r:x8) (hs:a5i l = true) (hl:smL l):b2b l r.Id r.Cells = some (b6n l r):=by
  have:=hl.1
  unfold b2b
  obtain ⟨m,e,h1,⟨hh,A,q,B,rfl,rfl,hq,hA,hB⟩ | ⟨hh,A,B,rfl,rfl,hA,hB⟩⟩:=d4c l r.Id hs (by omega)
  · have hq':(A ++ q :: B)[A.length]? = some q:=by simp
    rw [e,Option.bind_some,c1k hA hq]
    simp only [hh,if_true,Nat.zero_add,Int.toNat_natCast,hq',Option.bind_some]
    rw [if_pos (by simp <;> omega)]
    simp [List.set_append_right]
  · rw [e,Option.bind_some,c5l hA hB]
    unfold a2n
    simp only [hh,Bool.false_eq_true,if_false]
    simp only [List.length_append] at this
    rw [if_pos (by simp only [List.length_append,List.length_cons,List.length_nil]; omega),Option.bind_some,Int.toNat_natCast,List.take_left,List.drop_left]
    simp
theorem c2i (a b:List a0c) (hab:a.length = b.length):∀ (xs:List a0c) (i:Nat),i + xs.length = b.length → a0v a b xs i = some (if xs = b.drop i then .go () else .ret false)
  | [],i,h => by
    rw [a0v,List.drop_of_length_le (by simp at h; omega)]; rfl
  | x :: xs,i,h => by
    obtain ⟨y,hy⟩:=c0z (l:=b) (i:=i) (by simp at h; omega)
    have hd:b.drop i = y :: b.drop (i + 1):=by
      obtain ⟨h1,h2⟩:=List.getElem?_eq_some_iff.1 hy
      rw [List.drop_eq_getElem_cons h1,h2]
    rw [a0v,if_pos (by simp at h; omega),b1o,hy,Option.bind_some,d8m,c2i a b hab xs (i + 1) (by simp at h ⊢; omega),hd]
    by_cases h1:x = y <;> by_cases h2:xs = b.drop (i + 1) <;> simp [h1,h2]
theorem d8v (a b:List a0c):a1y a b = some (decide (a = b)):=by
  unfold a1y
  by_cases h:a.length = b.length
  · rw [d8s h,if_neg (by simp),c2i a b h a 0 (by omega),Option.bind_some,List.drop_zero]
    by_cases h2:a = b <;> simp [h2]
  · rw [d8r h,if_pos rfl,decide_eq_false (fun e => h (by rw [e]))]
theorem c5o (a b:List (List a0c)) (hab:a.length = b.length):∀ (xs:List (List a0c)) (i:Nat),i + xs.length = b.length → a0d a b xs i = some (if xs = b.drop i then .go () else .ret false)
  | [],i,h => by
    rw [a0d,List.drop_of_length_le (by simp at h; omega)]; rfl
  | x :: xs,i,h => by
    obtain ⟨y,hy⟩:=c0z (l:=b) (i:=i) (by simp at h; omega)
    have hd:b.drop i = y :: b.drop (i + 1):=by
      obtain ⟨h1,h2⟩:=List.getElem?_eq_some_iff.1 hy
      rw [List.drop_eq_getElem_cons h1,h2]
    rw [a0d,if_pos (by simp at h; omega),b1o,hy,Option.bind_some,d8v,Option.bind_some,c5o a b hab xs (i + 1) (by simp at h ⊢; omega),hd]
    by_cases h1:x = y <;> by_cases h2:xs = b.drop (i + 1) <;> simp [h1,h2]
theorem e1e (a b:List (List a0c)):a0x a b = some (decide (a = b)):=by
  unfold a0x
  by_cases h:a.length = b.length
  · rw [d8s h,if_neg (by simp),c5o a b h a 0 (by omega),Option.bind_some,List.drop_zero]
    by_cases h2:a = b <;> simp [h2]
  · rw [d8r h,if_pos rfl,decide_eq_false (fun e => h (by rw [e]))]
theorem b8t (a b:x8):a5q a.Id a.Cells b = some (decide (a = b)):=by
  unfold a5q
  rw [e1e]
  by_cases h:a.Id = b.Id <;> simp [h,d4b]
def c2j (n id:Int):Int:=if w64 (id + 1) > n then w64 (id + 1) else n
def a6s (c:y9) (x:a0l):a0l × Int :=
  if a5u c.Id c.Old c.New = 0 ∨ ¬ (0 ≤ c.Table ∧ c.Table < (x.Tables.length:Int)) then (x,1)
  else if ¬ a7o ((x.Tables[c.Table.toNat]?).getD []) c.Id = c.Old then (x,13)
  else if c.Old.Id = 0 ∧ 12 ≤ ((x.Tables[c.Table.toNat]?).getD []).length then (x,7)
  else if c.New.Id = 0 then (⟨x.Tables.set c.Table.toNat (b7s ((x.Tables[c.Table.toNat]?).getD []) c.Id),x.Next⟩,0)
  else (⟨x.Tables.set c.Table.toNat (b6n ((x.Tables[c.Table.toNat]?).getD []) c.New),c2j x.Next c.Id⟩,0)
def b4s:List y9 → a0l → a0l × Int
  | [],x => (x,0)
  | c :: cs,x => if (a6s c x).2 = 0 then b4s cs (a6s c x).1 else a6s c x
/-! weights -/
theorem e1f (l:List x8) (r:x8):a5s (b6n l r) ≤ a5s l + b1h r + 1:=by
  induction l with
  | nil => simp [b6n,a5s,b1g]; omega
  | cons y l ih =>
    unfold a5s at ih ⊢
    rw [b6n]
    split
    · simp only [List.length_cons,b1g]; omega
    · split
      · simp only [List.length_cons,b1g]; omega
      · simp only [List.length_cons,b1g]; omega
theorem d8w (l:List x8) (id:Int):a5s (b7s l id) ≤ a5s l:=by
  induction l with
  | nil => exact Nat.le_refl _
  | cons y l ih =>
    unfold b7s a5s at ih ⊢
    rw [List.filter_cons]
    split
    · simp only [List.length_cons,b1g]; omega
    · simp only [List.length_cons,b1g]; omega
theorem d4d:∀ (T:List (List x8)) (t:Nat) (l l':List x8),T[t]? = some l → a7z (T.set t l') + a5s l = a7z T + a5s l'
  | [],t,l,l',h => by simp at h
  | x :: T,0,l,l',h => by
    simp at h
    subst h
    simp only [List.set_cons_zero,a7z]; omega
  | x :: T,t + 1,l,l',h => by
    have ih:=d4d T t l l' (by simpa using h)
    simp only [List.set_cons_succ,a7z]; omega
theorem d4e {T:List (List x8)} {t:Nat} {l l':List x8} (h:T[t]? = some l):a6t (T.set t l') + a5s l = a6t T + a5s l':=by
  have:=d4d T t l l' h
  unfold a6t
  rw [List.length_set]; omega
theorem c5p {r:x8} (h:b1h r ≤ 2 ^ 30):smR r:=by
  unfold b1h a8s at h
  refine ⟨by omega,fun d hd => ?_⟩
  have:=b2q hd
  unfold a9d at this
  omega
theorem d5q {l:List x8} (h:a5s l ≤ 2 ^ 29):smL l:=by
  unfold a5s at h
  refine ⟨by omega,fun r hr => c5p ?_⟩
  have:=b4q hr
  omega
theorem b4b {x:a0l} (h:a2k x ≤ 2 ^ 29):smS x:=by
  unfold a2k a6t at h
  refine ⟨by omega,fun l hl => d5q ?_⟩
  have:=b3l hl
  omega
def b0n:List y9 → Nat
  | [] => 0
  | c :: cs => b1h c.New + 1 + b0n cs
def c9c (T:List (List x8)):Prop:=∀ l ∈ T,a5i l = true
theorem d4f {T:List (List x8)} {t:Nat} {l:List x8} (h:c9c T) (hl:a5i l = true):c9c (T.set t l):=fun x hx => (List.mem_or_eq_of_mem_set hx).elim (h x) (fun e => by rw [e]; exact hl)
theorem c9d {x:a0l} {i:Int} (h:0 ≤ i ∧ i < (x.Tables.length:Int)):∃ l,x.Tables[i.toNat]? = some l ∧ idx x.Tables i = some l:=by
  obtain ⟨n,rfl⟩:∃ n:Nat,i = n:=⟨i.toNat,by omega⟩
  have hn:n < x.Tables.length:=by omega
  exact ⟨x.Tables[n],by rw [Int.toNat_natCast,List.getElem?_eq_getElem hn],by rw [b1o,List.getElem?_eq_getElem hn]⟩
theorem c5q (c:y9) (x:a0l) (hr:c9c x.Tables) (hw:a2k x ≤ 2 ^ 29):c9c (a6s c x).1.Tables ∧ a2k (a6s c x).1 ≤ a2k x + b1h c.New + 1:=by
  unfold a6s
  by_cases h1:a5u c.Id c.Old c.New = 0 ∨ ¬ (0 ≤ c.Table ∧ c.Table < (x.Tables.length:Int))
  · rw [if_pos h1]; exact ⟨hr,by show a2k x ≤ _; omega⟩
  · rw [if_neg h1]
    have h1':0 ≤ c.Table ∧ c.Table < (x.Tables.length:Int):=by
      rcases Classical.em (0 ≤ c.Table ∧ c.Table < (x.Tables.length:Int)) with h | h
      · exact h
      · exact absurd (Or.inr h) h1
    obtain ⟨l,hl,_⟩:=c9d h1'
    have hm:=List.mem_of_getElem? hl
    simp only [hl,Option.getD_some]
    split
    · exact ⟨hr,by show a2k x ≤ _; omega⟩
    · split
      · exact ⟨hr,by show a2k x ≤ _; omega⟩
      · split
        · refine ⟨d4f hr (d8q _ (hr l hm)),?_⟩
          have:=d4e (l':=b7s l c.Id) hl
          have:=d8w l c.Id
          simp only [a2k] at *
          omega
        · have hsl:smL l:=(b4b hw).2 l hm
          refine ⟨d4f hr (e1d _ (hr l hm) (by have:=hsl.1; omega)),?_⟩
          have:=d4e (l':=b6n l c.New) hl
          have:=e1f l c.New
          simp only [a2k] at *
          omega
theorem d8x:∀ (cs:List y9) (x:a0l),c9c x.Tables → a2k x + b0n cs ≤ 2 ^ 29 → a2k (b4s cs x).1 ≤ a2k x + b0n cs
  | [],x,_,_ => by simp [b4s,b0n]
  | c :: cs,x,hr,hw => by
    simp only [b0n] at hw ⊢
    obtain ⟨g1,g2⟩:=c5q c x hr (by omega)
    rw [b4s]
    split
    · have:=d8x cs _ g1 (by omega)
      omega
    · omega
/-! the program -/
theorem e1g (n lo hi:Int):b3a n lo hi = some (decide (lo ≤ n ∧ n ≤ hi)):=by
  unfold b3a
  by_cases h1:lo ≤ n <;> by_cases h2:n ≤ hi <;> simp [h1,h2]
theorem d8y {n id:Int} (h:¬ id < 9223372036854775807) (h2:id ≤ 9223372036854775807) (hn:-9223372036854775808 ≤ n):c2j n id = n:=by
  have:id = 9223372036854775807:=by omega
  subst this
  have e:w64 (9223372036854775807 + 1) = -9223372036854775808:=by decide
  unfold c2j
  rw [e,if_neg (by omega)]
theorem e1h (c:y9) (T:List (List x8)) (n:Int) (hr:c9c T) (hw:a2k ⟨T,n⟩ ≤ 2 ^ 28) (hc:smR c.New) (hid:c.Id ≤ 9223372036854775807) (hn:-9223372036854775808 ≤ n) :
    a5t c T n = some ((a6s c ⟨T,n⟩).2,(a6s c ⟨T,n⟩).1):=by
  have hsm:=b4b (x:=⟨T,n⟩) (by omega)
  have hT:=hsm.1
  simp only at hT
  unfold a5t a6s
  simp only
  rw [c5i,Option.bind_some,d8k,a3i (by omega)]
  by_cases h1:a5u c.Id c.Old c.New = 0
  · simp [h1]
  · by_cases h2:0 ≤ c.Table ∧ c.Table < (T.length:Int)
    · have e1:decide (0 ≤ c.Table ∧ c.Table ≤ (T.length:Int) - 1) = true:=decide_eq_true (by omega)
      obtain ⟨l,hl,_⟩:=c9d (x:=⟨T,n⟩) h2
      have hm:=List.mem_of_getElem? hl
      have hsl:=hsm.2 l hm
      have hrl:=hr l hm
      simp only at hl
      have h12:¬ (a5u c.Id c.Old c.New = 0 ∨ ¬ (0 ≤ c.Table ∧ c.Table < (T.length:Int))):=by simp only [h1,h2,not_true,or_self,not_false_eq_true]; simp
      rw [if_neg h12,e1]
      simp only [beq_iff_eq,h1,if_false,Option.bind_some,Bool.not_true,Bool.false_eq_true,Nat.zero_add,hl,Option.getD_some]
      rw [if_pos h2,c5n l c.Id hrl hsl,Option.bind_some,b8t,Option.bind_some]
      by_cases h3:a7o l c.Id = c.Old
      · rw [if_neg (show ¬ (!decide (a7o l c.Id = c.Old)) = true by simp [h3]),if_neg (show ¬ ¬ a7o l c.Id = c.Old from fun h => h h3)]
        have e2:(if c.Old.Id = 0 then some (decide ((l.length:Int) ≥ 12)) else some false:Option Bool) = some (decide (c.Old.Id = 0 ∧ 12 ≤ l.length)):=by
          by_cases a:c.Old.Id = 0
          · have:((l.length:Int) ≥ 12) ↔ 12 ≤ l.length:=by omega
            simp [a,this]
          · simp [a]
        rw [e2,Option.bind_some]
        by_cases h4:c.Old.Id = 0 ∧ 12 ≤ l.length
        · rw [if_pos (decide_eq_true h4),if_pos h4]
        · rw [if_neg (by simpa using h4),if_neg h4]
          have e3:a7b l c.Id c.Old c.New = none:=by
            unfold a7b
            rw [c5i,Option.bind_some,if_neg (by simpa using h1),c5n l c.Id hrl hsl,Option.bind_some,b8t,Option.bind_some,if_neg (by simp [h3])]
          have e4:a7c l c.Id c.Old c.New = some (if c.New.Id = 0 then b7s l c.Id else b6n l c.New):=by
            unfold a7c
            rw [c5i,Option.bind_some,if_neg (by simpa using h1),c5n l c.Id hrl hsl,Option.bind_some,b8t,Option.bind_some,if_neg (by simp [h3])]
            by_cases h5:c.New.Id = 0
            · rw [if_pos (by simpa using h5),if_pos h5]; rfl
            · rw [if_neg (by simpa using h5),if_neg h5,c7n c.New hc.1 hc.2,Option.bind_some,e2x l c.New hrl hsl]; rfl
          rw [e3,e4]
          simp only [c7m,Option.bind_some]
          rw [if_pos h2]
          by_cases h5:c.New.Id = 0
          · simp [h5]
          · by_cases h6:c.Id < 9223372036854775807
            · simp [h5,h6,c2j]
            · simp [h5,h6,d8y h6 hid hn]
      · rw [if_pos (show (!decide (a7o l c.Id = c.Old)) = true by simp [h3]),if_pos (show ¬ a7o l c.Id = c.Old from h3)]
    · have e1:decide (0 ≤ c.Table ∧ c.Table ≤ (T.length:Int) - 1) = false:=decide_eq_false (by omega)
      have h12:(a5u c.Id c.Old c.New = 0 ∨ ¬ (0 ≤ c.Table ∧ c.Table < (T.length:Int))):=.inr h2
      rw [if_pos h12,e1]
      simp [h1]
theorem step_next (c:y9) (x:a0l) (hn:-9223372036854775808 ≤ x.Next):-9223372036854775808 ≤ (a6s c x).1.Next:=by
  have h1:∀ n id:Int,-9223372036854775808 ≤ n → -9223372036854775808 ≤ c2j n id:=by
    intro n id h
    unfold c2j
    split <;> omega
  unfold a6s
  repeat' split
  all_goals first | exact hn | exact h1 _ _ hn
theorem e2e {n:Int} (h:okI .i64 n):-9223372036854775808 ≤ n ∧ n ≤ 9223372036854775807:=by
  have h1:IntKind.i64.min = -9223372036854775808:=by decide
  have h2:IntKind.i64.max = 9223372036854775807:=by decide
  simpa [okI,Lit.wf,h1,h2] using h
def okC (cs:List y9):Prop:=∀ c ∈ cs,c.Id ≤ 9223372036854775807
theorem d1o:∀ (cs:List y9) (T:List (List x8)) (n:Int),c9c T → a2k ⟨T,n⟩ + b0n cs ≤ 2 ^ 28 → okC cs → -9223372036854775808 ≤ n →
    a3r cs n T = some (if (b4s cs ⟨T,n⟩).2 = 0 then .go ((b4s cs ⟨T,n⟩).1.Next,(b4s cs ⟨T,n⟩).1.Tables) else .ret (b4s cs ⟨T,n⟩))
  | [],T,n,_,_,_,_ => by rw [a3r]; rfl
  | c :: cs,T,n,hr,hw,ho,hn => by
    simp only [b0n] at hw
    obtain ⟨g1,g2⟩:=c5q c ⟨T,n⟩ hr (by omega)
    have hsm:smR c.New:=c5p (by omega)
    rw [a3r,e1h c T n hr (by omega) hsm (ho c (by simp)) hn,Option.bind_some,b4s]
    by_cases h:(a6s c ⟨T,n⟩).2 = 0
    · rw [if_pos h]
      simp only [h]
      have:=d1o cs (a6s c ⟨T,n⟩).1.Tables (a6s c ⟨T,n⟩).1.Next g1 (by show a2k (a6s c ⟨T,n⟩).1 + _ ≤ _; omega) (fun d hd => ho d (by simp [hd])) (step_next c ⟨T,n⟩ hn)
      simpa using this
    · rw [if_neg h]
      simp [h]
/-! the reference -/
theorem kind2 {id:Int} {o n:x8} (h:¬ a5u id o n = 0):(a5u id o n = 2 ↔ n.Id = 0) ∧ (a5u id o n = 1 ↔ o.Id = 0):=by
  have h1:=c9a h
  unfold a5u at h ⊢
  rw [if_neg h1] at h ⊢
  by_cases a:o.Id = 0 ∧ n.Id = id
  · rw [if_pos a]; constructor <;> constructor <;> intro h <;> omega
  · rw [if_neg a] at h ⊢
    by_cases b:o.Id = id ∧ n.Id = 0
    · rw [if_pos b]; constructor <;> constructor <;> intro h <;> omega
    · rw [if_neg b] at h ⊢
      by_cases c:o.Id = id ∧ n.Id = id
      · rw [if_pos c]; constructor <;> constructor <;> intro h <;> omega
      · rw [if_neg c] at h; exact absurd rfl h
theorem d1p (bk:Bool) (list:List y9):∀ (xs cs:List y9) (i:Nat) (T:List (List x8)) (n:Int),xs.length = cs.length →
    (∀ (j:Nat) x c,xs[j]? = some x → cs[j]? = some c → (if bk then (idx list (w64 ((w64 ((list.length:Int) - 1)) - ((i + j:Nat):Int)))).bind fun x_251 => some (x_251.Table,x_251.Id,x_251.New.Id,x_251.New.Cells,x_251.Old.Id,x_251.Old.Cells) else some (x.Table,x.Id,x.Old.Id,x.Old.Cells,x.New.Id,x.New.Cells):Option (Int × Int × Int × (List (List a0c)) × Int × (List (List a0c)))) = some (c.Table,c.Id,c.Old.Id,c.Old.Cells,c.New.Id,c.New.Cells)) →
    c9c T → a2k ⟨T,n⟩ + b0n cs ≤ 2 ^ 28 →
    a2t bk list xs i T n = some (if (b4s cs ⟨T,n⟩).2 = 0 then .go ((b4s cs ⟨T,n⟩).1.Tables,(b4s cs ⟨T,n⟩).1.Next) else .ret (b4s cs ⟨T,n⟩))
  | [],[],i,T,n,_,_,_,_ => by rw [a2t]; rfl
  | [],_ :: _,_,_,_,h,_,_,_ => by simp at h
  | _ :: _,[],_,_,_,h,_,_,_ => by simp at h
  | x :: xs,c :: cs,i,T,n,hlen,hp,hr,hw => by
    simp only [b0n] at hw
    have hsm:=b4b (x:=⟨T,n⟩) (by omega)
    have hT:=hsm.1
    simp only at hT
    have hcn:smR c.New:=c5p (by omega)
    obtain ⟨g1,g2⟩:=c5q c ⟨T,n⟩ hr (by omega)
    have ih:=d1p bk list xs cs (i + 1) (a6s c ⟨T,n⟩).1.Tables (a6s c ⟨T,n⟩).1.Next (by simpa using hlen) (fun j y d hy hd => by
      have:=hp (j + 1) y d (by simpa using hy) (by simpa using hd)
      rw [show i + (j + 1) = i + 1 + j by omega] at this
      exact this) g1 (by show a2k (a6s c ⟨T,n⟩).1 + _ ≤ _; omega)
    have h0:=hp 0 x c rfl rfl
    rw [Nat.add_zero] at h0
    rw [a2t,h0,Option.bind_some,b4s]
    simp only
    have hc:(⟨c.Table,c.Id,⟨c.Old.Id,c.Old.Cells⟩,⟨c.New.Id,c.New.Cells⟩⟩:y9) = c:=rfl
    rw [e1g,a3i (by omega)]
    have e0:((if decide (c.Id < 1) = true then some true else (some (decide (0 ≤ c.Table ∧ c.Table ≤ (T.length:Int) - 1))).bind fun r => if (!r) = true then some true else (a6l (⟨c.Table,c.Id,⟨c.Old.Id,c.Old.Cells⟩,⟨c.New.Id,c.New.Cells⟩⟩:y9)).bind fun r => some (r == 0)):Option Bool) = some (decide (a5u c.Id c.Old c.New = 0 ∨ ¬ (0 ≤ c.Table ∧ c.Table < (T.length:Int)))):=by
      have hh:(0 ≤ c.Table ∧ c.Table ≤ (T.length:Int) - 1) ↔ (0 ≤ c.Table ∧ c.Table < (T.length:Int)):=by omega
      by_cases h:c.Id < 1
      · have:a5u c.Id c.Old c.New = 0:=by unfold a5u; rw [if_pos h]
        simp [h,this]
      · rw [c7p _ _ _ _ h]
        simp only [hh]
        by_cases h2:a5u c.Id c.Old c.New = 0 <;> by_cases h3:(0 ≤ c.Table ∧ c.Table < (T.length:Int)) <;> simp [h,h2,h3]
    rw [e0,Option.bind_some]
    by_cases h1:a5u c.Id c.Old c.New = 0 ∨ ¬ (0 ≤ c.Table ∧ c.Table < (T.length:Int))
    · have es:a6s c ⟨T,n⟩ = (⟨T,n⟩,1):=by unfold a6s; rw [if_pos h1]
      rw [if_pos (decide_eq_true h1),es]
      simp
    · rw [if_neg (by simpa using h1)]
      have h1k:¬ a5u c.Id c.Old c.New = 0:=fun h => h1 (.inl h)
      have h2:0 ≤ c.Table ∧ c.Table < (T.length:Int):=by
        rcases Classical.em (0 ≤ c.Table ∧ c.Table < (T.length:Int)) with h | h
        · exact h
        · exact absurd (Or.inr h) h1
      obtain ⟨l,hl,hli⟩:=c9d (x:=⟨T,n⟩) h2
      have hm:=List.mem_of_getElem? hl
      have hsl:=hsm.2 l hm
      have hrl:=hr l hm
      simp only at hl hli
      have hge:=c9a h1k
      rw [hli,Option.bind_some,d8o l c.Id hrl hsl,Option.bind_some,c8y,Option.bind_some,c7p _ _ _ _ hge,Option.bind_some]
      obtain ⟨k2,k1⟩:=kind2 h1k
      by_cases h3:a7o l c.Id = c.Old
      · have hso:a7o l c.Id = (⟨c.Old.Id,c.Old.Cells⟩:x8):=h3
        rw [if_neg (by simp [hso])]
        have hT2:(c.Table.toNat:Int) = c.Table:=by omega
        by_cases h5:c.New.Id = 0
        · have h6:a5u c.Id c.Old c.New = 2:=k2.2 h5
          have h7:¬ (c.Old.Id = 0 ∧ 12 ≤ l.length):=by
            have:=d1m h1k h5
            intro h; omega
          have hh:b0b l c.Id = true:=d3d h3 (by have:=d1m h1k h5; omega)
          have es:a6s c ⟨T,n⟩ = (⟨T.set c.Table.toNat (b7s l c.Id),n⟩,0):=by
            unfold a6s
            simp only [hl,Option.getD_some]
            rw [if_neg h1,if_neg (show ¬ ¬ a7o l c.Id = c.Old from fun h => h h3),if_neg h7,if_pos h5]
          have e1:=d5p ⟨T,n⟩ c.Table.toNat l c.Id hsm hl hrl hh
          rw [hT2] at e1
          rw [if_pos (show (a5u c.Id (⟨c.Old.Id,c.Old.Cells⟩:x8) (⟨c.New.Id,c.New.Cells⟩:x8) == 2) = true by simpa using h6),Option.bind_some,c5h,Option.bind_some,e1,Option.bind_some]
          rw [es] at ih ⊢
          simpa using ih
        · have h6:¬ a5u c.Id c.Old c.New = 2:=fun h => h5 (k2.1 h)
          rw [if_neg (show ¬ (a5u c.Id (⟨c.Old.Id,c.Old.Cells⟩:x8) (⟨c.New.Id,c.New.Cells⟩:x8) == 2) = true by simpa using h6)]
          have e2:((if (a5u c.Id (⟨c.Old.Id,c.Old.Cells⟩:x8) (⟨c.New.Id,c.New.Cells⟩:x8) == 1) = true then (some l).bind fun x => some (decide ((x.length:Int) ≥ 12)) else some false):Option Bool) = some (decide (c.Old.Id = 0 ∧ 12 ≤ l.length)):=by
            have hk:(a5u c.Id (⟨c.Old.Id,c.Old.Cells⟩:x8) (⟨c.New.Id,c.New.Cells⟩:x8) == 1) = decide (c.Old.Id = 0):=by
              by_cases a:c.Old.Id = 0
              · have:a5u c.Id c.Old c.New = 1:=k1.2 a
                have h':a5u c.Id (⟨c.Old.Id,c.Old.Cells⟩:x8) (⟨c.New.Id,c.New.Cells⟩:x8) = 1:=this
                rw [h',decide_eq_true a]; rfl
              · have:¬ a5u c.Id c.Old c.New = 1:=fun h => a (k1.1 h)
                have h':¬ a5u c.Id (⟨c.Old.Id,c.Old.Cells⟩:x8) (⟨c.New.Id,c.New.Cells⟩:x8) = 1:=this
                rw [decide_eq_false a]; simpa using h'
            have hl12:((l.length:Int) ≥ 12) ↔ 12 ≤ l.length:=by omega
            rw [hk]
            by_cases a:c.Old.Id = 0 <;> simp [a,hl12]
          rw [Option.bind_some,e2,Option.bind_some]
          by_cases h7:c.Old.Id = 0 ∧ 12 ≤ l.length
          · have es:a6s c ⟨T,n⟩ = (⟨T,n⟩,7):=by
              unfold a6s
              simp only [hl,Option.getD_some]
              rw [if_neg h1,if_neg (show ¬ ¬ a7o l c.Id = c.Old from fun h => h h3),if_pos h7]
            rw [if_pos (decide_eq_true h7),es]
            simp
          · have es:a6s c ⟨T,n⟩ = (⟨T.set c.Table.toNat (b6n l c.New),c2j n c.Id⟩,0):=by
              unfold a6s
              simp only [hl,Option.getD_some]
              rw [if_neg h1,if_neg (show ¬ ¬ a7o l c.Id = c.Old from fun h => h h3),if_neg h7,if_neg h5]
            have e1:=d8p ⟨T,n⟩ c.Table.toNat l c.New hsm hl hrl hcn
            rw [hT2] at e1
            have e1':b0m ⟨T,n⟩ c.Table (⟨c.New.Id,c.New.Cells⟩:x8) = _:=e1
            rw [if_neg (by simpa using h7),e1',Option.bind_some]
            rw [es] at ih ⊢
            simpa [c2j] using ih
      · have hso:¬ a7o l c.Id = (⟨c.Old.Id,c.Old.Cells⟩:x8):=h3
        have es:a6s c ⟨T,n⟩ = (⟨T,n⟩,13):=by
          unfold a6s
          simp only [hl,Option.getD_some]
          rw [if_neg h1,if_pos (show ¬ a7o l c.Id = c.Old from h3)]
        rw [if_pos (by simp [hso]),es]
        simp
theorem e1i (T:List (List x8)) (h:∀ l ∈ T,l.length ≤ maxLen):a1t T a4v = some (!T.all a5i):=by
  have key:∀ (xs:List (List x8)) (i:Nat),(∀ l ∈ xs,l.length ≤ maxLen) → (xs.all a5i = true ∧ a0s a4v xs i = some (.go ())) ∨ (xs.all a5i = false ∧ ∃ k:Nat,a0s a4v xs i = some (.ret (k:Int))):=by
    intro xs
    induction xs with
    | nil => intro i _; exact .inl ⟨rfl,by rw [a0s]⟩
    | cons x xs ih =>
      intro i hx
      have e:a4v x = some (!a5i x):=by unfold a4v; rw [d1l x (hx x (by simp))]; rfl
      rw [a0s,e,Option.bind_some]
      cases hb:a5i x with
      | false => exact .inr ⟨by simp [hb],i,by simp⟩
      | true =>
        rcases ih (i + 1) (fun l hl => hx l (by simp [hl])) with ⟨h1,h2⟩ | ⟨h1,k,h2⟩
        · exact .inl ⟨by simp [hb,h1],by simpa using h2⟩
        · exact .inr ⟨by simp [h1],k,by simpa using h2⟩
  unfold a1t a2j
  rcases key T 0 h with ⟨h1,h2⟩ | ⟨h1,k,h2⟩
  · rw [h2,h1]; rfl
  · rw [h2,h1]; simp
theorem c9e {T:List (List x8)} (h:T.all a5i = true):c9c T:=fun l hl => List.all_eq_true.1 h l hl
theorem d3g (x:a0l) (cs:List y9) (hw:a2k x + b0n cs ≤ 2 ^ 28) (ho:okC cs) (hn:-9223372036854775808 ≤ x.Next) :
    a9v x cs = some (if x.Tables.all a5i = true then b4s cs x else (⟨[],0⟩,1)):=by
  have hsm:=b4b (x:=x) (by omega)
  unfold a9v
  rw [e1i x.Tables (fun l hl => Nat.le_trans (hsm.2 l hl).1 (by decide)),Option.bind_some,d1n x hsm]
  cases hb:x.Tables.all a5i with
  | false => simp
  | true =>
    have:=d1o cs x.Tables x.Next (c9e hb) hw ho hn
    have ex:(⟨x.Tables,x.Next⟩:a0l) = x:=rfl
    rw [ex] at this
    simp only [Bool.not_true,Bool.false_eq_true,if_false,if_true,Option.bind_some,this]
    by_cases h:(b4s cs x).2 = 0
    · simp only [h,if_true]; rw [← h]
    · simp [h]
def c0h (c:y9):y9:=⟨c.Table,c.Id,c.New,c.Old⟩
theorem c7r:∀ a b:List y9,b0n (a ++ b) = b0n a + b0n b
  | [],b => by simp [b0n]
  | x :: a,b => by rw [List.cons_append,b0n,b0n,c7r a b]; omega
theorem c7s:∀ cs:List y9,b0n (cs.reverse.map c0h) ≤ a6a cs
  | [] => by simp [b0n]
  | c :: cs => by
    have:=c7s cs
    rw [List.reverse_cons,List.map_append,c7r]
    unfold a6a at this ⊢
    simp only [b0n,List.map_cons,List.map_nil,c0h,List.length_cons,a9e,b0a]
    omega
theorem c6n (x:a0l) (cs:List y9) (hw:a2k x + a6a cs ≤ 2 ^ 28) (ho:okC cs) (hn:-9223372036854775808 ≤ x.Next) :
    ∃ o c,a5z x cs = some (o,c) ∧ a6z x cs = some (o,c) ∧ a2k o ≤ 2 ^ 28:=by
  have hsm:=b4b (x:=x) (by omega)
  have hl:cs.length ≤ 2 ^ 28:=by unfold a6a at hw; omega
  unfold a5z a6z a5l b3i
  by_cases c1:(cs.length:Int) ≤ 4096
  · have d1:¬ (cs.length:Int) > 4096:=by omega
    have c2:cs.length ≤ 100000:=by omega
    have hwn:=c7s cs
    have hw':a2k x + b0n (cs.reverse.map c0h) ≤ 2 ^ 28:=by omega
    have ho':okC (cs.reverse.map c0h):=by
      intro c hc
      obtain ⟨d,hd,rfl⟩:=List.mem_map.1 hc
      exact ho d (List.mem_reverse.1 hd)
    have e1:(cs.reverse.map fun c => (⟨c.Table,c.Id,c.New,c.Old⟩:y9)) = cs.reverse.map c0h:=rfl
    rw [e1,d3g x _ hw' ho' hn,d3b x (fun l hl => Nat.le_trans (hsm.2 l hl).1 (by decide))]
    cases hb:x.Tables.all a5i with
    | false => exact ⟨⟨[],0⟩,1,by simp [c1,c2],by simp [d1],by simp [a2k,a6t,a7z]⟩
    | true =>
      refine ⟨(b4s (cs.reverse.map c0h) x).1,(b4s (cs.reverse.map c0h) x).2,by simp [c1,c2],?_,Nat.le_trans (d8x _ x (c9e hb) (by omega)) hw'⟩
      unfold b1p
      have:=d1p true cs cs (cs.reverse.map c0h) 0 x.Tables x.Next (by simp) (fun j a b ha hb' => by
        have hj:j < cs.length:=(List.getElem?_eq_some_iff.1 ha).1
        rw [List.getElem?_map,List.getElem?_reverse hj] at hb'
        obtain ⟨d,hd,rfl⟩:=Option.map_eq_some_iff.1 hb'
        have i1:w64 ((w64 ((cs.length:Int) - 1)) - ((0 + j:Nat):Int)) = ((cs.length - 1 - j:Nat):Int):=by
          have h1:w64 ((cs.length:Int) - 1) = (cs.length:Int) - 1:=a3i (by omega)
          rw [h1,a3i (by omega)]; omega
        rw [if_pos rfl,i1]
        unfold idx
        rw [if_pos (by omega),Int.toNat_natCast,hd]
        rfl) (c9e hb) hw'
      have ex:(⟨x.Tables,x.Next⟩:a0l) = x:=rfl
      rw [ex] at this
      rw [c5j x hsm]
      simp only [Option.bind_some,this]
      clear this
      generalize cs.reverse.map c0h = zs
      by_cases h:(b4s zs x).2 = 0 <;> simp [d1,h]
  · have d1:(cs.length:Int) > 4096:=by omega
    exact ⟨⟨[],0⟩,2,by simp [c1],by simp [d1],by simp [a2k,a6t,a7z]⟩
theorem b4t (x:a0l) (cs:List y9) (hx:b9o x) (hcs:okL a8v cs):a5m x cs = some true:=by
  unfold a5m
  obtain ⟨r1,e1,hr1⟩:=d5j x 1048576 (by omega) (by omega) hx
  rw [e1,Option.bind_some]
  by_cases hn1:r1 < 0
  · rw [if_pos (decide_eq_true hn1)]
  rw [if_neg (by simpa using hn1)]
  obtain ⟨a1,a2⟩:=hr1.resolve_left hn1
  obtain ⟨r2,e2,hr2⟩:=d1h cs r1 (by omega) (by omega) hcs
  rw [e2,Option.bind_some]
  by_cases hn2:r2 < 0
  · rw [if_pos (decide_eq_true hn2)]
  rw [if_neg (by simpa using hn2)]
  obtain ⟨b1,b2⟩:=hr2.resolve_left hn2
  have t1:=d5m x (by omega)
  have t2:=d1i cs (by omega)
  obtain ⟨o,c,f1,f2,hwo⟩:=c6n x cs (by omega) (fun c hc => (e2e (hcs.2 c hc).2.1).2) (e2e hx.2).1
  have q1:=c2f x
  have q2:=b7q cs
  have m1:=c1y x 1 (b6k x (by omega)) (by omega) (by omega)
  have m2:=c6k cs (1 + (a8r x:Nat)) (c6m cs (by omega)) (by omega) (by omega)
  have q4:=c2f o
  have m4:=c1y o 1 (b6k o (by omega)) (by omega) (by omega)
  have m5:=d1f o 1 (b6k o (by omega)) (by omega) (by omega)
  have n1:decide ((1:Int) + (a8r x:Nat) + (a6f cs:Nat) < 0) = false:=decide_eq_false (by omega)
  have n2:decide ((1:Int) + (a8r o:Nat) < 0) = false:=decide_eq_false (by omega)
  have em:(⟨(b9v o 1).Tables,o.Next⟩:a0l) = b9v o 1:=rfl
  simp only [t1,t2,Option.bind_some,f1,f2,d5g,d1g,m1,m2,m4,em,m5,n1,n2,Bool.not_true,Bool.false_eq_true,if_false,bne_self_eq_false,cond_false]
end Go.R
