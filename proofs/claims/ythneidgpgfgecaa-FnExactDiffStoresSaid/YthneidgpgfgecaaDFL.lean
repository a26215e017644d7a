/- Plain laws of what this statement reaches. -/
import Derived.Test.YthneidgpgfgecaaDFH
import Derived.Test.YthneidgpgfgecaaP0
set_option linter.all false
namespace Go.R
open Go
set_option linter.all false
theorem d3p (x y:Int):cmp_Compare_int x y = some (if x < y then -1 else if x > y then 1 else 0):=by
  unfold cmp_Compare_int cmp_isNaN_int
  by_cases h1:x < y <;> by_cases h2:x > y <;> simp [h1,h2]
def atI (o:Option Nat):Int:=match o with | some k => (k:Int) | none => -1
theorem d5o {o:Option Nat}:decide (atI o < 0) = o.isNone:=by
  cases o with
  | none => rfl
  | some k => exact decide_eq_false (show ¬ ((k:Nat):Int) < 0 by omega)
theorem d3q (x y:y9):(x.Kind == y.Kind && (x.N == y.N && (x.T == y.T && true))) = decide (x = y):=by
  cases x; cases y
  rw [Bool.eq_iff_iff]
  simp
theorem b7g:∀ (xs out:List (List y9)),out.length + xs.length ≤ 2 ^ 30 → (∀ d ∈ xs,d.length ≤ 2 ^ 30) → a4j xs out = some (out ++ xs)
  | [],out,_,_ => by rw [a4j]; simp
  | x :: xs,out,h,hd => by
    simp only [List.length_cons] at h
    have:=hd x (by simp)
    rw [a4j]
    unfold a2z
    rw [if_pos (by simp; omega),Option.bind_some,if_pos (by simp; omega),b7g xs _ (by simp; omega) (fun y hy => hd y (by simp [hy]))]
    simp
theorem d1h (r:x9) (h:r.Cells.length ≤ 2 ^ 30) (hd:∀ d ∈ r.Cells,d.length ≤ 2 ^ 30):a9k r = some r:=by
  unfold a9k
  rw [b7g r.Cells [] (by simp; omega) hd,Option.bind_some]
  cases r with
  | mk i c =>
    cases c with
    | nil => rfl
    | cons a c => rw [if_pos (by simp)]; simp
theorem b4g:∀ (xs out:List (List y9)),out.length + xs.length ≤ 2 ^ 30 → (∀ d ∈ xs,d.length ≤ 2 ^ 30) → a2w xs out = some (out ++ xs)
  | [],out,_,_ => by rw [a2w]; simp
  | x :: xs,out,h,hd => by
    simp only [List.length_cons] at h
    have:=hd x (by simp)
    rw [a2w,if_pos (by simp; omega),if_pos (by simp; omega),b4g xs _ (by simp; omega) (fun y hy => hd y (by simp [hy]))]
    simp
theorem c7p (r:x9) (h:r.Cells.length ≤ 2 ^ 30) (hd:∀ d ∈ r.Cells,d.length ≤ 2 ^ 30):a7m r = some r:=by
  unfold a7m
  rw [b4g r.Cells [] (by simp; omega) hd,Option.bind_some]
  cases r
  simp
theorem c5f:2 ^ 40 < FUEL:=by unfold FUEL; decide
def a6a:List x9 → Bool
  | [] => true
  | [_] => true
  | a :: b :: l => decide (a.Id < b.Id) && a6a (b :: l)
theorem b8b {a:x9} {l:List x9} (h:a6a (a :: l) = true):a6a l = true ∧ ∀ b ∈ l,a.Id < b.Id:=by
  induction l generalizing a with
  | nil => exact ⟨rfl,by simp⟩
  | cons b l ih =>
    simp only [a6a,Bool.and_eq_true,decide_eq_true_eq] at h
    refine ⟨h.2,fun c hc => ?_⟩
    rcases List.mem_cons.1 hc with rfl | hc
    · exact h.1
    · have:=(ih h.2).2 c hc; omega
theorem d1i {l:List x9} (h:a6a l = true):l.Pairwise fun a b => a.Id < b.Id:=by
  induction l with
  | nil => exact .nil
  | cons a l ih => exact List.pairwise_cons.2 ⟨(b8b h).2,ih (b8b h).1⟩
theorem c5g {l:List x9} (h:a6a l = true) {i j:Nat} {a b:x9} (hi:l[i]? = some a) (hj:l[j]? = some b) (hij:i < j):a.Id < b.Id:=by
  obtain ⟨h1,rfl⟩:=List.getElem?_eq_some_iff.1 hi
  obtain ⟨h2,rfl⟩:=List.getElem?_eq_some_iff.1 hj
  exact List.pairwise_iff_getElem.1 (d1i h) i j h1 h2 hij
theorem b4h (rows:List x9):∀ (xs:List x9) (i:Nat) (p:x9),rows.length ≤ maxLen → rows.drop (i + 1) = xs → rows[i]? = some p → a2x rows xs (i + 1) = some (if a6a (p :: xs) = true then .go () else .ret false)
  | [],i,p,_,_,_ => by rw [a2x]; rfl
  | x :: xs,i,p,hl,hd,hp => by
    have hlt:=c9r hd
    rw [a2x]
    have e:w64 (((i + 1:Nat):Int) - 1) = (i:Int):=by rw [a2k (by unfold maxLen at hl; omega)]; omega
    rw [e,a9y,hp,Option.bind_some]
    have hx:rows[i + 1]? = some x:=by have:=congrArg (·[0]?) hd; simpa using this
    by_cases c:p.Id < x.Id
    · have c':¬ p.Id ≥ x.Id:=by omega
      rw [if_neg (by simpa using c'),b4h rows xs (i + 1) x hl (a9t hd) hx]
      simp [a6a,c]
    · rw [if_pos (by simp; omega)]
      simp [a6a,c]
theorem c7q (rows:List x9) (hl:rows.length ≤ maxLen):a7n rows = some (a6a rows):=by
  unfold a7n
  cases rows with
  | nil => rfl
  | cons p xs =>
    rw [show (1:Nat) = 0 + 1 from rfl,b4h (p :: xs) _ 0 p hl rfl rfl]
    have:(p :: xs).drop (0 + 1) = xs:=rfl
    rw [this]
    rcases Bool.eq_false_or_eq_true (a6a (p :: xs)) with hz1 | hz1 <;> simp [hz1]
def a9r (l:List x9) (id:Int):Bool:=l.any fun r => r.Id == id
theorem b5h (id:Int):∀ (l:List x9) (i:Nat),a3o id l i = some (match l.findIdx? (fun r => r.Id == id) with | some k => .ret ((i + k:Nat):Int) | none => .go ())
  | [],i => by rw [a3o]; rfl
  | x :: xs,i => by
    rw [a3o,b5h id xs (i + 1),List.findIdx?_cons]
    cases hp:(x.Id == id) with
    | true => simp
    | false =>
      cases hq:xs.findIdx? (fun r => r.Id == id) with
      | none => simp
      | some k => simp; omega
theorem c9c (l:List x9) (id:Int):a8f l id = some (atI (l.findIdx? (fun r => r.Id == id))):=by
  unfold a8f atI
  rw [b5h]
  cases hq:l.findIdx? (fun r => r.Id == id) <;> simp
theorem d1j (l:List x9) (id:Int):decide (atI (l.findIdx? (fun r => r.Id == id)) < 0) = !a9r l id:=by
  rw [d5o]
  unfold a9r
  rw [← List.findIdx?_isSome]
  cases l.findIdx? (fun r => r.Id == id) <;> rfl
theorem d7d {i j:Int} (h0:0 ≤ i) (h1:i < j) (h2:j ≤ 2 ^ 60):w64 (Int.fdiv (IntKind.u64.wrap (w64 (i + j))) (2 ^ (min (Int.toNat 1) (IntKind.bits .u64)))) = (i + j) / 2:=by
  have e1:w64 (i + j) = i + j:=a2k (by omega)
  have e2:IntKind.u64.wrap (i + j) = i + j:=by
    have:IntKind.u64.wrap (i + j) = (i + j) % 2 ^ 64:=rfl
    rw [this]; omega
  have e3:min (Int.toNat 1) (IntKind.bits .u64) = 1:=by decide
  rw [e1,e2,e3,Int.fdiv_eq_ediv_of_nonneg _ (by omega)]
  have:((2:Int) ^ 1) = 2:=rfl
  rw [this,a2k (by omega)]
theorem b7h (b:List y9):∀ (xs:List y9) (i:Nat),i + xs.length = b.length → a4g b xs i = some (if xs = b.drop i then .go () else .ret false)
  | [],i,h => by
    rw [a4g,List.drop_of_length_le (by simp at h; omega)]; rfl
  | x :: xs,i,h => by
    simp only [List.length_cons] at h
    obtain ⟨y,hy⟩:∃ y,b[i]? = some y:=⟨b[i]'(by omega),List.getElem?_eq_getElem (by omega)⟩
    have ed:b.drop i = y :: b.drop (i + 1):=by
      rw [List.drop_eq_getElem_cons (by omega)]; congr 1; exact (List.getElem?_eq_some_iff.1 hy).2
    rw [a4g,a9y,hy,Option.bind_some,d3q,b7h b xs (i + 1) (by omega),ed]
    by_cases e:x = y
    · subst e; simp
    · simp [e]
theorem d1k (a b:List y9):a9j a b = some (decide (a = b)):=by
  unfold a9j
  by_cases e:a.length = b.length
  · rw [if_neg (by simp [e]),b7h b a 0 (by omega),List.drop_zero]
    by_cases q:a = b <;> simp [q]
  · have:a ≠ b:=fun h => e (by rw [h])
    rw [if_pos (by simp; omega)]
    simp [this]
def smR (r:x9):Prop:=r.Cells.length ≤ 2 ^ 30 ∧ ∀ d ∈ r.Cells,d.length ≤ 2 ^ 30
def smL (l:List x9):Prop:=l.length ≤ 2 ^ 29 ∧ ∀ r ∈ l,smR r
def smS (x:a1d):Prop:=x.Tables.length ≤ 2 ^ 29 ∧ ∀ l ∈ x.Tables,smL l
def a6b (l:List x9) (id:Int):x9:=(l.find? fun r => r.Id == id).getD ⟨0,[]⟩
theorem b5i (l:List x9):∀ (xs:List x9) (k:Nat) (p:x9),l.length ≤ maxLen → l[k]? = some p → l.drop (k + 1) = xs → a2l l xs (k + 1) = some (if a6a (p :: xs) = true then .go () else .ret false)
  | [],k,p,_,_,_ => by rw [a2l]; rfl
  | x :: xs,k,p,hl,hp,hd => by
    have hlt:=c9r hd
    have e:w64 (((k + 1:Nat):Int) - 1) = (k:Int):=by rw [a2k (by unfold maxLen at hl; omega)]; omega
    have hx:l[k + 1]? = some x:=by have:=congrArg (·[0]?) hd; simpa using this
    rw [a2l,if_pos (by simp <;> omega),e,a9y,hp,Option.bind_some,Option.bind_some]
    by_cases c:p.Id < x.Id
    · have c':¬ p.Id ≥ x.Id:=by omega
      rw [if_neg (by simpa using c'),b5i l xs (k + 1) x hl hx (a9t hd)]
      simp [a6a,c]
    · rw [if_pos (by simp; omega)]
      simp [a6a,c]
theorem c5h (l:List x9) (hl:l.length ≤ maxLen):a2l l l 0 = some (if a6a l = true then .go () else .ret false):=by
  cases l with
  | nil => rfl
  | cons p xs =>
    rw [a2l,if_neg (by simp),Option.bind_some,if_neg (by simp)]
    exact b5i (p :: xs) xs 0 p hl rfl rfl
theorem b5j:∀ (xs:List (List x9)),(∀ l ∈ xs,l.length ≤ maxLen) → a3n xs = some (if xs.all a6a = true then .go () else .ret false)
  | [],_ => by rw [a3n]; rfl
  | l :: xs,h => by
    rw [a3n,c5h l (h l (by simp)),b5j xs (fun y hy => h y (by simp [hy]))]
    rcases Bool.eq_false_or_eq_true (a6a l) with hz1 | hz1 <;> simp [hz1]
theorem c1r (x:a1d) (h:∀ l ∈ x.Tables,l.length ≤ maxLen):a7e x = some (x.Tables.all a6a):=by
  unfold a7e
  rw [b5j _ h]
  rcases Bool.eq_false_or_eq_true (x.Tables.all a6a) with hz1 | hz1 <;> simp [hz1]
theorem b8c (id:Int):∀ l:List x9,a6a l = true →
    (a9r l id = true ∧ ∃ A r B,l = A ++ r :: B ∧ r.Id = id ∧ (∀ x ∈ A,x.Id < id) ∧ ∀ x ∈ B,id < x.Id) ∨ (a9r l id = false ∧ ∃ A B,l = A ++ B ∧ (∀ x ∈ A,x.Id < id) ∧ ∀ x ∈ B,id < x.Id)
  | [],_ => .inr ⟨rfl,[],[],rfl,by simp,by simp⟩
  | a :: l,hs => by
    obtain ⟨h1,h2⟩:=b8b hs
    rcases Int.lt_trichotomy a.Id id with h | h | h
    · have hn:a9r (a :: l) id = a9r l id:=by
        have:¬ a.Id = id:=by omega
        simp [a9r,this]
      rw [hn]
      rcases b8c id l h1 with ⟨e,A,r,B,rfl,hr,hA,hB⟩ | ⟨e,A,B,rfl,hA,hB⟩
      · refine .inl ⟨e,a :: A,r,B,rfl,hr,fun x hx => ?_,hB⟩
        rcases List.mem_cons.1 hx with rfl | hx
        · exact h
        · exact hA x hx
      · refine .inr ⟨e,a :: A,B,rfl,fun x hx => ?_,hB⟩
        rcases List.mem_cons.1 hx with rfl | hx
        · exact h
        · exact hA x hx
    · refine .inl ⟨by simp [a9r,h],[],a,l,rfl,h,by simp,fun x hx => by have:=h2 x hx; omega⟩
    · refine .inr ⟨?_,[],a :: l,rfl,by simp,fun x hx => ?_⟩
      · unfold a9r
        rw [List.any_eq_false]
        intro x hx
        rcases List.mem_cons.1 hx with rfl | hx
        · simp; omega
        · have:=h2 x hx; simp; omega
      · rcases List.mem_cons.1 hx with rfl | hx
        · exact h
        · have:=h2 x hx; omega
theorem at_eq {A B:List x9} {id:Int} {m:Nat} (hm:m ≤ (A ++ B).length) (hA:∀ x ∈ A,x.Id < id) (hB:∀ x ∈ B,id ≤ x.Id) (h2:∀ q r,q < m → (A ++ B)[q]? = some r → r.Id < id) (h3:∀ q r,m ≤ q → (A ++ B)[q]? = some r → id ≤ r.Id):m = A.length:=by
  rcases Nat.lt_trichotomy m A.length with h | h | h
  · have:=h3 m A[m] (Nat.le_refl _) (by rw [List.getElem?_append_left h,List.getElem?_eq_getElem h])
    have:=hA A[m] (List.getElem_mem h)
    omega
  · exact h
  · have hb:A.length < (A ++ B).length:=by omega
    have e:(A ++ B)[A.length]? = some (A ++ B)[A.length]:=List.getElem?_eq_getElem hb
    have:=h2 A.length _ h e
    have hmem:(A ++ B)[A.length] ∈ B:=by
      rw [List.getElem_append_right (Nat.le_refl _)]
      exact List.getElem_mem _
    have:=hB _ hmem
    omega
theorem c1s {A B:List x9} {r:x9} {id:Int} (hA:∀ x ∈ A,x.Id < id) (hr:r.Id = id):(A ++ r :: B).find? (fun r => r.Id == id) = some r:=by
  induction A with
  | nil => simp [hr]
  | cons a A ih =>
    have h1:=hA a (by simp)
    rw [List.cons_append,List.find?_cons_of_neg (by simp; omega)]
    exact ih fun x hx => hA x (by simp [hx])
theorem c3y {A B:List x9} {id:Int} (hA:∀ x ∈ A,x.Id < id) (hB:∀ x ∈ B,id < x.Id):(A ++ B).find? (fun r => r.Id == id) = none:=by
  rw [List.find?_eq_none]
  intro x hx
  rcases List.mem_append.1 hx with h | h
  · have:=hA x h; simp; omega
  · have:=hB x h; simp; omega
theorem c2t {A B:List x9} {r:x9} {id:Int} (hA:∀ x ∈ A,x.Id < id) (hr:r.Id = id):(A ++ r :: B).findIdx? (fun r => r.Id == id) = some A.length:=by
  induction A with
  | nil => simp [List.findIdx?_cons,hr]
  | cons a A ih =>
    have h1:=hA a (by simp)
    rw [List.cons_append,List.findIdx?_cons,ih fun x hx => hA x (by simp [hx])]
    have:¬ a.Id = id:=by omega
    simp [this]
theorem c3z {A B:List x9} {r:x9}:idx (A ++ r :: B) (A.length:Int) = some r:=by rw [a9y]; simp
theorem c7r (l:List x9) (id:Int) (hs:a6a l = true) (hl:smL l):a8v l id = some (a6b l id):=by
  have:=hl.1
  unfold a8v a6b
  rw [c9c,Option.bind_some,d1j]
  rcases b8c id l hs with ⟨hh,A,r,B,rfl,hr,hA,hB⟩ | ⟨hh,A,B,rfl,hA,hB⟩
  · have h2:=hl.2 r (by simp)
    rw [hh,c1s hA hr,c2t hA hr]
    simp only [Bool.not_true,Bool.false_eq_true,if_false,atI,c3z,Option.bind_some,c7p r h2.1 h2.2,Option.getD_some]
  · rw [hh,c3y hA hB]; rfl
theorem c9w (x y:x9):(x = y) ↔ (x.Id = y.Id ∧ x.Cells = y.Cells):=by
  cases x; cases y; simp
theorem d6l {α:Type} {a b:List α} (h:¬ a.length = b.length):((a.length:Int) != (b.length:Int)) = true:=by
  simp only [bne_iff_ne,ne_eq]; omega
theorem d6m {α:Type} {a b:List α} (h:a.length = b.length):((a.length:Int) != (b.length:Int)) = false:=by
  rw [h]; simp
theorem b3d (b:x9):∀ (xs:List (List y9)) (i:Nat),i + xs.length = b.Cells.length → a2n b xs i = some (if xs = b.Cells.drop i then .go () else .ret false)
  | [],i,h => by
    rw [a2n,List.drop_of_length_le (by simp at h; omega)]; rfl
  | x :: xs,i,h => by
    obtain ⟨y,hy⟩:=c3v (l:=b.Cells) (i:=i) (by simp at h; omega)
    have hd:b.Cells.drop i = y :: b.Cells.drop (i + 1):=by
      obtain ⟨h1,h2⟩:=List.getElem?_eq_some_iff.1 hy
      rw [List.drop_eq_getElem_cons h1,h2]
    rw [a2n,a9y,hy,Option.bind_some,d1k,Option.bind_some,b3d b xs (i + 1) (by simp at h ⊢; omega),hd]
    by_cases h1:x = y <;> by_cases h2:xs = b.Cells.drop (i + 1) <;> simp [h1,h2]
theorem c5i (a b:x9):a7b a b = some (decide (a = b)):=by
  unfold a7b
  by_cases h0:a.Id = b.Id
  · by_cases h:a.Cells.length = b.Cells.length
    · rw [d6m h,b3d b a.Cells 0 (by omega),List.drop_zero]
      by_cases h2:a.Cells = b.Cells <;> simp [h0,h2,c9w]
    · rw [d6l h]
      have:¬ a.Cells = b.Cells:=fun e => h (by rw [e])
      simp [h0,c9w,this]
  · simp [h0,c9w]
theorem c4a (r:x9) (id:Int):a6y r id = some (if r.Id < id then -1 else if r.Id > id then 1 else 0):=by
  unfold a6y
  rw [d3p]
  rfl
theorem c1t (l:List x9) (id:Int) (hs:a6a l = true) (hl:l.length ≤ 2 ^ 30):∀ (k i j:Nat),i ≤ j → j ≤ l.length → j - i < k → (∀ q r,q < i → l[q]? = some r → r.Id < id) → (∀ q r,j ≤ q → l[q]? = some r → id ≤ r.Id) → ∃ m:Nat,a0f l a6y id k i j = some (m:Int) ∧ m ≤ l.length ∧ (∀ q r,q < m → l[q]? = some r → r.Id < id) ∧ (∀ q r,m ≤ q → l[q]? = some r → id ≤ r.Id)
  | 0,i,j,_,_,h,_,_ => by omega
  | k + 1,i,j,hij,hj,hk,ha,hb => by
    rw [a0f]
    by_cases c:i < j
    · rw [if_pos (by simpa using c),d7d (by omega) (by omega) (by omega)]
      have em:((i:Int) + j) / 2 = (((i + j) / 2:Nat):Int):=by omega
      rw [em,a9y]
      have hm:(i + j) / 2 < l.length:=by omega
      obtain ⟨r,hr⟩:∃ r,l[(i + j) / 2]? = some r:=⟨l[(i + j) / 2],List.getElem?_eq_getElem hm⟩
      rw [hr,Option.bind_some,c4a,Option.bind_some]
      by_cases d:r.Id < id
      · rw [if_pos (by simp [d]),a2k (by omega)]
        have:(((i + j) / 2:Nat):Int) + 1 = (((i + j) / 2 + 1:Nat):Int):=by omega
        rw [this]
        refine c1t l id hs hl k ((i + j) / 2 + 1) j (by omega) hj (by omega) (fun q r' hq hr' => ?_) hb
        by_cases e:q = (i + j) / 2
        · subst e; rw [hr] at hr'; cases hr'; exact d
        · have:=c5g hs hr' hr (by omega); omega
      · rw [if_neg (by simp only [d,if_false]; split <;> simp)]
        refine c1t l id hs hl k i ((i + j) / 2) (by omega) (by omega) (by omega) ha (fun q r' hq hr' => ?_)
        by_cases e:q = (i + j) / 2
        · subst e; rw [hr] at hr'; cases hr'; omega
        · have:=c5g hs hr hr' (by omega); omega
    · rw [if_neg (by simpa using c)]
      exact ⟨i,rfl,by omega,ha,fun q r hq => hb q r (by omega)⟩
theorem d5p (l:List x9) (id:Int) (hs:a6a l = true) (hl:l.length ≤ 2 ^ 30):∃ m:Nat,a9u l id = some ((m:Int),a9r l id) ∧ m ≤ l.length ∧ (∀ q r,q < m → l[q]? = some r → r.Id < id) ∧ (∀ q r,m ≤ q → l[q]? = some r → id ≤ r.Id):=by
  have hf:=c5f
  obtain ⟨m,e,h1,h2,h3⟩:=c1t l id hs hl FUEL 0 l.length (by omega) (by omega) (by omega) (fun q r h => by omega) (fun q r h hr => by have:=(List.getElem?_eq_some_iff.1 hr).1; omega)
  have e':a0f l a6y id FUEL 0 (l.length:Int) = some (m:Int):=e
  refine ⟨m,?_,h1,h2,h3⟩
  unfold a9u a1o
  rw [e',Option.bind_some]
  by_cases c:m < l.length
  · obtain ⟨r,hr⟩:∃ r,l[m]? = some r:=⟨l[m],List.getElem?_eq_getElem c⟩
    rw [if_pos (by simpa using c),a9y,hr,Option.bind_some,c4a,Option.bind_some,Option.bind_some]
    have hge:=h3 m r (Nat.le_refl _) hr
    by_cases d:r.Id = id
    · have hh:a9r l id = true:=List.any_eq_true.2 ⟨r,List.mem_of_getElem? hr,by simp [d]⟩
      rw [hh]; simp [d]
    · have hh:a9r l id = false:=by
        unfold a9r
        rw [List.any_eq_false]
        intro y hy
        obtain ⟨q,hq⟩:=List.mem_iff_getElem?.1 hy
        rcases Nat.lt_trichotomy q m with g | g | g
        · have:=h2 q y g hq; simp; omega
        · subst g; rw [hr] at hq; cases hq; simpa using d
        · have:=c5g hs hr hq g; simp; omega
      have g1:¬ r.Id < id:=by omega
      have g2:r.Id > id:=by omega
      rw [hh]; simp [g1,g2]
  · have hh:a9r l id = false:=by
      unfold a9r
      rw [List.any_eq_false]
      intro y hy
      obtain ⟨q,hq⟩:=List.mem_iff_getElem?.1 hy
      have:=(List.getElem?_eq_some_iff.1 hq).1
      have:=h2 q y (by omega) hq
      simp; omega
    rw [if_neg (by simpa using c),Option.bind_some,hh]
theorem c1u (b:List y9):∀ (xs:List y9) (i:Nat),i + xs.length = b.length → a0q b xs i = some (if xs = b.drop i then .go () else .ret false)
  | [],i,h => by
    rw [a0q,List.drop_of_length_le (by simp at h; omega)]; rfl
  | x :: xs,i,h => by
    simp only [List.length_cons] at h
    obtain ⟨y,hy⟩:∃ y,b[i]? = some y:=⟨b[i]'(by omega),List.getElem?_eq_getElem (by omega)⟩
    have ed:b.drop i = y :: b.drop (i + 1):=by
      rw [List.drop_eq_getElem_cons (by omega)]; congr 1; exact (List.getElem?_eq_some_iff.1 hy).2
    rw [a0q,a9y,hy,Option.bind_some,d3q,c1u b xs (i + 1) (by omega),ed]
    by_cases e:x = y
    · subst e; simp
    · simp [e]
theorem d5q (a b:List y9):a2c a b = some (decide (a = b)):=by
  unfold a2c
  by_cases e:a.length = b.length
  · rw [if_neg (by simp [e]),c1u b a 0 (by omega),List.drop_zero]
    by_cases q:a = b <;> simp [q]
  · have:a ≠ b:=fun h => e (by rw [h])
    rw [if_pos (by simp; omega)]
    simp [this]
theorem d7e (l:List x9) (id:Int) (hs:a6a l = true) (hl:l.length ≤ 2 ^ 30):∃ m:Nat,a9u l id = some ((m:Int),a9r l id) ∧ m ≤ l.length ∧
    ((a9r l id = true ∧ ∃ A r B,l = A ++ r :: B ∧ A.length = m ∧ r.Id = id ∧ (∀ x ∈ A,x.Id < id) ∧ ∀ x ∈ B,id < x.Id) ∨
     (a9r l id = false ∧ ∃ A B,l = A ++ B ∧ A.length = m ∧ (∀ x ∈ A,x.Id < id) ∧ ∀ x ∈ B,id < x.Id)):=by
  obtain ⟨m,e,h1,h2,h3⟩:=d5p l id hs hl
  refine ⟨m,e,h1,?_⟩
  rcases b8c id l hs with ⟨hh,A,r,B,rfl,hr,hA,hB⟩ | ⟨hh,A,B,rfl,hA,hB⟩
  · exact .inl ⟨hh,A,r,B,rfl,(at_eq h1 hA (fun x hx => by rcases List.mem_cons.1 hx with rfl | hx; exact Int.le_of_eq hr.symm; exact Int.le_of_lt (hB x hx)) h2 h3).symm,hr,hA,hB⟩
  · exact .inr ⟨hh,A,B,rfl,(at_eq h1 hA (fun x hx => Int.le_of_lt (hB x hx)) h2 h3).symm,hA,hB⟩
theorem c9x (l:List x9) (id:Int) (hs:a6a l = true) (hl:smL l):a9v l id = some (a6b l id):=by
  have:=hl.1
  unfold a9v a6b
  obtain ⟨m,e,h1,⟨hh,A,r,B,rfl,rfl,hr,hA,hB⟩ | ⟨hh,A,B,rfl,rfl,hA,hB⟩⟩:=d7e l id hs (by omega)
  · have h2:=hl.2 r (by simp)
    rw [e,Option.bind_some,hh,c1s hA hr]
    simp only [Bool.not_true,Bool.false_eq_true,if_false,c3z,Option.bind_some,d1h r h2.1 h2.2,Option.getD_some]
  · rw [e,Option.bind_some,hh,c3y hA hB]; rfl
theorem c4b (f:List y9 → List y9 → Option Bool) (hf:∀ x y,f x y = some (decide (x = y))) (b:List (List y9)):∀ (xs:List (List y9)) (i:Nat),i + xs.length = b.length → a0a b f xs i = some (if xs = b.drop i then .go () else .ret false)
  | [],i,h => by
    rw [a0a,List.drop_of_length_le (by simp at h; omega)]; rfl
  | x :: xs,i,h => by
    obtain ⟨y,hy⟩:=c3v (l:=b) (i:=i) (by simp at h; omega)
    have hd:b.drop i = y :: b.drop (i + 1):=by
      obtain ⟨h1,h2⟩:=List.getElem?_eq_some_iff.1 hy
      rw [List.drop_eq_getElem_cons h1,h2]
    rw [a0a,a9y,hy,Option.bind_some,hf,Option.bind_some,c4b f hf b xs (i + 1) (by simp at h ⊢; omega),hd]
    by_cases h1:x = y <;> by_cases h2:xs = b.drop (i + 1) <;> simp [h1,h2]
theorem d7f (f:List y9 → List y9 → Option Bool) (hf:∀ x y,f x y = some (decide (x = y))) (a b:List (List y9)):a0p a b f = some (decide (a = b)):=by
  unfold a0p
  by_cases h:a.length = b.length
  · rw [d6m h,if_neg (by simp),c4b f hf b a 0 (by omega),Option.bind_some,List.drop_zero]
    by_cases h2:a = b <;> simp [h2]
  · rw [d6l h,if_pos rfl,decide_eq_false (fun e => h (by rw [e]))]
theorem c9e (a b:x9):a9l a b = some (decide (a = b)):=by
  unfold a9l
  rw [d7f _ d5q]
  by_cases h:a.Id = b.Id <;> simp [h,c9w]
theorem d3r {r:x9} (h:a7s r ≤ 2 ^ 30):smR r:=by
  unfold a7s a7d at h
  refine ⟨by omega,fun d hd => ?_⟩
  have:=b1c hd
  unfold a7x at this
  omega
theorem d1l {l:List x9} (h:a5b l ≤ 2 ^ 29):smL l:=by
  unfold a5b at h
  refine ⟨by omega,fun r hr => d3r ?_⟩
  have:=b1n hr
  omega
theorem c4c {x:a1d} (h:a7y x ≤ 2 ^ 29):smS x:=by
  unfold a7y a7i at h
  refine ⟨by omega,fun l hl => d1l ?_⟩
  have:=b0k hl
  omega
def c1w (l:List Int):Prop:=l.Pairwise (· < ·)
def b3h:List Int → Int → List Int
  | [],n => [n]
  | x :: xs,n => if x < n then x :: b3h xs n else if x = n then x :: xs else n :: x :: xs
theorem c1x (n:Int):∀ (l:List Int) (x:Int),x ∈ b3h l n ↔ x = n ∨ x ∈ l
  | [],x => by simp [b3h]
  | y :: l,x => by
    rw [b3h]
    by_cases h1:y < n
    · rw [if_pos h1,List.mem_cons,c1x n l x,List.mem_cons]
      constructor
      · rintro (h | h | h)
        · exact .inr (.inl h)
        · exact .inl h
        · exact .inr (.inr h)
      · rintro (h | h | h)
        · exact .inr (.inl h)
        · exact .inl h
        · exact .inr (.inr h)
    · rw [if_neg h1]
      by_cases h2:y = n
      · rw [if_pos h2]; subst h2; simp
      · rw [if_neg h2,List.mem_cons]
theorem c4d (n:Int):∀ (l:List Int),c1w l → c1w (b3h l n)
  | [],_ => by simp [b3h,c1w]
  | y :: l,h => by
    obtain ⟨h1,h2⟩:=List.pairwise_cons.1 h
    rw [b3h]
    by_cases c1:y < n
    · rw [if_pos c1]
      refine List.pairwise_cons.2 ⟨fun x hx => ?_,c4d n l h2⟩
      rcases (c1x n l x).1 hx with rfl | hx
      · exact c1
      · exact h1 x hx
    · rw [if_neg c1]
      by_cases c2:y = n
      · rw [if_pos c2]; exact h
      · rw [if_neg c2]
        refine List.pairwise_cons.2 ⟨fun x hx => ?_,h⟩
        rcases List.mem_cons.1 hx with rfl | hx
        · omega
        · have:=h1 x hx; omega
theorem b7i (n:Int):∀ (l:List Int),(b3h l n).length ≤ l.length + 1
  | [] => by simp [b3h]
  | y :: l => by
    rw [b3h]
    have:=b7i n l
    split
    · simp only [List.length_cons]; omega
    · split
      · simp
      · simp
theorem c7s:∀ (a b:List Int),c1w a → c1w b → (∀ x,x ∈ a ↔ x ∈ b) → a = b
  | [],[],_,_,_ => rfl
  | [],y :: b,_,_,h => by have:=(h y).2 (by simp); simp at this
  | x :: a,[],_,_,h => by have:=(h x).1 (by simp); simp at this
  | x :: a,y :: b,ha,hb,h => by
    obtain ⟨a1,a2⟩:=List.pairwise_cons.1 ha
    obtain ⟨b1,b2⟩:=List.pairwise_cons.1 hb
    have hxy:x = y:=by
      rcases List.mem_cons.1 ((h x).1 (by simp)) with h1 | h1
      · exact h1
      · rcases List.mem_cons.1 ((h y).2 (by simp)) with h2 | h2
        · exact h2.symm
        · have:=b1 x h1; have:=a1 y h2; omega
    subst hxy
    rw [c7s a b a2 b2 fun z => ?_]
    have hz:=h z
    simp only [List.mem_cons] at hz
    constructor
    · intro m
      rcases hz.1 (.inr m) with rfl | h1
      · have:=a1 z m; omega
      · exact h1
    · intro m
      rcases hz.2 (.inr m) with rfl | h1
      · have:=b1 z m; omega
      · exact h1
def dd:List Int → List Int
  | [] => []
  | [x] => [x]
  | x :: y :: r => if x = y then dd (y :: r) else x :: dd (y :: r)
theorem c9f:∀ (l:List Int) (x:Int),x ∈ dd l ↔ x ∈ l
  | [],x => by simp [dd]
  | [y],x => by simp [dd]
  | a :: b :: r,x => by
    rw [dd]
    have ih:=c9f (b :: r) x
    by_cases h:a = b
    · subst h; rw [if_pos rfl,ih]; simp
    · rw [if_neg h,List.mem_cons,ih,List.mem_cons (b:=a)]
theorem c9y:∀ (l:List Int),l.Pairwise (· ≤ ·) → c1w (dd l)
  | [],_ => by simp [dd,c1w]
  | [y],_ => by simp [dd,c1w]
  | a :: b :: r,h => by
    obtain ⟨h1,h2⟩:=List.pairwise_cons.1 h
    rw [dd]
    have ih:=c9y (b :: r) h2
    by_cases c:a = b
    · rw [if_pos c]; exact ih
    · rw [if_neg c]
      refine List.pairwise_cons.2 ⟨fun x hx => ?_,ih⟩
      have hx':=(c9f (b :: r) x).1 hx
      have hab:=h1 b (by simp)
      rcases List.mem_cons.1 hx' with rfl | hx'
      · omega
      · have:=(List.pairwise_cons.1 h2).1 x hx'; omega
theorem d3s:∀ l:List Int,(dd l).length ≤ l.length
  | [] => by simp [dd]
  | [y] => by simp [dd]
  | a :: b :: r => by
    have:=d3s (b :: r)
    rw [dd]
    split
    · simp only [List.length_cons] at this ⊢; omega
    · simp only [List.length_cons] at this ⊢; omega
theorem c5j (x:Int):∀ (l:List Int),dd (l ++ [x]) = if l.getLast? = some x then dd l else dd l ++ [x]
  | [] => by simp [dd]
  | [y] => by
    by_cases h:y = x
    · subst h; simp [dd]
    · simp [dd,h]
  | a :: b :: r => by
    have ih:=c5j x (b :: r)
    rw [List.getLast?_cons_cons,List.cons_append,List.cons_append,dd,← List.cons_append,ih]
    by_cases h:a = b
    · subst h
      rw [if_pos rfl,dd,if_pos rfl]
    · rw [if_neg h,dd,if_neg h]
      split <;> simp
theorem b7j (l:List Int) (j:Nat) (h:j < l.length):(l.take (j + 1)).getLast? = l[j]?:=by
  rw [List.take_add_one,List.getElem?_eq_getElem h,Option.toList_some,List.getLast?_concat]
theorem b2u (s:List Int) (k0:Nat) (hs:s.length ≤ 2 ^ 31):∀ (n f k k2:Nat) (s':List Int),k0 + k2 + n = s.length → n < f → 1 ≤ k2 → k < k0 + k2 → s'.length = s.length → (∀ i,k ≤ i → s'[i]? = s[i]?) → s'.take k = dd (s.take (k0 + k2)) →
    ∃ (k':Nat) (s2:List Int),a0w s k0 f (k:Int) (k2:Int) s' = some ((k':Int),s2) ∧ s2.length = s.length ∧ k' ≤ s.length ∧ s2.take k' = dd s
  | _,0,_,_,_,_,h,_,_,_,_,_ => by omega
  | 0,f + 1,k,k2,s',h0,_,_,hk,hl,_,ht => by
    rw [a0w,if_neg (by simp; omega)]
    refine ⟨k,s',rfl,hl,by omega,?_⟩
    rw [ht,List.take_of_length_le (by omega)]
  | n + 1,f + 1,k,k2,s',h0,hf,h2,hk,hl,he,ht => by
    have hj:k0 + k2 < s.length:=by omega
    have hj1:k0 + k2 - 1 < s.length:=by omega
    have e1:w64 ((k2:Int) - 1) = ((k2 - 1:Nat):Int):=by rw [a2k (by omega)]; omega
    have e2:w64 ((k2:Int) + 1) = ((k2 + 1:Nat):Int):=by rw [a2k (by omega)]; omega
    have e3:w64 ((k:Int) + 1) = ((k + 1:Nat):Int):=by rw [a2k (by omega)]; omega
    have g1:s'[k0 + k2]? = some s[k0 + k2]:=by rw [he _ (by omega),List.getElem?_eq_getElem hj]
    have g2:s'[k0 + (k2 - 1)]? = some s[k0 + k2 - 1]:=by rw [show k0 + (k2 - 1) = k0 + k2 - 1 by omega,he _ (by omega),List.getElem?_eq_getElem hj1]
    have g3:∃ z,s'[0 + k]? = some z:=⟨_,List.getElem?_eq_getElem (by omega)⟩
    obtain ⟨z,g3⟩:=g3
    have hsn:dd (s.take (k0 + k2 + 1)) = if s[k0 + k2 - 1] = s[k0 + k2] then dd (s.take (k0 + k2)) else dd (s.take (k0 + k2)) ++ [s[k0 + k2]]:=by
      rw [List.take_add_one,List.getElem?_eq_getElem hj,Option.toList_some,c5j]
      have:=b7j s (k0 + k2 - 1) hj1
      rw [show k0 + k2 - 1 + 1 = k0 + k2 by omega,List.getElem?_eq_getElem hj1] at this
      rw [this]
      simp only [Option.some.injEq]
    rw [a0w,if_pos (by simp; omega),if_pos (by omega),Int.toNat_natCast,g1,Option.bind_some,e1,if_pos (by omega),Int.toNat_natCast,g2,Option.bind_some,e2]
    by_cases hq:s[k0 + k2 - 1] = s[k0 + k2]
    · rw [if_neg (by simp [hq])]
      exact b2u s k0 hs n f k (k2 + 1) s' (by omega) (by omega) (by omega) (by omega) hl he (by rw [ht,← Nat.add_assoc,hsn,if_pos hq])
    · rw [if_pos (by simpa using fun h => hq h.symm),if_pos (by omega),if_pos (by omega),Int.toNat_natCast,g3,Option.bind_some,e3,Nat.zero_add]
      refine b2u s k0 hs n f (k + 1) (k2 + 1) _ (by omega) (by omega) (by omega) (by omega) (by rw [List.length_set,hl]) (fun i hi => ?_) ?_
      · rw [List.getElem?_set_ne (by omega)]; exact he i (by omega)
      · rw [← Nat.add_assoc,hsn,if_neg hq,List.take_add_one,List.getElem?_set_self (by omega),List.take_set_of_le (by omega),ht]
        rfl
theorem b7k (s:List Int) (hs:s.length ≤ 2 ^ 31):∀ (xs:List Int) (k:Nat),s.drop k = xs → 1 ≤ k → k ≤ s.length → dd (s.take k) = s.take k →
    (a0x s xs k = some (.go ()) ∧ dd s = s) ∨ a0x s xs k = some (.ret (dd s))
  | [],k,h,h1,h2,hd => by
    have hk:k = s.length:=by have:=congrArg List.length h; rw [List.length_drop] at this; simp at this; omega
    rw [hk,List.take_of_length_le (Nat.le_refl _)] at hd
    exact .inl ⟨by rw [a0x],hd⟩
  | x :: xs,k,h,h1,h2,hd => by
    have hk:k < s.length:=by have:=congrArg List.length h; rw [List.length_drop] at this; simp at this; omega
    have hx:s[k] = x:=by rw [List.drop_eq_getElem_cons hk] at h; exact (List.cons.inj h).1
    have hk1:k - 1 < s.length:=by omega
    have e1:w64 ((k:Int) - 1) = ((k - 1:Nat):Int):=by rw [a2k (by omega)]; omega
    have hsn:dd (s.take (k + 1)) = if s[k - 1] = x then dd (s.take k) else dd (s.take k) ++ [x]:=by
      rw [List.take_add_one,List.getElem?_eq_getElem hk,Option.toList_some,c5j,hx]
      have:=b7j s (k - 1) hk1
      rw [show k - 1 + 1 = k by omega,List.getElem?_eq_getElem hk1] at this
      rw [this]
      simp only [Option.some.injEq]
    rw [a0x,if_pos hk,e1,if_pos (by omega),Int.toNat_natCast,Nat.zero_add,List.getElem?_eq_getElem hk1,Option.bind_some]
    by_cases hq:s[k - 1] = x
    · rw [if_pos (by simp [hq]),if_pos (by omega)]
      obtain ⟨k',s2,q1,q2,q3,q4⟩:=b2u s k hs (s.length - k - 1) FUEL k 1 s (by omega) (by have:=c5f; omega) (Nat.le_refl _) (by omega) rfl (fun _ _ => rfl) (by rw [hsn,if_pos hq,hd])
      rw [show ((1:Int)) = ((1:Nat):Int) from rfl,q1,Option.bind_some]
      refine .inr ?_
      simp only
      rw [if_pos (by omega),if_pos (by omega),Int.toNat_natCast]
      congr 2
      rw [List.append_assoc,List.take_append_of_le_length (by rw [List.length_take]; omega),List.take_take,Nat.min_self,q4]
    · rw [if_neg (by simpa using fun h => hq h.symm)]
      refine b7k s hs xs (k + 1) (by rw [List.drop_eq_getElem_cons hk] at h; exact (List.cons.inj h).2) (by omega) hk ?_
      rw [hsn,if_neg hq,hd,List.take_add_one,List.getElem?_eq_getElem hk,hx]
      rfl
theorem d1m (s:List Int) (hs:s.length ≤ 2 ^ 31):a3u s = some (dd s):=by
  unfold a3u
  by_cases h:(s.length:Int) < 2
  · rw [if_pos (by simpa using h)]
    match s,h with
    | [],_ => rfl
    | [x],_ => rfl
    | _ :: _ :: _,h => simp only [List.length_cons] at h; omega
  · rw [if_neg (by simpa using h)]
    have h1:dd (s.take 1) = s.take 1:=by
      match s with
      | [] => rfl
      | x :: r => simp [dd]
    rcases b7k s hs (s.drop 1) 1 rfl (Nat.le_refl _) (by omega) h1 with ⟨q1,q2⟩ | q1
    · rw [q1,Option.bind_some]; simp only [q2]
    · rw [q1,Option.bind_some]
def tw:List Int → Int → Nat
  | [],_ => 0
  | x :: xs,n => if x < n then tw xs n + 1 else 0
theorem d3t (n:Int):∀ l:List Int,tw l n ≤ l.length
  | [] => by simp [tw]
  | x :: xs => by
    have:=d3t n xs
    rw [tw]; split <;> simp only [List.length_cons] <;> omega
theorem d6n (n:Int):∀ (l:List Int) (j:Nat) (x:Int),l[j]? = some x → (j < tw l n → x < n) ∧ (j = tw l n → ¬ x < n)
  | [],j,x,h => by simp at h
  | y :: l,0,x,h => by
    cases h
    rw [tw]
    split
    · rename_i c; exact ⟨fun _ => c,fun h => by omega⟩
    · rename_i c; exact ⟨fun h => by omega,fun _ => c⟩
  | y :: l,j + 1,x,h => by
    rw [tw]
    have:=d6n n l j x h
    split
    · exact ⟨fun h => this.1 (by omega),fun h => this.2 (by omega)⟩
    · exact ⟨fun h => by omega,fun h => by omega⟩
theorem c9z (n:Int):∀ l:List Int,b3h l n = if l[tw l n]? = some n then l else l.take (tw l n) ++ n :: l.drop (tw l n)
  | [] => by simp [b3h,tw]
  | x :: xs => by
    rw [b3h,tw,c9z n xs]
    by_cases h:x < n
    · simp only [if_pos h,List.getElem?_cons_succ,List.take_succ_cons,List.drop_succ_cons]
      split <;> simp
    · simp only [if_neg h,List.getElem?_cons_zero,List.take_zero,List.drop_zero,List.nil_append,Option.some.injEq]
theorem b8z (l:List Int) (n:Int) (hl:l.length ≤ 2 ^ 31):∀ (m f j:Nat),j + m = tw l n → m < f → a3z l n f (j:Int) = some ((tw l n:Nat):Int)
  | _,0,_,_,h => by omega
  | m,f + 1,j,hj,hf => by
    have hle:=d3t n l
    rw [a3z]
    by_cases c:j < l.length
    · obtain ⟨h1,h2⟩:=d6n n l j l[j] (List.getElem?_eq_getElem c)
      rw [if_pos (by simpa using c),if_pos (by omega),Int.toNat_natCast,Nat.zero_add,List.getElem?_eq_getElem c,Option.bind_some,Option.bind_some]
      cases m with
      | zero =>
        have:=h2 (by omega)
        rw [if_neg (by simpa using this),show j = tw l n by omega]
      | succ m =>
        have:=h1 (by omega)
        rw [if_pos (by simpa using this),a2k (by omega),show ((j:Int) + 1) = ((j + 1:Nat):Int) by omega]
        exact b8z l n hl m f (j + 1) (by omega) (by omega)
    · rw [if_neg (by simpa using c),Option.bind_some,if_neg (by simp),show j = tw l n by omega]
theorem c7t (l:List Int) (n:Int) (hl:l.length < 2 ^ 30):a6p l n = some (b3h l n):=by
  have hle:=d3t n l
  unfold a6p
  rw [show (0:Int) = ((0:Nat):Int) from rfl,b8z l n (by omega) (tw l n) FUEL 0 (by omega) (by have:=c5f; omega),Option.bind_some,c9z]
  by_cases c:tw l n < l.length
  · rw [if_pos (by simpa using c),if_pos (by omega),Int.toNat_natCast,Nat.zero_add,List.getElem?_eq_getElem c,Option.bind_some,Option.bind_some]
    by_cases e:l[tw l n] = n
    · rw [if_pos (by simpa using e),if_pos (by rw [e])]
    · have hd:(l.drop (tw l n)).length = l.length - tw l n:=List.length_drop
      rw [if_neg (show ¬ ((l[tw l n] == n) = true) by simpa using e),if_neg (show ¬ (some l[tw l n] = some n) by simpa using e),if_pos (by omega),if_pos (by omega),if_pos (by simp; omega),if_pos (by simp; omega),List.take_of_length_le (l:=l.drop (tw l n)) (by omega),if_pos (by simp; omega)]
      simp
  · rw [if_neg (by simpa using c),Option.bind_some,if_neg (by simp),if_neg (show ¬ (l[tw l n]? = some n) by rw [List.getElem?_eq_none (by omega)]; simp)]
    rw [Int.toNat_natCast,if_pos (by omega),if_pos (by omega),if_pos (by simp; omega),if_pos (by simp; omega),if_pos (by simp; omega)]
    rw [List.take_of_length_le (l:=l.drop (tw l n)) (by rw [List.length_drop]; omega)]
    simp
def c5k (t:Int) (a b:List x9) (id:Int):Option a0c:=if a6b a id = a6b b id then none else some ⟨t,id,a6b a id,a6b b id⟩
def c1y (a b:List x9):List Int:=dd (((a ++ b).map x9.Id).mergeSort fun x y => decide (x ≤ y))
def d3u (t:Int) (a b:List x9):List a0c:=(c1y a b).filterMap (c5k t a b)
theorem c7u (l:List Int):(l.mergeSort fun x y => decide (x ≤ y)).Pairwise (· ≤ ·):=by
  have:=List.pairwise_mergeSort (le:=fun x y:Int => decide (x ≤ y)) (by intro a b c h1 h2; simp at h1 h2 ⊢; omega) (by intro a b; simp; omega) l
  exact this.imp (by intro a b h; simpa using h)
theorem d1n (a b:List x9):c1w (c1y a b):=c9y _ (c7u _)
theorem d3v (a b:List x9) (x:Int):x ∈ c1y a b ↔ x ∈ (a ++ b).map x9.Id:=by
  unfold c1y
  rw [c9f,List.mem_mergeSort]
theorem c1z (a b:List x9):(c1y a b).length ≤ a.length + b.length:=by
  unfold c1y
  refine Nat.le_trans (d3s _) ?_
  rw [List.length_mergeSort,List.length_map,List.length_append]
  exact Nat.le_refl _
theorem c2a (t:Int) (a b:List x9):(d3u t a b).length ≤ a.length + b.length:=Nat.le_trans (List.length_filterMap_le _ _) (c1z a b)
def b4i (ids:List Int) (l:List x9):List Int:=l.foldl (fun i r => b3h i r.Id) ids
theorem b6a:∀ (l:List x9) (ids:List Int),c1w ids → c1w (b4i ids l)
  | [],ids,h => h
  | r :: l,ids,h => b6a l _ (c4d _ _ h)
theorem b8d (x:Int):∀ (l:List x9) (ids:List Int),x ∈ b4i ids l ↔ x ∈ ids ∨ x ∈ l.map x9.Id
  | [],ids => by simp [b4i]
  | r :: l,ids => by
    show x ∈ b4i (b3h ids r.Id) l ↔ _
    rw [b8d x l,c1x,List.map_cons,List.mem_cons]
    constructor
    · rintro ((h | h) | h)
      · exact .inr (.inl h)
      · exact .inl h
      · exact .inr (.inr h)
    · rintro (h | h | h)
      · exact .inl (.inr h)
      · exact .inl (.inl h)
      · exact .inr h
theorem c4e:∀ (l:List x9) (ids:List Int),(b4i ids l).length ≤ ids.length + l.length
  | [],ids => by simp [b4i]
  | r :: l,ids => by
    have:=c4e l (b3h ids r.Id)
    have h2:=b7i r.Id ids
    show (b4i (b3h ids r.Id) l).length ≤ _
    simp only [List.length_cons]; omega
theorem d3w (a b:List x9):b4i (b4i [] a) b = c1y a b:=by
  refine c7s _ _ (b6a _ _ (b6a _ _ .nil)) (d1n a b) fun x => ?_
  rw [b8d,b8d,d3v,List.map_append,List.mem_append]
  simp
theorem d0a:∀ (l:List x9) (ids:List Int),ids.length + l.length < 2 ^ 30 → a4h l ids = some (b4i ids l)
  | [],ids,_ => by rw [a4h]; rfl
  | r :: l,ids,h => by
    simp only [List.length_cons] at h
    have:=b7i r.Id ids
    rw [a4h,c7t ids r.Id (by omega),Option.bind_some,d0a l _ (by omega)]
    rfl
theorem d0b (B:a1d) (t:Nat) (b:List x9) (hb:B.Tables[t]? = some b) (hl:b.length ≤ 2 ^ 29):∀ (n f i:Nat) (ids:List Int),i + n = b.length → n < f → ids.length + n < 2 ^ 30 → a4u B t f (i:Int) ids = some (b4i ids (b.drop i))
  | _,0,_,_,_,h,_ => by omega
  | n,f + 1,i,ids,hi,hf,h => by
    have e:idx B.Tables (t:Int) = some b:=by unfold idx; rw [if_pos (by omega),Int.toNat_natCast,hb]
    rw [a4u,e,Option.bind_some]
    cases n with
    | zero =>
      rw [if_neg (by simp; omega),List.drop_of_length_le (by omega)]
      rfl
    | succ n =>
      have hib:i < b.length:=by omega
      have e2:idx b (i:Int) = some b[i]:=by unfold idx; rw [if_pos (by omega),Int.toNat_natCast,List.getElem?_eq_getElem hib]
      have h2:=b7i b[i].Id ids
      rw [if_pos (by simp; omega),Option.bind_some,e2,Option.bind_some,c7t ids _ (by omega),Option.bind_some,a2k (by omega),show (i:Int) + 1 = ((i + 1:Nat):Int) by omega,d0b B t b hb hl n f (i + 1) _ (by omega) (by omega) (by omega),List.drop_eq_getElem_cons hib]
      rfl
theorem c4f (t:Int) (a b:List x9) (x:Int) (xs:List Int):(x :: xs).filterMap (c5k t a b) = if a6b a x = a6b b x then xs.filterMap (c5k t a b) else ⟨t,x,a6b a x,a6b b x⟩ :: xs.filterMap (c5k t a b):=by
  rw [List.filterMap_cons,c5k]
  split
  · rename_i h; split at h
    · rename_i c; rw [if_pos c]
    · cases h
  · rename_i h; split at h
    · cases h
    · rename_i c; cases h; rw [if_neg c]
theorem c5l (ids:List Int) (B:a1d) (t:Nat) (a b:List x9) (hb:B.Tables[t]? = some b) (ha':a6a a = true) (hb':a6a b = true) (sa:smL a) (sb:smL b):∀ (xs:List Int) (i:Nat) (out:List a0c),i + xs.length = ids.length → out.length + xs.length ≤ 2 ^ 30 →
    a3h ids B t a xs i out = some (out ++ xs.filterMap (c5k t a b))
  | [],i,out,_,_ => by rw [a3h]; simp
  | x :: xs,i,out,hi,ho => by
    simp only [List.length_cons] at hi ho
    have e:idx B.Tables (t:Int) = some b:=by unfold idx; rw [if_pos (by omega),Int.toNat_natCast,hb]
    have hii:i < ids.length:=by omega
    rw [a3h]
    simp only [if_pos hii,e,Option.bind_some,c7r a x ha' sa,c7r b x hb' sb,c5i]
    rw [c4f]
    by_cases c:a6b a x = a6b b x
    · rw [if_neg (show ¬ (!decide (a6b a x = a6b b x)) = true by simp [c]),if_pos c,c5l ids B t a b hb ha' hb' sa sb xs (i + 1) out (by omega) (by omega)]
    · rw [if_pos (show (!decide (a6b a x = a6b b x)) = true by simpa using c),if_neg c,if_pos (by simp; omega),c5l ids B t a b hb ha' hb' sa sb xs (i + 1) _ (by omega) (by simp; omega)]
      simp
def b3i:Nat → List (List x9) → List (List x9) → List a0c
  | t,a :: aT,b :: bT => d3u t a b ++ b3i (t + 1) aT bT
  | _,_,_ => []
theorem d0c (B:a1d) (hB:B.Tables.all a6a = true) (sB:∀ l ∈ B.Tables,smL l):∀ (aT bT:List (List x9)) (t:Nat) (out:List a0c),aT.length = bT.length → B.Tables.drop t = bT → (∀ l ∈ aT,a6a l = true ∧ smL l) → out.length + a5p aT + a5p bT ≤ 2 ^ 29 →
    a4i B aT t out = some (out ++ b3i t aT bT)
  | [],[],t,out,_,_,_,_ => by rw [a4i]; simp [b3i]
  | [],_ :: _,_,_,h,_,_,_ => by simp at h
  | _ :: _,[],_,_,h,_,_,_ => by simp at h
  | a :: aT,b :: bT,t,out,hl,hd,ha,ho => by
    simp only [a5p] at ho
    have hbt:B.Tables[t]? = some b:=by
      have:=congrArg (fun z:List (List x9) => z[0]?) hd
      simpa [List.getElem?_drop] using this
    have hbm:b ∈ B.Tables:=List.mem_of_getElem? hbt
    obtain ⟨a1,a2⟩:=ha a (by simp)
    have b1:=List.all_eq_true.1 hB b hbm
    have b2:=sB b hbm
    have la:a.length ≤ a5b a:=by unfold a5b; omega
    have lb:b.length ≤ a5b b:=by unfold a5b; omega
    have hlen:=c1z a b
    have hf:=c4e a []
    simp only [List.length_nil] at hf
    have hc:=c2a (t:Int) a b
    rw [a4i,d0a a [] (by simp; omega),Option.bind_some,show (0:Int) = ((0:Nat):Int) from rfl,d0b B t b hbt b2.1 b.length FUEL 0 _ (by omega) (by have:=c5f; omega) (by omega),Option.bind_some,List.drop_zero,d3w,c5l _ B t a b hbt a1 b1 a2 b2 _ 0 out (by omega) (by omega),Option.bind_some]
    rw [d0c B hB sB aT bT (t + 1) _ (by simpa using hl) (by rw [← List.drop_drop,hd]; rfl) (fun l h => ha l (by simp [h])) (by
      have:((c1y a b).filterMap (c5k t a b)).length ≤ a.length + b.length:=hc
      rw [List.length_append]; omega)]
    rw [b3i,d3u,List.append_assoc]
theorem d3x (a b:List x9) (h:a.length + b.length ≤ 2 ^ 30):a2f [a,b] = some (a ++ b):=by
  have g:∀ n:Nat,n ≤ 2 ^ 30 → a2b (n:Int) = some []:=by
    intro n hn
    unfold a2b
    rw [if_neg (by simp),Option.bind_some,a2k (n:=0 - 0) (by omega),a2k (by omega)]
    by_cases c:n = 0
    · subst c; rw [if_neg (by simp)]
    · rw [if_pos (by simp; omega),if_pos (by omega),if_pos (by omega)]
      simp
  unfold a2f
  rw [a0u,a2k (by omega),if_neg (by simp),a0u,a2k (by omega),if_neg (by simp; omega),a0u,Option.bind_some]
  rw [show (0:Int) + (a.length:Int) + (b.length:Int) = ((a.length + b.length:Nat):Int) by omega,g _ h,Option.bind_some,a0v,if_pos (by simp; omega),a0v,if_pos (by simp; omega),a0v]
  simp
theorem d0d:∀ (xs:List x9) (ids:List Int),ids.length + xs.length ≤ 2 ^ 30 → a3p xs ids = some (ids ++ xs.map x9.Id)
  | [],ids,_ => by rw [a3p]; simp
  | x :: xs,ids,h => by
    simp only [List.length_cons] at h
    rw [a3p,if_pos (by simp; omega),d0d xs _ (by simp; omega)]
    simp
theorem c5m (ids:List Int) (t:Int) (a b:List x9) (ha':a6a a = true) (hb':a6a b = true) (sa:smL a) (sb:smL b):∀ (xs:List Int) (i:Nat) (out:List a0c),i + xs.length = ids.length → out.length + xs.length ≤ 2 ^ 30 →
    a2r ids a b t xs i out = some (out ++ xs.filterMap (c5k t a b))
  | [],i,out,_,_ => by rw [a2r]; simp
  | x :: xs,i,out,hi,ho => by
    simp only [List.length_cons] at hi ho
    have hii:i < ids.length:=by omega
    rw [a2r,if_pos hii,c9x a x ha' sa,Option.bind_some,c9x b x hb' sb,Option.bind_some,c9e,Option.bind_some,c4f]
    by_cases c:a6b a x = a6b b x
    · rw [if_neg (by simp [c]),if_pos c,c5m ids t a b ha' hb' sa sb xs (i + 1) out (by omega) (by omega)]
    · rw [if_pos (by simpa using c),if_neg c,if_pos (by simp; omega),c5m ids t a b ha' hb' sa sb xs (i + 1) _ (by omega) (by simp; omega)]
      simp
theorem c9g (t:Int) (a b:List x9) (ha':a6a a = true) (hb':a6a b = true) (sa:smL a) (sb:smL b) (hl:a.length + b.length ≤ 2 ^ 29):a8h t a b = some (d3u t a b):=by
  have hlen:=c1z a b
  unfold a8h a5n
  rw [d3x a b (by omega),Option.bind_some,d0d _ _ (by simp; omega),Option.bind_some,List.nil_append,if_pos (by simp; omega),Option.bind_some,d1m _ (by rw [List.length_mergeSort,List.length_map,List.length_append]; omega),Option.bind_some]
  have:=c5m (c1y a b) t a b ha' hb' sa sb (c1y a b) 0 [] (by omega) (by simp; omega)
  unfold c1y at this
  rw [this,Option.bind_some,List.nil_append]
  rfl
theorem c7v (B:a1d) (hB:B.Tables.all a6a = true) (sB:∀ l ∈ B.Tables,smL l):∀ (aT bT:List (List x9)) (t:Nat) (out:List a0c),aT.length = bT.length → B.Tables.drop t = bT → (∀ l ∈ aT,a6a l = true ∧ smL l) → out.length + a5p aT + a5p bT ≤ 2 ^ 29 →
    a2o B aT t out = some (out ++ b3i t aT bT)
  | [],[],t,out,_,_,_,_ => by rw [a2o]; simp [b3i]
  | [],_ :: _,_,_,h,_,_,_ => by simp at h
  | _ :: _,[],_,_,h,_,_,_ => by simp at h
  | a :: aT,b :: bT,t,out,hl,hd,ha,ho => by
    simp only [a5p] at ho
    have hbt:B.Tables[t]? = some b:=by
      have:=congrArg (fun z:List (List x9) => z[0]?) hd
      simpa [List.getElem?_drop] using this
    have hbm:b ∈ B.Tables:=List.mem_of_getElem? hbt
    obtain ⟨a1,a2⟩:=ha a (by simp)
    have b1:=List.all_eq_true.1 hB b hbm
    have b2:=sB b hbm
    have la:a.length ≤ a5b a:=by unfold a5b; omega
    have lb:b.length ≤ a5b b:=by unfold a5b; omega
    have hc:=c2a (t:Int) a b
    have e:idx B.Tables (t:Int) = some b:=by unfold idx; rw [if_pos (by omega),Int.toNat_natCast,hbt]
    rw [a2o,e,Option.bind_some,c9g t a b a1 b1 a2 b2 (by omega),Option.bind_some,if_pos (by rw [List.length_append]; omega)]
    rw [c7v B hB sB aT bT (t + 1) _ (by simpa using hl) (by rw [← List.drop_drop,hd]; rfl) (fun l h => ha l (by simp [h])) (by rw [List.length_append]; omega)]
    rw [b3i,List.append_assoc]
theorem d0e (T:List (List x9)) (h:∀ l ∈ T,l.length ≤ maxLen):a1g T a2y = some (!T.all a6a):=by
  have key:∀ (xs:List (List x9)) (i:Nat),(∀ l ∈ xs,l.length ≤ maxLen) → (xs.all a6a = true ∧ a0n a2y xs i = some (.go ())) ∨ (xs.all a6a = false ∧ ∃ k:Nat,a0n a2y xs i = some (.ret (k:Int))):=by
    intro xs
    induction xs with
    | nil => intro i _; exact .inl ⟨rfl,by rw [a0n]⟩
    | cons x xs ih =>
      intro i hx
      have e:a2y x = some (!a6a x):=by unfold a2y; rw [c7q x (hx x (by simp))]; rfl
      rw [a0n,e,Option.bind_some]
      cases hb:a6a x with
      | false => exact .inr ⟨by simp [hb],i,by simp⟩
      | true =>
        rcases ih (i + 1) (fun l hl => hx l (by simp [hl])) with ⟨h1,h2⟩ | ⟨h1,k,h2⟩
        · exact .inl ⟨by simp [hb,h1],by simpa using h2⟩
        · exact .inr ⟨by simp [h1],k,by simpa using h2⟩
  unfold a1g a2m
  rcases key T 0 h with ⟨h1,h2⟩ | ⟨h1,k,h2⟩
  · rw [h2,h1]; rfl
  · rw [h2,h1]; simp
theorem c4g (l:List x9) (id:Int) (n:Nat) (h:∀ r ∈ l,a7s r ≤ n):a7s (a6b l id) ≤ n:=by
  unfold a6b
  cases hf:l.find? (fun r => r.Id == id) with
  | none => simp [a7s,a7d,a9q]
  | some r => exact h r (List.mem_of_find?_eq_some hf)
theorem d5r (t:Int) (a b:List x9) (n:Nat) (ha:∀ r ∈ a,a7s r ≤ n) (hb:∀ r ∈ b,a7s r ≤ n):∀ c ∈ d3u t a b,b0l c ≤ 2 * n:=by
  intro c hc
  obtain ⟨id,_,h⟩:=List.mem_filterMap.1 hc
  rw [c5k] at h
  split at h
  · cases h
  · cases h
    have h1:=c4g a id n ha
    have h2:=c4g b id n hb
    simp only [b0l]; omega
theorem d0f (n:Nat):∀ (aT bT:List (List x9)) (t:Nat),(∀ l ∈ aT,∀ r ∈ l,a7s r ≤ n) → (∀ l ∈ bT,∀ r ∈ l,a7s r ≤ n) → ∀ c ∈ b3i t aT bT,b0l c ≤ 2 * n
  | [],_,t,_,_,c,hc => by simp [b3i] at hc
  | _ :: _,[],t,_,_,c,hc => by simp [b3i] at hc
  | a :: aT,b :: bT,t,ha,hb,c,hc => by
    rw [b3i] at hc
    rcases List.mem_append.1 hc with hc | hc
    · exact d5r t a b n (ha a (by simp)) (hb b (by simp)) c hc
    · exact d0f n aT bT (t + 1) (fun l h => ha l (by simp [h])) (fun l h => hb l (by simp [h])) c hc
theorem c7w:∀ (aT bT:List (List x9)) (t:Nat),(b3i t aT bT).length ≤ a5p aT + a5p bT
  | [],_,t => by simp [b3i]
  | _ :: _,[],t => by simp [b3i]
  | a :: aT,b :: bT,t => by
    have:=c7w aT bT (t + 1)
    have h2:=c2a (t:Int) a b
    have la:a.length ≤ a5b a:=by unfold a5b; omega
    have lb:b.length ≤ a5b b:=by unfold a5b; omega
    rw [b3i,List.length_append]
    simp only [a5p]; omega
theorem d6o (n:Nat):∀ (l:List a0c),(∀ c ∈ l,b0l c ≤ n) → a6t l ≤ l.length * n
  | [],_ => by simp [a6t]
  | c :: l,h => by
    have h1:=h c (by simp)
    have h2:=d6o n l (fun d hd => h d (by simp [hd]))
    rw [a6t,List.length_cons,Nat.add_mul]; omega
theorem d3y {T:List (List x9)}:∀ l ∈ T,∀ r ∈ l,a7s r ≤ a7i T:=by
  intro l hl r hr
  have h1:=b0k hl
  have h2:=b1n hr
  unfold a7i; unfold a5b at h1; omega
theorem c5n (a b:a1d) (hw:a7y a + a7y b ≤ 2 ^ 20) :
    ∃ o c,a6d a b = some (o,c) ∧ a7c a b = some (o,c) ∧ a7z o ≤ 2 ^ 44:=by
  have sa:=c4c (x:=a) (by omega)
  have sb:=c4c (x:=b) (by omega)
  unfold a7y at hw
  have la:∀ l ∈ a.Tables,l.length ≤ maxLen:=fun l hl => Nat.le_trans (sa.2 l hl).1 (by decide)
  have lb:∀ l ∈ b.Tables,l.length ≤ maxLen:=fun l hl => Nat.le_trans (sb.2 l hl).1 (by decide)
  unfold a6d a7c
  rw [d0e _ la,d0e _ lb,c1r a la,c1r b lb]
  by_cases hl:a.Tables.length = b.Tables.length
  · cases ha:a.Tables.all a6a with
    | false => exact ⟨[],1,by simp [hl],by simp,by simp [a7z,a6t]⟩
    | true =>
      cases hb:b.Tables.all a6a with
      | false => exact ⟨[],1,by simp [hl],by simp,by simp [a7z,a6t]⟩
      | true =>
        have hsw:a5p a.Tables + a5p b.Tables ≤ 2 ^ 20:=by unfold a7i at hw; omega
        have hA:∀ l ∈ a.Tables,a6a l = true ∧ smL l:=fun l h => ⟨List.all_eq_true.1 ha l h,sa.2 l h⟩
        have i1:=c7v b hb sb.2 a.Tables b.Tables 0 [] hl rfl hA (by simp; omega)
        have i2:=d0c b hb sb.2 a.Tables b.Tables 0 [] hl rfl hA (by simp; omega)
        have h1:=c7w a.Tables b.Tables 0
        have h2:=d6o (2 * 2 ^ 20) (b3i 0 a.Tables b.Tables) (d0f (2 ^ 20) a.Tables b.Tables 0 (fun l hl r hr => by have:=d3y l hl r hr; omega) (fun l hl r hr => by have:=d3y l hl r hr; omega))
        have h3:(b3i 0 a.Tables b.Tables).length * (2 * 2 ^ 20) ≤ 2 ^ 20 * (2 * 2 ^ 20):=Nat.mul_le_mul_right _ (by omega)
        refine ⟨b3i 0 a.Tables b.Tables,0,?_,?_,by unfold a7z; omega⟩
        · simp [hl,i1]
        · unfold b0z
          simp [hl,i2]
  · have:((a.Tables.length:Int) != (b.Tables.length:Int)) = true:=by simp; omega
    refine ⟨[],1,by simp only [this,if_true],?_,by simp [a7z,a6t]⟩
    cases a.Tables.all a6a <;> cases b.Tables.all a6a <;> simp [this]
theorem b3j (a b:a1d) (ha:b3x a) (hb:b3x b):a5o a b = some true:=by
  unfold a5o
  obtain ⟨r1,e1,hr1⟩:=c3w a 1048576 (by omega) (by omega) ha
  rw [e1,Option.bind_some]
  by_cases hn1:r1 < 0
  · rw [if_pos (decide_eq_true hn1)]
  rw [if_neg (by simpa using hn1)]
  obtain ⟨a1,a2⟩:=hr1.resolve_left hn1
  obtain ⟨r2,e2,hr2⟩:=c3w b r1 (by omega) (by omega) hb
  rw [e2,Option.bind_some]
  by_cases hn2:r2 < 0
  · rw [if_pos (decide_eq_true hn2)]
  rw [if_neg (by simpa using hn2)]
  obtain ⟨b1,b2⟩:=hr2.resolve_left hn2
  have t1:=c3x a (by omega)
  have t2:=c3x b (by omega)
  obtain ⟨o,c,f1,f2,hwo⟩:=c5n a b (by omega)
  have q1:=b8x a
  have q2:=b8x b
  have m1:=b8q a 1 (b8y a (by omega)) (by omega) (by omega)
  have m2:=b8q b (1 + (b0j a:Nat)) (b8y b (by omega)) (by omega) (by omega)
  have q4:=b5f o
  have m4:=c2p o 1 (b5g o (by omega)) (by omega) (by omega)
  have m5:=c2s o 1 (b5g o (by omega)) (by omega) (by omega)
  have n1:decide ((1:Int) + (b0j a:Nat) + (b0j b:Nat) < 0) = false:=decide_eq_false (by omega)
  have n2:decide ((1:Int) + (a3g o:Nat) < 0) = false:=decide_eq_false (by omega)
  simp only [t1,t2,Option.bind_some,f1,f2,d1c,c7m,m1,m2,m4,m5,n1,n2,Bool.not_true,Bool.false_eq_true,if_false,bne_self_eq_false,cond_false]
end Go.R
