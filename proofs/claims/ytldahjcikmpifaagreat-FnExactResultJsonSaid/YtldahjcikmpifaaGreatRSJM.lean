/- Marks: what the laws' own marking functions leave, and that it is read back. -/
import Derived.Test.YtldahjcikmpifaaGreatRSJ5
import Derived.Test.YtldahjcikmpifaaGreatP0
set_option linter.all false
namespace Go.R
open Go
set_option linter.all false
set_option maxHeartbeats 1000000
theorem fuel_lt {n:Nat} (h:n < 2 ^ 90):n < FUEL:=by unfold FUEL; omega
theorem c0u:∀ (m f:Nat) (k:Int) (out:Str),0 ≤ k → k < 2 ^ m → m < f → out.length + m + 1 ≤ maxLen → k < 2 ^ 62 → ∃ t,a4p f k out = some t ∧ t.length ≤ out.length + m
 | _,0,_,_,_,_,h,_,_ => by omega
 | 0,f + 1,k,out,h0,h1,_,_,_ => by
  have:k = 0:=by simp at h1; omega
  subst this
  rw [a4p,if_neg (by simp)]
  exact ⟨out,rfl,by omega⟩
 | m + 1,f + 1,k,out,h0,h1,h2,h3,h4 => by
  rw [a4p]
  by_cases hk:k > 0
  ·rw [if_pos (by simpa using hk)]
   have hb:∀ n,(d5y [n]).length = 1:=fun _ => rfl
   rw [if_pos (by rw [hb]; omega)]
   have hd:k.tdiv 10 = k / 10:=Int.tdiv_eq_ediv_of_nonneg h0
   have hw:w64 (k.tdiv 10) = k / 10:=by rw [hd]; exact a3m (by omega)
   rw [hw]
   have hp:(2:Int) ^ (m + 1) = 2 * 2 ^ m:=by rw [Int.pow_succ]; omega
   obtain ⟨t,e,hl⟩:=c0u m f (k / 10) (d5y [IntKind.u8.wrap (w64 (48 + (k.tmod 10)))] ++ out) (by omega) (by omega) (by omega) (by rw [List.length_append,hb]; omega) (by omega)
   refine ⟨t,e,?_⟩
   rw [List.length_append,hb] at hl
   omega
  ·rw [if_neg (by simpa using hk)]
   exact ⟨out,rfl,by omega⟩
def tx (k:Int):Str:=(a4y k).getD []
theorem b6i {k:Int} (h0:1 ≤ k) (h1:k < 2 ^ 62):a4y k = some (tx k):=by
 have:∃ t,a4y k = some t:=by
  unfold a4y
  rw [if_neg (by simp; omega)]
  obtain ⟨t,e,hl⟩:=c0u 62 FUEL k [] (by omega) h1 (fuel_lt (by omega)) (by simp [maxLen]) h1
  rw [e,Option.bind_some,if_pos (by simp only [List.length_cons,List.length_nil] at hl ⊢; simp only [maxLen]; omega)]
  exact ⟨_,rfl⟩
 obtain ⟨t,e⟩:=this
 unfold tx
 rw [e]
 rfl
def a8c:List a0k → Nat
 | [] => 0
 | x :: xs => (1 + 1 + 1) + a8c xs
def b3e:List a0k → Int → List a0k
 | [],_ => []
 | x :: xs,k => ⟨(k),(k + 1),(tx (k + 1 + 1))⟩ :: b3e xs (k + 1 + 1 + 1)
def b1i (l:List a0k):Prop:=l.length < 2 ^ 61
theorem b9n:∀ (n f:Nat) (l:List a0k) (i:Nat) (k:Int),i + n = l.length → n < f → 1 ≤ k → b1i l → k + (a8c (l.drop i):Nat) < 2 ^ 62 → a3y f k i l = some (k + (a8c (l.drop i):Nat),l.take i ++ b3e (l.drop i) k)
 | _,0,_,_,_,_,h,_,_,_ => by omega
 | 0,f + 1,l,i,k,h,_,_,_,_ => by
  rw [a3y,if_neg (by simp; omega),List.drop_of_length_le (by omega),List.take_of_length_le (by omega)]
  simp [a8c,b3e]
 | n + 1,f + 1,l,i,k,h,hf,hk,hfit,hc => by
  have hi:i < l.length:=by omega
  have hd:l.drop i = l[i] :: l.drop (i + 1):=List.drop_eq_getElem_cons hi
  rw [hd] at hc ⊢
  simp only [a8c] at hc ⊢
  have hlen:l.length < 2 ^ 61:=hfit
  have w0:w64 (k + 1) = k + 1:=a3m (by omega)
  have w1:w64 (k + 1 + 1) = k + 1 + 1:=a3m (by omega)
  have t2:=b6i (k:=k + 1 + 1) (by omega) (by omega)
  have w2:w64 (k + 1 + 1 + 1) = k + 1 + 1 + 1:=a3m (by omega)
  have wi:w64 ((i:Int) + 1) = ((i + 1:Nat):Int):=by rw [a3m (by omega)]; rfl
  have hg:l[i]? = some l[i]:=List.getElem?_eq_getElem hi
  have hix:0 + (i:Int).toNat = i:=by simp
  have hlt:((i:Int) < (l.length:Int)) = True:=eq_true (by omega)
  have hge:(0 ≤ (i:Int)) = True:=eq_true (by omega)
  have hds:∀ y,(l.set i y).drop (i + 1) = l.drop (i + 1):=fun y => List.drop_set_of_lt (by omega)
  have hfit2:b1i (l.set i (⟨(k),(k + 1),(tx (k + 1 + 1))⟩)):=by
   unfold b1i at hfit ⊢
   rw [List.length_set]; exact hfit
  have ih:=b9n n f (l.set i (⟨(k),(k + 1),(tx (k + 1 + 1))⟩)) (i + 1) (k + 1 + 1 + 1) (by rw [List.length_set]; omega) (by omega) (by omega) hfit2 (by rw [hds]; omega)
  rw [hds] at ih
  rw [a3y]
  simp only [hlt,hge,hix,hg,decide_true,and_self,if_true,Option.bind_some,List.set_set,wi,w0,w1,t2,w2]
  rw [ih,b2o _ _ _ _ hi,b3e]
  refine congrArg some (Prod.ext ?_ rfl)
  simp only
  omega
theorem d6b (l:List a0k) (k:Int) (hf:b1i l) (h0:1 ≤ k) (h1:k + (a8c l:Nat) < 2 ^ 62):b0a l k = some (k + (a8c l:Nat),b3e l k):=by
 unfold b0a
 have hl:l.length < 2 ^ 61:=hf
 rw [show (0:Int) = ((0:Nat):Int) from rfl,b9n l.length FUEL l 0 k (by omega) (fuel_lt (by omega)) h0 hf (by simpa using h1)]
 simp
theorem c5q:∀ (l:List a0k) (k:Int),(b3e l k).length = l.length
 | [],_ => rfl
 | x :: l,k => by simp only [b3e,List.length_cons,c5q l]
theorem c5r (l:List a0k) (k:Int) (h:b1i l):b1i (b3e l k):=by
 unfold b1i at h ⊢
 rw [c5q]; exact h

def a6y:List (List a0k) → Nat
 | [] => 0
 | x :: xs => (a8c x) + a6y xs
def a9b:List (List a0k) → Int → List (List a0k)
 | [],_ => []
 | x :: xs,k => (b3e x (k)) :: a9b xs (k + (a8c x:Nat))
def b0n (l:List (List a0k)):Prop:=l.length < 2 ^ 61 ∧ ∀ x ∈ l,b1i x
theorem b8v:∀ (n f:Nat) (l:List (List a0k)) (i:Nat) (k:Int),i + n = l.length → n < f → 1 ≤ k → b0n l → k + (a6y (l.drop i):Nat) < 2 ^ 62 → a3o f k i l = some (k + (a6y (l.drop i):Nat),l.take i ++ a9b (l.drop i) k)
 | _,0,_,_,_,_,h,_,_,_ => by omega
 | 0,f + 1,l,i,k,h,_,_,_,_ => by
  rw [a3o,if_neg (by simp; omega),List.drop_of_length_le (by omega),List.take_of_length_le (by omega)]
  simp [a6y,a9b]
 | n + 1,f + 1,l,i,k,h,hf,hk,hfit,hc => by
  have hi:i < l.length:=by omega
  have hd:l.drop i = l[i] :: l.drop (i + 1):=List.drop_eq_getElem_cons hi
  rw [hd] at hc ⊢
  simp only [a6y] at hc ⊢
  have hlen:l.length < 2 ^ 61:=hfit.1
  have hx:=hfit.2 l[i] (List.getElem_mem _)
  have m0:=d6b l[i] (k) (hx) (by omega) (by omega)
  have wi:w64 ((i:Int) + 1) = ((i + 1:Nat):Int):=by rw [a3m (by omega)]; rfl
  have hg:l[i]? = some l[i]:=List.getElem?_eq_getElem hi
  have hix:0 + (i:Int).toNat = i:=by simp
  have hlt:((i:Int) < (l.length:Int)) = True:=eq_true (by omega)
  have hge:(0 ≤ (i:Int)) = True:=eq_true (by omega)
  have hds:∀ y,(l.set i y).drop (i + 1) = l.drop (i + 1):=fun y => List.drop_set_of_lt (by omega)
  have hfit2:b0n (l.set i ((b3e l[i] (k)))):=by
   unfold b0n at hfit ⊢
   exact ⟨by rw [List.length_set]; exact hfit.1,fun z hz => by
    rcases List.mem_or_eq_of_mem_set hz with hz | rfl
    ·exact hfit.2 z hz
    ·exact c5r _ _ hx⟩
  have ih:=b8v n f (l.set i ((b3e l[i] (k)))) (i + 1) (k + (a8c l[i]:Nat)) (by rw [List.length_set]; omega) (by omega) (by omega) hfit2 (by rw [hds]; omega)
  rw [hds] at ih
  rw [a3o]
  simp only [hlt,hge,hix,hg,decide_true,and_self,if_true,Option.bind_some,List.set_set,wi,m0]
  rw [ih,b2o _ _ _ _ hi,a9b]
  refine congrArg some (Prod.ext ?_ rfl)
  simp only
  omega
theorem d3x (l:List (List a0k)) (k:Int) (hf:b0n l) (h0:1 ≤ k) (h1:k + (a6y l:Nat) < 2 ^ 62):a8z l k = some (k + (a6y l:Nat),a9b l k):=by
 unfold a8z
 have hl:l.length < 2 ^ 61:=hf.1
 rw [show (0:Int) = ((0:Nat):Int) from rfl,b8v l.length FUEL l 0 k (by omega) (fuel_lt (by omega)) h0 hf (by simpa using h1)]
 simp
theorem c3n:∀ (l:List (List a0k)) (k:Int),(a9b l k).length = l.length
 | [],_ => rfl
 | x :: l,k => by simp only [a9b,List.length_cons,c3n l]
theorem b8e:∀ (l:List (List a0k)) (k:Int),b0n l → b0n (a9b l k)
 | [],_,h => h
 | x :: l,k,h => by
  have h2:b0n l:=⟨by have:=h.1; simp at this; omega,fun y hy => h.2 y (by simp [hy])⟩
  have ih:=b8e l (k + (a8c x:Nat)) h2
  have hx:=h.2 x (by simp)
  refine ⟨by rw [c3n]; exact h.1,fun z hz => ?_⟩
  rw [a9b] at hz
  rcases List.mem_cons.1 hz with rfl | hz
  ·exact c5r _ _ hx
  ·exact ih.2 z hz

def a1l:List Str → Nat
 | [] => 0
 | x :: xs => (1) + a1l xs
def a6e:List Str → Int → List Str
 | [],_ => []
 | x :: xs,k => (tx (k)) :: a6e xs (k + 1)
def a4s (l:List Str):Prop:=l.length < 2 ^ 61
theorem b7r:∀ (n f:Nat) (l:List Str) (i:Nat) (k:Int),i + n = l.length → n < f → 1 ≤ k → a4s l → k + (a1l (l.drop i):Nat) < 2 ^ 62 → a3f f k i l = some (k + (a1l (l.drop i):Nat),l.take i ++ a6e (l.drop i) k)
 | _,0,_,_,_,_,h,_,_,_ => by omega
 | 0,f + 1,l,i,k,h,_,_,_,_ => by
  rw [a3f,if_neg (by simp; omega),List.drop_of_length_le (by omega),List.take_of_length_le (by omega)]
  simp [a1l,a6e]
 | n + 1,f + 1,l,i,k,h,hf,hk,hfit,hc => by
  have hi:i < l.length:=by omega
  have hd:l.drop i = l[i] :: l.drop (i + 1):=List.drop_eq_getElem_cons hi
  rw [hd] at hc ⊢
  simp only [a1l] at hc ⊢
  have hlen:l.length < 2 ^ 61:=hfit
  have t0:=b6i (k:=k) (by omega) (by omega)
  have w0:w64 (k + 1) = k + 1:=a3m (by omega)
  have wi:w64 ((i:Int) + 1) = ((i + 1:Nat):Int):=by rw [a3m (by omega)]; rfl
  have hg:l[i]? = some l[i]:=List.getElem?_eq_getElem hi
  have hix:0 + (i:Int).toNat = i:=by simp
  have hlt:((i:Int) < (l.length:Int)) = True:=eq_true (by omega)
  have hge:(0 ≤ (i:Int)) = True:=eq_true (by omega)
  have hds:∀ y,(l.set i y).drop (i + 1) = l.drop (i + 1):=fun y => List.drop_set_of_lt (by omega)
  have hfit2:a4s (l.set i ((tx (k)))):=by
   unfold a4s at hfit ⊢
   rw [List.length_set]; exact hfit
  have ih:=b7r n f (l.set i ((tx (k)))) (i + 1) (k + 1) (by rw [List.length_set]; omega) (by omega) (by omega) hfit2 (by rw [hds]; omega)
  rw [hds] at ih
  rw [a3f]
  simp only [hlt,hge,hix,hg,decide_true,and_self,if_true,Option.bind_some,List.set_set,wi,t0,w0]
  rw [ih,b2o _ _ _ _ hi,a6e]
  refine congrArg some (Prod.ext ?_ rfl)
  simp only
  omega
theorem b6x (l:List Str) (k:Int) (hf:a4s l) (h0:1 ≤ k) (h1:k + (a1l l:Nat) < 2 ^ 62):a6q l k = some (k + (a1l l:Nat),a6e l k):=by
 unfold a6q
 have hl:l.length < 2 ^ 61:=hf
 rw [show (0:Int) = ((0:Nat):Int) from rfl,b7r l.length FUEL l 0 k (by omega) (fuel_lt (by omega)) h0 hf (by simpa using h1)]
 simp
theorem c0w:∀ (l:List Str) (k:Int),(a6e l k).length = l.length
 | [],_ => rfl
 | x :: l,k => by simp only [a6e,List.length_cons,c0w l]
theorem fit_mkStringS (l:List Str) (k:Int) (h:a4s l):a4s (a6e l k):=by
 unfold a4s at h ⊢
 rw [c0w]; exact h
theorem b7s:∀ (l:List Str) (k:Int),a4s l → 1 ≤ k → k + (a1l l:Nat) < 2 ^ 62 → a3h (a6e l k) k = some (.go (k + (a1l l:Nat)))
 | [],k,_,_,_ => by simp [a6e,a3h,a1l]
 | x :: l,k,hfit,h0,hc => by
  simp only [a1l] at hc ⊢
  have hfit2:a4s l:=by unfold a4s at hfit ⊢; simp at hfit; omega
  have t0:=b6i (k:=k) (by omega) (by omega)
  have w0:w64 (k + 1) = k + 1:=a3m (by omega)
  have ih:=b7s l (k + 1) hfit2 (by omega) (by omega)
  rw [a6e,a3h]
  simp only [t0,w0,Option.bind_some,beq_self_eq_true,bne_self_eq_false,Bool.not_true,Bool.false_eq_true,if_false,decide_false]
  rw [ih]
  refine congrArg (fun z => some (Fl.go z)) ?_
  omega
theorem c0x (l:List Str) (k:Int) (hf:a4s l) (h0:1 ≤ k) (h1:k + (a1l l:Nat) < 2 ^ 62):a7l (a6e l k) k = some (k + (a1l l:Nat)):=by
 unfold a7l
 rw [b7s l k hf h0 h1]
 rfl

/- JSON values: marks. -/
mutual
def b3f:o9 → Nat
 | ⟨_,_,_,ks,is⟩ => a1l ks + a1z is
def a1z:List o9 → Nat
 | [] => 0
 | x :: xs => (3 + b3f x) + a1z xs
end
mutual
def b8f:o9 → Int → o9
 | ⟨a,b,c,ks,is⟩,k => ⟨a,b,c,a6e ks k,a6z is (k + (a1l ks:Nat))⟩
def a6z:List o9 → Int → List o9
 | [],_ => []
 | x :: xs,k => ⟨k,k + 1,tx (k + 1 + 1),(b8f x (k + 1 + 1 + 1)).Keys,(b8f x (k + 1 + 1 + 1)).Items⟩ :: a6z xs (k + 1 + 1 + 1 + (b3f x:Nat))
end
mutual
def b8g:o9 → Prop
 | ⟨_,_,_,ks,is⟩ => a4s ks ∧ is.length < 2 ^ 61 ∧ b1j is
def b1j:List o9 → Prop
 | [] => True
 | x :: xs => b8g x ∧ b1j xs
end
def b4t (l:List o9):Prop:=l.length < 2 ^ 61 ∧ b1j l
theorem b0b (x:o9):b3f x = a1l x.Keys + a1z x.Items:=by cases x; simp only [b3f]
theorem b7t (x:o9) (k:Int):b8f x k = ⟨x.Kind,x.N,x.T,a6e x.Keys k,a6z x.Items (k + (a1l x.Keys:Nat))⟩:=by cases x; simp only [b8f]
theorem b8h {x:o9} (h:b8g x):a4s x.Keys ∧ b4t x.Items:=by
 cases x; simp only [b8g] at h; exact ⟨h.1,h.2.1,h.2.2⟩
theorem d6c:∀ (l:List o9) (k:Int),(a6z l k).length = l.length
 | [],_ => by simp [a6z]
 | x :: l,k => by simp only [a6z,List.length_cons,d6c l]
theorem b9o (rec:List o9 → Int → Option (Int × List o9)) (b:Nat) (hrec:∀ (l:List o9) (k:Int),a1z l < b → b4t l → 1 ≤ k → k + (a1z l:Nat) < 2 ^ 62 → rec l k = some (k + (a1z l:Nat),a6z l k)):∀ (n f:Nat) (l:List o9) (i:Nat) (k:Int),i + n = l.length → n < f → 1 ≤ k → l.length < 2 ^ 61 → b1j (l.drop i) → a1z (l.drop i) < b + 1 → k + (a1z (l.drop i):Nat) < 2 ^ 62 → a3g rec f k i l = some (k + (a1z (l.drop i):Nat),l.take i ++ a6z (l.drop i) k)
 | _,0,_,_,_,_,h,_,_,_,_,_ => by omega
 | 0,f + 1,l,i,k,h,_,_,_,_,_,_ => by
  rw [a3g,if_neg (by simp; omega),List.drop_of_length_le (by omega),List.take_of_length_le (by omega)]
  simp [a1z,a6z]
 | n + 1,f + 1,l,i,k,h,hf,hk,hlen,hfit,hb,hc => by
  have hi:i < l.length:=by omega
  have hd:l.drop i = l[i] :: l.drop (i + 1):=List.drop_eq_getElem_cons hi
  rw [hd] at hc hfit hb ⊢
  simp only [a1z,b0b] at hc hb ⊢
  simp only [b1j] at hfit
  obtain ⟨hx1,hx2⟩:=b8h hfit.1
  have w0:w64 (k + 1) = k + 1:=a3m (by omega)
  have w1:w64 (k + 1 + 1) = k + 1 + 1:=a3m (by omega)
  have t2:=b6i (k:=k + 1 + 1) (by omega) (by omega)
  have w2:w64 (k + 1 + 1 + 1) = k + 1 + 1 + 1:=a3m (by omega)
  have m3:=b6x l[i].Keys (k + 1 + 1 + 1) hx1 (by omega) (by omega)
  have m4:=hrec l[i].Items (k + 1 + 1 + 1 + (a1l l[i].Keys:Nat)) (by omega) hx2 (by omega) (by omega)
  have wi:w64 ((i:Int) + 1) = ((i + 1:Nat):Int):=by rw [a3m (by omega)]; rfl
  have hg:l[i]? = some l[i]:=List.getElem?_eq_getElem hi
  have hix:0 + (i:Int).toNat = i:=by simp
  have hlt:((i:Int) < (l.length:Int)) = True:=eq_true (by omega)
  have hge:(0 ≤ (i:Int)) = True:=eq_true (by omega)
  have hds:∀ y,(l.set i y).drop (i + 1) = l.drop (i + 1):=fun y => List.drop_set_of_lt (by omega)
  have ih:=b9o rec b hrec n f (l.set i ⟨k,k + 1,tx (k + 1 + 1),a6e l[i].Keys (k + 1 + 1 + 1),a6z l[i].Items (k + 1 + 1 + 1 + (a1l l[i].Keys:Nat))⟩) (i + 1) (k + 1 + 1 + 1 + (a1l l[i].Keys:Nat) + (a1z l[i].Items:Nat)) (by rw [List.length_set]; omega) (by omega) (by omega) (by rw [List.length_set]; omega) (by rw [hds]; exact hfit.2) (by rw [hds]; omega) (by rw [hds]; omega)
  rw [hds] at ih
  rw [a3g]
  simp only [hlt,hge,hix,hg,decide_true,and_self,if_true,Option.bind_some,List.set_set,wi,w0,w1,t2,w2,m3,m4]
  rw [ih,b2o _ _ _ _ hi]
  simp only [a6z,b7t,b0b]
  refine congrArg some (Prod.ext ?_ ?_)
  ·simp only
   omega
  ·simp only
   refine congrArg (fun z => _ ++ _ :: a6z _ z) ?_
   omega
theorem c0y:∀ (f:Nat) (l:List o9) (k:Int),a1z l < f → b4t l → 1 ≤ k → k + (a1z l:Nat) < 2 ^ 62 → a6a f l k = some (k + (a1z l:Nat),a6z l k)
 | 0,_,_,h,_,_,_ => by omega
 | f + 1,l,k,h,hf,h0,h1 => by
  have hl:l.length < 2 ^ 61:=hf.1
  rw [a6a]
  unfold b0l
  rw [show (0:Int) = ((0:Nat):Int) from rfl,b9o (a6a f) f (fun l k => c0y f l k) l.length FUEL l 0 k (by omega) (fuel_lt (by omega)) h0 hl (by simpa using hf.2) (by simpa using h) (by simpa using h1)]
  simp
theorem d6d (l:List o9) (k:Int) (hf:b4t l) (h0:1 ≤ k) (h1:k + (a1z l:Nat) < 2 ^ 62):a6a FUEL l k = some (k + (a1z l:Nat),a6z l k):=c0y FUEL l k (fuel_lt (by omega)) hf h0 h1
/- JSON values: marks are read back. -/
theorem b9p (rec:List o9 → Int → Option Int) (b:Nat) (hrec:∀ (l:List o9) (k:Int),a1z l < b → b4t l → 1 ≤ k → k + (a1z l:Nat) < 2 ^ 62 → rec (a6z l k) k = some (k + (a1z l:Nat))):∀ (l:List o9) (k:Int),1 ≤ k → b1j l → a1z l < b + 1 → k + (a1z l:Nat) < 2 ^ 62 → a3i rec (a6z l k) k = some (.go (k + (a1z l:Nat)))
 | [],k,_,_,_,_ => by simp [a6z,a3i,a1z]
 | x :: l,k,hk,hfit,hb,hc => by
  simp only [a1z,b0b] at hc hb ⊢
  simp only [b1j] at hfit
  obtain ⟨hx1,hx2⟩:=b8h hfit.1
  have w0:w64 (k + 1) = k + 1:=a3m (by omega)
  have w1:w64 (k + 1 + 1) = k + 1 + 1:=a3m (by omega)
  have t2:=b6i (k:=k + 1 + 1) (by omega) (by omega)
  have w2:w64 (k + 1 + 1 + 1) = k + 1 + 1 + 1:=a3m (by omega)
  have m3:=c0x x.Keys (k + 1 + 1 + 1) hx1 (by omega) (by omega)
  have n3:(k + 1 + 1 + 1 + (a1l x.Keys:Nat) < 0) = False:=eq_false (by omega)
  have m4:=hrec x.Items (k + 1 + 1 + 1 + (a1l x.Keys:Nat)) (by omega) hx2 (by omega) (by omega)
  have n4:(k + 1 + 1 + 1 + (a1l x.Keys:Nat) + (a1z x.Items:Nat) < 0) = False:=eq_false (by omega)
  have ih:=b9p rec b hrec l (k + 1 + 1 + 1 + (a1l x.Keys:Nat) + (a1z x.Items:Nat)) (by omega) hfit.2 (by omega) (by omega)
  have ek:k + 1 + 1 + 1 + ((a1l x.Keys + a1z x.Items:Nat):Int) = k + 1 + 1 + 1 + (a1l x.Keys:Nat) + (a1z x.Items:Nat):=by omega
  simp only [a6z,b7t,b0b,ek]
  rw [a3i]
  simp only [w0,w1,t2,w2,m3,n3,m4,n4,Option.bind_some,beq_self_eq_true,bne_self_eq_false,Bool.not_true,Bool.false_eq_true,if_false,decide_false]
  rw [ih]
  refine congrArg (fun z => some (Fl.go z)) ?_
  omega
theorem c0z:∀ (f:Nat) (l:List o9) (k:Int),a1z l < f → b4t l → 1 ≤ k → k + (a1z l:Nat) < 2 ^ 62 → a6b f (a6z l k) k = some (k + (a1z l:Nat))
 | 0,_,_,h,_,_,_ => by omega
 | f + 1,l,k,h,hf,h0,h1 => by
  rw [a6b]
  unfold b0m
  rw [b9p (a6b f) f (fun l k => c0z f l k) l k h0 hf.2 h h1]
  rfl
theorem d6e (l:List o9) (k:Int) (hf:b4t l) (h0:1 ≤ k) (h1:k + (a1z l:Nat) < 2 ^ 62):a6b FUEL (a6z l k) k = some (k + (a1z l:Nat)):=c0z FUEL l k (fuel_lt (by omega)) hf h0 h1

theorem d7v (x:o9) (k:Int) (hf:b8g x) (h0:1 ≤ k) (h1:k + (b3f x:Nat) < 2 ^ 62):b1h x k = some (k + (b3f x:Nat),b8f x k):=by
 rw [b0b] at h1
 obtain ⟨hx1,hx2⟩:=b8h hf
 unfold b1h
 rw [b6x x.Keys k hx1 h0 (by omega),Option.bind_some]
 simp only
 rw [d6d x.Items _ hx2 (by omega) (by omega),Option.bind_some,b7t,b0b]
 refine congrArg some (Prod.ext ?_ rfl)
 simp only
 omega
theorem d7w (x:o9) (k:Int) (hf:b8g x) (h0:1 ≤ k) (h1:k + (b3f x:Nat) < 2 ^ 62):a9k (b8f x k) k = some (k + (b3f x:Nat)):=by
 rw [b0b] at h1
 obtain ⟨hx1,hx2⟩:=b8h hf
 have n3:(k + (a1l x.Keys:Nat) < 0) = False:=eq_false (by omega)
 have n4:(k + (a1l x.Keys:Nat) + (a1z x.Items:Nat) < 0) = False:=eq_false (by omega)
 have m1:=c0x x.Keys k hx1 h0 (by omega)
 have m2:=d6e x.Items (k + (a1l x.Keys:Nat)) hx2 (by omega) (by omega)
 unfold a9k
 rw [b7t,b0b]
 simp only [m1,m2,n3,n4,Option.bind_some,decide_false,Bool.false_eq_true,if_false]
 refine congrArg some ?_
 omega

def b3g:List a1u → Nat
 | [] => 0
 | x :: xs => (1 + a6y x.Cells) + b3g xs
def b6y:List a1u → Int → List a1u
 | [],_ => []
 | x :: xs,k => ⟨(k),(a9b x.Cells (k + 1))⟩ :: b6y xs (k + 1 + (a6y x.Cells:Nat))
def b5n (l:List a1u):Prop:=l.length < 2 ^ 61 ∧ ∀ x ∈ l,b0n x.Cells
theorem c1b:∀ (n f:Nat) (l:List a1u) (i:Nat) (k:Int),i + n = l.length → n < f → 1 ≤ k → b5n l → k + (b3g (l.drop i):Nat) < 2 ^ 62 → a4q f k i l = some (k + (b3g (l.drop i):Nat),l.take i ++ b6y (l.drop i) k)
 | _,0,_,_,_,_,h,_,_,_ => by omega
 | 0,f + 1,l,i,k,h,_,_,_,_ => by
  rw [a4q,if_neg (by simp; omega),List.drop_of_length_le (by omega),List.take_of_length_le (by omega)]
  simp [b3g,b6y]
 | n + 1,f + 1,l,i,k,h,hf,hk,hfit,hc => by
  have hi:i < l.length:=by omega
  have hd:l.drop i = l[i] :: l.drop (i + 1):=List.drop_eq_getElem_cons hi
  rw [hd] at hc ⊢
  simp only [b3g] at hc ⊢
  have hlen:l.length < 2 ^ 61:=hfit.1
  have hx:=hfit.2 l[i] (List.getElem_mem _)
  have w0:w64 (k + 1) = k + 1:=a3m (by omega)
  have m1:=d3x l[i].Cells (k + 1) (hx) (by omega) (by omega)
  have wi:w64 ((i:Int) + 1) = ((i + 1:Nat):Int):=by rw [a3m (by omega)]; rfl
  have hg:l[i]? = some l[i]:=List.getElem?_eq_getElem hi
  have hix:0 + (i:Int).toNat = i:=by simp
  have hlt:((i:Int) < (l.length:Int)) = True:=eq_true (by omega)
  have hge:(0 ≤ (i:Int)) = True:=eq_true (by omega)
  have hds:∀ y,(l.set i y).drop (i + 1) = l.drop (i + 1):=fun y => List.drop_set_of_lt (by omega)
  have hfit2:b5n (l.set i (⟨(k),(a9b l[i].Cells (k + 1))⟩)):=by
   unfold b5n at hfit ⊢
   exact ⟨by rw [List.length_set]; exact hfit.1,fun z hz => by
    rcases List.mem_or_eq_of_mem_set hz with hz | rfl
    ·exact hfit.2 z hz
    ·exact b8e _ _ hx⟩
  have ih:=c1b n f (l.set i (⟨(k),(a9b l[i].Cells (k + 1))⟩)) (i + 1) (k + 1 + (a6y l[i].Cells:Nat)) (by rw [List.length_set]; omega) (by omega) (by omega) hfit2 (by rw [hds]; omega)
  rw [hds] at ih
  rw [a4q]
  simp only [hlt,hge,hix,hg,decide_true,and_self,if_true,Option.bind_some,List.set_set,wi,w0,m1]
  rw [ih,b2o _ _ _ _ hi,b6y]
  refine congrArg some (Prod.ext ?_ rfl)
  simp only
  omega
theorem d7x (l:List a1u) (k:Int) (hf:b5n l) (h0:1 ≤ k) (h1:k + (b3g l:Nat) < 2 ^ 62):b1g l k = some (k + (b3g l:Nat),b6y l k):=by
 unfold b1g
 have hl:l.length < 2 ^ 61:=hf.1
 rw [show (0:Int) = ((0:Nat):Int) from rfl,c1b l.length FUEL l 0 k (by omega) (fuel_lt (by omega)) h0 hf (by simpa using h1)]
 simp
theorem c9k:∀ (l:List a1u) (k:Int),(b6y l k).length = l.length
 | [],_ => rfl
 | x :: l,k => by simp only [b6y,List.length_cons,c9k l]
theorem d7y:∀ (l:List a1u) (k:Int),b5n l → b5n (b6y l k)
 | [],_,h => h
 | x :: l,k,h => by
  have h2:b5n l:=⟨by have:=h.1; simp at this; omega,fun y hy => h.2 y (by simp [hy])⟩
  have ih:=d7y l (k + 1 + (a6y x.Cells:Nat)) h2
  have hx:=h.2 x (by simp)
  refine ⟨by rw [c9k]; exact h.1,fun z hz => ?_⟩
  rw [b6y] at hz
  rcases List.mem_cons.1 hz with rfl | hz
  ·exact b8e _ _ hx
  ·exact ih.2 z hz

def b5r (x:a1i):Nat:=a1l x.Columns + b3g x.Rows
def e3w (x:a1i) (k:Int):a1i:=⟨x.Code,x.Count,x.Id,(a6e x.Columns (k)),(b6y x.Rows (k + (a1l x.Columns:Nat)))⟩
def c4x (x:a1i):Prop:=a4s x.Columns ∧ b5n x.Rows
theorem d3y (x:a1i) (k:Int) (hf:c4x x) (h0:1 ≤ k) (h1:k + (b5r x:Nat) < 2 ^ 62):a9a x k = some (k + (b5r x:Nat),e3w x k):=by
 unfold b5r at h1 ⊢
 unfold c4x at hf
 have m0:=b6x x.Columns (k) hf.1 (by omega) (by omega)
 have m1:=d7x x.Rows (k + (a1l x.Columns:Nat)) hf.2 (by omega) (by omega)
 unfold a9a
 simp only [m0,m1,Option.bind_some]
 refine congrArg some (Prod.ext ?_ rfl)
 (try simp only) <;> omega
end Go.R
