import Derived.Test.YtldahjcikmpifaaGreatJMO6
import Derived.Test.YtldahjcikmpifaaGreatP0
set_option linter.all false
namespace Go.R
open Go
set_option maxHeartbeats 1000000
theorem fuel_lt {n:Nat} (h:n < 2 ^ 90):n < FUEL:=by unfold FUEL; omega
theorem b9g:∀ (m f:Nat) (k:Int) (out:Str),0 ≤ k → k < 2 ^ m → m < f → out.length + m + 1 ≤ maxLen → k < 2 ^ 62 → ∃ t,a4n f k out = some t ∧ t.length ≤ out.length + m
 | _,0,_,_,_,_,h,_,_ => by omega
 | 0,f + 1,k,out,h0,h1,_,_,_ => by
  have:k = 0:=by simp at h1; omega
  subst this
  rw [a4n,if_neg (by simp)]
  exact ⟨out,rfl,by omega⟩
 | m + 1,f + 1,k,out,h0,h1,h2,h3,h4 => by
  rw [a4n]
  by_cases hk:k > 0
  ·rw [if_pos (by simpa using hk)]
   have hb:∀ n,(d3t [n]).length = 1:=fun _ => rfl
   rw [if_pos (by rw [hb]; omega)]
   have hd:k.tdiv 10 = k / 10:=Int.tdiv_eq_ediv_of_nonneg h0
   have hw:w64 (k.tdiv 10) = k / 10:=by rw [hd]; exact a3p (by omega)
   rw [hw]
   have hp:(2:Int) ^ (m + 1) = 2 * 2 ^ m:=by rw [Int.pow_succ]; omega
   obtain ⟨t,e,hl⟩:=b9g m f (k / 10) (d3t [IntKind.u8.wrap (w64 (48 + (k.tmod 10)))] ++ out) (by omega) (by omega) (by omega) (by rw [List.length_append,hb]; omega) (by omega)
   refine ⟨t,e,?_⟩
   rw [List.length_append,hb] at hl
   omega
  ·rw [if_neg (by simpa using hk)]
   exact ⟨out,rfl,by omega⟩
def tx (k:Int):Str:=(a3o k).getD []
theorem b0u {k:Int} (h0:1 ≤ k) (h1:k < 2 ^ 62):a3o k = some (tx k):=by
 have:∃ t,a3o k = some t:=by
  unfold a3o
  rw [if_neg (by simp; omega)]
  obtain ⟨t,e,hl⟩:=b9g 62 FUEL k [] (by omega) h1 (fuel_lt (by omega)) (by simp [maxLen]) h1
  rw [e,Option.bind_some,if_pos (by simp only [List.length_cons,List.length_nil] at hl ⊢; simp only [maxLen]; omega)]
  exact ⟨_,rfl⟩
 obtain ⟨t,e⟩:=this
 unfold tx
 rw [e]
 rfl
def a3m:List a0g → Nat
 | [] => 0
 | x :: xs => (1 + 1 + 1) + a3m xs
def a8m:List a0g → Int → List a0g
 | [],_ => []
 | x :: xs,k => ⟨(k),(k + 1),(tx (k + 1 + 1))⟩ :: a8m xs (k + 1 + 1 + 1)
def a7e (l:List a0g):Prop:=l.length < 2 ^ 61
theorem b7q:∀ (n f:Nat) (l:List a0g) (i:Nat) (k:Int),i + n = l.length → n < f → 1 ≤ k → a7e l → k + (a3m (l.drop i):Nat) < 2 ^ 62 → a3x f k i l = some (k + (a3m (l.drop i):Nat),l.take i ++ a8m (l.drop i) k)
 | _,0,_,_,_,_,h,_,_,_ => by omega
 | 0,f + 1,l,i,k,h,_,_,_,_ => by
  rw [a3x,if_neg (by simp; omega),List.drop_of_length_le (by omega),List.take_of_length_le (by omega)]
  simp [a3m,a8m]
 | n + 1,f + 1,l,i,k,h,hf,hk,hfit,hc => by
  have hi:i < l.length:=by omega
  have hd:l.drop i = l[i] :: l.drop (i + 1):=List.drop_eq_getElem_cons hi
  rw [hd] at hc ⊢
  simp only [a3m] at hc ⊢
  have hlen:l.length < 2 ^ 61:=hfit
  have w0:w64 (k + 1) = k + 1:=a3p (by omega)
  have w1:w64 (k + 1 + 1) = k + 1 + 1:=a3p (by omega)
  have t2:=b0u (k:=k + 1 + 1) (by omega) (by omega)
  have w2:w64 (k + 1 + 1 + 1) = k + 1 + 1 + 1:=a3p (by omega)
  have wi:w64 ((i:Int) + 1) = ((i + 1:Nat):Int):=by rw [a3p (by omega)]; rfl
  have hg:l[i]? = some l[i]:=List.getElem?_eq_getElem hi
  have hix:0 + (i:Int).toNat = i:=by simp
  have hlt:((i:Int) < (l.length:Int)) = True:=eq_true (by omega)
  have hge:(0 ≤ (i:Int)) = True:=eq_true (by omega)
  have hds:∀ y,(l.set i y).drop (i + 1) = l.drop (i + 1):=fun y => List.drop_set_of_lt (by omega)
  have hfit2:a7e (l.set i (⟨(k),(k + 1),(tx (k + 1 + 1))⟩)):=by
   unfold a7e at hfit ⊢
   rw [List.length_set]; exact hfit
  have ih:=b7q n f (l.set i (⟨(k),(k + 1),(tx (k + 1 + 1))⟩)) (i + 1) (k + 1 + 1 + 1) (by rw [List.length_set]; omega) (by omega) (by omega) hfit2 (by rw [hds]; omega)
  rw [hds] at ih
  rw [a3x]
  simp only [hlt,hge,hix,hg,decide_true,and_self,if_true,Option.bind_some,List.set_set,wi,w0,w1,t2,w2]
  rw [ih,b5i _ _ _ _ hi,a8m]
  refine congrArg some (Prod.ext ?_ rfl)
  simp only
  omega
theorem d3w (l:List a0g) (k:Int) (hf:a7e l) (h0:1 ≤ k) (h1:k + (a3m l:Nat) < 2 ^ 62):a9t l k = some (k + (a3m l:Nat),a8m l k):=by
 unfold a9t
 have hl:l.length < 2 ^ 61:=hf
 rw [show (0:Int) = ((0:Nat):Int) from rfl,b7q l.length FUEL l 0 k (by omega) (fuel_lt (by omega)) h0 hf (by simpa using h1)]
 simp
theorem c4h:∀ (l:List a0g) (k:Int),(a8m l k).length = l.length
 | [],_ => rfl
 | x :: l,k => by simp only [a8m,List.length_cons,c4h l]
theorem c4i (l:List a0g) (k:Int) (h:a7e l):a7e (a8m l k):=by
 unfold a7e at h ⊢
 rw [c4h]; exact h
theorem b7r:∀ (l:List a0g) (k:Int),a7e l → 1 ≤ k → k + (a3m l:Nat) < 2 ^ 62 → a3z (a8m l k) k = some (.go (k + (a3m l:Nat)))
 | [],k,_,_,_ => by simp [a8m,a3z,a3m]
 | x :: l,k,hfit,h0,hc => by
  simp only [a3m] at hc ⊢
  have hfit2:a7e l:=by unfold a7e at hfit ⊢; simp at hfit; omega
  have w0:w64 (k + 1) = k + 1:=a3p (by omega)
  have w1:w64 (k + 1 + 1) = k + 1 + 1:=a3p (by omega)
  have t2:=b0u (k:=k + 1 + 1) (by omega) (by omega)
  have w2:w64 (k + 1 + 1 + 1) = k + 1 + 1 + 1:=a3p (by omega)
  have ih:=b7r l (k + 1 + 1 + 1) hfit2 (by omega) (by omega)
  rw [a8m,a3z]
  simp only [w0,w1,t2,w2,Option.bind_some,beq_self_eq_true,bne_self_eq_false,Bool.not_true,Bool.false_eq_true,if_false,decide_false]
  rw [ih]
  refine congrArg (fun z => some (Fl.go z)) ?_
  omega
theorem d3x (l:List a0g) (k:Int) (hf:a7e l) (h0:1 ≤ k) (h1:k + (a3m l:Nat) < 2 ^ 62):a9v (a8m l k) k = some (k + (a3m l:Nat)):=by
 unfold a9v
 rw [b7r l k hf h0 h1]
 rfl
def a4o:List a0m → Nat
 | [] => 0
 | x :: xs => (1 + 1 + a3m x.Value) + a4o xs
def a9h:List a0m → Int → List a0m
 | [],_ => []
 | x :: xs,k => ⟨(tx (k)),(k + 1),(a8m x.Value (k + 1 + 1))⟩ :: a9h xs (k + 1 + 1 + (a3m x.Value:Nat))
def a8w (l:List a0m):Prop:=l.length < 2 ^ 61 ∧ ∀ x ∈ l,a7e x.Value
theorem b7s:∀ (n f:Nat) (l:List a0m) (i:Nat) (k:Int),i + n = l.length → n < f → 1 ≤ k → a8w l → k + (a4o (l.drop i):Nat) < 2 ^ 62 → a3y f k i l = some (k + (a4o (l.drop i):Nat),l.take i ++ a9h (l.drop i) k)
 | _,0,_,_,_,_,h,_,_,_ => by omega
 | 0,f + 1,l,i,k,h,_,_,_,_ => by
  rw [a3y,if_neg (by simp; omega),List.drop_of_length_le (by omega),List.take_of_length_le (by omega)]
  simp [a4o,a9h]
 | n + 1,f + 1,l,i,k,h,hf,hk,hfit,hc => by
  have hi:i < l.length:=by omega
  have hd:l.drop i = l[i] :: l.drop (i + 1):=List.drop_eq_getElem_cons hi
  rw [hd] at hc ⊢
  simp only [a4o] at hc ⊢
  have hlen:l.length < 2 ^ 61:=hfit.1
  have hx:=hfit.2 l[i] (List.getElem_mem _)
  have t0:=b0u (k:=k) (by omega) (by omega)
  have w0:w64 (k + 1) = k + 1:=a3p (by omega)
  have w1:w64 (k + 1 + 1) = k + 1 + 1:=a3p (by omega)
  have m2:=d3w l[i].Value (k + 1 + 1) (hx) (by omega) (by omega)
  have wi:w64 ((i:Int) + 1) = ((i + 1:Nat):Int):=by rw [a3p (by omega)]; rfl
  have hg:l[i]? = some l[i]:=List.getElem?_eq_getElem hi
  have hix:0 + (i:Int).toNat = i:=by simp
  have hlt:((i:Int) < (l.length:Int)) = True:=eq_true (by omega)
  have hge:(0 ≤ (i:Int)) = True:=eq_true (by omega)
  have hds:∀ y,(l.set i y).drop (i + 1) = l.drop (i + 1):=fun y => List.drop_set_of_lt (by omega)
  have hfit2:a8w (l.set i (⟨(tx (k)),(k + 1),(a8m l[i].Value (k + 1 + 1))⟩)):=by
   unfold a8w at hfit ⊢
   exact ⟨by rw [List.length_set]; exact hfit.1,fun z hz => by
    rcases List.mem_or_eq_of_mem_set hz with hz | rfl
    ·exact hfit.2 z hz
    ·exact c4i _ _ hx⟩
  have ih:=b7s n f (l.set i (⟨(tx (k)),(k + 1),(a8m l[i].Value (k + 1 + 1))⟩)) (i + 1) (k + 1 + 1 + (a3m l[i].Value:Nat)) (by rw [List.length_set]; omega) (by omega) (by omega) hfit2 (by rw [hds]; omega)
  rw [hds] at ih
  rw [a3y]
  simp only [hlt,hge,hix,hg,decide_true,and_self,if_true,Option.bind_some,List.set_set,wi,t0,w0,w1,m2]
  rw [ih,b5i _ _ _ _ hi,a9h]
  refine congrArg some (Prod.ext ?_ rfl)
  simp only
  omega
theorem d3y (l:List a0m) (k:Int) (hf:a8w l) (h0:1 ≤ k) (h1:k + (a4o l:Nat) < 2 ^ 62):a9u l k = some (k + (a4o l:Nat),a9h l k):=by
 unfold a9u
 have hl:l.length < 2 ^ 61:=hf.1
 rw [show (0:Int) = ((0:Nat):Int) from rfl,b7s l.length FUEL l 0 k (by omega) (fuel_lt (by omega)) h0 hf (by simpa using h1)]
 simp
theorem c4j:∀ (l:List a0m) (k:Int),(a9h l k).length = l.length
 | [],_ => rfl
 | x :: l,k => by simp only [a9h,List.length_cons,c4j l]
theorem d3z:∀ (l:List a0m) (k:Int),a8w l → a8w (a9h l k)
 | [],_,h => h
 | x :: l,k,h => by
  have h2:a8w l:=⟨by have:=h.1; simp at this; omega,fun y hy => h.2 y (by simp [hy])⟩
  have ih:=d3z l (k + 1 + 1 + (a3m x.Value:Nat)) h2
  have hx:=h.2 x (by simp)
  refine ⟨by rw [c4j]; exact h.1,fun z hz => ?_⟩
  rw [a9h] at hz
  rcases List.mem_cons.1 hz with rfl | hz
  ·exact c4i _ _ hx
  ·exact ih.2 z hz
theorem b7t:∀ (l:List a0m) (k:Int),a8w l → 1 ≤ k → k + (a4o l:Nat) < 2 ^ 62 → a4a (a9h l k) k = some (.go (k + (a4o l:Nat)))
 | [],k,_,_,_ => by simp [a9h,a4a,a4o]
 | x :: l,k,hfit,h0,hc => by
  simp only [a4o] at hc ⊢
  have hx:=hfit.2 x (by simp)
  have hfit2:a8w l:=⟨by have:=hfit.1; simp at this; omega,fun y hy => hfit.2 y (by simp [hy])⟩
  have t0:=b0u (k:=k) (by omega) (by omega)
  have w0:w64 (k + 1) = k + 1:=a3p (by omega)
  have w1:w64 (k + 1 + 1) = k + 1 + 1:=a3p (by omega)
  have m2:=d3x x.Value (k + 1 + 1) hx (by omega) (by omega)
  have n2:(k + 1 + 1 + (a3m x.Value:Nat) < 0) = False:=eq_false (by omega)
  have ih:=b7t l (k + 1 + 1 + (a3m x.Value:Nat)) hfit2 (by omega) (by omega)
  rw [a9h,a4a]
  simp only [t0,w0,w1,m2,n2,Option.bind_some,beq_self_eq_true,bne_self_eq_false,Bool.not_true,Bool.false_eq_true,if_false,decide_false]
  rw [ih]
  refine congrArg (fun z => some (Fl.go z)) ?_
  omega
theorem d4a (l:List a0m) (k:Int) (hf:a8w l) (h0:1 ≤ k) (h1:k + (a4o l:Nat) < 2 ^ 62):a9w (a9h l k) k = some (k + (a4o l:Nat)):=by
 unfold a9w
 rw [b7t l k hf h0 h1]
 rfl
def a1l:List Str → Nat
 | [] => 0
 | x :: xs => (1) + a1l xs
def a5p:List Str → Int → List Str
 | [],_ => []
 | x :: xs,k => (tx (k)) :: a5p xs (k + 1)
def a4e (l:List Str):Prop:=l.length < 2 ^ 61
theorem b5n:∀ (n f:Nat) (l:List Str) (i:Nat) (k:Int),i + n = l.length → n < f → 1 ≤ k → a4e l → k + (a1l (l.drop i):Nat) < 2 ^ 62 → a3f f k i l = some (k + (a1l (l.drop i):Nat),l.take i ++ a5p (l.drop i) k)
 | _,0,_,_,_,_,h,_,_,_ => by omega
 | 0,f + 1,l,i,k,h,_,_,_,_ => by
  rw [a3f,if_neg (by simp; omega),List.drop_of_length_le (by omega),List.take_of_length_le (by omega)]
  simp [a1l,a5p]
 | n + 1,f + 1,l,i,k,h,hf,hk,hfit,hc => by
  have hi:i < l.length:=by omega
  have hd:l.drop i = l[i] :: l.drop (i + 1):=List.drop_eq_getElem_cons hi
  rw [hd] at hc ⊢
  simp only [a1l] at hc ⊢
  have hlen:l.length < 2 ^ 61:=hfit
  have t0:=b0u (k:=k) (by omega) (by omega)
  have w0:w64 (k + 1) = k + 1:=a3p (by omega)
  have wi:w64 ((i:Int) + 1) = ((i + 1:Nat):Int):=by rw [a3p (by omega)]; rfl
  have hg:l[i]? = some l[i]:=List.getElem?_eq_getElem hi
  have hix:0 + (i:Int).toNat = i:=by simp
  have hlt:((i:Int) < (l.length:Int)) = True:=eq_true (by omega)
  have hge:(0 ≤ (i:Int)) = True:=eq_true (by omega)
  have hds:∀ y,(l.set i y).drop (i + 1) = l.drop (i + 1):=fun y => List.drop_set_of_lt (by omega)
  have hfit2:a4e (l.set i ((tx (k)))):=by
   unfold a4e at hfit ⊢
   rw [List.length_set]; exact hfit
  have ih:=b5n n f (l.set i ((tx (k)))) (i + 1) (k + 1) (by rw [List.length_set]; omega) (by omega) (by omega) hfit2 (by rw [hds]; omega)
  rw [hds] at ih
  rw [a3f]
  simp only [hlt,hge,hix,hg,decide_true,and_self,if_true,Option.bind_some,List.set_set,wi,t0,w0]
  rw [ih,b5i _ _ _ _ hi,a5p]
  refine congrArg some (Prod.ext ?_ rfl)
  simp only
  omega
theorem b5f (l:List Str) (k:Int) (hf:a4e l) (h0:1 ≤ k) (h1:k + (a1l l:Nat) < 2 ^ 62):a5y l k = some (k + (a1l l:Nat),a5p l k):=by
 unfold a5y
 have hl:l.length < 2 ^ 61:=hf
 rw [show (0:Int) = ((0:Nat):Int) from rfl,b5n l.length FUEL l 0 k (by omega) (fuel_lt (by omega)) h0 hf (by simpa using h1)]
 simp
theorem b9h:∀ (l:List Str) (k:Int),(a5p l k).length = l.length
 | [],_ => rfl
 | x :: l,k => by simp only [a5p,List.length_cons,b9h l]
theorem fit_mkStringS (l:List Str) (k:Int) (h:a4e l):a4e (a5p l k):=by
 unfold a4e at h ⊢
 rw [b9h]; exact h
theorem b5o:∀ (l:List Str) (k:Int),a4e l → 1 ≤ k → k + (a1l l:Nat) < 2 ^ 62 → a3h (a5p l k) k = some (.go (k + (a1l l:Nat)))
 | [],k,_,_,_ => by simp [a5p,a3h,a1l]
 | x :: l,k,hfit,h0,hc => by
  simp only [a1l] at hc ⊢
  have hfit2:a4e l:=by unfold a4e at hfit ⊢; simp at hfit; omega
  have t0:=b0u (k:=k) (by omega) (by omega)
  have w0:w64 (k + 1) = k + 1:=a3p (by omega)
  have ih:=b5o l (k + 1) hfit2 (by omega) (by omega)
  rw [a5p,a3h]
  simp only [t0,w0,Option.bind_some,beq_self_eq_true,bne_self_eq_false,Bool.not_true,Bool.false_eq_true,if_false,decide_false]
  rw [ih]
  refine congrArg (fun z => some (Fl.go z)) ?_
  omega
theorem c8y (l:List Str) (k:Int) (hf:a4e l) (h0:1 ≤ k) (h1:k + (a1l l:Nat) < 2 ^ 62):a8h (a5p l k) k = some (k + (a1l l:Nat)):=by
 unfold a8h
 rw [b5o l k hf h0 h1]
 rfl
mutual
def b3u:y8 → Nat
 | ⟨_,_,_,ks,is⟩ => a1l ks + a5h is
def a5h:List y8 → Nat
 | [] => 0
 | x :: xs => (3 + b3u x) + a5h xs
end
mutual
def c7o:y8 → Int → y8
 | ⟨a,b,c,ks,is⟩,k => ⟨a,b,c,a5p ks k,a9i is (k + (a1l ks:Nat))⟩
def a9i:List y8 → Int → List y8
 | [],_ => []
 | x :: xs,k => ⟨k,k + 1,tx (k + 1 + 1),(c7o x (k + 1 + 1 + 1)).Keys,(c7o x (k + 1 + 1 + 1)).Items⟩ :: a9i xs (k + 1 + 1 + 1 + (b3u x:Nat))
end
mutual
def b8t:y8 → Prop
 | ⟨_,_,_,ks,is⟩ => a4e ks ∧ is.length < 2 ^ 61 ∧ b3c is
def b3c:List y8 → Prop
 | [] => True
 | x :: xs => b8t x ∧ b3c xs
end
def b7u (l:List y8):Prop:=l.length < 2 ^ 61 ∧ b3c l
theorem b6j (x:y8):b3u x = a1l x.Keys + a5h x.Items:=by cases x; simp only [b3u]
theorem d0j (x:y8) (k:Int):c7o x k = ⟨x.Kind,x.N,x.T,a5p x.Keys k,a9i x.Items (k + (a1l x.Keys:Nat))⟩:=by cases x; simp only [c7o]
theorem c7p {x:y8} (h:b8t x):a4e x.Keys ∧ b7u x.Items:=by
 cases x; simp only [b8t] at h; exact ⟨h.1,h.2.1,h.2.2⟩
theorem d4b:∀ (l:List y8) (k:Int),(a9i l k).length = l.length
 | [],_ => by simp [a9i]
 | x :: l,k => by simp only [a9i,List.length_cons,d4b l]
theorem b7v (rec:List y8 → Int → Option (Int × List y8)) (b:Nat) (hrec:∀ (l:List y8) (k:Int),a5h l < b → b7u l → 1 ≤ k → k + (a5h l:Nat) < 2 ^ 62 → rec l k = some (k + (a5h l:Nat),a9i l k)):∀ (n f:Nat) (l:List y8) (i:Nat) (k:Int),i + n = l.length → n < f → 1 ≤ k → l.length < 2 ^ 61 → b3c (l.drop i) → a5h (l.drop i) < b + 1 → k + (a5h (l.drop i):Nat) < 2 ^ 62 → a3g rec f k i l = some (k + (a5h (l.drop i):Nat),l.take i ++ a9i (l.drop i) k)
 | _,0,_,_,_,_,h,_,_,_,_,_ => by omega
 | 0,f + 1,l,i,k,h,_,_,_,_,_,_ => by
  rw [a3g,if_neg (by simp; omega),List.drop_of_length_le (by omega),List.take_of_length_le (by omega)]
  simp [a5h,a9i]
 | n + 1,f + 1,l,i,k,h,hf,hk,hlen,hfit,hb,hc => by
  have hi:i < l.length:=by omega
  have hd:l.drop i = l[i] :: l.drop (i + 1):=List.drop_eq_getElem_cons hi
  rw [hd] at hc hfit hb ⊢
  simp only [a5h,b6j] at hc hb ⊢
  simp only [b3c] at hfit
  obtain ⟨hx1,hx2⟩:=c7p hfit.1
  have w0:w64 (k + 1) = k + 1:=a3p (by omega)
  have w1:w64 (k + 1 + 1) = k + 1 + 1:=a3p (by omega)
  have t2:=b0u (k:=k + 1 + 1) (by omega) (by omega)
  have w2:w64 (k + 1 + 1 + 1) = k + 1 + 1 + 1:=a3p (by omega)
  have m3:=b5f l[i].Keys (k + 1 + 1 + 1) hx1 (by omega) (by omega)
  have m4:=hrec l[i].Items (k + 1 + 1 + 1 + (a1l l[i].Keys:Nat)) (by omega) hx2 (by omega) (by omega)
  have wi:w64 ((i:Int) + 1) = ((i + 1:Nat):Int):=by rw [a3p (by omega)]; rfl
  have hg:l[i]? = some l[i]:=List.getElem?_eq_getElem hi
  have hix:0 + (i:Int).toNat = i:=by simp
  have hlt:((i:Int) < (l.length:Int)) = True:=eq_true (by omega)
  have hge:(0 ≤ (i:Int)) = True:=eq_true (by omega)
  have hds:∀ y,(l.set i y).drop (i + 1) = l.drop (i + 1):=fun y => List.drop_set_of_lt (by omega)
  have ih:=b7v rec b hrec n f (l.set i ⟨k,k + 1,tx (k + 1 + 1),a5p l[i].Keys (k + 1 + 1 + 1),a9i l[i].Items (k + 1 + 1 + 1 + (a1l l[i].Keys:Nat))⟩) (i + 1) (k + 1 + 1 + 1 + (a1l l[i].Keys:Nat) + (a5h l[i].Items:Nat)) (by rw [List.length_set]; omega) (by omega) (by omega) (by rw [List.length_set]; omega) (by rw [hds]; exact hfit.2) (by rw [hds]; omega) (by rw [hds]; omega)
  rw [hds] at ih
  rw [a3g]
  simp only [hlt,hge,hix,hg,decide_true,and_self,if_true,Option.bind_some,List.set_set,wi,w0,w1,t2,w2,m3,m4]
  rw [ih,b5i _ _ _ _ hi]
  simp only [a9i,d0j,b6j]
  refine congrArg some (Prod.ext ?_ ?_)
  ·simp only
   omega
  ·simp only
   refine congrArg (fun z => _ ++ _ :: a9i _ z) ?_
   omega
theorem b9i:∀ (f:Nat) (l:List y8) (k:Int),a5h l < f → b7u l → 1 ≤ k → k + (a5h l:Nat) < 2 ^ 62 → a5n f l k = some (k + (a5h l:Nat),a9i l k)
 | 0,_,_,h,_,_,_ => by omega
 | f + 1,l,k,h,hf,h0,h1 => by
  have hl:l.length < 2 ^ 61:=hf.1
  rw [a5n]
  unfold b0d
  rw [show (0:Int) = ((0:Nat):Int) from rfl,b7v (a5n f) f (fun l k => b9i f l k) l.length FUEL l 0 k (by omega) (fuel_lt (by omega)) h0 hl (by simpa using hf.2) (by simpa using h) (by simpa using h1)]
  simp
theorem d4c (l:List y8) (k:Int) (hf:b7u l) (h0:1 ≤ k) (h1:k + (a5h l:Nat) < 2 ^ 62):a5n FUEL l k = some (k + (a5h l:Nat),a9i l k):=b9i FUEL l k (fuel_lt (by omega)) hf h0 h1
theorem d6a (x:y8) (k:Int) (hf:b8t x) (h0:1 ≤ k) (h1:k + (b3u x:Nat) < 2 ^ 62):b0l x k = some (k + (b3u x:Nat),c7o x k):=by
 rw [b6j] at h1
 obtain ⟨hx1,hx2⟩:=c7p hf
 unfold b0l
 rw [b5f x.Keys k hx1 h0 (by omega),Option.bind_some]
 simp only
 rw [d4c x.Items _ hx2 (by omega) (by omega),Option.bind_some,d0j,b6j]
 refine congrArg some (Prod.ext ?_ rfl)
 simp only
 omega
def a7f (x:a0k):Nat:=a1l x.Columns + a4o x.Where
def b5p (x:a0k) (k:Int):a0k:=⟨x.Name,x.Table,(a5p x.Columns (k)),x.Initial,x.Insert,x.Delete,x.Modify,(a9h x.Where (k + (a1l x.Columns:Nat)))⟩
def b2e (x:a0k):Prop:=a4e x.Columns ∧ a8w x.Where
theorem c9a (x:a0k) (k:Int) (hf:b2e x) (h0:1 ≤ k) (h1:k + (a7f x:Nat) < 2 ^ 62):a8g x k = some (k + (a7f x:Nat),b5p x k):=by
 unfold a7f at h1 ⊢
 unfold b2e at hf
 have m0:=b5f x.Columns (k) hf.1 (by omega) (by omega)
 have m1:=d3y x.Where (k + (a1l x.Columns:Nat)) hf.2 (by omega) (by omega)
 unfold a8g
 simp only [m0,m1,Option.bind_some]
 refine congrArg some (Prod.ext ?_ rfl)
 (try simp only) <;> omega
theorem c9c (x:a0k) (k:Int) (hf:b2e x) (h0:1 ≤ k) (h1:k + (a7f x:Nat) < 2 ^ 62):a5z (b5p x k) k = some (k + (a7f x:Nat)):=by
 unfold a7f at h1 ⊢
 unfold b2e at hf
 have m0:=c8y x.Columns (k) hf.1 (by omega) (by omega)
 have n0:(k + (a1l x.Columns:Nat) < 0) = False:=eq_false (by omega)
 have m1:=d4a x.Where (k + (a1l x.Columns:Nat)) hf.2 (by omega) (by omega)
 have n1:(k + (a1l x.Columns:Nat) + (a4o x.Where:Nat) < 0) = False:=eq_false (by omega)
 unfold a5z b5p
 simp only [m0,n0,m1,n1,Option.bind_some,decide_false,Bool.false_eq_true,if_false]
 all_goals (refine congrArg some ?_; omega)
end Go.R
