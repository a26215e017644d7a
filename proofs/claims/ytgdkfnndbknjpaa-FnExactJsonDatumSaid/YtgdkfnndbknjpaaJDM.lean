/- Marks: what the laws' own marking functions leave, and that it is read back. -/
import Derived.Test.YtgdkfnndbknjpaaJD3
import Derived.Test.YtgdkfnndbknjpaaP0
set_option linter.all false
namespace Go.R
open Go
set_option linter.all false
set_option maxHeartbeats 1000000
theorem fuel_lt {n:Nat} (h:n < 2 ^ 90):n < FUEL:=by unfold FUEL; omega
theorem b3k:∀ (m f:Nat) (k:Int) (out:Str),0 ≤ k → k < 2 ^ m → m < f → out.length + m + 1 ≤ maxLen → k < 2 ^ 62 → ∃ t,a2h f k out = some t ∧ t.length ≤ out.length + m
  | _,0,_,_,_,_,h,_,_ => by omega
  | 0,f + 1,k,out,h0,h1,_,_,_ => by
    have:k = 0:=by simp at h1; omega
    subst this
    rw [a2h,if_neg (by simp)]
    exact ⟨out,rfl,by omega⟩
  | m + 1,f + 1,k,out,h0,h1,h2,h3,h4 => by
    rw [a2h]
    by_cases hk:k > 0
    · rw [if_pos (by simpa using hk)]
      have hb:∀ n,(c4p [n]).length = 1:=fun _ => rfl
      rw [if_pos (by rw [hb]; omega)]
      have hd:k.tdiv 10 = k / 10:=Int.tdiv_eq_ediv_of_nonneg h0
      have hw:w64 (k.tdiv 10) = k / 10:=by rw [hd]; exact a3h (by omega)
      rw [hw]
      have hp:(2:Int) ^ (m + 1) = 2 * 2 ^ m:=by rw [Int.pow_succ]; omega
      obtain ⟨t,e,hl⟩:=b3k m f (k / 10) (c4p [IntKind.u8.wrap (w64 (48 + (k.tmod 10)))] ++ out) (by omega) (by omega) (by omega) (by rw [List.length_append,hb]; omega) (by omega)
      refine ⟨t,e,?_⟩
      rw [List.length_append,hb] at hl
      omega
    · rw [if_neg (by simpa using hk)]
      exact ⟨out,rfl,by omega⟩
def tx (k:Int):Str:=(a3c k).getD []
theorem b0y {k:Int} (h0:1 ≤ k) (h1:k < 2 ^ 62):a3c k = some (tx k):=by
  have:∃ t,a3c k = some t:=by
    unfold a3c
    rw [if_neg (by simp; omega)]
    obtain ⟨t,e,hl⟩:=b3k 62 FUEL k [] (by omega) h1 (fuel_lt (by omega)) (by simp [maxLen]) h1
    rw [e,Option.bind_some,if_pos (by simp only [List.length_cons,List.length_nil] at hl ⊢; simp only [maxLen]; omega)]
    exact ⟨_,rfl⟩
  obtain ⟨t,e⟩:=this
  unfold tx
  rw [e]
  rfl
def a3k:List y5 → Nat
  | [] => 0
  | x :: xs => (1 + 1 + 1) + a3k xs
def a7f:List y5 → Int → List y5
  | [],_ => []
  | x :: xs,k => ⟨(k),(k + 1),(tx (k + 1 + 1))⟩ :: a7f xs (k + 1 + 1 + 1)
def a4o (l:List y5):Prop:=l.length < 2 ^ 61
theorem b1v:∀ (n f:Nat) (l:List y5) (i:Nat) (k:Int),i + n = l.length → n < f → 1 ≤ k → a4o l → k + (a3k (l.drop i):Nat) < 2 ^ 62 → a1w f k i l = some (k + (a3k (l.drop i):Nat),l.take i ++ a7f (l.drop i) k)
  | _,0,_,_,_,_,h,_,_,_ => by omega
  | 0,f + 1,l,i,k,h,_,_,_,_ => by
    rw [a1w,if_neg (by simp; omega),List.drop_of_length_le (by omega),List.take_of_length_le (by omega)]
    simp [a3k,a7f]
  | n + 1,f + 1,l,i,k,h,hf,hk,hfit,hc => by
    have hi:i < l.length:=by omega
    have hd:l.drop i = l[i] :: l.drop (i + 1):=List.drop_eq_getElem_cons hi
    rw [hd] at hc ⊢
    simp only [a3k] at hc ⊢
    have hlen:l.length < 2 ^ 61:=hfit
    have w0:w64 (k + 1) = k + 1:=a3h (by omega)
    have w1:w64 (k + 1 + 1) = k + 1 + 1:=a3h (by omega)
    have t2:=b0y (k:=k + 1 + 1) (by omega) (by omega)
    have w2:w64 (k + 1 + 1 + 1) = k + 1 + 1 + 1:=a3h (by omega)
    have wi:w64 ((i:Int) + 1) = ((i + 1:Nat):Int):=by rw [a3h (by omega)]; rfl
    have hg:l[i]? = some l[i]:=List.getElem?_eq_getElem hi
    have hix:0 + (i:Int).toNat = i:=by simp
    have hlt:((i:Int) < (l.length:Int)) = True:=eq_true (by omega)
    have hge:(0 ≤ (i:Int)) = True:=eq_true (by omega)
    have hds:∀ y,(l.set i y).drop (i + 1) = l.drop (i + 1):=fun y => List.drop_set_of_lt (by omega)
    have hfit2:a4o (l.set i (⟨(k),(k + 1),(tx (k + 1 + 1))⟩)):=by
      unfold a4o at hfit ⊢
      rw [List.length_set]; exact hfit
    have ih:=b1v n f (l.set i (⟨(k),(k + 1),(tx (k + 1 + 1))⟩)) (i + 1) (k + 1 + 1 + 1) (by rw [List.length_set]; omega) (by omega) (by omega) hfit2 (by rw [hds]; omega)
    rw [hds] at ih
    rw [a1w]
    simp only [hlt,hge,hix,hg,decide_true,and_self,if_true,Option.bind_some,List.set_set,wi,w0,w1,t2,w2]
    rw [ih,b1t _ _ _ _ hi,a7f]
    refine congrArg some (Prod.ext ?_ rfl)
    simp only
    omega
theorem c4r (l:List y5) (k:Int) (hf:a4o l) (h0:1 ≤ k) (h1:k + (a3k l:Nat) < 2 ^ 62):a6n l k = some (k + (a3k l:Nat),a7f l k):=by
  unfold a6n
  have hl:l.length < 2 ^ 61:=hf
  rw [show (0:Int) = ((0:Nat):Int) from rfl,b1v l.length FUEL l 0 k (by omega) (fuel_lt (by omega)) h0 hf (by simpa using h1)]
  simp
theorem b6u:∀ (l:List y5) (k:Int),(a7f l k).length = l.length
  | [],_ => rfl
  | x :: l,k => by simp only [a7f,List.length_cons,b6u l]
theorem fit_mkAtomS (l:List y5) (k:Int) (h:a4o l):a4o (a7f l k):=by
  unfold a4o at h ⊢
  rw [b6u]; exact h
theorem b1w:∀ (l:List y5) (k:Int),a4o l → 1 ≤ k → k + (a3k l:Nat) < 2 ^ 62 → a1x (a7f l k) k = some (.go (k + (a3k l:Nat)))
  | [],k,_,_,_ => by simp [a7f,a1x,a3k]
  | x :: l,k,hfit,h0,hc => by
    simp only [a3k] at hc ⊢
    have hfit2:a4o l:=by unfold a4o at hfit ⊢; simp at hfit; omega
    have w0:w64 (k + 1) = k + 1:=a3h (by omega)
    have w1:w64 (k + 1 + 1) = k + 1 + 1:=a3h (by omega)
    have t2:=b0y (k:=k + 1 + 1) (by omega) (by omega)
    have w2:w64 (k + 1 + 1 + 1) = k + 1 + 1 + 1:=a3h (by omega)
    have ih:=b1w l (k + 1 + 1 + 1) hfit2 (by omega) (by omega)
    rw [a7f,a1x]
    simp only [w0,w1,t2,w2,Option.bind_some,beq_self_eq_true,bne_self_eq_false,Bool.not_true,Bool.false_eq_true,if_false,decide_false]
    rw [ih]
    refine congrArg (fun z => some (Fl.go z)) ?_
    omega
theorem c4s (l:List y5) (k:Int) (hf:a4o l) (h0:1 ≤ k) (h1:k + (a3k l:Nat) < 2 ^ 62):a5h (a7f l k) k = some (k + (a3k l:Nat)):=by
  unfold a5h
  rw [b1w l k hf h0 h1]
  rfl

def a2b:List Str → Nat
  | [] => 0
  | x :: xs => (1) + a2b xs
def a5i:List Str → Int → List Str
  | [],_ => []
  | x :: xs,k => (tx (k)) :: a5i xs (k + 1)
def a4p (l:List Str):Prop:=l.length < 2 ^ 61
theorem b0p:∀ (n f:Nat) (l:List Str) (i:Nat) (k:Int),i + n = l.length → n < f → 1 ≤ k → a4p l → k + (a2b (l.drop i):Nat) < 2 ^ 62 → a1k f k i l = some (k + (a2b (l.drop i):Nat),l.take i ++ a5i (l.drop i) k)
  | _,0,_,_,_,_,h,_,_,_ => by omega
  | 0,f + 1,l,i,k,h,_,_,_,_ => by
    rw [a1k,if_neg (by simp; omega),List.drop_of_length_le (by omega),List.take_of_length_le (by omega)]
    simp [a2b,a5i]
  | n + 1,f + 1,l,i,k,h,hf,hk,hfit,hc => by
    have hi:i < l.length:=by omega
    have hd:l.drop i = l[i] :: l.drop (i + 1):=List.drop_eq_getElem_cons hi
    rw [hd] at hc ⊢
    simp only [a2b] at hc ⊢
    have hlen:l.length < 2 ^ 61:=hfit
    have t0:=b0y (k:=k) (by omega) (by omega)
    have w0:w64 (k + 1) = k + 1:=a3h (by omega)
    have wi:w64 ((i:Int) + 1) = ((i + 1:Nat):Int):=by rw [a3h (by omega)]; rfl
    have hg:l[i]? = some l[i]:=List.getElem?_eq_getElem hi
    have hix:0 + (i:Int).toNat = i:=by simp
    have hlt:((i:Int) < (l.length:Int)) = True:=eq_true (by omega)
    have hge:(0 ≤ (i:Int)) = True:=eq_true (by omega)
    have hds:∀ y,(l.set i y).drop (i + 1) = l.drop (i + 1):=fun y => List.drop_set_of_lt (by omega)
    have hfit2:a4p (l.set i ((tx (k)))):=by
      unfold a4p at hfit ⊢
      rw [List.length_set]; exact hfit
    have ih:=b0p n f (l.set i ((tx (k)))) (i + 1) (k + 1) (by rw [List.length_set]; omega) (by omega) (by omega) hfit2 (by rw [hds]; omega)
    rw [hds] at ih
    rw [a1k]
    simp only [hlt,hge,hix,hg,decide_true,and_self,if_true,Option.bind_some,List.set_set,wi,t0,w0]
    rw [ih,b1t _ _ _ _ hi,a5i]
    refine congrArg some (Prod.ext ?_ rfl)
    simp only
    omega
theorem b3l (l:List Str) (k:Int) (hf:a4p l) (h0:1 ≤ k) (h1:k + (a2b l:Nat) < 2 ^ 62):a4l l k = some (k + (a2b l:Nat),a5i l k):=by
  unfold a4l
  have hl:l.length < 2 ^ 61:=hf
  rw [show (0:Int) = ((0:Nat):Int) from rfl,b0p l.length FUEL l 0 k (by omega) (fuel_lt (by omega)) h0 hf (by simpa using h1)]
  simp
theorem b3m:∀ (l:List Str) (k:Int),(a5i l k).length = l.length
  | [],_ => rfl
  | x :: l,k => by simp only [a5i,List.length_cons,b3m l]
theorem fit_mkStringS (l:List Str) (k:Int) (h:a4p l):a4p (a5i l k):=by
  unfold a4p at h ⊢
  rw [b3m]; exact h

/- JSON values: marks. -/
mutual
def a9f:o8 → Nat
  | ⟨_,_,_,ks,is⟩ => a2b ks + a3b is
def a3b:List o8 → Nat
  | [] => 0
  | x :: xs => (3 + a9f x) + a3b xs
end
mutual
def b8x:o8 → Int → o8
  | ⟨a,b,c,ks,is⟩,k => ⟨a,b,c,a5i ks k,a5z is (k + (a2b ks:Nat))⟩
def a5z:List o8 → Int → List o8
  | [],_ => []
  | x :: xs,k => ⟨k,k + 1,tx (k + 1 + 1),(b8x x (k + 1 + 1 + 1)).Keys,(b8x x (k + 1 + 1 + 1)).Items⟩ :: a5z xs (k + 1 + 1 + 1 + (a9f x:Nat))
end
mutual
def b2v:o8 → Prop
  | ⟨_,_,_,ks,is⟩ => a4p ks ∧ is.length < 2 ^ 61 ∧ a8r is
def a8r:List o8 → Prop
  | [] => True
  | x :: xs => b2v x ∧ a8r xs
end
def b1x (l:List o8):Prop:=l.length < 2 ^ 61 ∧ a8r l
theorem b0z (x:o8):a9f x = a2b x.Keys + a3b x.Items:=by cases x; simp only [a9f]
theorem c1n (x:o8) (k:Int):b8x x k = ⟨x.Kind,x.N,x.T,a5i x.Keys k,a5z x.Items (k + (a2b x.Keys:Nat))⟩:=by cases x; simp only [b8x]
theorem b8y {x:o8} (h:b2v x):a4p x.Keys ∧ b1x x.Items:=by
  cases x; simp only [b2v] at h; exact ⟨h.1,h.2.1,h.2.2⟩
theorem c4t:∀ (l:List o8) (k:Int),(a5z l k).length = l.length
  | [],_ => by simp [a5z]
  | x :: l,k => by simp only [a5z,List.length_cons,c4t l]
theorem b1y (rec:List o8 → Int → Option (Int × List o8)) (b:Nat) (hrec:∀ (l:List o8) (k:Int),a3b l < b → b1x l → 1 ≤ k → k + (a3b l:Nat) < 2 ^ 62 → rec l k = some (k + (a3b l:Nat),a5z l k)):∀ (n f:Nat) (l:List o8) (i:Nat) (k:Int),i + n = l.length → n < f → 1 ≤ k → l.length < 2 ^ 61 → a8r (l.drop i) → a3b (l.drop i) < b + 1 → k + (a3b (l.drop i):Nat) < 2 ^ 62 → a1l rec f k i l = some (k + (a3b (l.drop i):Nat),l.take i ++ a5z (l.drop i) k)
  | _,0,_,_,_,_,h,_,_,_,_,_ => by omega
  | 0,f + 1,l,i,k,h,_,_,_,_,_,_ => by
    rw [a1l,if_neg (by simp; omega),List.drop_of_length_le (by omega),List.take_of_length_le (by omega)]
    simp [a3b,a5z]
  | n + 1,f + 1,l,i,k,h,hf,hk,hlen,hfit,hb,hc => by
    have hi:i < l.length:=by omega
    have hd:l.drop i = l[i] :: l.drop (i + 1):=List.drop_eq_getElem_cons hi
    rw [hd] at hc hfit hb ⊢
    simp only [a3b,b0z] at hc hb ⊢
    simp only [a8r] at hfit
    obtain ⟨hx1,hx2⟩:=b8y hfit.1
    have w0:w64 (k + 1) = k + 1:=a3h (by omega)
    have w1:w64 (k + 1 + 1) = k + 1 + 1:=a3h (by omega)
    have t2:=b0y (k:=k + 1 + 1) (by omega) (by omega)
    have w2:w64 (k + 1 + 1 + 1) = k + 1 + 1 + 1:=a3h (by omega)
    have m3:=b3l l[i].Keys (k + 1 + 1 + 1) hx1 (by omega) (by omega)
    have m4:=hrec l[i].Items (k + 1 + 1 + 1 + (a2b l[i].Keys:Nat)) (by omega) hx2 (by omega) (by omega)
    have wi:w64 ((i:Int) + 1) = ((i + 1:Nat):Int):=by rw [a3h (by omega)]; rfl
    have hg:l[i]? = some l[i]:=List.getElem?_eq_getElem hi
    have hix:0 + (i:Int).toNat = i:=by simp
    have hlt:((i:Int) < (l.length:Int)) = True:=eq_true (by omega)
    have hge:(0 ≤ (i:Int)) = True:=eq_true (by omega)
    have hds:∀ y,(l.set i y).drop (i + 1) = l.drop (i + 1):=fun y => List.drop_set_of_lt (by omega)
    have ih:=b1y rec b hrec n f (l.set i ⟨k,k + 1,tx (k + 1 + 1),a5i l[i].Keys (k + 1 + 1 + 1),a5z l[i].Items (k + 1 + 1 + 1 + (a2b l[i].Keys:Nat))⟩) (i + 1) (k + 1 + 1 + 1 + (a2b l[i].Keys:Nat) + (a3b l[i].Items:Nat)) (by rw [List.length_set]; omega) (by omega) (by omega) (by rw [List.length_set]; omega) (by rw [hds]; exact hfit.2) (by rw [hds]; omega) (by rw [hds]; omega)
    rw [hds] at ih
    rw [a1l]
    simp only [hlt,hge,hix,hg,decide_true,and_self,if_true,Option.bind_some,List.set_set,wi,w0,w1,t2,w2,m3,m4]
    rw [ih,b1t _ _ _ _ hi]
    simp only [a5z,c1n,b0z]
    refine congrArg some (Prod.ext ?_ ?_)
    · simp only
      omega
    · simp only
      refine congrArg (fun z => _ ++ _ :: a5z _ z) ?_
      omega
theorem b3n:∀ (f:Nat) (l:List o8) (k:Int),a3b l < f → b1x l → 1 ≤ k → k + (a3b l:Nat) < 2 ^ 62 → a3j f l k = some (k + (a3b l:Nat),a5z l k)
  | 0,_,_,h,_,_,_ => by omega
  | f + 1,l,k,h,hf,h0,h1 => by
    have hl:l.length < 2 ^ 61:=hf.1
    rw [a3j]
    unfold a6u
    rw [show (0:Int) = ((0:Nat):Int) from rfl,b1y (a3j f) f (fun l k => b3n f l k) l.length FUEL l 0 k (by omega) (fuel_lt (by omega)) h0 hl (by simpa using hf.2) (by simpa using h) (by simpa using h1)]
    simp
theorem c4u (l:List o8) (k:Int) (hf:b1x l) (h0:1 ≤ k) (h1:k + (a3b l:Nat) < 2 ^ 62):a3j FUEL l k = some (k + (a3b l:Nat),a5z l k):=b3n FUEL l k (fuel_lt (by omega)) hf h0 h1

theorem c6p (x:o8) (k:Int) (hf:b2v x) (h0:1 ≤ k) (h1:k + (a9f x:Nat) < 2 ^ 62):a7c x k = some (k + (a9f x:Nat),b8x x k):=by
  rw [b0z] at h1
  obtain ⟨hx1,hx2⟩:=b8y hf
  unfold a7c
  rw [b3l x.Keys k hx1 h0 (by omega),Option.bind_some]
  simp only
  rw [c4u x.Items _ hx2 (by omega) (by omega),Option.bind_some,c1n,b0z]
  refine congrArg some (Prod.ext ?_ rfl)
  simp only
  omega
end Go.R
