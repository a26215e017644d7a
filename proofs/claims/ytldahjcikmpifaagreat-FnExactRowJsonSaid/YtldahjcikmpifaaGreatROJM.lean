/- Marks: what the laws' own marking functions leave, and that it is read back. -/
import Derived.Test.YtldahjcikmpifaaGreatROJ4
import Derived.Test.YtldahjcikmpifaaGreatP0
set_option linter.all false
namespace Go.R
open Go
set_option linter.all false
set_option maxHeartbeats 1000000
theorem fuel_lt {n:Nat} (h:n < 2 ^ 90):n < FUEL:=by unfold FUEL; omega
theorem b7g:∀ (m f:Nat) (k:Int) (out:Str),0 ≤ k → k < 2 ^ m → m < f → out.length + m + 1 ≤ maxLen → k < 2 ^ 62 → ∃ t,a3q f k out = some t ∧ t.length ≤ out.length + m
  | _,0,_,_,_,_,h,_,_ => by omega
  | 0,f + 1,k,out,h0,h1,_,_,_ => by
    have:k = 0:=by simp at h1; omega
    subst this
    rw [a3q,if_neg (by simp)]
    exact ⟨out,rfl,by omega⟩
  | m + 1,f + 1,k,out,h0,h1,h2,h3,h4 => by
    rw [a3q]
    by_cases hk:k > 0
    · rw [if_pos (by simpa using hk)]
      have hb:∀ n,(d1d [n]).length = 1:=fun _ => rfl
      rw [if_pos (by rw [hb]; omega)]
      have hd:k.tdiv 10 = k / 10:=Int.tdiv_eq_ediv_of_nonneg h0
      have hw:w64 (k.tdiv 10) = k / 10:=by rw [hd]; exact a4o (by omega)
      rw [hw]
      have hp:(2:Int) ^ (m + 1) = 2 * 2 ^ m:=by rw [Int.pow_succ]; omega
      obtain ⟨t,e,hl⟩:=b7g m f (k / 10) (d1d [IntKind.u8.wrap (w64 (48 + (k.tmod 10)))] ++ out) (by omega) (by omega) (by omega) (by rw [List.length_append,hb]; omega) (by omega)
      refine ⟨t,e,?_⟩
      rw [List.length_append,hb] at hl
      omega
    · rw [if_neg (by simpa using hk)]
      exact ⟨out,rfl,by omega⟩
def tx (k:Int):Str:=(a3x k).getD []
theorem b3d {k:Int} (h0:1 ≤ k) (h1:k < 2 ^ 62):a3x k = some (tx k):=by
  have:∃ t,a3x k = some t:=by
    unfold a3x
    rw [if_neg (by simp; omega)]
    obtain ⟨t,e,hl⟩:=b7g 62 FUEL k [] (by omega) h1 (fuel_lt (by omega)) (by simp [maxLen]) h1
    rw [e,Option.bind_some,if_pos (by simp only [List.length_cons,List.length_nil] at hl ⊢; simp only [maxLen]; omega)]
    exact ⟨_,rfl⟩
  obtain ⟨t,e⟩:=this
  unfold tx
  rw [e]
  rfl
def a6i:List a0a → Nat
  | [] => 0
  | x :: xs => (1 + 1 + 1) + a6i xs
def b0r:List a0a → Int → List a0a
  | [],_ => []
  | x :: xs,k => ⟨(k),(k + 1),(tx (k + 1 + 1))⟩ :: b0r xs (k + 1 + 1 + 1)
def a9a (l:List a0a):Prop:=l.length < 2 ^ 61
theorem b6f:∀ (n f:Nat) (l:List a0a) (i:Nat) (k:Int),i + n = l.length → n < f → 1 ≤ k → a9a l → k + (a6i (l.drop i):Nat) < 2 ^ 62 → a3d f k i l = some (k + (a6i (l.drop i):Nat),l.take i ++ b0r (l.drop i) k)
  | _,0,_,_,_,_,h,_,_,_ => by omega
  | 0,f + 1,l,i,k,h,_,_,_,_ => by
    rw [a3d,if_neg (by simp; omega),List.drop_of_length_le (by omega),List.take_of_length_le (by omega)]
    simp [a6i,b0r]
  | n + 1,f + 1,l,i,k,h,hf,hk,hfit,hc => by
    have hi:i < l.length:=by omega
    have hd:l.drop i = l[i] :: l.drop (i + 1):=List.drop_eq_getElem_cons hi
    rw [hd] at hc ⊢
    simp only [a6i] at hc ⊢
    have hlen:l.length < 2 ^ 61:=hfit
    have w0:w64 (k + 1) = k + 1:=a4o (by omega)
    have w1:w64 (k + 1 + 1) = k + 1 + 1:=a4o (by omega)
    have t2:=b3d (k:=k + 1 + 1) (by omega) (by omega)
    have w2:w64 (k + 1 + 1 + 1) = k + 1 + 1 + 1:=a4o (by omega)
    have wi:w64 ((i:Int) + 1) = ((i + 1:Nat):Int):=by rw [a4o (by omega)]; rfl
    have hg:l[i]? = some l[i]:=List.getElem?_eq_getElem hi
    have hix:0 + (i:Int).toNat = i:=by simp
    have hlt:((i:Int) < (l.length:Int)) = True:=eq_true (by omega)
    have hge:(0 ≤ (i:Int)) = True:=eq_true (by omega)
    have hds:∀ y,(l.set i y).drop (i + 1) = l.drop (i + 1):=fun y => List.drop_set_of_lt (by omega)
    have hfit2:a9a (l.set i (⟨(k),(k + 1),(tx (k + 1 + 1))⟩)):=by
      unfold a9a at hfit ⊢
      rw [List.length_set]; exact hfit
    have ih:=b6f n f (l.set i (⟨(k),(k + 1),(tx (k + 1 + 1))⟩)) (i + 1) (k + 1 + 1 + 1) (by rw [List.length_set]; omega) (by omega) (by omega) hfit2 (by rw [hds]; omega)
    rw [hds] at ih
    rw [a3d]
    simp only [hlt,hge,hix,hg,decide_true,and_self,if_true,Option.bind_some,List.set_set,wi,w0,w1,t2,w2]
    rw [ih,b2y _ _ _ _ hi,b0r]
    refine congrArg some (Prod.ext ?_ rfl)
    simp only
    omega
theorem d1h (l:List a0a) (k:Int) (hf:a9a l) (h0:1 ≤ k) (h1:k + (a6i l:Nat) < 2 ^ 62):a8b l k = some (k + (a6i l:Nat),b0r l k):=by
  unfold a8b
  have hl:l.length < 2 ^ 61:=hf
  rw [show (0:Int) = ((0:Nat):Int) from rfl,b6f l.length FUEL l 0 k (by omega) (fuel_lt (by omega)) h0 hf (by simpa using h1)]
  simp
theorem c1r:∀ (l:List a0a) (k:Int),(b0r l k).length = l.length
  | [],_ => rfl
  | x :: l,k => by simp only [b0r,List.length_cons,c1r l]
theorem c1s (l:List a0a) (k:Int) (h:a9a l):a9a (b0r l k):=by
  unfold a9a at h ⊢
  rw [c1r]; exact h

def a6v:List (List a0a) → Nat
  | [] => 0
  | x :: xs => (a6i x) + a6v xs
def a9b:List (List a0a) → Int → List (List a0a)
  | [],_ => []
  | x :: xs,k => (b0r x (k)) :: a9b xs (k + (a6i x:Nat))
def a8n (l:List (List a0a)):Prop:=l.length < 2 ^ 61 ∧ ∀ x ∈ l,a9a x
theorem b5m:∀ (n f:Nat) (l:List (List a0a)) (i:Nat) (k:Int),i + n = l.length → n < f → 1 ≤ k → a8n l → k + (a6v (l.drop i):Nat) < 2 ^ 62 → a2u f k i l = some (k + (a6v (l.drop i):Nat),l.take i ++ a9b (l.drop i) k)
  | _,0,_,_,_,_,h,_,_,_ => by omega
  | 0,f + 1,l,i,k,h,_,_,_,_ => by
    rw [a2u,if_neg (by simp; omega),List.drop_of_length_le (by omega),List.take_of_length_le (by omega)]
    simp [a6v,a9b]
  | n + 1,f + 1,l,i,k,h,hf,hk,hfit,hc => by
    have hi:i < l.length:=by omega
    have hd:l.drop i = l[i] :: l.drop (i + 1):=List.drop_eq_getElem_cons hi
    rw [hd] at hc ⊢
    simp only [a6v] at hc ⊢
    have hlen:l.length < 2 ^ 61:=hfit.1
    have hx:=hfit.2 l[i] (List.getElem_mem _)
    have m0:=d1h l[i] (k) (hx) (by omega) (by omega)
    have wi:w64 ((i:Int) + 1) = ((i + 1:Nat):Int):=by rw [a4o (by omega)]; rfl
    have hg:l[i]? = some l[i]:=List.getElem?_eq_getElem hi
    have hix:0 + (i:Int).toNat = i:=by simp
    have hlt:((i:Int) < (l.length:Int)) = True:=eq_true (by omega)
    have hge:(0 ≤ (i:Int)) = True:=eq_true (by omega)
    have hds:∀ y,(l.set i y).drop (i + 1) = l.drop (i + 1):=fun y => List.drop_set_of_lt (by omega)
    have hfit2:a8n (l.set i ((b0r l[i] (k)))):=by
      unfold a8n at hfit ⊢
      exact ⟨by rw [List.length_set]; exact hfit.1,fun z hz => by
        rcases List.mem_or_eq_of_mem_set hz with hz | rfl
        · exact hfit.2 z hz
        · exact c1s _ _ hx⟩
    have ih:=b5m n f (l.set i ((b0r l[i] (k)))) (i + 1) (k + (a6i l[i]:Nat)) (by rw [List.length_set]; omega) (by omega) (by omega) hfit2 (by rw [hds]; omega)
    rw [hds] at ih
    rw [a2u]
    simp only [hlt,hge,hix,hg,decide_true,and_self,if_true,Option.bind_some,List.set_set,wi,m0]
    rw [ih,b2y _ _ _ _ hi,a9b]
    refine congrArg some (Prod.ext ?_ rfl)
    simp only
    omega
theorem c9i (l:List (List a0a)) (k:Int) (hf:a8n l) (h0:1 ≤ k) (h1:k + (a6v l:Nat) < 2 ^ 62):a7e l k = some (k + (a6v l:Nat),a9b l k):=by
  unfold a7e
  have hl:l.length < 2 ^ 61:=hf.1
  rw [show (0:Int) = ((0:Nat):Int) from rfl,b5m l.length FUEL l 0 k (by omega) (fuel_lt (by omega)) h0 hf (by simpa using h1)]
  simp
theorem b9q:∀ (l:List (List a0a)) (k:Int),(a9b l k).length = l.length
  | [],_ => rfl
  | x :: l,k => by simp only [a9b,List.length_cons,b9q l]
theorem c9j:∀ (l:List (List a0a)) (k:Int),a8n l → a8n (a9b l k)
  | [],_,h => h
  | x :: l,k,h => by
    have h2:a8n l:=⟨by have:=h.1; simp at this; omega,fun y hy => h.2 y (by simp [hy])⟩
    have ih:=c9j l (k + (a6i x:Nat)) h2
    have hx:=h.2 x (by simp)
    refine ⟨by rw [b9q]; exact h.1,fun z hz => ?_⟩
    rw [a9b] at hz
    rcases List.mem_cons.1 hz with rfl | hz
    · exact c1s _ _ hx
    · exact ih.2 z hz

def a1b:List Str → Nat
  | [] => 0
  | x :: xs => (1) + a1b xs
def a5h:List Str → Int → List Str
  | [],_ => []
  | x :: xs,k => (tx (k)) :: a5h xs (k + 1)
def a4l (l:List Str):Prop:=l.length < 2 ^ 61
theorem b4g:∀ (n f:Nat) (l:List Str) (i:Nat) (k:Int),i + n = l.length → n < f → 1 ≤ k → a4l l → k + (a1b (l.drop i):Nat) < 2 ^ 62 → a2l f k i l = some (k + (a1b (l.drop i):Nat),l.take i ++ a5h (l.drop i) k)
  | _,0,_,_,_,_,h,_,_,_ => by omega
  | 0,f + 1,l,i,k,h,_,_,_,_ => by
    rw [a2l,if_neg (by simp; omega),List.drop_of_length_le (by omega),List.take_of_length_le (by omega)]
    simp [a1b,a5h]
  | n + 1,f + 1,l,i,k,h,hf,hk,hfit,hc => by
    have hi:i < l.length:=by omega
    have hd:l.drop i = l[i] :: l.drop (i + 1):=List.drop_eq_getElem_cons hi
    rw [hd] at hc ⊢
    simp only [a1b] at hc ⊢
    have hlen:l.length < 2 ^ 61:=hfit
    have t0:=b3d (k:=k) (by omega) (by omega)
    have w0:w64 (k + 1) = k + 1:=a4o (by omega)
    have wi:w64 ((i:Int) + 1) = ((i + 1:Nat):Int):=by rw [a4o (by omega)]; rfl
    have hg:l[i]? = some l[i]:=List.getElem?_eq_getElem hi
    have hix:0 + (i:Int).toNat = i:=by simp
    have hlt:((i:Int) < (l.length:Int)) = True:=eq_true (by omega)
    have hge:(0 ≤ (i:Int)) = True:=eq_true (by omega)
    have hds:∀ y,(l.set i y).drop (i + 1) = l.drop (i + 1):=fun y => List.drop_set_of_lt (by omega)
    have hfit2:a4l (l.set i ((tx (k)))):=by
      unfold a4l at hfit ⊢
      rw [List.length_set]; exact hfit
    have ih:=b4g n f (l.set i ((tx (k)))) (i + 1) (k + 1) (by rw [List.length_set]; omega) (by omega) (by omega) hfit2 (by rw [hds]; omega)
    rw [hds] at ih
    rw [a2l]
    simp only [hlt,hge,hix,hg,decide_true,and_self,if_true,Option.bind_some,List.set_set,wi,t0,w0]
    rw [ih,b2y _ _ _ _ hi,a5h]
    refine congrArg some (Prod.ext ?_ rfl)
    simp only
    omega
theorem b3s (l:List Str) (k:Int) (hf:a4l l) (h0:1 ≤ k) (h1:k + (a1b l:Nat) < 2 ^ 62):a5g l k = some (k + (a1b l:Nat),a5h l k):=by
  unfold a5g
  have hl:l.length < 2 ^ 61:=hf
  rw [show (0:Int) = ((0:Nat):Int) from rfl,b4g l.length FUEL l 0 k (by omega) (fuel_lt (by omega)) h0 hf (by simpa using h1)]
  simp
theorem b7h:∀ (l:List Str) (k:Int),(a5h l k).length = l.length
  | [],_ => rfl
  | x :: l,k => by simp only [a5h,List.length_cons,b7h l]
theorem fit_mkStringS (l:List Str) (k:Int) (h:a4l l):a4l (a5h l k):=by
  unfold a4l at h ⊢
  rw [b7h]; exact h
theorem b4h:∀ (l:List Str) (k:Int),a4l l → 1 ≤ k → k + (a1b l:Nat) < 2 ^ 62 → a2n (a5h l k) k = some (.go (k + (a1b l:Nat)))
  | [],k,_,_,_ => by simp [a5h,a2n,a1b]
  | x :: l,k,hfit,h0,hc => by
    simp only [a1b] at hc ⊢
    have hfit2:a4l l:=by unfold a4l at hfit ⊢; simp at hfit; omega
    have t0:=b3d (k:=k) (by omega) (by omega)
    have w0:w64 (k + 1) = k + 1:=a4o (by omega)
    have ih:=b4h l (k + 1) hfit2 (by omega) (by omega)
    rw [a5h,a2n]
    simp only [t0,w0,Option.bind_some,beq_self_eq_true,bne_self_eq_false,Bool.not_true,Bool.false_eq_true,if_false,decide_false]
    rw [ih]
    refine congrArg (fun z => some (Fl.go z)) ?_
    omega
theorem b7i (l:List Str) (k:Int) (hf:a4l l) (h0:1 ≤ k) (h1:k + (a1b l:Nat) < 2 ^ 62):a5w (a5h l k) k = some (k + (a1b l:Nat)):=by
  unfold a5w
  rw [b4h l k hf h0 h1]
  rfl

/- JSON values: marks. -/
mutual
def b0s:o8 → Nat
  | ⟨_,_,_,ks,is⟩ => a1b ks + a1k is
def a1k:List o8 → Nat
  | [] => 0
  | x :: xs => (3 + b0s x) + a1k xs
end
mutual
def b4x:o8 → Int → o8
  | ⟨a,b,c,ks,is⟩,k => ⟨a,b,c,a5h ks k,a5p is (k + (a1b ks:Nat))⟩
def a5p:List o8 → Int → List o8
  | [],_ => []
  | x :: xs,k => ⟨k,k + 1,tx (k + 1 + 1),(b4x x (k + 1 + 1 + 1)).Keys,(b4x x (k + 1 + 1 + 1)).Items⟩ :: a5p xs (k + 1 + 1 + 1 + (b0s x:Nat))
end
mutual
def b4y:o8 → Prop
  | ⟨_,_,_,ks,is⟩ => a4l ks ∧ is.length < 2 ^ 61 ∧ a9c is
def a9c:List o8 → Prop
  | [] => True
  | x :: xs => b4y x ∧ a9c xs
end
def b1w (l:List o8):Prop:=l.length < 2 ^ 61 ∧ a9c l
theorem a8c (x:o8):b0s x = a1b x.Keys + a1k x.Items:=by cases x; simp only [b0s]
theorem b4i (x:o8) (k:Int):b4x x k = ⟨x.Kind,x.N,x.T,a5h x.Keys k,a5p x.Items (k + (a1b x.Keys:Nat))⟩:=by cases x; simp only [b4x]
theorem b4z {x:o8} (h:b4y x):a4l x.Keys ∧ b1w x.Items:=by
  cases x; simp only [b4y] at h; exact ⟨h.1,h.2.1,h.2.2⟩
theorem d1i:∀ (l:List o8) (k:Int),(a5p l k).length = l.length
  | [],_ => by simp [a5p]
  | x :: l,k => by simp only [a5p,List.length_cons,d1i l]
theorem b6g (rec:List o8 → Int → Option (Int × List o8)) (b:Nat) (hrec:∀ (l:List o8) (k:Int),a1k l < b → b1w l → 1 ≤ k → k + (a1k l:Nat) < 2 ^ 62 → rec l k = some (k + (a1k l:Nat),a5p l k)):∀ (n f:Nat) (l:List o8) (i:Nat) (k:Int),i + n = l.length → n < f → 1 ≤ k → l.length < 2 ^ 61 → a9c (l.drop i) → a1k (l.drop i) < b + 1 → k + (a1k (l.drop i):Nat) < 2 ^ 62 → a2m rec f k i l = some (k + (a1k (l.drop i):Nat),l.take i ++ a5p (l.drop i) k)
  | _,0,_,_,_,_,h,_,_,_,_,_ => by omega
  | 0,f + 1,l,i,k,h,_,_,_,_,_,_ => by
    rw [a2m,if_neg (by simp; omega),List.drop_of_length_le (by omega),List.take_of_length_le (by omega)]
    simp [a1k,a5p]
  | n + 1,f + 1,l,i,k,h,hf,hk,hlen,hfit,hb,hc => by
    have hi:i < l.length:=by omega
    have hd:l.drop i = l[i] :: l.drop (i + 1):=List.drop_eq_getElem_cons hi
    rw [hd] at hc hfit hb ⊢
    simp only [a1k,a8c] at hc hb ⊢
    simp only [a9c] at hfit
    obtain ⟨hx1,hx2⟩:=b4z hfit.1
    have w0:w64 (k + 1) = k + 1:=a4o (by omega)
    have w1:w64 (k + 1 + 1) = k + 1 + 1:=a4o (by omega)
    have t2:=b3d (k:=k + 1 + 1) (by omega) (by omega)
    have w2:w64 (k + 1 + 1 + 1) = k + 1 + 1 + 1:=a4o (by omega)
    have m3:=b3s l[i].Keys (k + 1 + 1 + 1) hx1 (by omega) (by omega)
    have m4:=hrec l[i].Items (k + 1 + 1 + 1 + (a1b l[i].Keys:Nat)) (by omega) hx2 (by omega) (by omega)
    have wi:w64 ((i:Int) + 1) = ((i + 1:Nat):Int):=by rw [a4o (by omega)]; rfl
    have hg:l[i]? = some l[i]:=List.getElem?_eq_getElem hi
    have hix:0 + (i:Int).toNat = i:=by simp
    have hlt:((i:Int) < (l.length:Int)) = True:=eq_true (by omega)
    have hge:(0 ≤ (i:Int)) = True:=eq_true (by omega)
    have hds:∀ y,(l.set i y).drop (i + 1) = l.drop (i + 1):=fun y => List.drop_set_of_lt (by omega)
    have ih:=b6g rec b hrec n f (l.set i ⟨k,k + 1,tx (k + 1 + 1),a5h l[i].Keys (k + 1 + 1 + 1),a5p l[i].Items (k + 1 + 1 + 1 + (a1b l[i].Keys:Nat))⟩) (i + 1) (k + 1 + 1 + 1 + (a1b l[i].Keys:Nat) + (a1k l[i].Items:Nat)) (by rw [List.length_set]; omega) (by omega) (by omega) (by rw [List.length_set]; omega) (by rw [hds]; exact hfit.2) (by rw [hds]; omega) (by rw [hds]; omega)
    rw [hds] at ih
    rw [a2m]
    simp only [hlt,hge,hix,hg,decide_true,and_self,if_true,Option.bind_some,List.set_set,wi,w0,w1,t2,w2,m3,m4]
    rw [ih,b2y _ _ _ _ hi]
    simp only [a5p,b4i,a8c]
    refine congrArg some (Prod.ext ?_ ?_)
    · simp only
      omega
    · simp only
      refine congrArg (fun z => _ ++ _ :: a5p _ z) ?_
      omega
theorem b7j:∀ (f:Nat) (l:List o8) (k:Int),a1k l < f → b1w l → 1 ≤ k → k + (a1k l:Nat) < 2 ^ 62 → a4t f l k = some (k + (a1k l:Nat),a5p l k)
  | 0,_,_,h,_,_,_ => by omega
  | f + 1,l,k,h,hf,h0,h1 => by
    have hl:l.length < 2 ^ 61:=hf.1
    rw [a4t]
    unfold a8l
    rw [show (0:Int) = ((0:Nat):Int) from rfl,b6g (a4t f) f (fun l k => b7j f l k) l.length FUEL l 0 k (by omega) (fuel_lt (by omega)) h0 hl (by simpa using hf.2) (by simpa using h) (by simpa using h1)]
    simp
theorem d1j (l:List o8) (k:Int) (hf:b1w l) (h0:1 ≤ k) (h1:k + (a1k l:Nat) < 2 ^ 62):a4t FUEL l k = some (k + (a1k l:Nat),a5p l k):=b7j FUEL l k (fuel_lt (by omega)) hf h0 h1
/- JSON values: marks are read back. -/
theorem b6h (rec:List o8 → Int → Option Int) (b:Nat) (hrec:∀ (l:List o8) (k:Int),a1k l < b → b1w l → 1 ≤ k → k + (a1k l:Nat) < 2 ^ 62 → rec (a5p l k) k = some (k + (a1k l:Nat))):∀ (l:List o8) (k:Int),1 ≤ k → a9c l → a1k l < b + 1 → k + (a1k l:Nat) < 2 ^ 62 → a2o rec (a5p l k) k = some (.go (k + (a1k l:Nat)))
  | [],k,_,_,_,_ => by simp [a5p,a2o,a1k]
  | x :: l,k,hk,hfit,hb,hc => by
    simp only [a1k,a8c] at hc hb ⊢
    simp only [a9c] at hfit
    obtain ⟨hx1,hx2⟩:=b4z hfit.1
    have w0:w64 (k + 1) = k + 1:=a4o (by omega)
    have w1:w64 (k + 1 + 1) = k + 1 + 1:=a4o (by omega)
    have t2:=b3d (k:=k + 1 + 1) (by omega) (by omega)
    have w2:w64 (k + 1 + 1 + 1) = k + 1 + 1 + 1:=a4o (by omega)
    have m3:=b7i x.Keys (k + 1 + 1 + 1) hx1 (by omega) (by omega)
    have n3:(k + 1 + 1 + 1 + (a1b x.Keys:Nat) < 0) = False:=eq_false (by omega)
    have m4:=hrec x.Items (k + 1 + 1 + 1 + (a1b x.Keys:Nat)) (by omega) hx2 (by omega) (by omega)
    have n4:(k + 1 + 1 + 1 + (a1b x.Keys:Nat) + (a1k x.Items:Nat) < 0) = False:=eq_false (by omega)
    have ih:=b6h rec b hrec l (k + 1 + 1 + 1 + (a1b x.Keys:Nat) + (a1k x.Items:Nat)) (by omega) hfit.2 (by omega) (by omega)
    have ek:k + 1 + 1 + 1 + ((a1b x.Keys + a1k x.Items:Nat):Int) = k + 1 + 1 + 1 + (a1b x.Keys:Nat) + (a1k x.Items:Nat):=by omega
    simp only [a5p,b4i,a8c,ek]
    rw [a2o]
    simp only [w0,w1,t2,w2,m3,n3,m4,n4,Option.bind_some,beq_self_eq_true,bne_self_eq_false,Bool.not_true,Bool.false_eq_true,if_false,decide_false]
    rw [ih]
    refine congrArg (fun z => some (Fl.go z)) ?_
    omega
theorem b7k:∀ (f:Nat) (l:List o8) (k:Int),a1k l < f → b1w l → 1 ≤ k → k + (a1k l:Nat) < 2 ^ 62 → a4u f (a5p l k) k = some (k + (a1k l:Nat))
  | 0,_,_,h,_,_,_ => by omega
  | f + 1,l,k,h,hf,h0,h1 => by
    rw [a4u]
    unfold a8m
    rw [b6h (a4u f) f (fun l k => b7k f l k) l k h0 hf.2 h h1]
    rfl
theorem d1k (l:List o8) (k:Int) (hf:b1w l) (h0:1 ≤ k) (h1:k + (a1k l:Nat) < 2 ^ 62):a4u FUEL (a5p l k) k = some (k + (a1k l:Nat)):=b7k FUEL l k (fuel_lt (by omega)) hf h0 h1

theorem d2u (x:o8) (k:Int) (hf:b4y x) (h0:1 ≤ k) (h1:k + (b0s x:Nat) < 2 ^ 62):a8z x k = some (k + (b0s x:Nat),b4x x k):=by
  rw [a8c] at h1
  obtain ⟨hx1,hx2⟩:=b4z hf
  unfold a8z
  rw [b3s x.Keys k hx1 h0 (by omega),Option.bind_some]
  simp only
  rw [d1j x.Items _ hx2 (by omega) (by omega),Option.bind_some,b4i,a8c]
  refine congrArg some (Prod.ext ?_ rfl)
  simp only
  omega
theorem d2v (x:o8) (k:Int) (hf:b4y x) (h0:1 ≤ k) (h1:k + (b0s x:Nat) < 2 ^ 62):a7j (b4x x k) k = some (k + (b0s x:Nat)):=by
  rw [a8c] at h1
  obtain ⟨hx1,hx2⟩:=b4z hf
  have n3:(k + (a1b x.Keys:Nat) < 0) = False:=eq_false (by omega)
  have n4:(k + (a1b x.Keys:Nat) + (a1k x.Items:Nat) < 0) = False:=eq_false (by omega)
  have m1:=b7i x.Keys k hx1 h0 (by omega)
  have m2:=d1k x.Items (k + (a1b x.Keys:Nat)) hx2 (by omega) (by omega)
  unfold a7j
  rw [b4i,a8c]
  simp only [m1,m2,n3,n4,Option.bind_some,decide_false,Bool.false_eq_true,if_false]
  refine congrArg some ?_
  omega

def c1b (x:a3r):Nat:=a6v x.Cells
def mkRow (x:a3r) (k:Int):a3r:=⟨x.Id,(a9b x.Cells (k))⟩
def d2w (x:a3r):Prop:=a8n x.Cells
theorem d5c (x:a3r) (k:Int) (hf:d2w x) (h0:1 ≤ k) (h1:k + (c1b x:Nat) < 2 ^ 62):b0q x k = some (k + (c1b x:Nat),mkRow x k):=by
  unfold c1b at h1 ⊢
  unfold d2w at hf
  have m0:=c9i x.Cells (k) hf (by omega) (by omega)
  unfold b0q
  simp only [m0,Option.bind_some]
  refine congrArg some (Prod.ext ?_ rfl)
  (try simp only) <;> omega
end Go.R
