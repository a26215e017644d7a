/- Part of the proof. -/
import Derived.Test.YtldahjcikmpifaaGreatG3
import Derived.Test.YtldahjcikmpifaaGreatG9

section
set_option linter.all false
namespace Go.R
open Go
set_option maxHeartbeats 1000000
theorem fuel_lt {n:Nat} (h:n < 2 ^ 90):n < FUEL:=by unfold FUEL; omega
theorem c2a:∀ (m f:Nat) (k:Int) (out:Str),0 ≤ k → k < 2 ^ m → m < f → out.length + m + 1 ≤ maxLen → k < 2 ^ 62 → ∃ t,a4g f k out = some t ∧ t.length ≤ out.length + m
 | _,0,_,_,_,_,h,_,_ => by omega
 | 0,f + 1,k,out,h0,h1,_,_,_ => by
  have:k = 0:=by simp at h1; omega
  subst this
  rw [a4g,if_neg (by simp)]
  exact ⟨out,rfl,by omega⟩
 | m + 1,f + 1,k,out,h0,h1,h2,h3,h4 => by
  rw [a4g]
  by_cases hk:k > 0
  ·rw [if_pos (by simpa using hk)]
   have hb:∀ n,(e0j [n]).length = 1:=fun _ => rfl
   rw [if_pos (by rw [hb]; omega)]
   have hd:k.tdiv 10 = k / 10:=Int.tdiv_eq_ediv_of_nonneg h0
   have hw:w64 (k.tdiv 10) = k / 10:=by rw [hd]; exact a1q (by omega)
   rw [hw]
   have hp:(2:Int) ^ (m + 1) = 2 * 2 ^ m:=by rw [Int.pow_succ]; omega
   obtain ⟨t,e,hl⟩:=c2a m f (k / 10) (e0j [IntKind.u8.wrap (w64 (48 + (k.tmod 10)))] ++ out) (by omega) (by omega) (by omega) (by rw [List.length_append,hb]; omega) (by omega)
   refine ⟨t,e,?_⟩
   rw [List.length_append,hb] at hl
   omega
  ·rw [if_neg (by simpa using hk)]
   exact ⟨out,rfl,by omega⟩
def tx (k:Int):Str:=(a3t k).getD []
theorem b7g {k:Int} (h0:1 ≤ k) (h1:k < 2 ^ 62):a3t k = some (tx k):=by
 have:∃ t,a3t k = some t:=by
  unfold a3t
  rw [if_neg (by simp; omega)]
  obtain ⟨t,e,hl⟩:=c2a 62 FUEL k [] (by omega) h1 (fuel_lt (by omega)) (by simp [maxLen]) h1
  rw [e,Option.bind_some,if_pos (by simp only [List.length_cons,List.length_nil] at hl ⊢; simp only [maxLen]; omega)]
  exact ⟨_,rfl⟩
 obtain ⟨t,e⟩:=this
 unfold tx
 rw [e]
 rfl
def a3g:List y7 → Nat
 | [] => 0
 | x :: xs => (1 + 1 + 1) + a3g xs
def a8t:List y7 → Int → List y7
 | [],_ => []
 | x :: xs,k => ⟨(k),(k + 1),(tx (k + 1 + 1))⟩ :: a8t xs (k + 1 + 1 + 1)
def a7j (l:List y7):Prop:=l.length < 2 ^ 61
theorem c0j:∀ (n f:Nat) (l:List y7) (i:Nat) (k:Int),i + n = l.length → n < f → 1 ≤ k → a7j l → k + (a3g (l.drop i):Nat) < 2 ^ 62 → a3p f k i l = some (k + (a3g (l.drop i):Nat),l.take i ++ a8t (l.drop i) k)
 | _,0,_,_,_,_,h,_,_,_ => by omega
 | 0,f + 1,l,i,k,h,_,_,_,_ => by
  rw [a3p,if_neg (by simp; omega),List.drop_of_length_le (by omega),List.take_of_length_le (by omega)]
  simp [a3g,a8t]
 | n + 1,f + 1,l,i,k,h,hf,hk,hfit,hc => by
  have hi:i < l.length:=by omega
  have hd:l.drop i = l[i] :: l.drop (i + 1):=List.drop_eq_getElem_cons hi
  rw [hd] at hc ⊢
  simp only [a3g] at hc ⊢
  have hlen:l.length < 2 ^ 61:=hfit
  have w0:w64 (k + 1) = k + 1:=a1q (by omega)
  have w1:w64 (k + 1 + 1) = k + 1 + 1:=a1q (by omega)
  have t2:=b7g (k:=k + 1 + 1) (by omega) (by omega)
  have w2:w64 (k + 1 + 1 + 1) = k + 1 + 1 + 1:=a1q (by omega)
  have wi:w64 ((i:Int) + 1) = ((i + 1:Nat):Int):=by rw [a1q (by omega)]; rfl
  have hg:l[i]? = some l[i]:=List.getElem?_eq_getElem hi
  have hix:0 + (i:Int).toNat = i:=by simp
  have hlt:((i:Int) < (l.length:Int)) = True:=eq_true (by omega)
  have hge:(0 ≤ (i:Int)) = True:=eq_true (by omega)
  have hds:∀ y,(l.set i y).drop (i + 1) = l.drop (i + 1):=fun y => List.drop_set_of_lt (by omega)
  have hfit2:a7j (l.set i (⟨(k),(k + 1),(tx (k + 1 + 1))⟩)):=by
   unfold a7j at hfit ⊢
   rw [List.length_set]; exact hfit
  have ih:=c0j n f (l.set i (⟨(k),(k + 1),(tx (k + 1 + 1))⟩)) (i + 1) (k + 1 + 1 + 1) (by rw [List.length_set]; omega) (by omega) (by omega) hfit2 (by rw [hds]; omega)
  rw [hds] at ih
  rw [a3p]
  simp only [hlt,hge,hix,hg,decide_true,and_self,if_true,Option.bind_some,List.set_set,wi,w0,w1,t2,w2]
  rw [ih,a6w _ _ _ _ hi,a8t]
  refine congrArg some (Prod.ext ?_ rfl)
  simp only
  omega
theorem d8c (l:List y7) (k:Int) (hf:a7j l) (h0:1 ≤ k) (h1:k + (a3g l:Nat) < 2 ^ 62):b1d l k = some (k + (a3g l:Nat),a8t l k):=by
 unfold b1d
 have hl:l.length < 2 ^ 61:=hf
 rw [show (0:Int) = ((0:Nat):Int) from rfl,c0j l.length FUEL l 0 k (by omega) (fuel_lt (by omega)) h0 hf (by simpa using h1)]
 simp
theorem c8a:∀ (l:List y7) (k:Int),(a8t l k).length = l.length
 | [],_ => rfl
 | x :: l,k => by simp only [a8t,List.length_cons,c8a l]
theorem c8b (l:List y7) (k:Int) (h:a7j l):a7j (a8t l k):=by
 unfold a7j at h ⊢
 rw [c8a]; exact h
theorem c0k:∀ (l:List y7) (k:Int),a7j l → 1 ≤ k → k + (a3g l:Nat) < 2 ^ 62 → a7h (a8t l k) k = some (.go (k + (a3g l:Nat)))
 | [],k,_,_,_ => by simp [a8t,a7h,a3g]
 | x :: l,k,hfit,h0,hc => by
  simp only [a3g] at hc ⊢
  have hfit2:a7j l:=by unfold a7j at hfit ⊢; simp at hfit; omega
  have w0:w64 (k + 1) = k + 1:=a1q (by omega)
  have w1:w64 (k + 1 + 1) = k + 1 + 1:=a1q (by omega)
  have t2:=b7g (k:=k + 1 + 1) (by omega) (by omega)
  have w2:w64 (k + 1 + 1 + 1) = k + 1 + 1 + 1:=a1q (by omega)
  have ih:=c0k l (k + 1 + 1 + 1) hfit2 (by omega) (by omega)
  rw [a8t,a7h]
  simp only [w0,w1,t2,w2,Option.bind_some,beq_self_eq_true,bne_self_eq_false,Bool.not_true,Bool.false_eq_true,if_false,decide_false]
  rw [ih]
  refine congrArg (fun z => some (Fl.go z)) ?_
  omega
theorem d8d (l:List y7) (k:Int) (hf:a7j l) (h0:1 ≤ k) (h1:k + (a3g l:Nat) < 2 ^ 62):b1f (a8t l k) k = some (k + (a3g l:Nat)):=by
 unfold b1f
 rw [c0k l k hf h0 h1]
 rfl
def a2n:List (List y7) → Nat
 | [] => 0
 | x :: xs => (a3g x) + a2n xs
def a5w:List (List y7) → Int → List (List y7)
 | [],_ => []
 | x :: xs,k => (a8t x (k)) :: a5w xs (k + (a3g x:Nat))
def a6s (l:List (List y7)):Prop:=l.length < 2 ^ 61 ∧ ∀ x ∈ l,a7j x
theorem b9g:∀ (n f:Nat) (l:List (List y7)) (i:Nat) (k:Int),i + n = l.length → n < f → 1 ≤ k → a6s l → k + (a2n (l.drop i):Nat) < 2 ^ 62 → a3c f k i l = some (k + (a2n (l.drop i):Nat),l.take i ++ a5w (l.drop i) k)
 | _,0,_,_,_,_,h,_,_,_ => by omega
 | 0,f + 1,l,i,k,h,_,_,_,_ => by
  rw [a3c,if_neg (by simp; omega),List.drop_of_length_le (by omega),List.take_of_length_le (by omega)]
  simp [a2n,a5w]
 | n + 1,f + 1,l,i,k,h,hf,hk,hfit,hc => by
  have hi:i < l.length:=by omega
  have hd:l.drop i = l[i] :: l.drop (i + 1):=List.drop_eq_getElem_cons hi
  rw [hd] at hc ⊢
  simp only [a2n] at hc ⊢
  have hlen:l.length < 2 ^ 61:=hfit.1
  have hx:=hfit.2 l[i] (List.getElem_mem _)
  have m0:=d8c l[i] (k) (hx) (by omega) (by omega)
  have wi:w64 ((i:Int) + 1) = ((i + 1:Nat):Int):=by rw [a1q (by omega)]; rfl
  have hg:l[i]? = some l[i]:=List.getElem?_eq_getElem hi
  have hix:0 + (i:Int).toNat = i:=by simp
  have hlt:((i:Int) < (l.length:Int)) = True:=eq_true (by omega)
  have hge:(0 ≤ (i:Int)) = True:=eq_true (by omega)
  have hds:∀ y,(l.set i y).drop (i + 1) = l.drop (i + 1):=fun y => List.drop_set_of_lt (by omega)
  have hfit2:a6s (l.set i ((a8t l[i] (k)))):=by
   unfold a6s at hfit ⊢
   exact ⟨by rw [List.length_set]; exact hfit.1,fun z hz => by
    rcases List.mem_or_eq_of_mem_set hz with hz | rfl
    ·exact hfit.2 z hz
    ·exact c8b _ _ hx⟩
  have ih:=b9g n f (l.set i ((a8t l[i] (k)))) (i + 1) (k + (a3g l[i]:Nat)) (by rw [List.length_set]; omega) (by omega) (by omega) hfit2 (by rw [hds]; omega)
  rw [hds] at ih
  rw [a3c]
  simp only [hlt,hge,hix,hg,decide_true,and_self,if_true,Option.bind_some,List.set_set,wi,m0]
  rw [ih,a6w _ _ _ _ hi,a5w]
  refine congrArg some (Prod.ext ?_ rfl)
  simp only
  omega
theorem d5l (l:List (List y7)) (k:Int) (hf:a6s l) (h0:1 ≤ k) (h1:k + (a2n l:Nat) < 2 ^ 62):a9p l k = some (k + (a2n l:Nat),a5w l k):=by
 unfold a9p
 have hl:l.length < 2 ^ 61:=hf.1
 rw [show (0:Int) = ((0:Nat):Int) from rfl,b9g l.length FUEL l 0 k (by omega) (fuel_lt (by omega)) h0 hf (by simpa using h1)]
 simp
theorem c5j:∀ (l:List (List y7)) (k:Int),(a5w l k).length = l.length
 | [],_ => rfl
 | x :: l,k => by simp only [a5w,List.length_cons,c5j l]
theorem b8t:∀ (l:List (List y7)) (k:Int),a6s l → a6s (a5w l k)
 | [],_,h => h
 | x :: l,k,h => by
  have h2:a6s l:=⟨by have:=h.1; simp at this; omega,fun y hy => h.2 y (by simp [hy])⟩
  have ih:=b8t l (k + (a3g x:Nat)) h2
  have hx:=h.2 x (by simp)
  refine ⟨by rw [c5j]; exact h.1,fun z hz => ?_⟩
  rw [a5w] at hz
  rcases List.mem_cons.1 hz with rfl | hz
  ·exact c8b _ _ hx
  ·exact ih.2 z hz
theorem b9h:∀ (l:List (List y7)) (k:Int),a6s l → 1 ≤ k → k + (a2n l:Nat) < 2 ^ 62 → a6i (a5w l k) k = some (.go (k + (a2n l:Nat)))
 | [],k,_,_,_ => by simp [a5w,a6i,a2n]
 | x :: l,k,hfit,h0,hc => by
  simp only [a2n] at hc ⊢
  have hx:=hfit.2 x (by simp)
  have hfit2:a6s l:=⟨by have:=hfit.1; simp at this; omega,fun y hy => hfit.2 y (by simp [hy])⟩
  have m0:=d8d x (k) hx (by omega) (by omega)
  have n0:(k + (a3g x:Nat) < 0) = False:=eq_false (by omega)
  have ih:=b9h l (k + (a3g x:Nat)) hfit2 (by omega) (by omega)
  rw [a5w,a6i]
  simp only [m0,n0,Option.bind_some,beq_self_eq_true,bne_self_eq_false,Bool.not_true,Bool.false_eq_true,if_false,decide_false]
  rw [ih]
  refine congrArg (fun z => some (Fl.go z)) ?_
  omega
theorem d5m (l:List (List y7)) (k:Int) (hf:a6s l) (h0:1 ≤ k) (h1:k + (a2n l:Nat) < 2 ^ 62):a9q (a5w l k) k = some (k + (a2n l:Nat)):=by
 unfold a9q
 rw [b9h l k hf h0 h1]
 rfl
def a2b:List x8 → Nat
 | [] => 0
 | x :: xs => (1 + 1 + 1 + 1 + 1 + 1 + 1 + 1) + a2b xs
def a8k:List x8 → Int → List x8
 | [],_ => []
 | x :: xs,k => ⟨(tx (k)),(k + 1),(k + 1 + 1),(k + 1 + 1 + 1),(k + 1 + 1 + 1 + 1),(k + 1 + 1 + 1 + 1 + 1),(tx (k + 1 + 1 + 1 + 1 + 1 + 1)),(Int.tmod (k + 1 + 1 + 1 + 1 + 1 + 1 + 1) 3 == 0)⟩ :: a8k xs (k + 1 + 1 + 1 + 1 + 1 + 1 + 1 + 1)
def a7o (l:List x8):Prop:=l.length < 2 ^ 61
theorem b8g:∀ (n f:Nat) (l:List x8) (i:Nat) (k:Int),i + n = l.length → n < f → 1 ≤ k → a7o l → k + (a2b (l.drop i):Nat) < 2 ^ 62 → a2s f k i l = some (k + (a2b (l.drop i):Nat),l.take i ++ a8k (l.drop i) k)
 | _,0,_,_,_,_,h,_,_,_ => by omega
 | 0,f + 1,l,i,k,h,_,_,_,_ => by
  rw [a2s,if_neg (by simp; omega),List.drop_of_length_le (by omega),List.take_of_length_le (by omega)]
  simp [a2b,a8k]
 | n + 1,f + 1,l,i,k,h,hf,hk,hfit,hc => by
  have hi:i < l.length:=by omega
  have hd:l.drop i = l[i] :: l.drop (i + 1):=List.drop_eq_getElem_cons hi
  rw [hd] at hc ⊢
  simp only [a2b] at hc ⊢
  have hlen:l.length < 2 ^ 61:=hfit
  have t0:=b7g (k:=k) (by omega) (by omega)
  have w0:w64 (k + 1) = k + 1:=a1q (by omega)
  have w1:w64 (k + 1 + 1) = k + 1 + 1:=a1q (by omega)
  have w2:w64 (k + 1 + 1 + 1) = k + 1 + 1 + 1:=a1q (by omega)
  have w3:w64 (k + 1 + 1 + 1 + 1) = k + 1 + 1 + 1 + 1:=a1q (by omega)
  have w4:w64 (k + 1 + 1 + 1 + 1 + 1) = k + 1 + 1 + 1 + 1 + 1:=a1q (by omega)
  have w5:w64 (k + 1 + 1 + 1 + 1 + 1 + 1) = k + 1 + 1 + 1 + 1 + 1 + 1:=a1q (by omega)
  have t6:=b7g (k:=k + 1 + 1 + 1 + 1 + 1 + 1) (by omega) (by omega)
  have w6:w64 (k + 1 + 1 + 1 + 1 + 1 + 1 + 1) = k + 1 + 1 + 1 + 1 + 1 + 1 + 1:=a1q (by omega)
  have w7:w64 (k + 1 + 1 + 1 + 1 + 1 + 1 + 1 + 1) = k + 1 + 1 + 1 + 1 + 1 + 1 + 1 + 1:=a1q (by omega)
  have wi:w64 ((i:Int) + 1) = ((i + 1:Nat):Int):=by rw [a1q (by omega)]; rfl
  have hg:l[i]? = some l[i]:=List.getElem?_eq_getElem hi
  have hix:0 + (i:Int).toNat = i:=by simp
  have hlt:((i:Int) < (l.length:Int)) = True:=eq_true (by omega)
  have hge:(0 ≤ (i:Int)) = True:=eq_true (by omega)
  have hds:∀ y,(l.set i y).drop (i + 1) = l.drop (i + 1):=fun y => List.drop_set_of_lt (by omega)
  have hfit2:a7o (l.set i (⟨(tx (k)),(k + 1),(k + 1 + 1),(k + 1 + 1 + 1),(k + 1 + 1 + 1 + 1),(k + 1 + 1 + 1 + 1 + 1),(tx (k + 1 + 1 + 1 + 1 + 1 + 1)),(Int.tmod (k + 1 + 1 + 1 + 1 + 1 + 1 + 1) 3 == 0)⟩)):=by
   unfold a7o at hfit ⊢
   rw [List.length_set]; exact hfit
  have ih:=b8g n f (l.set i (⟨(tx (k)),(k + 1),(k + 1 + 1),(k + 1 + 1 + 1),(k + 1 + 1 + 1 + 1),(k + 1 + 1 + 1 + 1 + 1),(tx (k + 1 + 1 + 1 + 1 + 1 + 1)),(Int.tmod (k + 1 + 1 + 1 + 1 + 1 + 1 + 1) 3 == 0)⟩)) (i + 1) (k + 1 + 1 + 1 + 1 + 1 + 1 + 1 + 1) (by rw [List.length_set]; omega) (by omega) (by omega) hfit2 (by rw [hds]; omega)
  rw [hds] at ih
  rw [a2s]
  simp only [hlt,hge,hix,hg,decide_true,and_self,if_true,Option.bind_some,List.set_set,wi,t0,w0,w1,w2,w3,w4,w5,t6,w6,w7]
  rw [ih,a6w _ _ _ _ hi,a8k]
  refine congrArg some (Prod.ext ?_ rfl)
  simp only
  omega
theorem d2u (l:List x8) (k:Int) (hf:a7o l) (h0:1 ≤ k) (h1:k + (a2b l:Nat) < 2 ^ 62):a8g l k = some (k + (a2b l:Nat),a8k l k):=by
 unfold a8g
 have hl:l.length < 2 ^ 61:=hf
 rw [show (0:Int) = ((0:Nat):Int) from rfl,b8g l.length FUEL l 0 k (by omega) (fuel_lt (by omega)) h0 hf (by simpa using h1)]
 simp
theorem c2b:∀ (l:List x8) (k:Int),(a8k l k).length = l.length
 | [],_ => rfl
 | x :: l,k => by simp only [a8k,List.length_cons,c2b l]
theorem c2c (l:List x8) (k:Int) (h:a7o l):a7o (a8k l k):=by
 unfold a7o at h ⊢
 rw [c2b]; exact h
def a6c:List Int → Nat
 | [] => 0
 | x :: xs => (1) + a6c xs
def b7h:List Int → Int → List Int
 | [],_ => []
 | x :: xs,k => (k) :: b7h xs (k + 1)
def b4z (l:List Int):Prop:=l.length < 2 ^ 61
theorem c2d:∀ (n f:Nat) (l:List Int) (i:Nat) (k:Int),i + n = l.length → n < f → 1 ≤ k → b4z l → k + (a6c (l.drop i):Nat) < 2 ^ 62 → a4h f k i l = some (k + (a6c (l.drop i):Nat),l.take i ++ b7h (l.drop i) k)
 | _,0,_,_,_,_,h,_,_,_ => by omega
 | 0,f + 1,l,i,k,h,_,_,_,_ => by
  rw [a4h,if_neg (by simp; omega),List.drop_of_length_le (by omega),List.take_of_length_le (by omega)]
  simp [a6c,b7h]
 | n + 1,f + 1,l,i,k,h,hf,hk,hfit,hc => by
  have hi:i < l.length:=by omega
  have hd:l.drop i = l[i] :: l.drop (i + 1):=List.drop_eq_getElem_cons hi
  rw [hd] at hc ⊢
  simp only [a6c] at hc ⊢
  have hlen:l.length < 2 ^ 61:=hfit
  have w0:w64 (k + 1) = k + 1:=a1q (by omega)
  have wi:w64 ((i:Int) + 1) = ((i + 1:Nat):Int):=by rw [a1q (by omega)]; rfl
  have hg:l[i]? = some l[i]:=List.getElem?_eq_getElem hi
  have hix:0 + (i:Int).toNat = i:=by simp
  have hlt:((i:Int) < (l.length:Int)) = True:=eq_true (by omega)
  have hge:(0 ≤ (i:Int)) = True:=eq_true (by omega)
  have hds:∀ y,(l.set i y).drop (i + 1) = l.drop (i + 1):=fun y => List.drop_set_of_lt (by omega)
  have hfit2:b4z (l.set i ((k))):=by
   unfold b4z at hfit ⊢
   rw [List.length_set]; exact hfit
  have ih:=c2d n f (l.set i ((k))) (i + 1) (k + 1) (by rw [List.length_set]; omega) (by omega) (by omega) hfit2 (by rw [hds]; omega)
  rw [hds] at ih
  rw [a4h]
  simp only [hlt,hge,hix,hg,decide_true,and_self,if_true,Option.bind_some,List.set_set,wi,w0]
  rw [ih,a6w _ _ _ _ hi,b7h]
  refine congrArg some (Prod.ext ?_ rfl)
  simp only
  omega
theorem e0x (l:List Int) (k:Int) (hf:b4z l) (h0:1 ≤ k) (h1:k + (a6c l:Nat) < 2 ^ 62):b2r l k = some (k + (a6c l:Nat),b7h l k):=by
 unfold b2r
 have hl:l.length < 2 ^ 61:=hf
 rw [show (0:Int) = ((0:Nat):Int) from rfl,c2d l.length FUEL l 0 k (by omega) (fuel_lt (by omega)) h0 hf (by simpa using h1)]
 simp
theorem d1o:∀ (l:List Int) (k:Int),(b7h l k).length = l.length
 | [],_ => rfl
 | x :: l,k => by simp only [b7h,List.length_cons,d1o l]
theorem d1p (l:List Int) (k:Int) (h:b4z l):b4z (b7h l k):=by
 unfold b4z at h ⊢
 rw [d1o]; exact h
def a5a:List a0c → Nat
 | [] => 0
 | x :: xs => (1 + a2n x.Cells) + a5a xs
def b1s:List a0c → Int → List a0c
 | [],_ => []
 | x :: xs,k => ⟨(k),(a5w x.Cells (k + 1))⟩ :: b1s xs (k + 1 + (a2n x.Cells:Nat))
def b2z (l:List a0c):Prop:=l.length < 2 ^ 61 ∧ ∀ x ∈ l,a6s x.Cells
theorem c2e:∀ (n f:Nat) (l:List a0c) (i:Nat) (k:Int),i + n = l.length → n < f → 1 ≤ k → b2z l → k + (a5a (l.drop i):Nat) < 2 ^ 62 → a4i f k i l = some (k + (a5a (l.drop i):Nat),l.take i ++ b1s (l.drop i) k)
 | _,0,_,_,_,_,h,_,_,_ => by omega
 | 0,f + 1,l,i,k,h,_,_,_,_ => by
  rw [a4i,if_neg (by simp; omega),List.drop_of_length_le (by omega),List.take_of_length_le (by omega)]
  simp [a5a,b1s]
 | n + 1,f + 1,l,i,k,h,hf,hk,hfit,hc => by
  have hi:i < l.length:=by omega
  have hd:l.drop i = l[i] :: l.drop (i + 1):=List.drop_eq_getElem_cons hi
  rw [hd] at hc ⊢
  simp only [a5a] at hc ⊢
  have hlen:l.length < 2 ^ 61:=hfit.1
  have hx:=hfit.2 l[i] (List.getElem_mem _)
  have w0:w64 (k + 1) = k + 1:=a1q (by omega)
  have m1:=d5l l[i].Cells (k + 1) (hx) (by omega) (by omega)
  have wi:w64 ((i:Int) + 1) = ((i + 1:Nat):Int):=by rw [a1q (by omega)]; rfl
  have hg:l[i]? = some l[i]:=List.getElem?_eq_getElem hi
  have hix:0 + (i:Int).toNat = i:=by simp
  have hlt:((i:Int) < (l.length:Int)) = True:=eq_true (by omega)
  have hge:(0 ≤ (i:Int)) = True:=eq_true (by omega)
  have hds:∀ y,(l.set i y).drop (i + 1) = l.drop (i + 1):=fun y => List.drop_set_of_lt (by omega)
  have hfit2:b2z (l.set i (⟨(k),(a5w l[i].Cells (k + 1))⟩)):=by
   unfold b2z at hfit ⊢
   exact ⟨by rw [List.length_set]; exact hfit.1,fun z hz => by
    rcases List.mem_or_eq_of_mem_set hz with hz | rfl
    ·exact hfit.2 z hz
    ·exact b8t _ _ hx⟩
  have ih:=c2e n f (l.set i (⟨(k),(a5w l[i].Cells (k + 1))⟩)) (i + 1) (k + 1 + (a2n l[i].Cells:Nat)) (by rw [List.length_set]; omega) (by omega) (by omega) hfit2 (by rw [hds]; omega)
  rw [hds] at ih
  rw [a4i]
  simp only [hlt,hge,hix,hg,decide_true,and_self,if_true,Option.bind_some,List.set_set,wi,w0,m1]
  rw [ih,a6w _ _ _ _ hi,b1s]
  refine congrArg some (Prod.ext ?_ rfl)
  simp only
  omega
theorem e0y (l:List a0c) (k:Int) (hf:b2z l) (h0:1 ≤ k) (h1:k + (a5a l:Nat) < 2 ^ 62):b2s l k = some (k + (a5a l:Nat),b1s l k):=by
 unfold b2s
 have hl:l.length < 2 ^ 61:=hf.1
 rw [show (0:Int) = ((0:Nat):Int) from rfl,c2e l.length FUEL l 0 k (by omega) (fuel_lt (by omega)) h0 hf (by simpa using h1)]
 simp
theorem d1q:∀ (l:List a0c) (k:Int),(b1s l k).length = l.length
 | [],_ => rfl
 | x :: l,k => by simp only [b1s,List.length_cons,d1q l]
theorem c3z:∀ (l:List a0c) (k:Int),b2z l → b2z (b1s l k)
 | [],_,h => h
 | x :: l,k,h => by
  have h2:b2z l:=⟨by have:=h.1; simp at this; omega,fun y hy => h.2 y (by simp [hy])⟩
  have ih:=c3z l (k + 1 + (a2n x.Cells:Nat)) h2
  have hx:=h.2 x (by simp)
  refine ⟨by rw [d1q]; exact h.1,fun z hz => ?_⟩
  rw [b1s] at hz
  rcases List.mem_cons.1 hz with rfl | hz
  ·exact b8t _ _ hx
  ·exact ih.2 z hz
theorem c2f:∀ (l:List a0c) (k:Int),b2z l → 1 ≤ k → k + (a5a l:Nat) < 2 ^ 62 → a8i (b1s l k) k = some (.go (k + (a5a l:Nat)))
 | [],k,_,_,_ => by simp [b1s,a8i,a5a]
 | x :: l,k,hfit,h0,hc => by
  simp only [a5a] at hc ⊢
  have hx:=hfit.2 x (by simp)
  have hfit2:b2z l:=⟨by have:=hfit.1; simp at this; omega,fun y hy => hfit.2 y (by simp [hy])⟩
  have w0:w64 (k + 1) = k + 1:=a1q (by omega)
  have m1:=d5m x.Cells (k + 1) hx (by omega) (by omega)
  have n1:(k + 1 + (a2n x.Cells:Nat) < 0) = False:=eq_false (by omega)
  have ih:=c2f l (k + 1 + (a2n x.Cells:Nat)) hfit2 (by omega) (by omega)
  rw [b1s,a8i]
  simp only [w0,m1,n1,Option.bind_some,beq_self_eq_true,bne_self_eq_false,Bool.not_true,Bool.false_eq_true,if_false,decide_false]
  rw [ih]
  refine congrArg (fun z => some (Fl.go z)) ?_
  omega
theorem e0z (l:List a0c) (k:Int) (hf:b2z l) (h0:1 ≤ k) (h1:k + (a5a l:Nat) < 2 ^ 62):b2t (b1s l k) k = some (k + (a5a l:Nat)):=by
 unfold b2t
 rw [c2f l k hf h0 h1]
 rfl
def a5e:List (List a0c) → Nat
 | [] => 0
 | x :: xs => (a5a x) + a5e xs
def b0h:List (List a0c) → Int → List (List a0c)
 | [],_ => []
 | x :: xs,k => (b1s x (k)) :: b0h xs (k + (a5a x:Nat))
def a9r (l:List (List a0c)):Prop:=l.length < 2 ^ 61 ∧ ∀ x ∈ l,b2z x
theorem c0l:∀ (n f:Nat) (l:List (List a0c)) (i:Nat) (k:Int),i + n = l.length → n < f → 1 ≤ k → a9r l → k + (a5e (l.drop i):Nat) < 2 ^ 62 → a3q f k i l = some (k + (a5e (l.drop i):Nat),l.take i ++ b0h (l.drop i) k)
 | _,0,_,_,_,_,h,_,_,_ => by omega
 | 0,f + 1,l,i,k,h,_,_,_,_ => by
  rw [a3q,if_neg (by simp; omega),List.drop_of_length_le (by omega),List.take_of_length_le (by omega)]
  simp [a5e,b0h]
 | n + 1,f + 1,l,i,k,h,hf,hk,hfit,hc => by
  have hi:i < l.length:=by omega
  have hd:l.drop i = l[i] :: l.drop (i + 1):=List.drop_eq_getElem_cons hi
  rw [hd] at hc ⊢
  simp only [a5e] at hc ⊢
  have hlen:l.length < 2 ^ 61:=hfit.1
  have hx:=hfit.2 l[i] (List.getElem_mem _)
  have m0:=e0y l[i] (k) (hx) (by omega) (by omega)
  have wi:w64 ((i:Int) + 1) = ((i + 1:Nat):Int):=by rw [a1q (by omega)]; rfl
  have hg:l[i]? = some l[i]:=List.getElem?_eq_getElem hi
  have hix:0 + (i:Int).toNat = i:=by simp
  have hlt:((i:Int) < (l.length:Int)) = True:=eq_true (by omega)
  have hge:(0 ≤ (i:Int)) = True:=eq_true (by omega)
  have hds:∀ y,(l.set i y).drop (i + 1) = l.drop (i + 1):=fun y => List.drop_set_of_lt (by omega)
  have hfit2:a9r (l.set i ((b1s l[i] (k)))):=by
   unfold a9r at hfit ⊢
   exact ⟨by rw [List.length_set]; exact hfit.1,fun z hz => by
    rcases List.mem_or_eq_of_mem_set hz with hz | rfl
    ·exact hfit.2 z hz
    ·exact c3z _ _ hx⟩
  have ih:=c0l n f (l.set i ((b1s l[i] (k)))) (i + 1) (k + (a5a l[i]:Nat)) (by rw [List.length_set]; omega) (by omega) (by omega) hfit2 (by rw [hds]; omega)
  rw [hds] at ih
  rw [a3q]
  simp only [hlt,hge,hix,hg,decide_true,and_self,if_true,Option.bind_some,List.set_set,wi,m0]
  rw [ih,a6w _ _ _ _ hi,b0h]
  refine congrArg some (Prod.ext ?_ rfl)
  simp only
  omega
theorem d8e (l:List (List a0c)) (k:Int) (hf:a9r l) (h0:1 ≤ k) (h1:k + (a5e l:Nat) < 2 ^ 62):b1e l k = some (k + (a5e l:Nat),b0h l k):=by
 unfold b1e
 have hl:l.length < 2 ^ 61:=hf.1
 rw [show (0:Int) = ((0:Nat):Int) from rfl,c0l l.length FUEL l 0 k (by omega) (fuel_lt (by omega)) h0 hf (by simpa using h1)]
 simp
theorem c8c:∀ (l:List (List a0c)) (k:Int),(b0h l k).length = l.length
 | [],_ => rfl
 | x :: l,k => by simp only [b0h,List.length_cons,c8c l]
theorem d8f:∀ (l:List (List a0c)) (k:Int),a9r l → a9r (b0h l k)
 | [],_,h => h
 | x :: l,k,h => by
  have h2:a9r l:=⟨by have:=h.1; simp at this; omega,fun y hy => h.2 y (by simp [hy])⟩
  have ih:=d8f l (k + (a5a x:Nat)) h2
  have hx:=h.2 x (by simp)
  refine ⟨by rw [c8c]; exact h.1,fun z hz => ?_⟩
  rw [b0h] at hz
  rcases List.mem_cons.1 hz with rfl | hz
  ·exact c3z _ _ hx
  ·exact ih.2 z hz
theorem c0n:∀ (l:List (List a0c)) (k:Int),a9r l → 1 ≤ k → k + (a5e l:Nat) < 2 ^ 62 → a7i (b0h l k) k = some (.go (k + (a5e l:Nat)))
 | [],k,_,_,_ => by simp [b0h,a7i,a5e]
 | x :: l,k,hfit,h0,hc => by
  simp only [a5e] at hc ⊢
  have hx:=hfit.2 x (by simp)
  have hfit2:a9r l:=⟨by have:=hfit.1; simp at this; omega,fun y hy => hfit.2 y (by simp [hy])⟩
  have m0:=e0z x (k) hx (by omega) (by omega)
  have n0:(k + (a5a x:Nat) < 0) = False:=eq_false (by omega)
  have ih:=c0n l (k + (a5a x:Nat)) hfit2 (by omega) (by omega)
  rw [b0h,a7i]
  simp only [m0,n0,Option.bind_some,beq_self_eq_true,bne_self_eq_false,Bool.not_true,Bool.false_eq_true,if_false,decide_false]
  rw [ih]
  refine congrArg (fun z => some (Fl.go z)) ?_
  omega
theorem d8g (l:List (List a0c)) (k:Int) (hf:a9r l) (h0:1 ≤ k) (h1:k + (a5e l:Nat) < 2 ^ 62):b1g (b0h l k) k = some (k + (a5e l:Nat)):=by
 unfold b1g
 rw [c0n l k hf h0 h1]
 rfl
def a8l:List a0a → Nat
 | [] => 0
 | x :: xs => (1 + a2b x.Columns + a6c x.Unique + 1) + a8l xs
def b2u:List a0a → Int → List a0a
 | [],_ => []
 | x :: xs,k => ⟨(tx (k)),(a8k x.Columns (k + 1)),(b7h x.Unique (k + 1 + (a2b x.Columns:Nat))),(Int.tmod (k + 1 + (a2b x.Columns:Nat) + (a6c x.Unique:Nat)) 3 == 0)⟩ :: b2u xs (k + 1 + (a2b x.Columns:Nat) + (a6c x.Unique:Nat) + 1)
def b1o (l:List a0a):Prop:=l.length < 2 ^ 61 ∧ ∀ x ∈ l,a7o x.Columns ∧ b4z x.Unique
theorem b9i:∀ (n f:Nat) (l:List a0a) (i:Nat) (k:Int),i + n = l.length → n < f → 1 ≤ k → b1o l → k + (a8l (l.drop i):Nat) < 2 ^ 62 → a3b f k i l = some (k + (a8l (l.drop i):Nat),l.take i ++ b2u (l.drop i) k)
 | _,0,_,_,_,_,h,_,_,_ => by omega
 | 0,f + 1,l,i,k,h,_,_,_,_ => by
  rw [a3b,if_neg (by simp; omega),List.drop_of_length_le (by omega),List.take_of_length_le (by omega)]
  simp [a8l,b2u]
 | n + 1,f + 1,l,i,k,h,hf,hk,hfit,hc => by
  have hi:i < l.length:=by omega
  have hd:l.drop i = l[i] :: l.drop (i + 1):=List.drop_eq_getElem_cons hi
  rw [hd] at hc ⊢
  simp only [a8l] at hc ⊢
  have hlen:l.length < 2 ^ 61:=hfit.1
  have hx:=hfit.2 l[i] (List.getElem_mem _)
  have t0:=b7g (k:=k) (by omega) (by omega)
  have w0:w64 (k + 1) = k + 1:=a1q (by omega)
  have m1:=d2u l[i].Columns (k + 1) (hx.1) (by omega) (by omega)
  have m2:=e0x l[i].Unique (k + 1 + (a2b l[i].Columns:Nat)) (hx.2) (by omega) (by omega)
  have w3:w64 (k + 1 + (a2b l[i].Columns:Nat) + (a6c l[i].Unique:Nat) + 1) = k + 1 + (a2b l[i].Columns:Nat) + (a6c l[i].Unique:Nat) + 1:=a1q (by omega)
  have wi:w64 ((i:Int) + 1) = ((i + 1:Nat):Int):=by rw [a1q (by omega)]; rfl
  have hg:l[i]? = some l[i]:=List.getElem?_eq_getElem hi
  have hix:0 + (i:Int).toNat = i:=by simp
  have hlt:((i:Int) < (l.length:Int)) = True:=eq_true (by omega)
  have hge:(0 ≤ (i:Int)) = True:=eq_true (by omega)
  have hds:∀ y,(l.set i y).drop (i + 1) = l.drop (i + 1):=fun y => List.drop_set_of_lt (by omega)
  have hfit2:b1o (l.set i (⟨(tx (k)),(a8k l[i].Columns (k + 1)),(b7h l[i].Unique (k + 1 + (a2b l[i].Columns:Nat))),(Int.tmod (k + 1 + (a2b l[i].Columns:Nat) + (a6c l[i].Unique:Nat)) 3 == 0)⟩)):=by
   unfold b1o at hfit ⊢
   exact ⟨by rw [List.length_set]; exact hfit.1,fun z hz => by
    rcases List.mem_or_eq_of_mem_set hz with hz | rfl
    ·exact hfit.2 z hz
    ·exact ⟨c2c _ _ hx.1,d1p _ _ hx.2⟩⟩
  have ih:=b9i n f (l.set i (⟨(tx (k)),(a8k l[i].Columns (k + 1)),(b7h l[i].Unique (k + 1 + (a2b l[i].Columns:Nat))),(Int.tmod (k + 1 + (a2b l[i].Columns:Nat) + (a6c l[i].Unique:Nat)) 3 == 0)⟩)) (i + 1) (k + 1 + (a2b l[i].Columns:Nat) + (a6c l[i].Unique:Nat) + 1) (by rw [List.length_set]; omega) (by omega) (by omega) hfit2 (by rw [hds]; omega)
  rw [hds] at ih
  rw [a3b]
  simp only [hlt,hge,hix,hg,decide_true,and_self,if_true,Option.bind_some,List.set_set,wi,t0,w0,m1,m2,w3]
  rw [ih,a6w _ _ _ _ hi,b2u]
  refine congrArg some (Prod.ext ?_ rfl)
  simp only
  omega
theorem d5n (l:List a0a) (k:Int) (hf:b1o l) (h0:1 ≤ k) (h1:k + (a8l l:Nat) < 2 ^ 62):a9n l k = some (k + (a8l l:Nat),b2u l k):=by
 unfold a9n
 have hl:l.length < 2 ^ 61:=hf.1
 rw [show (0:Int) = ((0:Nat):Int) from rfl,b9i l.length FUEL l 0 k (by omega) (fuel_lt (by omega)) h0 hf (by simpa using h1)]
 simp
theorem c5k:∀ (l:List a0a) (k:Int),(b2u l k).length = l.length
 | [],_ => rfl
 | x :: l,k => by simp only [b2u,List.length_cons,c5k l]
theorem d5o:∀ (l:List a0a) (k:Int),b1o l → b1o (b2u l k)
 | [],_,h => h
 | x :: l,k,h => by
  have h2:b1o l:=⟨by have:=h.1; simp at this; omega,fun y hy => h.2 y (by simp [hy])⟩
  have ih:=d5o l (k + 1 + (a2b x.Columns:Nat) + (a6c x.Unique:Nat) + 1) h2
  have hx:=h.2 x (by simp)
  refine ⟨by rw [c5k]; exact h.1,fun z hz => ?_⟩
  rw [b2u] at hz
  rcases List.mem_cons.1 hz with rfl | hz
  ·exact ⟨c2c _ _ hx.1,d1p _ _ hx.2⟩
  ·exact ih.2 z hz
def b4u (x:a0b):Nat:=a8l x.Tables
def e8l (x:a0b) (k:Int):a0b:=⟨(b2u x.Tables (k))⟩
def c7c (x:a0b):Prop:=b1o x.Tables
theorem d5p (x:a0b) (k:Int) (hf:c7c x) (h0:1 ≤ k) (h1:k + (b4u x:Nat) < 2 ^ 62):a9o x k = some (k + (b4u x:Nat),e8l x k):=by
 unfold b4u at h1 ⊢
 unfold c7c at hf
 have m0:=d5n x.Tables (k) hf (by omega) (by omega)
 unfold a9o
 simp only [m0,Option.bind_some]
 refine congrArg some (Prod.ext ?_ rfl)
 (try simp only) <;> omega
def b2v (x:a0h):Nat:=a5e x.Tables
def c5l (x:a0h) (k:Int):a0h:=⟨(b0h x.Tables (k)),x.Next⟩
def c0o (x:a0h):Prop:=a9r x.Tables
theorem c8d (x:a0h) (k:Int) (hf:c0o x) (h0:1 ≤ k) (h1:k + (b2v x:Nat) < 2 ^ 62):a8h x k = some (k + (b2v x:Nat),c5l x k):=by
 unfold b2v at h1 ⊢
 unfold c0o at hf
 have m0:=d8e x.Tables (k) hf (by omega) (by omega)
 unfold a8h
 simp only [m0,Option.bind_some]
 refine congrArg some (Prod.ext ?_ rfl)
 (try simp only) <;> omega
theorem d8h (x:a0h) (k:Int) (hf:c0o x) (h0:1 ≤ k) (h1:k + (b2v x:Nat) < 2 ^ 62):a8j (c5l x k) k = some (k + (b2v x:Nat)):=by
 unfold b2v at h1 ⊢
 unfold c0o at hf
 have m0:=d8g x.Tables (k) hf (by omega) (by omega)
 have n0:(k + (a5e x.Tables:Nat) < 0) = False:=eq_false (by omega)
 unfold a8j c5l
 simp only [m0,n0,Option.bind_some,decide_false,Bool.false_eq_true,if_false]
 all_goals (refine congrArg some ?_; omega)
end Go.R
end
section
set_option linter.all false
namespace Go.R
open Go
theorem e8m (x:y7):b5p x x = some true:=by
 unfold b5p
 simp
theorem c5m (b:List y7):∀ (xs:List y7) (i:Nat),b.drop i = xs → a9l b xs i = some (.go ())
 | [],i,_ => by rw [a9l]
 | x :: xs,i,h => by
  rw [a9l,b5g h,Option.bind_some,e8m,Option.bind_some,if_neg (by simp),c5m b xs (i + 1) (a2j h)]
theorem e4j (a:List y7):b4l a a = some true:=by
 unfold b4l
 rw [if_neg (by simp),c5m a a 0 (by simp)]
 rfl
theorem c2g (b:List (List y7)):∀ (xs:List (List y7)) (i:Nat),b.drop i = xs → a8e b xs i = some (.go ())
 | [],i,_ => by rw [a8e]
 | x :: xs,i,h => by
  rw [a8e,b5g h,Option.bind_some,e4j,Option.bind_some,if_neg (by simp),c2g b xs (i + 1) (a2j h)]
theorem e1a (a:List (List y7)):b2n a a = some true:=by
 unfold b2n
 rw [if_neg (by simp),c2g a a 0 (by simp)]
 rfl
theorem e1b (x:x8):b2o x x = some true:=by
 unfold b2o
 simp
theorem c0p (b:List x8):∀ (xs:List x8) (i:Nat),b.drop i = xs → a7g b xs i = some (.go ())
 | [],i,_ => by rw [a7g]
 | x :: xs,i,h => by
  rw [a7g,b5g h,Option.bind_some,e1b,Option.bind_some,if_neg (by simp),c0p b xs (i + 1) (a2j h)]
theorem d8i (a:List x8):b1b a a = some true:=by
 unfold b1b
 rw [if_neg (by simp),c0p a a 0 (by simp)]
 rfl
theorem c8e (b:List Int):∀ (xs:List Int) (i:Nat),b.drop i = xs → b1c b xs i = some (.go ())
 | [],i,_ => by rw [b1c]
 | x :: xs,i,h => by
  rw [b1c,b5g h,Option.bind_some,if_neg (by simp),c8e b xs (i + 1) (a2j h)]
theorem e8n (a:List Int):b5r a a = some true:=by
 unfold b5r
 rw [if_neg (by simp),c8e a a 0 (by simp)]
 rfl
theorem f1l (x:a0c):b7f x x = some true:=by
 unfold b7f
 simp [e1a]
theorem c8f (b:List a0c):∀ (xs:List a0c) (i:Nat),b.drop i = xs → b1a b xs i = some (.go ())
 | [],i,_ => by rw [b1a]
 | x :: xs,i,h => by
  rw [b1a,b5g h,Option.bind_some,f1l,Option.bind_some,if_neg (by simp),c8f b xs (i + 1) (a2j h)]
theorem e8o (a:List a0c):b5q a a = some true:=by
 unfold b5q
 rw [if_neg (by simp),c8f a a 0 (by simp)]
 rfl
theorem c5n (b:List (List a0c)):∀ (xs:List (List a0c)) (i:Nat),b.drop i = xs → a9m b xs i = some (.go ())
 | [],i,_ => by rw [a9m]
 | x :: xs,i,h => by
  rw [a9m,b5g h,Option.bind_some,e8o,Option.bind_some,if_neg (by simp),c5n b xs (i + 1) (a2j h)]
theorem e4k (a:List (List a0c)):b4m a a = some true:=by
 unfold b4m
 rw [if_neg (by simp),c5n a a 0 (by simp)]
 rfl
theorem e4l (x:a0a):b4n x x = some true:=by
 unfold b4n
 simp [d8i,e8n]
theorem c2h (b:List a0a):∀ (xs:List a0a) (i:Nat),b.drop i = xs → a8f b xs i = some (.go ())
 | [],i,_ => by rw [a8f]
 | x :: xs,i,h => by
  rw [a8f,b5g h,Option.bind_some,e4l,Option.bind_some,if_neg (by simp),c2h b xs (i + 1) (a2j h)]
theorem e1c (a:List a0a):b2p a a = some true:=by
 unfold b2p
 rw [if_neg (by simp),c2h a a 0 (by simp)]
 rfl
theorem e1d (x:a0b):b2q x x = some true:=by
 unfold b2q
 simp [e1c]
theorem e4m (x:a0h):a7f x x = some true:=by
 unfold a7f
 simp [e4k]
def c0q (x:y7):Nat:=x.T.length
theorem e8p (x:y7) (n:Int) (h0:0 ≤ n) (h1:n ≤ 2 ^ 30) (ok:b0f x):∃ r,b5i x n = some r ∧ (r < 0 ∨ (0 ≤ r ∧ r = n - (c0q x:Nat))):=by
 unfold b5i c0q
 have k2:=ok.2.2
 simp only [okS,maxLen] at k2
 rw [a1q (by omega)]
 split
 ·exact ⟨_,rfl,.inl (by omega)⟩
 rename_i h12
 simp only [decide_eq_true_eq] at h12
 exact ⟨_,rfl,.inr ⟨by omega,by omega⟩⟩
def b4o:List y7 → Nat
 | [] => 0
 | x :: xs => c0q x + b4o xs
def a7t (l:List y7):Nat:=l.length + b4o l
theorem c8g:∀ {l:List y7} {x:y7},x ∈ l → c0q x ≤ b4o l
 | [],_,h => by simp at h
 | y :: l,x,h => by
  rw [b4o]
  rcases List.mem_cons.1 h with rfl | h
  ·omega
  ·have:=c8g h; omega
theorem c5o:∀ (l:List y7) (n:Int),0 ≤ n → n ≤ 2 ^ 30 → (∀ a ∈ l,(b0f) a) → a8w l n = some (.ret (-1)) ∨ ∃ r,a8w l n = some (.go r) ∧ r = n - (b4o l:Nat) ∧ 0 ≤ r
 | [],n,h0,h1,ok => .inr ⟨n,rfl,by simp [b4o],h0⟩
 | a :: l,n,h0,h1,ok => by
  rw [a8w]
  obtain ⟨r,e,hr⟩:=e8p a n h0 h1 (ok a (by simp))
  rw [e,Option.bind_some]
  split
  ·exact .inl rfl
  ·rename_i h
   simp only [decide_eq_true_eq] at h
   have hr:=hr.resolve_left h
   rcases c5o l r (by omega) (by omega) (fun x hx => ok x (by simp [hx])) with h2 | ⟨r',e',g2,g3⟩
   ·exact .inl h2
   ·exact .inr ⟨r',e',by rw [g2,hr.2]; simp only [b4o]; omega,g3⟩
theorem e4n (l:List y7) (n:Int) (h0:0 ≤ n) (h1:n ≤ 2 ^ 30) (ok:(okL (b0f)) l):∃ r,b3v l n = some r ∧ (r < 0 ∨ (0 ≤ r ∧ r = n - (a7t l:Nat))):=by
 unfold b3v a7t
 have k1:=ok.1
 simp only [maxLen] at k1
 rw [a1q (by omega)]
 split
 ·exact ⟨_,rfl,.inl (by omega)⟩
 ·rename_i h
  simp only [decide_eq_true_eq] at h
  rcases c5o l (n - l.length) (by omega) (by omega) ok.2 with h2 | ⟨r',e',g1,g2⟩
  ·exact ⟨-1,by rw [h2]; rfl,.inl (by omega)⟩
  ·exact ⟨r',by rw [e']; rfl,.inr ⟨g2,by omega⟩⟩
def a9s:List (List y7) → Nat
 | [] => 0
 | x :: xs => a7t x + a9s xs
def a9t (l:List (List y7)):Nat:=l.length + a9s l
theorem b6j:∀ {l:List (List y7)} {x:(List y7)},x ∈ l → a7t x ≤ a9s l
 | [],_,h => by simp at h
 | y :: l,x,h => by
  rw [a9s]
  rcases List.mem_cons.1 h with rfl | h
  ·omega
  ·have:=b6j h; omega
theorem c2i:∀ (l:List (List y7)) (n:Int),0 ≤ n → n ≤ 2 ^ 30 → (∀ a ∈ l,(okL (b0f)) a) → a7x l n = some (.ret (-1)) ∨ ∃ r,a7x l n = some (.go r) ∧ r = n - (a9s l:Nat) ∧ 0 ≤ r
 | [],n,h0,h1,ok => .inr ⟨n,rfl,by simp [a9s],h0⟩
 | a :: l,n,h0,h1,ok => by
  rw [a7x]
  obtain ⟨r,e,hr⟩:=e4n a n h0 h1 (ok a (by simp))
  rw [e,Option.bind_some]
  split
  ·exact .inl rfl
  ·rename_i h
   simp only [decide_eq_true_eq] at h
   have hr:=hr.resolve_left h
   rcases c2i l r (by omega) (by omega) (fun x hx => ok x (by simp [hx])) with h2 | ⟨r',e',g2,g3⟩
   ·exact .inl h2
   ·exact .inr ⟨r',e',by rw [g2,hr.2]; simp only [a9s]; omega,g3⟩
theorem e1e (l:List (List y7)) (n:Int) (h0:0 ≤ n) (h1:n ≤ 2 ^ 30) (ok:(okL (okL (b0f))) l):∃ r,b2c l n = some r ∧ (r < 0 ∨ (0 ≤ r ∧ r = n - (a9t l:Nat))):=by
 unfold b2c a9t
 have k1:=ok.1
 simp only [maxLen] at k1
 rw [a1q (by omega)]
 split
 ·exact ⟨_,rfl,.inl (by omega)⟩
 ·rename_i h
  simp only [decide_eq_true_eq] at h
  rcases c2i l (n - l.length) (by omega) (by omega) ok.2 with h2 | ⟨r',e',g1,g2⟩
  ·exact ⟨-1,by rw [h2]; rfl,.inl (by omega)⟩
  ·exact ⟨r',by rw [e']; rfl,.inr ⟨g2,by omega⟩⟩
def b5s (x:x8):Nat:=x.Name.length + x.Ref.length
theorem e1f (x:x8) (n:Int) (h0:0 ≤ n) (h1:n ≤ 2 ^ 30) (ok:b1l x):∃ r,b1z x n = some r ∧ (r < 0 ∨ (0 ≤ r ∧ r = n - (b5s x:Nat))):=by
 unfold b1z b5s
 have k0:=ok.1
 simp only [okS,maxLen] at k0
 rw [a1q (by omega)]
 split
 ·exact ⟨_,rfl,.inl (by omega)⟩
 rename_i h10
 simp only [decide_eq_true_eq] at h10
 have k6:=ok.2.2.2.2.2.2.1
 simp only [okS,maxLen] at k6
 rw [a1q (by omega)]
 split
 ·exact ⟨_,rfl,.inl (by omega)⟩
 rename_i h16
 simp only [decide_eq_true_eq] at h16
 exact ⟨_,rfl,.inr ⟨by omega,by omega⟩⟩
def b3l:List x8 → Nat
 | [] => 0
 | x :: xs => b5s x + b3l xs
def a9z (l:List x8):Nat:=l.length + b3l l
theorem c2j:∀ {l:List x8} {x:x8},x ∈ l → b5s x ≤ b3l l
 | [],_,h => by simp at h
 | y :: l,x,h => by
  rw [b3l]
  rcases List.mem_cons.1 h with rfl | h
  ·omega
  ·have:=c2j h; omega
theorem c0r:∀ (l:List x8) (n:Int),0 ≤ n → n ≤ 2 ^ 30 → (∀ a ∈ l,(b1l) a) → a6y l n = some (.ret (-1)) ∨ ∃ r,a6y l n = some (.go r) ∧ r = n - (b3l l:Nat) ∧ 0 ≤ r
 | [],n,h0,h1,ok => .inr ⟨n,rfl,by simp [b3l],h0⟩
 | a :: l,n,h0,h1,ok => by
  rw [a6y]
  obtain ⟨r,e,hr⟩:=e1f a n h0 h1 (ok a (by simp))
  rw [e,Option.bind_some]
  split
  ·exact .inl rfl
  ·rename_i h
   simp only [decide_eq_true_eq] at h
   have hr:=hr.resolve_left h
   rcases c0r l r (by omega) (by omega) (fun x hx => ok x (by simp [hx])) with h2 | ⟨r',e',g2,g3⟩
   ·exact .inl h2
   ·exact .inr ⟨r',e',by rw [g2,hr.2]; simp only [b3l]; omega,g3⟩
theorem d8j (l:List x8) (n:Int) (h0:0 ≤ n) (h1:n ≤ 2 ^ 30) (ok:(okL (b1l)) l):∃ r,b0m l n = some r ∧ (r < 0 ∨ (0 ≤ r ∧ r = n - (a9z l:Nat))):=by
 unfold b0m a9z
 have k1:=ok.1
 simp only [maxLen] at k1
 rw [a1q (by omega)]
 split
 ·exact ⟨_,rfl,.inl (by omega)⟩
 ·rename_i h
  simp only [decide_eq_true_eq] at h
  rcases c0r l (n - l.length) (by omega) (by omega) ok.2 with h2 | ⟨r',e',g1,g2⟩
  ·exact ⟨-1,by rw [h2]; rfl,.inl (by omega)⟩
  ·exact ⟨r',by rw [e']; rfl,.inr ⟨g2,by omega⟩⟩
def b8u (l:List Int):Nat:=l.length
theorem e8q (l:List Int) (n:Int) (h0:0 ≤ n) (h1:n ≤ 2 ^ 30) (ok:(okL (okI .i64)) l):∃ r,b5h l n = some r ∧ (r < 0 ∨ (0 ≤ r ∧ r = n - (b8u l:Nat))):=by
 unfold b5h b8u
 have k1:=ok.1
 simp only [maxLen] at k1
 rw [a1q (by omega)]
 split
 ·exact ⟨_,rfl,.inl (by omega)⟩
 ·rename_i h
  simp only [decide_eq_true_eq] at h
  exact ⟨_,rfl,.inr ⟨by omega,by omega⟩⟩
def b8h (x:a0c):Nat:=a9t x.Cells
theorem f1m (x:a0c) (n:Int) (h0:0 ≤ n) (h1:n ≤ 2 ^ 30) (ok:b3e x):∃ r,b7a x n = some r ∧ (r < 0 ∨ (0 ≤ r ∧ r = n - (b8h x:Nat))):=by
 unfold b7a b8h
 obtain ⟨r1,e1,hr1⟩:=e1e x.Cells n (by omega) (by omega) ok.2
 rw [e1,Option.bind_some]
 split
 ·exact ⟨_,rfl,.inl (by omega)⟩
 rename_i h11
 simp only [decide_eq_true_eq] at h11
 have hr1:=hr1.resolve_left h11
 exact ⟨_,rfl,.inr ⟨by omega,by omega⟩⟩
def a8m:List a0c → Nat
 | [] => 0
 | x :: xs => b8h x + a8m xs
def b1t (l:List a0c):Nat:=l.length + a8m l
theorem b8v:∀ {l:List a0c} {x:a0c},x ∈ l → b8h x ≤ a8m l
 | [],_,h => by simp at h
 | y :: l,x,h => by
  rw [a8m]
  rcases List.mem_cons.1 h with rfl | h
  ·omega
  ·have:=b8v h; omega
theorem c8h:∀ (l:List a0c) (n:Int),0 ≤ n → n ≤ 2 ^ 30 → (∀ a ∈ l,(b3e) a) → b0n l n = some (.ret (-1)) ∨ ∃ r,b0n l n = some (.go r) ∧ r = n - (a8m l:Nat) ∧ 0 ≤ r
 | [],n,h0,h1,ok => .inr ⟨n,rfl,by simp [a8m],h0⟩
 | a :: l,n,h0,h1,ok => by
  rw [b0n]
  obtain ⟨r,e,hr⟩:=f1m a n h0 h1 (ok a (by simp))
  rw [e,Option.bind_some]
  split
  ·exact .inl rfl
  ·rename_i h
   simp only [decide_eq_true_eq] at h
   have hr:=hr.resolve_left h
   rcases c8h l r (by omega) (by omega) (fun x hx => ok x (by simp [hx])) with h2 | ⟨r',e',g2,g3⟩
   ·exact .inl h2
   ·exact .inr ⟨r',e',by rw [g2,hr.2]; simp only [a8m]; omega,g3⟩
theorem e8r (l:List a0c) (n:Int) (h0:0 ≤ n) (h1:n ≤ 2 ^ 30) (ok:(okL (b3e)) l):∃ r,b5j l n = some r ∧ (r < 0 ∨ (0 ≤ r ∧ r = n - (b1t l:Nat))):=by
 unfold b5j b1t
 have k1:=ok.1
 simp only [maxLen] at k1
 rw [a1q (by omega)]
 split
 ·exact ⟨_,rfl,.inl (by omega)⟩
 ·rename_i h
  simp only [decide_eq_true_eq] at h
  rcases c8h l (n - l.length) (by omega) (by omega) ok.2 with h2 | ⟨r',e',g1,g2⟩
  ·exact ⟨-1,by rw [h2]; rfl,.inl (by omega)⟩
  ·exact ⟨r',by rw [e']; rfl,.inr ⟨g2,by omega⟩⟩
def b3a:List (List a0c) → Nat
 | [] => 0
 | x :: xs => b1t x + b3a xs
def b1p (l:List (List a0c)):Nat:=l.length + b3a l
theorem b7q:∀ {l:List (List a0c)} {x:(List a0c)},x ∈ l → b1t x ≤ b3a l
 | [],_,h => by simp at h
 | y :: l,x,h => by
  rw [b3a]
  rcases List.mem_cons.1 h with rfl | h
  ·omega
  ·have:=b7q h; omega
theorem c5p:∀ (l:List (List a0c)) (n:Int),0 ≤ n → n ≤ 2 ^ 30 → (∀ a ∈ l,(okL (b3e)) a) → a8x l n = some (.ret (-1)) ∨ ∃ r,a8x l n = some (.go r) ∧ r = n - (b3a l:Nat) ∧ 0 ≤ r
 | [],n,h0,h1,ok => .inr ⟨n,rfl,by simp [b3a],h0⟩
 | a :: l,n,h0,h1,ok => by
  rw [a8x]
  obtain ⟨r,e,hr⟩:=e8r a n h0 h1 (ok a (by simp))
  rw [e,Option.bind_some]
  split
  ·exact .inl rfl
  ·rename_i h
   simp only [decide_eq_true_eq] at h
   have hr:=hr.resolve_left h
   rcases c5p l r (by omega) (by omega) (fun x hx => ok x (by simp [hx])) with h2 | ⟨r',e',g2,g3⟩
   ·exact .inl h2
   ·exact .inr ⟨r',e',by rw [g2,hr.2]; simp only [b3a]; omega,g3⟩
theorem e4o (l:List (List a0c)) (n:Int) (h0:0 ≤ n) (h1:n ≤ 2 ^ 30) (ok:(okL (okL (b3e))) l):∃ r,b3w l n = some r ∧ (r < 0 ∨ (0 ≤ r ∧ r = n - (b1p l:Nat))):=by
 unfold b3w b1p
 have k1:=ok.1
 simp only [maxLen] at k1
 rw [a1q (by omega)]
 split
 ·exact ⟨_,rfl,.inl (by omega)⟩
 ·rename_i h
  simp only [decide_eq_true_eq] at h
  rcases c5p l (n - l.length) (by omega) (by omega) ok.2 with h2 | ⟨r',e',g1,g2⟩
  ·exact ⟨-1,by rw [h2]; rfl,.inl (by omega)⟩
  ·exact ⟨r',by rw [e']; rfl,.inr ⟨g2,by omega⟩⟩
def b6k (x:a0a):Nat:=x.Name.length + a9z x.Columns + b8u x.Unique
def b5t:List a0a → Nat
 | [] => 0
 | x :: xs => b6k x + b5t xs
def b2w (l:List a0a):Nat:=l.length + b5t l
theorem b8w:∀ {l:List a0a} {x:a0a},x ∈ l → b6k x ≤ b5t l
 | [],_,h => by simp at h
 | y :: l,x,h => by
  rw [b5t]
  rcases List.mem_cons.1 h with rfl | h
  ·omega
  ·have:=b8w h; omega
def b5u (x:a0b):Nat:=b2w x.Tables
theorem e4p (x:a0a) (n:Int) (h0:0 ≤ n) (h1:n ≤ 2 ^ 30) (ok:b3t x):∃ r,b3u x n = some r ∧ (r < 0 ∨ (0 ≤ r ∧ r = n - (b6k x:Nat))):=by
 unfold b3u b6k
 have k0:=ok.1
 simp only [okS,maxLen] at k0
 rw [a1q (by omega)]
 split
 ·exact ⟨_,rfl,.inl (by omega)⟩
 rename_i h10
 simp only [decide_eq_true_eq] at h10
 obtain ⟨r1,e1,hr1⟩:=d8j x.Columns (n - x.Name.length) (by omega) (by omega) ok.2.1
 rw [e1,Option.bind_some]
 split
 ·exact ⟨_,rfl,.inl (by omega)⟩
 rename_i h11
 simp only [decide_eq_true_eq] at h11
 have hr1:=hr1.resolve_left h11
 obtain ⟨r2,e2,hr2⟩:=e8q x.Unique r1 (by omega) (by omega) ok.2.2.1
 rw [e2,Option.bind_some]
 split
 ·exact ⟨_,rfl,.inl (by omega)⟩
 rename_i h12
 simp only [decide_eq_true_eq] at h12
 have hr2:=hr2.resolve_left h12
 exact ⟨_,rfl,.inr ⟨by omega,by omega⟩⟩
theorem c2k:∀ (l:List a0a) (n:Int),0 ≤ n → n ≤ 2 ^ 30 → (∀ a ∈ l,(b3t) a) → a7w l n = some (.ret (-1)) ∨ ∃ r,a7w l n = some (.go r) ∧ r = n - (b5t l:Nat) ∧ 0 ≤ r
 | [],n,h0,h1,ok => .inr ⟨n,rfl,by simp [b5t],h0⟩
 | a :: l,n,h0,h1,ok => by
  rw [a7w]
  obtain ⟨r,e,hr⟩:=e4p a n h0 h1 (ok a (by simp))
  rw [e,Option.bind_some]
  split
  ·exact .inl rfl
  ·rename_i h
   simp only [decide_eq_true_eq] at h
   have hr:=hr.resolve_left h
   rcases c2k l r (by omega) (by omega) (fun x hx => ok x (by simp [hx])) with h2 | ⟨r',e',g2,g3⟩
   ·exact .inl h2
   ·exact .inr ⟨r',e',by rw [g2,hr.2]; simp only [b5t]; omega,g3⟩
theorem e1g (l:List a0a) (n:Int) (h0:0 ≤ n) (h1:n ≤ 2 ^ 30) (ok:(okL (b3t)) l):∃ r,b2a l n = some r ∧ (r < 0 ∨ (0 ≤ r ∧ r = n - (b2w l:Nat))):=by
 unfold b2a b2w
 have k1:=ok.1
 simp only [maxLen] at k1
 rw [a1q (by omega)]
 split
 ·exact ⟨_,rfl,.inl (by omega)⟩
 ·rename_i h
  simp only [decide_eq_true_eq] at h
  rcases c2k l (n - l.length) (by omega) (by omega) ok.2 with h2 | ⟨r',e',g1,g2⟩
  ·exact ⟨-1,by rw [h2]; rfl,.inl (by omega)⟩
  ·exact ⟨r',by rw [e']; rfl,.inr ⟨g2,by omega⟩⟩
theorem e1h (x:a0b) (n:Int) (h0:0 ≤ n) (h1:n ≤ 2 ^ 30) (ok:c1p x):∃ r,b2b x n = some r ∧ (r < 0 ∨ (0 ≤ r ∧ r = n - (b5u x:Nat))):=by
 unfold b2b b5u
 obtain ⟨r0,e0,hr0⟩:=e1g x.Tables n (by omega) (by omega) ok
 rw [e0,Option.bind_some]
 split
 ·exact ⟨_,rfl,.inl (by omega)⟩
 rename_i h10
 simp only [decide_eq_true_eq] at h10
 have hr0:=hr0.resolve_left h10
 exact ⟨_,rfl,.inr ⟨by omega,by omega⟩⟩
def a8u (x:a0h):Nat:=b1p x.Tables
theorem e4q (x:a0h) (n:Int) (h0:0 ≤ n) (h1:n ≤ 2 ^ 30) (ok:c0i x):∃ r,b3x x n = some r ∧ (r < 0 ∨ (0 ≤ r ∧ r = n - (a8u x:Nat))):=by
 unfold b3x a8u
 obtain ⟨r0,e0,hr0⟩:=e4o x.Tables n (by omega) (by omega) ok.1
 rw [e0,Option.bind_some]
 split
 ·exact ⟨_,rfl,.inl (by omega)⟩
 rename_i h10
 simp only [decide_eq_true_eq] at h10
 have hr0:=hr0.resolve_left h10
 exact ⟨_,rfl,.inr ⟨by omega,by omega⟩⟩
theorem e8s (x:y7) (h:c0q x ≤ 2 ^ 30):b5l x = some x:=by
 unfold c0q at h
 unfold b5l
 rfl
theorem c5q:∀ (xs:List y7) (i:Nat) (out:List y7),(∀ a ∈ xs,c0q a ≤ 2 ^ 30) → i + xs.length = out.length → a4t xs i out = some (out.take i ++ xs)
 | [],i,out,_,h => by
  rw [a4t]; simp at h; rw [h]; simp
 | x :: xs,i,out,hx,h => by
  rw [a4t]
  have hi:i < out.length:=by simp at h; omega
  rw [e8s x (hx x (by simp)),Option.bind_some,if_pos hi,List.getElem?_eq_getElem hi,Option.bind_some,c5q xs (i + 1) _ (fun a ha => hx a (by simp [ha])) (by simp at h ⊢; omega),a6w _ _ _ _ hi]
theorem e4r (a:List y7) (h:a7t a ≤ 2 ^ 30):b3z a = some a:=by
 unfold b3z
 rw [if_pos (by unfold a7t at h; omega),c5q a 0 _ (fun a ha => by have:=c8g ha; unfold a7t at h; omega) (by simp)]
 rfl
theorem c2l:∀ (xs:List (List y7)) (i:Nat) (out:List (List y7)),(∀ a ∈ xs,a7t a ≤ 2 ^ 30) → i + xs.length = out.length → a4b xs i out = some (out.take i ++ xs)
 | [],i,out,_,h => by
  rw [a4b]; simp at h; rw [h]; simp
 | x :: xs,i,out,hx,h => by
  rw [a4b]
  have hi:i < out.length:=by simp at h; omega
  rw [e4r x (hx x (by simp)),Option.bind_some,if_pos hi,List.getElem?_eq_getElem hi,Option.bind_some,c2l xs (i + 1) _ (fun a ha => hx a (by simp [ha])) (by simp at h ⊢; omega),a6w _ _ _ _ hi]
theorem e1i (a:List (List y7)) (h:a9t a ≤ 2 ^ 30):b2f a = some a:=by
 unfold b2f
 rw [if_pos (by unfold a9t at h; omega),c2l a 0 _ (fun a ha => by have:=b6j ha; unfold a9t at h; omega) (by simp)]
 rfl
theorem e1j (x:x8) (h:b5s x ≤ 2 ^ 30):b2d x = some x:=by
 unfold b5s at h
 unfold b2d
 rfl
theorem c0s:∀ (xs:List x8) (i:Nat) (out:List x8),(∀ a ∈ xs,b5s a ≤ 2 ^ 30) → i + xs.length = out.length → a3i xs i out = some (out.take i ++ xs)
 | [],i,out,_,h => by
  rw [a3i]; simp at h; rw [h]; simp
 | x :: xs,i,out,hx,h => by
  rw [a3i]
  have hi:i < out.length:=by simp at h; omega
  rw [e1j x (hx x (by simp)),Option.bind_some,if_pos hi,List.getElem?_eq_getElem hi,Option.bind_some,c0s xs (i + 1) _ (fun a ha => hx a (by simp [ha])) (by simp at h ⊢; omega),a6w _ _ _ _ hi]
theorem d8k (a:List x8) (h:a9z a ≤ 2 ^ 30):b0o a = some a:=by
 unfold b0o
 rw [if_pos (by unfold a9z at h; omega),c0s a 0 _ (fun a ha => by have:=c2j ha; unfold a9z at h; omega) (by simp)]
 rfl
theorem c8i:∀ (xs:List Int) (i:Nat) (out:List Int),(∀ a ∈ xs,True) → i + xs.length = out.length → a5i xs i out = some (out.take i ++ xs)
 | [],i,out,_,h => by
  rw [a5i]; simp at h; rw [h]; simp
 | x :: xs,i,out,hx,h => by
  rw [a5i]
  have hi:i < out.length:=by simp at h; omega
  rw [if_pos hi,List.getElem?_eq_getElem hi,Option.bind_some,c8i xs (i + 1) _ (fun a ha => hx a (by simp [ha])) (by simp at h ⊢; omega),a6w _ _ _ _ hi]
theorem e8t (a:List Int) (h:b8u a ≤ 2 ^ 30):b5k a = some a:=by
 unfold b5k
 rw [if_pos (by unfold b8u at h; omega),c8i a 0 _ (fun _ _ => trivial) (by simp)]
 rfl
theorem f1n (x:a0c) (h:b8h x ≤ 2 ^ 30):b7b x = some x:=by
 unfold b8h at h
 unfold b7b
 simp only [e1i x.Cells (by omega),Option.bind_some]
theorem c8j:∀ (xs:List a0c) (i:Nat) (out:List a0c),(∀ a ∈ xs,b8h a ≤ 2 ^ 30) → i + xs.length = out.length → a5j xs i out = some (out.take i ++ xs)
 | [],i,out,_,h => by
  rw [a5j]; simp at h; rw [h]; simp
 | x :: xs,i,out,hx,h => by
  rw [a5j]
  have hi:i < out.length:=by simp at h; omega
  rw [f1n x (hx x (by simp)),Option.bind_some,if_pos hi,List.getElem?_eq_getElem hi,Option.bind_some,c8j xs (i + 1) _ (fun a ha => hx a (by simp [ha])) (by simp at h ⊢; omega),a6w _ _ _ _ hi]
theorem e8u (a:List a0c) (h:b1t a ≤ 2 ^ 30):b5m a = some a:=by
 unfold b5m
 rw [if_pos (by unfold b1t at h; omega),c8j a 0 _ (fun a ha => by have:=b8v ha; unfold b1t at h; omega) (by simp)]
 rfl
theorem c5r:∀ (xs:List (List a0c)) (i:Nat) (out:List (List a0c)),(∀ a ∈ xs,b1t a ≤ 2 ^ 30) → i + xs.length = out.length → a4u xs i out = some (out.take i ++ xs)
 | [],i,out,_,h => by
  rw [a4u]; simp at h; rw [h]; simp
 | x :: xs,i,out,hx,h => by
  rw [a4u]
  have hi:i < out.length:=by simp at h; omega
  rw [e8u x (hx x (by simp)),Option.bind_some,if_pos hi,List.getElem?_eq_getElem hi,Option.bind_some,c5r xs (i + 1) _ (fun a ha => hx a (by simp [ha])) (by simp at h ⊢; omega),a6w _ _ _ _ hi]
theorem e4s (a:List (List a0c)) (h:b1p a ≤ 2 ^ 30):b4a a = some a:=by
 unfold b4a
 rw [if_pos (by unfold b1p at h; omega),c5r a 0 _ (fun a ha => by have:=b7q ha; unfold b1p at h; omega) (by simp)]
 rfl
theorem e4t (x:a0a) (h:b6k x ≤ 2 ^ 30):b3y x = some x:=by
 unfold b6k at h
 unfold b3y
 simp only [d8k x.Columns (by omega),Option.bind_some,e8t x.Unique (by omega),Option.bind_some]
theorem c2n:∀ (xs:List a0a) (i:Nat) (out:List a0a),(∀ a ∈ xs,b6k a ≤ 2 ^ 30) → i + xs.length = out.length → a4a xs i out = some (out.take i ++ xs)
 | [],i,out,_,h => by
  rw [a4a]; simp at h; rw [h]; simp
 | x :: xs,i,out,hx,h => by
  rw [a4a]
  have hi:i < out.length:=by simp at h; omega
  rw [e4t x (hx x (by simp)),Option.bind_some,if_pos hi,List.getElem?_eq_getElem hi,Option.bind_some,c2n xs (i + 1) _ (fun a ha => hx a (by simp [ha])) (by simp at h ⊢; omega),a6w _ _ _ _ hi]
theorem e1k (a:List a0a) (h:b2w a ≤ 2 ^ 30):b2e a = some a:=by
 unfold b2e
 rw [if_pos (by unfold b2w at h; omega),c2n a 0 _ (fun a ha => by have:=b8w ha; unfold b2w at h; omega) (by simp)]
 rfl
theorem e1l (x:a0b) (h:b5u x ≤ 2 ^ 30):a6d x = some x:=by
 unfold b5u at h
 unfold a6d
 simp only [e1k x.Tables (by omega),Option.bind_some]
theorem e4u (x:a0h) (h:a8u x ≤ 2 ^ 30):a6z x = some x:=by
 unfold a8u at h
 unfold a6z
 simp only [e4s x.Tables (by omega),Option.bind_some]
theorem c8k:∀ (l:List y7),a3g l ≤ 8 * a7t l
 | [] => by simp [a3g]
 | x :: l => by
  have ih:=c8k l
  unfold a7t at ih ⊢
  simp only [a3g,b4o,List.length_cons,c0q]
  omega
theorem d8l (l:List y7) (h:a7t l < 2 ^ 61):a7j l:=by
 unfold a7t at h
 unfold a7j
 omega
theorem c5s:∀ (l:List (List y7)),a2n l ≤ 8 * a9t l
 | [] => by simp [a2n]
 | x :: l => by
  have ih:=c5s l
  unfold a9t at ih ⊢
  have h0:=c8k x
  simp only [a2n,a9s,List.length_cons]
  omega
theorem d5q (l:List (List y7)) (h:a9t l < 2 ^ 61):a6s l:=by
 unfold a9t at h
 refine ⟨by omega,fun x hx => ?_⟩
 have:=b6j hx
 exact d8l _ (by omega)
theorem c2o:∀ (l:List x8),a2b l ≤ 8 * a9z l
 | [] => by simp [a2b]
 | x :: l => by
  have ih:=c2o l
  unfold a9z at ih ⊢
  simp only [a2b,b3l,List.length_cons,b5s]
  omega
theorem d2v (l:List x8) (h:a9z l < 2 ^ 61):a7o l:=by
 unfold a9z at h
 unfold a7o
 omega
theorem d1r:∀ (l:List Int),a6c l ≤ 8 * b8u l
 | [] => by simp [a6c]
 | x :: l => by
  have ih:=d1r l
  unfold b8u at ih ⊢
  simp only [a6c,List.length_cons]
  omega
theorem e1m (l:List Int) (h:b8u l < 2 ^ 61):b4z l:=by
 unfold b8u at h
 unfold b4z
 omega
theorem d1s:∀ (l:List a0c),a5a l ≤ 8 * b1t l
 | [] => by simp [a5a]
 | x :: l => by
  have ih:=d1s l
  unfold b1t at ih ⊢
  have h0:=c5s x.Cells
  simp only [a5a,a8m,List.length_cons,b8h]
  omega
theorem e1n (l:List a0c) (h:b1t l < 2 ^ 61):b2z l:=by
 unfold b1t at h
 refine ⟨by omega,fun x hx => ?_⟩
 have:=b8v hx
 simp only [b8h] at this
 exact d5q _ (by omega)
theorem c8l:∀ (l:List (List a0c)),a5e l ≤ 8 * b1p l
 | [] => by simp [a5e]
 | x :: l => by
  have ih:=c8l l
  unfold b1p at ih ⊢
  have h0:=d1s x
  simp only [a5e,b3a,List.length_cons]
  omega
theorem d8m (l:List (List a0c)) (h:b1p l < 2 ^ 61):a9r l:=by
 unfold b1p at h
 refine ⟨by omega,fun x hx => ?_⟩
 have:=b7q hx
 exact e1n _ (by omega)
theorem c5t:∀ (l:List a0a),a8l l ≤ 8 * b2w l
 | [] => by simp [a8l]
 | x :: l => by
  have ih:=c5t l
  unfold b2w at ih ⊢
  have h0:=c2o x.Columns
  have h1:=d1r x.Unique
  simp only [a8l,b5t,List.length_cons,b6k]
  omega
theorem d5r (l:List a0a) (h:b2w l < 2 ^ 61):b1o l:=by
 unfold b2w at h
 refine ⟨by omega,fun x hx => ?_⟩
 have:=b8w hx
 simp only [b6k] at this
 exact ⟨d2v _ (by omega),e1m _ (by omega)⟩
theorem d5s (x:a0b):b4u x ≤ 8 * b5u x:=by
 have h0:=c5t x.Tables
 simp only [b4u,b5u]
 omega
theorem d5t (x:a0b) (h:b5u x < 2 ^ 61):c7c x:=by
 simp only [b5u] at h
 exact d5r _ (by omega)
theorem c8m (x:a0h):b2v x ≤ 8 * a8u x:=by
 have h0:=c8l x.Tables
 simp only [b2v,a8u]
 omega
theorem c0t (x:a0h) (h:a8u x < 2 ^ 61):c0o x:=by
 simp only [a8u] at h
 exact d8m _ (by omega)
end Go.R
end
section
set_option linter.all false
namespace Go.R
open Go
theorem a3x (f:x8 → Option Bool) (p:x8 → Bool):∀ (xs:List x8) (i:Nat),(∀ x ∈ xs,f x = some (p x)) → a0q f xs i = some (match xs.findIdx? p with | some k => .ret ((i + k:Nat):Int) | none => .go ())
 | [],i,_ => by rw [a0q]; rfl
 | x :: xs,i,h => by
  rw [a0q,h x (by simp),Option.bind_some,a3x f p xs (i + 1) (fun y hy => h y (by simp [hy])),List.findIdx?_cons]
  cases hp:p x with
  | true => simp
  | false =>
   cases hq:xs.findIdx? p with
   | none => simp
   | some k => simp; omega
theorem a4p (f:x8 → Option Bool) (p:x8 → Bool) (xs:List x8) (h:∀ x ∈ xs,f x = some (p x)):a1b xs f = some (match xs.findIdx? p with | some k => (k:Int) | none => -1):=by
 unfold a1b
 rw [a3x f p xs 0 h]
 cases hq:xs.findIdx? p with
 | none => rfl
 | some k => simp
theorem a4k (f:a0a → Option Bool) (p:a0a → Bool):∀ (xs:List a0a) (i:Nat),(∀ x ∈ xs,f x = some (p x)) → a0s f xs i = some (match xs.findIdx? p with | some k => .ret ((i + k:Nat):Int) | none => .go ())
 | [],i,_ => by rw [a0s]; rfl
 | x :: xs,i,h => by
  rw [a0s,h x (by simp),Option.bind_some,a4k f p xs (i + 1) (fun y hy => h y (by simp [hy])),List.findIdx?_cons]
  cases hp:p x with
  | true => simp
  | false =>
   cases hq:xs.findIdx? p with
   | none => simp
   | some k => simp; omega
theorem a5f (f:a0a → Option Bool) (p:a0a → Bool) (xs:List a0a) (h:∀ x ∈ xs,f x = some (p x)):a1e xs f = some (match xs.findIdx? p with | some k => (k:Int) | none => -1):=by
 unfold a1e
 rw [a4k f p xs 0 h]
 cases hq:xs.findIdx? p with
 | none => rfl
 | some k => simp
theorem a7s (f:x8 → Option Bool) (p:x8 → Bool) (xs:List x8) (h:∀ x ∈ xs,f x = some (p x)):a1f xs f = some (xs.any p):=by
 unfold a1f
 rw [a4p f p xs h,Option.bind_some]
 cases hq:xs.findIdx? p with
 | none =>
  have:xs.any p = false:=by
   rw [List.any_eq_false]
   intro x hx
   have:=List.findIdx?_eq_none_iff.1 hq x hx
   simp [this]
  rw [this]; rfl
 | some k =>
  have:xs.any p = true:=by
   obtain ⟨x,hx,hp⟩:∃ x,x ∈ xs ∧ p x = true:=by
    have:=List.findIdx?_eq_some_iff_getElem.1 hq
    obtain ⟨hk,h1,_⟩:=this
    exact ⟨xs[k],List.getElem_mem _,h1⟩
   exact List.any_eq_true.2 ⟨x,hx,hp⟩
  rw [this]
  simp
theorem a8p (f:a0a → Option Bool) (p:a0a → Bool) (xs:List a0a) (h:∀ x ∈ xs,f x = some (p x)):a1i xs f = some (xs.any p):=by
 unfold a1i
 rw [a5f f p xs h,Option.bind_some]
 cases hq:xs.findIdx? p with
 | none =>
  have:xs.any p = false:=by
   rw [List.any_eq_false]
   intro x hx
   have:=List.findIdx?_eq_none_iff.1 hq x hx
   simp [this]
  rw [this]; rfl
 | some k =>
  have:xs.any p = true:=by
   obtain ⟨x,hx,hp⟩:∃ x,x ∈ xs ∧ p x = true:=by
    have:=List.findIdx?_eq_some_iff_getElem.1 hq
    obtain ⟨hk,h1,_⟩:=this
    exact ⟨xs[k],List.getElem_mem _,h1⟩
   exact List.any_eq_true.2 ⟨x,hx,hp⟩
  rw [this]
  simp
def c0u (c:UInt8):Bool:=!(decide ((c.toNat:Int) < 32) || decide ((c.toNat:Int) > 126))
def d8n (t:Str):Bool:=t.all c0u && decide ((t.length:Int) ≤ 200)
theorem d1t:∀ t:Str,a9h t = some (if t.all c0u = true then .go () else .ret false)
 | [] => by rw [a9h]; simp
 | x :: xs => by
  rw [a9h,d1t xs]
  by_cases h1:(x.toNat:Int) < 32
  ·simp [h1,c0u]
  ·by_cases h2:(x.toNat:Int) > 126
   ·simp [h1,h2,c0u]
   ·simp [h1,h2,c0u]
theorem f1o (t:Str):b4g t = some (d8n t):=by
 unfold b4g d8n
 rw [d1t]
 by_cases h:t.all c0u = true
 ·simp only [h,if_pos,Option.bind_some,Bool.true_and]
 ·simp only [h,Bool.not_eq_true] at h ⊢
  simp [h]
theorem b1h (n a b:Int):a2m n a b = some (decide (a ≤ n ∧ n ≤ b)):=by
 unfold a2m
 by_cases h:a ≤ n <;> simp [h]
theorem d4c:∀ t:Str,a8z t = some (if t.all c0u = true then .go () else .ret false)
 | [] => by rw [a8z]; simp
 | x :: xs => by
  rw [a8z,d4c xs]
  by_cases h1:(x.toNat:Int) < 32
  ·simp [h1,c0u]
  ·by_cases h2:(x.toNat:Int) > 126
   ·simp [h1,h2,c0u]
   ·simp [h1,h2,c0u]
theorem f3s (t:Str):b4c t = some (d8n t):=by
 unfold b4c d8n
 rw [d4c]
 by_cases h:t.all c0u = true
 ·simp only [h,if_pos,Option.bind_some,Bool.true_and]
 ·simp only [h,Bool.not_eq_true] at h ⊢
  simp [h]
theorem d5u (n a b:Int):a2k n a b = some (decide (a ≤ n ∧ n ≤ b)):=by
 unfold a2k
 by_cases h:a ≤ n <;> simp [h]
theorem d1v:∀ a b:Str,Lib.compareBytes a b = -1 ∨ Lib.compareBytes a b = 0 ∨ Lib.compareBytes a b = 1
 | [],[] => by simp [Lib.compareBytes]
 | [],_ :: _ => by simp [Lib.compareBytes]
 | _ :: _,[] => by simp [Lib.compareBytes]
 | a :: xs,b :: ys => by
  have:=d1v xs ys
  unfold Lib.compareBytes
  split
  ·simp
  ·split
   ·simp
   ·exact this
theorem e8v (a b:UInt8):a < b ∨ a = b ∨ b < a:=by
 simp only [UInt8.lt_iff_toNat_lt,← UInt8.toNat_inj]
 omega
theorem e2z {a b:UInt8} (h:a < b):¬ b < a:=by
 simp only [UInt8.lt_iff_toNat_lt] at *
 omega
theorem c1q:∀ a b:Str,Lib.compareBytes a b = 0 ↔ a = b
 | [],[] => by simp [Lib.compareBytes]
 | [],_ :: _ => by simp [Lib.compareBytes]
 | _ :: _,[] => by simp [Lib.compareBytes]
 | a :: xs,b :: ys => by
  have ih:=c1q xs ys
  unfold Lib.compareBytes
  rcases e8v a b with h | h | h
  ·have hne:a ≠ b:=by rintro rfl; exact UInt8.lt_irrefl _ h
   simp [h,hne]
  ·subst h; simp [UInt8.lt_irrefl,ih]
  ·have hne:a ≠ b:=by rintro rfl; exact UInt8.lt_irrefl _ h
   simp [h,e2z h,hne]
theorem c7d:∀ a b:Str,Op.bytesLess a b = decide (Lib.compareBytes a b < 0)
 | [],[] => by simp [Lib.compareBytes,Op.bytesLess]
 | [],_ :: _ => by simp [Lib.compareBytes,Op.bytesLess]
 | _ :: _,[] => by simp [Lib.compareBytes,Op.bytesLess]
 | a :: xs,b :: ys => by
  have ih:=c7d xs ys
  unfold Lib.compareBytes Op.bytesLess
  rcases e8v a b with h | h | h
  ·simp [h]
  ·subst h; simp [UInt8.lt_irrefl,ih]
  ·have hne:¬ a = b:=by rintro rfl; exact UInt8.lt_irrefl _ h
   simp [h,e2z h,hne]
def d5v (a b:y7):Int:=if a.Kind ≠ b.Kind then (if a.Kind < b.Kind then -1 else 1) else if a.N ≠ b.N then (if a.N < b.N then -1 else 1) else Lib.compareBytes a.T b.T
theorem d8o (x y:Int):cmp_Compare_int x y = some (if x < y then -1 else if x > y then 1 else 0):=by
 unfold cmp_Compare_int cmp_isNaN_int
 by_cases h1:x < y <;> by_cases h2:x > y <;> simp [h1,h2]
theorem d1w (a b:y7):a5r a b = some (d5v a b):=by
 unfold a5r strings_Compare a3e b8s
 simp only [d8o,Option.bind_some]
 unfold d5v
 by_cases h1:a.Kind = b.Kind
 ·by_cases h2:a.N = b.N
  ·have e1:(if a.Kind < b.Kind then (-1:Int) else if a.Kind > b.Kind then 1 else 0) = 0:=by rw [h1]; simp
   have e2:(if a.N < b.N then (-1:Int) else if a.N > b.N then 1 else 0) = 0:=by rw [h2]; simp
   rw [e1,e2]
   simp only [a7n,h1,h2]
   by_cases h3:Lib.compareBytes a.T b.T = 0
   ·simp [h3]
   ·simp [h3]
  ·have e1:(if a.Kind < b.Kind then (-1:Int) else if a.Kind > b.Kind then 1 else 0) = 0:=by rw [h1]; simp
   rw [e1]
   rcases Int.lt_or_gt_of_ne h2 with h3 | h3
   ·simp [a7n,h1,h2,h3]
   ·have h4:¬ a.N < b.N:=by omega
    simp [a7n,h1,h2,h3,h4]
 ·rcases Int.lt_or_gt_of_ne h1 with h3 | h3
  ·simp [a7n,h1,h3]
  ·have h4:¬ a.Kind < b.Kind:=by omega
   simp [a7n,h1,h3,h4]
theorem f1p (a b:y7):a9y a b = some (d5v a b):=by
 unfold a9y a7a d5v
 have w0:w64 (1 - w64 0) = 1:=by decide
 have w1:w64 (1 - w64 2) = -1:=by decide
 by_cases h1:a.Kind = b.Kind
 ·by_cases h2:a.N = b.N
  ·simp only [h1,h2,bne_self_eq_false,Bool.false_eq_true,if_false,ne_eq,not_true_eq_false,c7d]
   by_cases h3:a.T = b.T
   ·simp [h3,(c1q b.T b.T).2 rfl]
   ·have hne:Lib.compareBytes a.T b.T ≠ 0:=fun h => h3 ((c1q _ _).1 h)
    rcases d1v a.T b.T with h | h | h
    ·simp [h3,h,w1]
    ·exact absurd h hne
    ·simp [h3,h,w0]
  ·by_cases h3:a.N < b.N <;> simp [h1,h2,h3,w0,w1]
 ·by_cases h3:a.Kind < b.Kind <;> simp [h1,h3,w0,w1]
def d1x (a:y7):Bool :=
 (decide (a.Kind = 1) && decide (-1000000000 ≤ a.N ∧ a.N ≤ 1000000000) && decide (a.T = [])) ||
 (decide (a.Kind = 2) && decide (a.N = 0) && d8n a.T) ||
 (decide (a.Kind = 3) && decide (0 ≤ a.N ∧ a.N ≤ 1) && decide (a.T = [])) ||
 (decide (a.Kind = 4) && decide (1 ≤ a.N ∧ a.N ≤ 1000000) && decide (a.T = []))
theorem e8w (a:y7):b3k a = some (d1x a):=by
 unfold b3k a7m b6o d1x
 simp only [b1h,f1o,Option.bind_some]
 by_cases h1:a.Kind = 1
 ·simp only [h1]
  by_cases c:(-1000000000 ≤ a.N ∧ a.N ≤ 1000000000) <;> by_cases d:a.T = [] <;> simp [c,d]
 by_cases h2:a.Kind = 2
 ·simp only [h2]
  by_cases c:a.N = 0 <;> simp [c]
 by_cases h3:a.Kind = 3
 ·simp only [h3]
  by_cases c:(0 ≤ a.N ∧ a.N ≤ 1) <;> by_cases d:a.T = [] <;> simp [c,d]
 by_cases h4:a.Kind = 4
 ·simp only [h4]
  by_cases c:(1 ≤ a.N ∧ a.N ≤ 1000000) <;> by_cases d:a.T = [] <;> simp [c,d]
 ·simp [h1,h2,h3,h4]
def d8p (d:List y7) (q:Nat) (x:y7):Bool :=
 d1x x && (match d[0]? with | some h => x.Kind == h.Kind | none => false) && (q == 0 || match d[q - 1]? with | some y => decide (d5v y x < 0) | none => false)
def d2w (d:List y7):List y7 → Nat → Bool
 | [],_ => true
 | x :: xs,i => d8p d i x && d2w d xs (i + 1)
def e1o (d:List y7):Bool:=d2w d d 0 && decide ((d.length:Int) ≤ 8)
theorem e8x (d:List y7) (i:Nat) (x:y7) (hi:i < d.length) (hl:d.length ≤ maxLen) (A:y7 → Option Bool) (hA:∀ a,A a = some (d1x a)) (O:y7 → y7 → Option Int) (hO:∀ a b,O a b = some (d5v a b)) :
  ((A x).bind fun r_110 =>
  if (!r_110) then
  some true
  else
  (idx d 0).bind fun x_113 =>
  if (x.Kind != x_113.Kind) then
  some true
  else
  if (decide ((i:Int) > 0)) then
  (idx d (w64 ((i:Int) - 1))).bind fun x_117 =>
  (O x_117 x).bind fun r_119 =>
  some (decide (r_119 ≥ 0))
  else
  some false:Option Bool) = some (!d8p d i x):=by
 simp only [maxLen] at hl
 obtain ⟨h,hh⟩:∃ h,d[0]? = some h:=⟨d[0],List.getElem?_eq_getElem (by omega)⟩
 have e0:idx d 0 = some h:=by rw [show (0:Int) = ((0:Nat):Int) from rfl,a4z,hh]
 rw [hA,Option.bind_some,e0]
 unfold d8p
 rw [hh]
 by_cases ha:d1x x = true
 ·by_cases hk:x.Kind = h.Kind
  ·by_cases h0:i = 0
   ·subst h0; simp [ha,hk]
   ·obtain ⟨y,hy⟩:∃ y,d[i - 1]? = some y:=⟨d[i - 1],List.getElem?_eq_getElem (by omega)⟩
    have e1:w64 ((i:Int) - 1) = ((i - 1:Nat):Int):=by rw [a1q (by omega)]; omega
    rw [e1,a4z,hy]
    have hp:0 < i:=by omega
    simp [ha,hk,h0,hO,hp]
    by_cases hc:d5v y x < 0
    ·have:¬ 0 ≤ d5v y x:=by omega
     simp [hc,this,h0]
    ·have:0 ≤ d5v y x:=by omega
     simp [hc,this,h0]
  ·simp [ha,hk]
 ·simp only [Bool.not_eq_true] at ha
  simp [ha]
theorem c5u (d:List y7) (hl:d.length ≤ maxLen):∀ (xs:List y7) (i:Nat),d.drop i = xs → a9i d xs i = some (if d2w d xs i = true then .go () else .ret false)
 | [],i,h => by rw [a9i]; simp [d2w]
 | x :: xs,i,h => by
  rw [a9i,e8x d i x (b1k h) hl b3k e8w a5r d1w,Option.bind_some,c5u d hl xs (i + 1) (a2j h)]
  cases hs:d8p d i x <;> simp [d2w,hs]
theorem e4v (d:List y7) (hl:d.length ≤ maxLen):b4h d = some (e1o d):=by
 unfold b4h e1o
 rw [c5u d hl d 0 (by simp)]
 cases d2w d d 0 <;> simp
theorem e4w (a:y7):b3j a = some (d1x a):=by
 unfold b3j d1x
 simp only [d5u,f3s,Option.bind_some]
 by_cases h1:a.Kind = 1
 ·simp only [h1]
  by_cases c:(-1000000000 ≤ a.N ∧ a.N ≤ 1000000000) <;> by_cases d:a.T = [] <;> simp [c,d]
 by_cases h2:a.Kind = 2
 ·simp only [h2]
  by_cases c:a.N = 0 <;> simp [c]
 by_cases h3:a.Kind = 3
 ·simp only [h3]
  by_cases c:(0 ≤ a.N ∧ a.N ≤ 1) <;> by_cases d:a.T = [] <;> simp [c,d]
 by_cases h4:a.Kind = 4
 ·simp only [h4]
  by_cases c:(1 ≤ a.N ∧ a.N ≤ 1000000) <;> by_cases d:a.T = [] <;> simp [c,d]
 ·simp [h1,h2,h3,h4]
theorem c2p (d:List y7) (hl:d.length ≤ maxLen):∀ (xs:List y7) (i:Nat),d.drop i = xs → a9a d xs i = some (if d2w d xs i = true then .go () else .ret false)
 | [],i,h => by rw [a9a]; simp [d2w]
 | x :: xs,i,h => by
  rw [a9a,e8x d i x (b1k h) hl b3j e4w a9y f1p,Option.bind_some,c2p d hl xs (i + 1) (a2j h)]
  cases hs:d8p d i x <;> simp [d2w,hs]
theorem e1p (d:List y7):b4d d = some (e1o d):=by
 unfold b4d e1o
 by_cases h:(d.length:Int) > 4096
 ·rw [if_pos (by simpa using h)]
  have:¬ (d.length:Int) ≤ 8:=by omega
  simp [this]
 ·rw [if_neg (by simpa using h),c2p d (by simp only [maxLen]; omega) d 0 (by simp)]
  cases d2w d d 0 <;> simp
def isLet (c:Int):Bool:=(decide (97 ≤ c) && decide (c ≤ 122)) || (decide (65 ≤ c) && decide (c ≤ 90)) || c == 95
def c8n (c:Int):Bool:=decide (48 ≤ c) && decide (c ≤ 57)
theorem c8o (c:Int):a7y c = some (isLet c):=by
 unfold a7y isLet
 by_cases h1:97 ≤ c <;> by_cases h2:c ≤ 122 <;> by_cases h3:65 ≤ c <;> by_cases h4:c ≤ 90 <;> by_cases h5:c = 95 <;> simp [h1,h2,h3,h4,h5]
theorem e1q (c:Int):b2g c = some (c8n c):=by
 unfold b2g c8n
 by_cases h1:48 ≤ c <;> simp [h1]
theorem e4x (c:Int):b4f c = some (c8n c):=by
 unfold b4f c8n
 by_cases h1:48 ≤ c <;> simp [h1]
def b8x (b:UInt8):Bool:=isLet b.toNat || c8n b.toNat
def b0a (t:Str):Bool:=decide (1 ≤ t.length) && decide (t.length ≤ 40) && isLet (t.headD 0).toNat && (t.drop 1).all b8x
theorem c5v:∀ (t:Str),a4v t = some (if t.all b8x then .go () else .ret false)
 | [] => by rw [a4v]; rfl
 | c :: t => by
  rw [a4v,c8o,Option.bind_some,e1q,c5v t]
  cases h1:isLet (c.toNat:Int) <;> cases h2:c8n (c.toNat:Int) <;> simp [b8x,h1,h2]
theorem e4y (t:Str):b4b t = some (b0a t):=by
 unfold b4b b0a
 cases t with
 | nil => rfl
 | cons c t =>
  have e:idx (c :: t) 0 = some c:=rfl
  rw [e,Option.bind_some,c8o,Option.bind_some,c5v]
  have e1:decide (((c :: t).length:Int) < 1) = false:=decide_eq_false (by simp only [List.length_cons]; omega)
  have e2:decide (1 ≤ (c :: t).length) = true:=decide_eq_true (by simp only [List.length_cons]; omega)
  rw [e1,e2]
  by_cases h:(c :: t).length ≤ 40
  ·have e3:decide (((c :: t).length:Int) > 40) = false:=decide_eq_false (by omega)
   have e4:decide ((c :: t).length ≤ 40) = true:=decide_eq_true h
   rw [e3,e4]
   cases h1:isLet (c.toNat:Int) <;> cases h3:t.all b8x <;> simp [h1,h3]
  ·have e3:decide (((c :: t).length:Int) > 40) = true:=decide_eq_true (by omega)
   have e4:decide ((c :: t).length ≤ 40) = false:=decide_eq_false h
   rw [e3,e4]
   simp
theorem c5w (t:Str):b0p t = some (b0a t):=by
 unfold b0p
 rw [e4y]; rfl
def d8q (p:UInt8 × Nat):Bool:=isLet p.1.toNat || (p.2 != 0 && c8n p.1.toNat)
theorem c8p:∀ (t:Str) (i:Nat),a5n t i = some (if (t.zipIdx i).all d8q then .go () else .ret false)
 | [],i => by rw [a5n]; rfl
 | c :: t,i => by
  have e0:((i:Int) == 0) = (i == 0):=by cases i <;> simp; omega
  rw [a5n,c8p t (i + 1),List.zipIdx_cons,List.all_cons,e4x,e0]
  unfold d8q isLet
  generalize (List.zipIdx t (i + 1)).all _ = A
  generalize c8n (c.toNat:Int) = D
  generalize (c.toNat:Int) = n
  by_cases h1:97 ≤ n <;> by_cases h2:n ≤ 122 <;> by_cases h3:65 ≤ n <;> by_cases h4:n ≤ 90 <;> by_cases h5:n = 95 <;> cases D <;> by_cases h0:i = 0 <;> simp [h1,h2,h3,h4,h5,h0]
theorem d8r (t:Str):b0u t = some (b0a t):=by
 unfold b0u b0a
 rw [c8p,Option.bind_some]
 have hz:∀ (r:Str) (k:Nat),(r.zipIdx (k + 1)).all d8q = r.all b8x:=by
  intro r
  induction r with
  | nil => intro k; rfl
  | cons c r ih => intro k; simp only [List.zipIdx_cons,List.all_cons,ih (k + 1)]; rfl
 cases t with
 | nil => simp [b1h]
 | cons c t =>
  rw [List.zipIdx_cons,List.all_cons,hz t 0]
  have hl:decide (1 ≤ (c :: t).length) = true:=decide_eq_true (by simp)
  have e:d8q (c,0) = isLet (c.toNat:Int):=by simp [d8q]
  rw [e,hl,b1h,Bool.decide_and]
  have e2:decide ((1:Int) ≤ ((c :: t).length:Int)) = true:=decide_eq_true (by simp only [List.length_cons]; omega)
  have e3:decide (((c :: t).length:Int) ≤ 40) = decide ((c :: t).length ≤ 40):=by rw [decide_eq_decide]; omega
  rw [e2,e3]
  show _ = some ((true && _ && isLet (c.toNat:Int)) && t.all b8x)
  cases isLet (c.toNat:Int) <;> cases t.all b8x <;> simp
def d1y (r:a0c):Prop:=∀ d ∈ r.Cells,d.length ≤ maxLen
def d1z (c:x8) (x:y7):Bool:=!decide (c.Low ≤ x.N ∧ x.N ≤ c.High)
theorem d8s (c:x8):∀ (xs:List y7) (i:Nat),a0p (fun a => a2y a c) xs i = some (.go ()) ∧ xs.any (d1z c) = false ∨ ∃ j:Nat,a0p (fun a => a2y a c) xs i = some (.ret (j:Int)) ∧ xs.any (d1z c) = true
 | [],i => .inl ⟨by rw [a0p],rfl⟩
 | x :: xs,i => by
  rw [a0p]
  have e:a2y x c = some (d1z c x):=by unfold a2y; rw [b1h,Option.bind_some]; rfl
  rw [e,Option.bind_some]
  cases h:d1z c x with
  | true => rw [if_pos rfl]; exact .inr ⟨i,rfl,by simp [h]⟩
  | false =>
   rw [if_neg (by simp)]
   rcases d8s c xs (i + 1) with ⟨h1,h2⟩ | ⟨j,h1,h2⟩
   ·exact .inl ⟨h1,by simp [h,h2]⟩
   ·exact .inr ⟨j,h1,by simp [h,h2]⟩
theorem e1r (c:x8) (d:List y7):a1n d (fun a => a2y a c) = some (d.any (d1z c)):=by
 unfold a1n a2i
 rcases d8s c d 0 with ⟨h1,h2⟩ | ⟨j,h1,h2⟩
 ·rw [h1,h2]; rfl
 ·rw [h1,h2]; simp
theorem d2a (c:x8):∀ (xs:List y7),a9b c xs = some (if (c.Kind == 1 && xs.any (d1z c)) = true then .ret 4 else .go ())
 | [] => by rw [a9b]; simp
 | x :: xs => by
  rw [a9b,d2a c xs]
  by_cases k:c.Kind = 1
  ·rw [if_pos (by simpa using k),d5u,Option.bind_some,Option.bind_some]
   have e:(!decide (c.Low ≤ x.N ∧ x.N ≤ c.High)) = d1z c x:=rfl
   rw [e]
   cases h:d1z c x <;> simp [k,h]
  ·rw [if_neg (by simpa using k),Option.bind_some,if_neg (by simp)]
   simp [k]
def d2b (c:x8) (d:List y7):Int :=
 if (match d[0]? with | some x => x.Kind != c.Kind | none => false) = true then 9 else if ¬ (c.Min ≤ d.length ∧ (d.length:Int) ≤ c.Max) then 6 else if (c.Kind == 1 && d.any (d1z c)) = true then 4 else 0
theorem e8y (c:x8) (d:List y7):((if (decide ((d.length:Int) > 0)) then (idx d 0).bind fun x_11 => some (x_11.Kind != c.Kind) else some false:Option Bool)) = some (match d[0]? with | some x => x.Kind != c.Kind | none => false):=by
 cases d with
 | nil => rfl
 | cons x xs =>
  rw [if_pos (by simp)]
  rfl
theorem f3t (c:x8) (d:List y7):a8c c d = some (d2b c d):=by
 unfold a8c d2b
 rw [e8y,Option.bind_some]
 generalize (match d[0]? with | some x => x.Kind != c.Kind | none => false) = b
 cases b with
 | true => simp
 | false =>
  simp only [Bool.false_eq_true,if_false]
  rw [b1h,Option.bind_some]
  by_cases h:c.Min ≤ d.length ∧ (d.length:Int) ≤ c.Max
  ·rw [decide_eq_true h,if_neg (not_not_intro h)]
   simp only [Bool.not_true,Bool.false_eq_true,if_false]
   by_cases k:c.Kind = 1
   ·rw [if_pos (by simpa using k),e1r,Option.bind_some]
    cases hh:d.any (d1z c) <;> simp [k]
   ·rw [if_neg (by simpa using k)]
    simp [k]
  ·rw [decide_eq_false h,if_pos h]
   simp
theorem f1q (c:x8) (d:List y7):b4e c d = some (d2b c d):=by
 unfold b4e d2b
 rw [e8y,Option.bind_some]
 generalize (match d[0]? with | some x => x.Kind != c.Kind | none => false) = b
 cases b with
 | true => simp
 | false =>
  simp only [Bool.false_eq_true,if_false]
  rw [d5u,Option.bind_some]
  by_cases h:c.Min ≤ d.length ∧ (d.length:Int) ≤ c.Max
  ·rw [decide_eq_true h,if_neg (not_not_intro h)]
   simp only [Bool.not_true,Bool.false_eq_true,if_false]
   rw [d2a]
   cases hh:(c.Kind == 1 && d.any (d1z c)) <;> simp
  ·rw [decide_eq_false h,if_pos h]
   simp
theorem f5e {α:Type} [BEq α] [LawfulBEq α] [DecidableEq α] (a b:α):(a == b) = decide (a = b):=by by_cases h:a = b <;> simp [h]
def a3u {α:Type} (f:Nat → α → Bool):List α → Nat → Bool
 | [],_ => true
 | x :: xs,i => f i x && a3u f xs (i + 1)
theorem b5v {α:Type} (f:Nat → α → Bool):∀ (xs:List α) (i:Nat),a3u f xs i = true ↔ ∀ q x,xs[q]? = some x → f (i + q) x = true
 | [],i => by simp [a3u]
 | x :: xs,i => by
  simp only [a3u,Bool.and_eq_true,b5v f xs (i + 1)]
  constructor
  ·rintro ⟨h1,h2⟩ q y hq
   cases q with
   | zero => simp at hq; subst hq; simpa using h1
   | succ q => have:=h2 q y (by simpa using hq); rw [show i + (q + 1) = i + 1 + q from by omega]; exact this
  ·intro h
   refine ⟨by simpa using h 0 x (by simp),fun q y hq => ?_⟩
   have:=h (q + 1) y (by simpa using hq)
   rw [show i + 1 + q = i + (q + 1) from by omega]; exact this
theorem d8t {α:Type} (f:Nat → α → Bool) (g:α → Bool):∀ (xs:List α) (i:Nat),a3u (fun i x => f i x && g x) xs i = (a3u f xs i && xs.all g)
 | [],i => rfl
 | x :: xs,i => by
  simp only [a3u,List.all_cons,d8t f g xs (i + 1)]
  cases f i x <;> cases g x <;> simp
theorem d8u {α:Type} {f:Nat → α → Bool} {xs:List α} {i:Nat} (h:a3u f xs i = true) {x:α} (hx:x ∈ xs):∃ q,f q x = true:=by
 obtain ⟨q,hq⟩:=List.mem_iff_getElem?.1 hx
 exact ⟨_,(b5v f xs i).1 h q x hq⟩
def atI (o:Option Nat):Int:=match o with | some k => (k:Int) | none => -1
theorem d5x {o:Option Nat}:decide (atI o < 0) = o.isNone:=by
 cases o with
 | none => rfl
 | some k => exact decide_eq_false (show ¬ ((k:Nat):Int) < 0 by omega)
def e8z (t:a0a) (name:Str):Option Nat:=t.Columns.findIdx? (fun c => c.Name == name)
def c0w (s:a0b) (name:Str):Option Nat:=s.Tables.findIdx? (fun c => c.Name == name)
theorem c5x (name:Str):∀ (xs:List a0a) (i:Nat),a8y name xs i = some (match xs.findIdx? (fun c => c.Name == name) with | some k => .ret ((i + k:Nat):Int) | none => .go ())
 | [],i => by rw [a8y]; rfl
 | x :: xs,i => by
  rw [a8y,c5x name xs (i + 1),List.findIdx?_cons]
  cases hp:(x.Name == name) with
  | true => simp
  | false =>
   cases hq:xs.findIdx? (fun c => c.Name == name) with
   | none => simp
   | some k => simp; omega
theorem d4d (s:a0b) (name:Str):a6b s name = some (atI (c0w s name)):=by
 unfold a6b c0w atI
 rw [c5x]
 cases hq:s.Tables.findIdx? (fun c => c.Name == name) <;> simp
theorem e1s (t:a0a) (name:Str):a5v t name = some (atI (e8z t name)):=by
 unfold a5v
 rw [a4p _ (fun c => c.Name == name) t.Columns (fun x _ => by unfold a6k; rfl)]
 rfl
theorem c7e (s:a0b) (name:Str):a1p s name = some (atI (c0w s name)):=by
 unfold a1p
 rw [a5f _ (fun c => c.Name == name) s.Tables (fun x _ => by unfold a6l; rfl)]
 rfl
def c5y (c:x8):Bool :=
  b0a c.Name && decide (0 ≤ c.Min ∧ c.Min ≤ 1) && decide (1 ≤ c.Max ∧ c.Max ≤ 8) &&
  ((decide (c.Kind = 1) && decide (-1000000000 ≤ c.Low ∧ c.Low ≤ c.High ∧ c.High ≤ 1000000000) && decide (c.Ref = []) && !c.Strong) ||
   ((decide (c.Kind = 2) || decide (c.Kind = 3)) && decide (c.Low = 0) && decide (c.High = 0) && decide (c.Ref = []) && !c.Strong) ||
   (decide (c.Kind = 4) && decide (c.Low = 0) && decide (c.High = 0) && b0a c.Ref && decide (c.Min = 0)))
theorem e1t (c:x8):b2j c = some (c5y c):=by
 unfold b2j a7m c5y
 simp only [d8r,b1h,Option.bind_some,f5e]
 by_cases h1:0 ≤ c.Min ∧ c.Min ≤ 1
 ·by_cases h2:1 ≤ c.Max ∧ c.Max ≤ 8
  ·cases hn:b0a c.Name with
   | false => simp
   | true =>
    simp only [h1,h2,and_self,decide_true,Bool.not_true,Bool.false_eq_true,if_false,Option.bind_some,Bool.true_and]
    by_cases k1:c.Kind = 1
    ·simp only [k1]
     by_cases a1:-1000000000 ≤ c.Low ∧ c.Low ≤ c.High ∧ c.High ≤ 1000000000
     ·have e1:-1000000000 ≤ c.Low ∧ c.Low ≤ 1000000000:=by omega
      have e2:-1000000000 ≤ c.High ∧ c.High ≤ 1000000000:=by omega
      simp [a1,e1,e2]
     ·by_cases e1:-1000000000 ≤ c.Low ∧ c.Low ≤ 1000000000
      ·by_cases e2:-1000000000 ≤ c.High ∧ c.High ≤ 1000000000
       ·have e3:¬ c.Low ≤ c.High:=by omega
        simp [a1,e1,e2,e3]
       ·have a1':¬ (c.Low ≤ c.High ∧ c.High ≤ 1000000000):=by omega
        simp [e1,e2]
        intro p q; exact absurd ⟨p,q⟩ a1'
      ·have a2:(-1000000000 ≤ c.Low ∧ c.Low ≤ c.High ∧ c.High ≤ 1000000000) = False:=eq_false a1
       simp only [e1,a2]; simp
    ·by_cases k2:c.Kind = 2
     ·simp [k2]
     ·by_cases k3:c.Kind = 3
      ·simp [k3]
      ·by_cases k4:c.Kind = 4
       ·simp only [k4]
        by_cases a1:c.Low = 0 <;> by_cases a2:c.High = 0 <;> cases a3:b0a c.Ref <;> simp [a1,a2]
       ·simp [k1,k2,k3,k4]
  ·cases hn:b0a c.Name <;> simp [h1,h2]
 ·cases hn:b0a c.Name <;> simp [h1]
theorem d8v (c:x8):b2h c = some (c5y c):=by
 unfold b2h c5y
 simp only [c5w,d5u,Option.bind_some,f5e,bne]
 by_cases h1:0 ≤ c.Min ∧ c.Min ≤ 1
 ·by_cases h2:1 ≤ c.Max ∧ c.Max ≤ 8
  ·cases hn:b0a c.Name with
   | false => simp
   | true =>
    by_cases hk:1 ≤ c.Kind ∧ c.Kind ≤ 4
    ·simp only [h1,h2,hk,and_self,decide_true,Bool.not_true,Bool.false_eq_true,if_false,Option.bind_some,Bool.true_and]
     by_cases k1:c.Kind = 1
     ·simp only [k1]
      by_cases a1:-1000000000 ≤ c.Low ∧ c.Low ≤ c.High ∧ c.High ≤ 1000000000
      ·have e1:-1000000000 ≤ c.Low ∧ c.Low ≤ c.High:=by omega
       have e2:c.Low ≤ c.High ∧ c.High ≤ 1000000000:=by omega
       simp [a1,e1,e2]
      ·by_cases e1:-1000000000 ≤ c.Low ∧ c.Low ≤ c.High
       ·have e2:¬ (c.Low ≤ c.High ∧ c.High ≤ 1000000000):=by omega
        simp [a1,e1,e2]
       ·simp [a1,e1]
     ·by_cases a1:c.Low = 0
      ·by_cases a2:c.High = 0
       ·by_cases k4:c.Kind = 4
        ·cases a3:b0a c.Ref <;> simp [k4,a1,a2]
        ·have:c.Kind = 2 ∨ c.Kind = 3:=by omega
         by_cases a4:c.Ref = [] <;> rcases this with k | k <;> simp [k,a1,a2,a4]
       ·simp [k1,a1,a2]
      ·simp [k1,a1]
    ·have k1:¬ c.Kind = 1:=by omega
     have k2:¬ c.Kind = 2:=by omega
     have k3:¬ c.Kind = 3:=by omega
     have k4:¬ c.Kind = 4:=by omega
     simp [hk,k1,k2,k3,k4]
  ·cases hn:b0a c.Name <;> by_cases hk:1 ≤ c.Kind ∧ c.Kind ≤ 4 <;> simp [h1,h2,hk]
 ·cases hn:b0a c.Name <;> by_cases hk:1 ≤ c.Kind ∧ c.Kind ≤ 4 <;> simp [h1,hk]
theorem e9a {c:x8} (h:c5y c = true):(c.Kind = 4 ↔ c.Ref ≠ []):=by
 unfold c5y at h
 simp only [Bool.and_eq_true,Bool.or_eq_true,decide_eq_true_eq] at h
 rcases h.2 with (⟨⟨⟨h1,_⟩,h2⟩,_⟩ | ⟨⟨⟨⟨h1,_⟩,_⟩,h2⟩,_⟩) | ⟨⟨⟨⟨h1,_⟩,_⟩,h2⟩,_⟩
 ·simp [h1,h2]
 ·have:c.Kind ≠ 4:=by omega
  simp [this,h2]
 ·refine ⟨fun _ he => ?_,fun _ => h1⟩
  rw [he] at h2
  cases h2
def b7r (t:a0a) (i:Nat) (x:x8):Bool:=c5y x && !(t.Columns.take i).any (fun c => c.Name == x.Name)
theorem e4z {t:a0a} {i:Nat} {x:x8} (hx:t.Columns[i]? = some x):(atI (e8z t x.Name) != (i:Int)) = (t.Columns.take i).any (fun c => c.Name == x.Name):=by
 have hi:=(List.getElem?_eq_some_iff.1 hx).1
 have hxe:=(List.getElem?_eq_some_iff.1 hx).2
 by_cases ha:(t.Columns.take i).any (fun c => c.Name == x.Name) = true
 ·rw [ha]
  obtain ⟨c,hc,hn⟩:=List.any_eq_true.1 ha
  obtain ⟨j,hj⟩:=List.mem_iff_getElem?.1 hc
  have hji:j < i:=by have:=(List.getElem?_eq_some_iff.1 hj).1; simp at this; omega
  rw [List.getElem?_take_of_lt hji] at hj
  have hne:e8z t x.Name ≠ some i:=by
   intro he
   obtain ⟨_,_,h3⟩:=List.findIdx?_eq_some_iff_getElem.1 he
   have:=h3 j hji
   rw [(List.getElem?_eq_some_iff.1 hj).2] at this
   exact this hn
  cases hk:e8z t x.Name with
  | none => simp [atI]
  | some k =>
   have:k ≠ i:=fun h => hne (by rw [hk,h])
   simp [atI]; omega
 ·simp only [Bool.not_eq_true] at ha
  rw [ha]
  have:e8z t x.Name = some i:=by
   refine List.findIdx?_eq_some_iff_getElem.2 ⟨hi,by simp [hxe],fun j hj => ?_⟩
   have hm:t.Columns[j]'(by omega) ∈ t.Columns.take i:=by
    rw [List.mem_iff_getElem?]
    exact ⟨j,by rw [List.getElem?_take_of_lt hj]; simp⟩
   have:=List.any_eq_false.1 ha _ hm
   simpa using this
  rw [this]
  simp [atI]
theorem c5z (t:a0a):∀ (xs:List x8) (i:Nat),t.Columns.drop i = xs → a9e t xs i = some (if a3u (b7r t) xs i = true then .go () else .ret false)
 | [],i,_ => by rw [a9e]; simp [a3u]
 | x :: xs,i,h => by
  have hx:t.Columns[i]? = some x:=by rw [← a4z]; exact b5g h
  rw [a9e,e1t,Option.bind_some,e1s,Option.bind_some,e4z hx,c5z t xs (i + 1) (a2j h)]
  cases h1:c5y x <;> cases h2:(t.Columns.take i).any (fun c => c.Name == x.Name) <;> simp [a3u,b7r,h1,h2]
theorem c2r (t:a0a) (x:x8) (i:Nat) (hi:i ≤ t.Columns.length) (hl:t.Columns.length ≤ 6):∀ (n k fuel:Nat),n + k = i → n < fuel → a3d i t x fuel k = some (if ((t.Columns.take i).drop k).any (fun c => c.Name == x.Name) = true then .ret false else .go ())
 | _,_,0,_,h => by omega
 | 0,k,fuel + 1,hk,_ => by
  rw [a3d,if_neg (by simp; omega),List.drop_of_length_le (by simp; omega)]; simp
 | n + 1,k,fuel + 1,hk,hf => by
  obtain ⟨y,hy⟩:∃ y,t.Columns[k]? = some y:=⟨t.Columns[k]'(by omega),List.getElem?_eq_getElem (by omega)⟩
  have hd:(t.Columns.take i).drop k = y :: (t.Columns.take i).drop (k + 1):=by
   have hk2:k < (t.Columns.take i).length:=by simp; omega
   rw [List.drop_eq_getElem_cons hk2]
   congr 1
   rw [List.getElem_take]
   exact (List.getElem?_eq_some_iff.1 hy).2
  have ew:w64 ((k:Int) + 1) = ((k + 1:Nat):Int):=by rw [a1q (by omega)]; omega
  rw [a3d,if_pos (by simp; omega),a4z,hy,Option.bind_some,ew,c2r t x i hi hl n (k + 1) fuel (by omega) (by omega),hd]
  cases hn:(y.Name == x.Name) <;> simp [hn]
theorem c2s (t:a0a) (hl:t.Columns.length ≤ 6):∀ (xs:List x8) (i:Nat),t.Columns.drop i = xs → a4c t xs i = some (if a3u (b7r t) xs i = true then .go () else .ret false)
 | [],i,_ => by rw [a4c]; simp [a3u]
 | x :: xs,i,h => by
  have hi:=b1k h
  have hf:2 ^ 40 < FUEL:=by unfold FUEL; decide
  have e:=c2r t x i (by omega) hl i 0 FUEL (by omega) (by omega)
  rw [List.drop_zero] at e
  have e':a3d i t x FUEL 0 = _:=e
  rw [a4c,d8v,Option.bind_some,e',c2s t hl xs (i + 1) (a2j h)]
  cases h1:c5y x <;> cases h2:(t.Columns.take i).any (fun c => c.Name == x.Name) <;> simp [a3u,b7r,h1,h2]
def a6m (t:a0a) (i:Nat) (x:Int):Bool:=decide (0 ≤ x ∧ x ≤ (t.Columns.length:Int) - 1) && (i == 0 || match t.Unique[i - 1]? with | some y => decide (y < x) | none => false)
theorem f2r (t:a0a) (i:Nat) (x:Int) (hi:i < t.Unique.length) (hl:t.Unique.length ≤ 6) (hc:t.Columns.length ≤ 6) (W:Int → Int → Int → Option Bool) (hW:∀ n a b,W n a b = some (decide (a ≤ n ∧ n ≤ b))) :
  ((W x 0 (w64 ((t.Columns.length:Int) - 1))).bind fun r_176 =>
  if (!r_176) then
  some true
  else
  if (decide ((i:Int) > 0)) then
  (idx t.Unique (w64 ((i:Int) - 1))).bind fun x_180 =>
  some (decide (x_180 ≥ x))
  else
  some false:Option Bool) = some (!a6m t i x):=by
 rw [hW,Option.bind_some,a1q (n:=(t.Columns.length:Int) - 1) (by omega)]
 unfold a6m
 by_cases h:0 ≤ x ∧ x ≤ (t.Columns.length:Int) - 1
 ·by_cases h0:i = 0
  ·subst h0; simp [h]
  ·obtain ⟨y,hy⟩:∃ y,t.Unique[i - 1]? = some y:=⟨t.Unique[i - 1],List.getElem?_eq_getElem (by omega)⟩
   have e1:w64 ((i:Int) - 1) = ((i - 1:Nat):Int):=by rw [a1q (by omega)]; omega
   rw [e1,a4z,hy]
   have hp:0 < i:=by omega
   by_cases hc:y < x
   ·have:¬ x ≤ y:=by omega
    simp [h,h0,hp,hc,this]
   ·have:x ≤ y:=by omega
    simp [h,h0,hp,hc,this]
 ·simp [h]
theorem c6a (t:a0a) (hl:t.Unique.length ≤ 6) (hc:t.Columns.length ≤ 6):∀ (xs:List Int) (i:Nat),t.Unique.drop i = xs → a9f t xs i = some (if a3u (a6m t) xs i = true then .go () else .ret false)
 | [],i,_ => by rw [a9f]; simp [a3u]
 | x :: xs,i,h => by
  rw [a9f,f2r t i x (b1k h) hl hc a2m b1h,Option.bind_some,c6a t hl hc xs (i + 1) (a2j h)]
  cases h1:a6m t i x <;> simp [a3u,h1]
theorem c2t (t:a0a) (hl:t.Unique.length ≤ 6) (hc:t.Columns.length ≤ 6):∀ (xs:List Int) (i:Nat),t.Unique.drop i = xs → a4d t xs i = some (if a3u (a6m t) xs i = true then .go () else .ret false)
 | [],i,_ => by rw [a4d]; simp [a3u]
 | x :: xs,i,h => by
  rw [a4d,f2r t i x (b1k h) hl hc a2k d5u,Option.bind_some,c2t t hl hc xs (i + 1) (a2j h)]
  cases h1:a6m t i x <;> simp [a3u,h1]
theorem e9b (t:a0a) (h:a3u (a6m t) t.Unique 0 = true):∀ (i:Nat) x,t.Unique[i]? = some x → (i:Int) ≤ x
 | 0,x,hx => by
  have:=(b5v _ _ _).1 h 0 x hx
  simp only [a6m,Bool.and_eq_true,decide_eq_true_eq] at this
  exact this.1.1
 | i + 1,x,hx => by
  have hl:=(List.getElem?_eq_some_iff.1 hx).1
  obtain ⟨y,hy⟩:∃ y,t.Unique[i]? = some y:=⟨t.Unique[i],List.getElem?_eq_getElem (by omega)⟩
  have h1:=e9b t h i y hy
  have:=(b5v _ _ _).1 h (i + 1) x hx
  simp only [a6m,Bool.and_eq_true,decide_eq_true_eq,Bool.or_eq_true,Nat.zero_add,Nat.add_sub_cancel,hy] at this
  rcases this.2 with h2 | h2
  ·simp at h2
  ·omega
theorem e3a (t:a0a) (h:a3u (a6m t) t.Unique 0 = true):t.Unique.length ≤ t.Columns.length:=by
 rcases Nat.eq_zero_or_pos t.Unique.length with h0 | h0
 ·omega
 ·obtain ⟨x,hx⟩:∃ x,t.Unique[t.Unique.length - 1]? = some x:=⟨t.Unique[t.Unique.length - 1],List.getElem?_eq_getElem (by omega)⟩
  have h1:=e9b t h _ x hx
  have:=(b5v _ _ _).1 h _ x hx
  simp only [a6m,Bool.and_eq_true,decide_eq_true_eq] at this
  have:=this.1.2
  omega
def c9h (t:a0a):Bool:=b0a t.Name && decide (1 ≤ (t.Columns.length:Int) ∧ (t.Columns.length:Int) ≤ 6) && a3u (b7r t) t.Columns 0 && a3u (a6m t) t.Unique 0
theorem e5a (t:a0a):b1n t = some (c9h t):=by
 unfold b1n c9h
 rw [d8r,Option.bind_some,b1h,Option.bind_some]
 cases hn:b0a t.Name with
 | false => simp
 | true =>
  by_cases hc:1 ≤ (t.Columns.length:Int) ∧ (t.Columns.length:Int) ≤ 6
  ·by_cases hu:(t.Unique.length:Int) > (t.Columns.length:Int)
   ·have:a3u (a6m t) t.Unique 0 = false:=by
     cases hh:a3u (a6m t) t.Unique 0 with
     | false => rfl
     | true => have:=e3a t hh; omega
    simp [hc,hu,this]
   ·rw [c5z t t.Columns 0 (by simp),c6a t (by omega) (by omega) t.Unique 0 (by simp)]
    cases h1:a3u (b7r t) t.Columns 0 <;> cases h2:a3u (a6m t) t.Unique 0 <;> simp [hc,hu]
  ·simp [hc]
theorem e1u (t:a0a):a9w t = some (c9h t):=by
 unfold a9w c9h
 rw [c5w,Option.bind_some,d5u,Option.bind_some]
 cases hn:b0a t.Name with
 | false => simp
 | true =>
  by_cases hc:1 ≤ (t.Columns.length:Int) ∧ (t.Columns.length:Int) ≤ 6
  ·by_cases hu:(t.Unique.length:Int) > 6
   ·have:a3u (a6m t) t.Unique 0 = false:=by
     cases hh:a3u (a6m t) t.Unique 0 with
     | false => rfl
     | true => have:=e3a t hh; omega
    simp [hc,hu,this]
   ·rw [c2s t (by omega) t.Columns 0 (by simp),c2t t (by omega) (by omega) t.Unique 0 (by simp)]
    cases h1:a3u (b7r t) t.Columns 0 <;> cases h2:a3u (a6m t) t.Unique 0 <;> simp [hc,hu]
  ·simp [hc]
def b3m (s:a0b) (c:x8):Bool:=!(decide (c.Kind = 4) && (c0w s c.Ref).isNone)
def b1q (s:a0b) (i:Nat) (x:a0a):Bool:=c9h x && (i == 0 || match s.Tables[i - 1]? with | some y => Op.bytesLess y.Name x.Name | none => false)
def b0b (s:a0b):Bool:=decide (1 ≤ (s.Tables.length:Int) ∧ (s.Tables.length:Int) ≤ 4) && a3u (b1q s) s.Tables 0 && s.Tables.all (fun t => t.Columns.all (b3m s))
theorem e3c (s:a0b) (i:Nat) (x:a0a) (hi:i < s.Tables.length) (hl:s.Tables.length ≤ 4) (T:a0a → Option Bool) (hT:∀ t,T t = some (c9h t)) :
  ((T x).bind fun r_79 =>
  if (!r_79) then
  some true
  else
  if (decide ((i:Int) > 0)) then
  (idx s.Tables (w64 ((i:Int) - 1))).bind fun x_83 =>
  some (!Op.bytesLess x_83.Name x.Name)
  else
  some false:Option Bool) = some (!b1q s i x):=by
 rw [hT,Option.bind_some]
 unfold b1q
 cases c9h x with
 | false => simp
 | true =>
  by_cases h0:i = 0
  ·subst h0; simp
  ·obtain ⟨y,hy⟩:∃ y,s.Tables[i - 1]? = some y:=⟨s.Tables[i - 1],List.getElem?_eq_getElem (by omega)⟩
   have e1:w64 ((i:Int) - 1) = ((i - 1:Nat):Int):=by rw [a1q (by omega)]; omega
   rw [e1,a4z,hy]
   have hp:0 < i:=by omega
   simp [h0,hp]
theorem c2u (s:a0b) (hl:s.Tables.length ≤ 4):∀ (xs:List a0a) (i:Nat),s.Tables.drop i = xs → a4e s xs i = some (if a3u (b1q s) xs i = true then .go () else .ret false)
 | [],i,_ => by rw [a4e]; simp [a3u]
 | x :: xs,i,h => by
  rw [a4e,e3c s i x (b1k h) hl b1n e5a,Option.bind_some,c2u s hl xs (i + 1) (a2j h)]
  cases h1:b1q s i x <;> simp [a3u,h1]
theorem e1v (s:a0b):b2k s = some (b0b s):=by
 unfold b2k b0b
 rw [b1h,Option.bind_some]
 by_cases hc:1 ≤ (s.Tables.length:Int) ∧ (s.Tables.length:Int) ≤ 4
 ·have e1:∀ c:x8,a7b c s = some (!b3m s c):=by
   intro c
   unfold a7b b3m
   by_cases k:c.Kind = 4
   ·rw [if_pos (by simpa using k),c7e,Option.bind_some,d5x]; simp [k]
   ·rw [if_neg (by simpa using k)]; simp [k]
  have e2:∀ t:a0a,a9g t s = some (!t.Columns.all (b3m s)):=by
   intro t
   unfold a9g
   rw [a7s _ (fun c => !b3m s c) t.Columns (fun x _ => e1 x),Option.bind_some,List.not_all_eq_any_not]
  rw [c2u s (by omega) s.Tables 0 (by simp),a8p _ (fun t => !t.Columns.all (b3m s)) s.Tables (fun x _ => e2 x)]
  have e3:(s.Tables.any fun t => !t.Columns.all (b3m s)) = !s.Tables.all (fun t => t.Columns.all (b3m s)):=by rw [List.not_all_eq_any_not]
  rw [e3]
  cases a3u (b1q s) s.Tables 0 <;> cases s.Tables.all (fun t => t.Columns.all (b3m s)) <;> simp [hc]
 ·simp [hc]
theorem c0x (s:a0b):∀ (xs:List x8),(∀ c ∈ xs,c5y c = true) → a7z s xs = some (if xs.all (b3m s) = true then .go () else .ret false)
 | [],_ => by rw [a7z]; simp
 | x :: xs,h => by
  have hr:=e9a (h x (by simp))
  rw [a7z,d4d,Option.bind_some,d5x,c0x s xs (fun c hc => h c (by simp [hc]))]
  by_cases k:x.Ref = []
  ·have k4:¬ x.Kind = 4:=fun hh => hr.1 hh k
   simp [k,b3m,k4]
  ·have k4:x.Kind = 4:=hr.2 k
   cases hn:(c0w s x.Ref).isNone <;> simp [k,b3m,k4,hn]
theorem c7f {t:a0a} (h:c9h t = true):∀ c ∈ t.Columns,c5y c = true:=by
 intro c hc
 simp only [c9h,Bool.and_eq_true] at h
 obtain ⟨q,hq⟩:=d8u h.1.2 hc
 simp only [b7r,Bool.and_eq_true] at hq
 exact hq.1
theorem c0y (s:a0b) (hl:s.Tables.length ≤ 4):∀ (xs:List a0a) (i:Nat),s.Tables.drop i = xs → a8a s xs i = some (if a3u (fun i x => b1q s i x && x.Columns.all (b3m s)) xs i = true then .go () else .ret false)
 | [],i,_ => by rw [a8a]; simp [a3u]
 | x :: xs,i,h => by
  rw [a8a,e3c s i x (b1k h) hl a9w e1u,Option.bind_some,c0y s hl xs (i + 1) (a2j h)]
  cases ht:b1q s i x with
  | false => simp [a3u,ht]
  | true =>
   have hb:c9h x = true:=by simp only [b1q,Bool.and_eq_true] at ht; exact ht.1
   rw [c0x s x.Columns (c7f hb)]
   cases hr:x.Columns.all (b3m s) <;> simp [a3u,ht,hr]
theorem d8w (s:a0b):a9x s = some (b0b s):=by
 unfold a9x b0b
 rw [d5u,Option.bind_some]
 by_cases hc:1 ≤ (s.Tables.length:Int) ∧ (s.Tables.length:Int) ≤ 4
 ·rw [c0y s (by omega) s.Tables 0 (by simp),d8t (b1q s) (fun x => x.Columns.all (b3m s))]
  cases a3u (b1q s) s.Tables 0 <;> cases s.Tables.all (fun t => t.Columns.all (b3m s)) <;> simp [hc]
 ·simp [hc]
theorem d2c {s:a0b} (h:b0b s = true) {t:a0a} (ht:t ∈ s.Tables):c9h t = true:=by
 simp only [b0b,Bool.and_eq_true] at h
 obtain ⟨q,hq⟩:=d8u h.1.2 ht
 simp only [b1q,Bool.and_eq_true] at hq
 exact hq.1
def b9j (t:a0a) (i:Nat) (d:List y7):Bool:=e1o d && match t.Columns[i]? with | some c => d2b c d == 0 | none => false
def c7g (t:a0a) (r:a0c):Bool:=decide (1 ≤ r.Id ∧ r.Id ≤ 1000000) && decide (r.Cells.length = t.Columns.length) && a3u (b9j t) r.Cells 0
theorem c6b (t:a0a):∀ (xs:List (List y7)) (i:Nat),i + xs.length ≤ t.Columns.length → (∀ d ∈ xs,d.length ≤ maxLen) → a9k t xs i = some (if a3u (b9j t) xs i = true then .go () else .ret false)
 | [],i,_,_ => by rw [a9k]; rfl
 | d :: xs,i,h,hd => by
  simp only [List.length_cons] at h
  obtain ⟨c,hc⟩:∃ c,t.Columns[i]? = some c:=⟨t.Columns[i]'(by omega),List.getElem?_eq_getElem (by omega)⟩
  rw [a9k,e4v d (hd d (by simp)),Option.bind_some,a4z,hc,c6b t xs (i + 1) (by omega) (fun x hx => hd x (by simp [hx]))]
  simp only [a3u,b9j,hc,Option.bind_some,f3t]
  cases e1o d <;> by_cases q:d2b c d = 0 <;> simp [q]
theorem c8q (t:a0a):∀ (xs:List (List y7)) (i:Nat),i + xs.length ≤ t.Columns.length → b0q t xs i = some (if a3u (b9j t) xs i = true then .go () else .ret false)
 | [],i,_ => by rw [b0q]; rfl
 | d :: xs,i,h => by
  simp only [List.length_cons] at h
  obtain ⟨c,hc⟩:∃ c,t.Columns[i]? = some c:=⟨t.Columns[i]'(by omega),List.getElem?_eq_getElem (by omega)⟩
  rw [b0q,e1p d,Option.bind_some,a4z,hc,c8q t xs (i + 1) (by omega)]
  simp only [a3u,b9j,hc,Option.bind_some,f1q]
  cases e1o d <;> by_cases q:d2b c d = 0 <;> simp [q]
theorem e5b (t:a0a) (r:a0c) (h:∀ d ∈ r.Cells,d.length ≤ maxLen):b4i t r = some (decide (r.Cells.length = t.Columns.length) && a3u (b9j t) r.Cells 0):=by
 unfold b4i
 by_cases e:r.Cells.length = t.Columns.length
 ·have e':((r.Cells.length:Int) != (t.Columns.length:Int)) = false:=by simp [e]
  rw [e',c6b t r.Cells 0 (by omega) h]
  cases a3u (b9j t) r.Cells 0 <;> simp [e]
 ·have e':((r.Cells.length:Int) != (t.Columns.length:Int)) = true:=by simp; omega
  rw [e']
  simp [e]
theorem e9c (t:a0a) (r:a0c):b5n t r = some (c7g t r):=by
 unfold b5n c7g
 rw [d5u,Option.bind_some]
 by_cases e:r.Cells.length = t.Columns.length
 ·have e':((r.Cells.length:Int) != (t.Columns.length:Int)) = false:=by simp [e]
  rw [e',c8q t r.Cells 0 (by omega)]
  cases decide (1 ≤ r.Id ∧ r.Id ≤ 1000000) <;> cases a3u (b9j t) r.Cells 0 <;> simp [e]
 ·have e':((r.Cells.length:Int) != (t.Columns.length:Int)) = true:=by simp; omega
  rw [e']
  cases decide (1 ≤ r.Id ∧ r.Id ≤ 1000000) <;> simp [e]
theorem d8x {r:a0c} (h:b3e r):∀ d ∈ r.Cells,d.length ≤ maxLen:=fun d hd => (h.2.2 d hd).1
theorem e9d (x y:y7):(x.Kind == y.Kind && (x.N == y.N && (x.T == y.T && true))) = decide (x = y):=by
 cases x; cases y
 rw [Bool.eq_iff_iff]
 simp
theorem d8y (a:y7):∀ d:List y7,b0r a d = some (if a ∈ d then .ret true else .go ())
 | [] => by rw [b0r]; simp
 | x :: xs => by
  rw [b0r,e9d,d8y a xs]
  by_cases h:x = a
  ·subst h; simp
  ·simp [h,Ne.symm h]
theorem f5f (d:List y7) (a:y7):b5o d a = some (decide (a ∈ d)):=by
 unfold b5o
 rw [d8y]
 by_cases h:a ∈ d <;> simp [h]
theorem c6c:∀ (xs out:List (List y7)),out.length + xs.length ≤ 2 ^ 30 → (∀ d ∈ xs,d.length ≤ 2 ^ 30) → a4w xs out = some (out ++ xs)
 | [],out,_,_ => by rw [a4w]; simp
 | x :: xs,out,h,hd => by
  simp only [List.length_cons] at h
  have:=hd x (by simp)
  rw [a4w]
  unfold a2v
  rw [if_pos (by simp; omega),Option.bind_some,if_pos (by simp; omega),c6c xs _ (by simp; omega) (fun y hy => hd y (by simp [hy]))]
  simp
theorem e5c (r:a0c) (h:r.Cells.length ≤ 2 ^ 30) (hd:∀ d ∈ r.Cells,d.length ≤ 2 ^ 30):b4j r = some r:=by
 unfold b4j
 rw [c6c r.Cells [] (by simp; omega) hd,Option.bind_some]
 cases r with
 | mk i c =>
  cases c with
  | nil => rfl
  | cons a c => rw [if_pos (by simp)]; simp
theorem c0z:∀ (xs out:List (List y7)),out.length + xs.length ≤ 2 ^ 30 → (∀ d ∈ xs,d.length ≤ 2 ^ 30) → a3m xs out = some (out ++ xs)
 | [],out,_,_ => by rw [a3m]; simp
 | x :: xs,out,h,hd => by
  simp only [List.length_cons] at h
  have:=hd x (by simp)
  rw [a3m,if_pos (by simp; omega),if_pos (by simp; omega),c0z xs _ (by simp; omega) (fun y hy => hd y (by simp [hy]))]
  simp
theorem d8z (r:a0c) (h:r.Cells.length ≤ 2 ^ 30) (hd:∀ d ∈ r.Cells,d.length ≤ 2 ^ 30):b0s r = some r:=by
 unfold b0s
 rw [c0z r.Cells [] (by simp; omega) hd,Option.bind_some]
 cases r
 simp
theorem d2d:2 ^ 40 < FUEL:=by unfold FUEL; decide
def b4p:List a0c → Bool
 | [] => true
 | [_] => true
 | a :: b :: l => decide (a.Id < b.Id) && b4p (b :: l)
theorem d4e {a:a0c} {l:List a0c} (h:b4p (a :: l) = true):b4p l = true ∧ ∀ b ∈ l,a.Id < b.Id:=by
 induction l generalizing a with
 | nil => exact ⟨rfl,by simp⟩
 | cons b l ih =>
  simp only [b4p,Bool.and_eq_true,decide_eq_true_eq] at h
  refine ⟨h.2,fun c hc => ?_⟩
  rcases List.mem_cons.1 hc with rfl | hc
  ·exact h.1
  ·have:=(ih h.2).2 c hc; omega
theorem c7h {l:List a0c} (h:b4p l = true):l.Pairwise fun a b => a.Id < b.Id:=by
 induction l with
 | nil => exact .nil
 | cons a l ih => exact List.pairwise_cons.2 ⟨(d4e h).2,ih (d4e h).1⟩
theorem d5y {l:List a0c} (h:b4p l = true) {i j:Nat} {a b:a0c} (hi:l[i]? = some a) (hj:l[j]? = some b) (hij:i < j):a.Id < b.Id:=by
 obtain ⟨h1,rfl⟩:=List.getElem?_eq_some_iff.1 hi
 obtain ⟨h2,rfl⟩:=List.getElem?_eq_some_iff.1 hj
 exact List.pairwise_iff_getElem.1 (c7h h) i j h1 h2 hij
theorem c1b (rows:List a0c):∀ (xs:List a0c) (i:Nat) (p:a0c),rows.length ≤ maxLen → rows.drop (i + 1) = xs → rows[i]? = some p → a3n rows xs (i + 1) = some (if b4p (p :: xs) = true then .go () else .ret false)
 | [],i,p,_,_,_ => by rw [a3n]; rfl
 | x :: xs,i,p,hl,hd,hp => by
  have hlt:=b1k hd
  rw [a3n]
  have e:w64 (((i + 1:Nat):Int) - 1) = (i:Int):=by rw [a1q (by unfold maxLen at hl; omega)]; omega
  rw [e,a4z,hp,Option.bind_some]
  have hx:rows[i + 1]? = some x:=by have:=congrArg (·[0]?) hd; simpa using this
  by_cases c:p.Id < x.Id
  ·have c':¬ p.Id ≥ x.Id:=by omega
   rw [if_neg (by simpa using c'),c1b rows xs (i + 1) x hl (a2j hd) hx]
   simp [b4p,c]
  ·rw [if_pos (by simp; omega)]
   simp [b4p,c]
theorem d9a (rows:List a0c) (hl:rows.length ≤ maxLen):b0v rows = some (b4p rows):=by
 unfold b0v
 cases rows with
 | nil => rfl
 | cons p xs =>
  rw [show (1:Nat) = 0 + 1 from rfl,c1b (p :: xs) _ 0 p hl rfl rfl]
  have:(p :: xs).drop (0 + 1) = xs:=rfl
  rw [this]
  rcases Bool.eq_false_or_eq_true (b4p (p :: xs)) with hz1 | hz1 <;> simp [hz1]
def c2w (t:a0a) (nx:Int) (rows:List a0c):Bool:=rows.all fun r => decide (1 ≤ r.Id ∧ r.Id ≤ nx - 1) && decide (r.Cells.length = t.Columns.length) && a3u (b9j t) r.Cells 0
theorem c1c (x:a0h) (s:a0b) (i:Nat) (t:a0a) (ht:s.Tables[i]? = some t) (hn:1 ≤ x.Next ∧ x.Next ≤ 1000000):∀ (xs:List a0c),(∀ r ∈ xs,d1y r) → a7c x s i xs = some (if c2w t x.Next xs = true then .go () else .ret false)
 | [],_ => by rw [a7c]; rfl
 | r :: xs,h => by
  rw [a7c,b1h,Option.bind_some,a1q (by omega),a4z,ht,c1c x s i t ht hn xs (fun y hy => h y (by simp [hy]))]
  have e:c2w t x.Next (r :: xs) = (decide (1 ≤ r.Id ∧ r.Id ≤ x.Next - 1) && (decide (r.Cells.length = t.Columns.length) && a3u (b9j t) r.Cells 0) && c2w t x.Next xs):=by simp only [c2w,List.all_cons,Bool.and_assoc]
  rw [e]
  simp only [Option.bind_some,e5b t r (h r (by simp))]
  rcases Bool.eq_false_or_eq_true (decide (1 ≤ r.Id ∧ r.Id ≤ x.Next - 1)) with hz1 | hz1 <;> rcases Bool.eq_false_or_eq_true ((decide (r.Cells.length = t.Columns.length) && a3u (b9j t) r.Cells 0)) with hz2 | hz2 <;> simp [hz1,hz2]
def c6d (s:a0b) (nx:Int) (i:Nat) (rows:List a0c):Bool:=match s.Tables[i]? with | none => false | some t => decide (rows.length ≤ 12) && b4p rows && c2w t nx rows
theorem c1d (x:a0h) (s:a0b) (hn:1 ≤ x.Next ∧ x.Next ≤ 1000000):∀ (xs:List (List a0c)) (i:Nat),i + xs.length ≤ s.Tables.length → (∀ l ∈ xs,∀ r ∈ l,d1y r) → a7d x s xs i = some (if a3u (c6d s x.Next) xs i = true then .go () else .ret false)
 | [],i,_,_ => by rw [a7d]; rfl
 | l :: xs,i,h,hs => by
  simp only [List.length_cons] at h
  obtain ⟨t,ht⟩:∃ t,s.Tables[i]? = some t:=⟨s.Tables[i]'(by omega),List.getElem?_eq_getElem (by omega)⟩
  rw [a7d,c1c x s i t ht hn l (hs l (by simp)),c1d x s hn xs (i + 1) (by omega) (fun y hy => hs y (by simp [hy]))]
  simp only [a3u,c6d,ht]
  by_cases c:l.length ≤ 12
  ·have c':¬ (l.length:Int) > 12:=by omega
   rw [if_neg (by simpa using c'),d9a l (by unfold maxLen; omega)]
   rcases Bool.eq_false_or_eq_true (b4p l) with hz1 | hz1 <;> rcases Bool.eq_false_or_eq_true (c2w t x.Next l) with hz2 | hz2 <;> simp [hz1,hz2,c]
  ·have c':(l.length:Int) > 12:=by omega
   simp [c',c]
def c4a (s:a0b) (x:a0h):Bool:=b0b s && decide (x.Tables.length = s.Tables.length) && decide (1 ≤ x.Next ∧ x.Next ≤ 1000000) && a3u (c6d s x.Next) x.Tables 0
theorem d9b (s:a0b) (x:a0h) (hs:∀ l ∈ x.Tables,∀ r ∈ l,d1y r):b0x s x = some (c4a s x):=by
 unfold b0x c4a b6o
 rw [e1v,b1h]
 by_cases e:x.Tables.length = s.Tables.length
 ·have e':((x.Tables.length:Int) != (s.Tables.length:Int)) = false:=by simp [e]
  rw [e']
  by_cases n:1 ≤ x.Next ∧ x.Next ≤ 1000000
  ·rw [c1d x s n x.Tables 0 (by omega) hs]
   rcases Bool.eq_false_or_eq_true (b0b s) with hz1 | hz1 <;> rcases Bool.eq_false_or_eq_true (a3u (c6d s x.Next) x.Tables 0) with hz2 | hz2 <;> simp [hz1,hz2,e,n]
  ·cases b0b s <;> simp [e,n]
 ·have e':((x.Tables.length:Int) != (s.Tables.length:Int)) = true:=by simp; omega
  rw [e']
  rcases Bool.eq_false_or_eq_true (b0b s) with hz1 | hz1 <;> simp [hz1,e]
def d4f (t:a0a) (nx:Int) (l:List a0c) (k:Nat) (r:a0c):Bool:=c7g t r && decide (r.Id < nx) && (k == 0 || match l[k - 1]? with | some p => decide (p.Id < r.Id) | none => false)
theorem c6e (s:a0b) (i:Nat) (x:a0h) (l:List a0c) (t:a0a) (ht:s.Tables[i]? = some t) (hl:l.length ≤ maxLen):∀ (xs:List a0c) (k:Nat),l.drop k = xs → a9c s i x l xs k = some (if a3u (d4f t x.Next l) xs k = true then .go () else .ret false)
 | [],k,_ => by rw [a9c]; rfl
 | r :: xs,k,hd => by
  have hlt:=b1k hd
  rw [a9c,a4z,ht,Option.bind_some,e9c,Option.bind_some,c6e s i x l t ht hl xs (k + 1) (a2j hd)]
  simp only [a3u,d4f]
  rcases Bool.eq_false_or_eq_true (c7g t r) with h1 | h1
  rotate_left
  ·simp [h1]
  ·simp only [h1]
   by_cases c:r.Id < x.Next
   ·have c':decide (r.Id ≥ x.Next) = false:=decide_eq_false (by omega)
    rw [c']
    cases k with
    | zero => simp [c]
    | succ k =>
     obtain ⟨p,hp⟩:∃ p,l[k]? = some p:=⟨l[k]'(by omega),List.getElem?_eq_getElem (by omega)⟩
     have e:w64 (((k + 1:Nat):Int) - 1) = (k:Int):=by rw [a1q (by unfold maxLen at hl; omega)]; omega
     have c2:decide (((k + 1:Nat):Int) > 0) = true:=decide_eq_true (by omega)
     rw [e,c2,a4z,hp]
     by_cases q:p.Id < r.Id
     ·have q':decide (p.Id ≥ r.Id) = false:=decide_eq_false (by omega)
      simp [c,hp,q,q']
     ·have q':decide (p.Id ≥ r.Id) = true:=decide_eq_true (by omega)
      simp [c,hp,q,q']
   ·have c':decide (r.Id ≥ x.Next) = true:=decide_eq_true (by omega)
    rw [c']
    simp [c]
theorem e3d:∀ (l:List a0c),b4p l = true ↔ ∀ i a b,l[i]? = some a → l[i + 1]? = some b → a.Id < b.Id
 | [] => by simp [b4p]
 | [a] => by simp [b4p]
 | a :: b :: l => by
  have ih:=e3d (b :: l)
  simp only [b4p,Bool.and_eq_true,decide_eq_true_eq,ih]
  constructor
  ·rintro ⟨h1,h2⟩ i x y hx hy
   cases i with
   | zero => simp at hx hy; subst hx; subst hy; exact h1
   | succ i => exact h2 i x y (by simpa using hx) (by simpa using hy)
  ·intro h
   exact ⟨h 0 a b rfl rfl,fun i x y hx hy => h (i + 1) x y (by simpa using hx) (by simpa using hy)⟩
theorem e5d (t:a0a) (nx:Int) (hn:nx ≤ 1000000) (l:List a0c):a3u (d4f t nx l) l 0 = (b4p l && c2w t nx l):=by
 rw [Bool.eq_iff_iff,b5v,Bool.and_eq_true,e3d]
 have key:∀ r:a0c,(c7g t r && decide (r.Id < nx)) = (decide (1 ≤ r.Id ∧ r.Id ≤ nx - 1) && decide (r.Cells.length = t.Columns.length) && a3u (b9j t) r.Cells 0):=by
  intro r
  unfold c7g
  have:(decide (1 ≤ r.Id ∧ r.Id ≤ 1000000) && decide (r.Id < nx)) = decide (1 ≤ r.Id ∧ r.Id ≤ nx - 1):=by
   rw [Bool.eq_iff_iff]; simp only [Bool.and_eq_true,decide_eq_true_eq]; omega
  rw [← this]
  rcases Bool.eq_false_or_eq_true (decide (1 ≤ r.Id ∧ r.Id ≤ 1000000)) with hz1 | hz1 <;> rcases Bool.eq_false_or_eq_true (decide (r.Id < nx)) with hz2 | hz2 <;> simp [hz1,hz2]
 constructor
 ·intro h
  refine ⟨fun i a b ha hb => ?_,?_⟩
  ·have:=h (i + 1) b hb
   rw [Nat.zero_add] at this
   unfold d4f at this
   simp only [Bool.and_eq_true,Bool.or_eq_true,Nat.add_sub_cancel,ha] at this
   rcases this.2 with q | q
   ·simp at q
   ·simpa using q
  ·unfold c2w
   rw [List.all_eq_true]
   intro r hr
   obtain ⟨q,hq⟩:=List.mem_iff_getElem?.1 hr
   have:=h q r hq
   unfold d4f at this
   rw [key] at this
   simp only [Bool.and_eq_true] at this ⊢
   exact this.1
 ·rintro ⟨h1,h2⟩ q r hq
  unfold c2w at h2
  have:=List.all_eq_true.1 h2 r (List.mem_of_getElem? hq)
  unfold d4f
  rw [key,this,Nat.zero_add,Bool.true_and]
  cases q with
  | zero => rfl
  | succ q =>
   have hlt:=(List.getElem?_eq_some_iff.1 hq).1
   obtain ⟨p,hp⟩:∃ p,l[q]? = some p:=⟨l[q]'(by omega),List.getElem?_eq_getElem (by omega)⟩
   have:=h1 q p r hp hq
   simp [hp,this]
theorem c6f (s:a0b) (x:a0h) (hn:1 ≤ x.Next ∧ x.Next ≤ 1000000):∀ (xs:List (List a0c)) (i:Nat),i + xs.length ≤ s.Tables.length → a9d s x xs i = some (if a3u (c6d s x.Next) xs i = true then .go () else .ret false)
 | [],i,_ => by rw [a9d]; rfl
 | l :: xs,i,h => by
  simp only [List.length_cons] at h
  obtain ⟨t,ht⟩:∃ t,s.Tables[i]? = some t:=⟨s.Tables[i]'(by omega),List.getElem?_eq_getElem (by omega)⟩
  rw [a9d,c6f s x hn xs (i + 1) (by omega)]
  simp only [a3u,c6d,ht]
  by_cases c:l.length ≤ 12
  ·have c':¬ (l.length:Int) > 12:=by omega
   rw [if_neg (by simpa using c'),c6e s i x l t ht (by unfold maxLen; omega) l 0 (by simp),e5d t x.Next hn.2 l]
   rcases Bool.eq_false_or_eq_true (b4p l) with hz1 | hz1 <;> rcases Bool.eq_false_or_eq_true (c2w t x.Next l) with hz2 | hz2 <;> simp [hz1,hz2,c]
  ·have c':(l.length:Int) > 12:=by omega
   simp [c',c]
theorem e5e (s:a0b) (x:a0h):b1m s x = some (decide (x.Tables.length = s.Tables.length) && decide (1 ≤ x.Next ∧ x.Next ≤ 1000000) && a3u (c6d s x.Next) x.Tables 0):=by
 unfold b1m
 rw [d5u]
 by_cases e:x.Tables.length = s.Tables.length
 ·have e':((x.Tables.length:Int) != (s.Tables.length:Int)) = false:=by simp [e]
  rw [e']
  by_cases n:1 ≤ x.Next ∧ x.Next ≤ 1000000
  ·rw [c6f s x n x.Tables 0 (by omega)]
   rcases Bool.eq_false_or_eq_true (a3u (c6d s x.Next) x.Tables 0) with hz1 | hz1 <;> simp [hz1,e,n]
  ·simp [e,n]
 ·have e':((x.Tables.length:Int) != (s.Tables.length:Int)) = true:=by simp; omega
  rw [e']
  simp [e]
theorem d5z (s:a0b) (x:a0h):((a9x s).bind fun r => if (!r) = true then some true else (b1m s x).bind fun r => some (!r)) = some (!c4a s x):=by
 rw [d8w,Option.bind_some,e5e]
 unfold c4a
 rcases Bool.eq_false_or_eq_true (b0b s) with hz1 | hz1 <;> simp [hz1]
def b5w (l:List a0c) (id:Int):Bool:=l.any fun r => r.Id == id
theorem c2x (id:Int):∀ (l:List a0c) (i:Nat),a8b id l i = some (match l.findIdx? (fun r => r.Id == id) with | some k => .ret ((i + k:Nat):Int) | none => .go ())
 | [],i => by rw [a8b]; rfl
 | x :: xs,i => by
  rw [a8b,c2x id xs (i + 1),List.findIdx?_cons]
  cases hp:(x.Id == id) with
  | true => simp
  | false =>
   cases hq:xs.findIdx? (fun r => r.Id == id) with
   | none => simp
   | some k => simp; omega
theorem e1w (l:List a0c) (id:Int):a7l l id = some (atI (l.findIdx? (fun r => r.Id == id))):=by
 unfold a7l atI
 rw [c2x]
 cases hq:l.findIdx? (fun r => r.Id == id) <;> simp
theorem e5f (l:List a0c) (id:Int):decide (atI (l.findIdx? (fun r => r.Id == id)) < 0) = !b5w l id:=by
 rw [d5x]
 unfold b5w
 rw [← List.findIdx?_isSome]
 cases l.findIdx? (fun r => r.Id == id) <;> rfl
theorem f3u {i j:Int} (h0:0 ≤ i) (h1:i < j) (h2:j ≤ 2 ^ 60):w64 (Int.fdiv (IntKind.u64.wrap (w64 (i + j))) (2 ^ (min (Int.toNat 1) (IntKind.bits .u64)))) = (i + j) / 2:=by
 have e1:w64 (i + j) = i + j:=a1q (by omega)
 have e2:IntKind.u64.wrap (i + j) = i + j:=by
  have:IntKind.u64.wrap (i + j) = (i + j) % 2 ^ 64:=rfl
  rw [this]; omega
 have e3:min (Int.toNat 1) (IntKind.bits .u64) = 1:=by decide
 rw [e1,e2,e3,Int.fdiv_eq_ediv_of_nonneg _ (by omega)]
 have:((2:Int) ^ 1) = 2:=rfl
 rw [this,a1q (by omega)]
theorem d4g (r:a0c) (id:Int):a3v r id = some (if r.Id < id then -1 else if r.Id > id then 1 else 0):=by
 unfold a3v
 rw [d8o]
 rfl
theorem d2e (l:List a0c) (id:Int) (hs:b4p l = true) (hl:l.length ≤ 2 ^ 30):∀ (k i j:Nat),i ≤ j → j ≤ l.length → j - i < k → (∀ q r,q < i → l[q]? = some r → r.Id < id) → (∀ q r,j ≤ q → l[q]? = some r → id ≤ r.Id) → ∃ m:Nat,a0d l a3v id k i j = some (m:Int) ∧ m ≤ l.length ∧ (∀ q r,q < m → l[q]? = some r → r.Id < id) ∧ (∀ q r,m ≤ q → l[q]? = some r → id ≤ r.Id)
 | 0,i,j,_,_,h,_,_ => by omega
 | k + 1,i,j,hij,hj,hk,ha,hb => by
  rw [a0d]
  by_cases c:i < j
  ·rw [if_pos (by simpa using c),f3u (by omega) (by omega) (by omega)]
   have em:((i:Int) + j) / 2 = (((i + j) / 2:Nat):Int):=by omega
   rw [em,a4z]
   have hm:(i + j) / 2 < l.length:=by omega
   obtain ⟨r,hr⟩:∃ r,l[(i + j) / 2]? = some r:=⟨l[(i + j) / 2],List.getElem?_eq_getElem hm⟩
   rw [hr,Option.bind_some,d4g,Option.bind_some]
   by_cases d:r.Id < id
   ·rw [if_pos (by simp [d]),a1q (by omega)]
    have:(((i + j) / 2:Nat):Int) + 1 = (((i + j) / 2 + 1:Nat):Int):=by omega
    rw [this]
    refine d2e l id hs hl k ((i + j) / 2 + 1) j (by omega) hj (by omega) (fun q r' hq hr' => ?_) hb
    by_cases e:q = (i + j) / 2
    ·subst e; rw [hr] at hr'; cases hr'; exact d
    ·have:=d5y hs hr' hr (by omega); omega
   ·rw [if_neg (by simp only [d,if_false]; split <;> simp)]
    refine d2e l id hs hl k i ((i + j) / 2) (by omega) (by omega) (by omega) ha (fun q r' hq hr' => ?_)
    by_cases e:q = (i + j) / 2
    ·subst e; rw [hr] at hr'; cases hr'; omega
    ·have:=d5y hs hr hr' (by omega); omega
  ·rw [if_neg (by simpa using c)]
   exact ⟨i,rfl,by omega,ha,fun q r hq => hb q r (by omega)⟩
theorem f1r (l:List a0c) (id:Int) (hs:b4p l = true) (hl:l.length ≤ 2 ^ 30):∃ m:Nat,b0y l id = some ((m:Int),b5w l id) ∧ m ≤ l.length ∧ (∀ q r,q < m → l[q]? = some r → r.Id < id) ∧ (∀ q r,m ≤ q → l[q]? = some r → id ≤ r.Id):=by
 have hf:=d2d
 obtain ⟨m,e,h1,h2,h3⟩:=d2e l id hs hl FUEL 0 l.length (by omega) (by omega) (by omega) (fun q r h => by omega) (fun q r h hr => by have:=(List.getElem?_eq_some_iff.1 hr).1; omega)
 have e':a0d l a3v id FUEL 0 (l.length:Int) = some (m:Int):=e
 refine ⟨m,?_,h1,h2,h3⟩
 unfold b0y a1c
 rw [e',Option.bind_some]
 by_cases c:m < l.length
 ·obtain ⟨r,hr⟩:∃ r,l[m]? = some r:=⟨l[m],List.getElem?_eq_getElem c⟩
  rw [if_pos (by simpa using c),a4z,hr,Option.bind_some,d4g,Option.bind_some,Option.bind_some]
  have hge:=h3 m r (Nat.le_refl _) hr
  by_cases d:r.Id = id
  ·have hh:b5w l id = true:=List.any_eq_true.2 ⟨r,List.mem_of_getElem? hr,by simp [d]⟩
   rw [hh]; simp [d]
  ·have hh:b5w l id = false:=by
    unfold b5w
    rw [List.any_eq_false]
    intro y hy
    obtain ⟨q,hq⟩:=List.mem_iff_getElem?.1 hy
    rcases Nat.lt_trichotomy q m with g | g | g
    ·have:=h2 q y g hq; simp; omega
    ·subst g; rw [hr] at hq; cases hq; simpa using d
    ·have:=d5y hs hr hq g; simp; omega
   have g1:¬ r.Id < id:=by omega
   have g2:r.Id > id:=by omega
   rw [hh]; simp [g1,g2]
 ·have hh:b5w l id = false:=by
   unfold b5w
   rw [List.any_eq_false]
   intro y hy
   obtain ⟨q,hq⟩:=List.mem_iff_getElem?.1 hy
   have:=(List.getElem?_eq_some_iff.1 hq).1
   have:=h2 q y (by omega) hq
   simp; omega
  rw [if_neg (by simpa using c),Option.bind_some,hh]
theorem e9e (x:a0h) (j:Nat) (l:List a0c) (id:Int) (hj:x.Tables[j]? = some l) (hs:b4p l = true) (hl:l.length ≤ 2 ^ 30):a2l x (j:Int) id = some (b5w l id):=by
 unfold a2l
 obtain ⟨m,e,_⟩:=f1r l id hs hl
 rw [a4z,hj,Option.bind_some,e,Option.bind_some]
theorem d2x {x:a0h} (h:c0i x):∀ l ∈ x.Tables,∀ r ∈ l,d1y r:=fun l hl r hr => d8x ((h.1.2 l hl).2 r hr)
def smR (r:a0c):Prop:=r.Cells.length ≤ 2 ^ 30 ∧ ∀ d ∈ r.Cells,d.length ≤ 2 ^ 30
def smL (l:List a0c):Prop:=l.length ≤ 2 ^ 29 ∧ ∀ r ∈ l,smR r
def smS (x:a0h):Prop:=x.Tables.length ≤ 2 ^ 29 ∧ ∀ l ∈ x.Tables,smL l
theorem c8r:∀ (xs out:List a0c),out.length + xs.length ≤ 2 ^ 30 → (∀ r ∈ xs,smR r) → a5l xs out = some (out ++ xs)
 | [],out,_,_ => by rw [a5l]; simp
 | x :: xs,out,h,hd => by
  simp only [List.length_cons] at h
  have:=hd x (by simp)
  rw [a5l,d8z x this.1 this.2,Option.bind_some,if_pos (by simp; omega),c8r xs _ (by simp; omega) (fun y hy => hd y (by simp [hy]))]
  simp
theorem c8s:∀ (xs out:List (List a0c)),out.length + xs.length ≤ 2 ^ 30 → (∀ l ∈ xs,smL l) → a5m xs out = some (out ++ xs)
 | [],out,_,_ => by rw [a5m]; simp
 | x :: xs,out,h,hd => by
  simp only [List.length_cons] at h
  have:=hd x (by simp)
  have h2:=this.1
  rw [a5m,c8r x [] (by simp; omega) this.2,Option.bind_some,if_pos (by simp; omega),c8s xs _ (by simp; omega) (fun y hy => hd y (by simp [hy]))]
  simp
theorem e9f (x:a0h) (h:smS x):b0t x = some x:=by
 have:=h.1
 unfold b0t
 rw [c8s x.Tables [] (by simp; omega) h.2]
 cases x
 rfl
theorem c2y:∀ (xs out:List a0c),out.length + xs.length ≤ 2 ^ 30 → (∀ r ∈ xs,smR r) → a4f xs out = some (out ++ xs)
 | [],out,_,_ => by rw [a4f]; simp
 | x :: xs,out,h,hd => by
  simp only [List.length_cons] at h
  have:=hd x (by simp)
  rw [a4f,e5c x this.1 this.2,Option.bind_some,if_pos (by simp; omega),c2y xs _ (by simp; omega) (fun y hy => hd y (by simp [hy]))]
  simp
theorem e1x (l:List a0c) (h:smL l):b2l l = some l:=by
 have:=h.1
 unfold b2l
 rw [c2y l [] (by simp; omega) h.2]; rfl
theorem c1e:∀ (xs out:List (List a0c)),out.length + xs.length ≤ 2 ^ 30 → (∀ l ∈ xs,smL l) → a3o xs out = some (out ++ xs)
 | [],out,_,_ => by rw [a3o]; simp
 | x :: xs,out,h,hd => by
  simp only [List.length_cons] at h
  rw [a3o,e1x x (hd x (by simp)),Option.bind_some,if_pos (by simp; omega),c1e xs _ (by simp; omega) (fun y hy => hd y (by simp [hy]))]
  simp
theorem d9c (x:a0h) (h:smS x):a8d x = some x:=by
 have:=h.1
 unfold a8d
 rw [c1e x.Tables [] (by simp; omega) h.2]
 cases x
 rfl
theorem c1f (v:y7):∀ (xs:List y7) (i:Nat),v ∈ xs ∧ (∃ n:Nat,a1k v xs i = some (.ret (n:Int))) ∨ v ∉ xs ∧ a1k v xs i = some (.go ())
 | [],i => .inr ⟨by simp,by rw [a1k]⟩
 | x :: xs,i => by
  rw [a1k,e9d]
  by_cases e:v = x
  ·rw [if_pos (by simpa using e)]
   exact .inl ⟨by simp [e],i,rfl⟩
  ·rw [if_neg (by simpa using e)]
   rcases c1f v xs (i + 1) with ⟨h,n,hn⟩ | ⟨h,hn⟩
   ·exact .inl ⟨by simp [h],n,hn⟩
   ·exact .inr ⟨by simp [e,h],hn⟩
theorem d9d (d:List y7) (v:y7):a1y d v = some (decide (v ∈ d)):=by
 unfold a1y a2w
 rcases c1f v d 0 with ⟨h,n,hn⟩ | ⟨h,hn⟩
 ·rw [hn]; simp [h]
 ·rw [hn]; simp [h]
theorem d9e:∀ {a b c:Str},Op.bytesLess a b = true → Op.bytesLess b c = true → Op.bytesLess a c = true
 | _,[],_,h,_ => by cases ‹Str› <;> simp [Op.bytesLess] at h
 | _,_ :: _,[],_,h => by simp [Op.bytesLess] at h
 | [],_ :: _,_ :: _,_,_ => by simp [Op.bytesLess]
 | x :: a,y :: b,z :: c,h1,h2 => by
  simp only [Op.bytesLess,Bool.or_eq_true,Bool.and_eq_true,decide_eq_true_eq,beq_iff_eq] at *
  rcases h1 with h1 | ⟨rfl,h1⟩
  ·rcases h2 with h2 | ⟨rfl,h2⟩
   ·exact .inl (UInt8.lt_trans h1 h2)
   ·exact .inl h1
  ·rcases h2 with h2 | ⟨rfl,h2⟩
   ·exact .inl h2
   ·exact .inr ⟨rfl,d9e h1 h2⟩
theorem e9g (a:Str):Op.bytesLess a a = false:=by
 rw [c7d,(c1q a a).2 rfl]; rfl
theorem d9f {s:a0b} (h:b0b s = true):∀ (d i:Nat) (a b:a0a),s.Tables[i]? = some a → s.Tables[i + d + 1]? = some b → Op.bytesLess a.Name b.Name = true:=by
 unfold b0b at h
 simp only [Bool.and_eq_true] at h
 have hst:∀ i a b,s.Tables[i]? = some a → s.Tables[i + 1]? = some b → Op.bytesLess a.Name b.Name = true:=by
  intro i a b ha hb
  have:=(b5v _ _ _).1 h.1.2 (i + 1) b hb
  simp only [b1q,Nat.zero_add,Nat.add_sub_cancel,ha,Bool.and_eq_true,Bool.or_eq_true] at this
  rcases this.2 with h | h
  ·simp at h
  ·exact h
 intro d
 induction d with
 | zero => exact hst
 | succ d ih =>
  intro i a b ha hb
  have hl:=(List.getElem?_eq_some_iff.1 hb).1
  obtain ⟨c,hc⟩:∃ c,s.Tables[i + d + 1]? = some c:=⟨s.Tables[i + d + 1]'(by omega),List.getElem?_eq_getElem (by omega)⟩
  exact d9e (ih i a c ha hc) (hst (i + d + 1) c b hc hb)
theorem f1s {s:a0b} (h:b0b s = true) {ref:Str} {j:Nat} (hj:c0w s ref = some j) {k:Nat} {tt:a0a} (hk:s.Tables[k]? = some tt):(ref == tt.Name) = decide (j = k):=by
 unfold c0w at hj
 obtain ⟨h1,h2,-⟩:=List.findIdx?_eq_some_iff_getElem.1 hj
 have h2:s.Tables[j].Name = ref:=by simpa using h2
 have hjt:s.Tables[j]? = some s.Tables[j]:=List.getElem?_eq_getElem h1
 by_cases e:j = k
 ·subst e
  rw [hjt] at hk
  cases hk
  simp [h2]
 ·rw [decide_eq_false e]
  rw [beq_eq_false_iff_ne]
  intro hr
  have hn:s.Tables[j].Name = tt.Name:=h2.trans hr
  rcases Nat.lt_or_gt_of_ne e with hlt | hlt
  ·have:=d9f h (k - j - 1) j _ tt hjt (by rw [show j + (k - j - 1) + 1 = k by omega]; exact hk)
   rw [hn,e9g] at this; cases this
  ·have:=d9f h (j - k - 1) k tt _ hk (by rw [show k + (j - k - 1) + 1 = j by omega]; exact hjt)
   rw [hn,e9g] at this; cases this
theorem e3e {s:a0b} {ref:Str} {j:Nat} (hj:c0w s ref = some j):j < s.Tables.length:=by
 unfold c0w at hj
 exact (List.findIdx?_eq_some_iff_getElem.1 hj).1
theorem c8t {c:x8} (h:c5y c = true) (hs:c.Strong = true):c.Kind = 4:=by
 unfold c5y at h
 simp only [Bool.and_eq_true,Bool.or_eq_true,decide_eq_true_eq,hs] at h
 simp at h
 exact h.2.1.1.1.1
def d9g (id:Int) (d:List y7):Int:=if (⟨4,id,[]⟩:y7) ∈ d then 1 else 0
def c9i (k:Nat) (id:Int):List a0c → Int
 | [] => 0
 | r :: l => (match r.Cells[k]? with | some d => d9g id d | none => 0) + c9i k id l
def d2y (s:a0b) (tab:Nat) (c:x8):Bool:=c.Strong && decide (c0w s c.Ref = some tab)
def c4b (s:a0b) (tab:Nat) (id:Int) (rows:List a0c):List x8 → Nat → Int
 | [],_ => 0
 | c :: cs,k => (if d2y s tab c = true then c9i k id rows else 0) + c4b s tab id rows cs (k + 1)
def d6a (s:a0b) (tab:Nat) (id:Int) (T:List (List a0c)):List a0a → Nat → Int
 | [],_ => 0
 | t :: ts,i => c4b s tab id ((T[i]?).getD []) t.Columns 0 + d6a s tab id T ts (i + 1)
theorem e1y (id:Int) (d:List y7):0 ≤ d9g id d ∧ d9g id d ≤ 1:=by unfold d9g; split <;> omega
theorem d6b (k:Nat) (id:Int):∀ l:List a0c,0 ≤ c9i k id l ∧ c9i k id l ≤ l.length
 | [] => by simp [c9i]
 | r :: l => by
  have:=d6b k id l
  simp only [c9i,List.length_cons]
  cases r.Cells[k]? with
  | none => simp only; omega
  | some d => have:=e1y id d; simp only; omega
theorem e1z (s:a0b) (tab:Nat) (id:Int) (rows:List a0c):∀ (cs:List x8) (k:Nat),0 ≤ c4b s tab id rows cs k ∧ c4b s tab id rows cs k ≤ (cs.length * rows.length:Nat)
 | [],k => by simp [c4b]
 | c :: cs,k => by
  have h1:=e1z s tab id rows cs (k + 1)
  have h2:=d6b k id rows
  have h3:(cs.length + 1) * rows.length = cs.length * rows.length + rows.length:=by rw [Nat.add_mul,Nat.one_mul]
  simp only [c4b,List.length_cons]
  rw [h3]
  split <;> omega
theorem e2a (c:x8) (ref:Int) (d:List y7) (tab id n:Int) (hn:0 ≤ n ∧ n ≤ 2 ^ 30):a5d c ref d tab id n = some (tab,id,n + (if (c.Strong && (ref == tab)) = true then d9g id d else 0)):=by
 unfold a5d
 rw [d9d]
 unfold d9g
 have e:(bif c.Strong then (ref == tab) else false) = (c.Strong && (ref == tab)):=by cases c.Strong <;> rfl
 rw [e]
 cases (c.Strong && (ref == tab)) with
 | false => simp
 | true =>
  by_cases hm:(⟨4,id,[]⟩:y7) ∈ d
  ·simp [hm,a1q (n:=n + 1) (by omega)]
  ·simp [hm]
theorem d2f (s:a0b) (c:x8) (k tab:Nat) (id:Int):∀ (rows:List a0c) (n:Int),(∀ r ∈ rows,k < r.Cells.length) → 0 ≤ n → n + rows.length ≤ 2 ^ 30 →
  a2z k s c rows (tab:Int) id n = some ((tab:Int),id,n + (if d2y s tab c = true then c9i k id rows else 0))
 | [],n,_,_,_ => by rw [a2z]; simp [c9i]
 | r :: rows,n,h,h0,hn => by
  simp only [List.length_cons] at hn
  obtain ⟨d,hd⟩:∃ d,r.Cells[k]? = some d:=⟨r.Cells[k]'(h r (by simp)),List.getElem?_eq_getElem (h r (by simp))⟩
  have hb:=e1y id d
  have ec:(c.Strong && (atI (c0w s c.Ref) == (tab:Int))) = d2y s tab c:=by
   unfold d2y
   congr 1
   cases c0w s c.Ref with
   | none => simp [atI]
   | some j =>
    by_cases e:j = tab
    ·subst e; simp [atI]
    ·have e':¬ (j:Int) = (tab:Int):=by omega
     simp [atI,e,e']
  rw [a2z,a4z,hd,Option.bind_some,c7e,Option.bind_some,e2a c _ d _ id n ⟨h0,by omega⟩,Option.bind_some,ec]
  simp only
  rw [d2f s c k tab id rows _ (fun y hy => h y (by simp [hy])) (by split <;> omega) (by split <;> omega)]
  simp only [c9i,hd]
  congr 2
  cases d2y s tab c <;> simp
  omega
def d9h (s:a0b) (T:List (List a0c)):Prop:=T.length = s.Tables.length ∧ ∀ (i:Nat) (t:a0a) (l:List a0c),s.Tables[i]? = some t → T[i]? = some l → b4p l = true ∧ l.length ≤ 12 ∧ ∀ r ∈ l,r.Cells.length = t.Columns.length ∧ ∀ d ∈ r.Cells,d.length ≤ 2 ^ 30
theorem c4c (s:a0b) (hs:b0b s = true) (x:a0h) (i tab:Nat) (id:Int) (rows:List a0c) (hi:x.Tables[i]? = some rows) (hl:rows.length ≤ 12):∀ (cs:List x8) (k:Nat) (n:Int),(∀ c ∈ cs,c5y c = true) → (∀ r ∈ rows,k + cs.length ≤ r.Cells.length) → 0 ≤ n → n + (cs.length * rows.length:Nat) ≤ 2 ^ 29 →
  a2p x i s cs k (tab:Int) id n = some ((tab:Int),id,n + c4b s tab id rows cs k)
 | [],k,n,_,_,_,_ => by rw [a2p]; simp [c4b]
 | c :: cs,k,n,hc,h,h0,hn => by
  have h3:(cs.length + 1) * rows.length = cs.length * rows.length + rows.length:=by rw [Nat.add_mul,Nat.one_mul]
  simp only [List.length_cons] at hn h
  rw [h3] at hn
  rw [a2p]
  have hR:=d6b k id rows
  by_cases q:c.Kind = 4
  ·rw [if_neg (by simp [q]),a4z,hi,Option.bind_some,d2f s c k tab id rows n (fun r hr => by have:=h r hr; omega) h0 (by omega),Option.bind_some]
   simp only
   rw [c4c s hs x i tab id rows hi hl cs (k + 1) _ (fun y hy => hc y (by simp [hy])) (fun r hr => by have:=h r hr; omega) (by split <;> omega) (by split <;> omega)]
   simp only [c4b,Int.add_assoc]
  ·have hns:d2y s tab c = false:=by
    unfold d2y
    cases hst:c.Strong with
    | false => rfl
    | true => exact absurd (c8t (hc c (by simp)) hst) q
   rw [if_pos (by simpa using q),c4c s hs x i tab id rows hi hl cs (k + 1) n (fun y hy => hc y (by simp [hy])) (fun r hr => by have:=h r hr; omega) h0 (by omega)]
   simp [c4b,hns]
theorem c1r {s:a0b} (hs:b0b s = true) {t:a0a} (ht:t ∈ s.Tables):t.Columns.length ≤ 6:=by
 have:=d2c hs ht
 unfold c9h at this
 simp only [Bool.and_eq_true,decide_eq_true_eq] at this
 omega
theorem b6p {s:a0b} (hs:b0b s = true):s.Tables.length ≤ 4:=by
 unfold b0b at hs
 simp only [Bool.and_eq_true,decide_eq_true_eq] at hs
 omega
theorem d9i {s:a0b} (hs:b0b s = true) {t:a0a} (ht:t ∈ s.Tables) {l:List a0c} (hl:l.length ≤ 12):t.Columns.length * l.length ≤ 72:=Nat.le_trans (Nat.mul_le_mul (c1r hs ht) hl) (by decide)
theorem d2g (s:a0b) (hs:b0b s = true) (x:a0h) (hx:d9h s x.Tables) (tab:Nat) (id:Int):∀ (ts:List a0a) (i:Nat) (n:Int),s.Tables.drop i = ts → 0 ≤ n → n + (ts.length * 72:Nat) ≤ 2 ^ 28 →
  a3a x s ts i (tab:Int) id n = some ((tab:Int),id,n + d6a s tab id x.Tables ts i)
 | [],i,n,_,_,_ => by rw [a3a]; simp [d6a]
 | t :: ts,i,n,hd,h0,hn => by
  have hlt:=b1k hd
  have ht:s.Tables[i]? = some t:=by have:=congrArg (·[0]?) hd; simpa using this
  obtain ⟨l,hl⟩:∃ l,x.Tables[i]? = some l:=⟨x.Tables[i]'(by rw [hx.1]; exact hlt),List.getElem?_eq_getElem _⟩
  obtain ⟨g1,g2,g3⟩:=hx.2 i t l ht hl
  have hm:=List.mem_of_getElem? ht
  have hb:=e1z s tab id l t.Columns 0
  have hcc:=d9i hs hm g2
  simp only [List.length_cons] at hn
  rw [a3a,c4c s hs x i tab id l hl g2 t.Columns 0 n (c7f (d2c hs hm)) (fun r hr => by have:=(g3 r hr).1; omega) h0 (by omega),Option.bind_some]
  simp only
  rw [d2g s hs x hx tab id ts (i + 1) _ (a2j hd) (by omega) (by omega)]
  simp only [d6a,hl,Option.getD_some,Int.add_assoc]
theorem e5g (s:a0b) (hs:b0b s = true) (x:a0h) (hx:d9h s x.Tables) (tab:Nat) (id:Int):a5h s x (tab:Int) id = some (d6a s tab id x.Tables s.Tables 0):=by
 have:=b6p hs
 unfold a5h b2y
 rw [d2g s hs x hx tab id s.Tables 0 0 rfl (by omega) (by omega)]
 simp
theorem f5g (b:Bool):a7a b = some (if b = true then 1 else 0):=by
 unfold a7a
 cases b <;> rfl
theorem d2h (k:Nat) (id:Int):∀ (rows:List a0c) (n:Int),(∀ r ∈ rows,k < r.Cells.length) → 0 ≤ n → n + rows.length ≤ 2 ^ 30 → a3j (k:Int) id rows n = some (n + c9i k id rows)
 | [],n,_,_,_ => by rw [a3j]; simp [c9i]
 | r :: rows,n,h,h0,hn => by
  simp only [List.length_cons] at hn
  obtain ⟨d,hd⟩:∃ d,r.Cells[k]? = some d:=⟨r.Cells[k]'(h r (by simp)),List.getElem?_eq_getElem (h r (by simp))⟩
  have hb:=e1y id d
  have e:(if decide ((⟨4,id,[]⟩:y7) ∈ d) = true then (1:Int) else 0) = d9g id d:=by unfold d9g; simp
  rw [a3j,a4z,hd,Option.bind_some,f5f,Option.bind_some,f5g,Option.bind_some,e,a1q (by omega),d2h k id rows _ (fun y hy => h y (by simp [hy])) (by omega) (by omega)]
  simp only [c9i,hd,Int.add_assoc]
theorem b8y (s:a0b) (hs:b0b s = true) (i tab:Nat) (t tt:a0a) (ht:s.Tables[i]? = some t) (htt:s.Tables[tab]? = some tt) (id:Int) (rows:List a0c) (hl:rows.length ≤ 12) (h:∀ r ∈ rows,t.Columns.length ≤ r.Cells.length):∀ (m fuel k:Nat) (n:Int),m + k = t.Columns.length → m < fuel → 0 ≤ n → n + (m * rows.length:Nat) ≤ 2 ^ 29 →
  a3k s i (tab:Int) id rows fuel n (k:Int) = some (n + c4b s tab id rows (t.Columns.drop k) k)
 | m,0,k,n,_,hf,_,_ => by omega
 | m,fuel + 1,k,n,hm,hf,h0,hn => by
  have hmt:=List.mem_of_getElem? ht
  have h6:=c1r hs hmt
  rw [a3k,a4z,ht,Option.bind_some]
  cases m with
  | zero =>
   rw [if_neg (by simp; omega),List.drop_of_length_le (by omega)]
   simp [c4b]
  | succ m =>
   have h3:(m + 1) * rows.length = m * rows.length + rows.length:=by rw [Nat.add_mul,Nat.one_mul]
   rw [h3] at hn
   have hk:k < t.Columns.length:=by omega
   obtain ⟨c,hcc⟩:∃ c,t.Columns[k]? = some c:=⟨t.Columns[k],List.getElem?_eq_getElem hk⟩
   have ed:t.Columns.drop k = c :: t.Columns.drop (k + 1):=by
    rw [List.drop_eq_getElem_cons hk]; congr 1; exact (List.getElem?_eq_some_iff.1 hcc).2
   have ew:w64 ((k:Int) + 1) = ((k + 1:Nat):Int):=by rw [a1q (by omega)]; omega
   have hR:=d6b k id rows
   have hcol:=c7f (d2c hs hmt) c (List.mem_of_getElem? hcc)
   rw [if_pos (by simpa using hk),Option.bind_some,a4z,hcc,Option.bind_some,ew,ed]
   cases hst:c.Strong with
   | false =>
    simp only [Bool.not_false,if_true,Option.bind_some]
    rw [b8y s hs i tab t tt ht htt id rows hl h m fuel (k + 1) n (by omega) (by omega) h0 (by omega)]
    simp [c4b,d2y,hst]
   | true =>
    have h4:=c8t hcol hst
    have hro:b3m s c = true:=by
     unfold b0b at hs
     simp only [Bool.and_eq_true] at hs
     exact List.all_eq_true.1 (List.all_eq_true.1 hs.2 t hmt) c (List.mem_of_getElem? hcc)
    obtain ⟨j,hj⟩:∃ j,c0w s c.Ref = some j:=by
     unfold b3m at hro
     cases hr:c0w s c.Ref with
     | none => simp [h4,hr] at hro
     | some j => exact ⟨j,rfl⟩
    simp only [Bool.not_true,Bool.false_eq_true,if_false,a4z,htt,Option.bind_some,f1s hs hj htt]
    by_cases e:j = tab
    ·subst e
     simp only [decide_true,Bool.not_true,Bool.false_eq_true,if_false]
     rw [d2h k id rows n (fun r hr => by have:=h r hr; omega) h0 (by omega),Option.bind_some,b8y s hs i j t tt ht htt id rows hl h m fuel (k + 1) _ (by omega) (by omega) (by omega) (by omega)]
     simp [c4b,d2y,hst,hj,Int.add_assoc]
    ·simp only [decide_eq_false e,Bool.not_false,if_true]
     rw [b8y s hs i tab t tt ht htt id rows hl h m fuel (k + 1) n (by omega) (by omega) h0 (by omega)]
     simp [c4b,d2y,hst,hj,e]
theorem d2i (s:a0b) (hs:b0b s = true) (x:a0h) (hx:d9h s x.Tables) (tab:Nat) (tt:a0a) (htt:s.Tables[tab]? = some tt) (id:Int):∀ (xs:List (List a0c)) (i:Nat) (n:Int),x.Tables.drop i = xs → 0 ≤ n → n + (xs.length * 72:Nat) ≤ 2 ^ 28 →
  a3l s (tab:Int) id xs n i = some (n + d6a s tab id x.Tables (s.Tables.drop i) i)
 | [],i,n,hd,_,_ => by
  have:x.Tables.length ≤ i:=by simpa using hd
  rw [a3l,List.drop_of_length_le (by rw [← hx.1]; exact this)]
  simp [d6a]
 | l :: xs,i,n,hd,h0,hn => by
  have hlt:=b1k hd
  have hl:x.Tables[i]? = some l:=by have:=congrArg (·[0]?) hd; simpa using this
  have hlt2:i < s.Tables.length:=by rw [← hx.1]; exact hlt
  obtain ⟨t,ht⟩:∃ t,s.Tables[i]? = some t:=⟨s.Tables[i],List.getElem?_eq_getElem hlt2⟩
  have ed:s.Tables.drop i = t :: s.Tables.drop (i + 1):=by
   rw [List.drop_eq_getElem_cons hlt2]; congr 1; exact (List.getElem?_eq_some_iff.1 ht).2
  obtain ⟨g1,g2,g3⟩:=hx.2 i t l ht hl
  have hm:=List.mem_of_getElem? ht
  have hb:=e1z s tab id l t.Columns 0
  have hcc:=d9i hs hm g2
  have hf:=d2d
  have h6:=c1r hs hm
  simp only [List.length_cons] at hn
  have e0:((0:Nat):Int) = 0:=rfl
  have:=b8y s hs i tab t tt ht htt id l g2 (fun r hr => by have:=(g3 r hr).1; omega) t.Columns.length FUEL 0 n (by omega) (by omega) h0 (by omega)
  rw [e0] at this
  rw [a3l,this,Option.bind_some,List.drop_zero,d2i s hs x hx tab tt htt id xs (i + 1) _ (a2j hd) (by omega) (by omega),ed]
  simp only [d6a,hl,Option.getD_some,Int.add_assoc]
theorem e5h (s:a0b) (hs:b0b s = true) (x:a0h) (hx:d9h s x.Tables) (tab:Nat) (htab:tab < s.Tables.length) (id:Int):a6h s x (tab:Int) id = some (d6a s tab id x.Tables s.Tables 0):=by
 have:=b6p hs
 have h1:=hx.1
 unfold a6h
 rw [d2i s hs x hx tab _ (List.getElem?_eq_getElem htab) id x.Tables 0 0 rfl (by omega) (by omega)]
 simp
def gT (ts:List (List a0r)):List (List a0c):=ts.map (List.map gRow)
theorem f1t (a:a2h):d4b (b7p a) = a:=rfl
theorem f1u (a:y7):b7p (d4b a) = a:=rfl
theorem f3v (r:a0r):b7j (gRow r) = r:=by
 unfold b7j gRow
 have:(List.map d4b ∘ List.map b7p) = id:=by funext l; simp [Function.comp_def,f1t]
 simp only [List.map_map,this,List.map_id]
theorem f3w (r:a0c):gRow (b7j r) = r:=by
 unfold b7j gRow
 have:(List.map b7p ∘ List.map d4b) = id:=by funext l; simp [Function.comp_def,f1u]
 simp only [List.map_map,this,List.map_id]
theorem f5h (ts:List (List a0r)):(gT ts).map (List.map b7j) = ts:=by
 unfold gT
 have:(List.map b7j ∘ List.map gRow) = id:=by funext l; simp [Function.comp_def,f3v]
 simp only [List.map_map,this,List.map_id]
theorem f3x (T:List (List a0c)):gT (T.map (List.map b7j)) = T:=by
 unfold gT
 have:(List.map gRow ∘ List.map b7j) = id:=by funext l; simp [Function.comp_def,f3w]
 simp only [List.map_map,this,List.map_id]
theorem b8z {ts:List (List a0r)} {i:Nat} {t:List a0r} (h:ts[i]? = some t):(gT ts)[i]? = some (t.map gRow):=by unfold gT; rw [List.getElem?_map,h]; rfl
structure StS (s:a0b) (B:Nat) (ts:List (List a0r)):Prop where
 form:d9h s (gT ts)
 wt:b1p (gT ts) ≤ B
theorem StS.len {s:a0b} {B:Nat} {ts:List (List a0r)} (h:StS s B ts):ts.length = s.Tables.length:=by have:=h.form.1; unfold gT at this; simpa using this
theorem c8u:∀ (T:List (List a0c)) (i:Nat) (l l':List a0c),T[i]? = some l → b1t l' ≤ b1t l → b3a (T.set i l') ≤ b3a T
 | [],i,l,l',h,_ => by simp at h
 | x :: T,0,l,l',h,hw => by simp at h; subst h; simp only [List.set_cons_zero,b3a]; omega
 | x :: T,i + 1,l,l',h,hw => by
  have:=c8u T i l l' (by simpa using h) hw
  simp only [List.set_cons_succ,b3a]; omega
theorem d2j:∀ (T:List a0c) (i:Nat) (l l':a0c),T[i]? = some l → b8h l' ≤ b8h l → a8m (T.set i l') ≤ a8m T
 | [],i,l,l',h,_ => by simp at h
 | x :: T,0,l,l',h,hw => by simp at h; subst h; simp only [List.set_cons_zero,a8m]; omega
 | x :: T,i + 1,l,l',h,hw => by
  have:=d2j T i l l' (by simpa using h) hw
  simp only [List.set_cons_succ,a8m]; omega
theorem c6g:∀ (T:List (List y7)) (i:Nat) (l l':List y7),T[i]? = some l → a7t l' ≤ a7t l → a9s (T.set i l') ≤ a9s T
 | [],i,l,l',h,_ => by simp at h
 | x :: T,0,l,l',h,hw => by simp at h; subst h; simp only [List.set_cons_zero,a9s]; omega
 | x :: T,i + 1,l,l',h,hw => by
  have:=c6g T i l l' (by simpa using h) hw
  simp only [List.set_cons_succ,a9s]; omega
theorem c1g (p:y7 → Bool):∀ l:List y7,b4o (l.filter p) ≤ b4o l
 | [] => by simp
 | x :: l => by
  have:=c1g p l
  rw [List.filter_cons]
  split <;> simp only [b4o] <;> omega
theorem e2c (a b:List a0c):a8m (a ++ b) = a8m a + a8m b:=by
 induction a with
 | nil => simp [a8m]
 | cons x a ih => simp only [List.cons_append,a8m,ih]; omega
theorem StS.set {s:a0b} {B:Nat} {ts:List (List a0r)} {i:Nat} {t t':List a0r} (h:StS s B ts) (ht:ts[i]? = some t) (hr:b4p (t'.map gRow) = true) (hl:t'.length ≤ t.length)
  (hc:∀ r' ∈ t'.map gRow,∃ r ∈ t.map gRow,r'.Cells.length = r.Cells.length ∧ ∀ d' ∈ r'.Cells,∃ d ∈ r.Cells,d'.length ≤ d.length) (hw:a8m (t'.map gRow) ≤ a8m (t.map gRow)):StS s B (ts.set i t'):=by
 have e:gT (ts.set i t') = (gT ts).set i (t'.map gRow):=by unfold gT; rw [List.map_set]
 have hi:i < (gT ts).length:=(List.getElem?_eq_some_iff.1 (b8z ht)).1
 refine ⟨⟨by rw [e,List.length_set]; exact h.form.1,fun q tt l hq hlq => ?_⟩,?_⟩
 ·rw [e] at hlq
  by_cases hiq:i = q
  ·subst hiq
   rw [List.getElem?_set_self hi] at hlq
   cases hlq
   obtain ⟨g1,g2,g3⟩:=h.form.2 i tt _ hq (b8z ht)
   refine ⟨hr,by rw [List.length_map] at *; omega,fun r' hr' => ?_⟩
   obtain ⟨r,hrm,k1,k2⟩:=hc r' hr'
   obtain ⟨z1,z2⟩:=g3 r hrm
   refine ⟨k1.trans z1,fun d' hd' => ?_⟩
   obtain ⟨d,hd,hdl⟩:=k2 d' hd'
   have:=z2 d hd; omega
  ·rw [List.getElem?_set_ne hiq] at hlq
   exact h.form.2 q tt l hq hlq
 ·rw [e]
  have:=c8u (gT ts) i _ (t'.map gRow) (b8z ht) (by unfold b1t; rw [List.length_map,List.length_map]; omega)
  have hw:=h.wt
  unfold b1p at hw ⊢
  rw [List.length_set]; omega
def c1h (ts:List (List a0r)):Nat:=(ts.map List.length).sum
theorem d9j:∀ (ts:List (List a0r)) (i:Nat) (t t':List a0r),ts[i]? = some t → c1h (ts.set i t') + t.length = c1h ts + t'.length
 | [],i,t,t',h => by simp at h
 | x :: ts,0,t,t',h => by simp at h; subst h; simp only [List.set_cons_zero,c1h,List.map_cons,List.sum_cons]; omega
 | x :: ts,i + 1,t,t',h => by
  have:=d9j ts i t t' (by simpa using h)
  simp only [c1h,List.set_cons_succ,List.map_cons,List.sum_cons] at *; omega
theorem c8v:∀ {l:List a0c},l.Pairwise (fun a b => a.Id < b.Id) → b4p l = true
 | [],_ => rfl
 | [_],_ => rfl
 | a :: b :: l,h => by
  obtain ⟨h1,h2⟩:=List.pairwise_cons.1 h
  simp only [b4p,Bool.and_eq_true,decide_eq_true_eq]
  exact ⟨h1 b (by simp),c8v h2⟩
theorem d9k:∀ {l l':List a0c},l.map a0c.Id = l'.map a0c.Id → b4p l = b4p l'
 | [],[],_ => rfl
 | [_],[_],_ => rfl
 | a :: b :: l,c :: d :: l',h => by
  simp only [List.map_cons,List.cons.injEq] at h
  have:=d9k (l:=b :: l) (l':=d :: l') (by simp [h.2.1,h.2.2])
  simp only [b4p,h.1,h.2.1,this]
 | [],_ :: _,h => by simp at h
 | _ :: _,[],h => by simp at h
 | [_],_ :: _ :: _,h => by simp at h
 | _ :: _ :: _,[_],h => by simp at h
theorem StS.small {s:a0b} {n:Int} {B:Nat} {ts:List (List a0r)} (h:StS s B ts) (hs:b0b s = true):smS ⟨gT ts,n⟩:=by
 have h4:=b6p hs
 refine ⟨by have:=h.form.1; show (gT ts).length ≤ _; omega,fun l hl => ?_⟩
 obtain ⟨i,hi⟩:=List.mem_iff_getElem?.1 hl
 have hil:=(List.getElem?_eq_some_iff.1 hi).1
 obtain ⟨t,ht⟩:∃ t,s.Tables[i]? = some t:=⟨s.Tables[i]'(by rw [← h.form.1]; exact hil),List.getElem?_eq_getElem _⟩
 obtain ⟨g1,g2,g3⟩:=h.form.2 i t l ht hi
 have h6:=c1r hs (List.mem_of_getElem? ht)
 exact ⟨by omega,fun r hr => ⟨by rw [(g3 r hr).1]; omega,(g3 r hr).2⟩⟩
def cF1 (s:a0b) (n:Int) (ts:List (List a0r)) (i:Nat) (id:Int):Option Int:=a6h s ⟨ts.map (List.map gRow),n⟩ (i:Int) id
def cF2 (s:a0b) (n:Int) (ts:List (List a0r)) (i:Nat) (id:Int):Option Int:=a5h s ⟨ts.map (List.map gRow),n⟩ (i:Int) id
def e2d (n:Int) (ts:List (List a0r)):Option (List (List a0r)):=(b0t ⟨ts.map (List.map gRow),n⟩).bind fun y => if y.Next = n then some (y.Tables.map (List.map b7j)) else none
def e9h (n:Int) (ts:List (List a0r)):Option (List (List a0r)):=(a8d ⟨ts.map (List.map gRow),n⟩).bind fun y => if y.Next = n then some (y.Tables.map (List.map b7j)) else none
theorem e3f {s:a0b} {n:Int} {B:Nat} {ts:List (List a0r)} (h:StS s B ts) (hs:b0b s = true):e2d n ts = some ts:=by
 unfold e2d
 rw [show ts.map (List.map gRow) = gT ts from rfl,e9f _ (h.small hs),Option.bind_some,if_pos rfl,f5h]
theorem e9i {s:a0b} {n:Int} {B:Nat} {ts:List (List a0r)} (h:StS s B ts) (hs:b0b s = true):e9h n ts = some ts:=by
 unfold e9h
 rw [show ts.map (List.map gRow) = gT ts from rfl,d9c _ (h.small hs),Option.bind_some,if_pos rfl,f5h]
theorem f5j {s:a0b} {n:Int} {B:Nat} {ts:List (List a0r)} (h:StS s B ts) (hs:b0b s = true) {i:Nat} (hi:i < s.Tables.length) (id:Int):∃ c,cF1 s n ts i id = some c ∧ cF2 s n ts i id = some c :=
 ⟨_,e5h s hs ⟨gT ts,n⟩ h.form i hi id,e5g s hs ⟨gT ts,n⟩ h.form i id⟩
theorem e9j {s:a0b} {B:Nat} {ts:List (List a0r)} (h:StS s B ts) {i:Nat} (hi:i < s.Tables.length) {A rest:List a0r} {r:a0r} (ht:ts[i]? = some (A ++ r :: rest)) :
  StS s B (ts.set i (A ++ rest)) ∧ (A ++ r :: rest).filter (fun x => !(x.1 == r.1)) = A ++ rest:=by
 obtain ⟨g1,g2,g3⟩:=h.form.2 i _ _ (List.getElem?_eq_getElem hi) (b8z ht)
 have hp:=c7h g1
 rw [List.map_append,List.map_cons] at hp
 obtain ⟨p1,p2,p3⟩:=List.pairwise_append.1 hp
 obtain ⟨p4,p5⟩:=List.pairwise_cons.1 p2
 have hsub:List.Sublist (A ++ rest) (A ++ r :: rest):=List.Sublist.append (List.Sublist.refl _) (List.sublist_cons_self ..)
 constructor
 ·refine h.set ht (c8v ?_) hsub.length_le (fun r' hr' => ⟨r',?_,rfl,fun d hd => ⟨d,hd,Nat.le_refl _⟩⟩) ?_
  ·exact (c7h g1).sublist (hsub.map _)
  ·exact (hsub.map gRow).subset hr'
  ·simp only [List.map_append,List.map_cons,e2c,a8m]; omega
 ·rw [List.filter_append,List.filter_cons]
  have hA:A.filter (fun x => !(x.1 == r.1)) = A:=List.filter_eq_self.2 (fun x hx => by
   have h1:x.1 < r.1:=p3 (gRow x) (List.mem_map_of_mem hx) (gRow r) (by simp)
   simp; omega)
  have hR:rest.filter (fun x => !(x.1 == r.1)) = rest:=List.filter_eq_self.2 (fun x hx => by
   have h1:r.1 < x.1:=p4 (gRow x) (List.mem_map_of_mem hx)
   simp; omega)
  rw [hA,hR]; simp
theorem f1v {s:a0b} {n:Int} {B:Nat} (hs:b0b s = true) {i:Nat} {st:a0a} (hst:s.Tables[i]? = some st):∀ (rest A:List a0r) (ts:List (List a0r)) (g:Bool) (fuel:Nat),StS s B ts → ts[i]? = some (A ++ rest) → rest.length < fuel →
  ∃ r,b5z (s.Tables.map b7c) (cF1 s n) (e2d n) i fuel A.length ts g = some r ∧ c0h (cF2 s n) i st.Root (rest.map fun r => r.1) ts g = some r ∧ StS s B r.1 ∧ c1h r.1 ≤ c1h ts ∧ (r.2 = true → g = true ∨ c1h r.1 < c1h ts)
 | _,_,_,_,0,_,_,hf => by omega
 | [],A,ts,g,fuel + 1,h,ht,hf => by
  refine ⟨(ts,g),?_,rfl,h,Nat.le_refl _,fun hg => .inl hg⟩
  rw [List.append_nil] at ht
  simp only [b5z,ht,Option.bind_some]
  rw [List.getElem?_eq_none (Nat.le_refl _)]
  simp
 | r :: rest,A,ts,g,fuel + 1,h,ht,hf => by
  simp only [List.length_cons] at hf
  have hi:=(List.getElem?_eq_some_iff.1 hst).1
  have hk:(A ++ r :: rest)[A.length]? = some r:=by rw [List.getElem?_append_right (Nat.le_refl _)]; simp
  have hss:(s.Tables.map b7c)[i]? = some (b7c st):=by rw [List.getElem?_map,hst]; rfl
  have hroot:(b7c st).root = st.Root:=rfl
  have ht':ts[i]? = some ((A ++ [r]) ++ rest):=by rw [ht]; simp
  have hlen:(A ++ [r]).length = A.length + 1:=by simp
  simp only [b5z,ht,Option.bind_some,hk,hss,hroot,List.map_cons,c0h]
  by_cases hR:st.Root = true
  ·rw [if_pos hR,if_pos hR,← hlen]
   exact f1v hs hst rest (A ++ [r]) ts g fuel h ht' (by omega)
  ·rw [if_neg hR,if_neg hR]
   obtain ⟨c,c1,c2⟩:=f5j (n:=n) h hs hi r.1
   rw [c1,c2,Option.bind_some,Option.bind_some]
   by_cases hc:c = 0
   ·rw [if_pos hc,if_pos hc,e3f h hs,Option.bind_some,ht,Option.bind_some]
    obtain ⟨g1,g2,-⟩:=h.form.2 i _ _ hst (b8z ht)
    obtain ⟨k1,k2⟩:=e9j h hi ht
    have h4:=b6p hs
    rw [List.length_map] at g2
    have e1:(A ++ r :: rest).take A.length ++ (A ++ r :: rest).drop (A.length + 1) = A ++ rest:=by
     rw [List.take_left,← List.drop_drop,List.drop_left]; rfl
    rw [if_pos ⟨by simp,by omega,by omega⟩,e1,k2]
    have hset:(ts.set i (A ++ rest))[i]? = some (A ++ rest):=List.getElem?_set_self (by rw [h.len]; exact hi)
    obtain ⟨q,q1,q2,q3,q4,q5⟩:=f1v hs hst rest A (ts.set i (A ++ rest)) true fuel k1 hset (by omega)
    have ht2:=d9j ts i _ (A ++ rest) ht
    simp only [List.length_append,List.length_cons] at ht2
    exact ⟨q,q1,q2,q3,by omega,fun _ => .inr (by omega)⟩
   ·rw [if_neg hc,if_neg hc,← hlen]
    exact f1v hs hst rest (A ++ [r]) ts g fuel h ht' (by omega)
theorem f5k {s:a0b} {n:Int} {B:Nat} (hs:b0b s = true):∀ (xs:List a0a) (i:Nat) (ts:List (List a0r)) (g:Bool) (fuel:Nat),s.Tables.drop i = xs → StS s B ts → xs.length < fuel →
  ∃ r,b8q (s.Tables.map b7c) (cF1 s n) (e2d n) fuel i ts g = some r ∧ c7x (cF2 s n) (xs.map b7c) i ts g = some r ∧ StS s B r.1 ∧ c1h r.1 ≤ c1h ts ∧ (r.2 = true → g = true ∨ c1h r.1 < c1h ts)
 | _,_,_,_,0,_,_,hf => by omega
 | [],i,ts,g,fuel + 1,hd,h,hf => by
  have hi:s.Tables.length ≤ i:=by simpa using hd
  refine ⟨(ts,g),?_,rfl,h,Nat.le_refl _,fun hg => .inl hg⟩
  simp only [b8q]
  rw [if_neg (by rw [h.len]; omega)]
 | t :: xs,i,ts,g,fuel + 1,hd,h,hf => by
  simp only [List.length_cons] at hf
  have hlt:=b1k hd
  have hst:s.Tables[i]? = some t:=by have:=congrArg (·[0]?) hd; simpa using this
  obtain ⟨l,hl⟩:∃ l,ts[i]? = some l:=⟨ts[i]'(by rw [h.len]; exact hlt),List.getElem?_eq_getElem _⟩
  obtain ⟨g1,g2,-⟩:=h.form.2 i _ _ hst (b8z hl)
  rw [List.length_map] at g2
  have hf40:=d2d
  obtain ⟨q,q1,q2,q3,q4,q5⟩:=f1v (n:=n) hs hst l [] ts g FUEL h (by simpa using hl) (by omega)
  have q1:b5z (s.Tables.map b7c) (cF1 s n) (e2d n) i FUEL 0 ts g = some q:=q1
  obtain ⟨z,z1,z2,z3,z4,z5⟩:=f5k hs xs (i + 1) q.1 q.2 fuel (a2j hd) q3 (by omega)
  have hroot:(b7c t).root = t.Root:=rfl
  refine ⟨z,?_,?_,z3,by omega,fun hz => ?_⟩
  ·simp only [b8q]
   rw [if_pos (by rw [h.len]; exact hlt),q1,Option.bind_some,z1]
  ·simp only [List.map_cons,c7x,hl,Option.bind_some,hroot]
   rw [if_pos (by omega),q2,Option.bind_some,z2]
  ·rcases z5 hz with hq | hq
   ·rcases q5 hq with hg | hg
    ·exact .inl hg
    ·exact .inr (by omega)
   ·exact .inr (by omega)
theorem f5l {s:a0b} {n:Int} {B:Nat} (hs:b0b s = true):∀ (fuel:Nat) (ts:List (List a0r)) (g:Bool),StS s B ts → 1 ≤ fuel → (g = true → c1h ts + 2 ≤ fuel) →
  ∃ r,b8r (s.Tables.map b7c) (cF1 s n) (e2d n) fuel ts g = some r ∧ c5d (cF2 s n) (s.Tables.map b7c) fuel ts g = some r ∧ StS s B r
 | 0,_,_,_,hf,_ => by omega
 | fuel + 1,ts,g,h,hf,hg => by
  simp only [b8r,c5d]
  by_cases c:g = true
  ·have hg:=hg c
   have h4:=b6p hs
   have hf40:=d2d
   obtain ⟨q,q1,q2,q3,q4,q5⟩:=f5k (n:=n) hs s.Tables 0 ts false FUEL rfl h (by omega)
   rw [if_pos c,if_pos c,q1,q2,Option.bind_some,Option.bind_some]
   exact f5l hs fuel q.1 q.2 q3 (by omega) (fun hq => by rcases q5 hq with h | h; cases h; omega)
  ·rw [if_neg c,if_neg c]
   exact ⟨ts,rfl,rfl,h⟩
def cPl (rows:List a0r) (N:Int):Option Int:=a7l (rows.map gRow) N
def e5i (ids:List (List Int)) (f N:Int):Option Bool:=a2l (bare ids) f N
theorem d6c (there:List a0r):∀ (xs acc:List a2h),acc.length + xs.length ≤ 2 ^ 30 → b8d (cPl there) xs acc = some (acc ++ xs.filter fun x => b5w (there.map gRow) x.2.1)
 | [],acc,_ => by simp [b8d]
 | x :: xs,acc,h => by
  simp only [List.length_cons] at h
  have hn:=e5f (there.map gRow) x.2.1
  have hp:cPl there x.2.1 = some (atI ((there.map gRow).findIdx? fun r => r.Id == x.2.1)):=e1w _ _
  simp only [b8d,hp,Option.bind_some]
  generalize atI ((there.map gRow).findIdx? fun r => r.Id == x.2.1) = o at hn
  cases hh:b5w (there.map gRow) x.2.1 with
  | true =>
   rw [hh] at hn
   have:o ≥ 0:=by simp at hn; omega
   rw [if_pos this,if_pos (by omega),d6c there xs (acc ++ [x]) (by rw [List.length_append]; simp; omega)]
   simp [List.filter_cons,hh]
  | false =>
   rw [hh] at hn
   have:¬ o ≥ 0:=by simp at hn; omega
   rw [if_neg this,d6c there xs acc (by omega)]
   simp [List.filter_cons,hh]
theorem has_eq {s:a0b} {B:Nat} {ts:List (List a0r)} (h:StS s B ts) (hs:b0b s = true) {j:Nat} {there:List a0r} (hj:ts[j]? = some there) (N:Int):e5i (b1y ts) (j:Int) N = some (b5w (there.map gRow) N):=by
 have hjl:j < s.Tables.length:=by rw [← h.len]; exact (List.getElem?_eq_some_iff.1 hj).1
 obtain ⟨g1,g2,-⟩:=h.form.2 j _ _ (List.getElem?_eq_getElem hjl) (b8z hj)
 unfold e5i
 rw [d1n ts 0]
 exact e9e ⟨gT ts,0⟩ j _ N (b8z hj) g1 (by omega)
theorem f5n {s:a0b} {B:Nat} (hs:b0b s = true) {i c j:Nat} {st:a0a} {rf:Str} (hst:s.Tables[i]? = some st) (hc:c < st.Columns.length) (hj:c0w s rf = some j):∀ (m k:Nat) (ts:List (List a0r)) (t:List a0r),StS s B ts → ts[i]? = some t → t.length = m + k →
  ∃ r,b6y cPl i c j m k ts = some r ∧ c7y (fun ids N => (a1p s rf).bind fun f => e5i ids f N) i c m k ts = some r ∧ StS s B r
 | 0,k,ts,t,h,ht,hl => ⟨ts,rfl,rfl,h⟩
 | m + 1,k,ts,t,h,ht,hl => by
  have hi:=(List.getElem?_eq_some_iff.1 hst).1
  obtain ⟨g1,g2,g3⟩:=h.form.2 i _ _ hst (b8z ht)
  have hkl:k < t.length:=by omega
  obtain ⟨rr,hrr⟩:∃ r,t[k]? = some r:=⟨t[k],List.getElem?_eq_getElem hkl⟩
  have hrm:rr ∈ t:=List.mem_of_getElem? hrr
  obtain ⟨z1,z2⟩:=g3 (gRow rr) (List.mem_map_of_mem hrm)
  have hcl:c < rr.2.length:=by
   have:(gRow rr).Cells.length = rr.2.length:=by unfold gRow; simp
   omega
  obtain ⟨d,hd⟩:∃ d,rr.2[c]? = some d:=⟨rr.2[c],List.getElem?_eq_getElem hcl⟩
  have hdm:d.map b7p ∈ (gRow rr).Cells:=by unfold gRow; exact List.mem_map_of_mem (List.mem_of_getElem? hd)
  have hdl:=z2 _ hdm
  rw [List.length_map] at hdl
  have hjl:=e3e hj
  obtain ⟨there,hth⟩:∃ l,ts[j]? = some l:=⟨ts[j]'(by rw [h.len]; exact hjl),List.getElem?_eq_getElem _⟩
  have hq:∀ N,((a1p s rf).bind fun f => e5i (b1y ts) f N) = some (b5w (there.map gRow) N):=by
   intro N
   rw [c7e,hj,Option.bind_some]
   exact has_eq h hs hth N
  have hkeep:=d6c there d [] (by simpa using hdl)
  rw [List.nil_append] at hkeep
  simp only [b6y,c7y,ht,hrr,hd,hth,Option.bind_some,hkeep,hq,Option.isSome_some,Option.getD_some]
  rw [if_pos (by simp)]
  have hdf:∀ {p:a2h → Bool},(d.filter p).length ≤ d.length:=List.length_filter_le _ _
  generalize hd':(d.filter fun x => b5w (there.map gRow) x.2.1) = d'
  have hd'l:d'.length ≤ d.length:=by rw [← hd']; exact hdf
  have hnew:StS s B (ts.set i (t.set k (rr.1,rr.2.set c d'))):=by
   have em:(t.set k (rr.1,rr.2.set c d')).map gRow = (t.map gRow).set k (gRow (rr.1,rr.2.set c d')):=List.map_set ..
   have ek:(t.map gRow)[k]? = some (gRow rr):=by rw [List.getElem?_map,hrr]; rfl
   have ec:(gRow (rr.1,rr.2.set c d')).Cells = (gRow rr).Cells.set c (d'.map b7p):=by unfold gRow; exact List.map_set ..
   refine h.set ht ?_ (by rw [List.length_set]; exact Nat.le_refl _) ?_ ?_
   ·rw [em,← g1]
    refine d9k ?_
    rw [List.map_set]
    apply List.ext_getElem?
    intro q
    by_cases hkq:k = q
    ·subst hkq
     rw [List.getElem?_set_self (by simpa using hkl),List.getElem?_map,ek]; rfl
    ·rw [List.getElem?_set_ne hkq]
   ·intro r' hr'
    rw [em] at hr'
    rcases List.mem_or_eq_of_mem_set hr' with hm | rfl
    ·exact ⟨r',hm,rfl,fun x hx => ⟨x,hx,Nat.le_refl _⟩⟩
    ·refine ⟨gRow rr,List.mem_map_of_mem hrm,by rw [ec,List.length_set],fun x hx => ?_⟩
     rw [ec] at hx
     rcases List.mem_or_eq_of_mem_set hx with hm | rfl
     ·exact ⟨x,hm,Nat.le_refl _⟩
     ·exact ⟨_,hdm,by rw [List.length_map,List.length_map]; exact hd'l⟩
   ·rw [em]
    refine d2j _ k _ _ ek ?_
    unfold b8h a9t
    rw [ec,List.length_set]
    have h1:(gRow rr).Cells[c]? = some (d.map b7p):=by unfold gRow; rw [List.getElem?_map,hd]; rfl
    have h2:d'.map b7p = (d.map b7p).filter fun x => b5w (there.map gRow) x.N:=by
     rw [← hd',List.filter_map]; rfl
    have h3:=c6g (gRow rr).Cells c _ (d'.map b7p) h1 (by
     unfold a7t
     rw [h2]
     have:=c1g (fun x => b5w (there.map gRow) x.N) (d.map b7p)
     have:=List.length_filter_le (fun x:y7 => b5w (there.map gRow) x.N) (d.map b7p)
     omega)
    omega
  exact f5n hs hst hc hj m (k + 1) _ (t.set k (rr.1,rr.2.set c d')) hnew (List.getElem?_set_self (by rw [h.len]; exact hi)) (by rw [List.length_set]; omega)
def e5j (c:x8):d2p:=⟨c.Name,c.Kind,c.Min,c.Max,c.Low,c.High,c.Ref,c.Strong⟩
theorem f3y {s:a0b} {B:Nat} (hs:b0b s = true) {i:Nat} {st:a0a} (hst:s.Tables[i]? = some st):∀ (cs:List x8) (c:Nat) (ts:List (List a0r)),st.Columns.drop c = cs → StS s B ts →
  ∃ r,b6z (fun rf => a6b s rf) cPl i (cs.map e5j) c ts = some r ∧ c1z (fun rf => a1p s rf) e5i i (cs.map e5j) c ts = some r ∧ StS s B r
 | [],c,ts,_,h => ⟨ts,rfl,rfl,h⟩
 | col :: cs,c,ts,hd,h => by
  have hi:=(List.getElem?_eq_some_iff.1 hst).1
  have hlt:=b1k hd
  have hcol:st.Columns[c]? = some col:=by have:=congrArg (·[0]?) hd; simpa using this
  have e1:(e5j col).kd = col.Kind:=rfl
  have e2:(e5j col).st = col.Strong:=rfl
  have e3:(e5j col).rf = col.Ref:=rfl
  simp only [List.map_cons,b6z,c1z,e1,e2,e3]
  by_cases hsk:(decide (col.Kind ≠ 4) || col.Strong) = true
  ·rw [if_pos hsk,if_pos hsk]
   exact f3y hs hst cs (c + 1) ts (a2j hd) h
  ·rw [if_neg hsk,if_neg hsk]
   have hk:col.Kind = 4:=by
    rcases Decidable.em (col.Kind = 4) with h | h
    ·exact h
    ·exact absurd (by simp [h]) hsk
   obtain ⟨j,hj⟩:∃ j,c0w s col.Ref = some j:=by
    have hro:b3m s col = true:=by
     unfold b0b at hs
     simp only [Bool.and_eq_true] at hs
     exact List.all_eq_true.1 (List.all_eq_true.1 hs.2 st (List.mem_of_getElem? hst)) col (List.mem_of_getElem? hcol)
    unfold b3m at hro
    cases hr:c0w s col.Ref with
    | none => simp [hk,hr] at hro
    | some j => exact ⟨j,rfl⟩
   have hjl:=e3e hj
   obtain ⟨t,ht⟩:∃ t,ts[i]? = some t:=⟨ts[i]'(by rw [h.len]; exact hi),List.getElem?_eq_getElem _⟩
   obtain ⟨q,q1,q2,q3⟩:=f5n hs hst hlt hj t.length 0 ts t h ht rfl
   have ea:atI (some j) = (j:Int):=rfl
   rw [d4d,hj,Option.bind_some,ea,if_pos ⟨by omega,by rw [h.len]; omega⟩,ht,Option.bind_some,Int.toNat_natCast,q1,Option.bind_some,Option.bind_some,q2,Option.bind_some]
   exact f3y hs hst cs (c + 1) q (a2j hd) q3
theorem f5o {s:a0b} {B:Nat} (hs:b0b s = true):∀ (xs:List a0a) (i:Nat) (ts:List (List a0r)),s.Tables.drop i = xs → StS s B ts →
  ∃ r,c0g (fun rf => a6b s rf) cPl (s.Tables.map b7c) xs.length i ts = some r ∧ c7z (fun rf => a1p s rf) e5i (xs.map b7c) i ts = some r ∧ StS s B r
 | [],i,ts,_,h => ⟨ts,rfl,rfl,h⟩
 | t :: xs,i,ts,hd,h => by
  have hst:s.Tables[i]? = some t:=by have:=congrArg (·[0]?) hd; simpa using this
  have hss:(s.Tables.map b7c)[i]? = some (b7c t):=by rw [List.getElem?_map,hst]; rfl
  have ec:(b7c t).cols = t.Columns.map e5j:=rfl
  obtain ⟨q,q1,q2,q3⟩:=f3y hs hst t.Columns 0 ts rfl h
  simp only [List.length_cons,List.map_cons,c0g,c7z,hss,Option.bind_some,ec,q1,q2]
  exact f5o hs xs (i + 1) q (a2j hd) q3
theorem e9k (s:a0b) (x:a0h) (hx:c4a s x = true) (hd:∀ l ∈ x.Tables,∀ r ∈ l,∀ d ∈ r.Cells,d.length ≤ 2 ^ 30):∃ o,b7e s x = some o ∧ b2i s x = some o ∧ a8u o ≤ a8u x:=by
 unfold c4a at hx
 simp only [Bool.and_eq_true,decide_eq_true_eq] at hx
 obtain ⟨⟨⟨hs,hlen⟩,hn⟩,hall⟩:=hx
 have h0:StS s (a8u x) (x.Tables.map (List.map b7j)):=by
  refine ⟨?_,by rw [f3x]; exact Nat.le_refl _⟩
  rw [f3x]
  refine ⟨hlen,fun i t l ht hl => ?_⟩
  have:=(b5v _ _ _).1 hall i l hl
  simp only [c6d,Nat.zero_add,ht,Bool.and_eq_true,decide_eq_true_eq] at this
  refine ⟨this.1.2,this.1.1,fun r hr => ?_⟩
  have h3:=List.all_eq_true.1 this.2 r hr
  simp only [Bool.and_eq_true,decide_eq_true_eq] at h3
  exact ⟨h3.1.2,hd l (List.mem_of_getElem? hl) r hr⟩
 have h4:=b6p hs
 have ht:c1h (x.Tables.map (List.map b7j)) + 2 ≤ FUEL:=by
  have hf:=d2d
  have:∀ T:List (List a0c),(∀ l ∈ T,l.length ≤ 12) → c1h (T.map (List.map b7j)) ≤ T.length * 12:=by
   intro T
   induction T with
   | nil => intro _; simp [c1h]
   | cons l T ih =>
    intro h
    have:=ih (fun y hy => h y (by simp [hy]))
    have:=h l (by simp)
    simp only [c1h,List.map_cons,List.sum_cons,List.length_cons,List.length_map] at *
    omega
  have:=this x.Tables (fun l hl => by
   obtain ⟨i,hi⟩:=List.mem_iff_getElem?.1 hl
   have hil:=(List.getElem?_eq_some_iff.1 hi).1
   exact (h0.form.2 i _ l (List.getElem?_eq_getElem (by omega)) (by rw [f3x]; exact hi)).2.1)
  omega
 obtain ⟨q,q1,q2,q3⟩:=f5l (n:=x.Next) hs FUEL _ true h0 (by omega) (fun _ => ht)
 obtain ⟨z,z1,z2,z3⟩:=f5o hs s.Tables 0 q rfl q3
 refine ⟨⟨z.map (List.map gRow),x.Next⟩,?_,?_,z3.wt⟩
 ·unfold b7e c9q
  have e1:=e9i (n:=x.Next) h0 hs
  unfold e9h at e1
  dsimp only
  rw [e1,Option.bind_some]
  have e2:c5d (fun ts i id => a5h s ⟨ts.map (List.map gRow),x.Next⟩ (i:Int) id) (s.Tables.map b7c) FUEL (x.Tables.map (List.map b7j)) true = some q:=q2
  have e3:c7z (fun rf => a1p s rf) (fun ids f N => a2l (bare ids) f N) (s.Tables.map b7c) 0 q = some z:=z2
  rw [e2,Option.bind_some,e3,Option.bind_some]
 ·unfold b2i c5c
  have e1:=e3f (n:=x.Next) h0 hs
  unfold e2d at e1
  dsimp only
  rw [e1,Option.bind_some]
  have e2:b8r (s.Tables.map b7c) (fun ts i id => a6h s ⟨ts.map (List.map gRow),x.Next⟩ (i:Int) id) (fun ts => (b0t ⟨ts.map (List.map gRow),x.Next⟩).bind fun y => if y.Next = x.Next then some (y.Tables.map (List.map b7j)) else none) FUEL (x.Tables.map (List.map b7j)) true = some q:=q1
  rw [← q3.len] at z1
  have e3:c0g (fun rf => a6b s rf) (fun rows n => a7l (rows.map gRow) n) (s.Tables.map b7c) q.length 0 q = some z:=z1
  rw [e2,Option.bind_some,e3,Option.bind_some]
theorem f1w (s:a0b) (x:a0h) (hs:∀ l ∈ x.Tables,∀ r ∈ l,d1y r) (hw:a8u x ≤ 2 ^ 30):∃ o c,b7d s x = some (o,c) ∧ b4t s x = some (o,c) ∧ a8u o ≤ a8u x:=by
 unfold b4t b7d
 rw [d9b s x hs,d5z]
 cases h:c4a s x with
 | false => exact ⟨_,_,rfl,rfl,Nat.zero_le _⟩
 | true =>
  obtain ⟨o,o1,o2,o3⟩:=e9k s x h (fun l hl r hr d hd => by
   have h1:=b7q hl
   have h2:=b8v hr
   have h3:=b6j hd
   unfold a8u b1p at hw
   unfold b1t at h1
   unfold b8h a9t at h2
   unfold a7t at h3
   omega)
  rw [Option.bind_some,Option.bind_some,if_neg (by simp),if_neg (by simp),o1,o2]
  exact ⟨o,0,rfl,rfl,o3⟩
theorem c7j (s:a0b) (x:a0h) (hs:c1p s) (hx:c0i x):b0g s x = some true:=by
 unfold b0g
 obtain ⟨r,e,hr⟩:=e1h s 1048576 (by omega) (by omega) hs
 rw [e,Option.bind_some]
 by_cases hn:r < 0
 ·rw [if_pos (decide_eq_true hn)]
 rw [if_neg (by simpa using hn)]
 obtain ⟨a1,a2⟩:=hr.resolve_left hn
 obtain ⟨r2,e2,hr2⟩:=e4q x r (by omega) (by omega) hx
 rw [e2,Option.bind_some]
 by_cases hn2:r2 < 0
 ·rw [if_pos (decide_eq_true hn2)]
 rw [if_neg (by simpa using hn2)]
 obtain ⟨b1,b2⟩:=hr2.resolve_left hn2
 have t1:=e1l s (by omega)
 have t2:=e4u x (by omega)
 obtain ⟨o,c,f1,f2,hwo⟩:=f1w s x (d2x hx) (by omega)
 have q0:=d5s s
 have q1:=c8m x
 have m0:=d5p s 1 (d5t s (by omega)) (by omega) (by omega)
 have m1:=c8d x (1 + (b4u s:Nat)) (c0t x (by omega)) (by omega) (by omega)
 have q4:=c8m o
 have m4:=c8d o 1 (c0t o (by omega)) (by omega) (by omega)
 have m5:=d8h o 1 (c0t o (by omega)) (by omega) (by omega)
 have n1:decide ((1:Int) + (b4u s:Nat) + (b2v x:Nat) < 0) = false:=decide_eq_false (by omega)
 have n2:decide ((1:Int) + (b2v o:Nat) < 0) = false:=decide_eq_false (by omega)
 have em:(⟨(c5l o 1).Tables,o.Next⟩:a0h) = c5l o 1:=rfl
 simp only [t1,t2,Option.bind_some,f1,f2,e1d,e4m,m0,m1,m4,em,m5,n1,n2,Bool.not_true,Bool.false_eq_true,if_false,bne_self_eq_false,cond_false]
end Go.R
end
