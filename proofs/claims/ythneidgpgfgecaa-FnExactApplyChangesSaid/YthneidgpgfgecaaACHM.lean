/- Marks: what the laws' own marking functions leave, and that it is read back. -/
import Derived.Test.YthneidgpgfgecaaACH4
import Derived.Test.YthneidgpgfgecaaP0
set_option linter.all false
namespace Go.R
open Go
set_option linter.all false
set_option maxHeartbeats 1000000
theorem fuel_lt {n:Nat} (h:n < 2 ^ 90):n < FUEL:=by unfold FUEL; omega
theorem b7j:∀ (m f:Nat) (k:Int) (out:Str),0 ≤ k → k < 2 ^ m → m < f → out.length + m + 1 ≤ maxLen → k < 2 ^ 62 → ∃ t,a3t f k out = some t ∧ t.length ≤ out.length + m
  | _,0,_,_,_,_,h,_,_ => by omega
  | 0,f + 1,k,out,h0,h1,_,_,_ => by
    have:k = 0:=by simp at h1; omega
    subst this
    rw [a3t,if_neg (by simp)]
    exact ⟨out,rfl,by omega⟩
  | m + 1,f + 1,k,out,h0,h1,h2,h3,h4 => by
    rw [a3t]
    by_cases hk:k > 0
    · rw [if_pos (by simpa using hk)]
      have hb:∀ n,(d0r [n]).length = 1:=fun _ => rfl
      rw [if_pos (by rw [hb]; omega)]
      have hd:k.tdiv 10 = k / 10:=Int.tdiv_eq_ediv_of_nonneg h0
      have hw:w64 (k.tdiv 10) = k / 10:=by rw [hd]; exact a3l (by omega)
      rw [hw]
      have hp:(2:Int) ^ (m + 1) = 2 * 2 ^ m:=by rw [Int.pow_succ]; omega
      obtain ⟨t,e,hl⟩:=b7j m f (k / 10) (d0r [IntKind.u8.wrap (w64 (48 + (k.tmod 10)))] ++ out) (by omega) (by omega) (by omega) (by rw [List.length_append,hb]; omega) (by omega)
      refine ⟨t,e,?_⟩
      rw [List.length_append,hb] at hl
      omega
    · rw [if_neg (by simpa using hk)]
      exact ⟨out,rfl,by omega⟩
def tx (k:Int):Str:=(a5z k).getD []
theorem c5a {k:Int} (h0:1 ≤ k) (h1:k < 2 ^ 62):a5z k = some (tx k):=by
  have:∃ t,a5z k = some t:=by
    unfold a5z
    rw [if_neg (by simp; omega)]
    obtain ⟨t,e,hl⟩:=b7j 62 FUEL k [] (by omega) h1 (fuel_lt (by omega)) (by simp [maxLen]) h1
    rw [e,Option.bind_some,if_pos (by simp only [List.length_cons,List.length_nil] at hl ⊢; simp only [maxLen]; omega)]
    exact ⟨_,rfl⟩
  obtain ⟨t,e⟩:=this
  unfold tx
  rw [e]
  rfl
def a3w:List a0c → Nat
  | [] => 0
  | x :: xs => (1 + 1 + 1) + a3w xs
def a7m:List a0c → Int → List a0c
  | [],_ => []
  | x :: xs,k => ⟨(k),(k + 1),(tx (k + 1 + 1))⟩ :: a7m xs (k + 1 + 1 + 1)
def a6n (l:List a0c):Prop:=l.length < 2 ^ 61
theorem b6a:∀ (n f:Nat) (l:List a0c) (i:Nat) (k:Int),i + n = l.length → n < f → 1 ≤ k → a6n l → k + (a3w (l.drop i):Nat) < 2 ^ 62 → a3e f k i l = some (k + (a3w (l.drop i):Nat),l.take i ++ a7m (l.drop i) k)
  | _,0,_,_,_,_,h,_,_,_ => by omega
  | 0,f + 1,l,i,k,h,_,_,_,_ => by
    rw [a3e,if_neg (by simp; omega),List.drop_of_length_le (by omega),List.take_of_length_le (by omega)]
    simp [a3w,a7m]
  | n + 1,f + 1,l,i,k,h,hf,hk,hfit,hc => by
    have hi:i < l.length:=by omega
    have hd:l.drop i = l[i] :: l.drop (i + 1):=List.drop_eq_getElem_cons hi
    rw [hd] at hc ⊢
    simp only [a3w] at hc ⊢
    have hlen:l.length < 2 ^ 61:=hfit
    have w0:w64 (k + 1) = k + 1:=a3l (by omega)
    have w1:w64 (k + 1 + 1) = k + 1 + 1:=a3l (by omega)
    have t2:=c5a (k:=k + 1 + 1) (by omega) (by omega)
    have w2:w64 (k + 1 + 1 + 1) = k + 1 + 1 + 1:=a3l (by omega)
    have wi:w64 ((i:Int) + 1) = ((i + 1:Nat):Int):=by rw [a3l (by omega)]; rfl
    have hg:l[i]? = some l[i]:=List.getElem?_eq_getElem hi
    have hix:0 + (i:Int).toNat = i:=by simp
    have hlt:((i:Int) < (l.length:Int)) = True:=eq_true (by omega)
    have hge:(0 ≤ (i:Int)) = True:=eq_true (by omega)
    have hds:∀ y,(l.set i y).drop (i + 1) = l.drop (i + 1):=fun y => List.drop_set_of_lt (by omega)
    have hfit2:a6n (l.set i (⟨(k),(k + 1),(tx (k + 1 + 1))⟩)):=by
      unfold a6n at hfit ⊢
      rw [List.length_set]; exact hfit
    have ih:=b6a n f (l.set i (⟨(k),(k + 1),(tx (k + 1 + 1))⟩)) (i + 1) (k + 1 + 1 + 1) (by rw [List.length_set]; omega) (by omega) (by omega) hfit2 (by rw [hds]; omega)
    rw [hds] at ih
    rw [a3e]
    simp only [hlt,hge,hix,hg,decide_true,and_self,if_true,Option.bind_some,List.set_set,wi,w0,w1,t2,w2]
    rw [ih,a9o _ _ _ _ hi,a7m]
    refine congrArg some (Prod.ext ?_ rfl)
    simp only
    omega
theorem d0s (l:List a0c) (k:Int) (hf:a6n l) (h0:1 ≤ k) (h1:k + (a3w l:Nat) < 2 ^ 62):a8n l k = some (k + (a3w l:Nat),a7m l k):=by
  unfold a8n
  have hl:l.length < 2 ^ 61:=hf
  rw [show (0:Int) = ((0:Nat):Int) from rfl,b6a l.length FUEL l 0 k (by omega) (fuel_lt (by omega)) h0 hf (by simpa using h1)]
  simp
theorem c1r:∀ (l:List a0c) (k:Int),(a7m l k).length = l.length
  | [],_ => rfl
  | x :: l,k => by simp only [a7m,List.length_cons,c1r l]
theorem c1s (l:List a0c) (k:Int) (h:a6n l):a6n (a7m l k):=by
  unfold a6n at h ⊢
  rw [c1r]; exact h
theorem b6b:∀ (l:List a0c) (k:Int),a6n l → 1 ≤ k → k + (a3w l:Nat) < 2 ^ 62 → a3g (a7m l k) k = some (.go (k + (a3w l:Nat)))
  | [],k,_,_,_ => by simp [a7m,a3g,a3w]
  | x :: l,k,hfit,h0,hc => by
    simp only [a3w] at hc ⊢
    have hfit2:a6n l:=by unfold a6n at hfit ⊢; simp at hfit; omega
    have w0:w64 (k + 1) = k + 1:=a3l (by omega)
    have w1:w64 (k + 1 + 1) = k + 1 + 1:=a3l (by omega)
    have t2:=c5a (k:=k + 1 + 1) (by omega) (by omega)
    have w2:w64 (k + 1 + 1 + 1) = k + 1 + 1 + 1:=a3l (by omega)
    have ih:=b6b l (k + 1 + 1 + 1) hfit2 (by omega) (by omega)
    rw [a7m,a3g]
    simp only [w0,w1,t2,w2,Option.bind_some,beq_self_eq_true,bne_self_eq_false,Bool.not_true,Bool.false_eq_true,if_false,decide_false]
    rw [ih]
    refine congrArg (fun z => some (Fl.go z)) ?_
    omega
theorem d0t (l:List a0c) (k:Int) (hf:a6n l) (h0:1 ≤ k) (h1:k + (a3w l:Nat) < 2 ^ 62):a8p (a7m l k) k = some (k + (a3w l:Nat)):=by
  unfold a8p
  rw [b6b l k hf h0 h1]
  rfl

def a1e:List (List a0c) → Nat
  | [] => 0
  | x :: xs => (a3w x) + a1e xs
def a3x:List (List a0c) → Int → List (List a0c)
  | [],_ => []
  | x :: xs,k => (a7m x (k)) :: a3x xs (k + (a3w x:Nat))
def a5p (l:List (List a0c)):Prop:=l.length < 2 ^ 61 ∧ ∀ x ∈ l,a6n x
theorem b5d:∀ (n f:Nat) (l:List (List a0c)) (i:Nat) (k:Int),i + n = l.length → n < f → 1 ≤ k → a5p l → k + (a1e (l.drop i):Nat) < 2 ^ 62 → a2n f k i l = some (k + (a1e (l.drop i):Nat),l.take i ++ a3x (l.drop i) k)
  | _,0,_,_,_,_,h,_,_,_ => by omega
  | 0,f + 1,l,i,k,h,_,_,_,_ => by
    rw [a2n,if_neg (by simp; omega),List.drop_of_length_le (by omega),List.take_of_length_le (by omega)]
    simp [a1e,a3x]
  | n + 1,f + 1,l,i,k,h,hf,hk,hfit,hc => by
    have hi:i < l.length:=by omega
    have hd:l.drop i = l[i] :: l.drop (i + 1):=List.drop_eq_getElem_cons hi
    rw [hd] at hc ⊢
    simp only [a1e] at hc ⊢
    have hlen:l.length < 2 ^ 61:=hfit.1
    have hx:=hfit.2 l[i] (List.getElem_mem _)
    have m0:=d0s l[i] (k) (hx) (by omega) (by omega)
    have wi:w64 ((i:Int) + 1) = ((i + 1:Nat):Int):=by rw [a3l (by omega)]; rfl
    have hg:l[i]? = some l[i]:=List.getElem?_eq_getElem hi
    have hix:0 + (i:Int).toNat = i:=by simp
    have hlt:((i:Int) < (l.length:Int)) = True:=eq_true (by omega)
    have hge:(0 ≤ (i:Int)) = True:=eq_true (by omega)
    have hds:∀ y,(l.set i y).drop (i + 1) = l.drop (i + 1):=fun y => List.drop_set_of_lt (by omega)
    have hfit2:a5p (l.set i ((a7m l[i] (k)))):=by
      unfold a5p at hfit ⊢
      exact ⟨by rw [List.length_set]; exact hfit.1,fun z hz => by
        rcases List.mem_or_eq_of_mem_set hz with hz | rfl
        · exact hfit.2 z hz
        · exact c1s _ _ hx⟩
    have ih:=b5d n f (l.set i ((a7m l[i] (k)))) (i + 1) (k + (a3w l[i]:Nat)) (by rw [List.length_set]; omega) (by omega) (by omega) hfit2 (by rw [hds]; omega)
    rw [hds] at ih
    rw [a2n]
    simp only [hlt,hge,hix,hg,decide_true,and_self,if_true,Option.bind_some,List.set_set,wi,m0]
    rw [ih,a9o _ _ _ _ hi,a3x]
    refine congrArg some (Prod.ext ?_ rfl)
    simp only
    omega
theorem b4q (l:List (List a0c)) (k:Int) (hf:a5p l) (h0:1 ≤ k) (h1:k + (a1e l:Nat) < 2 ^ 62):a5t l k = some (k + (a1e l:Nat),a3x l k):=by
  unfold a5t
  have hl:l.length < 2 ^ 61:=hf.1
  rw [show (0:Int) = ((0:Nat):Int) from rfl,b5d l.length FUEL l 0 k (by omega) (fuel_lt (by omega)) h0 hf (by simpa using h1)]
  simp
theorem b9t:∀ (l:List (List a0c)) (k:Int),(a3x l k).length = l.length
  | [],_ => rfl
  | x :: l,k => by simp only [a3x,List.length_cons,b9t l]
theorem a7n:∀ (l:List (List a0c)) (k:Int),a5p l → a5p (a3x l k)
  | [],_,h => h
  | x :: l,k,h => by
    have h2:a5p l:=⟨by have:=h.1; simp at this; omega,fun y hy => h.2 y (by simp [hy])⟩
    have ih:=a7n l (k + (a3w x:Nat)) h2
    have hx:=h.2 x (by simp)
    refine ⟨by rw [b9t]; exact h.1,fun z hz => ?_⟩
    rw [a3x] at hz
    rcases List.mem_cons.1 hz with rfl | hz
    · exact c1s _ _ hx
    · exact ih.2 z hz
theorem b5e:∀ (l:List (List a0c)) (k:Int),a5p l → 1 ≤ k → k + (a1e l:Nat) < 2 ^ 62 → a2o (a3x l k) k = some (.go (k + (a1e l:Nat)))
  | [],k,_,_,_ => by simp [a3x,a2o,a1e]
  | x :: l,k,hfit,h0,hc => by
    simp only [a1e] at hc ⊢
    have hx:=hfit.2 x (by simp)
    have hfit2:a5p l:=⟨by have:=hfit.1; simp at this; omega,fun y hy => hfit.2 y (by simp [hy])⟩
    have m0:=d0t x (k) hx (by omega) (by omega)
    have n0:(k + (a3w x:Nat) < 0) = False:=eq_false (by omega)
    have ih:=b5e l (k + (a3w x:Nat)) hfit2 (by omega) (by omega)
    rw [a3x,a2o]
    simp only [m0,n0,Option.bind_some,beq_self_eq_true,bne_self_eq_false,Bool.not_true,Bool.false_eq_true,if_false,decide_false]
    rw [ih]
    refine congrArg (fun z => some (Fl.go z)) ?_
    omega
theorem c8l (l:List (List a0c)) (k:Int) (hf:a5p l) (h0:1 ≤ k) (h1:k + (a1e l:Nat) < 2 ^ 62):a7r (a3x l k) k = some (k + (a1e l:Nat)):=by
  unfold a7r
  rw [b5e l k hf h0 h1]
  rfl

def a6e:List a0a → Nat
  | [] => 0
  | x :: xs => (1 + 1 + 1 + a1e x.Old.Cells + 1 + a1e x.New.Cells) + a6e xs
def a9e:List a0a → Int → List a0a
  | [],_ => []
  | x :: xs,k => ⟨(k),(k + 1),⟨(k + 1 + 1),(a3x x.Old.Cells (k + 1 + 1 + 1))⟩,⟨(k + 1 + 1 + 1 + (a1e x.Old.Cells:Nat)),(a3x x.New.Cells (k + 1 + 1 + 1 + (a1e x.Old.Cells:Nat) + 1))⟩⟩ :: a9e xs (k + 1 + 1 + 1 + (a1e x.Old.Cells:Nat) + 1 + (a1e x.New.Cells:Nat))
def a8r (l:List a0a):Prop:=l.length < 2 ^ 61 ∧ ∀ x ∈ l,a5p x.Old.Cells ∧ a5p x.New.Cells
theorem b4a:∀ (n f:Nat) (l:List a0a) (i:Nat) (k:Int),i + n = l.length → n < f → 1 ≤ k → a8r l → k + (a6e (l.drop i):Nat) < 2 ^ 62 → a2h f k i l = some (k + (a6e (l.drop i):Nat),l.take i ++ a9e (l.drop i) k)
  | _,0,_,_,_,_,h,_,_,_ => by omega
  | 0,f + 1,l,i,k,h,_,_,_,_ => by
    rw [a2h,if_neg (by simp; omega),List.drop_of_length_le (by omega),List.take_of_length_le (by omega)]
    simp [a6e,a9e]
  | n + 1,f + 1,l,i,k,h,hf,hk,hfit,hc => by
    have hi:i < l.length:=by omega
    have hd:l.drop i = l[i] :: l.drop (i + 1):=List.drop_eq_getElem_cons hi
    rw [hd] at hc ⊢
    simp only [a6e] at hc ⊢
    have hlen:l.length < 2 ^ 61:=hfit.1
    have hx:=hfit.2 l[i] (List.getElem_mem _)
    have w0:w64 (k + 1) = k + 1:=a3l (by omega)
    have w1:w64 (k + 1 + 1) = k + 1 + 1:=a3l (by omega)
    have w2:w64 (k + 1 + 1 + 1) = k + 1 + 1 + 1:=a3l (by omega)
    have m3:=b4q l[i].Old.Cells (k + 1 + 1 + 1) (hx.1) (by omega) (by omega)
    have w4:w64 (k + 1 + 1 + 1 + (a1e l[i].Old.Cells:Nat) + 1) = k + 1 + 1 + 1 + (a1e l[i].Old.Cells:Nat) + 1:=a3l (by omega)
    have m5:=b4q l[i].New.Cells (k + 1 + 1 + 1 + (a1e l[i].Old.Cells:Nat) + 1) (hx.2) (by omega) (by omega)
    have wi:w64 ((i:Int) + 1) = ((i + 1:Nat):Int):=by rw [a3l (by omega)]; rfl
    have hg:l[i]? = some l[i]:=List.getElem?_eq_getElem hi
    have hix:0 + (i:Int).toNat = i:=by simp
    have hlt:((i:Int) < (l.length:Int)) = True:=eq_true (by omega)
    have hge:(0 ≤ (i:Int)) = True:=eq_true (by omega)
    have hds:∀ y,(l.set i y).drop (i + 1) = l.drop (i + 1):=fun y => List.drop_set_of_lt (by omega)
    have hfit2:a8r (l.set i (⟨(k),(k + 1),⟨(k + 1 + 1),(a3x l[i].Old.Cells (k + 1 + 1 + 1))⟩,⟨(k + 1 + 1 + 1 + (a1e l[i].Old.Cells:Nat)),(a3x l[i].New.Cells (k + 1 + 1 + 1 + (a1e l[i].Old.Cells:Nat) + 1))⟩⟩)):=by
      unfold a8r at hfit ⊢
      exact ⟨by rw [List.length_set]; exact hfit.1,fun z hz => by
        rcases List.mem_or_eq_of_mem_set hz with hz | rfl
        · exact hfit.2 z hz
        · exact ⟨a7n _ _ hx.1,a7n _ _ hx.2⟩⟩
    have ih:=b4a n f (l.set i (⟨(k),(k + 1),⟨(k + 1 + 1),(a3x l[i].Old.Cells (k + 1 + 1 + 1))⟩,⟨(k + 1 + 1 + 1 + (a1e l[i].Old.Cells:Nat)),(a3x l[i].New.Cells (k + 1 + 1 + 1 + (a1e l[i].Old.Cells:Nat) + 1))⟩⟩)) (i + 1) (k + 1 + 1 + 1 + (a1e l[i].Old.Cells:Nat) + 1 + (a1e l[i].New.Cells:Nat)) (by rw [List.length_set]; omega) (by omega) (by omega) hfit2 (by rw [hds]; omega)
    rw [hds] at ih
    rw [a2h]
    simp only [hlt,hge,hix,hg,decide_true,and_self,if_true,Option.bind_some,List.set_set,wi,w0,w1,w2,m3,w4,m5]
    rw [ih,a9o _ _ _ _ hi,a9e]
    refine congrArg some (Prod.ext ?_ rfl)
    simp only
    omega
theorem c6h (l:List a0a) (k:Int) (hf:a8r l) (h0:1 ≤ k) (h1:k + (a6e l:Nat) < 2 ^ 62):a7e l k = some (k + (a6e l:Nat),a9e l k):=by
  unfold a7e
  have hl:l.length < 2 ^ 61:=hf.1
  rw [show (0:Int) = ((0:Nat):Int) from rfl,b4a l.length FUEL l 0 k (by omega) (fuel_lt (by omega)) h0 hf (by simpa using h1)]
  simp
theorem b7k:∀ (l:List a0a) (k:Int),(a9e l k).length = l.length
  | [],_ => rfl
  | x :: l,k => by simp only [a9e,List.length_cons,b7k l]
theorem c6i:∀ (l:List a0a) (k:Int),a8r l → a8r (a9e l k)
  | [],_,h => h
  | x :: l,k,h => by
    have h2:a8r l:=⟨by have:=h.1; simp at this; omega,fun y hy => h.2 y (by simp [hy])⟩
    have ih:=c6i l (k + 1 + 1 + 1 + (a1e x.Old.Cells:Nat) + 1 + (a1e x.New.Cells:Nat)) h2
    have hx:=h.2 x (by simp)
    refine ⟨by rw [b7k]; exact h.1,fun z hz => ?_⟩
    rw [a9e] at hz
    rcases List.mem_cons.1 hz with rfl | hz
    · exact ⟨a7n _ _ hx.1,a7n _ _ hx.2⟩
    · exact ih.2 z hz

def a4y:List x8 → Nat
  | [] => 0
  | x :: xs => (1 + a1e x.Cells) + a4y xs
def a9m:List x8 → Int → List x8
  | [],_ => []
  | x :: xs,k => ⟨(k),(a3x x.Cells (k + 1))⟩ :: a9m xs (k + 1 + (a1e x.Cells:Nat))
def b0e (l:List x8):Prop:=l.length < 2 ^ 61 ∧ ∀ x ∈ l,a5p x.Cells
theorem b7l:∀ (n f:Nat) (l:List x8) (i:Nat) (k:Int),i + n = l.length → n < f → 1 ≤ k → b0e l → k + (a4y (l.drop i):Nat) < 2 ^ 62 → a3u f k i l = some (k + (a4y (l.drop i):Nat),l.take i ++ a9m (l.drop i) k)
  | _,0,_,_,_,_,h,_,_,_ => by omega
  | 0,f + 1,l,i,k,h,_,_,_,_ => by
    rw [a3u,if_neg (by simp; omega),List.drop_of_length_le (by omega),List.take_of_length_le (by omega)]
    simp [a4y,a9m]
  | n + 1,f + 1,l,i,k,h,hf,hk,hfit,hc => by
    have hi:i < l.length:=by omega
    have hd:l.drop i = l[i] :: l.drop (i + 1):=List.drop_eq_getElem_cons hi
    rw [hd] at hc ⊢
    simp only [a4y] at hc ⊢
    have hlen:l.length < 2 ^ 61:=hfit.1
    have hx:=hfit.2 l[i] (List.getElem_mem _)
    have w0:w64 (k + 1) = k + 1:=a3l (by omega)
    have m1:=b4q l[i].Cells (k + 1) (hx) (by omega) (by omega)
    have wi:w64 ((i:Int) + 1) = ((i + 1:Nat):Int):=by rw [a3l (by omega)]; rfl
    have hg:l[i]? = some l[i]:=List.getElem?_eq_getElem hi
    have hix:0 + (i:Int).toNat = i:=by simp
    have hlt:((i:Int) < (l.length:Int)) = True:=eq_true (by omega)
    have hge:(0 ≤ (i:Int)) = True:=eq_true (by omega)
    have hds:∀ y,(l.set i y).drop (i + 1) = l.drop (i + 1):=fun y => List.drop_set_of_lt (by omega)
    have hfit2:b0e (l.set i (⟨(k),(a3x l[i].Cells (k + 1))⟩)):=by
      unfold b0e at hfit ⊢
      exact ⟨by rw [List.length_set]; exact hfit.1,fun z hz => by
        rcases List.mem_or_eq_of_mem_set hz with hz | rfl
        · exact hfit.2 z hz
        · exact a7n _ _ hx⟩
    have ih:=b7l n f (l.set i (⟨(k),(a3x l[i].Cells (k + 1))⟩)) (i + 1) (k + 1 + (a1e l[i].Cells:Nat)) (by rw [List.length_set]; omega) (by omega) (by omega) hfit2 (by rw [hds]; omega)
    rw [hds] at ih
    rw [a3u]
    simp only [hlt,hge,hix,hg,decide_true,and_self,if_true,Option.bind_some,List.set_set,wi,w0,m1]
    rw [ih,a9o _ _ _ _ hi,a9m]
    refine congrArg some (Prod.ext ?_ rfl)
    simp only
    omega
theorem d2k (l:List x8) (k:Int) (hf:b0e l) (h0:1 ≤ k) (h1:k + (a4y l:Nat) < 2 ^ 62):a9z l k = some (k + (a4y l:Nat),a9m l k):=by
  unfold a9z
  have hl:l.length < 2 ^ 61:=hf.1
  rw [show (0:Int) = ((0:Nat):Int) from rfl,b7l l.length FUEL l 0 k (by omega) (fuel_lt (by omega)) h0 hf (by simpa using h1)]
  simp
theorem c5b:∀ (l:List x8) (k:Int),(a9m l k).length = l.length
  | [],_ => rfl
  | x :: l,k => by simp only [a9m,List.length_cons,c5b l]
theorem b8r:∀ (l:List x8) (k:Int),b0e l → b0e (a9m l k)
  | [],_,h => h
  | x :: l,k,h => by
    have h2:b0e l:=⟨by have:=h.1; simp at this; omega,fun y hy => h.2 y (by simp [hy])⟩
    have ih:=b8r l (k + 1 + (a1e x.Cells:Nat)) h2
    have hx:=h.2 x (by simp)
    refine ⟨by rw [c5b]; exact h.1,fun z hz => ?_⟩
    rw [a9m] at hz
    rcases List.mem_cons.1 hz with rfl | hz
    · exact a7n _ _ hx
    · exact ih.2 z hz
theorem b7m:∀ (l:List x8) (k:Int),b0e l → 1 ≤ k → k + (a4y l:Nat) < 2 ^ 62 → a3v (a9m l k) k = some (.go (k + (a4y l:Nat)))
  | [],k,_,_,_ => by simp [a9m,a3v,a4y]
  | x :: l,k,hfit,h0,hc => by
    simp only [a4y] at hc ⊢
    have hx:=hfit.2 x (by simp)
    have hfit2:b0e l:=⟨by have:=hfit.1; simp at this; omega,fun y hy => hfit.2 y (by simp [hy])⟩
    have w0:w64 (k + 1) = k + 1:=a3l (by omega)
    have m1:=c8l x.Cells (k + 1) hx (by omega) (by omega)
    have n1:(k + 1 + (a1e x.Cells:Nat) < 0) = False:=eq_false (by omega)
    have ih:=b7m l (k + 1 + (a1e x.Cells:Nat)) hfit2 (by omega) (by omega)
    rw [a9m,a3v]
    simp only [w0,m1,n1,Option.bind_some,beq_self_eq_true,bne_self_eq_false,Bool.not_true,Bool.false_eq_true,if_false,decide_false]
    rw [ih]
    refine congrArg (fun z => some (Fl.go z)) ?_
    omega
theorem d2l (l:List x8) (k:Int) (hf:b0e l) (h0:1 ≤ k) (h1:k + (a4y l:Nat) < 2 ^ 62):b0a (a9m l k) k = some (k + (a4y l:Nat)):=by
  unfold b0a
  rw [b7m l k hf h0 h1]
  rfl

def a5a:List (List x8) → Nat
  | [] => 0
  | x :: xs => (a4y x) + a5a xs
def a7y:List (List x8) → Int → List (List x8)
  | [],_ => []
  | x :: xs,k => (a9m x (k)) :: a7y xs (k + (a4y x:Nat))
def a7s (l:List (List x8)):Prop:=l.length < 2 ^ 61 ∧ ∀ x ∈ l,b0e x
theorem b6c:∀ (n f:Nat) (l:List (List x8)) (i:Nat) (k:Int),i + n = l.length → n < f → 1 ≤ k → a7s l → k + (a5a (l.drop i):Nat) < 2 ^ 62 → a3f f k i l = some (k + (a5a (l.drop i):Nat),l.take i ++ a7y (l.drop i) k)
  | _,0,_,_,_,_,h,_,_,_ => by omega
  | 0,f + 1,l,i,k,h,_,_,_,_ => by
    rw [a3f,if_neg (by simp; omega),List.drop_of_length_le (by omega),List.take_of_length_le (by omega)]
    simp [a5a,a7y]
  | n + 1,f + 1,l,i,k,h,hf,hk,hfit,hc => by
    have hi:i < l.length:=by omega
    have hd:l.drop i = l[i] :: l.drop (i + 1):=List.drop_eq_getElem_cons hi
    rw [hd] at hc ⊢
    simp only [a5a] at hc ⊢
    have hlen:l.length < 2 ^ 61:=hfit.1
    have hx:=hfit.2 l[i] (List.getElem_mem _)
    have m0:=d2k l[i] (k) (hx) (by omega) (by omega)
    have wi:w64 ((i:Int) + 1) = ((i + 1:Nat):Int):=by rw [a3l (by omega)]; rfl
    have hg:l[i]? = some l[i]:=List.getElem?_eq_getElem hi
    have hix:0 + (i:Int).toNat = i:=by simp
    have hlt:((i:Int) < (l.length:Int)) = True:=eq_true (by omega)
    have hge:(0 ≤ (i:Int)) = True:=eq_true (by omega)
    have hds:∀ y,(l.set i y).drop (i + 1) = l.drop (i + 1):=fun y => List.drop_set_of_lt (by omega)
    have hfit2:a7s (l.set i ((a9m l[i] (k)))):=by
      unfold a7s at hfit ⊢
      exact ⟨by rw [List.length_set]; exact hfit.1,fun z hz => by
        rcases List.mem_or_eq_of_mem_set hz with hz | rfl
        · exact hfit.2 z hz
        · exact b8r _ _ hx⟩
    have ih:=b6c n f (l.set i ((a9m l[i] (k)))) (i + 1) (k + (a4y l[i]:Nat)) (by rw [List.length_set]; omega) (by omega) (by omega) hfit2 (by rw [hds]; omega)
    rw [hds] at ih
    rw [a3f]
    simp only [hlt,hge,hix,hg,decide_true,and_self,if_true,Option.bind_some,List.set_set,wi,m0]
    rw [ih,a9o _ _ _ _ hi,a7y]
    refine congrArg some (Prod.ext ?_ rfl)
    simp only
    omega
theorem d0u (l:List (List x8)) (k:Int) (hf:a7s l) (h0:1 ≤ k) (h1:k + (a5a l:Nat) < 2 ^ 62):a8o l k = some (k + (a5a l:Nat),a7y l k):=by
  unfold a8o
  have hl:l.length < 2 ^ 61:=hf.1
  rw [show (0:Int) = ((0:Nat):Int) from rfl,b6c l.length FUEL l 0 k (by omega) (fuel_lt (by omega)) h0 hf (by simpa using h1)]
  simp
theorem c1t:∀ (l:List (List x8)) (k:Int),(a7y l k).length = l.length
  | [],_ => rfl
  | x :: l,k => by simp only [a7y,List.length_cons,c1t l]
theorem d0v:∀ (l:List (List x8)) (k:Int),a7s l → a7s (a7y l k)
  | [],_,h => h
  | x :: l,k,h => by
    have h2:a7s l:=⟨by have:=h.1; simp at this; omega,fun y hy => h.2 y (by simp [hy])⟩
    have ih:=d0v l (k + (a4y x:Nat)) h2
    have hx:=h.2 x (by simp)
    refine ⟨by rw [c1t]; exact h.1,fun z hz => ?_⟩
    rw [a7y] at hz
    rcases List.mem_cons.1 hz with rfl | hz
    · exact b8r _ _ hx
    · exact ih.2 z hz
theorem b6d:∀ (l:List (List x8)) (k:Int),a7s l → 1 ≤ k → k + (a5a l:Nat) < 2 ^ 62 → a3h (a7y l k) k = some (.go (k + (a5a l:Nat)))
  | [],k,_,_,_ => by simp [a7y,a3h,a5a]
  | x :: l,k,hfit,h0,hc => by
    simp only [a5a] at hc ⊢
    have hx:=hfit.2 x (by simp)
    have hfit2:a7s l:=⟨by have:=hfit.1; simp at this; omega,fun y hy => hfit.2 y (by simp [hy])⟩
    have m0:=d2l x (k) hx (by omega) (by omega)
    have n0:(k + (a4y x:Nat) < 0) = False:=eq_false (by omega)
    have ih:=b6d l (k + (a4y x:Nat)) hfit2 (by omega) (by omega)
    rw [a7y,a3h]
    simp only [m0,n0,Option.bind_some,beq_self_eq_true,bne_self_eq_false,Bool.not_true,Bool.false_eq_true,if_false,decide_false]
    rw [ih]
    refine congrArg (fun z => some (Fl.go z)) ?_
    omega
theorem d0w (l:List (List x8)) (k:Int) (hf:a7s l) (h0:1 ≤ k) (h1:k + (a5a l:Nat) < 2 ^ 62):a8q (a7y l k) k = some (k + (a5a l:Nat)):=by
  unfold a8q
  rw [b6d l k hf h0 h1]
  rfl

def a8s (x:a0l):Nat:=a5a x.Tables
def b9u (x:a0l) (k:Int):a0l:=⟨(a7y x.Tables (k)),x.Next⟩
def b6e (x:a0l):Prop:=a7s x.Tables
theorem c1u (x:a0l) (k:Int) (hf:b6e x) (h0:1 ≤ k) (h1:k + (a8s x:Nat) < 2 ^ 62):a7d x k = some (k + (a8s x:Nat),b9u x k):=by
  unfold a8s at h1 ⊢
  unfold b6e at hf
  have m0:=d0u x.Tables (k) hf (by omega) (by omega)
  unfold a7d
  simp only [m0,Option.bind_some]
  refine congrArg some (Prod.ext ?_ rfl)
  (try simp only) <;> omega
theorem d0x (x:a0l) (k:Int) (hf:b6e x) (h0:1 ≤ k) (h1:k + (a8s x:Nat) < 2 ^ 62):a7f (b9u x k) k = some (k + (a8s x:Nat)):=by
  unfold a8s at h1 ⊢
  unfold b6e at hf
  have m0:=d0w x.Tables (k) hf (by omega) (by omega)
  have n0:(k + (a5a x.Tables:Nat) < 0) = False:=eq_false (by omega)
  unfold a7f b9u
  simp only [m0,n0,Option.bind_some,decide_false,Bool.false_eq_true,if_false]
  all_goals (refine congrArg some ?_; omega)
end Go.R
