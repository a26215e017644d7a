/- Marks: what the laws' own marking functions leave, and that it is read back. -/
import Derived.Test.YthneidgpgfgecaaUN4
import Derived.Test.YthneidgpgfgecaaP0
set_option linter.all false
namespace Go.R
open Go
set_option linter.all false
set_option maxHeartbeats 1000000
theorem fuel_lt {n:Nat} (h:n < 2 ^ 90):n < FUEL:=by unfold FUEL; omega
theorem b7j:∀ (m f:Nat) (k:Int) (out:Str),0 ≤ k → k < 2 ^ m → m < f → out.length + m + 1 ≤ maxLen → k < 2 ^ 62 → ∃ t,a3t f k out = some t ∧ t.length ≤ out.length + m
  | _,0,_,_,_,_,h,_,_ => by omega
  | 0,f + 1,k,out,h0,h1,_,_,_ => by
    have:k = 0:=by simp at h1; omega
    subst this
    rw [a3t,if_neg (by simp)]
    exact ⟨out,rfl,by omega⟩
  | m + 1,f + 1,k,out,h0,h1,h2,h3,h4 => by
    rw [a3t]
    by_cases hk:k > 0
    · rw [if_pos (by simpa using hk)]
      have hb:∀ n,(d0y [n]).length = 1:=fun _ => rfl
      rw [if_pos (by rw [hb]; omega)]
      have hd:k.tdiv 10 = k / 10:=Int.tdiv_eq_ediv_of_nonneg h0
      have hw:w64 (k.tdiv 10) = k / 10:=by rw [hd]; exact a3i (by omega)
      rw [hw]
      have hp:(2:Int) ^ (m + 1) = 2 * 2 ^ m:=by rw [Int.pow_succ]; omega
      obtain ⟨t,e,hl⟩:=b7j m f (k / 10) (d0y [IntKind.u8.wrap (w64 (48 + (k.tmod 10)))] ++ out) (by omega) (by omega) (by omega) (by rw [List.length_append,hb]; omega) (by omega)
      refine ⟨t,e,?_⟩
      rw [List.length_append,hb] at hl
      omega
    · rw [if_neg (by simpa using hk)]
      exact ⟨out,rfl,by omega⟩
def tx (k:Int):Str:=(a5y k).getD []
theorem c5e {k:Int} (h0:1 ≤ k) (h1:k < 2 ^ 62):a5y k = some (tx k):=by
  have:∃ t,a5y k = some t:=by
    unfold a5y
    rw [if_neg (by simp; omega)]
    obtain ⟨t,e,hl⟩:=b7j 62 FUEL k [] (by omega) h1 (fuel_lt (by omega)) (by simp [maxLen]) h1
    rw [e,Option.bind_some,if_pos (by simp only [List.length_cons,List.length_nil] at hl ⊢; simp only [maxLen]; omega)]
    exact ⟨_,rfl⟩
  obtain ⟨t,e⟩:=this
  unfold tx
  rw [e]
  rfl
def a3w:List a0c → Nat
  | [] => 0
  | x :: xs => (1 + 1 + 1) + a3w xs
def a7m:List a0c → Int → List a0c
  | [],_ => []
  | x :: xs,k => ⟨(k),(k + 1),(tx (k + 1 + 1))⟩ :: a7m xs (k + 1 + 1 + 1)
def a6n (l:List a0c):Prop:=l.length < 2 ^ 61
theorem b6b:∀ (n f:Nat) (l:List a0c) (i:Nat) (k:Int),i + n = l.length → n < f → 1 ≤ k → a6n l → k + (a3w (l.drop i):Nat) < 2 ^ 62 → a3d f k i l = some (k + (a3w (l.drop i):Nat),l.take i ++ a7m (l.drop i) k)
  | _,0,_,_,_,_,h,_,_,_ => by omega
  | 0,f + 1,l,i,k,h,_,_,_,_ => by
    rw [a3d,if_neg (by simp; omega),List.drop_of_length_le (by omega),List.take_of_length_le (by omega)]
    simp [a3w,a7m]
  | n + 1,f + 1,l,i,k,h,hf,hk,hfit,hc => by
    have hi:i < l.length:=by omega
    have hd:l.drop i = l[i] :: l.drop (i + 1):=List.drop_eq_getElem_cons hi
    rw [hd] at hc ⊢
    simp only [a3w] at hc ⊢
    have hlen:l.length < 2 ^ 61:=hfit
    have w0:w64 (k + 1) = k + 1:=a3i (by omega)
    have w1:w64 (k + 1 + 1) = k + 1 + 1:=a3i (by omega)
    have t2:=c5e (k:=k + 1 + 1) (by omega) (by omega)
    have w2:w64 (k + 1 + 1 + 1) = k + 1 + 1 + 1:=a3i (by omega)
    have wi:w64 ((i:Int) + 1) = ((i + 1:Nat):Int):=by rw [a3i (by omega)]; rfl
    have hg:l[i]? = some l[i]:=List.getElem?_eq_getElem hi
    have hix:0 + (i:Int).toNat = i:=by simp
    have hlt:((i:Int) < (l.length:Int)) = True:=eq_true (by omega)
    have hge:(0 ≤ (i:Int)) = True:=eq_true (by omega)
    have hds:∀ y,(l.set i y).drop (i + 1) = l.drop (i + 1):=fun y => List.drop_set_of_lt (by omega)
    have hfit2:a6n (l.set i (⟨(k),(k + 1),(tx (k + 1 + 1))⟩)):=by
      unfold a6n at hfit ⊢
      rw [List.length_set]; exact hfit
    have ih:=b6b n f (l.set i (⟨(k),(k + 1),(tx (k + 1 + 1))⟩)) (i + 1) (k + 1 + 1 + 1) (by rw [List.length_set]; omega) (by omega) (by omega) hfit2 (by rw [hds]; omega)
    rw [hds] at ih
    rw [a3d]
    simp only [hlt,hge,hix,hg,decide_true,and_self,if_true,Option.bind_some,List.set_set,wi,w0,w1,t2,w2]
    rw [ih,a9n _ _ _ _ hi,a7m]
    refine congrArg some (Prod.ext ?_ rfl)
    simp only
    omega
theorem d1a (l:List a0c) (k:Int) (hf:a6n l) (h0:1 ≤ k) (h1:k + (a3w l:Nat) < 2 ^ 62):a8m l k = some (k + (a3w l:Nat),a7m l k):=by
  unfold a8m
  have hl:l.length < 2 ^ 61:=hf
  rw [show (0:Int) = ((0:Nat):Int) from rfl,b6b l.length FUEL l 0 k (by omega) (fuel_lt (by omega)) h0 hf (by simpa using h1)]
  simp
theorem c1u:∀ (l:List a0c) (k:Int),(a7m l k).length = l.length
  | [],_ => rfl
  | x :: l,k => by simp only [a7m,List.length_cons,c1u l]
theorem c1w (l:List a0c) (k:Int) (h:a6n l):a6n (a7m l k):=by
  unfold a6n at h ⊢
  rw [c1u]; exact h
theorem b6c:∀ (l:List a0c) (k:Int),a6n l → 1 ≤ k → k + (a3w l:Nat) < 2 ^ 62 → a3f (a7m l k) k = some (.go (k + (a3w l:Nat)))
  | [],k,_,_,_ => by simp [a7m,a3f,a3w]
  | x :: l,k,hfit,h0,hc => by
    simp only [a3w] at hc ⊢
    have hfit2:a6n l:=by unfold a6n at hfit ⊢; simp at hfit; omega
    have w0:w64 (k + 1) = k + 1:=a3i (by omega)
    have w1:w64 (k + 1 + 1) = k + 1 + 1:=a3i (by omega)
    have t2:=c5e (k:=k + 1 + 1) (by omega) (by omega)
    have w2:w64 (k + 1 + 1 + 1) = k + 1 + 1 + 1:=a3i (by omega)
    have ih:=b6c l (k + 1 + 1 + 1) hfit2 (by omega) (by omega)
    rw [a7m,a3f]
    simp only [w0,w1,t2,w2,Option.bind_some,beq_self_eq_true,bne_self_eq_false,Bool.not_true,Bool.false_eq_true,if_false,decide_false]
    rw [ih]
    refine congrArg (fun z => some (Fl.go z)) ?_
    omega
theorem d1b (l:List a0c) (k:Int) (hf:a6n l) (h0:1 ≤ k) (h1:k + (a3w l:Nat) < 2 ^ 62):a8o (a7m l k) k = some (k + (a3w l:Nat)):=by
  unfold a8o
  rw [b6c l k hf h0 h1]
  rfl

def a1e:List (List a0c) → Nat
  | [] => 0
  | x :: xs => (a3w x) + a1e xs
def a3x:List (List a0c) → Int → List (List a0c)
  | [],_ => []
  | x :: xs,k => (a7m x (k)) :: a3x xs (k + (a3w x:Nat))
def a5n (l:List (List a0c)):Prop:=l.length < 2 ^ 61 ∧ ∀ x ∈ l,a6n x
theorem b5e:∀ (n f:Nat) (l:List (List a0c)) (i:Nat) (k:Int),i + n = l.length → n < f → 1 ≤ k → a5n l → k + (a1e (l.drop i):Nat) < 2 ^ 62 → a2o f k i l = some (k + (a1e (l.drop i):Nat),l.take i ++ a3x (l.drop i) k)
  | _,0,_,_,_,_,h,_,_,_ => by omega
  | 0,f + 1,l,i,k,h,_,_,_,_ => by
    rw [a2o,if_neg (by simp; omega),List.drop_of_length_le (by omega),List.take_of_length_le (by omega)]
    simp [a1e,a3x]
  | n + 1,f + 1,l,i,k,h,hf,hk,hfit,hc => by
    have hi:i < l.length:=by omega
    have hd:l.drop i = l[i] :: l.drop (i + 1):=List.drop_eq_getElem_cons hi
    rw [hd] at hc ⊢
    simp only [a1e] at hc ⊢
    have hlen:l.length < 2 ^ 61:=hfit.1
    have hx:=hfit.2 l[i] (List.getElem_mem _)
    have m0:=d1a l[i] (k) (hx) (by omega) (by omega)
    have wi:w64 ((i:Int) + 1) = ((i + 1:Nat):Int):=by rw [a3i (by omega)]; rfl
    have hg:l[i]? = some l[i]:=List.getElem?_eq_getElem hi
    have hix:0 + (i:Int).toNat = i:=by simp
    have hlt:((i:Int) < (l.length:Int)) = True:=eq_true (by omega)
    have hge:(0 ≤ (i:Int)) = True:=eq_true (by omega)
    have hds:∀ y,(l.set i y).drop (i + 1) = l.drop (i + 1):=fun y => List.drop_set_of_lt (by omega)
    have hfit2:a5n (l.set i ((a7m l[i] (k)))):=by
      unfold a5n at hfit ⊢
      exact ⟨by rw [List.length_set]; exact hfit.1,fun z hz => by
        rcases List.mem_or_eq_of_mem_set hz with hz | rfl
        · exact hfit.2 z hz
        · exact c1w _ _ hx⟩
    have ih:=b5e n f (l.set i ((a7m l[i] (k)))) (i + 1) (k + (a3w l[i]:Nat)) (by rw [List.length_set]; omega) (by omega) (by omega) hfit2 (by rw [hds]; omega)
    rw [hds] at ih
    rw [a2o]
    simp only [hlt,hge,hix,hg,decide_true,and_self,if_true,Option.bind_some,List.set_set,wi,m0]
    rw [ih,a9n _ _ _ _ hi,a3x]
    refine congrArg some (Prod.ext ?_ rfl)
    simp only
    omega
theorem b4p (l:List (List a0c)) (k:Int) (hf:a5n l) (h0:1 ≤ k) (h1:k + (a1e l:Nat) < 2 ^ 62):a5r l k = some (k + (a1e l:Nat),a3x l k):=by
  unfold a5r
  have hl:l.length < 2 ^ 61:=hf.1
  rw [show (0:Int) = ((0:Nat):Int) from rfl,b5e l.length FUEL l 0 k (by omega) (fuel_lt (by omega)) h0 hf (by simpa using h1)]
  simp
theorem b9u:∀ (l:List (List a0c)) (k:Int),(a3x l k).length = l.length
  | [],_ => rfl
  | x :: l,k => by simp only [a3x,List.length_cons,b9u l]
theorem a7n:∀ (l:List (List a0c)) (k:Int),a5n l → a5n (a3x l k)
  | [],_,h => h
  | x :: l,k,h => by
    have h2:a5n l:=⟨by have:=h.1; simp at this; omega,fun y hy => h.2 y (by simp [hy])⟩
    have ih:=a7n l (k + (a3w x:Nat)) h2
    have hx:=h.2 x (by simp)
    refine ⟨by rw [b9u]; exact h.1,fun z hz => ?_⟩
    rw [a3x] at hz
    rcases List.mem_cons.1 hz with rfl | hz
    · exact c1w _ _ hx
    · exact ih.2 z hz
theorem b5f:∀ (l:List (List a0c)) (k:Int),a5n l → 1 ≤ k → k + (a1e l:Nat) < 2 ^ 62 → a2p (a3x l k) k = some (.go (k + (a1e l:Nat)))
  | [],k,_,_,_ => by simp [a3x,a2p,a1e]
  | x :: l,k,hfit,h0,hc => by
    simp only [a1e] at hc ⊢
    have hx:=hfit.2 x (by simp)
    have hfit2:a5n l:=⟨by have:=hfit.1; simp at this; omega,fun y hy => hfit.2 y (by simp [hy])⟩
    have m0:=d1b x (k) hx (by omega) (by omega)
    have n0:(k + (a3w x:Nat) < 0) = False:=eq_false (by omega)
    have ih:=b5f l (k + (a3w x:Nat)) hfit2 (by omega) (by omega)
    rw [a3x,a2p]
    simp only [m0,n0,Option.bind_some,beq_self_eq_true,bne_self_eq_false,Bool.not_true,Bool.false_eq_true,if_false,decide_false]
    rw [ih]
    refine congrArg (fun z => some (Fl.go z)) ?_
    omega
theorem c8s (l:List (List a0c)) (k:Int) (hf:a5n l) (h0:1 ≤ k) (h1:k + (a1e l:Nat) < 2 ^ 62):a7r (a3x l k) k = some (k + (a1e l:Nat)):=by
  unfold a7r
  rw [b5f l k hf h0 h1]
  rfl

def a6f:List y9 → Nat
  | [] => 0
  | x :: xs => (1 + 1 + 1 + a1e x.Old.Cells + 1 + a1e x.New.Cells) + a6f xs
def a9c:List y9 → Int → List y9
  | [],_ => []
  | x :: xs,k => ⟨(k),(k + 1),⟨(k + 1 + 1),(a3x x.Old.Cells (k + 1 + 1 + 1))⟩,⟨(k + 1 + 1 + 1 + (a1e x.Old.Cells:Nat)),(a3x x.New.Cells (k + 1 + 1 + 1 + (a1e x.Old.Cells:Nat) + 1))⟩⟩ :: a9c xs (k + 1 + 1 + 1 + (a1e x.Old.Cells:Nat) + 1 + (a1e x.New.Cells:Nat))
def a8q (l:List y9):Prop:=l.length < 2 ^ 61 ∧ ∀ x ∈ l,a5n x.Old.Cells ∧ a5n x.New.Cells
theorem b4a:∀ (n f:Nat) (l:List y9) (i:Nat) (k:Int),i + n = l.length → n < f → 1 ≤ k → a8q l → k + (a6f (l.drop i):Nat) < 2 ^ 62 → a2h f k i l = some (k + (a6f (l.drop i):Nat),l.take i ++ a9c (l.drop i) k)
  | _,0,_,_,_,_,h,_,_,_ => by omega
  | 0,f + 1,l,i,k,h,_,_,_,_ => by
    rw [a2h,if_neg (by simp; omega),List.drop_of_length_le (by omega),List.take_of_length_le (by omega)]
    simp [a6f,a9c]
  | n + 1,f + 1,l,i,k,h,hf,hk,hfit,hc => by
    have hi:i < l.length:=by omega
    have hd:l.drop i = l[i] :: l.drop (i + 1):=List.drop_eq_getElem_cons hi
    rw [hd] at hc ⊢
    simp only [a6f] at hc ⊢
    have hlen:l.length < 2 ^ 61:=hfit.1
    have hx:=hfit.2 l[i] (List.getElem_mem _)
    have w0:w64 (k + 1) = k + 1:=a3i (by omega)
    have w1:w64 (k + 1 + 1) = k + 1 + 1:=a3i (by omega)
    have w2:w64 (k + 1 + 1 + 1) = k + 1 + 1 + 1:=a3i (by omega)
    have m3:=b4p l[i].Old.Cells (k + 1 + 1 + 1) (hx.1) (by omega) (by omega)
    have w4:w64 (k + 1 + 1 + 1 + (a1e l[i].Old.Cells:Nat) + 1) = k + 1 + 1 + 1 + (a1e l[i].Old.Cells:Nat) + 1:=a3i (by omega)
    have m5:=b4p l[i].New.Cells (k + 1 + 1 + 1 + (a1e l[i].Old.Cells:Nat) + 1) (hx.2) (by omega) (by omega)
    have wi:w64 ((i:Int) + 1) = ((i + 1:Nat):Int):=by rw [a3i (by omega)]; rfl
    have hg:l[i]? = some l[i]:=List.getElem?_eq_getElem hi
    have hix:0 + (i:Int).toNat = i:=by simp
    have hlt:((i:Int) < (l.length:Int)) = True:=eq_true (by omega)
    have hge:(0 ≤ (i:Int)) = True:=eq_true (by omega)
    have hds:∀ y,(l.set i y).drop (i + 1) = l.drop (i + 1):=fun y => List.drop_set_of_lt (by omega)
    have hfit2:a8q (l.set i (⟨(k),(k + 1),⟨(k + 1 + 1),(a3x l[i].Old.Cells (k + 1 + 1 + 1))⟩,⟨(k + 1 + 1 + 1 + (a1e l[i].Old.Cells:Nat)),(a3x l[i].New.Cells (k + 1 + 1 + 1 + (a1e l[i].Old.Cells:Nat) + 1))⟩⟩)):=by
      unfold a8q at hfit ⊢
      exact ⟨by rw [List.length_set]; exact hfit.1,fun z hz => by
        rcases List.mem_or_eq_of_mem_set hz with hz | rfl
        · exact hfit.2 z hz
        · exact ⟨a7n _ _ hx.1,a7n _ _ hx.2⟩⟩
    have ih:=b4a n f (l.set i (⟨(k),(k + 1),⟨(k + 1 + 1),(a3x l[i].Old.Cells (k + 1 + 1 + 1))⟩,⟨(k + 1 + 1 + 1 + (a1e l[i].Old.Cells:Nat)),(a3x l[i].New.Cells (k + 1 + 1 + 1 + (a1e l[i].Old.Cells:Nat) + 1))⟩⟩)) (i + 1) (k + 1 + 1 + 1 + (a1e l[i].Old.Cells:Nat) + 1 + (a1e l[i].New.Cells:Nat)) (by rw [List.length_set]; omega) (by omega) (by omega) hfit2 (by rw [hds]; omega)
    rw [hds] at ih
    rw [a2h]
    simp only [hlt,hge,hix,hg,decide_true,and_self,if_true,Option.bind_some,List.set_set,wi,w0,w1,w2,m3,w4,m5]
    rw [ih,a9n _ _ _ _ hi,a9c]
    refine congrArg some (Prod.ext ?_ rfl)
    simp only
    omega
theorem c6k (l:List y9) (k:Int) (hf:a8q l) (h0:1 ≤ k) (h1:k + (a6f l:Nat) < 2 ^ 62):a7f l k = some (k + (a6f l:Nat),a9c l k):=by
  unfold a7f
  have hl:l.length < 2 ^ 61:=hf.1
  rw [show (0:Int) = ((0:Nat):Int) from rfl,b4a l.length FUEL l 0 k (by omega) (fuel_lt (by omega)) h0 hf (by simpa using h1)]
  simp
theorem b7k:∀ (l:List y9) (k:Int),(a9c l k).length = l.length
  | [],_ => rfl
  | x :: l,k => by simp only [a9c,List.length_cons,b7k l]
theorem c6l:∀ (l:List y9) (k:Int),a8q l → a8q (a9c l k)
  | [],_,h => h
  | x :: l,k,h => by
    have h2:a8q l:=⟨by have:=h.1; simp at this; omega,fun y hy => h.2 y (by simp [hy])⟩
    have ih:=c6l l (k + 1 + 1 + 1 + (a1e x.Old.Cells:Nat) + 1 + (a1e x.New.Cells:Nat)) h2
    have hx:=h.2 x (by simp)
    refine ⟨by rw [b7k]; exact h.1,fun z hz => ?_⟩
    rw [a9c] at hz
    rcases List.mem_cons.1 hz with rfl | hz
    · exact ⟨a7n _ _ hx.1,a7n _ _ hx.2⟩
    · exact ih.2 z hz

def a4x:List x8 → Nat
  | [] => 0
  | x :: xs => (1 + a1e x.Cells) + a4x xs
def a9l:List x8 → Int → List x8
  | [],_ => []
  | x :: xs,k => ⟨(k),(a3x x.Cells (k + 1))⟩ :: a9l xs (k + 1 + (a1e x.Cells:Nat))
def b0d (l:List x8):Prop:=l.length < 2 ^ 61 ∧ ∀ x ∈ l,a5n x.Cells
theorem b7l:∀ (n f:Nat) (l:List x8) (i:Nat) (k:Int),i + n = l.length → n < f → 1 ≤ k → b0d l → k + (a4x (l.drop i):Nat) < 2 ^ 62 → a3u f k i l = some (k + (a4x (l.drop i):Nat),l.take i ++ a9l (l.drop i) k)
  | _,0,_,_,_,_,h,_,_,_ => by omega
  | 0,f + 1,l,i,k,h,_,_,_,_ => by
    rw [a3u,if_neg (by simp; omega),List.drop_of_length_le (by omega),List.take_of_length_le (by omega)]
    simp [a4x,a9l]
  | n + 1,f + 1,l,i,k,h,hf,hk,hfit,hc => by
    have hi:i < l.length:=by omega
    have hd:l.drop i = l[i] :: l.drop (i + 1):=List.drop_eq_getElem_cons hi
    rw [hd] at hc ⊢
    simp only [a4x] at hc ⊢
    have hlen:l.length < 2 ^ 61:=hfit.1
    have hx:=hfit.2 l[i] (List.getElem_mem _)
    have w0:w64 (k + 1) = k + 1:=a3i (by omega)
    have m1:=b4p l[i].Cells (k + 1) (hx) (by omega) (by omega)
    have wi:w64 ((i:Int) + 1) = ((i + 1:Nat):Int):=by rw [a3i (by omega)]; rfl
    have hg:l[i]? = some l[i]:=List.getElem?_eq_getElem hi
    have hix:0 + (i:Int).toNat = i:=by simp
    have hlt:((i:Int) < (l.length:Int)) = True:=eq_true (by omega)
    have hge:(0 ≤ (i:Int)) = True:=eq_true (by omega)
    have hds:∀ y,(l.set i y).drop (i + 1) = l.drop (i + 1):=fun y => List.drop_set_of_lt (by omega)
    have hfit2:b0d (l.set i (⟨(k),(a3x l[i].Cells (k + 1))⟩)):=by
      unfold b0d at hfit ⊢
      exact ⟨by rw [List.length_set]; exact hfit.1,fun z hz => by
        rcases List.mem_or_eq_of_mem_set hz with hz | rfl
        · exact hfit.2 z hz
        · exact a7n _ _ hx⟩
    have ih:=b7l n f (l.set i (⟨(k),(a3x l[i].Cells (k + 1))⟩)) (i + 1) (k + 1 + (a1e l[i].Cells:Nat)) (by rw [List.length_set]; omega) (by omega) (by omega) hfit2 (by rw [hds]; omega)
    rw [hds] at ih
    rw [a3u]
    simp only [hlt,hge,hix,hg,decide_true,and_self,if_true,Option.bind_some,List.set_set,wi,w0,m1]
    rw [ih,a9n _ _ _ _ hi,a9l]
    refine congrArg some (Prod.ext ?_ rfl)
    simp only
    omega
theorem d2s (l:List x8) (k:Int) (hf:b0d l) (h0:1 ≤ k) (h1:k + (a4x l:Nat) < 2 ^ 62):a9y l k = some (k + (a4x l:Nat),a9l l k):=by
  unfold a9y
  have hl:l.length < 2 ^ 61:=hf.1
  rw [show (0:Int) = ((0:Nat):Int) from rfl,b7l l.length FUEL l 0 k (by omega) (fuel_lt (by omega)) h0 hf (by simpa using h1)]
  simp
theorem c5f:∀ (l:List x8) (k:Int),(a9l l k).length = l.length
  | [],_ => rfl
  | x :: l,k => by simp only [a9l,List.length_cons,c5f l]
theorem b8s:∀ (l:List x8) (k:Int),b0d l → b0d (a9l l k)
  | [],_,h => h
  | x :: l,k,h => by
    have h2:b0d l:=⟨by have:=h.1; simp at this; omega,fun y hy => h.2 y (by simp [hy])⟩
    have ih:=b8s l (k + 1 + (a1e x.Cells:Nat)) h2
    have hx:=h.2 x (by simp)
    refine ⟨by rw [c5f]; exact h.1,fun z hz => ?_⟩
    rw [a9l] at hz
    rcases List.mem_cons.1 hz with rfl | hz
    · exact a7n _ _ hx
    · exact ih.2 z hz
theorem b7m:∀ (l:List x8) (k:Int),b0d l → 1 ≤ k → k + (a4x l:Nat) < 2 ^ 62 → a3v (a9l l k) k = some (.go (k + (a4x l:Nat)))
  | [],k,_,_,_ => by simp [a9l,a3v,a4x]
  | x :: l,k,hfit,h0,hc => by
    simp only [a4x] at hc ⊢
    have hx:=hfit.2 x (by simp)
    have hfit2:b0d l:=⟨by have:=hfit.1; simp at this; omega,fun y hy => hfit.2 y (by simp [hy])⟩
    have w0:w64 (k + 1) = k + 1:=a3i (by omega)
    have m1:=c8s x.Cells (k + 1) hx (by omega) (by omega)
    have n1:(k + 1 + (a1e x.Cells:Nat) < 0) = False:=eq_false (by omega)
    have ih:=b7m l (k + 1 + (a1e x.Cells:Nat)) hfit2 (by omega) (by omega)
    rw [a9l,a3v]
    simp only [w0,m1,n1,Option.bind_some,beq_self_eq_true,bne_self_eq_false,Bool.not_true,Bool.false_eq_true,if_false,decide_false]
    rw [ih]
    refine congrArg (fun z => some (Fl.go z)) ?_
    omega
theorem d2t (l:List x8) (k:Int) (hf:b0d l) (h0:1 ≤ k) (h1:k + (a4x l:Nat) < 2 ^ 62):a9z (a9l l k) k = some (k + (a4x l:Nat)):=by
  unfold a9z
  rw [b7m l k hf h0 h1]
  rfl

def a4z:List (List x8) → Nat
  | [] => 0
  | x :: xs => (a4x x) + a4z xs
def a7y:List (List x8) → Int → List (List x8)
  | [],_ => []
  | x :: xs,k => (a9l x (k)) :: a7y xs (k + (a4x x:Nat))
def a7s (l:List (List x8)):Prop:=l.length < 2 ^ 61 ∧ ∀ x ∈ l,b0d x
theorem b6d:∀ (n f:Nat) (l:List (List x8)) (i:Nat) (k:Int),i + n = l.length → n < f → 1 ≤ k → a7s l → k + (a4z (l.drop i):Nat) < 2 ^ 62 → a3e f k i l = some (k + (a4z (l.drop i):Nat),l.take i ++ a7y (l.drop i) k)
  | _,0,_,_,_,_,h,_,_,_ => by omega
  | 0,f + 1,l,i,k,h,_,_,_,_ => by
    rw [a3e,if_neg (by simp; omega),List.drop_of_length_le (by omega),List.take_of_length_le (by omega)]
    simp [a4z,a7y]
  | n + 1,f + 1,l,i,k,h,hf,hk,hfit,hc => by
    have hi:i < l.length:=by omega
    have hd:l.drop i = l[i] :: l.drop (i + 1):=List.drop_eq_getElem_cons hi
    rw [hd] at hc ⊢
    simp only [a4z] at hc ⊢
    have hlen:l.length < 2 ^ 61:=hfit.1
    have hx:=hfit.2 l[i] (List.getElem_mem _)
    have m0:=d2s l[i] (k) (hx) (by omega) (by omega)
    have wi:w64 ((i:Int) + 1) = ((i + 1:Nat):Int):=by rw [a3i (by omega)]; rfl
    have hg:l[i]? = some l[i]:=List.getElem?_eq_getElem hi
    have hix:0 + (i:Int).toNat = i:=by simp
    have hlt:((i:Int) < (l.length:Int)) = True:=eq_true (by omega)
    have hge:(0 ≤ (i:Int)) = True:=eq_true (by omega)
    have hds:∀ y,(l.set i y).drop (i + 1) = l.drop (i + 1):=fun y => List.drop_set_of_lt (by omega)
    have hfit2:a7s (l.set i ((a9l l[i] (k)))):=by
      unfold a7s at hfit ⊢
      exact ⟨by rw [List.length_set]; exact hfit.1,fun z hz => by
        rcases List.mem_or_eq_of_mem_set hz with hz | rfl
        · exact hfit.2 z hz
        · exact b8s _ _ hx⟩
    have ih:=b6d n f (l.set i ((a9l l[i] (k)))) (i + 1) (k + (a4x l[i]:Nat)) (by rw [List.length_set]; omega) (by omega) (by omega) hfit2 (by rw [hds]; omega)
    rw [hds] at ih
    rw [a3e]
    simp only [hlt,hge,hix,hg,decide_true,and_self,if_true,Option.bind_some,List.set_set,wi,m0]
    rw [ih,a9n _ _ _ _ hi,a7y]
    refine congrArg some (Prod.ext ?_ rfl)
    simp only
    omega
theorem d1c (l:List (List x8)) (k:Int) (hf:a7s l) (h0:1 ≤ k) (h1:k + (a4z l:Nat) < 2 ^ 62):a8n l k = some (k + (a4z l:Nat),a7y l k):=by
  unfold a8n
  have hl:l.length < 2 ^ 61:=hf.1
  rw [show (0:Int) = ((0:Nat):Int) from rfl,b6d l.length FUEL l 0 k (by omega) (fuel_lt (by omega)) h0 hf (by simpa using h1)]
  simp
theorem c1x:∀ (l:List (List x8)) (k:Int),(a7y l k).length = l.length
  | [],_ => rfl
  | x :: l,k => by simp only [a7y,List.length_cons,c1x l]
theorem d1d:∀ (l:List (List x8)) (k:Int),a7s l → a7s (a7y l k)
  | [],_,h => h
  | x :: l,k,h => by
    have h2:a7s l:=⟨by have:=h.1; simp at this; omega,fun y hy => h.2 y (by simp [hy])⟩
    have ih:=d1d l (k + (a4x x:Nat)) h2
    have hx:=h.2 x (by simp)
    refine ⟨by rw [c1x]; exact h.1,fun z hz => ?_⟩
    rw [a7y] at hz
    rcases List.mem_cons.1 hz with rfl | hz
    · exact b8s _ _ hx
    · exact ih.2 z hz
theorem b6e:∀ (l:List (List x8)) (k:Int),a7s l → 1 ≤ k → k + (a4z l:Nat) < 2 ^ 62 → a3g (a7y l k) k = some (.go (k + (a4z l:Nat)))
  | [],k,_,_,_ => by simp [a7y,a3g,a4z]
  | x :: l,k,hfit,h0,hc => by
    simp only [a4z] at hc ⊢
    have hx:=hfit.2 x (by simp)
    have hfit2:a7s l:=⟨by have:=hfit.1; simp at this; omega,fun y hy => hfit.2 y (by simp [hy])⟩
    have m0:=d2t x (k) hx (by omega) (by omega)
    have n0:(k + (a4x x:Nat) < 0) = False:=eq_false (by omega)
    have ih:=b6e l (k + (a4x x:Nat)) hfit2 (by omega) (by omega)
    rw [a7y,a3g]
    simp only [m0,n0,Option.bind_some,beq_self_eq_true,bne_self_eq_false,Bool.not_true,Bool.false_eq_true,if_false,decide_false]
    rw [ih]
    refine congrArg (fun z => some (Fl.go z)) ?_
    omega
theorem d1e (l:List (List x8)) (k:Int) (hf:a7s l) (h0:1 ≤ k) (h1:k + (a4z l:Nat) < 2 ^ 62):a8p (a7y l k) k = some (k + (a4z l:Nat)):=by
  unfold a8p
  rw [b6e l k hf h0 h1]
  rfl

def a8r (x:a0l):Nat:=a4z x.Tables
def b9v (x:a0l) (k:Int):a0l:=⟨(a7y x.Tables (k)),x.Next⟩
def b6f (x:a0l):Prop:=a7s x.Tables
theorem c1y (x:a0l) (k:Int) (hf:b6f x) (h0:1 ≤ k) (h1:k + (a8r x:Nat) < 2 ^ 62):a7e x k = some (k + (a8r x:Nat),b9v x k):=by
  unfold a8r at h1 ⊢
  unfold b6f at hf
  have m0:=d1c x.Tables (k) hf (by omega) (by omega)
  unfold a7e
  simp only [m0,Option.bind_some]
  refine congrArg some (Prod.ext ?_ rfl)
  (try simp only) <;> omega
theorem d1f (x:a0l) (k:Int) (hf:b6f x) (h0:1 ≤ k) (h1:k + (a8r x:Nat) < 2 ^ 62):a7g (b9v x k) k = some (k + (a8r x:Nat)):=by
  unfold a8r at h1 ⊢
  unfold b6f at hf
  have m0:=d1e x.Tables (k) hf (by omega) (by omega)
  have n0:(k + (a4z x.Tables:Nat) < 0) = False:=eq_false (by omega)
  unfold a7g b9v
  simp only [m0,n0,Option.bind_some,decide_false,Bool.false_eq_true,if_false]
  all_goals (refine congrArg some ?_; omega)
end Go.R
