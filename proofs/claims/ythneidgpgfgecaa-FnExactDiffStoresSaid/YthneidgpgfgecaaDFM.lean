/- Marks: what the laws' own marking functions leave, and that it is read back. -/
import Derived.Test.YthneidgpgfgecaaDF3
import Derived.Test.YthneidgpgfgecaaP0
set_option linter.all false
namespace Go.R
open Go
set_option linter.all false
set_option maxHeartbeats 1000000
theorem fuel_lt {n:Nat} (h:n < 2 ^ 90):n < FUEL:=by unfold FUEL; omega
theorem b4y:∀ (m f:Nat) (k:Int) (out:Str),0 ≤ k → k < 2 ^ m → m < f → out.length + m + 1 ≤ maxLen → k < 2 ^ 62 → ∃ t,a3r f k out = some t ∧ t.length ≤ out.length + m
  | _,0,_,_,_,_,h,_,_ => by omega
  | 0,f + 1,k,out,h0,h1,_,_,_ => by
    have:k = 0:=by simp at h1; omega
    subst this
    rw [a3r,if_neg (by simp)]
    exact ⟨out,rfl,by omega⟩
  | m + 1,f + 1,k,out,h0,h1,h2,h3,h4 => by
    rw [a3r]
    by_cases hk:k > 0
    · rw [if_pos (by simpa using hk)]
      have hb:∀ n,(c7g [n]).length = 1:=fun _ => rfl
      rw [if_pos (by rw [hb]; omega)]
      have hd:k.tdiv 10 = k / 10:=Int.tdiv_eq_ediv_of_nonneg h0
      have hw:w64 (k.tdiv 10) = k / 10:=by rw [hd]; exact a2k (by omega)
      rw [hw]
      have hp:(2:Int) ^ (m + 1) = 2 * 2 ^ m:=by rw [Int.pow_succ]; omega
      obtain ⟨t,e,hl⟩:=b4y m f (k / 10) (c7g [IntKind.u8.wrap (w64 (48 + (k.tmod 10)))] ++ out) (by omega) (by omega) (by omega) (by rw [List.length_append,hb]; omega) (by omega)
      refine ⟨t,e,?_⟩
      rw [List.length_append,hb] at hl
      omega
    · rw [if_neg (by simpa using hk)]
      exact ⟨out,rfl,by omega⟩
def tx (k:Int):Str:=(a5r k).getD []
theorem c1n {k:Int} (h0:1 ≤ k) (h1:k < 2 ^ 62):a5r k = some (tx k):=by
  have:∃ t,a5r k = some t:=by
    unfold a5r
    rw [if_neg (by simp; omega)]
    obtain ⟨t,e,hl⟩:=b4y 62 FUEL k [] (by omega) h1 (fuel_lt (by omega)) (by simp [maxLen]) h1
    rw [e,Option.bind_some,if_pos (by simp only [List.length_cons,List.length_nil] at hl ⊢; simp only [maxLen]; omega)]
    exact ⟨_,rfl⟩
  obtain ⟨t,e⟩:=this
  unfold tx
  rw [e]
  rfl
def a3v:List y9 → Nat
  | [] => 0
  | x :: xs => (1 + 1 + 1) + a3v xs
def a6z:List y9 → Int → List y9
  | [],_ => []
  | x :: xs,k => ⟨(k),(k + 1),(tx (k + 1 + 1))⟩ :: a6z xs (k + 1 + 1 + 1)
def a6k (l:List y9):Prop:=l.length < 2 ^ 61
theorem b4a:∀ (n f:Nat) (l:List y9) (i:Nat) (k:Int),i + n = l.length → n < f → 1 ≤ k → a6k l → k + (a3v (l.drop i):Nat) < 2 ^ 62 → a3b f k i l = some (k + (a3v (l.drop i):Nat),l.take i ++ a6z (l.drop i) k)
  | _,0,_,_,_,_,h,_,_,_ => by omega
  | 0,f + 1,l,i,k,h,_,_,_,_ => by
    rw [a3b,if_neg (by simp; omega),List.drop_of_length_le (by omega),List.take_of_length_le (by omega)]
    simp [a3v,a6z]
  | n + 1,f + 1,l,i,k,h,hf,hk,hfit,hc => by
    have hi:i < l.length:=by omega
    have hd:l.drop i = l[i] :: l.drop (i + 1):=List.drop_eq_getElem_cons hi
    rw [hd] at hc ⊢
    simp only [a3v] at hc ⊢
    have hlen:l.length < 2 ^ 61:=hfit
    have w0:w64 (k + 1) = k + 1:=a2k (by omega)
    have w1:w64 (k + 1 + 1) = k + 1 + 1:=a2k (by omega)
    have t2:=c1n (k:=k + 1 + 1) (by omega) (by omega)
    have w2:w64 (k + 1 + 1 + 1) = k + 1 + 1 + 1:=a2k (by omega)
    have wi:w64 ((i:Int) + 1) = ((i + 1:Nat):Int):=by rw [a2k (by omega)]; rfl
    have hg:l[i]? = some l[i]:=List.getElem?_eq_getElem hi
    have hix:0 + (i:Int).toNat = i:=by simp
    have hlt:((i:Int) < (l.length:Int)) = True:=eq_true (by omega)
    have hge:(0 ≤ (i:Int)) = True:=eq_true (by omega)
    have hds:∀ y,(l.set i y).drop (i + 1) = l.drop (i + 1):=fun y => List.drop_set_of_lt (by omega)
    have hfit2:a6k (l.set i (⟨(k),(k + 1),(tx (k + 1 + 1))⟩)):=by
      unfold a6k at hfit ⊢
      rw [List.length_set]; exact hfit
    have ih:=b4a n f (l.set i (⟨(k),(k + 1),(tx (k + 1 + 1))⟩)) (i + 1) (k + 1 + 1 + 1) (by rw [List.length_set]; omega) (by omega) (by omega) hfit2 (by rw [hds]; omega)
    rw [hds] at ih
    rw [a3b]
    simp only [hlt,hge,hix,hg,decide_true,and_self,if_true,Option.bind_some,List.set_set,wi,w0,w1,t2,w2]
    rw [ih,a9d _ _ _ _ hi,a6z]
    refine congrArg some (Prod.ext ?_ rfl)
    simp only
    omega
theorem c7i (l:List y9) (k:Int) (hf:a6k l) (h0:1 ≤ k) (h1:k + (a3v l:Nat) < 2 ^ 62):a7o l k = some (k + (a3v l:Nat),a6z l k):=by
  unfold a7o
  have hl:l.length < 2 ^ 61:=hf
  rw [show (0:Int) = ((0:Nat):Int) from rfl,b4a l.length FUEL l 0 k (by omega) (fuel_lt (by omega)) h0 hf (by simpa using h1)]
  simp
theorem b8n:∀ (l:List y9) (k:Int),(a6z l k).length = l.length
  | [],_ => rfl
  | x :: l,k => by simp only [a6z,List.length_cons,b8n l]
theorem b8o (l:List y9) (k:Int) (h:a6k l):a6k (a6z l k):=by
  unfold a6k at h ⊢
  rw [b8n]; exact h
theorem b4b:∀ (l:List y9) (k:Int),a6k l → 1 ≤ k → k + (a3v l:Nat) < 2 ^ 62 → a3d (a6z l k) k = some (.go (k + (a3v l:Nat)))
  | [],k,_,_,_ => by simp [a6z,a3d,a3v]
  | x :: l,k,hfit,h0,hc => by
    simp only [a3v] at hc ⊢
    have hfit2:a6k l:=by unfold a6k at hfit ⊢; simp at hfit; omega
    have w0:w64 (k + 1) = k + 1:=a2k (by omega)
    have w1:w64 (k + 1 + 1) = k + 1 + 1:=a2k (by omega)
    have t2:=c1n (k:=k + 1 + 1) (by omega) (by omega)
    have w2:w64 (k + 1 + 1 + 1) = k + 1 + 1 + 1:=a2k (by omega)
    have ih:=b4b l (k + 1 + 1 + 1) hfit2 (by omega) (by omega)
    rw [a6z,a3d]
    simp only [w0,w1,t2,w2,Option.bind_some,beq_self_eq_true,bne_self_eq_false,Bool.not_true,Bool.false_eq_true,if_false,decide_false]
    rw [ih]
    refine congrArg (fun z => some (Fl.go z)) ?_
    omega
theorem c7j (l:List y9) (k:Int) (hf:a6k l) (h0:1 ≤ k) (h1:k + (a3v l:Nat) < 2 ^ 62):a7q (a6z l k) k = some (k + (a3v l:Nat)):=by
  unfold a7q
  rw [b4b l k hf h0 h1]
  rfl

def a0s:List (List y9) → Nat
  | [] => 0
  | x :: xs => (a3v x) + a0s xs
def a3w:List (List y9) → Int → List (List y9)
  | [],_ => []
  | x :: xs,k => (a6z x (k)) :: a3w xs (k + (a3v x:Nat))
def a5h (l:List (List y9)):Prop:=l.length < 2 ^ 61 ∧ ∀ x ∈ l,a6k x
theorem b3b:∀ (n f:Nat) (l:List (List y9)) (i:Nat) (k:Int),i + n = l.length → n < f → 1 ≤ k → a5h l → k + (a0s (l.drop i):Nat) < 2 ^ 62 → a2p f k i l = some (k + (a0s (l.drop i):Nat),l.take i ++ a3w (l.drop i) k)
  | _,0,_,_,_,_,h,_,_,_ => by omega
  | 0,f + 1,l,i,k,h,_,_,_,_ => by
    rw [a2p,if_neg (by simp; omega),List.drop_of_length_le (by omega),List.take_of_length_le (by omega)]
    simp [a0s,a3w]
  | n + 1,f + 1,l,i,k,h,hf,hk,hfit,hc => by
    have hi:i < l.length:=by omega
    have hd:l.drop i = l[i] :: l.drop (i + 1):=List.drop_eq_getElem_cons hi
    rw [hd] at hc ⊢
    simp only [a0s] at hc ⊢
    have hlen:l.length < 2 ^ 61:=hfit.1
    have hx:=hfit.2 l[i] (List.getElem_mem _)
    have m0:=c7i l[i] (k) (hx) (by omega) (by omega)
    have wi:w64 ((i:Int) + 1) = ((i + 1:Nat):Int):=by rw [a2k (by omega)]; rfl
    have hg:l[i]? = some l[i]:=List.getElem?_eq_getElem hi
    have hix:0 + (i:Int).toNat = i:=by simp
    have hlt:((i:Int) < (l.length:Int)) = True:=eq_true (by omega)
    have hge:(0 ≤ (i:Int)) = True:=eq_true (by omega)
    have hds:∀ y,(l.set i y).drop (i + 1) = l.drop (i + 1):=fun y => List.drop_set_of_lt (by omega)
    have hfit2:a5h (l.set i ((a6z l[i] (k)))):=by
      unfold a5h at hfit ⊢
      exact ⟨by rw [List.length_set]; exact hfit.1,fun z hz => by
        rcases List.mem_or_eq_of_mem_set hz with hz | rfl
        · exact hfit.2 z hz
        · exact b8o _ _ hx⟩
    have ih:=b3b n f (l.set i ((a6z l[i] (k)))) (i + 1) (k + (a3v l[i]:Nat)) (by rw [List.length_set]; omega) (by omega) (by omega) hfit2 (by rw [hds]; omega)
    rw [hds] at ih
    rw [a2p]
    simp only [hlt,hge,hix,hg,decide_true,and_self,if_true,Option.bind_some,List.set_set,wi,m0]
    rw [ih,a9d _ _ _ _ hi,a3w]
    refine congrArg some (Prod.ext ?_ rfl)
    simp only
    omega
theorem b2s (l:List (List y9)) (k:Int) (hf:a5h l) (h0:1 ≤ k) (h1:k + (a0s l:Nat) < 2 ^ 62):a5l l k = some (k + (a0s l:Nat),a3w l k):=by
  unfold a5l
  have hl:l.length < 2 ^ 61:=hf.1
  rw [show (0:Int) = ((0:Nat):Int) from rfl,b3b l.length FUEL l 0 k (by omega) (fuel_lt (by omega)) h0 hf (by simpa using h1)]
  simp
theorem b6y:∀ (l:List (List y9)) (k:Int),(a3w l k).length = l.length
  | [],_ => rfl
  | x :: l,k => by simp only [a3w,List.length_cons,b6y l]
theorem a7a:∀ (l:List (List y9)) (k:Int),a5h l → a5h (a3w l k)
  | [],_,h => h
  | x :: l,k,h => by
    have h2:a5h l:=⟨by have:=h.1; simp at this; omega,fun y hy => h.2 y (by simp [hy])⟩
    have ih:=a7a l (k + (a3v x:Nat)) h2
    have hx:=h.2 x (by simp)
    refine ⟨by rw [b6y]; exact h.1,fun z hz => ?_⟩
    rw [a3w] at hz
    rcases List.mem_cons.1 hz with rfl | hz
    · exact b8o _ _ hx
    · exact ih.2 z hz
theorem b3c:∀ (l:List (List y9)) (k:Int),a5h l → 1 ≤ k → k + (a0s l:Nat) < 2 ^ 62 → a2q (a3w l k) k = some (.go (k + (a0s l:Nat)))
  | [],k,_,_,_ => by simp [a3w,a2q,a0s]
  | x :: l,k,hfit,h0,hc => by
    simp only [a0s] at hc ⊢
    have hx:=hfit.2 x (by simp)
    have hfit2:a5h l:=⟨by have:=hfit.1; simp at this; omega,fun y hy => hfit.2 y (by simp [hy])⟩
    have m0:=c7j x (k) hx (by omega) (by omega)
    have n0:(k + (a3v x:Nat) < 0) = False:=eq_false (by omega)
    have ih:=b3c l (k + (a3v x:Nat)) hfit2 (by omega) (by omega)
    rw [a3w,a2q]
    simp only [m0,n0,Option.bind_some,beq_self_eq_true,bne_self_eq_false,Bool.not_true,Bool.false_eq_true,if_false,decide_false]
    rw [ih]
    refine congrArg (fun z => some (Fl.go z)) ?_
    omega
theorem b6z (l:List (List y9)) (k:Int) (hf:a5h l) (h0:1 ≤ k) (h1:k + (a0s l:Nat) < 2 ^ 62):a6e (a3w l k) k = some (k + (a0s l:Nat)):=by
  unfold a6e
  rw [b3c l k hf h0 h1]
  rfl

def a3g:List a0c → Nat
  | [] => 0
  | x :: xs => (1 + 1 + 1 + a0s x.Old.Cells + 1 + a0s x.New.Cells) + a3g xs
def a5u:List a0c → Int → List a0c
  | [],_ => []
  | x :: xs,k => ⟨(k),(k + 1),⟨(k + 1 + 1),(a3w x.Old.Cells (k + 1 + 1 + 1))⟩,⟨(k + 1 + 1 + 1 + (a0s x.Old.Cells:Nat)),(a3w x.New.Cells (k + 1 + 1 + 1 + (a0s x.Old.Cells:Nat) + 1))⟩⟩ :: a5u xs (k + 1 + 1 + 1 + (a0s x.Old.Cells:Nat) + 1 + (a0s x.New.Cells:Nat))
def a5x (l:List a0c):Prop:=l.length < 2 ^ 61 ∧ ∀ x ∈ l,a5h x.Old.Cells ∧ a5h x.New.Cells
theorem b2f:∀ (n f:Nat) (l:List a0c) (i:Nat) (k:Int),i + n = l.length → n < f → 1 ≤ k → a5x l → k + (a3g (l.drop i):Nat) < 2 ^ 62 → a2i f k i l = some (k + (a3g (l.drop i):Nat),l.take i ++ a5u (l.drop i) k)
  | _,0,_,_,_,_,h,_,_,_ => by omega
  | 0,f + 1,l,i,k,h,_,_,_,_ => by
    rw [a2i,if_neg (by simp; omega),List.drop_of_length_le (by omega),List.take_of_length_le (by omega)]
    simp [a3g,a5u]
  | n + 1,f + 1,l,i,k,h,hf,hk,hfit,hc => by
    have hi:i < l.length:=by omega
    have hd:l.drop i = l[i] :: l.drop (i + 1):=List.drop_eq_getElem_cons hi
    rw [hd] at hc ⊢
    simp only [a3g] at hc ⊢
    have hlen:l.length < 2 ^ 61:=hfit.1
    have hx:=hfit.2 l[i] (List.getElem_mem _)
    have w0:w64 (k + 1) = k + 1:=a2k (by omega)
    have w1:w64 (k + 1 + 1) = k + 1 + 1:=a2k (by omega)
    have w2:w64 (k + 1 + 1 + 1) = k + 1 + 1 + 1:=a2k (by omega)
    have m3:=b2s l[i].Old.Cells (k + 1 + 1 + 1) (hx.1) (by omega) (by omega)
    have w4:w64 (k + 1 + 1 + 1 + (a0s l[i].Old.Cells:Nat) + 1) = k + 1 + 1 + 1 + (a0s l[i].Old.Cells:Nat) + 1:=a2k (by omega)
    have m5:=b2s l[i].New.Cells (k + 1 + 1 + 1 + (a0s l[i].Old.Cells:Nat) + 1) (hx.2) (by omega) (by omega)
    have wi:w64 ((i:Int) + 1) = ((i + 1:Nat):Int):=by rw [a2k (by omega)]; rfl
    have hg:l[i]? = some l[i]:=List.getElem?_eq_getElem hi
    have hix:0 + (i:Int).toNat = i:=by simp
    have hlt:((i:Int) < (l.length:Int)) = True:=eq_true (by omega)
    have hge:(0 ≤ (i:Int)) = True:=eq_true (by omega)
    have hds:∀ y,(l.set i y).drop (i + 1) = l.drop (i + 1):=fun y => List.drop_set_of_lt (by omega)
    have hfit2:a5x (l.set i (⟨(k),(k + 1),⟨(k + 1 + 1),(a3w l[i].Old.Cells (k + 1 + 1 + 1))⟩,⟨(k + 1 + 1 + 1 + (a0s l[i].Old.Cells:Nat)),(a3w l[i].New.Cells (k + 1 + 1 + 1 + (a0s l[i].Old.Cells:Nat) + 1))⟩⟩)):=by
      unfold a5x at hfit ⊢
      exact ⟨by rw [List.length_set]; exact hfit.1,fun z hz => by
        rcases List.mem_or_eq_of_mem_set hz with hz | rfl
        · exact hfit.2 z hz
        · exact ⟨a7a _ _ hx.1,a7a _ _ hx.2⟩⟩
    have ih:=b2f n f (l.set i (⟨(k),(k + 1),⟨(k + 1 + 1),(a3w l[i].Old.Cells (k + 1 + 1 + 1))⟩,⟨(k + 1 + 1 + 1 + (a0s l[i].Old.Cells:Nat)),(a3w l[i].New.Cells (k + 1 + 1 + 1 + (a0s l[i].Old.Cells:Nat) + 1))⟩⟩)) (i + 1) (k + 1 + 1 + 1 + (a0s l[i].Old.Cells:Nat) + 1 + (a0s l[i].New.Cells:Nat)) (by rw [List.length_set]; omega) (by omega) (by omega) hfit2 (by rw [hds]; omega)
    rw [hds] at ih
    rw [a2i]
    simp only [hlt,hge,hix,hg,decide_true,and_self,if_true,Option.bind_some,List.set_set,wi,w0,w1,w2,m3,w4,m5]
    rw [ih,a9d _ _ _ _ hi,a5u]
    refine congrArg some (Prod.ext ?_ rfl)
    simp only
    omega
theorem c2p (l:List a0c) (k:Int) (hf:a5x l) (h0:1 ≤ k) (h1:k + (a3g l:Nat) < 2 ^ 62):a6s l k = some (k + (a3g l:Nat),a5u l k):=by
  unfold a6s
  have hl:l.length < 2 ^ 61:=hf.1
  rw [show (0:Int) = ((0:Nat):Int) from rfl,b2f l.length FUEL l 0 k (by omega) (fuel_lt (by omega)) h0 hf (by simpa using h1)]
  simp
theorem b4z:∀ (l:List a0c) (k:Int),(a5u l k).length = l.length
  | [],_ => rfl
  | x :: l,k => by simp only [a5u,List.length_cons,b4z l]
theorem c2r:∀ (l:List a0c) (k:Int),a5x l → a5x (a5u l k)
  | [],_,h => h
  | x :: l,k,h => by
    have h2:a5x l:=⟨by have:=h.1; simp at this; omega,fun y hy => h.2 y (by simp [hy])⟩
    have ih:=c2r l (k + 1 + 1 + 1 + (a0s x.Old.Cells:Nat) + 1 + (a0s x.New.Cells:Nat)) h2
    have hx:=h.2 x (by simp)
    refine ⟨by rw [b4z]; exact h.1,fun z hz => ?_⟩
    rw [a5u] at hz
    rcases List.mem_cons.1 hz with rfl | hz
    · exact ⟨a7a _ _ hx.1,a7a _ _ hx.2⟩
    · exact ih.2 z hz
theorem b2g:∀ (l:List a0c) (k:Int),a5x l → 1 ≤ k → k + (a3g l:Nat) < 2 ^ 62 → a2j (a5u l k) k = some (.go (k + (a3g l:Nat)))
  | [],k,_,_,_ => by simp [a5u,a2j,a3g]
  | x :: l,k,hfit,h0,hc => by
    simp only [a3g] at hc ⊢
    have hx:=hfit.2 x (by simp)
    have hfit2:a5x l:=⟨by have:=hfit.1; simp at this; omega,fun y hy => hfit.2 y (by simp [hy])⟩
    have w0:w64 (k + 1) = k + 1:=a2k (by omega)
    have w1:w64 (k + 1 + 1) = k + 1 + 1:=a2k (by omega)
    have w2:w64 (k + 1 + 1 + 1) = k + 1 + 1 + 1:=a2k (by omega)
    have m3:=b6z x.Old.Cells (k + 1 + 1 + 1) hx.1 (by omega) (by omega)
    have n3:(k + 1 + 1 + 1 + (a0s x.Old.Cells:Nat) < 0) = False:=eq_false (by omega)
    have w4:w64 (k + 1 + 1 + 1 + (a0s x.Old.Cells:Nat) + 1) = k + 1 + 1 + 1 + (a0s x.Old.Cells:Nat) + 1:=a2k (by omega)
    have m5:=b6z x.New.Cells (k + 1 + 1 + 1 + (a0s x.Old.Cells:Nat) + 1) hx.2 (by omega) (by omega)
    have n5:(k + 1 + 1 + 1 + (a0s x.Old.Cells:Nat) + 1 + (a0s x.New.Cells:Nat) < 0) = False:=eq_false (by omega)
    have ih:=b2g l (k + 1 + 1 + 1 + (a0s x.Old.Cells:Nat) + 1 + (a0s x.New.Cells:Nat)) hfit2 (by omega) (by omega)
    rw [a5u,a2j]
    simp only [w0,w1,w2,m3,n3,w4,m5,n5,Option.bind_some,beq_self_eq_true,bne_self_eq_false,Bool.not_true,Bool.false_eq_true,if_false,decide_false]
    rw [ih]
    refine congrArg (fun z => some (Fl.go z)) ?_
    omega
theorem c2s (l:List a0c) (k:Int) (hf:a5x l) (h0:1 ≤ k) (h1:k + (a3g l:Nat) < 2 ^ 62):a5t (a5u l k) k = some (k + (a3g l:Nat)):=by
  unfold a5t
  rw [b2g l k hf h0 h1]
  rfl

def a7h:List x9 → Nat
  | [] => 0
  | x :: xs => (1 + a0s x.Cells) + a7h xs
def b0s:List x9 → Int → List x9
  | [],_ => []
  | x :: xs,k => ⟨(k),(a3w x.Cells (k + 1))⟩ :: b0s xs (k + 1 + (a0s x.Cells:Nat))
def b1b (l:List x9):Prop:=l.length < 2 ^ 61 ∧ ∀ x ∈ l,a5h x.Cells
theorem b5a:∀ (n f:Nat) (l:List x9) (i:Nat) (k:Int),i + n = l.length → n < f → 1 ≤ k → b1b l → k + (a7h (l.drop i):Nat) < 2 ^ 62 → a3s f k i l = some (k + (a7h (l.drop i):Nat),l.take i ++ b0s (l.drop i) k)
  | _,0,_,_,_,_,h,_,_,_ => by omega
  | 0,f + 1,l,i,k,h,_,_,_,_ => by
    rw [a3s,if_neg (by simp; omega),List.drop_of_length_le (by omega),List.take_of_length_le (by omega)]
    simp [a7h,b0s]
  | n + 1,f + 1,l,i,k,h,hf,hk,hfit,hc => by
    have hi:i < l.length:=by omega
    have hd:l.drop i = l[i] :: l.drop (i + 1):=List.drop_eq_getElem_cons hi
    rw [hd] at hc ⊢
    simp only [a7h] at hc ⊢
    have hlen:l.length < 2 ^ 61:=hfit.1
    have hx:=hfit.2 l[i] (List.getElem_mem _)
    have w0:w64 (k + 1) = k + 1:=a2k (by omega)
    have m1:=b2s l[i].Cells (k + 1) (hx) (by omega) (by omega)
    have wi:w64 ((i:Int) + 1) = ((i + 1:Nat):Int):=by rw [a2k (by omega)]; rfl
    have hg:l[i]? = some l[i]:=List.getElem?_eq_getElem hi
    have hix:0 + (i:Int).toNat = i:=by simp
    have hlt:((i:Int) < (l.length:Int)) = True:=eq_true (by omega)
    have hge:(0 ≤ (i:Int)) = True:=eq_true (by omega)
    have hds:∀ y,(l.set i y).drop (i + 1) = l.drop (i + 1):=fun y => List.drop_set_of_lt (by omega)
    have hfit2:b1b (l.set i (⟨(k),(a3w l[i].Cells (k + 1))⟩)):=by
      unfold b1b at hfit ⊢
      exact ⟨by rw [List.length_set]; exact hfit.1,fun z hz => by
        rcases List.mem_or_eq_of_mem_set hz with hz | rfl
        · exact hfit.2 z hz
        · exact a7a _ _ hx⟩
    have ih:=b5a n f (l.set i (⟨(k),(a3w l[i].Cells (k + 1))⟩)) (i + 1) (k + 1 + (a0s l[i].Cells:Nat)) (by rw [List.length_set]; omega) (by omega) (by omega) hfit2 (by rw [hds]; omega)
    rw [hds] at ih
    rw [a3s]
    simp only [hlt,hge,hix,hg,decide_true,and_self,if_true,Option.bind_some,List.set_set,wi,w0,m1]
    rw [ih,a9d _ _ _ _ hi,b0s]
    refine congrArg some (Prod.ext ?_ rfl)
    simp only
    omega
theorem c8u (l:List x9) (k:Int) (hf:b1b l) (h0:1 ≤ k) (h1:k + (a7h l:Nat) < 2 ^ 62):a8k l k = some (k + (a7h l:Nat),b0s l k):=by
  unfold a8k
  have hl:l.length < 2 ^ 61:=hf.1
  rw [show (0:Int) = ((0:Nat):Int) from rfl,b5a l.length FUEL l 0 k (by omega) (fuel_lt (by omega)) h0 hf (by simpa using h1)]
  simp
theorem c1o:∀ (l:List x9) (k:Int),(b0s l k).length = l.length
  | [],_ => rfl
  | x :: l,k => by simp only [b0s,List.length_cons,c1o l]
theorem b5z:∀ (l:List x9) (k:Int),b1b l → b1b (b0s l k)
  | [],_,h => h
  | x :: l,k,h => by
    have h2:b1b l:=⟨by have:=h.1; simp at this; omega,fun y hy => h.2 y (by simp [hy])⟩
    have ih:=b5z l (k + 1 + (a0s x.Cells:Nat)) h2
    have hx:=h.2 x (by simp)
    refine ⟨by rw [c1o]; exact h.1,fun z hz => ?_⟩
    rw [b0s] at hz
    rcases List.mem_cons.1 hz with rfl | hz
    · exact a7a _ _ hx
    · exact ih.2 z hz

def a7r:List (List x9) → Nat
  | [] => 0
  | x :: xs => (a7h x) + a7r xs
def a9z:List (List x9) → Int → List (List x9)
  | [],_ => []
  | x :: xs,k => (b0s x (k)) :: a9z xs (k + (a7h x:Nat))
def a9p (l:List (List x9)):Prop:=l.length < 2 ^ 61 ∧ ∀ x ∈ l,b1b x
theorem b4c:∀ (n f:Nat) (l:List (List x9)) (i:Nat) (k:Int),i + n = l.length → n < f → 1 ≤ k → a9p l → k + (a7r (l.drop i):Nat) < 2 ^ 62 → a3c f k i l = some (k + (a7r (l.drop i):Nat),l.take i ++ a9z (l.drop i) k)
  | _,0,_,_,_,_,h,_,_,_ => by omega
  | 0,f + 1,l,i,k,h,_,_,_,_ => by
    rw [a3c,if_neg (by simp; omega),List.drop_of_length_le (by omega),List.take_of_length_le (by omega)]
    simp [a7r,a9z]
  | n + 1,f + 1,l,i,k,h,hf,hk,hfit,hc => by
    have hi:i < l.length:=by omega
    have hd:l.drop i = l[i] :: l.drop (i + 1):=List.drop_eq_getElem_cons hi
    rw [hd] at hc ⊢
    simp only [a7r] at hc ⊢
    have hlen:l.length < 2 ^ 61:=hfit.1
    have hx:=hfit.2 l[i] (List.getElem_mem _)
    have m0:=c8u l[i] (k) (hx) (by omega) (by omega)
    have wi:w64 ((i:Int) + 1) = ((i + 1:Nat):Int):=by rw [a2k (by omega)]; rfl
    have hg:l[i]? = some l[i]:=List.getElem?_eq_getElem hi
    have hix:0 + (i:Int).toNat = i:=by simp
    have hlt:((i:Int) < (l.length:Int)) = True:=eq_true (by omega)
    have hge:(0 ≤ (i:Int)) = True:=eq_true (by omega)
    have hds:∀ y,(l.set i y).drop (i + 1) = l.drop (i + 1):=fun y => List.drop_set_of_lt (by omega)
    have hfit2:a9p (l.set i ((b0s l[i] (k)))):=by
      unfold a9p at hfit ⊢
      exact ⟨by rw [List.length_set]; exact hfit.1,fun z hz => by
        rcases List.mem_or_eq_of_mem_set hz with hz | rfl
        · exact hfit.2 z hz
        · exact b5z _ _ hx⟩
    have ih:=b4c n f (l.set i ((b0s l[i] (k)))) (i + 1) (k + (a7h l[i]:Nat)) (by rw [List.length_set]; omega) (by omega) (by omega) hfit2 (by rw [hds]; omega)
    rw [hds] at ih
    rw [a3c]
    simp only [hlt,hge,hix,hg,decide_true,and_self,if_true,Option.bind_some,List.set_set,wi,m0]
    rw [ih,a9d _ _ _ _ hi,a9z]
    refine congrArg some (Prod.ext ?_ rfl)
    simp only
    omega
theorem c7k (l:List (List x9)) (k:Int) (hf:a9p l) (h0:1 ≤ k) (h1:k + (a7r l:Nat) < 2 ^ 62):a7p l k = some (k + (a7r l:Nat),a9z l k):=by
  unfold a7p
  have hl:l.length < 2 ^ 61:=hf.1
  rw [show (0:Int) = ((0:Nat):Int) from rfl,b4c l.length FUEL l 0 k (by omega) (fuel_lt (by omega)) h0 hf (by simpa using h1)]
  simp
theorem b8p:∀ (l:List (List x9)) (k:Int),(a9z l k).length = l.length
  | [],_ => rfl
  | x :: l,k => by simp only [a9z,List.length_cons,b8p l]
theorem c7l:∀ (l:List (List x9)) (k:Int),a9p l → a9p (a9z l k)
  | [],_,h => h
  | x :: l,k,h => by
    have h2:a9p l:=⟨by have:=h.1; simp at this; omega,fun y hy => h.2 y (by simp [hy])⟩
    have ih:=c7l l (k + (a7h x:Nat)) h2
    have hx:=h.2 x (by simp)
    refine ⟨by rw [b8p]; exact h.1,fun z hz => ?_⟩
    rw [a9z] at hz
    rcases List.mem_cons.1 hz with rfl | hz
    · exact b5z _ _ hx
    · exact ih.2 z hz

def b0j (x:a1d):Nat:=a7r x.Tables
def d5l (x:a1d) (k:Int):a1d:=⟨(a9z x.Tables (k)),x.Next⟩
def c1p (x:a1d):Prop:=a9p x.Tables
theorem b8q (x:a1d) (k:Int) (hf:c1p x) (h0:1 ≤ k) (h1:k + (b0j x:Nat) < 2 ^ 62):a6r x k = some (k + (b0j x:Nat),d5l x k):=by
  unfold b0j at h1 ⊢
  unfold c1p at hf
  have m0:=c7k x.Tables (k) hf (by omega) (by omega)
  unfold a6r
  simp only [m0,Option.bind_some]
  refine congrArg some (Prod.ext ?_ rfl)
  (try simp only) <;> omega
end Go.R
