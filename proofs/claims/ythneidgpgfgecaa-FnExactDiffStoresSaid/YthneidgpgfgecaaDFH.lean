/- Weights, sizes, copies, comparisons: what the laws' own helpers give. -/
import Derived.Test.YthneidgpgfgecaaDFM
import Derived.Test.YthneidgpgfgecaaP0
set_option linter.all false
namespace Go.R
open Go
set_option linter.all false
theorem d3j (x:y9):b0h x x = some true:=by
  unfold b0h
  simp

theorem b7a (b:List y9):∀ (xs:List y9) (i:Nat),b.drop i = xs → a4k b xs i = some (.go ())
  | [],i,_ => by rw [a4k]
  | x :: xs,i,h => by
    rw [a4k,b3w h,Option.bind_some,d3j,Option.bind_some,if_neg (by simp),b7a b xs (i + 1) (a9t h)]
theorem d1a (a:List y9):a9m a a = some true:=by
  unfold a9m
  rw [if_neg (by simp),b7a a a 0 (by simp)]
  rfl

theorem b5b (b:List (List y9)):∀ (xs:List (List y9)) (i:Nat),b.drop i = xs → a3q b xs i = some (.go ())
  | [],i,_ => by rw [a3q]
  | x :: xs,i,h => by
    rw [a3q,b3w h,Option.bind_some,d1a,Option.bind_some,if_neg (by simp),b5b b xs (i + 1) (a9t h)]
theorem c8v (a:List (List y9)):a8i a a = some true:=by
  unfold a8i
  rw [if_neg (by simp),b5b a a 0 (by simp)]
  rfl

theorem c5e (x:x9):a8r x x = some true:=by
  unfold a8r
  simp [c8v]

theorem c8w (x:a0c):a8j x x = some true:=by
  unfold a8j
  simp [c5e,c5e]

theorem b4d (b:List a0c):∀ (xs:List a0c) (i:Nat),b.drop i = xs → a3a b xs i = some (.go ())
  | [],i,_ => by rw [a3a]
  | x :: xs,i,h => by
    rw [a3a,b3w h,Option.bind_some,c8w,Option.bind_some,if_neg (by simp),b4d b xs (i + 1) (a9t h)]
theorem c7m (a:List a0c):a5w a a = some true:=by
  unfold a5w
  rw [if_neg (by simp),b4d a a 0 (by simp)]
  rfl

theorem b8r (b:List x9):∀ (xs:List x9) (i:Nat),b.drop i = xs → a4r b xs i = some (.go ())
  | [],i,_ => by rw [a4r]
  | x :: xs,i,h => by
    rw [a4r,b3w h,Option.bind_some,c5e,Option.bind_some,if_neg (by simp),b8r b xs (i + 1) (a9t h)]
theorem d3k (a:List x9):b0i a a = some true:=by
  unfold b0i
  rw [if_neg (by simp),b8r a a 0 (by simp)]
  rfl

theorem b7b (b:List (List x9)):∀ (xs:List (List x9)) (i:Nat),b.drop i = xs → a4l b xs i = some (.go ())
  | [],i,_ => by rw [a4l]
  | x :: xs,i,h => by
    rw [a4l,b3w h,Option.bind_some,d3k,Option.bind_some,if_neg (by simp),b7b b xs (i + 1) (a9t h)]
theorem d1b (a:List (List x9)):a9n a a = some true:=by
  unfold a9n
  rw [if_neg (by simp),b7b a a 0 (by simp)]
  rfl

theorem d1c (x:a1d):a7w x x = some true:=by
  unfold a7w
  simp [d1b]

def b4e (x:y9):Nat:=x.T.length

theorem d3l (x:y9) (n:Int) (h0:0 ≤ n) (h1:n ≤ 2 ^ 30) (ok:a7g x):∃ r,b0d x n = some r ∧ (r < 0 ∨ (0 ≤ r ∧ r = n - (b4e x:Nat))):=by
  unfold b0d b4e
  have k2:=ok.2.2
  simp only [okS,maxLen] at k2
  rw [a2k (by omega)]
  split
  · exact ⟨_,rfl,.inl (by omega)⟩
  rename_i h12
  simp only [decide_eq_true_eq] at h12
  exact ⟨_,rfl,.inr ⟨by omega,by omega⟩⟩

def b1t:List y9 → Nat
  | [] => 0
  | x :: xs => b4e x + b1t xs
def a7x (l:List y9):Nat:=l.length + b1t l
theorem b8s:∀ {l:List y9} {x:y9},x ∈ l → b4e x ≤ b1t l
  | [],_,h => by simp at h
  | y :: l,x,h => by
    rw [b1t]
    rcases List.mem_cons.1 h with rfl | h
    · omega
    · have:=b8s h; omega

theorem b7c:∀ (l:List y9) (n:Int),0 ≤ n → n ≤ 2 ^ 30 → (∀ a ∈ l,(a7g) a) → a4b l n = some (.ret (-1)) ∨ ∃ r,a4b l n = some (.go r) ∧ r = n - (b1t l:Nat) ∧ 0 ≤ r
  | [],n,h0,h1,ok => .inr ⟨n,rfl,by simp [b1t],h0⟩
  | a :: l,n,h0,h1,ok => by
    rw [a4b]
    obtain ⟨r,e,hr⟩:=d3l a n h0 h1 (ok a (by simp))
    rw [e,Option.bind_some]
    split
    · exact .inl rfl
    · rename_i h
      simp only [decide_eq_true_eq] at h
      have hr:=hr.resolve_left h
      rcases b7c l r (by omega) (by omega) (fun x hx => ok x (by simp [hx])) with h2 | ⟨r',e',g2,g3⟩
      · exact .inl h2
      · exact .inr ⟨r',e',by rw [g2,hr.2]; simp only [b1t]; omega,g3⟩
theorem d1d (l:List y9) (n:Int) (h0:0 ≤ n) (h1:n ≤ 2 ^ 30) (ok:(okL (a7g)) l):∃ r,a9f l n = some r ∧ (r < 0 ∨ (0 ≤ r ∧ r = n - (a7x l:Nat))):=by
  unfold a9f a7x
  have k1:=ok.1
  simp only [maxLen] at k1
  rw [a2k (by omega)]
  split
  · exact ⟨_,rfl,.inl (by omega)⟩
  · rename_i h
    simp only [decide_eq_true_eq] at h
    rcases b7c l (n - l.length) (by omega) (by omega) ok.2 with h2 | ⟨r',e',g1,g2⟩
    · exact ⟨-1,by rw [h2]; rfl,.inl (by omega)⟩
    · exact ⟨r',by rw [e']; rfl,.inr ⟨g2,by omega⟩⟩

def a9q:List (List y9) → Nat
  | [] => 0
  | x :: xs => a7x x + a9q xs
def a7d (l:List (List y9)):Nat:=l.length + a9q l
theorem b1c:∀ {l:List (List y9)} {x:(List y9)},x ∈ l → a7x x ≤ a9q l
  | [],_,h => by simp at h
  | y :: l,x,h => by
    rw [a9q]
    rcases List.mem_cons.1 h with rfl | h
    · omega
    · have:=b1c h; omega

theorem b5c:∀ (l:List (List y9)) (n:Int),0 ≤ n → n ≤ 2 ^ 30 → (∀ a ∈ l,(okL (a7g)) a) → a3l l n = some (.ret (-1)) ∨ ∃ r,a3l l n = some (.go r) ∧ r = n - (a9q l:Nat) ∧ 0 ≤ r
  | [],n,h0,h1,ok => .inr ⟨n,rfl,by simp [a9q],h0⟩
  | a :: l,n,h0,h1,ok => by
    rw [a3l]
    obtain ⟨r,e,hr⟩:=d1d a n h0 h1 (ok a (by simp))
    rw [e,Option.bind_some]
    split
    · exact .inl rfl
    · rename_i h
      simp only [decide_eq_true_eq] at h
      have hr:=hr.resolve_left h
      rcases b5c l r (by omega) (by omega) (fun x hx => ok x (by simp [hx])) with h2 | ⟨r',e',g2,g3⟩
      · exact .inl h2
      · exact .inr ⟨r',e',by rw [g2,hr.2]; simp only [a9q]; omega,g3⟩
theorem c8x (l:List (List y9)) (n:Int) (h0:0 ≤ n) (h1:n ≤ 2 ^ 30) (ok:(okL (okL (a7g))) l):∃ r,a8d l n = some r ∧ (r < 0 ∨ (0 ≤ r ∧ r = n - (a7d l:Nat))):=by
  unfold a8d a7d
  have k1:=ok.1
  simp only [maxLen] at k1
  rw [a2k (by omega)]
  split
  · exact ⟨_,rfl,.inl (by omega)⟩
  · rename_i h
    simp only [decide_eq_true_eq] at h
    rcases b5c l (n - l.length) (by omega) (by omega) ok.2 with h2 | ⟨r',e',g1,g2⟩
    · exact ⟨-1,by rw [h2]; rfl,.inl (by omega)⟩
    · exact ⟨r',by rw [e']; rfl,.inr ⟨g2,by omega⟩⟩

def a7s (x:x9):Nat:=a7d x.Cells

theorem d5m (x:x9) (n:Int) (h0:0 ≤ n) (h1:n ≤ 2 ^ 30) (ok:a9e x):∃ r,b1k x n = some r ∧ (r < 0 ∨ (0 ≤ r ∧ r = n - (a7s x:Nat))):=by
  unfold b1k a7s
  obtain ⟨r1,e1,hr1⟩:=c8x x.Cells n (by omega) (by omega) ok.2
  rw [e1,Option.bind_some]
  split
  · exact ⟨_,rfl,.inl (by omega)⟩
  rename_i h11
  simp only [decide_eq_true_eq] at h11
  have hr1:=hr1.resolve_left h11
  exact ⟨_,rfl,.inr ⟨by omega,by omega⟩⟩

def b4f:List x9 → Nat
  | [] => 0
  | x :: xs => a7s x + b4f xs
def a5b (l:List x9):Nat:=l.length + b4f l
theorem b1n:∀ {l:List x9} {x:x9},x ∈ l → a7s x ≤ b4f l
  | [],_,h => by simp at h
  | y :: l,x,h => by
    rw [b4f]
    rcases List.mem_cons.1 h with rfl | h
    · omega
    · have:=b1n h; omega

theorem b8t:∀ (l:List x9) (n:Int),0 ≤ n → n ≤ 2 ^ 30 → (∀ a ∈ l,(a9e) a) → a4p l n = some (.ret (-1)) ∨ ∃ r,a4p l n = some (.go r) ∧ r = n - (b4f l:Nat) ∧ 0 ≤ r
  | [],n,h0,h1,ok => .inr ⟨n,rfl,by simp [b4f],h0⟩
  | a :: l,n,h0,h1,ok => by
    rw [a4p]
    obtain ⟨r,e,hr⟩:=d5m a n h0 h1 (ok a (by simp))
    rw [e,Option.bind_some]
    split
    · exact .inl rfl
    · rename_i h
      simp only [decide_eq_true_eq] at h
      have hr:=hr.resolve_left h
      rcases b8t l r (by omega) (by omega) (fun x hx => ok x (by simp [hx])) with h2 | ⟨r',e',g2,g3⟩
      · exact .inl h2
      · exact .inr ⟨r',e',by rw [g2,hr.2]; simp only [b4f]; omega,g3⟩
theorem d3m (l:List x9) (n:Int) (h0:0 ≤ n) (h1:n ≤ 2 ^ 30) (ok:(okL (a9e)) l):∃ r,b0e l n = some r ∧ (r < 0 ∨ (0 ≤ r ∧ r = n - (a5b l:Nat))):=by
  unfold b0e a5b
  have k1:=ok.1
  simp only [maxLen] at k1
  rw [a2k (by omega)]
  split
  · exact ⟨_,rfl,.inl (by omega)⟩
  · rename_i h
    simp only [decide_eq_true_eq] at h
    rcases b8t l (n - l.length) (by omega) (by omega) ok.2 with h2 | ⟨r',e',g1,g2⟩
    · exact ⟨-1,by rw [h2]; rfl,.inl (by omega)⟩
    · exact ⟨r',by rw [e']; rfl,.inr ⟨g2,by omega⟩⟩

def a5p:List (List x9) → Nat
  | [] => 0
  | x :: xs => a5b x + a5p xs
def a7i (l:List (List x9)):Nat:=l.length + a5p l
theorem b0k:∀ {l:List (List x9)} {x:(List x9)},x ∈ l → a5b x ≤ a5p l
  | [],_,h => by simp at h
  | y :: l,x,h => by
    rw [a5p]
    rcases List.mem_cons.1 h with rfl | h
    · omega
    · have:=b0k h; omega

theorem b7d:∀ (l:List (List x9)) (n:Int),0 ≤ n → n ≤ 2 ^ 30 → (∀ a ∈ l,(okL (a9e)) a) → a4c l n = some (.ret (-1)) ∨ ∃ r,a4c l n = some (.go r) ∧ r = n - (a5p l:Nat) ∧ 0 ≤ r
  | [],n,h0,h1,ok => .inr ⟨n,rfl,by simp [a5p],h0⟩
  | a :: l,n,h0,h1,ok => by
    rw [a4c]
    obtain ⟨r,e,hr⟩:=d3m a n h0 h1 (ok a (by simp))
    rw [e,Option.bind_some]
    split
    · exact .inl rfl
    · rename_i h
      simp only [decide_eq_true_eq] at h
      have hr:=hr.resolve_left h
      rcases b7d l r (by omega) (by omega) (fun x hx => ok x (by simp [hx])) with h2 | ⟨r',e',g2,g3⟩
      · exact .inl h2
      · exact .inr ⟨r',e',by rw [g2,hr.2]; simp only [a5p]; omega,g3⟩
theorem d1e (l:List (List x9)) (n:Int) (h0:0 ≤ n) (h1:n ≤ 2 ^ 30) (ok:(okL (okL (a9e))) l):∃ r,a9g l n = some r ∧ (r < 0 ∨ (0 ≤ r ∧ r = n - (a7i l:Nat))):=by
  unfold a9g a7i
  have k1:=ok.1
  simp only [maxLen] at k1
  rw [a2k (by omega)]
  split
  · exact ⟨_,rfl,.inl (by omega)⟩
  · rename_i h
    simp only [decide_eq_true_eq] at h
    rcases b7d l (n - l.length) (by omega) (by omega) ok.2 with h2 | ⟨r',e',g1,g2⟩
    · exact ⟨-1,by rw [h2]; rfl,.inl (by omega)⟩
    · exact ⟨r',by rw [e']; rfl,.inr ⟨g2,by omega⟩⟩

def a7y (x:a1d):Nat:=a7i x.Tables

theorem c3w (x:a1d) (n:Int) (h0:0 ≤ n) (h1:n ≤ 2 ^ 30) (ok:b3x x):∃ r,a7u x n = some r ∧ (r < 0 ∨ (0 ≤ r ∧ r = n - (a7y x:Nat))):=by
  unfold a7u a7y
  obtain ⟨r0,e0,hr0⟩:=d1e x.Tables n (by omega) (by omega) ok.1
  rw [e0,Option.bind_some]
  split
  · exact ⟨_,rfl,.inl (by omega)⟩
  rename_i h10
  simp only [decide_eq_true_eq] at h10
  have hr0:=hr0.resolve_left h10
  exact ⟨_,rfl,.inr ⟨by omega,by omega⟩⟩

theorem d3n (x:y9) (h:b4e x ≤ 2 ^ 30):b0f x = some x:=by
  unfold b4e at h
  unfold b0f
  rfl

theorem b7e:∀ (xs:List y9) (i:Nat) (out:List y9),(∀ a ∈ xs,b4e a ≤ 2 ^ 30) → i + xs.length = out.length → a4d xs i out = some (out.take i ++ xs)
  | [],i,out,_,h => by
    rw [a4d]; simp at h; rw [h]; simp
  | x :: xs,i,out,hx,h => by
    rw [a4d]
    have hi:i < out.length:=by simp at h; omega
    rw [d3n x (hx x (by simp)),Option.bind_some,if_pos hi,List.getElem?_eq_getElem hi,Option.bind_some,b7e xs (i + 1) _ (fun a ha => hx a (by simp [ha])) (by simp at h ⊢; omega),a9d _ _ _ _ hi]
theorem d1f (a:List y9) (h:a7x a ≤ 2 ^ 30):a9h a = some a:=by
  unfold a9h
  rw [if_pos (by unfold a7x at h; omega),b7e a 0 _ (fun a ha => by have:=b8s ha; unfold a7x at h; omega) (by simp)]
  rfl

theorem b5d:∀ (xs:List (List y9)) (i:Nat) (out:List (List y9)),(∀ a ∈ xs,a7x a ≤ 2 ^ 30) → i + xs.length = out.length → a3m xs i out = some (out.take i ++ xs)
  | [],i,out,_,h => by
    rw [a3m]; simp at h; rw [h]; simp
  | x :: xs,i,out,hx,h => by
    rw [a3m]
    have hi:i < out.length:=by simp at h; omega
    rw [d1f x (hx x (by simp)),Option.bind_some,if_pos hi,List.getElem?_eq_getElem hi,Option.bind_some,b5d xs (i + 1) _ (fun a ha => hx a (by simp [ha])) (by simp at h ⊢; omega),a9d _ _ _ _ hi]
theorem c8y (a:List (List y9)) (h:a7d a ≤ 2 ^ 30):a8e a = some a:=by
  unfold a8e
  rw [if_pos (by unfold a7d at h; omega),b5d a 0 _ (fun a ha => by have:=b1c ha; unfold a7d at h; omega) (by simp)]
  rfl

theorem d5n (x:x9) (h:a7s x ≤ 2 ^ 30):b1l x = some x:=by
  unfold a7s at h
  unfold b1l
  simp only [c8y x.Cells (by omega),Option.bind_some]

theorem b8u:∀ (xs:List x9) (i:Nat) (out:List x9),(∀ a ∈ xs,a7s a ≤ 2 ^ 30) → i + xs.length = out.length → a4q xs i out = some (out.take i ++ xs)
  | [],i,out,_,h => by
    rw [a4q]; simp at h; rw [h]; simp
  | x :: xs,i,out,hx,h => by
    rw [a4q]
    have hi:i < out.length:=by simp at h; omega
    rw [d5n x (hx x (by simp)),Option.bind_some,if_pos hi,List.getElem?_eq_getElem hi,Option.bind_some,b8u xs (i + 1) _ (fun a ha => hx a (by simp [ha])) (by simp at h ⊢; omega),a9d _ _ _ _ hi]
theorem d3o (a:List x9) (h:a5b a ≤ 2 ^ 30):b0g a = some a:=by
  unfold b0g
  rw [if_pos (by unfold a5b at h; omega),b8u a 0 _ (fun a ha => by have:=b1n ha; unfold a5b at h; omega) (by simp)]
  rfl

theorem b7f:∀ (xs:List (List x9)) (i:Nat) (out:List (List x9)),(∀ a ∈ xs,a5b a ≤ 2 ^ 30) → i + xs.length = out.length → a4e xs i out = some (out.take i ++ xs)
  | [],i,out,_,h => by
    rw [a4e]; simp at h; rw [h]; simp
  | x :: xs,i,out,hx,h => by
    rw [a4e]
    have hi:i < out.length:=by simp at h; omega
    rw [d3o x (hx x (by simp)),Option.bind_some,if_pos hi,List.getElem?_eq_getElem hi,Option.bind_some,b7f xs (i + 1) _ (fun a ha => hx a (by simp [ha])) (by simp at h ⊢; omega),a9d _ _ _ _ hi]
theorem d1g (a:List (List x9)) (h:a7i a ≤ 2 ^ 30):a9i a = some a:=by
  unfold a9i
  rw [if_pos (by unfold a7i at h; omega),b7f a 0 _ (fun a ha => by have:=b0k ha; unfold a7i at h; omega) (by simp)]
  rfl

theorem c3x (x:a1d) (h:a7y x ≤ 2 ^ 30):a4f x = some x:=by
  unfold a7y at h
  unfold a4f
  simp only [d1g x.Tables (by omega),Option.bind_some]

def b0l (x:a0c):Nat:=a7s x.Old + a7s x.New

def a6t:List a0c → Nat
  | [] => 0
  | x :: xs => b0l x + a6t xs
def a7z (l:List a0c):Nat:=l.length + a6t l
theorem b5e:∀ {l:List a0c} {x:a0c},x ∈ l → b0l x ≤ a6t l
  | [],_,h => by simp at h
  | y :: l,x,h => by
    rw [a6t]
    rcases List.mem_cons.1 h with rfl | h
    · omega
    · have:=b5e h; omega
theorem b8v:∀ (l:List y9),a3v l ≤ 8 * a7x l
  | [] => by simp [a3v]
  | x :: l => by
    have ih:=b8v l
    unfold a7x at ih ⊢
    simp only [a3v,b1t,List.length_cons,b4e]
    omega
theorem c7n (l:List y9) (h:a7x l < 2 ^ 61):a6k l:=by
  unfold a7x at h
  unfold a6k
  omega

theorem b1d:∀ (l:List (List y9)),a0s l ≤ 8 * a7d l
  | [] => by simp [a0s]
  | x :: l => by
    have ih:=b1d l
    unfold a7d at ih ⊢
    have h0:=b8v x
    simp only [a0s,a9q,List.length_cons]
    omega
theorem b2t (l:List (List y9)) (h:a7d l < 2 ^ 61):a5h l:=by
  unfold a7d at h
  refine ⟨by omega,fun x hx => ?_⟩
  have:=b1c hx
  exact c7n _ (by omega)

theorem b5f:∀ (l:List a0c),a3g l ≤ 8 * a7z l
  | [] => by simp [a3g]
  | x :: l => by
    have ih:=b5f l
    unfold a7z at ih ⊢
    have h0:=b1d x.Old.Cells
    have h1:=b1d x.New.Cells
    simp only [a3g,a6t,List.length_cons,b0l,a7s]
    omega
theorem b5g (l:List a0c) (h:a7z l < 2 ^ 61):a5x l:=by
  unfold a7z at h
  refine ⟨by omega,fun x hx => ?_⟩
  have:=b5e hx
  simp only [b0l,a7s] at this
  exact ⟨b2t _ (by omega),b2t _ (by omega)⟩

theorem c1q:∀ (l:List x9),a7h l ≤ 8 * a5b l
  | [] => by simp [a7h]
  | x :: l => by
    have ih:=c1q l
    unfold a5b at ih ⊢
    have h0:=b1d x.Cells
    simp only [a7h,b4f,List.length_cons,a7s]
    omega
theorem c9a (l:List x9) (h:a5b l < 2 ^ 61):b1b l:=by
  unfold a5b at h
  refine ⟨by omega,fun x hx => ?_⟩
  have:=b1n hx
  simp only [a7s] at this
  exact b2t _ (by omega)

theorem b8w:∀ (l:List (List x9)),a7r l ≤ 8 * a7i l
  | [] => by simp [a7r]
  | x :: l => by
    have ih:=b8w l
    unfold a7i at ih ⊢
    have h0:=c1q x
    simp only [a7r,a5p,List.length_cons]
    omega
theorem c7o (l:List (List x9)) (h:a7i l < 2 ^ 61):a9p l:=by
  unfold a7i at h
  refine ⟨by omega,fun x hx => ?_⟩
  have:=b0k hx
  exact c9a _ (by omega)

theorem b8x (x:a1d):b0j x ≤ 8 * a7y x:=by
  have h0:=b8w x.Tables
  simp only [b0j,a7y]
  omega
theorem b8y (x:a1d) (h:a7y x < 2 ^ 61):c1p x:=by
  simp only [a7y] at h
  exact c7o _ (by omega)
end Go.R
