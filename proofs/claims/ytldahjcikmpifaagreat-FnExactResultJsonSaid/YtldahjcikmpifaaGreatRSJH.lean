/- Weights, sizes, copies, comparisons: what the laws' own helpers give. -/
import Derived.Test.YtldahjcikmpifaaGreatRSJM
import Derived.Test.YtldahjcikmpifaaGreatP0
set_option linter.all false
namespace Go.R
open Go
set_option linter.all false
theorem e3x (x:a0k):b4r x x = some true:=by
 unfold b4r
 simp

theorem c3o (b:List a0k):∀ (xs:List a0k) (i:Nat),b.drop i = xs → a5l b xs i = some (.go ())
 | [],i,_ => by rw [a5l]
 | x :: xs,i,h => by
  rw [a5l,b7k h,Option.bind_some,e3x,Option.bind_some,if_neg (by simp),c3o b xs (i + 1) (b0h h)]
theorem e0s (a:List a0k):b3d a a = some true:=by
 unfold b3d
 rw [if_neg (by simp),c3o a a 0 (by simp)]
 rfl

theorem c1c (b:List (List a0k)):∀ (xs:List (List a0k)) (i:Nat),b.drop i = xs → a4o b xs i = some (.go ())
 | [],i,_ => by rw [a4o]
 | x :: xs,i,h => by
  rw [a4o,b7k h,Option.bind_some,e0s,Option.bind_some,if_neg (by simp),c1c b xs (i + 1) (b0h h)]
theorem d7z (a:List (List a0k)):b1e a a = some true:=by
 unfold b1e
 rw [if_neg (by simp),c1c a a 0 (by simp)]
 rfl

def a3d:List Str → Nat
 | [] => 0
 | x :: xs => x.length + a3d xs
def a2i (l:List Str):Nat:=l.length + a3d l
theorem c1d:∀ {l:List Str} {x:Str},x ∈ l → x.length ≤ a3d l
 | [],_,h => by simp at h
 | y :: l,x,h => by
  rw [a3d]
  rcases List.mem_cons.1 h with rfl | h
  ·omega
  ·have:=c1d h; omega

/- JSON values: weights. -/
mutual
def a4a:o9 → Nat
 | ⟨_,_,t,ks,is⟩ => t.length + a2i ks + a2q is
def a2q:List o9 → Nat
 | [] => 0
 | x :: xs => 1 + a4a x + a2q xs
end
theorem d2d (x:o9):a4a x = x.T.length + a2i x.Keys + a2q x.Items:=by cases x; simp only [a4a]
theorem b6r:∀ l:List o9,l.length ≤ a2q l
 | [] => by simp
 | x :: l => by have:=b6r l; simp only [a2q,List.length_cons]; omega
theorem b4u:∀ {l:List o9} {x:o9},x ∈ l → a4a x < a2q l
 | [],_,h => by simp at h
 | y :: l,x,h => by
  rw [a2q]
  rcases List.mem_cons.1 h with rfl | h
  ·omega
  ·have:=b4u h; omega
theorem d6f:∀ (l m:List o9),a2q (l ++ m) = a2q l + a2q m
 | [],m => by simp [a2q]
 | x :: l,m => by simp only [List.cons_append,a2q,d6f l m]; omega

theorem b9q (b:List Str):∀ (xs:List Str) (i:Nat),b.drop i = xs → a3x b xs i = some (.go ())
 | [],i,_ => by rw [a3x]
 | x :: xs,i,h => by
  rw [a3x,b7k h,Option.bind_some,if_neg (by simp),b9q b xs (i + 1) (b0h h)]
theorem c5s (a:List Str):a8o a a = some true:=by
 unfold a8o
 rw [if_neg (by simp),b9q a a 0 (by simp)]
 rfl

/- JSON values: comparisons. -/
theorem b8i (rec:o9 → o9 → Option Bool) (b:List o9):∀ (xs:List o9) (i:Nat),(∀ x ∈ xs,rec x x = some true) → b.drop i = xs → a5k b rec xs i = some (.go ())
 | [],i,_,_ => by rw [a5k]
 | x :: xs,i,hr,h => by
  rw [a5k,b7k h,Option.bind_some,hr x (by simp),Option.bind_some,if_neg (by simp),b8i rec b xs (i + 1) (fun y hy => hr y (by simp [hy])) (b0h h)]
theorem c9l:∀ (k:Nat) (j:o9),a4a j < k → a6g k j j = some true
 | 0,j,h => by omega
 | k + 1,j,h => by
  rw [d2d] at h
  rw [a6g]
  unfold b4b b0k
  rw [if_neg (by simp),if_neg (by simp),if_neg (by simp),c5s,Option.bind_some,if_neg (by simp),if_neg (by simp),b8i (a6g k) j.Items j.Items 0 (fun y hy => c9l k y (by have:=b4u hy; omega)) (by simp)]
  simp
theorem d6g (j:o9) (h:a4a j < 2 ^ 61):a6g FUEL j j = some true:=c9l FUEL j (fuel_lt (by omega))
theorem p_eqJsonS (l:List o9) (h:a2q l < 2 ^ 61):b0k (a6g FUEL) l l = some true:=by
 unfold b0k
 rw [if_neg (by simp),b8i _ l l 0 (fun y hy => d6g y (by have:=b4u hy; omega)) (by simp)]
 rfl

theorem e5t (x:a1u):b6g x x = some true:=by
 unfold b6g
 simp [d7z]

theorem c5t (b:List a1u):∀ (xs:List a1u) (i:Nat),b.drop i = xs → a5z b xs i = some (.go ())
 | [],i,_ => by rw [a5z]
 | x :: xs,i,h => by
  rw [a5z,b7k h,Option.bind_some,e5t,Option.bind_some,if_neg (by simp),c5t b xs (i + 1) (b0h h)]
theorem e3y (a:List a1u):b4s a a = some true:=by
 unfold b4s
 rw [if_neg (by simp),c5t a a 0 (by simp)]
 rfl

theorem d8a (x:a1i):b1f x x = some true:=by
 unfold b1f
 simp [c5s,e3y]

def b6z (x:a0k):Nat:=x.T.length

theorem e3z (x:a0k) (n:Int) (h0:0 ≤ n) (h1:n ≤ 2 ^ 30) (ok:a7r x):∃ r,b4i x n = some r ∧ (r < 0 ∨ (0 ≤ r ∧ r = n - (b6z x:Nat))):=by
 unfold b4i b6z
 have k2:=ok.2.2
 simp only [okS,maxLen] at k2
 rw [a3m (by omega)]
 split
 ·exact ⟨_,rfl,.inl (by omega)⟩
 rename_i h12
 simp only [decide_eq_true_eq] at h12
 exact ⟨_,rfl,.inr ⟨by omega,by omega⟩⟩

def b3h:List a0k → Nat
 | [] => 0
 | x :: xs => b6z x + b3h xs
def a5p (l:List a0k):Nat:=l.length + b3h l
theorem c5u:∀ {l:List a0k} {x:a0k},x ∈ l → b6z x ≤ b3h l
 | [],_,h => by simp at h
 | y :: l,x,h => by
  rw [b3h]
  rcases List.mem_cons.1 h with rfl | h
  ·omega
  ·have:=c5u h; omega

theorem c3p:∀ (l:List a0k) (n:Int),0 ≤ n → n ≤ 2 ^ 30 → (∀ a ∈ l,(a7r) a) → a5b l n = some (.ret (-1)) ∨ ∃ r,a5b l n = some (.go r) ∧ r = n - (b3h l:Nat) ∧ 0 ≤ r
 | [],n,h0,h1,ok => .inr ⟨n,rfl,by simp [b3h],h0⟩
 | a :: l,n,h0,h1,ok => by
  rw [a5b]
  obtain ⟨r,e,hr⟩:=e3z a n h0 h1 (ok a (by simp))
  rw [e,Option.bind_some]
  split
  ·exact .inl rfl
  ·rename_i h
   simp only [decide_eq_true_eq] at h
   have hr:=hr.resolve_left h
   rcases c3p l r (by omega) (by omega) (fun x hx => ok x (by simp [hx])) with h2 | ⟨r',e',g2,g3⟩
   ·exact .inl h2
   ·exact .inr ⟨r',e',by rw [g2,hr.2]; simp only [b3h]; omega,g3⟩
theorem e0t (l:List a0k) (n:Int) (h0:0 ≤ n) (h1:n ≤ 2 ^ 30) (ok:(okL (a7r)) l):∃ r,b2p l n = some r ∧ (r < 0 ∨ (0 ≤ r ∧ r = n - (a5p l:Nat))):=by
 unfold b2p a5p
 have k1:=ok.1
 simp only [maxLen] at k1
 rw [a3m (by omega)]
 split
 ·exact ⟨_,rfl,.inl (by omega)⟩
 ·rename_i h
  simp only [decide_eq_true_eq] at h
  rcases c3p l (n - l.length) (by omega) (by omega) ok.2 with h2 | ⟨r',e',g1,g2⟩
  ·exact ⟨-1,by rw [h2]; rfl,.inl (by omega)⟩
  ·exact ⟨r',by rw [e']; rfl,.inr ⟨g2,by omega⟩⟩

def b0c:List (List a0k) → Nat
 | [] => 0
 | x :: xs => a5p x + b0c xs
def b0d (l:List (List a0k)):Nat:=l.length + b0c l
theorem b8j:∀ {l:List (List a0k)} {x:(List a0k)},x ∈ l → a5p x ≤ b0c l
 | [],_,h => by simp at h
 | y :: l,x,h => by
  rw [b0c]
  rcases List.mem_cons.1 h with rfl | h
  ·omega
  ·have:=b8j h; omega

theorem c1e:∀ (l:List (List a0k)) (n:Int),0 ≤ n → n ≤ 2 ^ 30 → (∀ a ∈ l,(okL (a7r)) a) → a4f l n = some (.ret (-1)) ∨ ∃ r,a4f l n = some (.go r) ∧ r = n - (b0c l:Nat) ∧ 0 ≤ r
 | [],n,h0,h1,ok => .inr ⟨n,rfl,by simp [b0c],h0⟩
 | a :: l,n,h0,h1,ok => by
  rw [a4f]
  obtain ⟨r,e,hr⟩:=e0t a n h0 h1 (ok a (by simp))
  rw [e,Option.bind_some]
  split
  ·exact .inl rfl
  ·rename_i h
   simp only [decide_eq_true_eq] at h
   have hr:=hr.resolve_left h
   rcases c1e l r (by omega) (by omega) (fun x hx => ok x (by simp [hx])) with h2 | ⟨r',e',g2,g3⟩
   ·exact .inl h2
   ·exact .inr ⟨r',e',by rw [g2,hr.2]; simp only [b0c]; omega,g3⟩
theorem d8b (l:List (List a0k)) (n:Int) (h0:0 ≤ n) (h1:n ≤ 2 ^ 30) (ok:(okL (okL (a7r))) l):∃ r,b0u l n = some r ∧ (r < 0 ∨ (0 ≤ r ∧ r = n - (b0d l:Nat))):=by
 unfold b0u b0d
 have k1:=ok.1
 simp only [maxLen] at k1
 rw [a3m (by omega)]
 split
 ·exact ⟨_,rfl,.inl (by omega)⟩
 ·rename_i h
  simp only [decide_eq_true_eq] at h
  rcases c1e l (n - l.length) (by omega) (by omega) ok.2 with h2 | ⟨r',e',g1,g2⟩
  ·exact ⟨-1,by rw [h2]; rfl,.inl (by omega)⟩
  ·exact ⟨r',by rw [e']; rfl,.inr ⟨g2,by omega⟩⟩

def b2g (x:a1u):Nat:=b0d x.Cells

def b0e:List a1u → Nat
 | [] => 0
 | x :: xs => b2g x + b0e xs
def b6j (l:List a1u):Nat:=l.length + b0e l
theorem c2a:∀ {l:List a1u} {x:a1u},x ∈ l → b2g x ≤ b0e l
 | [],_,h => by simp at h
 | y :: l,x,h => by
  rw [b0e]
  rcases List.mem_cons.1 h with rfl | h
  ·omega
  ·have:=c2a h; omega

def a9c (x:a1i):Nat:=a2i x.Columns + b6j x.Rows

theorem b9r:∀ (l:List Str) (n:Int),0 ≤ n → n ≤ 2 ^ 30 → (∀ a ∈ l,(okS) a) → a3u l n = some (.ret (-1)) ∨ ∃ r,a3u l n = some (.go r) ∧ r = n - (a3d l:Nat) ∧ 0 ≤ r
 | [],n,h0,h1,ok => .inr ⟨n,rfl,by simp [a3d],h0⟩
 | a :: l,n,h0,h1,ok => by
  rw [a3u]
  have k1:=ok a (by simp)
  simp only [okS,maxLen] at k1
  rw [a3m (by omega)]
  split
  ·exact .inl rfl
  ·rename_i h
   simp only [decide_eq_true_eq] at h
   rcases b9r l (n - a.length) (by omega) (by omega) (fun x hx => ok x (by simp [hx])) with h2 | ⟨r',e',g2,g3⟩
   ·exact .inl h2
   ·exact .inr ⟨r',e',by rw [g2]; simp only [a3d]; omega,g3⟩
theorem d6h (l:List Str) (n:Int) (h0:0 ≤ n) (h1:n ≤ 2 ^ 30) (ok:(okL (okS)) l):∃ r,a9v l n = some r ∧ (r < 0 ∨ (0 ≤ r ∧ r = n - (a2i l:Nat))):=by
 unfold a9v a2i
 have k1:=ok.1
 simp only [maxLen] at k1
 rw [a3m (by omega)]
 split
 ·exact ⟨_,rfl,.inl (by omega)⟩
 ·rename_i h
  simp only [decide_eq_true_eq] at h
  rcases b9r l (n - l.length) (by omega) (by omega) ok.2 with h2 | ⟨r',e',g1,g2⟩
  ·exact ⟨-1,by rw [h2]; rfl,.inl (by omega)⟩
  ·exact ⟨r',by rw [e']; rfl,.inr ⟨g2,by omega⟩⟩

theorem e5u (x:a1u) (n:Int) (h0:0 ≤ n) (h1:n ≤ 2 ^ 30) (ok:b5z x):∃ r,b6a x n = some r ∧ (r < 0 ∨ (0 ≤ r ∧ r = n - (b2g x:Nat))):=by
 unfold b6a b2g
 obtain ⟨r1,e1,hr1⟩:=d8b x.Cells n (by omega) (by omega) ok.2
 rw [e1,Option.bind_some]
 split
 ·exact ⟨_,rfl,.inl (by omega)⟩
 rename_i h11
 simp only [decide_eq_true_eq] at h11
 have hr1:=hr1.resolve_left h11
 exact ⟨_,rfl,.inr ⟨by omega,by omega⟩⟩

theorem c5v:∀ (l:List a1u) (n:Int),0 ≤ n → n ≤ 2 ^ 30 → (∀ a ∈ l,(b5z) a) → a5s l n = some (.ret (-1)) ∨ ∃ r,a5s l n = some (.go r) ∧ r = n - (b0e l:Nat) ∧ 0 ≤ r
 | [],n,h0,h1,ok => .inr ⟨n,rfl,by simp [b0e],h0⟩
 | a :: l,n,h0,h1,ok => by
  rw [a5s]
  obtain ⟨r,e,hr⟩:=e5u a n h0 h1 (ok a (by simp))
  rw [e,Option.bind_some]
  split
  ·exact .inl rfl
  ·rename_i h
   simp only [decide_eq_true_eq] at h
   have hr:=hr.resolve_left h
   rcases c5v l r (by omega) (by omega) (fun x hx => ok x (by simp [hx])) with h2 | ⟨r',e',g2,g3⟩
   ·exact .inl h2
   ·exact .inr ⟨r',e',by rw [g2,hr.2]; simp only [b0e]; omega,g3⟩
theorem e4a (l:List a1u) (n:Int) (h0:0 ≤ n) (h1:n ≤ 2 ^ 30) (ok:(okL (b5z)) l):∃ r,b4j l n = some r ∧ (r < 0 ∨ (0 ≤ r ∧ r = n - (b6j l:Nat))):=by
 unfold b4j b6j
 have k1:=ok.1
 simp only [maxLen] at k1
 rw [a3m (by omega)]
 split
 ·exact ⟨_,rfl,.inl (by omega)⟩
 ·rename_i h
  simp only [decide_eq_true_eq] at h
  rcases c5v l (n - l.length) (by omega) (by omega) ok.2 with h2 | ⟨r',e',g1,g2⟩
  ·exact ⟨-1,by rw [h2]; rfl,.inl (by omega)⟩
  ·exact ⟨r',by rw [e']; rfl,.inr ⟨g2,by omega⟩⟩

theorem d8c (x:a1i) (n:Int) (h0:0 ≤ n) (h1:n ≤ 2 ^ 30) (ok:b5q x):∃ r,b0v x n = some r ∧ (r < 0 ∨ (0 ≤ r ∧ r = n - (a9c x:Nat))):=by
 unfold b0v a9c
 obtain ⟨r3,e3,hr3⟩:=d6h x.Columns n (by omega) (by omega) ok.2.2.2.1
 rw [e3,Option.bind_some]
 split
 ·exact ⟨_,rfl,.inl (by omega)⟩
 rename_i h13
 simp only [decide_eq_true_eq] at h13
 have hr3:=hr3.resolve_left h13
 obtain ⟨r4,e4,hr4⟩:=e4a x.Rows r3 (by omega) (by omega) ok.2.2.2.2
 rw [e4,Option.bind_some]
 split
 ·exact ⟨_,rfl,.inl (by omega)⟩
 rename_i h14
 simp only [decide_eq_true_eq] at h14
 have hr4:=hr4.resolve_left h14
 exact ⟨_,rfl,.inr ⟨by omega,by omega⟩⟩

theorem e4c (x:a0k) (h:b6z x ≤ 2 ^ 30):b4k x = some x:=by
 unfold b6z at h
 unfold b4k
 rfl

theorem c3q:∀ (xs:List a0k) (i:Nat) (out:List a0k),(∀ a ∈ xs,b6z a ≤ 2 ^ 30) → i + xs.length = out.length → a5c xs i out = some (out.take i ++ xs)
 | [],i,out,_,h => by
  rw [a5c]; simp at h; rw [h]; simp
 | x :: xs,i,out,hx,h => by
  rw [a5c]
  have hi:i < out.length:=by simp at h; omega
  rw [e4c x (hx x (by simp)),Option.bind_some,if_pos hi,List.getElem?_eq_getElem hi,Option.bind_some,c3q xs (i + 1) _ (fun a ha => hx a (by simp [ha])) (by simp at h ⊢; omega),b2o _ _ _ _ hi]
theorem e0u (a:List a0k) (h:a5p a ≤ 2 ^ 30):b2q a = some a:=by
 unfold b2q
 rw [if_pos (by unfold a5p at h; omega),c3q a 0 _ (fun a ha => by have:=c5u ha; unfold a5p at h; omega) (by simp)]
 rfl

theorem c1f:∀ (xs:List (List a0k)) (i:Nat) (out:List (List a0k)),(∀ a ∈ xs,a5p a ≤ 2 ^ 30) → i + xs.length = out.length → a4g xs i out = some (out.take i ++ xs)
 | [],i,out,_,h => by
  rw [a4g]; simp at h; rw [h]; simp
 | x :: xs,i,out,hx,h => by
  rw [a4g]
  have hi:i < out.length:=by simp at h; omega
  rw [e0u x (hx x (by simp)),Option.bind_some,if_pos hi,List.getElem?_eq_getElem hi,Option.bind_some,c1f xs (i + 1) _ (fun a ha => hx a (by simp [ha])) (by simp at h ⊢; omega),b2o _ _ _ _ hi]
theorem d8d (a:List (List a0k)) (h:b0d a ≤ 2 ^ 30):b0w a = some a:=by
 unfold b0w
 rw [if_pos (by unfold b0d at h; omega),c1f a 0 _ (fun a ha => by have:=b8j ha; unfold b0d at h; omega) (by simp)]
 rfl

theorem b9s:∀ (xs:List Str) (i:Nat) (out:List Str),(∀ a ∈ xs,True) → i + xs.length = out.length → a3v xs i out = some (out.take i ++ xs)
 | [],i,out,_,h => by
  rw [a3v]; simp at h; rw [h]; simp
 | x :: xs,i,out,hx,h => by
  rw [a3v]
  have hi:i < out.length:=by simp at h; omega
  rw [if_pos hi,List.getElem?_eq_getElem hi,Option.bind_some,b9s xs (i + 1) _ (fun a ha => hx a (by simp [ha])) (by simp at h ⊢; omega),b2o _ _ _ _ hi]
theorem d6i (a:List Str) (h:a2i a ≤ 2 ^ 30):a9w a = some a:=by
 unfold a9w
 rw [if_pos (by unfold a2i at h; omega),b9s a 0 _ (fun _ _ => trivial) (by simp)]
 rfl

theorem e5v (x:a1u) (h:b2g x ≤ 2 ^ 30):b6b x = some x:=by
 unfold b2g at h
 unfold b6b
 simp only [d8d x.Cells (by omega),Option.bind_some]

theorem c5w:∀ (xs:List a1u) (i:Nat) (out:List a1u),(∀ a ∈ xs,b2g a ≤ 2 ^ 30) → i + xs.length = out.length → a5t xs i out = some (out.take i ++ xs)
 | [],i,out,_,h => by
  rw [a5t]; simp at h; rw [h]; simp
 | x :: xs,i,out,hx,h => by
  rw [a5t]
  have hi:i < out.length:=by simp at h; omega
  rw [e5v x (hx x (by simp)),Option.bind_some,if_pos hi,List.getElem?_eq_getElem hi,Option.bind_some,c5w xs (i + 1) _ (fun a ha => hx a (by simp [ha])) (by simp at h ⊢; omega),b2o _ _ _ _ hi]
theorem e4d (a:List a1u) (h:b6j a ≤ 2 ^ 30):b4l a = some a:=by
 unfold b4l
 rw [if_pos (by unfold b6j at h; omega),c5w a 0 _ (fun a ha => by have:=c2a ha; unfold b6j at h; omega) (by simp)]
 rfl

theorem d8e (x:a1i) (h:a9c x ≤ 2 ^ 30):a7h x = some x:=by
 unfold a9c at h
 unfold a7h
 simp only [d6i x.Columns (by omega),Option.bind_some,e4d x.Rows (by omega),Option.bind_some]
theorem c5x:∀ (l:List a0k),a8c l ≤ 8 * a5p l
 | [] => by simp [a8c]
 | x :: l => by
  have ih:=c5x l
  unfold a5p at ih ⊢
  simp only [a8c,b3h,List.length_cons,b6z]
  omega
theorem d6j (l:List a0k) (h:a5p l < 2 ^ 61):b1i l:=by
 unfold a5p at h
 unfold b1i
 omega

theorem c3r:∀ (l:List (List a0k)),a6y l ≤ 8 * b0d l
 | [] => by simp [a6y]
 | x :: l => by
  have ih:=c3r l
  unfold b0d at ih ⊢
  have h0:=c5x x
  simp only [a6y,b0c,List.length_cons]
  omega
theorem d3z (l:List (List a0k)) (h:b0d l < 2 ^ 61):b0n l:=by
 unfold b0d at h
 refine ⟨by omega,fun x hx => ?_⟩
 have:=b8j hx
 exact d6j _ (by omega)

theorem b7a:∀ (l:List Str),a1l l ≤ 8 * a2i l
 | [] => by simp [a1l]
 | x :: l => by
  have ih:=b7a l
  unfold a2i at ih ⊢
  simp only [a1l,a3d,List.length_cons]
  omega
theorem c1g (l:List Str) (h:a2i l < 2 ^ 61):a4s l:=by
 unfold a2i at h
 unfold a4s
 omega

mutual
theorem c9m:∀ (x:o9),b3f x ≤ 8 * a4a x
 | ⟨_,_,_,ks,is⟩ => by
  have h1:=b7a ks
  have h2:=c5y is
  simp only [b3f,a4a]
  omega
theorem c5y:∀ (l:List o9),a1z l ≤ 8 * a2q l
 | [] => by simp [a1z]
 | x :: l => by
  have h1:=c9m x
  have h2:=c5y l
  simp only [a1z,a2q]
  omega
end
mutual
theorem c2b:∀ (x:o9),a4a x < 2 ^ 61 → b8g x
 | ⟨_,_,_,ks,is⟩,h => by
  simp only [a4a] at h
  have hl:=b6r is
  simp only [b8g]
  exact ⟨c1g ks (by omega),by omega,b9t is (by omega)⟩
theorem b9t:∀ (l:List o9),a2q l < 2 ^ 61 → b1j l
 | [],_ => by simp [b1j]
 | x :: l,h => by
  simp only [a2q] at h
  simp only [b1j]
  exact ⟨c2b x (by omega),b9t l (by omega)⟩
end
theorem fit_wtJsonS (l:List o9) (h:a2q l < 2 ^ 61):b4t l:=⟨by have:=b6r l; omega,b9t l h⟩

theorem c9n:∀ (l:List a1u),b3g l ≤ 8 * b6j l
 | [] => by simp [b3g]
 | x :: l => by
  have ih:=c9n l
  unfold b6j at ih ⊢
  have h0:=c3r x.Cells
  simp only [b3g,b0e,List.length_cons,b2g]
  omega
theorem d8f (l:List a1u) (h:b6j l < 2 ^ 61):b5n l:=by
 unfold b6j at h
 refine ⟨by omega,fun x hx => ?_⟩
 have:=c2a hx
 simp only [b2g] at this
 exact d3z _ (by omega)

theorem d4a (x:a1i):b5r x ≤ 8 * a9c x:=by
 have h0:=b7a x.Columns
 have h1:=c9n x.Rows
 simp only [b5r,a9c]
 omega
theorem d4b (x:a1i) (h:a9c x < 2 ^ 61):c4x x:=by
 simp only [a9c] at h
 exact ⟨c1g _ (by omega),d8f _ (by omega)⟩
end Go.R
