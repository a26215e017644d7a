/- Weights, sizes, copies, comparisons: what the laws' own helpers give. -/
import Derived.Test.YthneidgpgfgecaaACHM
import Derived.Test.YthneidgpgfgecaaP0
set_option linter.all false
namespace Go.R
open Go
set_option linter.all false
theorem d7v (x:a0c):b2c x x = some true:=by
  unfold b2c
  simp

theorem b9v (b:List a0c):∀ (xs:List a0c) (i:Nat),b.drop i = xs → a4g b xs i = some (.go ())
  | [],i,_ => by rw [a4g]
  | x :: xs,i,h => by
    rw [a4g,b5x h,Option.bind_some,d7v,Option.bind_some,if_neg (by simp),b9v b xs (i + 1) (b1j h)]
theorem d4t (a:List a0c):b1c a a = some true:=by
  unfold b1c
  rw [if_neg (by simp),b9v a a 0 (by simp)]
  rfl

theorem b7n (b:List (List a0c)):∀ (xs:List (List a0c)) (i:Nat),b.drop i = xs → a3s b xs i = some (.go ())
  | [],i,_ => by rw [a3s]
  | x :: xs,i,h => by
    rw [a3s,b5x h,Option.bind_some,d4t,Option.bind_some,if_neg (by simp),b7n b xs (i + 1) (b1j h)]
theorem d2m (a:List (List a0c)):a9x a a = some true:=by
  unfold a9x
  rw [if_neg (by simp),b7n a a 0 (by simp)]
  rfl

theorem c8m (x:x8):b0j x x = some true:=by
  unfold b0j
  simp [d2m]

theorem d2n (x:a0a):a9y x x = some true:=by
  unfold a9y
  simp [c8m,c8m]

theorem b6f (b:List a0a):∀ (xs:List a0a) (i:Nat),b.drop i = xs → a3d b xs i = some (.go ())
  | [],i,_ => by rw [a3d]
  | x :: xs,i,h => by
    rw [a3d,b5x h,Option.bind_some,d2n,Option.bind_some,if_neg (by simp),b6f b xs (i + 1) (b1j h)]
theorem d0y (a:List a0a):a8m a a = some true:=by
  unfold a8m
  rw [if_neg (by simp),b6f a a 0 (by simp)]
  rfl

theorem c1w (b:List x8):∀ (xs:List x8) (i:Nat),b.drop i = xs → a4s b xs i = some (.go ())
  | [],i,_ => by rw [a4s]
  | x :: xs,i,h => by
    rw [a4s,b5x h,Option.bind_some,c8m,Option.bind_some,if_neg (by simp),c1w b xs (i + 1) (b1j h)]
theorem d7w (a:List x8):b2d a a = some true:=by
  unfold b2d
  rw [if_neg (by simp),c1w a a 0 (by simp)]
  rfl

theorem b9w (b:List (List x8)):∀ (xs:List (List x8)) (i:Nat),b.drop i = xs → a4h b xs i = some (.go ())
  | [],i,_ => by rw [a4h]
  | x :: xs,i,h => by
    rw [a4h,b5x h,Option.bind_some,d7w,Option.bind_some,if_neg (by simp),b9w b xs (i + 1) (b1j h)]
theorem d4u (a:List (List x8)):b1d a a = some true:=by
  unfold b1d
  rw [if_neg (by simp),b9w a a 0 (by simp)]
  rfl

theorem d4v (x:a0l):a6m x x = some true:=by
  unfold a6m
  simp [d4u]

def b6g (x:a0c):Nat:=x.T.length

theorem d7x (x:a0c) (n:Int) (h0:0 ≤ n) (h1:n ≤ 2 ^ 30) (ok:a7x x):∃ r,b1v x n = some r ∧ (r < 0 ∨ (0 ≤ r ∧ r = n - (b6g x:Nat))):=by
  unfold b1v b6g
  have k2:=ok.2.2
  simp only [okS,maxLen] at k2
  rw [a3l (by omega)]
  split
  · exact ⟨_,rfl,.inl (by omega)⟩
  rename_i h12
  simp only [decide_eq_true_eq] at h12
  exact ⟨_,rfl,.inr ⟨by omega,by omega⟩⟩

def b3j:List a0c → Nat
  | [] => 0
  | x :: xs => b6g x + b3j xs
def a9f (l:List a0c):Nat:=l.length + b3j l
theorem c1x:∀ {l:List a0c} {x:a0c},x ∈ l → b6g x ≤ b3j l
  | [],_,h => by simp at h
  | y :: l,x,h => by
    rw [b3j]
    rcases List.mem_cons.1 h with rfl | h
    · omega
    · have:=c1x h; omega

theorem b9x:∀ (l:List a0c) (n:Int),0 ≤ n → n ≤ 2 ^ 30 → (∀ a ∈ l,(a7x) a) → a4a l n = some (.ret (-1)) ∨ ∃ r,a4a l n = some (.go r) ∧ r = n - (b3j l:Nat) ∧ 0 ≤ r
  | [],n,h0,h1,ok => .inr ⟨n,rfl,by simp [b3j],h0⟩
  | a :: l,n,h0,h1,ok => by
    rw [a4a]
    obtain ⟨r,e,hr⟩:=d7x a n h0 h1 (ok a (by simp))
    rw [e,Option.bind_some]
    split
    · exact .inl rfl
    · rename_i h
      simp only [decide_eq_true_eq] at h
      have hr:=hr.resolve_left h
      rcases b9x l r (by omega) (by omega) (fun x hx => ok x (by simp [hx])) with h2 | ⟨r',e',g2,g3⟩
      · exact .inl h2
      · exact .inr ⟨r',e',by rw [g2,hr.2]; simp only [b3j]; omega,g3⟩
theorem d4w (l:List a0c) (n:Int) (h0:0 ≤ n) (h1:n ≤ 2 ^ 30) (ok:(okL (a7x)) l):∃ r,b0t l n = some r ∧ (r < 0 ∨ (0 ≤ r ∧ r = n - (a9f l:Nat))):=by
  unfold b0t a9f
  have k1:=ok.1
  simp only [maxLen] at k1
  rw [a3l (by omega)]
  split
  · exact ⟨_,rfl,.inl (by omega)⟩
  · rename_i h
    simp only [decide_eq_true_eq] at h
    rcases b9x l (n - l.length) (by omega) (by omega) ok.2 with h2 | ⟨r',e',g1,g2⟩
    · exact ⟨-1,by rw [h2]; rfl,.inl (by omega)⟩
    · exact ⟨r',by rw [e']; rfl,.inr ⟨g2,by omega⟩⟩

def b2e:List (List a0c) → Nat
  | [] => 0
  | x :: xs => a9f x + b2e xs
def a8t (l:List (List a0c)):Nat:=l.length + b2e l
theorem b2r:∀ {l:List (List a0c)} {x:(List a0c)},x ∈ l → a9f x ≤ b2e l
  | [],_,h => by simp at h
  | y :: l,x,h => by
    rw [b2e]
    rcases List.mem_cons.1 h with rfl | h
    · omega
    · have:=b2r h; omega

theorem b7o:∀ (l:List (List a0c)) (n:Int),0 ≤ n → n ≤ 2 ^ 30 → (∀ a ∈ l,(okL (a7x)) a) → a3m l n = some (.ret (-1)) ∨ ∃ r,a3m l n = some (.go r) ∧ r = n - (b2e l:Nat) ∧ 0 ≤ r
  | [],n,h0,h1,ok => .inr ⟨n,rfl,by simp [b2e],h0⟩
  | a :: l,n,h0,h1,ok => by
    rw [a3m]
    obtain ⟨r,e,hr⟩:=d4w a n h0 h1 (ok a (by simp))
    rw [e,Option.bind_some]
    split
    · exact .inl rfl
    · rename_i h
      simp only [decide_eq_true_eq] at h
      have hr:=hr.resolve_left h
      rcases b7o l r (by omega) (by omega) (fun x hx => ok x (by simp [hx])) with h2 | ⟨r',e',g2,g3⟩
      · exact .inl h2
      · exact .inr ⟨r',e',by rw [g2,hr.2]; simp only [b2e]; omega,g3⟩
theorem d2o (l:List (List a0c)) (n:Int) (h0:0 ≤ n) (h1:n ≤ 2 ^ 30) (ok:(okL (okL (a7x))) l):∃ r,a9p l n = some r ∧ (r < 0 ∨ (0 ≤ r ∧ r = n - (a8t l:Nat))):=by
  unfold a9p a8t
  have k1:=ok.1
  simp only [maxLen] at k1
  rw [a3l (by omega)]
  split
  · exact ⟨_,rfl,.inl (by omega)⟩
  · rename_i h
    simp only [decide_eq_true_eq] at h
    rcases b7o l (n - l.length) (by omega) (by omega) ok.2 with h2 | ⟨r',e',g1,g2⟩
    · exact ⟨-1,by rw [h2]; rfl,.inl (by omega)⟩
    · exact ⟨r',by rw [e']; rfl,.inr ⟨g2,by omega⟩⟩

def b1h (x:x8):Nat:=a8t x.Cells

def b0b (x:a0a):Nat:=b1h x.Old + b1h x.New

theorem c8n (x:x8) (n:Int) (h0:0 ≤ n) (h1:n ≤ 2 ^ 30) (ok:a9i x):∃ r,b0g x n = some r ∧ (r < 0 ∨ (0 ≤ r ∧ r = n - (b1h x:Nat))):=by
  unfold b0g b1h
  obtain ⟨r1,e1,hr1⟩:=d2o x.Cells n (by omega) (by omega) ok.2
  rw [e1,Option.bind_some]
  split
  · exact ⟨_,rfl,.inl (by omega)⟩
  rename_i h11
  simp only [decide_eq_true_eq] at h11
  have hr1:=hr1.resolve_left h11
  exact ⟨_,rfl,.inr ⟨by omega,by omega⟩⟩

theorem d2p (x:a0a) (n:Int) (h0:0 ≤ n) (h1:n ≤ 2 ^ 30) (ok:a8x x):∃ r,a9q x n = some r ∧ (r < 0 ∨ (0 ≤ r ∧ r = n - (b0b x:Nat))):=by
  unfold a9q b0b
  obtain ⟨r2,e2,hr2⟩:=c8n x.Old n (by omega) (by omega) ok.2.2.1
  rw [e2,Option.bind_some]
  split
  · exact ⟨_,rfl,.inl (by omega)⟩
  rename_i h12
  simp only [decide_eq_true_eq] at h12
  have hr2:=hr2.resolve_left h12
  obtain ⟨r3,e3,hr3⟩:=c8n x.New r2 (by omega) (by omega) ok.2.2.2
  rw [e3,Option.bind_some]
  split
  · exact ⟨_,rfl,.inl (by omega)⟩
  rename_i h13
  simp only [decide_eq_true_eq] at h13
  have hr3:=hr3.resolve_left h13
  exact ⟨_,rfl,.inr ⟨by omega,by omega⟩⟩

def a9g:List a0a → Nat
  | [] => 0
  | x :: xs => b0b x + a9g xs
def a7g (l:List a0a):Nat:=l.length + a9g l
theorem b3s:∀ {l:List a0a} {x:a0a},x ∈ l → b0b x ≤ a9g l
  | [],_,h => by simp at h
  | y :: l,x,h => by
    rw [a9g]
    rcases List.mem_cons.1 h with rfl | h
    · omega
    · have:=b3s h; omega

theorem b6h:∀ (l:List a0a) (n:Int),0 ≤ n → n ≤ 2 ^ 30 → (∀ a ∈ l,(a8x) a) → a2x l n = some (.ret (-1)) ∨ ∃ r,a2x l n = some (.go r) ∧ r = n - (a9g l:Nat) ∧ 0 ≤ r
  | [],n,h0,h1,ok => .inr ⟨n,rfl,by simp [a9g],h0⟩
  | a :: l,n,h0,h1,ok => by
    rw [a2x]
    obtain ⟨r,e,hr⟩:=d2p a n h0 h1 (ok a (by simp))
    rw [e,Option.bind_some]
    split
    · exact .inl rfl
    · rename_i h
      simp only [decide_eq_true_eq] at h
      have hr:=hr.resolve_left h
      rcases b6h l r (by omega) (by omega) (fun x hx => ok x (by simp [hx])) with h2 | ⟨r',e',g2,g3⟩
      · exact .inl h2
      · exact .inr ⟨r',e',by rw [g2,hr.2]; simp only [a9g]; omega,g3⟩
theorem d0z (l:List a0a) (n:Int) (h0:0 ≤ n) (h1:n ≤ 2 ^ 30) (ok:(okL (a8x)) l):∃ r,a8h l n = some r ∧ (r < 0 ∨ (0 ≤ r ∧ r = n - (a7g l:Nat))):=by
  unfold a8h a7g
  have k1:=ok.1
  simp only [maxLen] at k1
  rw [a3l (by omega)]
  split
  · exact ⟨_,rfl,.inl (by omega)⟩
  · rename_i h
    simp only [decide_eq_true_eq] at h
    rcases b6h l (n - l.length) (by omega) (by omega) ok.2 with h2 | ⟨r',e',g1,g2⟩
    · exact ⟨-1,by rw [h2]; rfl,.inl (by omega)⟩
    · exact ⟨r',by rw [e']; rfl,.inr ⟨g2,by omega⟩⟩

def b1f:List x8 → Nat
  | [] => 0
  | x :: xs => b1h x + b1f xs
def a5u (l:List x8):Nat:=l.length + b1f l
theorem b4r:∀ {l:List x8} {x:x8},x ∈ l → b1h x ≤ b1f l
  | [],_,h => by simp at h
  | y :: l,x,h => by
    rw [b1f]
    rcases List.mem_cons.1 h with rfl | h
    · omega
    · have:=b4r h; omega

theorem c1y:∀ (l:List x8) (n:Int),0 ≤ n → n ≤ 2 ^ 30 → (∀ a ∈ l,(a9i) a) → a4n l n = some (.ret (-1)) ∨ ∃ r,a4n l n = some (.go r) ∧ r = n - (b1f l:Nat) ∧ 0 ≤ r
  | [],n,h0,h1,ok => .inr ⟨n,rfl,by simp [b1f],h0⟩
  | a :: l,n,h0,h1,ok => by
    rw [a4n]
    obtain ⟨r,e,hr⟩:=c8n a n h0 h1 (ok a (by simp))
    rw [e,Option.bind_some]
    split
    · exact .inl rfl
    · rename_i h
      simp only [decide_eq_true_eq] at h
      have hr:=hr.resolve_left h
      rcases c1y l r (by omega) (by omega) (fun x hx => ok x (by simp [hx])) with h2 | ⟨r',e',g2,g3⟩
      · exact .inl h2
      · exact .inr ⟨r',e',by rw [g2,hr.2]; simp only [b1f]; omega,g3⟩
theorem d7y (l:List x8) (n:Int) (h0:0 ≤ n) (h1:n ≤ 2 ^ 30) (ok:(okL (a9i)) l):∃ r,b1w l n = some r ∧ (r < 0 ∨ (0 ≤ r ∧ r = n - (a5u l:Nat))):=by
  unfold b1w a5u
  have k1:=ok.1
  simp only [maxLen] at k1
  rw [a3l (by omega)]
  split
  · exact ⟨_,rfl,.inl (by omega)⟩
  · rename_i h
    simp only [decide_eq_true_eq] at h
    rcases c1y l (n - l.length) (by omega) (by omega) ok.2 with h2 | ⟨r',e',g1,g2⟩
    · exact ⟨-1,by rw [h2]; rfl,.inl (by omega)⟩
    · exact ⟨r',by rw [e']; rfl,.inr ⟨g2,by omega⟩⟩

def a7z:List (List x8) → Nat
  | [] => 0
  | x :: xs => a5u x + a7z xs
def a6t (l:List (List x8)):Nat:=l.length + a7z l
theorem b3k:∀ {l:List (List x8)} {x:(List x8)},x ∈ l → a5u x ≤ a7z l
  | [],_,h => by simp at h
  | y :: l,x,h => by
    rw [a7z]
    rcases List.mem_cons.1 h with rfl | h
    · omega
    · have:=b3k h; omega

theorem b9y:∀ (l:List (List x8)) (n:Int),0 ≤ n → n ≤ 2 ^ 30 → (∀ a ∈ l,(okL (a9i)) a) → a4b l n = some (.ret (-1)) ∨ ∃ r,a4b l n = some (.go r) ∧ r = n - (a7z l:Nat) ∧ 0 ≤ r
  | [],n,h0,h1,ok => .inr ⟨n,rfl,by simp [a7z],h0⟩
  | a :: l,n,h0,h1,ok => by
    rw [a4b]
    obtain ⟨r,e,hr⟩:=d7y a n h0 h1 (ok a (by simp))
    rw [e,Option.bind_some]
    split
    · exact .inl rfl
    · rename_i h
      simp only [decide_eq_true_eq] at h
      have hr:=hr.resolve_left h
      rcases b9y l r (by omega) (by omega) (fun x hx => ok x (by simp [hx])) with h2 | ⟨r',e',g2,g3⟩
      · exact .inl h2
      · exact .inr ⟨r',e',by rw [g2,hr.2]; simp only [a7z]; omega,g3⟩
theorem d4x (l:List (List x8)) (n:Int) (h0:0 ≤ n) (h1:n ≤ 2 ^ 30) (ok:(okL (okL (a9i))) l):∃ r,b0u l n = some r ∧ (r < 0 ∨ (0 ≤ r ∧ r = n - (a6t l:Nat))):=by
  unfold b0u a6t
  have k1:=ok.1
  simp only [maxLen] at k1
  rw [a3l (by omega)]
  split
  · exact ⟨_,rfl,.inl (by omega)⟩
  · rename_i h
    simp only [decide_eq_true_eq] at h
    rcases b9y l (n - l.length) (by omega) (by omega) ok.2 with h2 | ⟨r',e',g1,g2⟩
    · exact ⟨-1,by rw [h2]; rfl,.inl (by omega)⟩
    · exact ⟨r',by rw [e']; rfl,.inr ⟨g2,by omega⟩⟩

def a2p (x:a0l):Nat:=a6t x.Tables

theorem d4y (x:a0l) (n:Int) (h0:0 ≤ n) (h1:n ≤ 2 ^ 30) (ok:b9n x):∃ r,b0v x n = some r ∧ (r < 0 ∨ (0 ≤ r ∧ r = n - (a2p x:Nat))):=by
  unfold b0v a2p
  obtain ⟨r0,e0,hr0⟩:=d4x x.Tables n (by omega) (by omega) ok.1
  rw [e0,Option.bind_some]
  split
  · exact ⟨_,rfl,.inl (by omega)⟩
  rename_i h10
  simp only [decide_eq_true_eq] at h10
  have hr0:=hr0.resolve_left h10
  exact ⟨_,rfl,.inr ⟨by omega,by omega⟩⟩

theorem d7z (x:a0c) (h:b6g x ≤ 2 ^ 30):b1x x = some x:=by
  unfold b6g at h
  unfold b1x
  rfl

theorem b9z:∀ (xs:List a0c) (i:Nat) (out:List a0c),(∀ a ∈ xs,b6g a ≤ 2 ^ 30) → i + xs.length = out.length → a4c xs i out = some (out.take i ++ xs)
  | [],i,out,_,h => by
    rw [a4c]; simp at h; rw [h]; simp
  | x :: xs,i,out,hx,h => by
    rw [a4c]
    have hi:i < out.length:=by simp at h; omega
    rw [d7z x (hx x (by simp)),Option.bind_some,if_pos hi,List.getElem?_eq_getElem hi,Option.bind_some,b9z xs (i + 1) _ (fun a ha => hx a (by simp [ha])) (by simp at h ⊢; omega),a9o _ _ _ _ hi]
theorem d4z (a:List a0c) (h:a9f a ≤ 2 ^ 30):b0w a = some a:=by
  unfold b0w
  rw [if_pos (by unfold a9f at h; omega),b9z a 0 _ (fun a ha => by have:=c1x ha; unfold a9f at h; omega) (by simp)]
  rfl

theorem b7p:∀ (xs:List (List a0c)) (i:Nat) (out:List (List a0c)),(∀ a ∈ xs,a9f a ≤ 2 ^ 30) → i + xs.length = out.length → a3n xs i out = some (out.take i ++ xs)
  | [],i,out,_,h => by
    rw [a3n]; simp at h; rw [h]; simp
  | x :: xs,i,out,hx,h => by
    rw [a3n]
    have hi:i < out.length:=by simp at h; omega
    rw [d4z x (hx x (by simp)),Option.bind_some,if_pos hi,List.getElem?_eq_getElem hi,Option.bind_some,b7p xs (i + 1) _ (fun a ha => hx a (by simp [ha])) (by simp at h ⊢; omega),a9o _ _ _ _ hi]
theorem d2q (a:List (List a0c)) (h:a8t a ≤ 2 ^ 30):a9r a = some a:=by
  unfold a9r
  rw [if_pos (by unfold a8t at h; omega),b7p a 0 _ (fun a ha => by have:=b2r ha; unfold a8t at h; omega) (by simp)]
  rfl

theorem c8o (x:x8) (h:b1h x ≤ 2 ^ 30):b0h x = some x:=by
  unfold b1h at h
  unfold b0h
  simp only [d2q x.Cells (by omega),Option.bind_some]

theorem d2r (x:a0a) (h:b0b x ≤ 2 ^ 30):a9s x = some x:=by
  unfold b0b at h
  unfold a9s
  simp only [c8o x.Old (by omega),Option.bind_some,c8o x.New (by omega),Option.bind_some]

theorem b6i:∀ (xs:List a0a) (i:Nat) (out:List a0a),(∀ a ∈ xs,b0b a ≤ 2 ^ 30) → i + xs.length = out.length → a2y xs i out = some (out.take i ++ xs)
  | [],i,out,_,h => by
    rw [a2y]; simp at h; rw [h]; simp
  | x :: xs,i,out,hx,h => by
    rw [a2y]
    have hi:i < out.length:=by simp at h; omega
    rw [d2r x (hx x (by simp)),Option.bind_some,if_pos hi,List.getElem?_eq_getElem hi,Option.bind_some,b6i xs (i + 1) _ (fun a ha => hx a (by simp [ha])) (by simp at h ⊢; omega),a9o _ _ _ _ hi]
theorem d1a (a:List a0a) (h:a7g a ≤ 2 ^ 30):a5j a = some a:=by
  unfold a5j
  rw [if_pos (by unfold a7g at h; omega),b6i a 0 _ (fun a ha => by have:=b3s ha; unfold a7g at h; omega) (by simp)]
  rfl

theorem c1z:∀ (xs:List x8) (i:Nat) (out:List x8),(∀ a ∈ xs,b1h a ≤ 2 ^ 30) → i + xs.length = out.length → a4o xs i out = some (out.take i ++ xs)
  | [],i,out,_,h => by
    rw [a4o]; simp at h; rw [h]; simp
  | x :: xs,i,out,hx,h => by
    rw [a4o]
    have hi:i < out.length:=by simp at h; omega
    rw [c8o x (hx x (by simp)),Option.bind_some,if_pos hi,List.getElem?_eq_getElem hi,Option.bind_some,c1z xs (i + 1) _ (fun a ha => hx a (by simp [ha])) (by simp at h ⊢; omega),a9o _ _ _ _ hi]
theorem d8a (a:List x8) (h:a5u a ≤ 2 ^ 30):b1y a = some a:=by
  unfold b1y
  rw [if_pos (by unfold a5u at h; omega),c1z a 0 _ (fun a ha => by have:=b4r ha; unfold a5u at h; omega) (by simp)]
  rfl

theorem c0c:∀ (xs:List (List x8)) (i:Nat) (out:List (List x8)),(∀ a ∈ xs,a5u a ≤ 2 ^ 30) → i + xs.length = out.length → a4d xs i out = some (out.take i ++ xs)
  | [],i,out,_,h => by
    rw [a4d]; simp at h; rw [h]; simp
  | x :: xs,i,out,hx,h => by
    rw [a4d]
    have hi:i < out.length:=by simp at h; omega
    rw [d8a x (hx x (by simp)),Option.bind_some,if_pos hi,List.getElem?_eq_getElem hi,Option.bind_some,c0c xs (i + 1) _ (fun a ha => hx a (by simp [ha])) (by simp at h ⊢; omega),a9o _ _ _ _ hi]
theorem d5a (a:List (List x8)) (h:a6t a ≤ 2 ^ 30):b0x a = some a:=by
  unfold b0x
  rw [if_pos (by unfold a6t at h; omega),c0c a 0 _ (fun a ha => by have:=b3k ha; unfold a6t at h; omega) (by simp)]
  rfl

theorem d5b (x:a0l) (h:a2p x ≤ 2 ^ 30):a6j x = some x:=by
  unfold a2p at h
  unfold a6j
  simp only [d5a x.Tables (by omega),Option.bind_some]
theorem c2a:∀ (l:List a0c),a3w l ≤ 8 * a9f l
  | [] => by simp [a3w]
  | x :: l => by
    have ih:=c2a l
    unfold a9f at ih ⊢
    simp only [a3w,b3j,List.length_cons,b6g]
    omega
theorem d1b (l:List a0c) (h:a9f l < 2 ^ 61):a6n l:=by
  unfold a9f at h
  unfold a6n
  omega

theorem b2s:∀ (l:List (List a0c)),a1e l ≤ 8 * a8t l
  | [] => by simp [a1e]
  | x :: l => by
    have ih:=b2s l
    unfold a8t at ih ⊢
    have h0:=c2a x
    simp only [a1e,b2e,List.length_cons]
    omega
theorem b4s (l:List (List a0c)) (h:a8t l < 2 ^ 61):a5p l:=by
  unfold a8t at h
  refine ⟨by omega,fun x hx => ?_⟩
  have:=b2r hx
  exact d1b _ (by omega)

theorem b7q:∀ (l:List a0a),a6e l ≤ 8 * a7g l
  | [] => by simp [a6e]
  | x :: l => by
    have ih:=b7q l
    unfold a7g at ih ⊢
    have h0:=b2s x.Old.Cells
    have h1:=b2s x.New.Cells
    simp only [a6e,a9g,List.length_cons,b0b,b1h]
    omega
theorem c6j (l:List a0a) (h:a7g l < 2 ^ 61):a8r l:=by
  unfold a7g at h
  refine ⟨by omega,fun x hx => ?_⟩
  have:=b3s hx
  simp only [b0b,b1h] at this
  exact ⟨b4s _ (by omega),b4s _ (by omega)⟩

theorem c5c:∀ (l:List x8),a4y l ≤ 8 * a5u l
  | [] => by simp [a4y]
  | x :: l => by
    have ih:=c5c l
    unfold a5u at ih ⊢
    have h0:=b2s x.Cells
    simp only [a4y,b1f,List.length_cons,b1h]
    omega
theorem d2s (l:List x8) (h:a5u l < 2 ^ 61):b0e l:=by
  unfold a5u at h
  refine ⟨by omega,fun x hx => ?_⟩
  have:=b4r hx
  simp only [b1h] at this
  exact b4s _ (by omega)

theorem c2b:∀ (l:List (List x8)),a5a l ≤ 8 * a6t l
  | [] => by simp [a5a]
  | x :: l => by
    have ih:=c2b l
    unfold a6t at ih ⊢
    have h0:=c5c x
    simp only [a5a,a7z,List.length_cons]
    omega
theorem d1c (l:List (List x8)) (h:a6t l < 2 ^ 61):a7s l:=by
  unfold a6t at h
  refine ⟨by omega,fun x hx => ?_⟩
  have:=b3k hx
  exact d2s _ (by omega)

theorem c2c (x:a0l):a8s x ≤ 8 * a2p x:=by
  have h0:=c2b x.Tables
  simp only [a8s,a2p]
  omega
theorem b6j (x:a0l) (h:a2p x < 2 ^ 61):b6e x:=by
  simp only [a2p] at h
  exact d1c _ (by omega)
end Go.R
