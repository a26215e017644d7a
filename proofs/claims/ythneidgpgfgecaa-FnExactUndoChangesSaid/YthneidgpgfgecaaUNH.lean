/- Weights, sizes, copies, comparisons: what the laws' own helpers give. -/
import Derived.Test.YthneidgpgfgecaaUNM
import Derived.Test.YthneidgpgfgecaaP0
set_option linter.all false
namespace Go.R
open Go
set_option linter.all false
theorem d8e (x:a0c):b2c x x = some true:=by
  unfold b2c
  simp

theorem b9w (b:List a0c):∀ (xs:List a0c) (i:Nat),b.drop i = xs → a4g b xs i = some (.go ())
  | [],i,_ => by rw [a4g]
  | x :: xs,i,h => by
    rw [a4g,b5y h,Option.bind_some,d8e,Option.bind_some,if_neg (by simp),b9w b xs (i + 1) (b1j h)]
theorem d5e (a:List a0c):b1d a a = some true:=by
  unfold b1d
  rw [if_neg (by simp),b9w a a 0 (by simp)]
  rfl

theorem b7n (b:List (List a0c)):∀ (xs:List (List a0c)) (i:Nat),b.drop i = xs → a3s b xs i = some (.go ())
  | [],i,_ => by rw [a3s]
  | x :: xs,i,h => by
    rw [a3s,b5y h,Option.bind_some,d5e,Option.bind_some,if_neg (by simp),b7n b xs (i + 1) (b1j h)]
theorem d2u (a:List (List a0c)):a9w a a = some true:=by
  unfold a9w
  rw [if_neg (by simp),b7n a a 0 (by simp)]
  rfl

theorem c8t (x:x8):b0i x x = some true:=by
  unfold b0i
  simp [d2u]

theorem d2v (x:y9):a9x x x = some true:=by
  unfold a9x
  simp [c8t,c8t]

theorem b6g (b:List y9):∀ (xs:List y9) (i:Nat),b.drop i = xs → a3c b xs i = some (.go ())
  | [],i,_ => by rw [a3c]
  | x :: xs,i,h => by
    rw [a3c,b5y h,Option.bind_some,d2v,Option.bind_some,if_neg (by simp),b6g b xs (i + 1) (b1j h)]
theorem d1g (a:List y9):a8l a a = some true:=by
  unfold a8l
  rw [if_neg (by simp),b6g a a 0 (by simp)]
  rfl

theorem c1z (b:List x8):∀ (xs:List x8) (i:Nat),b.drop i = xs → a4r b xs i = some (.go ())
  | [],i,_ => by rw [a4r]
  | x :: xs,i,h => by
    rw [a4r,b5y h,Option.bind_some,c8t,Option.bind_some,if_neg (by simp),c1z b xs (i + 1) (b1j h)]
theorem d8f (a:List x8):b2d a a = some true:=by
  unfold b2d
  rw [if_neg (by simp),c1z a a 0 (by simp)]
  rfl

theorem b9x (b:List (List x8)):∀ (xs:List (List x8)) (i:Nat),b.drop i = xs → a4h b xs i = some (.go ())
  | [],i,_ => by rw [a4h]
  | x :: xs,i,h => by
    rw [a4h,b5y h,Option.bind_some,d8f,Option.bind_some,if_neg (by simp),b9x b xs (i + 1) (b1j h)]
theorem d5f (a:List (List x8)):b1e a a = some true:=by
  unfold b1e
  rw [if_neg (by simp),b9x a a 0 (by simp)]
  rfl

theorem d5g (x:a0l):a6m x x = some true:=by
  unfold a6m
  simp [d5f]

def b6h (x:a0c):Nat:=x.T.length

theorem d8g (x:a0c) (n:Int) (h0:0 ≤ n) (h1:n ≤ 2 ^ 30) (ok:a7x x):∃ r,b1v x n = some r ∧ (r < 0 ∨ (0 ≤ r ∧ r = n - (b6h x:Nat))):=by
  unfold b1v b6h
  have k2:=ok.2.2
  simp only [okS,maxLen] at k2
  rw [a3i (by omega)]
  split
  · exact ⟨_,rfl,.inl (by omega)⟩
  rename_i h12
  simp only [decide_eq_true_eq] at h12
  exact ⟨_,rfl,.inr ⟨by omega,by omega⟩⟩

def b3k:List a0c → Nat
  | [] => 0
  | x :: xs => b6h x + b3k xs
def a9d (l:List a0c):Nat:=l.length + b3k l
theorem c2a:∀ {l:List a0c} {x:a0c},x ∈ l → b6h x ≤ b3k l
  | [],_,h => by simp at h
  | y :: l,x,h => by
    rw [b3k]
    rcases List.mem_cons.1 h with rfl | h
    · omega
    · have:=c2a h; omega

theorem b9y:∀ (l:List a0c) (n:Int),0 ≤ n → n ≤ 2 ^ 30 → (∀ a ∈ l,(a7x) a) → a4a l n = some (.ret (-1)) ∨ ∃ r,a4a l n = some (.go r) ∧ r = n - (b3k l:Nat) ∧ 0 ≤ r
  | [],n,h0,h1,ok => .inr ⟨n,rfl,by simp [b3k],h0⟩
  | a :: l,n,h0,h1,ok => by
    rw [a4a]
    obtain ⟨r,e,hr⟩:=d8g a n h0 h1 (ok a (by simp))
    rw [e,Option.bind_some]
    split
    · exact .inl rfl
    · rename_i h
      simp only [decide_eq_true_eq] at h
      have hr:=hr.resolve_left h
      rcases b9y l r (by omega) (by omega) (fun x hx => ok x (by simp [hx])) with h2 | ⟨r',e',g2,g3⟩
      · exact .inl h2
      · exact .inr ⟨r',e',by rw [g2,hr.2]; simp only [b3k]; omega,g3⟩
theorem d5h (l:List a0c) (n:Int) (h0:0 ≤ n) (h1:n ≤ 2 ^ 30) (ok:(okL (a7x)) l):∃ r,b0u l n = some r ∧ (r < 0 ∨ (0 ≤ r ∧ r = n - (a9d l:Nat))):=by
  unfold b0u a9d
  have k1:=ok.1
  simp only [maxLen] at k1
  rw [a3i (by omega)]
  split
  · exact ⟨_,rfl,.inl (by omega)⟩
  · rename_i h
    simp only [decide_eq_true_eq] at h
    rcases b9y l (n - l.length) (by omega) (by omega) ok.2 with h2 | ⟨r',e',g1,g2⟩
    · exact ⟨-1,by rw [h2]; rfl,.inl (by omega)⟩
    · exact ⟨r',by rw [e']; rfl,.inr ⟨g2,by omega⟩⟩

def b2e:List (List a0c) → Nat
  | [] => 0
  | x :: xs => a9d x + b2e xs
def a8s (l:List (List a0c)):Nat:=l.length + b2e l
theorem b2q:∀ {l:List (List a0c)} {x:(List a0c)},x ∈ l → a9d x ≤ b2e l
  | [],_,h => by simp at h
  | y :: l,x,h => by
    rw [b2e]
    rcases List.mem_cons.1 h with rfl | h
    · omega
    · have:=b2q h; omega

theorem b7o:∀ (l:List (List a0c)) (n:Int),0 ≤ n → n ≤ 2 ^ 30 → (∀ a ∈ l,(okL (a7x)) a) → a3m l n = some (.ret (-1)) ∨ ∃ r,a3m l n = some (.go r) ∧ r = n - (b2e l:Nat) ∧ 0 ≤ r
  | [],n,h0,h1,ok => .inr ⟨n,rfl,by simp [b2e],h0⟩
  | a :: l,n,h0,h1,ok => by
    rw [a3m]
    obtain ⟨r,e,hr⟩:=d5h a n h0 h1 (ok a (by simp))
    rw [e,Option.bind_some]
    split
    · exact .inl rfl
    · rename_i h
      simp only [decide_eq_true_eq] at h
      have hr:=hr.resolve_left h
      rcases b7o l r (by omega) (by omega) (fun x hx => ok x (by simp [hx])) with h2 | ⟨r',e',g2,g3⟩
      · exact .inl h2
      · exact .inr ⟨r',e',by rw [g2,hr.2]; simp only [b2e]; omega,g3⟩
theorem d2w (l:List (List a0c)) (n:Int) (h0:0 ≤ n) (h1:n ≤ 2 ^ 30) (ok:(okL (okL (a7x))) l):∃ r,a9o l n = some r ∧ (r < 0 ∨ (0 ≤ r ∧ r = n - (a8s l:Nat))):=by
  unfold a9o a8s
  have k1:=ok.1
  simp only [maxLen] at k1
  rw [a3i (by omega)]
  split
  · exact ⟨_,rfl,.inl (by omega)⟩
  · rename_i h
    simp only [decide_eq_true_eq] at h
    rcases b7o l (n - l.length) (by omega) (by omega) ok.2 with h2 | ⟨r',e',g1,g2⟩
    · exact ⟨-1,by rw [h2]; rfl,.inl (by omega)⟩
    · exact ⟨r',by rw [e']; rfl,.inr ⟨g2,by omega⟩⟩

def b1h (x:x8):Nat:=a8s x.Cells

def b0a (x:y9):Nat:=b1h x.Old + b1h x.New

theorem c8u (x:x8) (n:Int) (h0:0 ≤ n) (h1:n ≤ 2 ^ 30) (ok:a9h x):∃ r,b0f x n = some r ∧ (r < 0 ∨ (0 ≤ r ∧ r = n - (b1h x:Nat))):=by
  unfold b0f b1h
  obtain ⟨r1,e1,hr1⟩:=d2w x.Cells n (by omega) (by omega) ok.2
  rw [e1,Option.bind_some]
  split
  · exact ⟨_,rfl,.inl (by omega)⟩
  rename_i h11
  simp only [decide_eq_true_eq] at h11
  have hr1:=hr1.resolve_left h11
  exact ⟨_,rfl,.inr ⟨by omega,by omega⟩⟩

theorem d2x (x:y9) (n:Int) (h0:0 ≤ n) (h1:n ≤ 2 ^ 30) (ok:a8v x):∃ r,a9p x n = some r ∧ (r < 0 ∨ (0 ≤ r ∧ r = n - (b0a x:Nat))):=by
  unfold a9p b0a
  obtain ⟨r2,e2,hr2⟩:=c8u x.Old n (by omega) (by omega) ok.2.2.1
  rw [e2,Option.bind_some]
  split
  · exact ⟨_,rfl,.inl (by omega)⟩
  rename_i h12
  simp only [decide_eq_true_eq] at h12
  have hr2:=hr2.resolve_left h12
  obtain ⟨r3,e3,hr3⟩:=c8u x.New r2 (by omega) (by omega) ok.2.2.2
  rw [e3,Option.bind_some]
  split
  · exact ⟨_,rfl,.inl (by omega)⟩
  rename_i h13
  simp only [decide_eq_true_eq] at h13
  have hr3:=hr3.resolve_left h13
  exact ⟨_,rfl,.inr ⟨by omega,by omega⟩⟩

def a9e:List y9 → Nat
  | [] => 0
  | x :: xs => b0a x + a9e xs
def a6a (l:List y9):Nat:=l.length + a9e l
theorem b3s:∀ {l:List y9} {x:y9},x ∈ l → b0a x ≤ a9e l
  | [],_,h => by simp at h
  | y :: l,x,h => by
    rw [a9e]
    rcases List.mem_cons.1 h with rfl | h
    · omega
    · have:=b3s h; omega

theorem b6i:∀ (l:List y9) (n:Int),0 ≤ n → n ≤ 2 ^ 30 → (∀ a ∈ l,(a8v) a) → a2w l n = some (.ret (-1)) ∨ ∃ r,a2w l n = some (.go r) ∧ r = n - (a9e l:Nat) ∧ 0 ≤ r
  | [],n,h0,h1,ok => .inr ⟨n,rfl,by simp [a9e],h0⟩
  | a :: l,n,h0,h1,ok => by
    rw [a2w]
    obtain ⟨r,e,hr⟩:=d2x a n h0 h1 (ok a (by simp))
    rw [e,Option.bind_some]
    split
    · exact .inl rfl
    · rename_i h
      simp only [decide_eq_true_eq] at h
      have hr:=hr.resolve_left h
      rcases b6i l r (by omega) (by omega) (fun x hx => ok x (by simp [hx])) with h2 | ⟨r',e',g2,g3⟩
      · exact .inl h2
      · exact .inr ⟨r',e',by rw [g2,hr.2]; simp only [a9e]; omega,g3⟩
theorem d1h (l:List y9) (n:Int) (h0:0 ≤ n) (h1:n ≤ 2 ^ 30) (ok:(okL (a8v)) l):∃ r,a8g l n = some r ∧ (r < 0 ∨ (0 ≤ r ∧ r = n - (a6a l:Nat))):=by
  unfold a8g a6a
  have k1:=ok.1
  simp only [maxLen] at k1
  rw [a3i (by omega)]
  split
  · exact ⟨_,rfl,.inl (by omega)⟩
  · rename_i h
    simp only [decide_eq_true_eq] at h
    rcases b6i l (n - l.length) (by omega) (by omega) ok.2 with h2 | ⟨r',e',g1,g2⟩
    · exact ⟨-1,by rw [h2]; rfl,.inl (by omega)⟩
    · exact ⟨r',by rw [e']; rfl,.inr ⟨g2,by omega⟩⟩

def b1g:List x8 → Nat
  | [] => 0
  | x :: xs => b1h x + b1g xs
def a5s (l:List x8):Nat:=l.length + b1g l
theorem b4q:∀ {l:List x8} {x:x8},x ∈ l → b1h x ≤ b1g l
  | [],_,h => by simp at h
  | y :: l,x,h => by
    rw [b1g]
    rcases List.mem_cons.1 h with rfl | h
    · omega
    · have:=b4q h; omega

theorem c2b:∀ (l:List x8) (n:Int),0 ≤ n → n ≤ 2 ^ 30 → (∀ a ∈ l,(a9h) a) → a4m l n = some (.ret (-1)) ∨ ∃ r,a4m l n = some (.go r) ∧ r = n - (b1g l:Nat) ∧ 0 ≤ r
  | [],n,h0,h1,ok => .inr ⟨n,rfl,by simp [b1g],h0⟩
  | a :: l,n,h0,h1,ok => by
    rw [a4m]
    obtain ⟨r,e,hr⟩:=c8u a n h0 h1 (ok a (by simp))
    rw [e,Option.bind_some]
    split
    · exact .inl rfl
    · rename_i h
      simp only [decide_eq_true_eq] at h
      have hr:=hr.resolve_left h
      rcases c2b l r (by omega) (by omega) (fun x hx => ok x (by simp [hx])) with h2 | ⟨r',e',g2,g3⟩
      · exact .inl h2
      · exact .inr ⟨r',e',by rw [g2,hr.2]; simp only [b1g]; omega,g3⟩
theorem d8h (l:List x8) (n:Int) (h0:0 ≤ n) (h1:n ≤ 2 ^ 30) (ok:(okL (a9h)) l):∃ r,b1w l n = some r ∧ (r < 0 ∨ (0 ≤ r ∧ r = n - (a5s l:Nat))):=by
  unfold b1w a5s
  have k1:=ok.1
  simp only [maxLen] at k1
  rw [a3i (by omega)]
  split
  · exact ⟨_,rfl,.inl (by omega)⟩
  · rename_i h
    simp only [decide_eq_true_eq] at h
    rcases c2b l (n - l.length) (by omega) (by omega) ok.2 with h2 | ⟨r',e',g1,g2⟩
    · exact ⟨-1,by rw [h2]; rfl,.inl (by omega)⟩
    · exact ⟨r',by rw [e']; rfl,.inr ⟨g2,by omega⟩⟩

def a7z:List (List x8) → Nat
  | [] => 0
  | x :: xs => a5s x + a7z xs
def a6t (l:List (List x8)):Nat:=l.length + a7z l
theorem b3l:∀ {l:List (List x8)} {x:(List x8)},x ∈ l → a5s x ≤ a7z l
  | [],_,h => by simp at h
  | y :: l,x,h => by
    rw [a7z]
    rcases List.mem_cons.1 h with rfl | h
    · omega
    · have:=b3l h; omega

theorem b9z:∀ (l:List (List x8)) (n:Int),0 ≤ n → n ≤ 2 ^ 30 → (∀ a ∈ l,(okL (a9h)) a) → a4b l n = some (.ret (-1)) ∨ ∃ r,a4b l n = some (.go r) ∧ r = n - (a7z l:Nat) ∧ 0 ≤ r
  | [],n,h0,h1,ok => .inr ⟨n,rfl,by simp [a7z],h0⟩
  | a :: l,n,h0,h1,ok => by
    rw [a4b]
    obtain ⟨r,e,hr⟩:=d8h a n h0 h1 (ok a (by simp))
    rw [e,Option.bind_some]
    split
    · exact .inl rfl
    · rename_i h
      simp only [decide_eq_true_eq] at h
      have hr:=hr.resolve_left h
      rcases b9z l r (by omega) (by omega) (fun x hx => ok x (by simp [hx])) with h2 | ⟨r',e',g2,g3⟩
      · exact .inl h2
      · exact .inr ⟨r',e',by rw [g2,hr.2]; simp only [a7z]; omega,g3⟩
theorem d5i (l:List (List x8)) (n:Int) (h0:0 ≤ n) (h1:n ≤ 2 ^ 30) (ok:(okL (okL (a9h))) l):∃ r,b0v l n = some r ∧ (r < 0 ∨ (0 ≤ r ∧ r = n - (a6t l:Nat))):=by
  unfold b0v a6t
  have k1:=ok.1
  simp only [maxLen] at k1
  rw [a3i (by omega)]
  split
  · exact ⟨_,rfl,.inl (by omega)⟩
  · rename_i h
    simp only [decide_eq_true_eq] at h
    rcases b9z l (n - l.length) (by omega) (by omega) ok.2 with h2 | ⟨r',e',g1,g2⟩
    · exact ⟨-1,by rw [h2]; rfl,.inl (by omega)⟩
    · exact ⟨r',by rw [e']; rfl,.inr ⟨g2,by omega⟩⟩

def a2k (x:a0l):Nat:=a6t x.Tables

theorem d5j (x:a0l) (n:Int) (h0:0 ≤ n) (h1:n ≤ 2 ^ 30) (ok:b9o x):∃ r,b0w x n = some r ∧ (r < 0 ∨ (0 ≤ r ∧ r = n - (a2k x:Nat))):=by
  unfold b0w a2k
  obtain ⟨r0,e0,hr0⟩:=d5i x.Tables n (by omega) (by omega) ok.1
  rw [e0,Option.bind_some]
  split
  · exact ⟨_,rfl,.inl (by omega)⟩
  rename_i h10
  simp only [decide_eq_true_eq] at h10
  have hr0:=hr0.resolve_left h10
  exact ⟨_,rfl,.inr ⟨by omega,by omega⟩⟩

theorem d8i (x:a0c) (h:b6h x ≤ 2 ^ 30):b1x x = some x:=by
  unfold b6h at h
  unfold b1x
  rfl

theorem c0c:∀ (xs:List a0c) (i:Nat) (out:List a0c),(∀ a ∈ xs,b6h a ≤ 2 ^ 30) → i + xs.length = out.length → a4c xs i out = some (out.take i ++ xs)
  | [],i,out,_,h => by
    rw [a4c]; simp at h; rw [h]; simp
  | x :: xs,i,out,hx,h => by
    rw [a4c]
    have hi:i < out.length:=by simp at h; omega
    rw [d8i x (hx x (by simp)),Option.bind_some,if_pos hi,List.getElem?_eq_getElem hi,Option.bind_some,c0c xs (i + 1) _ (fun a ha => hx a (by simp [ha])) (by simp at h ⊢; omega),a9n _ _ _ _ hi]
theorem d5k (a:List a0c) (h:a9d a ≤ 2 ^ 30):b0x a = some a:=by
  unfold b0x
  rw [if_pos (by unfold a9d at h; omega),c0c a 0 _ (fun a ha => by have:=c2a ha; unfold a9d at h; omega) (by simp)]
  rfl

theorem b7p:∀ (xs:List (List a0c)) (i:Nat) (out:List (List a0c)),(∀ a ∈ xs,a9d a ≤ 2 ^ 30) → i + xs.length = out.length → a3n xs i out = some (out.take i ++ xs)
  | [],i,out,_,h => by
    rw [a3n]; simp at h; rw [h]; simp
  | x :: xs,i,out,hx,h => by
    rw [a3n]
    have hi:i < out.length:=by simp at h; omega
    rw [d5k x (hx x (by simp)),Option.bind_some,if_pos hi,List.getElem?_eq_getElem hi,Option.bind_some,b7p xs (i + 1) _ (fun a ha => hx a (by simp [ha])) (by simp at h ⊢; omega),a9n _ _ _ _ hi]
theorem d2y (a:List (List a0c)) (h:a8s a ≤ 2 ^ 30):a9q a = some a:=by
  unfold a9q
  rw [if_pos (by unfold a8s at h; omega),b7p a 0 _ (fun a ha => by have:=b2q ha; unfold a8s at h; omega) (by simp)]
  rfl

theorem c8v (x:x8) (h:b1h x ≤ 2 ^ 30):b0g x = some x:=by
  unfold b1h at h
  unfold b0g
  simp only [d2y x.Cells (by omega),Option.bind_some]

theorem d2z (x:y9) (h:b0a x ≤ 2 ^ 30):a9r x = some x:=by
  unfold b0a at h
  unfold a9r
  simp only [c8v x.Old (by omega),Option.bind_some,c8v x.New (by omega),Option.bind_some]

theorem b6j:∀ (xs:List y9) (i:Nat) (out:List y9),(∀ a ∈ xs,b0a a ≤ 2 ^ 30) → i + xs.length = out.length → a2x xs i out = some (out.take i ++ xs)
  | [],i,out,_,h => by
    rw [a2x]; simp at h; rw [h]; simp
  | x :: xs,i,out,hx,h => by
    rw [a2x]
    have hi:i < out.length:=by simp at h; omega
    rw [d2z x (hx x (by simp)),Option.bind_some,if_pos hi,List.getElem?_eq_getElem hi,Option.bind_some,b6j xs (i + 1) _ (fun a ha => hx a (by simp [ha])) (by simp at h ⊢; omega),a9n _ _ _ _ hi]
theorem d1i (a:List y9) (h:a6a a ≤ 2 ^ 30):a5h a = some a:=by
  unfold a5h
  rw [if_pos (by unfold a6a at h; omega),b6j a 0 _ (fun a ha => by have:=b3s ha; unfold a6a at h; omega) (by simp)]
  rfl

theorem c2c:∀ (xs:List x8) (i:Nat) (out:List x8),(∀ a ∈ xs,b1h a ≤ 2 ^ 30) → i + xs.length = out.length → a4n xs i out = some (out.take i ++ xs)
  | [],i,out,_,h => by
    rw [a4n]; simp at h; rw [h]; simp
  | x :: xs,i,out,hx,h => by
    rw [a4n]
    have hi:i < out.length:=by simp at h; omega
    rw [c8v x (hx x (by simp)),Option.bind_some,if_pos hi,List.getElem?_eq_getElem hi,Option.bind_some,c2c xs (i + 1) _ (fun a ha => hx a (by simp [ha])) (by simp at h ⊢; omega),a9n _ _ _ _ hi]
theorem d8j (a:List x8) (h:a5s a ≤ 2 ^ 30):b1y a = some a:=by
  unfold b1y
  rw [if_pos (by unfold a5s at h; omega),c2c a 0 _ (fun a ha => by have:=b4q ha; unfold a5s at h; omega) (by simp)]
  rfl

theorem c0d:∀ (xs:List (List x8)) (i:Nat) (out:List (List x8)),(∀ a ∈ xs,a5s a ≤ 2 ^ 30) → i + xs.length = out.length → a4d xs i out = some (out.take i ++ xs)
  | [],i,out,_,h => by
    rw [a4d]; simp at h; rw [h]; simp
  | x :: xs,i,out,hx,h => by
    rw [a4d]
    have hi:i < out.length:=by simp at h; omega
    rw [d8j x (hx x (by simp)),Option.bind_some,if_pos hi,List.getElem?_eq_getElem hi,Option.bind_some,c0d xs (i + 1) _ (fun a ha => hx a (by simp [ha])) (by simp at h ⊢; omega),a9n _ _ _ _ hi]
theorem d5l (a:List (List x8)) (h:a6t a ≤ 2 ^ 30):b0y a = some a:=by
  unfold b0y
  rw [if_pos (by unfold a6t at h; omega),c0d a 0 _ (fun a ha => by have:=b3l ha; unfold a6t at h; omega) (by simp)]
  rfl

theorem d5m (x:a0l) (h:a2k x ≤ 2 ^ 30):a6k x = some x:=by
  unfold a2k at h
  unfold a6k
  simp only [d5l x.Tables (by omega),Option.bind_some]
theorem c2d:∀ (l:List a0c),a3w l ≤ 8 * a9d l
  | [] => by simp [a3w]
  | x :: l => by
    have ih:=c2d l
    unfold a9d at ih ⊢
    simp only [a3w,b3k,List.length_cons,b6h]
    omega
theorem d1j (l:List a0c) (h:a9d l < 2 ^ 61):a6n l:=by
  unfold a9d at h
  unfold a6n
  omega

theorem b2r:∀ (l:List (List a0c)),a1e l ≤ 8 * a8s l
  | [] => by simp [a1e]
  | x :: l => by
    have ih:=b2r l
    unfold a8s at ih ⊢
    have h0:=c2d x
    simp only [a1e,b2e,List.length_cons]
    omega
theorem b4r (l:List (List a0c)) (h:a8s l < 2 ^ 61):a5n l:=by
  unfold a8s at h
  refine ⟨by omega,fun x hx => ?_⟩
  have:=b2q hx
  exact d1j _ (by omega)

theorem b7q:∀ (l:List y9),a6f l ≤ 8 * a6a l
  | [] => by simp [a6f]
  | x :: l => by
    have ih:=b7q l
    unfold a6a at ih ⊢
    have h0:=b2r x.Old.Cells
    have h1:=b2r x.New.Cells
    simp only [a6f,a9e,List.length_cons,b0a,b1h]
    omega
theorem c6m (l:List y9) (h:a6a l < 2 ^ 61):a8q l:=by
  unfold a6a at h
  refine ⟨by omega,fun x hx => ?_⟩
  have:=b3s hx
  simp only [b0a,b1h] at this
  exact ⟨b4r _ (by omega),b4r _ (by omega)⟩

theorem c5g:∀ (l:List x8),a4x l ≤ 8 * a5s l
  | [] => by simp [a4x]
  | x :: l => by
    have ih:=c5g l
    unfold a5s at ih ⊢
    have h0:=b2r x.Cells
    simp only [a4x,b1g,List.length_cons,b1h]
    omega
theorem d3a (l:List x8) (h:a5s l < 2 ^ 61):b0d l:=by
  unfold a5s at h
  refine ⟨by omega,fun x hx => ?_⟩
  have:=b4q hx
  simp only [b1h] at this
  exact b4r _ (by omega)

theorem c2e:∀ (l:List (List x8)),a4z l ≤ 8 * a6t l
  | [] => by simp [a4z]
  | x :: l => by
    have ih:=c2e l
    unfold a6t at ih ⊢
    have h0:=c5g x
    simp only [a4z,a7z,List.length_cons]
    omega
theorem d1k (l:List (List x8)) (h:a6t l < 2 ^ 61):a7s l:=by
  unfold a6t at h
  refine ⟨by omega,fun x hx => ?_⟩
  have:=b3l hx
  exact d3a _ (by omega)

theorem c2f (x:a0l):a8r x ≤ 8 * a2k x:=by
  have h0:=c2e x.Tables
  simp only [a8r,a2k]
  omega
theorem b6k (x:a0l) (h:a2k x < 2 ^ 61):b6f x:=by
  simp only [a2k] at h
  exact d1k _ (by omega)
end Go.R
