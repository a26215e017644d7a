/- Weights, sizes, copies, comparisons: what the laws' own helpers give. -/
import Derived.Test.YtldahjcikmpifaaGreatROJM
import Derived.Test.YtldahjcikmpifaaGreatP0
set_option linter.all false
namespace Go.R
open Go
set_option linter.all false
theorem d8c (x:a0a):b1v x x = some true:=by
  unfold b1v
  simp

theorem b9r (b:List a0a):∀ (xs:List a0a) (i:Nat),b.drop i = xs → a4j b xs i = some (.go ())
  | [],i,_ => by rw [a4j]
  | x :: xs,i,h => by
    rw [a4j,b9l h,Option.bind_some,d8c,Option.bind_some,if_neg (by simp),b9r b xs (i + 1) (b2q h)]
theorem d5d (a:List a0a):b0p a a = some true:=by
  unfold b0p
  rw [if_neg (by simp),b9r a a 0 (by simp)]
  rfl

theorem b7l (b:List (List a0a)):∀ (xs:List (List a0a)) (i:Nat),b.drop i = xs → a3p b xs i = some (.go ())
  | [],i,_ => by rw [a3p]
  | x :: xs,i,h => by
    rw [a3p,b9l h,Option.bind_some,d5d,Option.bind_some,if_neg (by simp),b7l b xs (i + 1) (b2q h)]
theorem d2x (a:List (List a0a)):a8y a a = some true:=by
  unfold a8y
  rw [if_neg (by simp),b7l a a 0 (by simp)]
  rfl

def a3v:List Str → Nat
  | [] => 0
  | x :: xs => x.length + a3v xs
def a2h (l:List Str):Nat:=l.length + a3v l
theorem b7m:∀ {l:List Str} {x:Str},x ∈ l → x.length ≤ a3v l
  | [],_,h => by simp at h
  | y :: l,x,h => by
    rw [a3v]
    rcases List.mem_cons.1 h with rfl | h
    · omega
    · have:=b7m h; omega

/- JSON values: weights. -/
mutual
def a5a:o8 → Nat
  | ⟨_,_,t,ks,is⟩ => t.length + a2h ks + a2v is
def a2v:List o8 → Nat
  | [] => 0
  | x :: xs => 1 + a5a x + a2v xs
end
theorem c7m (x:o8):a5a x = x.T.length + a2h x.Keys + a2v x.Items:=by cases x; simp only [a5a]
theorem b3m:∀ l:List o8,l.length ≤ a2v l
  | [] => by simp
  | x :: l => by have:=b3m l; simp only [a2v,List.length_cons]; omega
theorem b3n:∀ {l:List o8} {x:o8},x ∈ l → a5a x < a2v l
  | [],_,h => by simp at h
  | y :: l,x,h => by
    rw [a2v]
    rcases List.mem_cons.1 h with rfl | h
    · omega
    · have:=b3n h; omega
theorem d1l:∀ (l m:List o8),a2v (l ++ m) = a2v l + a2v m
  | [],m => by simp [a2v]
  | x :: l,m => by simp only [List.cons_append,a2v,d1l l m]; omega

theorem b6i (b:List Str):∀ (xs:List Str) (i:Nat),b.drop i = xs → a3c b xs i = some (.go ())
  | [],i,_ => by rw [a3c]
  | x :: xs,i,h => by
    rw [a3c,b9l h,Option.bind_some,if_neg (by simp),b6i b xs (i + 1) (b2q h)]
theorem c1t (a:List Str):a6u a a = some true:=by
  unfold a6u
  rw [if_neg (by simp),b6i a a 0 (by simp)]
  rfl

/- JSON values: comparisons. -/
theorem b5a (rec:o8 → o8 → Option Bool) (b:List o8):∀ (xs:List o8) (i:Nat),(∀ x ∈ xs,rec x x = some true) → b.drop i = xs → a4i b rec xs i = some (.go ())
  | [],i,_,_ => by rw [a4i]
  | x :: xs,i,hr,h => by
    rw [a4i,b9l h,Option.bind_some,hr x (by simp),Option.bind_some,if_neg (by simp),b5a rec b xs (i + 1) (fun y hy => hr y (by simp [hy])) (b2q h)]
theorem c5e:∀ (k:Nat) (j:o8),a5a j < k → a4y k j j = some true
  | 0,j,h => by omega
  | k + 1,j,h => by
    rw [c7m] at h
    rw [a4y]
    unfold b1j a8k
    rw [if_neg (by simp),if_neg (by simp),if_neg (by simp),c1t,Option.bind_some,if_neg (by simp),if_neg (by simp),b5a (a4y k) j.Items j.Items 0 (fun y hy => c5e k y (by have:=b3n hy; omega)) (by simp)]
    simp
theorem d1m (j:o8) (h:a5a j < 2 ^ 61):a4y FUEL j j = some true:=c5e FUEL j (fuel_lt (by omega))
theorem p_eqJsonS (l:List o8) (h:a2v l < 2 ^ 61):a8k (a4y FUEL) l l = some true:=by
  unfold a8k
  rw [if_neg (by simp),b5a _ l l 0 (fun y hy => d1m y (by have:=b3n hy; omega)) (by simp)]
  rfl

theorem d9s (x:a3r):b3b x x = some true:=by
  unfold b3b
  simp [d2x]

def b3t (x:a0a):Nat:=x.T.length

theorem d8d (x:a0a) (n:Int) (h0:0 ≤ n) (h1:n ≤ 2 ^ 30) (ok:a7k x):∃ r,b1p x n = some r ∧ (r < 0 ∨ (0 ≤ r ∧ r = n - (b3t x:Nat))):=by
  unfold b1p b3t
  have k2:=ok.2.2
  simp only [okS,maxLen] at k2
  rw [a4o (by omega)]
  split
  · exact ⟨_,rfl,.inl (by omega)⟩
  rename_i h12
  simp only [decide_eq_true_eq] at h12
  exact ⟨_,rfl,.inr ⟨by omega,by omega⟩⟩

def b0t:List a0a → Nat
  | [] => 0
  | x :: xs => b3t x + b0t xs
def a5k (l:List a0a):Nat:=l.length + b0t l
theorem c1u:∀ {l:List a0a} {x:a0a},x ∈ l → b3t x ≤ b0t l
  | [],_,h => by simp at h
  | y :: l,x,h => by
    rw [b0t]
    rcases List.mem_cons.1 h with rfl | h
    · omega
    · have:=c1u h; omega

theorem b9s:∀ (l:List a0a) (n:Int),0 ≤ n → n ≤ 2 ^ 30 → (∀ a ∈ l,(a7k) a) → a3z l n = some (.ret (-1)) ∨ ∃ r,a3z l n = some (.go r) ∧ r = n - (b0t l:Nat) ∧ 0 ≤ r
  | [],n,h0,h1,ok => .inr ⟨n,rfl,by simp [b0t],h0⟩
  | a :: l,n,h0,h1,ok => by
    rw [a3z]
    obtain ⟨r,e,hr⟩:=d8d a n h0 h1 (ok a (by simp))
    rw [e,Option.bind_some]
    split
    · exact .inl rfl
    · rename_i h
      simp only [decide_eq_true_eq] at h
      have hr:=hr.resolve_left h
      rcases b9s l r (by omega) (by omega) (fun x hx => ok x (by simp [hx])) with h2 | ⟨r',e',g2,g3⟩
      · exact .inl h2
      · exact .inr ⟨r',e',by rw [g2,hr.2]; simp only [b0t]; omega,g3⟩
theorem d5e (l:List a0a) (n:Int) (h0:0 ≤ n) (h1:n ≤ 2 ^ 30) (ok:(okL (a7k)) l):∃ r,a9x l n = some r ∧ (r < 0 ∨ (0 ≤ r ∧ r = n - (a5k l:Nat))):=by
  unfold a9x a5k
  have k1:=ok.1
  simp only [maxLen] at k1
  rw [a4o (by omega)]
  split
  · exact ⟨_,rfl,.inl (by omega)⟩
  · rename_i h
    simp only [decide_eq_true_eq] at h
    rcases b9s l (n - l.length) (by omega) (by omega) ok.2 with h2 | ⟨r',e',g1,g2⟩
    · exact ⟨-1,by rw [h2]; rfl,.inl (by omega)⟩
    · exact ⟨r',by rw [e']; rfl,.inr ⟨g2,by omega⟩⟩

def a8d:List (List a0a) → Nat
  | [] => 0
  | x :: xs => a5k x + a8d xs
def a7f (l:List (List a0a)):Nat:=l.length + a8d l
theorem b5b:∀ {l:List (List a0a)} {x:(List a0a)},x ∈ l → a5k x ≤ a8d l
  | [],_,h => by simp at h
  | y :: l,x,h => by
    rw [a8d]
    rcases List.mem_cons.1 h with rfl | h
    · omega
    · have:=b5b h; omega

theorem b7n:∀ (l:List (List a0a)) (n:Int),0 ≤ n → n ≤ 2 ^ 30 → (∀ a ∈ l,(okL (a7k)) a) → a3k l n = some (.ret (-1)) ∨ ∃ r,a3k l n = some (.go r) ∧ r = n - (a8d l:Nat) ∧ 0 ≤ r
  | [],n,h0,h1,ok => .inr ⟨n,rfl,by simp [a8d],h0⟩
  | a :: l,n,h0,h1,ok => by
    rw [a3k]
    obtain ⟨r,e,hr⟩:=d5e a n h0 h1 (ok a (by simp))
    rw [e,Option.bind_some]
    split
    · exact .inl rfl
    · rename_i h
      simp only [decide_eq_true_eq] at h
      have hr:=hr.resolve_left h
      rcases b7n l r (by omega) (by omega) (fun x hx => ok x (by simp [hx])) with h2 | ⟨r',e',g2,g3⟩
      · exact .inl h2
      · exact .inr ⟨r',e',by rw [g2,hr.2]; simp only [a8d]; omega,g3⟩
theorem d2y (l:List (List a0a)) (n:Int) (h0:0 ≤ n) (h1:n ≤ 2 ^ 30) (ok:(okL (okL (a7k))) l):∃ r,a8q l n = some r ∧ (r < 0 ∨ (0 ≤ r ∧ r = n - (a7f l:Nat))):=by
  unfold a8q a7f
  have k1:=ok.1
  simp only [maxLen] at k1
  rw [a4o (by omega)]
  split
  · exact ⟨_,rfl,.inl (by omega)⟩
  · rename_i h
    simp only [decide_eq_true_eq] at h
    rcases b7n l (n - l.length) (by omega) (by omega) ok.2 with h2 | ⟨r',e',g1,g2⟩
    · exact ⟨-1,by rw [h2]; rfl,.inl (by omega)⟩
    · exact ⟨r',by rw [e']; rfl,.inr ⟨g2,by omega⟩⟩

def b4j (x:a3r):Nat:=a7f x.Cells

theorem d9t (x:a3r) (n:Int) (h0:0 ≤ n) (h1:n ≤ 2 ^ 30) (ok:c9e x):∃ r,b2z x n = some r ∧ (r < 0 ∨ (0 ≤ r ∧ r = n - (b4j x:Nat))):=by
  unfold b2z b4j
  obtain ⟨r1,e1,hr1⟩:=d2y x.Cells n (by omega) (by omega) ok.2
  rw [e1,Option.bind_some]
  split
  · exact ⟨_,rfl,.inl (by omega)⟩
  rename_i h11
  simp only [decide_eq_true_eq] at h11
  have hr1:=hr1.resolve_left h11
  exact ⟨_,rfl,.inr ⟨by omega,by omega⟩⟩

theorem b6j:∀ (l:List Str) (n:Int),0 ≤ n → n ≤ 2 ^ 30 → (∀ a ∈ l,(okS) a) → a3a l n = some (.ret (-1)) ∨ ∃ r,a3a l n = some (.go r) ∧ r = n - (a3v l:Nat) ∧ 0 ≤ r
  | [],n,h0,h1,ok => .inr ⟨n,rfl,by simp [a3v],h0⟩
  | a :: l,n,h0,h1,ok => by
    rw [a3a]
    have k1:=ok a (by simp)
    simp only [okS,maxLen] at k1
    rw [a4o (by omega)]
    split
    · exact .inl rfl
    · rename_i h
      simp only [decide_eq_true_eq] at h
      rcases b6j l (n - a.length) (by omega) (by omega) (fun x hx => ok x (by simp [hx])) with h2 | ⟨r',e',g2,g3⟩
      · exact .inl h2
      · exact .inr ⟨r',e',by rw [g2]; simp only [a3v]; omega,g3⟩
theorem d1n (l:List Str) (n:Int) (h0:0 ≤ n) (h1:n ≤ 2 ^ 30) (ok:(okL (okS)) l):∃ r,a7w l n = some r ∧ (r < 0 ∨ (0 ≤ r ∧ r = n - (a2h l:Nat))):=by
  unfold a7w a2h
  have k1:=ok.1
  simp only [maxLen] at k1
  rw [a4o (by omega)]
  split
  · exact ⟨_,rfl,.inl (by omega)⟩
  · rename_i h
    simp only [decide_eq_true_eq] at h
    rcases b6j l (n - l.length) (by omega) (by omega) ok.2 with h2 | ⟨r',e',g1,g2⟩
    · exact ⟨-1,by rw [h2]; rfl,.inl (by omega)⟩
    · exact ⟨r',by rw [e']; rfl,.inr ⟨g2,by omega⟩⟩

theorem d8e (x:a0a) (h:b3t x ≤ 2 ^ 30):b1q x = some x:=by
  unfold b3t at h
  unfold b1q
  rfl

theorem b9t:∀ (xs:List a0a) (i:Nat) (out:List a0a),(∀ a ∈ xs,b3t a ≤ 2 ^ 30) → i + xs.length = out.length → a4a xs i out = some (out.take i ++ xs)
  | [],i,out,_,h => by
    rw [a4a]; simp at h; rw [h]; simp
  | x :: xs,i,out,hx,h => by
    rw [a4a]
    have hi:i < out.length:=by simp at h; omega
    rw [d8e x (hx x (by simp)),Option.bind_some,if_pos hi,List.getElem?_eq_getElem hi,Option.bind_some,b9t xs (i + 1) _ (fun a ha => hx a (by simp [ha])) (by simp at h ⊢; omega),b2y _ _ _ _ hi]
theorem d5f (a:List a0a) (h:a5k a ≤ 2 ^ 30):a9y a = some a:=by
  unfold a9y
  rw [if_pos (by unfold a5k at h; omega),b9t a 0 _ (fun a ha => by have:=c1u ha; unfold a5k at h; omega) (by simp)]
  rfl

theorem b7o:∀ (xs:List (List a0a)) (i:Nat) (out:List (List a0a)),(∀ a ∈ xs,a5k a ≤ 2 ^ 30) → i + xs.length = out.length → a3l xs i out = some (out.take i ++ xs)
  | [],i,out,_,h => by
    rw [a3l]; simp at h; rw [h]; simp
  | x :: xs,i,out,hx,h => by
    rw [a3l]
    have hi:i < out.length:=by simp at h; omega
    rw [d5f x (hx x (by simp)),Option.bind_some,if_pos hi,List.getElem?_eq_getElem hi,Option.bind_some,b7o xs (i + 1) _ (fun a ha => hx a (by simp [ha])) (by simp at h ⊢; omega),b2y _ _ _ _ hi]
theorem d2z (a:List (List a0a)) (h:a7f a ≤ 2 ^ 30):a8r a = some a:=by
  unfold a8r
  rw [if_pos (by unfold a7f at h; omega),b7o a 0 _ (fun a ha => by have:=b5b ha; unfold a7f at h; omega) (by simp)]
  rfl

theorem d9u (x:a3r) (h:b4j x ≤ 2 ^ 30):a7x x = some x:=by
  unfold b4j at h
  unfold a7x
  simp only [d2z x.Cells (by omega),Option.bind_some]

theorem b6k:∀ (xs:List Str) (i:Nat) (out:List Str),(∀ a ∈ xs,True) → i + xs.length = out.length → a3b xs i out = some (out.take i ++ xs)
  | [],i,out,_,h => by
    rw [a3b]; simp at h; rw [h]; simp
  | x :: xs,i,out,hx,h => by
    rw [a3b]
    have hi:i < out.length:=by simp at h; omega
    rw [if_pos hi,List.getElem?_eq_getElem hi,Option.bind_some,b6k xs (i + 1) _ (fun a ha => hx a (by simp [ha])) (by simp at h ⊢; omega),b2y _ _ _ _ hi]
theorem d1o (a:List Str) (h:a2h a ≤ 2 ^ 30):a5l a = some a:=by
  unfold a5l
  rw [if_pos (by unfold a2h at h; omega),b6k a 0 _ (fun _ _ => trivial) (by simp)]
  rfl
theorem c1w:∀ (l:List a0a),a6i l ≤ 8 * a5k l
  | [] => by simp [a6i]
  | x :: l => by
    have ih:=c1w l
    unfold a5k at ih ⊢
    simp only [a6i,b0t,List.length_cons,b3t]
    omega
theorem d1p (l:List a0a) (h:a5k l < 2 ^ 61):a9a l:=by
  unfold a5k at h
  unfold a9a
  omega

theorem b9u:∀ (l:List (List a0a)),a6v l ≤ 8 * a7f l
  | [] => by simp [a6v]
  | x :: l => by
    have ih:=b9u l
    unfold a7f at ih ⊢
    have h0:=c1w x
    simp only [a6v,a8d,List.length_cons]
    omega
theorem c9k (l:List (List a0a)) (h:a7f l < 2 ^ 61):a8n l:=by
  unfold a7f at h
  refine ⟨by omega,fun x hx => ?_⟩
  have:=b5b hx
  exact d1p _ (by omega)

theorem b3u:∀ (l:List Str),a1b l ≤ 8 * a2h l
  | [] => by simp [a1b]
  | x :: l => by
    have ih:=b3u l
    unfold a2h at ih ⊢
    simp only [a1b,a3v,List.length_cons]
    omega
theorem b7p (l:List Str) (h:a2h l < 2 ^ 61):a4l l:=by
  unfold a2h at h
  unfold a4l
  omega

mutual
theorem c5f:∀ (x:o8),b0s x ≤ 8 * a5a x
  | ⟨_,_,_,ks,is⟩ => by
    have h1:=b3u ks
    have h2:=c1x is
    simp only [b0s,a5a]
    omega
theorem c1x:∀ (l:List o8),a1k l ≤ 8 * a2v l
  | [] => by simp [a1k]
  | x :: l => by
    have h1:=c5f x
    have h2:=c1x l
    simp only [a1k,a2v]
    omega
end
mutual
theorem b8i:∀ (x:o8),a5a x < 2 ^ 61 → b4y x
  | ⟨_,_,_,ks,is⟩,h => by
    simp only [a5a] at h
    have hl:=b3m is
    simp only [b4y]
    exact ⟨b7p ks (by omega),by omega,b6l is (by omega)⟩
theorem b6l:∀ (l:List o8),a2v l < 2 ^ 61 → a9c l
  | [],_ => by simp [a9c]
  | x :: l,h => by
    simp only [a2v] at h
    simp only [a9c]
    exact ⟨b8i x (by omega),b6l l (by omega)⟩
end
theorem fit_wtJsonS (l:List o8) (h:a2v l < 2 ^ 61):b1w l:=⟨by have:=b3m l; omega,b6l l h⟩

theorem d5g (x:a3r):c1b x ≤ 8 * b4j x:=by
  have h0:=b9u x.Cells
  simp only [c1b,b4j]
  omega
theorem d5h (x:a3r) (h:b4j x < 2 ^ 61):d2w x:=by
  simp only [b4j] at h
  exact c9k _ (by omega)
end Go.R
