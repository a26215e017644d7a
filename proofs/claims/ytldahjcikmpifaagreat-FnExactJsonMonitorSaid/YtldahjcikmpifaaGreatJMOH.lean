import Derived.Test.YtldahjcikmpifaaGreatJMOM
import Derived.Test.YtldahjcikmpifaaGreatP0
set_option linter.all false
namespace Go.R
open Go
theorem e1o (x:a0g):b3a x x = some true:=by
 unfold b3a
 simp
theorem c1z (b:List a0g):∀ (xs:List a0g) (i:Nat),b.drop i = xs → a5c b xs i = some (.go ())
 | [],i,_ => by rw [a5c]
 | x :: xs,i,h => by
  rw [a5c,b7o h,Option.bind_some,e1o,Option.bind_some,if_neg (by simp),c1z b xs (i + 1) (b0x h)]
theorem d8y (a:List a0g):b1w a a = some true:=by
 unfold b1w
 rw [if_neg (by simp),c1z a a 0 (by simp)]
 rfl
theorem e1p (x:a0m):b3b x x = some true:=by
 unfold b3b
 simp [d8y]
theorem c2a (b:List a0m):∀ (xs:List a0m) (i:Nat),b.drop i = xs → a5d b xs i = some (.go ())
 | [],i,_ => by rw [a5d]
 | x :: xs,i,h => by
  rw [a5d,b7o h,Option.bind_some,e1p,Option.bind_some,if_neg (by simp),c2a b xs (i + 1) (b0x h)]
theorem d8z (a:List a0m):b1x a a = some true:=by
 unfold b1x
 rw [if_neg (by simp),c2a a a 0 (by simp)]
 rfl
def b1a:List Str → Nat
 | [] => 0
 | x :: xs => x.length + b1a xs
def a8i (l:List Str):Nat:=l.length + b1a l
theorem c9d:∀ {l:List Str} {x:Str},x ∈ l → x.length ≤ b1a l
 | [],_,h => by simp at h
 | y :: l,x,h => by
  rw [b1a]
  rcases List.mem_cons.1 h with rfl | h
  ·omega
  ·have:=c9d h; omega
mutual
def a9d:y8 → Nat
 | ⟨_,_,t,ks,is⟩ => t.length + a8i ks + a5v is
def a5v:List y8 → Nat
 | [] => 0
 | x :: xs => 1 + a9d x + a5v xs
end
theorem c3u (x:y8):a9d x = x.T.length + a8i x.Keys + a5v x.Items:=by cases x; simp only [a9d]
theorem b4u:∀ l:List y8,l.length ≤ a5v l
 | [] => by simp
 | x :: l => by have:=b4u l; simp only [a5v,List.length_cons]; omega
theorem b4v:∀ {l:List y8} {x:y8},x ∈ l → a9d x < a5v l
 | [],_,h => by simp at h
 | y :: l,x,h => by
  rw [a5v]
  rcases List.mem_cons.1 h with rfl | h
  ·omega
  ·have:=b4v h; omega
theorem d4d:∀ (l m:List y8),a5v (l ++ m) = a5v l + a5v m
 | [],m => by simp [a5v]
 | x :: l,m => by simp only [List.cons_append,a5v,d4d l m]; omega
theorem b7w (b:List Str):∀ (xs:List Str) (i:Nat),b.drop i = xs → a3w b xs i = some (.go ())
 | [],i,_ => by rw [a3w]
 | x :: xs,i,h => by
  rw [a3w,b7o h,Option.bind_some,if_neg (by simp),b7w b xs (i + 1) (b0x h)]
theorem c4k (a:List Str):a8e a a = some true:=by
 unfold a8e
 rw [if_neg (by simp),b7w a a 0 (by simp)]
 rfl
theorem b6k (rec:y8 → y8 → Option Bool) (b:List y8):∀ (xs:List y8) (i:Nat),(∀ x ∈ xs,rec x x = some true) → b.drop i = xs → a5e b rec xs i = some (.go ())
 | [],i,_,_ => by rw [a5e]
 | x :: xs,i,hr,h => by
  rw [a5e,b7o h,Option.bind_some,hr x (by simp),Option.bind_some,if_neg (by simp),b6k rec b xs (i + 1) (fun y hy => hr y (by simp [hy])) (b0x h)]
theorem c7q:∀ (k:Nat) (j:y8),a9d j < k → a6x k j j = some true
 | 0,j,h => by omega
 | k + 1,j,h => by
  rw [c3u] at h
  rw [a6x]
  unfold b2n b0c
  rw [if_neg (by simp),if_neg (by simp),if_neg (by simp),c4k,Option.bind_some,if_neg (by simp),if_neg (by simp),b6k (a6x k) j.Items j.Items 0 (fun y hy => c7q k y (by have:=b4v hy; omega)) (by simp)]
  simp
theorem d4e (j:y8) (h:a9d j < 2 ^ 61):a6x FUEL j j = some true:=c7q FUEL j (fuel_lt (by omega))
theorem p_eqJsonS (l:List y8) (h:a5v l < 2 ^ 61):b0c (a6x FUEL) l l = some true:=by
 unfold b0c
 rw [if_neg (by simp),b6k _ l l 0 (fun y hy => d4e y (by have:=b4v hy; omega)) (by simp)]
 rfl
theorem d4f (x:a0k):a7d x x = some true:=by
 unfold a7d
 simp [c4k,d8z]
theorem b7x:∀ (l:List Str) (n:Int),0 ≤ n → n ≤ 2 ^ 30 → (∀ a ∈ l,(okS) a) → a3r l n = some (.ret (-1)) ∨ ∃ r,a3r l n = some (.go r) ∧ r = n - (b1a l:Nat) ∧ 0 ≤ r
 | [],n,h0,h1,ok => .inr ⟨n,rfl,by simp [b1a],h0⟩
 | a :: l,n,h0,h1,ok => by
  rw [a3r]
  have k1:=ok a (by simp)
  simp only [okS,maxLen] at k1
  rw [a3p (by omega)]
  split
  ·exact .inl rfl
  ·rename_i h
   simp only [decide_eq_true_eq] at h
   rcases b7x l (n - a.length) (by omega) (by omega) (fun x hx => ok x (by simp [hx])) with h2 | ⟨r',e',g2,g3⟩
   ·exact .inl h2
   ·exact .inr ⟨r',e',by rw [g2]; simp only [b1a]; omega,g3⟩
theorem d4g (l:List Str) (n:Int) (h0:0 ≤ n) (h1:n ≤ 2 ^ 30) (ok:(okL (okS)) l):∃ r,a9o l n = some r ∧ (r < 0 ∨ (0 ≤ r ∧ r = n - (a8i l:Nat))):=by
 unfold a9o a8i
 have k1:=ok.1
 simp only [maxLen] at k1
 rw [a3p (by omega)]
 split
 ·exact ⟨_,rfl,.inl (by omega)⟩
 ·rename_i h
  simp only [decide_eq_true_eq] at h
  rcases b7x l (n - l.length) (by omega) (by omega) ok.2 with h2 | ⟨r',e',g1,g2⟩
  ·exact ⟨-1,by rw [h2]; rfl,.inl (by omega)⟩
  ·exact ⟨r',by rw [e']; rfl,.inr ⟨g2,by omega⟩⟩
theorem a6p.parts {x:y8} (h:a6p x):okS x.T ∧ okL okS x.Keys ∧ x.Items.length ≤ maxLen ∧ ∀ y ∈ x.Items,a6p y:=by
 cases h with
 | mk h0 h1 h2 h3 h4 h5 => exact ⟨h2,h3,h4,h5⟩
def b4w:List y8 → Nat
 | [] => 0
 | x :: xs => a9d x + b4w xs
theorem c7r:∀ l,a5v l = l.length + b4w l
 | [] => by simp [a5v,b4w]
 | x :: l => by simp only [a5v,b4w,List.length_cons,c7r l]; omega
theorem c2b (rec:y8 → Int → Option Int) (n0:Int) (hrec:∀ a n,0 ≤ n → n ≤ n0 → a6p a → ∃ r,rec a n = some r ∧ (r < 0 ∨ (0 ≤ r ∧ r = n - (a9d a:Nat)))):∀ (l:List y8) (n:Int),0 ≤ n → n ≤ n0 → (∀ a ∈ l,a6p a) → a4f rec l n = some (.ret (-1)) ∨ ∃ r,a4f rec l n = some (.go r) ∧ 0 ≤ r ∧ r = n - (b4w l:Nat)
 | [],n,h0,h1,ok => .inr ⟨n,rfl,h0,by simp [b4w]⟩
 | a :: l,n,h0,h1,ok => by
  rw [a4f]
  obtain ⟨r,e,hr⟩:=hrec a n h0 h1 (ok a (by simp))
  rw [e,Option.bind_some]
  split
  ·exact .inl rfl
  ·rename_i h
   simp only [decide_eq_true_eq] at h
   have hr:=hr.resolve_left h
   rcases c2b rec n0 hrec l r (by omega) (by omega) (fun x hx => ok x (by simp [hx])) with h2 | ⟨r',e',g1,g2⟩
   ·exact .inl h2
   ·exact .inr ⟨r',e',g1,by rw [g2,hr.2]; simp only [b4w]; omega⟩
theorem c7s:∀ (k:Nat) (j:y8) (n:Int),0 ≤ n → n < k → n ≤ 2 ^ 30 → a6p j → ∃ r,a6u k j n = some r ∧ (r < 0 ∨ (0 ≤ r ∧ r = n - (a9d j:Nat)))
 | 0,j,n,h0,h1,_,_ => by omega
 | k + 1,j,n,h0,h1,h2,ok => by
  rw [a6u,c3u]
  unfold b2k
  obtain ⟨o1,o2,o3,o4⟩:=ok.parts
  simp only [okS,maxLen] at o1 o3
  rw [a3p (by omega)]
  split
  ·exact ⟨_,rfl,.inl (by omega)⟩
  rename_i c1
  simp only [decide_eq_true_eq] at c1
  obtain ⟨r,e,hr⟩:=d4g j.Keys (n - j.T.length) (by omega) (by omega) o2
  rw [e,Option.bind_some]
  split
  ·exact ⟨_,rfl,.inl (by omega)⟩
  rename_i c2
  simp only [decide_eq_true_eq] at c2
  obtain ⟨g1,g2⟩:=hr.resolve_left c2
  have key:∃ r',b1g (a6u k) j.Items r = some r' ∧ (r' < 0 ∨ (0 ≤ r' ∧ r' = r - (a5v j.Items:Nat))):=by
   unfold b1g
   rw [a3p (by omega),c7r]
   split
   ·exact ⟨_,rfl,.inl (by omega)⟩
   rename_i c3
   simp only [decide_eq_true_eq] at c3
   cases hi:j.Items with
   | nil => exact ⟨r,by simp [a4f],.inr ⟨by omega,by simp [b4w]⟩⟩
   | cons y ys =>
    rw [← hi]
    have hl:1 ≤ j.Items.length:=by rw [hi]; simp
    rcases c2b (a6u k) (n - 1) (fun a m a1 a2 a3 => c7s k a m a1 (by omega) (by omega) a3) j.Items (r - j.Items.length) (by omega) (by omega) o4 with h3 | ⟨r',e',f1,f2⟩
    ·rw [h3]; exact ⟨_,rfl,.inl (by omega)⟩
    ·rw [e']; exact ⟨_,rfl,.inr ⟨f1,by omega⟩⟩
  obtain ⟨r',e',hr'⟩:=key
  rw [e',Option.bind_some]
  split
  ·exact ⟨_,rfl,.inl (by omega)⟩
  rename_i c4
  simp only [decide_eq_true_eq] at c4
  obtain ⟨q1,q2⟩:=hr'.resolve_left c4
  exact ⟨_,rfl,.inr ⟨q1,by omega⟩⟩
theorem e1q (j:y8) (n:Int) (h0:0 ≤ n) (h1:n ≤ 2 ^ 30) (ok:a6p j):∃ r,a6u FUEL j n = some r ∧ (r < 0 ∨ (0 ≤ r ∧ r = n - (a9d j:Nat))):=c7s FUEL j n h0 (by have:=fuel_lt (n:=n.toNat) (by omega); omega) h1 ok
theorem b7y:∀ (xs:List Str) (i:Nat) (out:List Str),(∀ a ∈ xs,True) → i + xs.length = out.length → a3s xs i out = some (out.take i ++ xs)
 | [],i,out,_,h => by
  rw [a3s]; simp at h; rw [h]; simp
 | x :: xs,i,out,hx,h => by
  rw [a3s]
  have hi:i < out.length:=by simp at h; omega
  rw [if_pos hi,List.getElem?_eq_getElem hi,Option.bind_some,b7y xs (i + 1) _ (fun a ha => hx a (by simp [ha])) (by simp at h ⊢; omega),b5i _ _ _ _ hi]
theorem d4h (a:List Str) (h:a8i a ≤ 2 ^ 30):a9p a = some a:=by
 unfold a9p
 rw [if_pos (by unfold a8i at h; omega),b7y a 0 _ (fun _ _ => trivial) (by simp)]
 rfl
theorem c2c (rec:y8 → Option y8):∀ (xs:List y8) (i:Nat) (out:List y8),(∀ x ∈ xs,rec x = some x) → i + xs.length = out.length → a4u rec xs i out = some (out.take i ++ xs)
 | [],i,out,_,h => by rw [a4u]; simp at h; simp [h]
 | x :: xs,i,out,hr,h => by
  simp only [List.length_cons] at h
  rw [a4u,hr x (by simp),Option.bind_some,if_pos (by omega),List.getElem?_eq_getElem (by omega),Option.bind_some,c2c rec xs (i + 1) _ (fun y hy => hr y (by simp [hy])) (by simp; omega),b5i _ _ _ _ (by omega)]
theorem c7t:∀ (k:Nat) (j:y8),a9d j < k → a9d j ≤ 2 ^ 30 → a5r k j = some j
 | 0,j,h,_ => by omega
 | k + 1,j,h,h2 => by
  rw [c3u] at h h2
  have hl:=b4u j.Items
  rw [a5r]
  unfold b2l b3r
  rw [d4h _ (by omega),Option.bind_some,if_pos (by omega),c2c (a5r k) j.Items 0 _ (fun y hy => by have:=b4v hy; exact c7t k y (by omega) (by omega)) (by simp)]
  cases j
  simp
theorem e1r (j:y8) (h:a9d j ≤ 2 ^ 30):a5r FUEL j = some j:=c7t FUEL j (fuel_lt (by omega)) h
def d6b (x:a0g):Nat:=x.T.length
def c2d:List a0g → Nat
 | [] => 0
 | x :: xs => d6b x + c2d xs
def c2e (l:List a0g):Nat:=l.length + c2d l
theorem d4i:∀ {l:List a0g} {x:a0g},x ∈ l → d6b x ≤ c2d l
 | [],_,h => by simp at h
 | y :: l,x,h => by
  rw [c2d]
  rcases List.mem_cons.1 h with rfl | h
  ·omega
  ·have:=d4i h; omega
def d1t (x:a0m):Nat:=x.Column.length + c2e x.Value
def c2f:List a0m → Nat
 | [] => 0
 | x :: xs => d1t x + c2f xs
def c2g (l:List a0m):Nat:=l.length + c2f l
theorem c4l:∀ {l:List a0m} {x:a0m},x ∈ l → d1t x ≤ c2f l
 | [],_,h => by simp at h
 | y :: l,x,h => by
  rw [c2f]
  rcases List.mem_cons.1 h with rfl | h
  ·omega
  ·have:=c4l h; omega
def b8u (x:a0k):Nat:=x.Name.length + x.Table.length + a8i x.Columns + c2g x.Where
theorem c4m:∀ (l:List a0g),a3m l ≤ 8 * c2e l
 | [] => by simp [a3m]
 | x :: l => by
  have ih:=c4m l
  unfold c2e at ih ⊢
  simp only [a3m,c2d,List.length_cons,d6b]
  omega
theorem d4j (l:List a0g) (h:c2e l < 2 ^ 61):a7e l:=by
 unfold c2e at h
 unfold a7e
 omega
theorem c4n:∀ (l:List a0m),a4o l ≤ 8 * c2g l
 | [] => by simp [a4o]
 | x :: l => by
  have ih:=c4n l
  unfold c2g at ih ⊢
  have h0:=c4m x.Value
  simp only [a4o,c2f,List.length_cons,d1t]
  omega
theorem d4k (l:List a0m) (h:c2g l < 2 ^ 61):a8w l:=by
 unfold c2g at h
 refine ⟨by omega,fun x hx => ?_⟩
 have:=c4l hx
 simp only [d1t] at this
 exact d4j _ (by omega)
theorem b5g:∀ (l:List Str),a1l l ≤ 8 * a8i l
 | [] => by simp [a1l]
 | x :: l => by
  have ih:=b5g l
  unfold a8i at ih ⊢
  simp only [a1l,b1a,List.length_cons]
  omega
theorem b9j (l:List Str) (h:a8i l < 2 ^ 61):a4e l:=by
 unfold a8i at h
 unfold a4e
 omega
mutual
theorem c7u:∀ (x:y8),b3u x ≤ 8 * a9d x
 | ⟨_,_,_,ks,is⟩ => by
  have h1:=b5g ks
  have h2:=c4o is
  simp only [b3u,a9d]
  omega
theorem c4o:∀ (l:List y8),a5h l ≤ 8 * a5v l
 | [] => by simp [a5h]
 | x :: l => by
  have h1:=c7u x
  have h2:=c4o l
  simp only [a5h,a5v]
  omega
end
mutual
theorem c7v:∀ (x:y8),a9d x < 2 ^ 61 → b8t x
 | ⟨_,_,_,ks,is⟩,h => by
  simp only [a9d] at h
  have hl:=b4u is
  simp only [b8t]
  exact ⟨b9j ks (by omega),by omega,b7z is (by omega)⟩
theorem b7z:∀ (l:List y8),a5v l < 2 ^ 61 → b3c l
 | [],_ => by simp [b3c]
 | x :: l,h => by
  simp only [a5v] at h
  simp only [b3c]
  exact ⟨c7v x (by omega),b7z l (by omega)⟩
end
theorem fit_wtJsonS (l:List y8) (h:a5v l < 2 ^ 61):b7u l:=⟨by have:=b4u l; omega,b7z l h⟩
theorem cnt_wtMonitor (x:a0k):a7f x ≤ 8 * b8u x:=by
 have h0:=b5g x.Columns
 have h1:=c4n x.Where
 simp only [a7f,b8u]
 omega
theorem fit_wtMonitor (x:a0k) (h:b8u x < 2 ^ 61):b2e x:=by
 simp only [b8u] at h
 exact ⟨b9j _ (by omega),d4k _ (by omega)⟩
end Go.R
