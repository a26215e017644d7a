/- Weights, sizes, copies, comparisons: what the laws' own helpers give. -/
import Derived.Test.YtgdkfnndbknjpaaJDM
import Derived.Test.YtgdkfnndbknjpaaP0
set_option linter.all false
namespace Go.R
open Go
set_option linter.all false
theorem d0f (x:y5):a8q x x = some true:=by
  unfold a8q
  simp

theorem b5f (b:List y5):∀ (xs:List y5) (i:Nat),b.drop i = xs → a2w b xs i = some (.go ())
  | [],i,_ => by rw [a2w]
  | x :: xs,i,h => by
    rw [a2w,b4y h,Option.bind_some,d0f,Option.bind_some,if_neg (by simp),b5f b xs (i + 1) (b0j h)]
theorem c8h (a:List y5):a5o a a = some true:=by
  unfold a5o
  rw [if_neg (by simp),b5f a a 0 (by simp)]
  rfl

def a7p:List Str → Nat
  | [] => 0
  | x :: xs => x.length + a7p xs
def a5u (l:List Str):Nat:=l.length + a7p l
theorem b9z:∀ {l:List Str} {x:Str},x ∈ l → x.length ≤ a7p l
  | [],_,h => by simp at h
  | y :: l,x,h => by
    rw [a7p]
    rcases List.mem_cons.1 h with rfl | h
    · omega
    · have:=b9z h; omega

/- JSON values: weights. -/
mutual
def a5w:o8 → Nat
  | ⟨_,_,t,ks,is⟩ => t.length + a5u ks + a3p is
def a3p:List o8 → Nat
  | [] => 0
  | x :: xs => 1 + a5w x + a3p xs
end
theorem b6i (x:o8):a5w x = x.T.length + a5u x.Keys + a3p x.Items:=by cases x; simp only [a5w]
theorem a9z:∀ l:List o8,l.length ≤ a3p l
  | [] => by simp
  | x :: l => by have:=a9z l; simp only [a3p,List.length_cons]; omega
theorem b0a:∀ {l:List o8} {x:o8},x ∈ l → a5w x < a3p l
  | [],_,h => by simp at h
  | y :: l,x,h => by
    rw [a3p]
    rcases List.mem_cons.1 h with rfl | h
    · omega
    · have:=b0a h; omega
theorem c4v:∀ (l m:List o8),a3p (l ++ m) = a3p l + a3p m
  | [],m => by simp [a3p]
  | x :: l,m => by simp only [List.cons_append,a3p,c4v l m]; omega

theorem b1z (b:List Str):∀ (xs:List Str) (i:Nat),b.drop i = xs → a1v b xs i = some (.go ())
  | [],i,_ => by rw [a1v]
  | x :: xs,i,h => by
    rw [a1v,b4y h,Option.bind_some,if_neg (by simp),b1z b xs (i + 1) (b0j h)]
theorem c4w (a:List Str):a6m a a = some true:=by
  unfold a6m
  rw [if_neg (by simp),b1z a a 0 (by simp)]
  rfl

/- JSON values: comparisons. -/
theorem b1a (rec:o8 → o8 → Option Bool) (b:List o8):∀ (xs:List o8) (i:Nat),(∀ x ∈ xs,rec x x = some true) → b.drop i = xs → a2x b rec xs i = some (.go ())
  | [],i,_,_ => by rw [a2x]
  | x :: xs,i,hr,h => by
    rw [a2x,b4y h,Option.bind_some,hr x (by simp),Option.bind_some,if_neg (by simp),b1a rec b xs (i + 1) (fun y hy => hr y (by simp [hy])) (b0j h)]
theorem b8z:∀ (k:Nat) (j:o8),a5w j < k → a4j k j j = some true
  | 0,j,h => by omega
  | k + 1,j,h => by
    rw [b6i] at h
    rw [a4j]
    unfold a8i a6t
    rw [if_neg (by simp),if_neg (by simp),if_neg (by simp),c4w,Option.bind_some,if_neg (by simp),if_neg (by simp),b1a (a4j k) j.Items j.Items 0 (fun y hy => b8z k y (by have:=b0a hy; omega)) (by simp)]
    simp
theorem c4x (j:o8) (h:a5w j < 2 ^ 61):a4j FUEL j j = some true:=b8z FUEL j (fuel_lt (by omega))
theorem p_eqJsonS (l:List o8) (h:a3p l < 2 ^ 61):a6t (a4j FUEL) l l = some true:=by
  unfold a6t
  rw [if_neg (by simp),b1a _ l l 0 (fun y hy => c4x y (by have:=b0a hy; omega)) (by simp)]
  rfl

theorem b2a:∀ (l:List Str) (n:Int),0 ≤ n → n ≤ 2 ^ 30 → (∀ a ∈ l,(okS) a) → a1q l n = some (.ret (-1)) ∨ ∃ r,a1q l n = some (.go r) ∧ r = n - (a7p l:Nat) ∧ 0 ≤ r
  | [],n,h0,h1,ok => .inr ⟨n,rfl,by simp [a7p],h0⟩
  | a :: l,n,h0,h1,ok => by
    rw [a1q]
    have k1:=ok a (by simp)
    simp only [okS,maxLen] at k1
    rw [a3h (by omega)]
    split
    · exact .inl rfl
    · rename_i h
      simp only [decide_eq_true_eq] at h
      rcases b2a l (n - a.length) (by omega) (by omega) (fun x hx => ok x (by simp [hx])) with h2 | ⟨r',e',g2,g3⟩
      · exact .inl h2
      · exact .inr ⟨r',e',by rw [g2]; simp only [a7p]; omega,g3⟩
theorem c4y (l:List Str) (n:Int) (h0:0 ≤ n) (h1:n ≤ 2 ^ 30) (ok:(okL (okS)) l):∃ r,a6e l n = some r ∧ (r < 0 ∨ (0 ≤ r ∧ r = n - (a5u l:Nat))):=by
  unfold a6e a5u
  have k1:=ok.1
  simp only [maxLen] at k1
  rw [a3h (by omega)]
  split
  · exact ⟨_,rfl,.inl (by omega)⟩
  · rename_i h
    simp only [decide_eq_true_eq] at h
    rcases b2a l (n - l.length) (by omega) (by omega) ok.2 with h2 | ⟨r',e',g1,g2⟩
    · exact ⟨-1,by rw [h2]; rfl,.inl (by omega)⟩
    · exact ⟨r',by rw [e']; rfl,.inr ⟨g2,by omega⟩⟩

/- JSON values: sizes. -/
theorem a4d.parts {x:o8} (h:a4d x):okS x.T ∧ okL okS x.Keys ∧ x.Items.length ≤ maxLen ∧ ∀ y ∈ x.Items,a4d y:=by
  cases h with
  | mk h0 h1 h2 h3 h4 h5 => exact ⟨h2,h3,h4,h5⟩
def b0b:List o8 → Nat
  | [] => 0
  | x :: xs => a5w x + b0b xs
theorem b9a:∀ l,a3p l = l.length + b0b l
  | [] => by simp [a3p,b0b]
  | x :: l => by simp only [a3p,b0b,List.length_cons,b9a l]; omega
theorem b5g (rec:o8 → Int → Option Int) (n0:Int) (hrec:∀ a n,0 ≤ n → n ≤ n0 → a4d a → ∃ r,rec a n = some r ∧ (r < 0 ∨ (0 ≤ r ∧ r = n - (a5w a:Nat)))):∀ (l:List o8) (n:Int),0 ≤ n → n ≤ n0 → (∀ a ∈ l,a4d a) → a2c rec l n = some (.ret (-1)) ∨ ∃ r,a2c rec l n = some (.go r) ∧ 0 ≤ r ∧ r = n - (b0b l:Nat)
  | [],n,h0,h1,ok => .inr ⟨n,rfl,h0,by simp [b0b]⟩
  | a :: l,n,h0,h1,ok => by
    rw [a2c]
    obtain ⟨r,e,hr⟩:=hrec a n h0 h1 (ok a (by simp))
    rw [e,Option.bind_some]
    split
    · exact .inl rfl
    · rename_i h
      simp only [decide_eq_true_eq] at h
      have hr:=hr.resolve_left h
      rcases b5g rec n0 hrec l r (by omega) (by omega) (fun x hx => ok x (by simp [hx])) with h2 | ⟨r',e',g1,g2⟩
      · exact .inl h2
      · exact .inr ⟨r',e',g1,by rw [g2,hr.2]; simp only [b0b]; omega⟩
theorem b9b:∀ (k:Nat) (j:o8) (n:Int),0 ≤ n → n < k → n ≤ 2 ^ 30 → a4d j → ∃ r,a4h k j n = some r ∧ (r < 0 ∨ (0 ≤ r ∧ r = n - (a5w j:Nat)))
  | 0,j,n,h0,h1,_,_ => by omega
  | k + 1,j,n,h0,h1,h2,ok => by
    rw [a4h,b6i]
    unfold a8g
    obtain ⟨o1,o2,o3,o4⟩:=ok.parts
    simp only [okS,maxLen] at o1 o3
    rw [a3h (by omega)]
    split
    · exact ⟨_,rfl,.inl (by omega)⟩
    rename_i c1
    simp only [decide_eq_true_eq] at c1
    obtain ⟨r,e,hr⟩:=c4y j.Keys (n - j.T.length) (by omega) (by omega) o2
    rw [e,Option.bind_some]
    split
    · exact ⟨_,rfl,.inl (by omega)⟩
    rename_i c2
    simp only [decide_eq_true_eq] at c2
    obtain ⟨g1,g2⟩:=hr.resolve_left c2
    have key:∃ r',a7v (a4h k) j.Items r = some r' ∧ (r' < 0 ∨ (0 ≤ r' ∧ r' = r - (a3p j.Items:Nat))):=by
      unfold a7v
      rw [a3h (by omega),b9a]
      split
      · exact ⟨_,rfl,.inl (by omega)⟩
      rename_i c3
      simp only [decide_eq_true_eq] at c3
      cases hi:j.Items with
      | nil => exact ⟨r,by simp [a2c],.inr ⟨by omega,by simp [b0b]⟩⟩
      | cons y ys =>
        rw [← hi]
        have hl:1 ≤ j.Items.length:=by rw [hi]; simp
        rcases b5g (a4h k) (n - 1) (fun a m a1 a2 a3 => b9b k a m a1 (by omega) (by omega) a3) j.Items (r - j.Items.length) (by omega) (by omega) o4 with h3 | ⟨r',e',f1,f2⟩
        · rw [h3]; exact ⟨_,rfl,.inl (by omega)⟩
        · rw [e']; exact ⟨_,rfl,.inr ⟨f1,by omega⟩⟩
    obtain ⟨r',e',hr'⟩:=key
    rw [e',Option.bind_some]
    split
    · exact ⟨_,rfl,.inl (by omega)⟩
    rename_i c4
    simp only [decide_eq_true_eq] at c4
    obtain ⟨q1,q2⟩:=hr'.resolve_left c4
    exact ⟨_,rfl,.inr ⟨q1,by omega⟩⟩
theorem d0g (j:o8) (n:Int) (h0:0 ≤ n) (h1:n ≤ 2 ^ 30) (ok:a4d j):∃ r,a4h FUEL j n = some r ∧ (r < 0 ∨ (0 ≤ r ∧ r = n - (a5w j:Nat))):=b9b FUEL j n h0 (by have:=fuel_lt (n:=n.toNat) (by omega); omega) h1 ok

theorem b2b:∀ (xs:List Str) (i:Nat) (out:List Str),(∀ a ∈ xs,True) → i + xs.length = out.length → a1r xs i out = some (out.take i ++ xs)
  | [],i,out,_,h => by
    rw [a1r]; simp at h; rw [h]; simp
  | x :: xs,i,out,hx,h => by
    rw [a1r]
    have hi:i < out.length:=by simp at h; omega
    rw [if_pos hi,List.getElem?_eq_getElem hi,Option.bind_some,b2b xs (i + 1) _ (fun a ha => hx a (by simp [ha])) (by simp at h ⊢; omega),b1t _ _ _ _ hi]
theorem c4z (a:List Str) (h:a5u a ≤ 2 ^ 30):a6f a = some a:=by
  unfold a6f
  rw [if_pos (by unfold a5u at h; omega),b2b a 0 _ (fun _ _ => trivial) (by simp)]
  rfl

/- JSON values: copies. -/
theorem b5h (rec:o8 → Option o8):∀ (xs:List o8) (i:Nat) (out:List o8),(∀ x ∈ xs,rec x = some x) → i + xs.length = out.length → a2s rec xs i out = some (out.take i ++ xs)
  | [],i,out,_,h => by rw [a2s]; simp at h; simp [h]
  | x :: xs,i,out,hr,h => by
    simp only [List.length_cons] at h
    rw [a2s,hr x (by simp),Option.bind_some,if_pos (by omega),List.getElem?_eq_getElem (by omega),Option.bind_some,b5h rec xs (i + 1) _ (fun y hy => hr y (by simp [hy])) (by simp; omega),b1t _ _ _ _ (by omega)]
theorem b9c:∀ (k:Nat) (j:o8),a5w j < k → a5w j ≤ 2 ^ 30 → a3n k j = some j
  | 0,j,h,_ => by omega
  | k + 1,j,h,h2 => by
    rw [b6i] at h h2
    have hl:=a9z j.Items
    rw [a3n]
    unfold a8h a9d
    rw [c4z _ (by omega),Option.bind_some,if_pos (by omega),b5h (a3n k) j.Items 0 _ (fun y hy => by have:=b0a hy; exact b9c k y (by omega) (by omega)) (by simp)]
    cases j
    simp
theorem d0h (j:o8) (h:a5w j ≤ 2 ^ 30):a3n FUEL j = some j:=b9c FUEL j (fuel_lt (by omega)) h

def c6q (x:y5):Nat:=x.T.length

def b5i:List y5 → Nat
  | [] => 0
  | x :: xs => c6q x + b5i xs
def b7k (l:List y5):Nat:=l.length + b5i l
theorem c5a:∀ {l:List y5} {x:y5},x ∈ l → c6q x ≤ b5i l
  | [],_,h => by simp at h
  | y :: l,x,h => by
    rw [b5i]
    rcases List.mem_cons.1 h with rfl | h
    · omega
    · have:=c5a h; omega
theorem c5b:∀ (l:List y5),a3k l ≤ 8 * b7k l
  | [] => by simp [a3k]
  | x :: l => by
    have ih:=c5b l
    unfold b7k at ih ⊢
    simp only [a3k,b5i,List.length_cons,c6q]
    omega
theorem fit_wtAtomS (l:List y5) (h:b7k l < 2 ^ 61):a4o l:=by
  unfold b7k at h
  unfold a4o
  omega

theorem b3o:∀ (l:List Str),a2b l ≤ 8 * a5u l
  | [] => by simp [a2b]
  | x :: l => by
    have ih:=b3o l
    unfold a5u at ih ⊢
    simp only [a2b,a7p,List.length_cons]
    omega
theorem c0c (l:List Str) (h:a5u l < 2 ^ 61):a4p l:=by
  unfold a5u at h
  unfold a4p
  omega

mutual
theorem b9d:∀ (x:o8),a9f x ≤ 8 * a5w x
  | ⟨_,_,_,ks,is⟩ => by
    have h1:=b3o ks
    have h2:=b6v is
    simp only [a9f,a5w]
    omega
theorem b6v:∀ (l:List o8),a3b l ≤ 8 * a3p l
  | [] => by simp [a3b]
  | x :: l => by
    have h1:=b9d x
    have h2:=b6v l
    simp only [a3b,a3p]
    omega
end
mutual
theorem b9e:∀ (x:o8),a5w x < 2 ^ 61 → b2v x
  | ⟨_,_,_,ks,is⟩,h => by
    simp only [a5w] at h
    have hl:=a9z is
    simp only [b2v]
    exact ⟨c0c ks (by omega),by omega,b2c is (by omega)⟩
theorem b2c:∀ (l:List o8),a3p l < 2 ^ 61 → a8r l
  | [],_ => by simp [a8r]
  | x :: l,h => by
    simp only [a3p] at h
    simp only [a8r]
    exact ⟨b9e x (by omega),b2c l (by omega)⟩
end
theorem fit_wtJsonS (l:List o8) (h:a3p l < 2 ^ 61):b1x l:=⟨by have:=a9z l; omega,b2c l h⟩
end Go.R
