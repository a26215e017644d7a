/- Plain laws of what this statement reaches. -/
import Derived.Test.YtgdkfnndbknjpaaGreatOPH
import Derived.Test.YtgdkfnndbknjpaaGreatP0
set_option linter.all false
namespace Go.R
open Go
set_option linter.all false
theorem a6n (f:(List a1c) → Option Bool) (p:(List a1c) → Bool):∀ (xs:List (List a1c)) (i:Nat),(∀ x ∈ xs,f x = some (p x)) → a1f f xs i = some (match xs.findIdx? p with | some k => .ret ((i + k:Nat):Int) | none => .go ())
 | [],i,_ => by rw [a1f]; rfl
 | x :: xs,i,h => by
  rw [a1f,h x (by simp),Option.bind_some,a6n f p xs (i + 1) (fun y hy => h y (by simp [hy])),List.findIdx?_cons]
  cases hp:p x with
  | true => simp
  | false =>
   cases hq:xs.findIdx? p with
   | none => simp
   | some k => simp; omega
theorem b0g (f:(List a1c) → Option Bool) (p:(List a1c) → Bool) (xs:List (List a1c)) (h:∀ x ∈ xs,f x = some (p x)):a3c xs f = some (match xs.findIdx? p with | some k => (k:Int) | none => -1):=by
 unfold a3c
 rw [a6n f p xs 0 h]
 cases hq:xs.findIdx? p with
 | none => rfl
 | some k => simp
theorem a6d (f:a0v → Option Bool) (p:a0v → Bool):∀ (xs:List a0v) (i:Nat),(∀ x ∈ xs,f x = some (p x)) → a1b f xs i = some (match xs.findIdx? p with | some k => .ret ((i + k:Nat):Int) | none => .go ())
 | [],i,_ => by rw [a1b]; rfl
 | x :: xs,i,h => by
  rw [a1b,h x (by simp),Option.bind_some,a6d f p xs (i + 1) (fun y hy => h y (by simp [hy])),List.findIdx?_cons]
  cases hp:p x with
  | true => simp
  | false =>
   cases hq:xs.findIdx? p with
   | none => simp
   | some k => simp; omega
theorem a6o (f:a0v → Option Bool) (p:a0v → Bool) (xs:List a0v) (h:∀ x ∈ xs,f x = some (p x)):a1y xs f = some (match xs.findIdx? p with | some k => (k:Int) | none => -1):=by
 unfold a1y
 rw [a6d f p xs 0 h]
 cases hq:xs.findIdx? p with
 | none => rfl
 | some k => simp
theorem a6t (f:a2v → Option Bool) (p:a2v → Bool):∀ (xs:List a2v) (i:Nat),(∀ x ∈ xs,f x = some (p x)) → a1h f xs i = some (match xs.findIdx? p with | some k => .ret ((i + k:Nat):Int) | none => .go ())
 | [],i,_ => by rw [a1h]; rfl
 | x :: xs,i,h => by
  rw [a1h,h x (by simp),Option.bind_some,a6t f p xs (i + 1) (fun y hy => h y (by simp [hy])),List.findIdx?_cons]
  cases hp:p x with
  | true => simp
  | false =>
   cases hq:xs.findIdx? p with
   | none => simp
   | some k => simp; omega
theorem b0p (f:a2v → Option Bool) (p:a2v → Bool) (xs:List a2v) (h:∀ x ∈ xs,f x = some (p x)):a3j xs f = some (match xs.findIdx? p with | some k => (k:Int) | none => -1):=by
 unfold a3j
 rw [a6t f p xs 0 h]
 cases hq:xs.findIdx? p with
 | none => rfl
 | some k => simp
theorem a7a (f:a5i → Option Bool) (p:a5i → Bool):∀ (xs:List a5i) (i:Nat),(∀ x ∈ xs,f x = some (p x)) → a1l f xs i = some (match xs.findIdx? p with | some k => .ret ((i + k:Nat):Int) | none => .go ())
 | [],i,_ => by rw [a1l]; rfl
 | x :: xs,i,h => by
  rw [a1l,h x (by simp),Option.bind_some,a7a f p xs (i + 1) (fun y hy => h y (by simp [hy])),List.findIdx?_cons]
  cases hp:p x with
  | true => simp
  | false =>
   cases hq:xs.findIdx? p with
   | none => simp
   | some k => simp; omega
theorem b1c (f:a5i → Option Bool) (p:a5i → Bool) (xs:List a5i) (h:∀ x ∈ xs,f x = some (p x)):a3p xs f = some (match xs.findIdx? p with | some k => (k:Int) | none => -1):=by
 unfold a3p
 rw [a7a f p xs 0 h]
 cases hq:xs.findIdx? p with
 | none => rfl
 | some k => simp
theorem a7b (f:b2j → Option Bool) (p:b2j → Bool):∀ (xs:List b2j) (i:Nat),(∀ x ∈ xs,f x = some (p x)) → a1n f xs i = some (match xs.findIdx? p with | some k => .ret ((i + k:Nat):Int) | none => .go ())
 | [],i,_ => by rw [a1n]; rfl
 | x :: xs,i,h => by
  rw [a1n,h x (by simp),Option.bind_some,a7b f p xs (i + 1) (fun y hy => h y (by simp [hy])),List.findIdx?_cons]
  cases hp:p x with
  | true => simp
  | false =>
   cases hq:xs.findIdx? p with
   | none => simp
   | some k => simp; omega
theorem b1d (f:b2j → Option Bool) (p:b2j → Bool) (xs:List b2j) (h:∀ x ∈ xs,f x = some (p x)):a3r xs f = some (match xs.findIdx? p with | some k => (k:Int) | none => -1):=by
 unfold a3r
 rw [a7b f p xs 0 h]
 cases hq:xs.findIdx? p with
 | none => rfl
 | some k => simp
theorem a7c (f:a3l → Option Bool) (p:a3l → Bool):∀ (xs:List a3l) (i:Nat),(∀ x ∈ xs,f x = some (p x)) → a1m f xs i = some (match xs.findIdx? p with | some k => .ret ((i + k:Nat):Int) | none => .go ())
 | [],i,_ => by rw [a1m]; rfl
 | x :: xs,i,h => by
  rw [a1m,h x (by simp),Option.bind_some,a7c f p xs (i + 1) (fun y hy => h y (by simp [hy])),List.findIdx?_cons]
  cases hp:p x with
  | true => simp
  | false =>
   cases hq:xs.findIdx? p with
   | none => simp
   | some k => simp; omega
theorem b1e (f:a3l → Option Bool) (p:a3l → Bool) (xs:List a3l) (h:∀ x ∈ xs,f x = some (p x)):a3q xs f = some (match xs.findIdx? p with | some k => (k:Int) | none => -1):=by
 unfold a3q
 rw [a7c f p xs 0 h]
 cases hq:xs.findIdx? p with
 | none => rfl
 | some k => simp
theorem a6g (f:a0q → Option Bool) (p:a0q → Bool):∀ (xs:List a0q) (i:Nat),(∀ x ∈ xs,f x = some (p x)) → a1d f xs i = some (match xs.findIdx? p with | some k => .ret ((i + k:Nat):Int) | none => .go ())
 | [],i,_ => by rw [a1d]; rfl
 | x :: xs,i,h => by
  rw [a1d,h x (by simp),Option.bind_some,a6g f p xs (i + 1) (fun y hy => h y (by simp [hy])),List.findIdx?_cons]
  cases hp:p x with
  | true => simp
  | false =>
   cases hq:xs.findIdx? p with
   | none => simp
   | some k => simp; omega
theorem a6w (f:a0q → Option Bool) (p:a0q → Bool) (xs:List a0q) (h:∀ x ∈ xs,f x = some (p x)):a2d xs f = some (match xs.findIdx? p with | some k => (k:Int) | none => -1):=by
 unfold a2d
 rw [a6g f p xs 0 h]
 cases hq:xs.findIdx? p with
 | none => rfl
 | some k => simp
theorem a7y (f:Str → Option Bool) (p:Str → Bool):∀ (xs:List Str) (i:Nat),(∀ x ∈ xs,f x = some (p x)) → a1t f xs i = some (match xs.findIdx? p with | some k => .ret ((i + k:Nat):Int) | none => .go ())
 | [],i,_ => by rw [a1t]; rfl
 | x :: xs,i,h => by
  rw [a1t,h x (by simp),Option.bind_some,a7y f p xs (i + 1) (fun y hy => h y (by simp [hy])),List.findIdx?_cons]
  cases hp:p x with
  | true => simp
  | false =>
   cases hq:xs.findIdx? p with
   | none => simp
   | some k => simp; omega
theorem b3d (f:Str → Option Bool) (p:Str → Bool) (xs:List Str) (h:∀ x ∈ xs,f x = some (p x)):a4f xs f = some (match xs.findIdx? p with | some k => (k:Int) | none => -1):=by
 unfold a4f
 rw [a7y f p xs 0 h]
 cases hq:xs.findIdx? p with
 | none => rfl
 | some k => simp
theorem a9p (f:(List a1c) → Option Bool) (p:(List a1c) → Bool) (xs:List (List a1c)) (h:∀ x ∈ xs,f x = some (p x)):a2o xs f = some (xs.any p):=by
 unfold a2o
 rw [b0g f p xs h,Option.bind_some]
 cases hq:xs.findIdx? p with
 | none =>
  have:xs.any p = false:=by
   rw [List.any_eq_false]
   intro x hx
   have:=List.findIdx?_eq_none_iff.1 hq x hx
   simp [this]
  rw [this]; rfl
 | some k =>
  have:xs.any p = true:=by
   obtain ⟨x,hx,hp⟩:∃ x,x ∈ xs ∧ p x = true:=by
    have:=List.findIdx?_eq_some_iff_getElem.1 hq
    obtain ⟨hk,h1,_⟩:=this
    exact ⟨xs[k],List.getElem_mem _,h1⟩
   exact List.any_eq_true.2 ⟨x,hx,hp⟩
  rw [this]
  simp
theorem a8z (f:a0v → Option Bool) (p:a0v → Bool) (xs:List a0v) (h:∀ x ∈ xs,f x = some (p x)):a2h xs f = some (xs.any p):=by
 unfold a2h
 rw [a6o f p xs h,Option.bind_some]
 cases hq:xs.findIdx? p with
 | none =>
  have:xs.any p = false:=by
   rw [List.any_eq_false]
   intro x hx
   have:=List.findIdx?_eq_none_iff.1 hq x hx
   simp [this]
  rw [this]; rfl
 | some k =>
  have:xs.any p = true:=by
   obtain ⟨x,hx,hp⟩:∃ x,x ∈ xs ∧ p x = true:=by
    have:=List.findIdx?_eq_some_iff_getElem.1 hq
    obtain ⟨hk,h1,_⟩:=this
    exact ⟨xs[k],List.getElem_mem _,h1⟩
   exact List.any_eq_true.2 ⟨x,hx,hp⟩
  rw [this]
  simp
theorem a9v (f:a2v → Option Bool) (p:a2v → Bool) (xs:List a2v) (h:∀ x ∈ xs,f x = some (p x)):a2r xs f = some (xs.any p):=by
 unfold a2r
 rw [b0p f p xs h,Option.bind_some]
 cases hq:xs.findIdx? p with
 | none =>
  have:xs.any p = false:=by
   rw [List.any_eq_false]
   intro x hx
   have:=List.findIdx?_eq_none_iff.1 hq x hx
   simp [this]
  rw [this]; rfl
 | some k =>
  have:xs.any p = true:=by
   obtain ⟨x,hx,hp⟩:∃ x,x ∈ xs ∧ p x = true:=by
    have:=List.findIdx?_eq_some_iff_getElem.1 hq
    obtain ⟨hk,h1,_⟩:=this
    exact ⟨xs[k],List.getElem_mem _,h1⟩
   exact List.any_eq_true.2 ⟨x,hx,hp⟩
  rw [this]
  simp
theorem b0h (f:a5i → Option Bool) (p:a5i → Bool) (xs:List a5i) (h:∀ x ∈ xs,f x = some (p x)):a3a xs f = some (xs.any p):=by
 unfold a3a
 rw [b1c f p xs h,Option.bind_some]
 cases hq:xs.findIdx? p with
 | none =>
  have:xs.any p = false:=by
   rw [List.any_eq_false]
   intro x hx
   have:=List.findIdx?_eq_none_iff.1 hq x hx
   simp [this]
  rw [this]; rfl
 | some k =>
  have:xs.any p = true:=by
   obtain ⟨x,hx,hp⟩:∃ x,x ∈ xs ∧ p x = true:=by
    have:=List.findIdx?_eq_some_iff_getElem.1 hq
    obtain ⟨hk,h1,_⟩:=this
    exact ⟨xs[k],List.getElem_mem _,h1⟩
   exact List.any_eq_true.2 ⟨x,hx,hp⟩
  rw [this]
  simp
theorem b0i (f:b2j → Option Bool) (p:b2j → Bool) (xs:List b2j) (h:∀ x ∈ xs,f x = some (p x)):a3b xs f = some (xs.any p):=by
 unfold a3b
 rw [b1d f p xs h,Option.bind_some]
 cases hq:xs.findIdx? p with
 | none =>
  have:xs.any p = false:=by
   rw [List.any_eq_false]
   intro x hx
   have:=List.findIdx?_eq_none_iff.1 hq x hx
   simp [this]
  rw [this]; rfl
 | some k =>
  have:xs.any p = true:=by
   obtain ⟨x,hx,hp⟩:∃ x,x ∈ xs ∧ p x = true:=by
    have:=List.findIdx?_eq_some_iff_getElem.1 hq
    obtain ⟨hk,h1,_⟩:=this
    exact ⟨xs[k],List.getElem_mem _,h1⟩
   exact List.any_eq_true.2 ⟨x,hx,hp⟩
  rw [this]
  simp
theorem a7d (f:a3l → Option Bool) (p:a3l → Bool) (xs:List a3l) (h:∀ x ∈ xs,f x = some (p x)):a2i xs f = some (xs.any p):=by
 unfold a2i
 rw [b1e f p xs h,Option.bind_some]
 cases hq:xs.findIdx? p with
 | none =>
  have:xs.any p = false:=by
   rw [List.any_eq_false]
   intro x hx
   have:=List.findIdx?_eq_none_iff.1 hq x hx
   simp [this]
  rw [this]; rfl
 | some k =>
  have:xs.any p = true:=by
   obtain ⟨x,hx,hp⟩:∃ x,x ∈ xs ∧ p x = true:=by
    have:=List.findIdx?_eq_some_iff_getElem.1 hq
    obtain ⟨hk,h1,_⟩:=this
    exact ⟨xs[k],List.getElem_mem _,h1⟩
   exact List.any_eq_true.2 ⟨x,hx,hp⟩
  rw [this]
  simp
theorem a9h (f:a0q → Option Bool) (p:a0q → Bool) (xs:List a0q) (h:∀ x ∈ xs,f x = some (p x)):a2l xs f = some (xs.any p):=by
 unfold a2l
 rw [a6w f p xs h,Option.bind_some]
 cases hq:xs.findIdx? p with
 | none =>
  have:xs.any p = false:=by
   rw [List.any_eq_false]
   intro x hx
   have:=List.findIdx?_eq_none_iff.1 hq x hx
   simp [this]
  rw [this]; rfl
 | some k =>
  have:xs.any p = true:=by
   obtain ⟨x,hx,hp⟩:∃ x,x ∈ xs ∧ p x = true:=by
    have:=List.findIdx?_eq_some_iff_getElem.1 hq
    obtain ⟨hk,h1,_⟩:=this
    exact ⟨xs[k],List.getElem_mem _,h1⟩
   exact List.any_eq_true.2 ⟨x,hx,hp⟩
  rw [this]
  simp
theorem a5p (f:Str → Option Bool) (p:Str → Bool) (xs:List Str) (h:∀ x ∈ xs,f x = some (p x)):a2g xs f = some (xs.any p):=by
 unfold a2g
 rw [b3d f p xs h,Option.bind_some]
 cases hq:xs.findIdx? p with
 | none =>
  have:xs.any p = false:=by
   rw [List.any_eq_false]
   intro x hx
   have:=List.findIdx?_eq_none_iff.1 hq x hx
   simp [this]
  rw [this]; rfl
 | some k =>
  have:xs.any p = true:=by
   obtain ⟨x,hx,hp⟩:∃ x,x ∈ xs ∧ p x = true:=by
    have:=List.findIdx?_eq_some_iff_getElem.1 hq
    obtain ⟨hk,h1,_⟩:=this
    exact ⟨xs[k],List.getElem_mem _,h1⟩
   exact List.any_eq_true.2 ⟨x,hx,hp⟩
  rw [this]
  simp
def b7r (c:UInt8):Bool:=!(decide ((c.toNat:Int) < 32) || decide ((c.toNat:Int) > 126))
def c5o (t:Str):Bool:=t.all b7r && decide ((t.length:Int) ≤ 200)
theorem c5p:∀ t:Str,a5s t = some (if t.all b7r = true then .go () else .ret false)
 | [] => by rw [a5s]; simp
 | x :: xs => by
  rw [a5s,c5p xs]
  by_cases h1:(x.toNat:Int) < 32
  ·simp [h1,b7r]
  ·by_cases h2:(x.toNat:Int) > 126
   ·simp [h1,h2,b7r]
   ·simp [h1,h2,b7r]
theorem e0b (t:Str):b2m t = some (c5o t):=by
 unfold b2m c5o
 rw [c5p]
 by_cases h:t.all b7r = true
 ·simp only [h,if_pos,Option.bind_some,Bool.true_and]
 ·simp only [h,Bool.not_eq_true] at h ⊢
  simp [h]
theorem a9w (n a b:Int):a3t n a b = some (decide (a ≤ n ∧ n ≤ b)):=by
 unfold a3t
 by_cases h:a ≤ n <;> simp [h]
theorem c7x:∀ t:Str,a5w t = some (if t.all b7r = true then .go () else .ret false)
 | [] => by rw [a5w]; simp
 | x :: xs => by
  rw [a5w,c7x xs]
  by_cases h1:(x.toNat:Int) < 32
  ·simp [h1,b7r]
  ·by_cases h2:(x.toNat:Int) > 126
   ·simp [h1,h2,b7r]
   ·simp [h1,h2,b7r]
theorem e1j (t:Str):b2u t = some (c5o t):=by
 unfold b2u c5o
 rw [c7x]
 by_cases h:t.all b7r = true
 ·simp only [h,if_pos,Option.bind_some,Bool.true_and]
 ·simp only [h,Bool.not_eq_true] at h ⊢
  simp [h]
theorem c2a (n a b:Int):a3f n a b = some (decide (a ≤ n ∧ n ≤ b)):=by
 unfold a3f
 by_cases h:a ≤ n <;> simp [h]
theorem c5q:∀ a b:Str,Lib.compareBytes a b = -1 ∨ Lib.compareBytes a b = 0 ∨ Lib.compareBytes a b = 1
 | [],[] => by simp [Lib.compareBytes]
 | [],_ :: _ => by simp [Lib.compareBytes]
 | _ :: _,[] => by simp [Lib.compareBytes]
 | a :: xs,b :: ys => by
  have:=c5q xs ys
  unfold Lib.compareBytes
  split
  ·simp
  ·split
   ·simp
   ·exact this
theorem d2j (a b:UInt8):a < b ∨ a = b ∨ b < a:=by
 simp only [UInt8.lt_iff_toNat_lt,← UInt8.toNat_inj]
 omega
theorem c3p {a b:UInt8} (h:a < b):¬ b < a:=by
 simp only [UInt8.lt_iff_toNat_lt] at *
 omega
theorem c7y:∀ a b:Str,Lib.compareBytes b a = - Lib.compareBytes a b
 | [],[] => by simp [Lib.compareBytes]
 | [],_ :: _ => by simp [Lib.compareBytes]
 | _ :: _,[] => by simp [Lib.compareBytes]
 | a :: xs,b :: ys => by
  have ih:=c7y xs ys
  unfold Lib.compareBytes
  rcases d2j a b with h | h | h
  ·simp [h,c3p h]
  ·subst h; simp [UInt8.lt_irrefl,ih]
  ·simp [h,c3p h]
theorem b8h:∀ a b:Str,Lib.compareBytes a b = 0 ↔ a = b
 | [],[] => by simp [Lib.compareBytes]
 | [],_ :: _ => by simp [Lib.compareBytes]
 | _ :: _,[] => by simp [Lib.compareBytes]
 | a :: xs,b :: ys => by
  have ih:=b8h xs ys
  unfold Lib.compareBytes
  rcases d2j a b with h | h | h
  ·have hne:a ≠ b:=by rintro rfl; exact UInt8.lt_irrefl _ h
   simp [h,hne]
  ·subst h; simp [UInt8.lt_irrefl,ih]
  ·have hne:a ≠ b:=by rintro rfl; exact UInt8.lt_irrefl _ h
   simp [h,c3p h,hne]
theorem c7z:∀ a b:Str,Op.bytesLess a b = decide (Lib.compareBytes a b < 0)
 | [],[] => by simp [Lib.compareBytes,Op.bytesLess]
 | [],_ :: _ => by simp [Lib.compareBytes,Op.bytesLess]
 | _ :: _,[] => by simp [Lib.compareBytes,Op.bytesLess]
 | a :: xs,b :: ys => by
  have ih:=c7z xs ys
  unfold Lib.compareBytes Op.bytesLess
  rcases d2j a b with h | h | h
  ·simp [h]
  ·subst h; simp [UInt8.lt_irrefl,ih]
  ·have hne:¬ a = b:=by rintro rfl; exact UInt8.lt_irrefl _ h
   simp [h,c3p h,hne]
def b6y (a b:a1c):Int:=if a.Kind ≠ b.Kind then (if a.Kind < b.Kind then -1 else 1) else if a.N ≠ b.N then (if a.N < b.N then -1 else 1) else Lib.compareBytes a.T b.T
theorem d5n (a b:a1c):b6y a b = 0 ↔ a = b:=by
 unfold b6y
 cases a with | mk k n t =>
 cases b with | mk k' n' t' =>
 simp only [a1c.mk.injEq]
 by_cases h1:k = k'
 ·subst h1
  by_cases h2:n = n'
  ·subst h2; simp [b8h]
  ·simp [h2]; split <;> omega
 ·simp [h1]; split <;> omega
theorem d5o (a b:a1c):b6y b a = - b6y a b:=by
 unfold b6y
 cases a with | mk k n t =>
 cases b with | mk k' n' t' =>
 by_cases h1:k = k'
 ·subst h1
  by_cases h2:n = n'
  ·subst h2; simp [c7y t t']
  ·have h3:¬ n' = n:=fun h => h2 h.symm
   simp [h2,h3]; split <;> split <;> omega
 ·have h3:¬ k' = k:=fun h => h1 h.symm
  simp [h1,h3]; split <;> split <;> omega
theorem d8n (x y:Int):cmp_Compare_int x y = some (if x < y then -1 else if x > y then 1 else 0):=by
 unfold cmp_Compare_int cmp_isNaN_int
 by_cases h1:x < y <;> by_cases h2:x > y <;> simp [h1,h2]
theorem c5r (a b:a1c):a7m a b = some (b6y a b):=by
 unfold a7m strings_Compare a4y b6w
 simp only [d8n,Option.bind_some]
 unfold b6y
 by_cases h1:a.Kind = b.Kind
 ·by_cases h2:a.N = b.N
  ·have e1:(if a.Kind < b.Kind then (-1:Int) else if a.Kind > b.Kind then 1 else 0) = 0:=by rw [h1]; simp
   have e2:(if a.N < b.N then (-1:Int) else if a.N > b.N then 1 else 0) = 0:=by rw [h2]; simp
   rw [e1,e2]
   simp only [a5o,h1,h2]
   by_cases h3:Lib.compareBytes a.T b.T = 0
   ·simp [h3]
   ·simp [h3]
  ·have e1:(if a.Kind < b.Kind then (-1:Int) else if a.Kind > b.Kind then 1 else 0) = 0:=by rw [h1]; simp
   rw [e1]
   rcases Int.lt_or_gt_of_ne h2 with h3 | h3
   ·simp [a5o,h1,h2,h3]
   ·have h4:¬ a.N < b.N:=by omega
    simp [a5o,h1,h2,h3,h4]
 ·rcases Int.lt_or_gt_of_ne h1 with h3 | h3
  ·simp [a5o,h1,h3]
  ·have h4:¬ a.Kind < b.Kind:=by omega
   simp [a5o,h1,h3,h4]
theorem d4a (a b:a1c):a8s a b = some (b6y a b):=by
 unfold a8s b2c b6y
 have w0:w64 (1 - w64 0) = 1:=by decide
 have w1:w64 (1 - w64 2) = -1:=by decide
 by_cases h1:a.Kind = b.Kind
 ·by_cases h2:a.N = b.N
  ·simp only [h1,h2,bne_self_eq_false,Bool.false_eq_true,if_false,ne_eq,not_true_eq_false,c7z]
   by_cases h3:a.T = b.T
   ·simp [h3,(b8h b.T b.T).2 rfl]
   ·have hne:Lib.compareBytes a.T b.T ≠ 0:=fun h => h3 ((b8h _ _).1 h)
    rcases c5q a.T b.T with h | h | h
    ·simp [h3,h,w1]
    ·exact absurd h hne
    ·simp [h3,h,w0]
  ·by_cases h3:a.N < b.N <;> simp [h1,h2,h3,w0,w1]
 ·by_cases h3:a.Kind < b.Kind <;> simp [h1,h3,w0,w1]
def b3g (a:a1c):Bool :=
 (decide (a.Kind = 1) && decide (-1000000000 ≤ a.N ∧ a.N ≤ 1000000000) && decide (a.T = [])) ||
 (decide (a.Kind = 2) && decide (a.N = 0) && c5o a.T) ||
 (decide (a.Kind = 3) && decide (0 ≤ a.N ∧ a.N ≤ 1) && decide (a.T = [])) ||
 (decide (a.Kind = 4) && decide (1 ≤ a.N ∧ a.N ≤ 1000000) && decide (a.T = []))
theorem d8o (a:a1c):b2d a = some (b3g a):=by
 unfold b2d a8u b8g b3g
 simp only [a9w,e0b,Option.bind_some]
 by_cases h1:a.Kind = 1
 ·simp only [h1]
  by_cases c:(-1000000000 ≤ a.N ∧ a.N ≤ 1000000000) <;> by_cases d:a.T = [] <;> simp [c,d]
 by_cases h2:a.Kind = 2
 ·simp only [h2]
  by_cases c:a.N = 0 <;> simp [c]
 by_cases h3:a.Kind = 3
 ·simp only [h3]
  by_cases c:(0 ≤ a.N ∧ a.N ≤ 1) <;> by_cases d:a.T = [] <;> simp [c,d]
 by_cases h4:a.Kind = 4
 ·simp only [h4]
  by_cases c:(1 ≤ a.N ∧ a.N ≤ 1000000) <;> by_cases d:a.T = [] <;> simp [c,d]
 ·simp [h1,h2,h3,h4]
def c5s (d:List a1c) (q:Nat) (x:a1c):Bool :=
 b3g x && (match d[0]? with | some h => x.Kind == h.Kind | none => false) && (q == 0 || match d[q - 1]? with | some y => decide (b6y y x < 0) | none => false)
def allS (d:List a1c):List a1c → Nat → Bool
 | [],_ => true
 | x :: xs,i => c5s d i x && allS d xs (i + 1)
def b5m (d:List a1c):Bool:=allS d d 0 && decide ((d.length:Int) ≤ 8)
theorem d1d (d:List a1c):∀ (xs:List a1c) (i:Nat),allS d xs i = true ↔ ∀ q x,xs[q]? = some x → c5s d (i + q) x = true
 | [],i => by simp [allS]
 | x :: xs,i => by
  simp only [allS,Bool.and_eq_true,d1d d xs (i + 1)]
  constructor
  ·rintro ⟨h1,h2⟩ q y hq
   cases q with
   | zero => simp at hq; subst hq; simpa using h1
   | succ q => have:=h2 q y (by simpa using hq); rw [show i + (q + 1) = i + 1 + q from by omega]; exact this
  ·intro h
   refine ⟨by simpa using h 0 x (by simp),fun q y hq => ?_⟩
   have:=h (q + 1) y (by simpa using hq)
   rw [show i + 1 + q = i + (q + 1) from by omega]; exact this
theorem d8p (d:List a1c) (i:Nat) (x:a1c) (hi:i < d.length) (hl:d.length ≤ maxLen) (A:a1c → Option Bool) (hA:∀ a,A a = some (b3g a)) (O:a1c → a1c → Option Int) (hO:∀ a b,O a b = some (b6y a b)) :
  ((A x).bind fun r_110 =>
  if (!r_110) then
  some true
  else
  (idx d 0).bind fun x_113 =>
  if (x.Kind != x_113.Kind) then
  some true
  else
  if (decide ((i:Int) > 0)) then
  (idx d (w64 ((i:Int) - 1))).bind fun x_117 =>
  (O x_117 x).bind fun r_119 =>
  some (decide (r_119 ≥ 0))
  else
  some false:Option Bool) = some (!c5s d i x):=by
 simp only [maxLen] at hl
 obtain ⟨h,hh⟩:∃ h,d[0]? = some h:=⟨d[0],List.getElem?_eq_getElem (by omega)⟩
 have e0:idx d 0 = some h:=by rw [show (0:Int) = ((0:Nat):Int) from rfl,b0b,hh]
 rw [hA,Option.bind_some,e0]
 unfold c5s
 rw [hh]
 by_cases ha:b3g x = true
 ·by_cases hk:x.Kind = h.Kind
  ·by_cases h0:i = 0
   ·subst h0; simp [ha,hk]
   ·obtain ⟨y,hy⟩:∃ y,d[i - 1]? = some y:=⟨d[i - 1],List.getElem?_eq_getElem (by omega)⟩
    have e1:w64 ((i:Int) - 1) = ((i - 1:Nat):Int):=by rw [a6f (by omega)]; omega
    rw [e1,b0b,hy]
    have hp:0 < i:=by omega
    simp [ha,hk,h0,hO,hp]
    by_cases hc:b6y y x < 0
    ·have:¬ 0 ≤ b6y y x:=by omega
     simp [hc,this,h0]
    ·have:0 ≤ b6y y x:=by omega
     simp [hc,this,h0]
  ·simp [ha,hk]
 ·simp only [Bool.not_eq_true] at ha
  simp [ha]
theorem c0z (d:List a1c) (hl:d.length ≤ maxLen):∀ (xs:List a1c) (i:Nat),d.drop i = xs → a5t d xs i = some (if allS d xs i = true then .go () else .ret false)
 | [],i,h => by rw [a5t]; simp [allS]
 | x :: xs,i,h => by
  rw [a5t,d8p d i x (b4l h) hl b2d d8o a7m c5r,Option.bind_some,c0z d hl xs (i + 1) (a9y h)]
  cases hs:c5s d i x <;> simp [allS,hs]
theorem b8i (d:List a1c) (hl:d.length ≤ maxLen):a8q d = some (b5m d):=by
 unfold a8q b5m
 rw [c0z d hl d 0 (by simp)]
 cases allS d d 0 <;> simp
structure b8y (k:Int) (d:List a1c):Prop where
 atom:∀ x ∈ d,b3g x = true ∧ x.Kind = k
 ord:∀ i x y,d[i]? = some x → d[i + 1]? = some y → b6y x y < 0
theorem b8y.allS {k:Int} {d:List a1c} (h:b8y k d):allS d d 0 = true:=by
 rw [d1d]
 intro q x hq
 obtain ⟨h1,h2⟩:=h.atom x (List.mem_of_getElem? hq)
 have hlt:=(List.getElem?_eq_some_iff.1 hq).1
 obtain ⟨z,hz⟩:∃ z,d[0]? = some z:=⟨d[0],List.getElem?_eq_getElem (by omega)⟩
 obtain ⟨_,g2⟩:=h.atom z (List.mem_of_getElem? hz)
 unfold c5s
 simp only [Nat.zero_add,h1,hz,h2,g2,Bool.true_and,beq_self_eq_true]
 by_cases h0:q = 0
 ·simp [h0]
 ·obtain ⟨y,hy⟩:∃ y,d[q - 1]? = some y:=⟨d[q - 1],List.getElem?_eq_getElem (by omega)⟩
  have:=h.ord (q - 1) y x hy (by rw [show q - 1 + 1 = q from by omega]; exact hq)
  simp [hy,this]
theorem d5p (a:a1c):b2f a = some (b3g a):=by
 unfold b2f b3g
 simp only [c2a,e1j,Option.bind_some]
 by_cases h1:a.Kind = 1
 ·simp only [h1]
  by_cases c:(-1000000000 ≤ a.N ∧ a.N ≤ 1000000000) <;> by_cases d:a.T = [] <;> simp [c,d]
 by_cases h2:a.Kind = 2
 ·simp only [h2]
  by_cases c:a.N = 0 <;> simp [c]
 by_cases h3:a.Kind = 3
 ·simp only [h3]
  by_cases c:(0 ≤ a.N ∧ a.N ≤ 1) <;> by_cases d:a.T = [] <;> simp [c,d]
 by_cases h4:a.Kind = 4
 ·simp only [h4]
  by_cases c:(1 ≤ a.N ∧ a.N ≤ 1000000) <;> by_cases d:a.T = [] <;> simp [c,d]
 ·simp [h1,h2,h3,h4]
theorem b8z (d:List a1c) (hl:d.length ≤ maxLen):∀ (xs:List a1c) (i:Nat),d.drop i = xs → a5x d xs i = some (if allS d xs i = true then .go () else .ret false)
 | [],i,h => by rw [a5x]; simp [allS]
 | x :: xs,i,h => by
  rw [a5x,d8p d i x (b4l h) hl b2f d5p a8s d4a,Option.bind_some,b8z d hl xs (i + 1) (a9y h)]
  cases hs:c5s d i x <;> simp [allS,hs]
theorem b9x (d:List a1c):a9n d = some (b5m d):=by
 unfold a9n b5m
 by_cases h:(d.length:Int) > 4096
 ·rw [if_pos (by simpa using h)]
  have:¬ (d.length:Int) ≤ 8:=by omega
  simp [this]
 ·rw [if_neg (by simpa using h),b8z d (by simp only [maxLen]; omega) d 0 (by simp)]
  cases allS d d 0 <;> simp
def isLet (c:Int):Bool:=(decide (97 ≤ c) && decide (c ≤ 122)) || (decide (65 ≤ c) && decide (c ≤ 90)) || c == 95
def c2o (c:Int):Bool:=decide (48 ≤ c) && decide (c ≤ 57)
theorem c2p (c:Int):a9e c = some (isLet c):=by
 unfold a9e isLet
 by_cases h1:97 ≤ c <;> by_cases h2:c ≤ 122 <;> by_cases h3:65 ≤ c <;> by_cases h4:c ≤ 90 <;> by_cases h5:c = 95 <;> simp [h1,h2,h3,h4,h5]
theorem d2k (c:Int):b1k c = some (c2o c):=by
 unfold b1k c2o
 by_cases h1:48 ≤ c <;> simp [h1]
theorem d5q (c:Int):b2k c = some (c2o c):=by
 unfold b2k c2o
 by_cases h1:48 ≤ c <;> simp [h1]
def b6z (b:UInt8):Bool:=isLet b.toNat || c2o b.toNat
def a4v (t:Str):Bool:=decide (1 ≤ t.length) && decide (t.length ≤ 40) && isLet (t.headD 0).toNat && (t.drop 1).all b6z
theorem c1b:∀ (t:Str),a5u t = some (if t.all b6z then .go () else .ret false)
 | [] => by rw [a5u]; rfl
 | c :: t => by
  rw [a5u,c2p,Option.bind_some,d2k,c1b t]
  cases h1:isLet (c.toNat:Int) <;> cases h2:c2o (c.toNat:Int) <;> simp [b6z,h1,h2]
theorem d5r (t:Str):b2t t = some (a4v t):=by
 unfold b2t a4v
 cases t with
 | nil => rfl
 | cons c t =>
  have e:idx (c :: t) 0 = some c:=rfl
  rw [e,Option.bind_some,c2p,Option.bind_some,c1b]
  have e1:decide (((c :: t).length:Int) < 1) = false:=decide_eq_false (by simp only [List.length_cons]; omega)
  have e2:decide (1 ≤ (c :: t).length) = true:=decide_eq_true (by simp only [List.length_cons]; omega)
  rw [e1,e2]
  by_cases h:(c :: t).length ≤ 40
  ·have e3:decide (((c :: t).length:Int) > 40) = false:=decide_eq_false (by omega)
   have e4:decide ((c :: t).length ≤ 40) = true:=decide_eq_true h
   rw [e3,e4]
   cases h1:isLet (c.toNat:Int) <;> cases h3:t.all b6z <;> simp [h1,h3]
  ·have e3:decide (((c :: t).length:Int) > 40) = true:=decide_eq_true (by omega)
   have e4:decide ((c :: t).length ≤ 40) = false:=decide_eq_false h
   rw [e3,e4]
   simp
theorem b4n (t:Str):a7x t = some (a4v t):=by
 unfold a7x
 rw [d5r]; rfl
def d1e (p:UInt8 × Nat):Bool:=isLet p.1.toNat || (p.2 != 0 && c2o p.1.toNat)
theorem c2r:∀ (t:Str) (i:Nat),a6l t i = some (if (t.zipIdx i).all d1e then .go () else .ret false)
 | [],i => by rw [a6l]; rfl
 | c :: t,i => by
  have e0:((i:Int) == 0) = (i == 0):=by cases i <;> simp; omega
  rw [a6l,c2r t (i + 1),List.zipIdx_cons,List.all_cons,d5q,e0]
  unfold d1e isLet
  generalize (List.zipIdx t (i + 1)).all _ = A
  generalize c2o (c.toNat:Int) = D
  generalize (c.toNat:Int) = n
  by_cases h1:97 ≤ n <;> by_cases h2:n ≤ 122 <;> by_cases h3:65 ≤ n <;> by_cases h4:n ≤ 90 <;> by_cases h5:n = 95 <;> cases D <;> by_cases h0:i = 0 <;> simp [h1,h2,h3,h4,h5,h0]
theorem b7s (t:Str):a7i t = some (a4v t):=by
 unfold a7i a4v
 rw [c2r,Option.bind_some]
 have hz:∀ (r:Str) (k:Nat),(r.zipIdx (k + 1)).all d1e = r.all b6z:=by
  intro r
  induction r with
  | nil => intro k; rfl
  | cons c r ih => intro k; simp only [List.zipIdx_cons,List.all_cons,ih (k + 1)]; rfl
 cases t with
 | nil => simp [a9w]
 | cons c t =>
  rw [List.zipIdx_cons,List.all_cons,hz t 0]
  have hl:decide (1 ≤ (c :: t).length) = true:=decide_eq_true (by simp)
  have e:d1e (c,0) = isLet (c.toNat:Int):=by simp [d1e]
  rw [e,hl,a9w,Bool.decide_and]
  have e2:decide ((1:Int) ≤ ((c :: t).length:Int)) = true:=decide_eq_true (by simp only [List.length_cons]; omega)
  have e3:decide (((c :: t).length:Int) ≤ 40) = decide ((c :: t).length ≤ 40):=by rw [decide_eq_decide]; omega
  rw [e2,e3]
  show _ = some ((true && _ && isLet (c.toNat:Int)) && t.all b6z)
  cases isLet (c.toNat:Int) <;> cases t.all b6z <;> simp
def a3n (t:Str):Bool:=decide ((t.length:Int) ≤ 40)
theorem b5d (l:List Str):a7e l = some (l.all a3n):=by
 unfold a7e
 rw [a5p _ (fun t => !a3n t) l (fun x _ => by unfold b1s a3n; congr 1; rw [Bool.eq_iff_iff]; simp),Option.bind_some,List.not_any_eq_all_not]
 simp
def a9k (c:a2v):Bool:=decide (1 ≤ c.Func ∧ c.Func ≤ 8) && b5m c.Value && a3n c.Column
def b5e (c:a5i):Bool:=decide (1 ≤ c.Func ∧ c.Func ≤ 7) && b5m c.Value && a3n c.Column
def setB (x:a3l):Bool:=a3n x.Column && b5m x.Value && (x.Names.all a4v && decide ((x.Names.length:Int) ≤ 8)) && (decide (x.Names = []) || decide (x.Value = []))
theorem d8q (c:a2v) (h:c.Value.length ≤ maxLen):b3w c = some (a9k c):=by
 unfold b3w a9k
 rw [a9w,Option.bind_some,b8i _ h,Option.bind_some,b5d,Option.bind_some]
 by_cases h1:(1 ≤ c.Func ∧ c.Func ≤ 8) <;> cases h2:b5m c.Value <;> simp [h1]
theorem e0c (c:a2v):b5b c = some (a9k c):=by
 unfold b5b a9k a3n
 rw [c2a,Option.bind_some,b9x,Option.bind_some]
 by_cases h1:(1 ≤ c.Func ∧ c.Func ≤ 8) <;> cases h2:b5m c.Value <;> simp [h1]
theorem e0d (c:a5i) (h:c.Value.length ≤ maxLen):b4x c = some (b5e c):=by
 unfold b4x b5e
 rw [a9w,Option.bind_some,b8i _ h,Option.bind_some,b5d,Option.bind_some]
 by_cases h1:(1 ≤ c.Func ∧ c.Func ≤ 7) <;> cases h2:b5m c.Value <;> simp [h1]
theorem e0e (c:a5i):b5c c = some (b5e c):=by
 unfold b5c b5e a3n
 rw [c2a,Option.bind_some,b9x,Option.bind_some]
 by_cases h1:(1 ≤ c.Func ∧ c.Func ≤ 7) <;> cases h2:b5m c.Value <;> simp [h1]
theorem c1c:∀ l:List a2v,a5y l = some (if l.all a9k = true then .go () else .ret false)
 | [] => by rw [a5y]; simp
 | x :: xs => by
  rw [a5y,e0c,Option.bind_some,c1c xs]
  cases h:a9k x <;> simp [h]
theorem d5s (l:List a2v):b2v l = some (l.all a9k && decide ((l.length:Int) ≤ 8)):=by
 unfold b2v
 rw [c1c]
 cases l.all a9k <;> simp
theorem c1d:∀ l:List a5i,a5z l = some (if l.all b5e = true then .go () else .ret false)
 | [] => by rw [a5z]; simp
 | x :: xs => by
  rw [a5z,e0e,Option.bind_some,c1d xs]
  cases h:b5e x <;> simp [h]
theorem d5t (l:List a5i):b2w l = some (l.all b5e && decide ((l.length:Int) ≤ 8)):=by
 unfold b2w
 rw [c1d]
 cases l.all b5e <;> simp
theorem b9a:∀ l:List Str,a5f l = some (if l.all a4v = true then .go () else .ret false)
 | [] => by rw [a5f]; simp
 | x :: xs => by
  rw [a5f,b4n,Option.bind_some,b9a xs]
  cases h:a4v x <;> simp [h]
theorem d2l (l:List Str):b1n l = some (l.all a4v && decide ((l.length:Int) ≤ 8)):=by
 unfold b1n
 rw [b9a]
 cases l.all a4v <;> simp
theorem d8r (x:a3l):b4b x = some (setB x):=by
 unfold b4b setB a3n
 rw [b9x,Option.bind_some,d2l,Option.bind_some]
 by_cases h1:(x.Column.length:Int) ≤ 40 <;> cases h2:b5m x.Value <;> cases h3:(x.Names.all a4v && decide ((x.Names.length:Int) ≤ 8)) <;> by_cases h4:x.Names = [] <;> by_cases h5:x.Value = [] <;> simp [h1,h4,h5]
theorem e0f (x:a3l) (h:x.Value.length ≤ maxLen):b4y x = some (setB x):=by
 unfold b4y setB
 rw [b5d,Option.bind_some,b8i _ h,Option.bind_some,a5p _ (fun t => !a4v t) x.Names (fun y _ => by unfold b4m; rw [b7s]; rfl),Option.bind_some,List.not_any_eq_all_not]
 have e:([x.Column].all a3n) = a3n x.Column:=by simp
 have e2:(x.Names.all fun a => !!a4v a) = x.Names.all a4v:=by simp
 rw [e,e2]
 have e3:decide ((x.Names.length:Int) ≤ 8) = !decide ((x.Names.length:Int) > 8):=by rw [Bool.eq_iff_iff]; simp
 rw [e3]
 cases h1:a3n x.Column <;> cases h2:b5m x.Value <;> cases h3:x.Names.all a4v <;> cases h6:decide ((x.Names.length:Int) > 8) <;> by_cases h4:x.Names = [] <;> by_cases h5:x.Value = [] <;> simp [h4,h5,List.length_pos_iff]
theorem d5u (l:List a2v) (h:∀ c ∈ l,c.Value.length ≤ maxLen):b2q l = some (l.all a9k && decide ((l.length:Int) ≤ 8)):=by
 unfold b2q
 rw [a9v _ (fun t => !a9k t) l (fun x hx => by unfold b2p; rw [d8q x (h x hx)]; rfl),Option.bind_some,List.not_any_eq_all_not]
 have e2:(l.all fun a => !!a9k a) = l.all a9k:=by simp
 rw [e2]
 by_cases c:(l.length:Int) ≤ 8 <;> simp [c]
theorem d8s (l:List a5i) (h:∀ c ∈ l,c.Value.length ≤ maxLen):b3x l = some (l.all b5e && decide ((l.length:Int) ≤ 8)):=by
 unfold b3x
 rw [b0h _ (fun t => !b5e t) l (fun x hx => by unfold b3o; rw [e0d x (h x hx)]; rfl),Option.bind_some,List.not_any_eq_all_not]
 have e2:(l.all fun a => !!b5e a) = l.all b5e:=by simp
 rw [e2]
 by_cases c:(l.length:Int) ≤ 8 <;> simp [c]
theorem d8t (l:List a3l) (h:∀ c ∈ l,c.Value.length ≤ maxLen):b3y l = some (l.all setB && decide ((l.length:Int) ≤ 6)):=by
 unfold b3y
 rw [a7d _ (fun t => !setB t) l (fun x hx => by unfold b3p; rw [e0f x (h x hx)]; rfl),Option.bind_some,List.not_any_eq_all_not]
 have e2:(l.all fun a => !!setB a) = l.all setB:=by simp
 rw [e2]
 by_cases c:(l.length:Int) ≤ 6 <;> simp [c]
theorem c8a:∀ l:List a3l,a7u l = some (if l.all setB = true then .go () else .ret false)
 | [] => by rw [a7u]; simp
 | x :: xs => by
  rw [a7u,d8r,Option.bind_some,c8a xs]
  cases h:setB x <;> simp [h]
theorem c8b:∀ l:List Str,a7v l = some (if l.all a3n = true then .go () else .ret false)
 | [] => by rw [a7v]; simp
 | x :: xs => by
  rw [a7v,c8b xs]
  by_cases h:(x.length:Int) > 40
  ·have:¬ (x.length:Int) ≤ 40:=by omega
   simp [h,a3n,this]
  ·have:(x.length:Int) ≤ 40:=by omega
   simp [h,a3n,this]
def b5f (o:GOp):Bool :=
 decide (1 ≤ o.Kind ∧ o.Kind ≤ 10) && (decide (1 ≤ o.Kind ∧ o.Kind ≤ 6) || decide (o.Table = [])) && (decide (2 ≤ o.Kind ∧ o.Kind ≤ 6) || decide (o.Where = [])) && (decide (o.Kind = 1) || decide (o.Kind ≥ 9) || decide (o.Name = [])) && (decide (o.Kind = 1) || decide (o.Kind = 3) || decide (o.Kind = 6) || decide (o.Row = [])) && (decide (o.Kind = 4) || decide (o.Muts = [])) && (decide (o.Kind = 2) || decide (o.Columns = [])) && (decide (o.Kind = 6) || !o.Until)
theorem kinds (k:Int):k = 1 ∨ k = 2 ∨ k = 3 ∨ k = 4 ∨ k = 5 ∨ k = 6 ∨ k = 7 ∨ k = 8 ∨ k = 9 ∨ k = 10 ∨ ¬ (1 ≤ k ∧ k ≤ 10):=by omega
set_option maxHeartbeats 8000000 in
theorem d2m (o:GOp):a9c o = some (b5f o):=by
 unfold a9c b5f
 rcases kinds o.Kind with h | h | h | h | h | h | h | h | h | h | h
 all_goals try (simp only [h]; by_cases h1:o.Name = [] <;> by_cases h2:o.Where = [] <;> by_cases h3:o.Row = [] <;> by_cases h4:o.Muts = [] <;> by_cases h5:o.Columns = [] <;> by_cases h6:o.Table = [] <;> simp [h1,h2,h3,h4,h5,h6]; done)
 have e1:¬ o.Kind = 1:=by omega
 have e2:¬ o.Kind = 2:=by omega
 have e3:¬ o.Kind = 3:=by omega
 have e4:¬ o.Kind = 4:=by omega
 have e5:¬ o.Kind = 5:=by omega
 have e6:¬ o.Kind = 6:=by omega
 have e7:¬ o.Kind = 7:=by omega
 have e8:¬ o.Kind = 8:=by omega
 have e9:¬ o.Kind = 9:=by omega
 have e10:¬ o.Kind = 10:=by omega
 simp [e1,e2,e3,e4,e5,e6,e7,e8,e9,e10,h]
def opB (o:GOp):Bool:=b5f o && (a3n o.Table && a3n o.Name) && decide ((o.Columns.length:Int) ≤ 6) && o.Columns.all a3n && (o.Where.all a9k && decide ((o.Where.length:Int) ≤ 8)) && (o.Muts.all b5e && decide ((o.Muts.length:Int) ≤ 8)) && (o.Row.all setB && decide ((o.Row.length:Int) ≤ 6))
structure d8u (o:GOp):Prop where
 w:∀ c ∈ o.Where,c.Value.length ≤ maxLen
 m:∀ c ∈ o.Muts,c.Value.length ≤ maxLen
 r:∀ c ∈ o.Row,c.Value.length ≤ maxLen
theorem c9l (o:GOp) (h:d8u o):b2e o = some (opB o):=by
 unfold b2e opB
 rw [d2m,Option.bind_some,b5d,Option.bind_some,b5d,Option.bind_some,d5u _ h.w,Option.bind_some,d8s _ h.m,Option.bind_some,d8t _ h.r,Option.bind_some]
 have e:([o.Table,o.Name].all a3n) = (a3n o.Table && a3n o.Name):=by simp
 rw [e]
 cases b5f o <;> cases (a3n o.Table && a3n o.Name) <;> cases decide ((o.Columns.length:Int) ≤ 6) <;> cases o.Columns.all a3n <;> cases (o.Where.all a9k && decide ((o.Where.length:Int) ≤ 8)) <;> cases (o.Muts.all b5e && decide ((o.Muts.length:Int) ≤ 8)) <;> simp
set_option maxHeartbeats 8000000 in
theorem e0g (o:GOp):b6m o = some (opB o):=by
 unfold b6m opB
 simp only [c2a,d5s,d5t,Option.bind_some,c8a,c8b]
 generalize (o.Where.all a9k && decide ((o.Where.length:Int) ≤ 8)) = W
 generalize (o.Muts.all b5e && decide ((o.Muts.length:Int) ≤ 8)) = M
 generalize o.Row.all setB = R
 generalize o.Columns.all a3n = S
 by_cases hk:1 ≤ o.Kind ∧ o.Kind ≤ 10
 ·by_cases ht:(o.Table.length:Int) ≤ 40
  ·by_cases hn:(o.Name.length:Int) ≤ 40
   ·have ht':¬ (40:Int) < (o.Table.length:Int):=by omega
    have hn':¬ (40:Int) < (o.Name.length:Int):=by omega
    cases W with
    | false => simp [hk,ht',hn']
    | true =>
     cases M with
     | false => simp [hk,ht',hn']
     | true =>
      by_cases hr:(o.Row.length:Int) ≤ 6
      ·by_cases hc:(o.Columns.length:Int) ≤ 6
       ·have hr':¬ (6:Int) < (o.Row.length:Int):=by omega
        have hc':¬ (6:Int) < (o.Columns.length:Int):=by omega
        cases R with
        | false => simp [hk,ht',hn',hr',hc']
        | true =>
         cases S with
         | false => simp [hk,ht',hn',hr',hc']
         | true =>
          have e:(b5f o && (a3n o.Table && a3n o.Name) && decide ((o.Columns.length:Int) ≤ 6) && true && true && true && (true && decide ((o.Row.length:Int) ≤ 6))) = b5f o:=by simp [a3n,ht,hn,hr,hc]
          rw [e]
          simp only [hk,ht',hn',hr',hc',gt_iff_lt,and_self,decide_true,decide_false,Bool.not_true,Bool.false_eq_true,if_false,if_true,Option.bind_some]
          unfold b5f
          rcases kinds o.Kind with h | h | h | h | h | h | h | h | h | h | h
          all_goals try (simp only [h]; by_cases h1:o.Name = [] <;> by_cases h2:o.Where = [] <;> by_cases h3:o.Row = [] <;> by_cases h4:o.Muts = [] <;> by_cases h5:o.Columns = [] <;> by_cases h6:o.Table = [] <;> simp [h1,h2,h3,h4,h5,h6]; done)
          exact absurd hk h
       ·have hc':(6:Int) < (o.Columns.length:Int):=by omega
        have hr':¬ (6:Int) < (o.Row.length:Int):=by omega
        simp [hk,ht',hn',hr',hc',hc]
      ·have hr':(6:Int) < (o.Row.length:Int):=by omega
       simp [hk,ht',hn',hr',hr]
   ·have ht':¬ (40:Int) < (o.Table.length:Int):=by omega
    have hn':(40:Int) < (o.Name.length:Int):=by omega
    simp [hk,ht',hn',a3n,hn]
  ·have ht':(40:Int) < (o.Table.length:Int):=by omega
   simp [hk,ht',a3n,ht]
 ·have:b5f o = false:=by unfold b5f; simp [hk]
  rw [this]
  simp [hk]
theorem e8h {α:Type} [BEq α] [LawfulBEq α] [DecidableEq α] (a b:α):(a == b) = decide (a = b):=by by_cases h:a = b <;> simp [h]
def a9a {α:Type} (f:Nat → α → Bool):List α → Nat → Bool
 | [],_ => true
 | x :: xs,i => f i x && a9a f xs (i + 1)
theorem b7t {α:Type} (f:Nat → α → Bool):∀ (xs:List α) (i:Nat),a9a f xs i = true ↔ ∀ q x,xs[q]? = some x → f (i + q) x = true
 | [],i => by simp [a9a]
 | x :: xs,i => by
  simp only [a9a,Bool.and_eq_true,b7t f xs (i + 1)]
  constructor
  ·rintro ⟨h1,h2⟩ q y hq
   cases q with
   | zero => simp at hq; subst hq; simpa using h1
   | succ q => have:=h2 q y (by simpa using hq); rw [show i + (q + 1) = i + 1 + q from by omega]; exact this
  ·intro h
   refine ⟨by simpa using h 0 x (by simp),fun q y hq => ?_⟩
   have:=h (q + 1) y (by simpa using hq)
   rw [show i + 1 + q = i + (q + 1) from by omega]; exact this
theorem d1f {α:Type} (f:Nat → α → Bool) (g:α → Bool):∀ (xs:List α) (i:Nat),a9a (fun i x => f i x && g x) xs i = (a9a f xs i && xs.all g)
 | [],i => rfl
 | x :: xs,i => by
  simp only [a9a,List.all_cons,d1f f g xs (i + 1)]
  cases f i x <;> cases g x <;> simp
theorem d8v {α:Type} {f:Nat → α → Bool} {xs:List α} {i:Nat} (h:a9a f xs i = true) {x:α} (hx:x ∈ xs):∃ q,f q x = true:=by
 obtain ⟨q,hq⟩:=List.mem_iff_getElem?.1 hx
 exact ⟨_,(b7t f xs i).1 h q x hq⟩
def atI (o:Option Nat):Int:=match o with | some k => (k:Int) | none => -1
theorem b5s {o:Option Nat}:decide (atI o < 0) = o.isNone:=by
 cases o with
 | none => rfl
 | some k => exact decide_eq_false (show ¬ ((k:Nat):Int) < 0 by omega)
theorem d8w {o:Option Nat}:decide (atI o ≥ 0) = o.isSome:=by
 cases o with
 | none => rfl
 | some k => simp [atI]
def b6n (t:a0q) (name:Str):Option Nat:=t.Columns.findIdx? (fun c => c.Name == name)
def d2n (s:a2q) (name:Str):Option Nat:=s.Tables.findIdx? (fun c => c.Name == name)
theorem b5g {t:a0q} {name:Str} {k:Nat} (h:b6n t name = some k):∃ x,idx t.Columns (k:Int) = some x ∧ t.Columns[k]? = some x:=by
 obtain ⟨h1,h2,_⟩:=List.findIdx?_eq_some_iff_getElem.1 h
 exact ⟨t.Columns[k],by rw [b0b]; simp [h1],by simp [h1]⟩
theorem d8x {s:a2q} {name:Str} {k:Nat} (h:d2n s name = some k):∃ x,idx s.Tables (k:Int) = some x ∧ x ∈ s.Tables:=by
 obtain ⟨h1,h2,_⟩:=List.findIdx?_eq_some_iff_getElem.1 h
 exact ⟨s.Tables[k],by rw [b0b]; simp [h1],List.getElem_mem _⟩
theorem b7u (name:Str):∀ (xs:List a0v) (i:Nat),a4s name xs i = some (match xs.findIdx? (fun c => c.Name == name) with | some k => .ret ((i + k:Nat):Int) | none => .go ())
 | [],i => by rw [a4s]; rfl
 | x :: xs,i => by
  rw [a4s,b7u name xs (i + 1),List.findIdx?_cons]
  cases hp:(x.Name == name) with
  | true => simp
  | false =>
   cases hq:xs.findIdx? (fun c => c.Name == name) with
   | none => simp
   | some k => simp; omega
theorem b5t (t:a0q) (name:Str):a7j t name = some (atI (b6n t name)):=by
 unfold a7j b6n atI
 rw [b7u]
 cases hq:t.Columns.findIdx? (fun c => c.Name == name) <;> simp
theorem c1e (name:Str):∀ (xs:List a0q) (i:Nat),a5v name xs i = some (match xs.findIdx? (fun c => c.Name == name) with | some k => .ret ((i + k:Nat):Int) | none => .go ())
 | [],i => by rw [a5v]; rfl
 | x :: xs,i => by
  rw [a5v,c1e name xs (i + 1),List.findIdx?_cons]
  cases hp:(x.Name == name) with
  | true => simp
  | false =>
   cases hq:xs.findIdx? (fun c => c.Name == name) with
   | none => simp
   | some k => simp; omega
theorem c8e (s:a2q) (name:Str):b0t s name = some (atI (d2n s name)):=by
 unfold b0t d2n atI
 rw [c1e]
 cases hq:s.Tables.findIdx? (fun c => c.Name == name) <;> simp
theorem b7a (t:a0q) (name:Str):a4o t name = some (atI (b6n t name)):=by
 unfold a4o
 rw [a6o _ (fun c => c.Name == name) t.Columns (fun x _ => by unfold a8g; rfl)]
 rfl
theorem c8f (s:a2q) (name:Str):a6q s name = some (atI (d2n s name)):=by
 unfold a6q
 rw [a6w _ (fun c => c.Name == name) s.Tables (fun x _ => by unfold a8i; rfl)]
 rfl
def c5t (c:a0v):Bool :=
  a4v c.Name && decide (0 ≤ c.Min ∧ c.Min ≤ 1) && decide (1 ≤ c.Max ∧ c.Max ≤ 8) &&
  ((decide (c.Kind = 1) && decide (-1000000000 ≤ c.Low ∧ c.Low ≤ c.High ∧ c.High ≤ 1000000000) && decide (c.Ref = []) && !c.Strong) ||
   ((decide (c.Kind = 2) || decide (c.Kind = 3)) && decide (c.Low = 0) && decide (c.High = 0) && decide (c.Ref = []) && !c.Strong) ||
   (decide (c.Kind = 4) && decide (c.Low = 0) && decide (c.High = 0) && a4v c.Ref && decide (c.Min = 0)))
theorem d2o (c:a0v):b1f c = some (c5t c):=by
 unfold b1f a8u c5t
 simp only [b7s,a9w,Option.bind_some,e8h]
 by_cases h1:0 ≤ c.Min ∧ c.Min ≤ 1
 ·by_cases h2:1 ≤ c.Max ∧ c.Max ≤ 8
  ·cases hn:a4v c.Name with
   | false => simp
   | true =>
    simp only [h1,h2,and_self,decide_true,Bool.not_true,Bool.false_eq_true,if_false,Option.bind_some,Bool.true_and]
    by_cases k1:c.Kind = 1
    ·simp only [k1]
     by_cases a1:-1000000000 ≤ c.Low ∧ c.Low ≤ c.High ∧ c.High ≤ 1000000000
     ·have e1:-1000000000 ≤ c.Low ∧ c.Low ≤ 1000000000:=by omega
      have e2:-1000000000 ≤ c.High ∧ c.High ≤ 1000000000:=by omega
      simp [a1,e1,e2]
     ·by_cases e1:-1000000000 ≤ c.Low ∧ c.Low ≤ 1000000000
      ·by_cases e2:-1000000000 ≤ c.High ∧ c.High ≤ 1000000000
       ·have e3:¬ c.Low ≤ c.High:=by omega
        simp [a1,e1,e2,e3]
       ·have a1':¬ (c.Low ≤ c.High ∧ c.High ≤ 1000000000):=by omega
        simp [e1,e2]
        intro p q; exact absurd ⟨p,q⟩ a1'
      ·have a2:(-1000000000 ≤ c.Low ∧ c.Low ≤ c.High ∧ c.High ≤ 1000000000) = False:=eq_false a1
       simp only [e1,a2]; simp
    ·by_cases k2:c.Kind = 2
     ·simp [k2]
     ·by_cases k3:c.Kind = 3
      ·simp [k3]
      ·by_cases k4:c.Kind = 4
       ·simp only [k4]
        by_cases a1:c.Low = 0 <;> by_cases a2:c.High = 0 <;> cases a3:a4v c.Ref <;> simp [a1,a2]
       ·simp [k1,k2,k3,k4]
  ·cases hn:a4v c.Name <;> simp [h1,h2]
 ·cases hn:a4v c.Name <;> simp [h1]
theorem d1g (c:a0v):b1l c = some (c5t c):=by
 unfold b1l c5t
 simp only [b4n,c2a,Option.bind_some,e8h,bne]
 by_cases h1:0 ≤ c.Min ∧ c.Min ≤ 1
 ·by_cases h2:1 ≤ c.Max ∧ c.Max ≤ 8
  ·cases hn:a4v c.Name with
   | false => simp
   | true =>
    by_cases hk:1 ≤ c.Kind ∧ c.Kind ≤ 4
    ·simp only [h1,h2,hk,and_self,decide_true,Bool.not_true,Bool.false_eq_true,if_false,Option.bind_some,Bool.true_and]
     by_cases k1:c.Kind = 1
     ·simp only [k1]
      by_cases a1:-1000000000 ≤ c.Low ∧ c.Low ≤ c.High ∧ c.High ≤ 1000000000
      ·have e1:-1000000000 ≤ c.Low ∧ c.Low ≤ c.High:=by omega
       have e2:c.Low ≤ c.High ∧ c.High ≤ 1000000000:=by omega
       simp [a1,e1,e2]
      ·by_cases e1:-1000000000 ≤ c.Low ∧ c.Low ≤ c.High
       ·have e2:¬ (c.Low ≤ c.High ∧ c.High ≤ 1000000000):=by omega
        simp [a1,e1,e2]
       ·simp [a1,e1]
     ·by_cases a1:c.Low = 0
      ·by_cases a2:c.High = 0
       ·by_cases k4:c.Kind = 4
        ·cases a3:a4v c.Ref <;> simp [k4,a1,a2]
        ·have:c.Kind = 2 ∨ c.Kind = 3:=by omega
         by_cases a4:c.Ref = [] <;> rcases this with k | k <;> simp [k,a1,a2,a4]
       ·simp [k1,a1,a2]
      ·simp [k1,a1]
    ·have k1:¬ c.Kind = 1:=by omega
     have k2:¬ c.Kind = 2:=by omega
     have k3:¬ c.Kind = 3:=by omega
     have k4:¬ c.Kind = 4:=by omega
     simp [hk,k1,k2,k3,k4]
  ·cases hn:a4v c.Name <;> by_cases hk:1 ≤ c.Kind ∧ c.Kind ≤ 4 <;> simp [h1,h2,hk]
 ·cases hn:a4v c.Name <;> by_cases hk:1 ≤ c.Kind ∧ c.Kind ≤ 4 <;> simp [h1,hk]
theorem d8y {c:a0v} (h:c5t c = true):(c.Kind = 4 ↔ c.Ref ≠ []):=by
 unfold c5t at h
 simp only [Bool.and_eq_true,Bool.or_eq_true,decide_eq_true_eq] at h
 rcases h.2 with (⟨⟨⟨h1,_⟩,h2⟩,_⟩ | ⟨⟨⟨⟨h1,_⟩,_⟩,h2⟩,_⟩) | ⟨⟨⟨⟨h1,_⟩,_⟩,h2⟩,_⟩
 ·simp [h1,h2]
 ·have:c.Kind ≠ 4:=by omega
  simp [this,h2]
 ·refine ⟨fun _ he => ?_,fun _ => h1⟩
  rw [he] at h2
  cases h2
def b5u (t:a0q) (i:Nat) (x:a0v):Bool:=c5t x && !(t.Columns.take i).any (fun c => c.Name == x.Name)
theorem d5v {t:a0q} {i:Nat} {x:a0v} (hx:t.Columns[i]? = some x):(atI (b6n t x.Name) != (i:Int)) = (t.Columns.take i).any (fun c => c.Name == x.Name):=by
 have hi:=(List.getElem?_eq_some_iff.1 hx).1
 have hxe:=(List.getElem?_eq_some_iff.1 hx).2
 by_cases ha:(t.Columns.take i).any (fun c => c.Name == x.Name) = true
 ·rw [ha]
  obtain ⟨c,hc,hn⟩:=List.any_eq_true.1 ha
  obtain ⟨j,hj⟩:=List.mem_iff_getElem?.1 hc
  have hji:j < i:=by have:=(List.getElem?_eq_some_iff.1 hj).1; simp at this; omega
  rw [List.getElem?_take_of_lt hji] at hj
  have hne:b6n t x.Name ≠ some i:=by
   intro he
   obtain ⟨_,_,h3⟩:=List.findIdx?_eq_some_iff_getElem.1 he
   have:=h3 j hji
   rw [(List.getElem?_eq_some_iff.1 hj).2] at this
   exact this hn
  cases hk:b6n t x.Name with
  | none => simp [atI]
  | some k =>
   have:k ≠ i:=fun h => hne (by rw [hk,h])
   simp [atI]; omega
 ·simp only [Bool.not_eq_true] at ha
  rw [ha]
  have:b6n t x.Name = some i:=by
   refine List.findIdx?_eq_some_iff_getElem.2 ⟨hi,by simp [hxe],fun j hj => ?_⟩
   have hm:t.Columns[j]'(by omega) ∈ t.Columns.take i:=by
    rw [List.mem_iff_getElem?]
    exact ⟨j,by rw [List.getElem?_take_of_lt hj]; simp⟩
   have:=List.any_eq_false.1 ha _ hm
   simpa using this
  rw [this]
  simp [atI]
theorem c1f (t:a0q):∀ (xs:List a0v) (i:Nat),t.Columns.drop i = xs → a5q t xs i = some (if a9a (b5u t) xs i = true then .go () else .ret false)
 | [],i,_ => by rw [a5q]; simp [a9a]
 | x :: xs,i,h => by
  have hx:t.Columns[i]? = some x:=by rw [← b0b]; exact d7s h
  rw [a5q,d2o,Option.bind_some,b7a,Option.bind_some,d5v hx,c1f t xs (i + 1) (a9y h)]
  cases h1:c5t x <;> cases h2:(t.Columns.take i).any (fun c => c.Name == x.Name) <;> simp [a9a,b5u,h1,h2]
theorem b9b (t:a0q) (x:a0v) (i:Nat) (hi:i ≤ t.Columns.length) (hl:t.Columns.length ≤ 6):∀ (n k fuel:Nat),n + k = i → n < fuel → a4l i t x fuel k = some (if ((t.Columns.take i).drop k).any (fun c => c.Name == x.Name) = true then .ret false else .go ())
 | _,_,0,_,h => by omega
 | 0,k,fuel + 1,hk,_ => by
  rw [a4l,if_neg (by simp; omega),List.drop_of_length_le (by simp; omega)]; simp
 | n + 1,k,fuel + 1,hk,hf => by
  obtain ⟨y,hy⟩:∃ y,t.Columns[k]? = some y:=⟨t.Columns[k]'(by omega),List.getElem?_eq_getElem (by omega)⟩
  have hd:(t.Columns.take i).drop k = y :: (t.Columns.take i).drop (k + 1):=by
   have hk2:k < (t.Columns.take i).length:=by simp; omega
   rw [List.drop_eq_getElem_cons hk2]
   congr 1
   rw [List.getElem_take]
   exact (List.getElem?_eq_some_iff.1 hy).2
  have ew:w64 ((k:Int) + 1) = ((k + 1:Nat):Int):=by rw [a6f (by omega)]; omega
  rw [a4l,if_pos (by simp; omega),b0b,hy,Option.bind_some,ew,b9b t x i hi hl n (k + 1) fuel (by omega) (by omega),hd]
  cases hn:(y.Name == x.Name) <;> simp [hn]
theorem b9c (t:a0q) (hl:t.Columns.length ≤ 6):∀ (xs:List a0v) (i:Nat),t.Columns.drop i = xs → a5b t xs i = some (if a9a (b5u t) xs i = true then .go () else .ret false)
 | [],i,_ => by rw [a5b]; simp [a9a]
 | x :: xs,i,h => by
  have hi:=b4l h
  have hf:2 ^ 40 < FUEL:=by unfold FUEL; decide
  have e:=b9b t x i (by omega) hl i 0 FUEL (by omega) (by omega)
  rw [List.drop_zero] at e
  have e':a4l i t x FUEL 0 = _:=e
  rw [a5b,d1g,Option.bind_some,e',b9c t hl xs (i + 1) (a9y h)]
  cases h1:c5t x <;> cases h2:(t.Columns.take i).any (fun c => c.Name == x.Name) <;> simp [a9a,b5u,h1,h2]
def a8j (t:a0q) (i:Nat) (x:Int):Bool:=decide (0 ≤ x ∧ x ≤ (t.Columns.length:Int) - 1) && (i == 0 || match t.Unique[i - 1]? with | some y => decide (y < x) | none => false)
theorem e0w (t:a0q) (i:Nat) (x:Int) (hi:i < t.Unique.length) (hl:t.Unique.length ≤ 6) (hc:t.Columns.length ≤ 6) (W:Int → Int → Int → Option Bool) (hW:∀ n a b,W n a b = some (decide (a ≤ n ∧ n ≤ b))) :
  ((W x 0 (w64 ((t.Columns.length:Int) - 1))).bind fun r_176 =>
  if (!r_176) then
  some true
  else
  if (decide ((i:Int) > 0)) then
  (idx t.Unique (w64 ((i:Int) - 1))).bind fun x_180 =>
  some (decide (x_180 ≥ x))
  else
  some false:Option Bool) = some (!a8j t i x):=by
 rw [hW,Option.bind_some,a6f (n:=(t.Columns.length:Int) - 1) (by omega)]
 unfold a8j
 by_cases h:0 ≤ x ∧ x ≤ (t.Columns.length:Int) - 1
 ·by_cases h0:i = 0
  ·subst h0; simp [h]
  ·obtain ⟨y,hy⟩:∃ y,t.Unique[i - 1]? = some y:=⟨t.Unique[i - 1],List.getElem?_eq_getElem (by omega)⟩
   have e1:w64 ((i:Int) - 1) = ((i - 1:Nat):Int):=by rw [a6f (by omega)]; omega
   rw [e1,b0b,hy]
   have hp:0 < i:=by omega
   by_cases hc:y < x
   ·have:¬ x ≤ y:=by omega
    simp [h,h0,hp,hc,this]
   ·have:x ≤ y:=by omega
    simp [h,h0,hp,hc,this]
 ·simp [h]
theorem c1g (t:a0q) (hl:t.Unique.length ≤ 6) (hc:t.Columns.length ≤ 6):∀ (xs:List Int) (i:Nat),t.Unique.drop i = xs → a5r t xs i = some (if a9a (a8j t) xs i = true then .go () else .ret false)
 | [],i,_ => by rw [a5r]; simp [a9a]
 | x :: xs,i,h => by
  rw [a5r,e0w t i x (b4l h) hl hc a3t a9w,Option.bind_some,c1g t hl hc xs (i + 1) (a9y h)]
  cases h1:a8j t i x <;> simp [a9a,h1]
theorem b9d (t:a0q) (hl:t.Unique.length ≤ 6) (hc:t.Columns.length ≤ 6):∀ (xs:List Int) (i:Nat),t.Unique.drop i = xs → a5c t xs i = some (if a9a (a8j t) xs i = true then .go () else .ret false)
 | [],i,_ => by rw [a5c]; simp [a9a]
 | x :: xs,i,h => by
  rw [a5c,e0w t i x (b4l h) hl hc a3f c2a,Option.bind_some,b9d t hl hc xs (i + 1) (a9y h)]
  cases h1:a8j t i x <;> simp [a9a,h1]
theorem d8z (t:a0q) (h:a9a (a8j t) t.Unique 0 = true):∀ (i:Nat) x,t.Unique[i]? = some x → (i:Int) ≤ x
 | 0,x,hx => by
  have:=(b7t _ _ _).1 h 0 x hx
  simp only [a8j,Bool.and_eq_true,decide_eq_true_eq] at this
  exact this.1.1
 | i + 1,x,hx => by
  have hl:=(List.getElem?_eq_some_iff.1 hx).1
  obtain ⟨y,hy⟩:∃ y,t.Unique[i]? = some y:=⟨t.Unique[i],List.getElem?_eq_getElem (by omega)⟩
  have h1:=d8z t h i y hy
  have:=(b7t _ _ _).1 h (i + 1) x hx
  simp only [a8j,Bool.and_eq_true,decide_eq_true_eq,Bool.or_eq_true,Nat.zero_add,Nat.add_sub_cancel,hy] at this
  rcases this.2 with h2 | h2
  ·simp at h2
  ·omega
theorem d4b (t:a0q) (h:a9a (a8j t) t.Unique 0 = true):t.Unique.length ≤ t.Columns.length:=by
 rcases Nat.eq_zero_or_pos t.Unique.length with h0 | h0
 ·omega
 ·obtain ⟨x,hx⟩:∃ x,t.Unique[t.Unique.length - 1]? = some x:=⟨t.Unique[t.Unique.length - 1],List.getElem?_eq_getElem (by omega)⟩
  have h1:=d8z t h _ x hx
  have:=(b7t _ _ _).1 h _ x hx
  simp only [a8j,Bool.and_eq_true,decide_eq_true_eq] at this
  have:=this.1.2
  omega
def c6v (t:a0q):Bool:=a4v t.Name && decide (1 ≤ (t.Columns.length:Int) ∧ (t.Columns.length:Int) ≤ 6) && a9a (b5u t) t.Columns 0 && a9a (a8j t) t.Unique 0
theorem d5w (t:a0q):b0s t = some (c6v t):=by
 unfold b0s c6v
 rw [b7s,Option.bind_some,a9w,Option.bind_some]
 cases hn:a4v t.Name with
 | false => simp
 | true =>
  by_cases hc:1 ≤ (t.Columns.length:Int) ∧ (t.Columns.length:Int) ≤ 6
  ·by_cases hu:(t.Unique.length:Int) > (t.Columns.length:Int)
   ·have:a9a (a8j t) t.Unique 0 = false:=by
     cases hh:a9a (a8j t) t.Unique 0 with
     | false => rfl
     | true => have:=d4b t hh; omega
    simp [hc,hu,this]
   ·rw [c1f t t.Columns 0 (by simp),c1g t (by omega) (by omega) t.Unique 0 (by simp)]
    cases h1:a9a (b5u t) t.Columns 0 <;> cases h2:a9a (a8j t) t.Unique 0 <;> simp [hc,hu]
  ·simp [hc]
theorem d2p (t:a0q):a9z t = some (c6v t):=by
 unfold a9z c6v
 rw [b4n,Option.bind_some,c2a,Option.bind_some]
 cases hn:a4v t.Name with
 | false => simp
 | true =>
  by_cases hc:1 ≤ (t.Columns.length:Int) ∧ (t.Columns.length:Int) ≤ 6
  ·by_cases hu:(t.Unique.length:Int) > 6
   ·have:a9a (a8j t) t.Unique 0 = false:=by
     cases hh:a9a (a8j t) t.Unique 0 with
     | false => rfl
     | true => have:=d4b t hh; omega
    simp [hc,hu,this]
   ·rw [b9c t (by omega) t.Columns 0 (by simp),b9d t (by omega) (by omega) t.Unique 0 (by simp)]
    cases h1:a9a (b5u t) t.Columns 0 <;> cases h2:a9a (a8j t) t.Unique 0 <;> simp [hc,hu]
  ·simp [hc]
def b4h (s:a2q) (c:a0v):Bool:=!(decide (c.Kind = 4) && (d2n s c.Ref).isNone)
def b3e (s:a2q) (i:Nat) (x:a0q):Bool:=c6v x && (i == 0 || match s.Tables[i - 1]? with | some y => Op.bytesLess y.Name x.Name | none => false)
def d9a (s:a2q):Bool:=decide (1 ≤ (s.Tables.length:Int) ∧ (s.Tables.length:Int) ≤ 4) && a9a (b3e s) s.Tables 0 && s.Tables.all (fun t => t.Columns.all (b4h s))
theorem d4c (s:a2q) (i:Nat) (x:a0q) (hi:i < s.Tables.length) (hl:s.Tables.length ≤ 4) (T:a0q → Option Bool) (hT:∀ t,T t = some (c6v t)) :
  ((T x).bind fun r_79 =>
  if (!r_79) then
  some true
  else
  if (decide ((i:Int) > 0)) then
  (idx s.Tables (w64 ((i:Int) - 1))).bind fun x_83 =>
  some (!Op.bytesLess x_83.Name x.Name)
  else
  some false:Option Bool) = some (!b3e s i x):=by
 rw [hT,Option.bind_some]
 unfold b3e
 cases c6v x with
 | false => simp
 | true =>
  by_cases h0:i = 0
  ·subst h0; simp
  ·obtain ⟨y,hy⟩:∃ y,s.Tables[i - 1]? = some y:=⟨s.Tables[i - 1],List.getElem?_eq_getElem (by omega)⟩
   have e1:w64 ((i:Int) - 1) = ((i - 1:Nat):Int):=by rw [a6f (by omega)]; omega
   rw [e1,b0b,hy]
   have hp:0 < i:=by omega
   simp [h0,hp]
theorem b9e (s:a2q) (hl:s.Tables.length ≤ 4):∀ (xs:List a0q) (i:Nat),s.Tables.drop i = xs → a4x s xs i = some (if a9a (b3e s) xs i = true then .go () else .ret false)
 | [],i,_ => by rw [a4x]; simp [a9a]
 | x :: xs,i,h => by
  rw [a4x,d4c s i x (b4l h) hl b0s d5w,Option.bind_some,b9e s hl xs (i + 1) (a9y h)]
  cases h1:b3e s i x <;> simp [a9a,h1]
theorem d2q (s:a2q):b1g s = some (d9a s):=by
 unfold b1g d9a
 rw [a9w,Option.bind_some]
 by_cases hc:1 ≤ (s.Tables.length:Int) ∧ (s.Tables.length:Int) ≤ 4
 ·have e1:∀ c:a0v,a8p c s = some (!b4h s c):=by
   intro c
   unfold a8p b4h
   by_cases k:c.Kind = 4
   ·rw [if_pos (by simpa using k),c8f,Option.bind_some,b5s]; simp [k]
   ·rw [if_neg (by simpa using k)]; simp [k]
  have e2:∀ t:a0q,a9s t s = some (!t.Columns.all (b4h s)):=by
   intro t
   unfold a9s
   rw [a8z _ (fun c => !b4h s c) t.Columns (fun x _ => e1 x),Option.bind_some,List.not_all_eq_any_not]
  rw [b9e s (by omega) s.Tables 0 (by simp),a9h _ (fun t => !t.Columns.all (b4h s)) s.Tables (fun x _ => e2 x)]
  have e3:(s.Tables.any fun t => !t.Columns.all (b4h s)) = !s.Tables.all (fun t => t.Columns.all (b4h s)):=by rw [List.not_all_eq_any_not]
  rw [e3]
  cases a9a (b3e s) s.Tables 0 <;> cases s.Tables.all (fun t => t.Columns.all (b4h s)) <;> simp [hc]
 ·simp [hc]
theorem b7v (s:a2q):∀ (xs:List a0v),(∀ c ∈ xs,c5t c = true) → a5d s xs = some (if xs.all (b4h s) = true then .go () else .ret false)
 | [],_ => by rw [a5d]; simp
 | x :: xs,h => by
  have hr:=d8y (h x (by simp))
  rw [a5d,c8e,Option.bind_some,b5s,b7v s xs (fun c hc => h c (by simp [hc]))]
  by_cases k:x.Ref = []
  ·have k4:¬ x.Kind = 4:=fun hh => hr.1 hh k
   simp [k,b4h,k4]
  ·have k4:x.Kind = 4:=hr.2 k
   cases hn:(d2n s x.Ref).isNone <;> simp [k,b4h,k4,hn]
theorem d5x {t:a0q} (h:c6v t = true):∀ c ∈ t.Columns,c5t c = true:=by
 intro c hc
 simp only [c6v,Bool.and_eq_true] at h
 obtain ⟨q,hq⟩:=d8v h.1.2 hc
 simp only [b5u,Bool.and_eq_true] at hq
 exact hq.1
theorem b7w (s:a2q) (hl:s.Tables.length ≤ 4):∀ (xs:List a0q) (i:Nat),s.Tables.drop i = xs → a5e s xs i = some (if a9a (fun i x => b3e s i x && x.Columns.all (b4h s)) xs i = true then .go () else .ret false)
 | [],i,_ => by rw [a5e]; simp [a9a]
 | x :: xs,i,h => by
  rw [a5e,d4c s i x (b4l h) hl a9z d2p,Option.bind_some,b7w s hl xs (i + 1) (a9y h)]
  cases ht:b3e s i x with
  | false => simp [a9a,ht]
  | true =>
   have hb:c6v x = true:=by simp only [b3e,Bool.and_eq_true] at ht; exact ht.1
   rw [b7v s x.Columns (d5x hb)]
   cases hr:x.Columns.all (b4h s) <;> simp [a9a,ht,hr]
theorem d1h (s:a2q):b1m s = some (d9a s):=by
 unfold b1m d9a
 rw [c2a,Option.bind_some]
 by_cases hc:1 ≤ (s.Tables.length:Int) ∧ (s.Tables.length:Int) ≤ 4
 ·rw [b7w s (by omega) s.Tables 0 (by simp),d1f (b3e s) (fun x => x.Columns.all (b4h s))]
  cases a9a (b3e s) s.Tables 0 <;> cases s.Tables.all (fun t => t.Columns.all (b4h s)) <;> simp [hc]
 ·simp [hc]
def b5v:Str:=[95,117,117,105,100]
def b5h (t:a0q) (name:Str):Option a0v:=match b6n t name with
 | some k => t.Columns[k]?
 | none => if name = b5v then some ⟨b5v,4,0,1,0,0,[],false⟩ else none
theorem d4d (t:a0q) (name:Str):∃ c,a7z t name = some (c,(b5h t name).isSome) ∧ ∀ d,b5h t name = some d → c = d:=by
 unfold a7z b5h
 rw [b7a,Option.bind_some,d8w]
 cases hk:b6n t name with
 | some k =>
  obtain ⟨x,e1,e2⟩:=b5g hk
  simp only [Option.isSome_some,if_true,atI]
  rw [e1,Option.bind_some,e2]
  exact ⟨x,rfl,fun d hd => Option.some.inj hd⟩
 | none =>
  rw [if_neg (by simp)]
  by_cases h:name = b5v
  ·subst h
   refine ⟨⟨b5v,4,0,1,0,0,[],false⟩,?_,fun d hd => ?_⟩
   ·rw [if_pos rfl]; rw [if_pos (by simp [b5v])]; rfl
   ·rw [if_pos rfl] at hd; exact Option.some.inj hd
  ·refine ⟨⟨[],0,0,0,0,0,[],false⟩,?_,fun d hd => ?_⟩
   ·rw [if_neg h,if_neg (by simpa [b5v] using h)]; rfl
   ·rw [if_neg h] at hd; cases hd
def b1z (v:List a1c) (k:Int):Bool:=match v[0]? with | some x => x.Kind != k | none => false
theorem b8j (v:List a1c) (k:Int):((if (decide ((v.length:Int) > 0)) then (idx v 0).bind fun x => some (x.Kind != k) else some false:Option Bool)) = some (b1z v k):=by
 cases v with
 | nil => rfl
 | cons x xs => rw [if_pos (by simp)]; rfl
def b5i (t:a0q) (c:a2v):Int:=match b5h t c.Column with
 | none => 11
 | some x => if b1z c.Value x.Kind = true then 9 else if (decide (3 ≤ c.Func ∧ c.Func ≤ 6) && (x.Kind != 1 || x.Max != 1 || (c.Value.length:Int) != 1)) = true then 9 else 0
theorem d2r (t:a0q) (c:a2v):b1h t c = some (b5i t c):=by
 unfold b1h b5i
 obtain ⟨x,e,h⟩:=d4d t c.Column
 rw [e,Option.bind_some]
 cases hn:b5h t c.Column with
 | none => simp
 | some d =>
  have:=h d hn
  subst this
  simp only [Option.isSome_some,Bool.not_true,Bool.false_eq_true,if_false,b8j,Option.bind_some,a9w]
  cases b1z c.Value x.Kind with
  | true => simp
  | false =>
   by_cases hf:3 ≤ c.Func ∧ c.Func ≤ 6 <;> cases h1:(x.Kind != 1) <;> cases h2:(x.Max != 1) <;> cases h3:((c.Value.length:Int) != 1) <;> simp [hf]
theorem d5y (t:a0q) (c:a2v):b2x t c = some (b5i t c):=by
 unfold b2x b5i b5h
 rw [b5t,Option.bind_some,d8w]
 cases hk:b6n t c.Column with
 | some k =>
  obtain ⟨x,e1,e2⟩:=b5g hk
  simp only [Option.isSome_some,if_true,atI]
  rw [e1,Option.bind_some,Option.bind_some,e2]
  simp only [b8j,Option.bind_some,c2a]
  cases b1z c.Value x.Kind with
  | true => simp
  | false =>
   by_cases hf:3 ≤ c.Func ∧ c.Func ≤ 6 <;> cases h1:(x.Kind != 1) <;> cases h2:(x.Max != 1) <;> cases h3:((c.Value.length:Int) != 1) <;> simp [hf]
 | none =>
  rw [if_neg (by simp)]
  by_cases h:c.Column = b5v
  ·have hb:(!(c.Column == [95,117,117,105,100])) = false:=by simp [h,b5v]
   rw [hb]
   simp only [h,if_true,Bool.false_eq_true,if_false,Option.bind_some,b8j,c2a]
   cases b1z c.Value 4 with
   | true => simp
   | false => by_cases hf:3 ≤ c.Func ∧ c.Func ≤ 6 <;> simp [hf]
  ·have hb:(!(c.Column == [95,117,117,105,100])) = true:=by simpa [b5v] using h
   rw [hb]
   simp [h]
def a4j {α:Type} (f:α → Int):List α → Int
 | [] => 0
 | x :: xs => if f x = 0 then a4j f xs else f x
theorem b7x (t:a0q):∀ l:List a2v,a4r t l = some (if a4j (b5i t) l = 0 then .go () else .ret (a4j (b5i t) l))
 | [] => by rw [a4r]; simp [a4j]
 | x :: xs => by
  rw [a4r,d2r,Option.bind_some,b7x t xs]
  by_cases h:b5i t x = 0 <;> simp [a4j,h]
theorem d1i (t:a0q) (l:List a2v):b0o t l = some (a4j (b5i t) l):=by
 unfold b0o
 rw [b7x]
 by_cases h:a4j (b5i t) l = 0 <;> simp [h]
theorem b9f (t:a0q):∀ l:List a2v,a5g t l = some (if a4j (b5i t) l = 0 then .go () else .ret (a4j (b5i t) l))
 | [] => by rw [a5g]; simp [a4j]
 | x :: xs => by
  rw [a5g,d5y,Option.bind_some,b9f t xs]
  by_cases h:b5i t x = 0 <;> simp [a4j,h]
theorem d2s (t:a0q) (l:List a2v):b1o t l = some (a4j (b5i t) l):=by
 unfold b1o
 rw [b9f]
 by_cases h:a4j (b5i t) l = 0 <;> simp [h]
def c1h (t:a0q) (m:a5i):Int:=match b6n t m.Column with
 | none => 11
 | some k => match t.Columns[k]? with
  | none => 0
  | some x => if b1z m.Value x.Kind = true then 9 else if (decide (m.Func ≤ 5) && (x.Kind != 1 || (m.Value.length:Int) != 1)) = true then 9 else 0
theorem d5z (t:a0q) (m:a5i):b2r t m = some (c1h t m):=by
 unfold b2r b0c c1h
 rw [b7a,Option.bind_some,b5s]
 cases hk:b6n t m.Column with
 | none => simp
 | some k =>
  obtain ⟨x,e1,e2⟩:=b5g hk
  simp only [Option.isNone_some,Bool.false_eq_true,if_false,atI]
  rw [e1,Option.bind_some,e2]
  simp only [b8j,Option.bind_some]
  cases b1z m.Value x.Kind with
  | true => simp
  | false =>
   by_cases hf:m.Func ≤ 5 <;> cases h1:(x.Kind != 1) <;> cases h3:((m.Value.length:Int) != 1) <;> simp [hf]
theorem d6a (t:a0q) (m:a5i):b2z t m = some (c1h t m):=by
 unfold b2z c1h
 rw [b5t,Option.bind_some,b5s]
 cases hk:b6n t m.Column with
 | none => simp
 | some k =>
  obtain ⟨x,e1,e2⟩:=b5g hk
  simp only [Option.isNone_some,Bool.false_eq_true,if_false,atI]
  rw [e1,Option.bind_some,e2]
  simp only [b8j,Option.bind_some]
  cases b1z m.Value x.Kind with
  | true => simp
  | false =>
   by_cases hf:m.Func ≤ 5 <;> cases h1:(x.Kind != 1) <;> cases h3:((m.Value.length:Int) != 1) <;> simp [hf]
theorem b9g (t:a0q):∀ l:List a5i,a5a t l = some (if a4j (c1h t) l = 0 then .go () else .ret (a4j (c1h t) l))
 | [] => by rw [a5a]; simp [a4j]
 | x :: xs => by
  rw [a5a,d5z,Option.bind_some,b9g t xs]
  by_cases h:c1h t x = 0 <;> simp [a4j,h]
theorem d2t (t:a0q) (l:List a5i):b1j t l = some (a4j (c1h t) l):=by
 unfold b1j
 rw [b9g]
 by_cases h:a4j (c1h t) l = 0 <;> simp [h]
theorem b9h (t:a0q):∀ l:List a5i,a5h t l = some (if a4j (c1h t) l = 0 then .go () else .ret (a4j (c1h t) l))
 | [] => by rw [a5h]; simp [a4j]
 | x :: xs => by
  rw [a5h,d6a,Option.bind_some,b9h t xs]
  by_cases h:c1h t x = 0 <;> simp [a4j,h]
theorem d2u (t:a0q) (l:List a5i):b1p t l = some (a4j (c1h t) l):=by
 unfold b1p
 rw [b9h]
 by_cases h:a4j (c1h t) l = 0 <;> simp [h]
def d1j (t:a0q) (list:List a3l) (i:Nat) (x:a3l):Int:=match b6n t x.Column with
 | none => 11
 | some k => if (list.take i).any (fun y => y.Column == x.Column) = true then 8 else match t.Columns[k]? with
  | none => 0
  | some c => if (b1z x.Value c.Kind || (decide ((x.Names.length:Int) > 0) && c.Kind != 4)) = true then 9 else 0
def b4i (t:a0q) (list:List a3l):List a3l → Nat → Int
 | [],_ => 0
 | x :: xs,i => if d1j t list i x = 0 then b4i t list xs (i + 1) else d1j t list i x
theorem b9i (t:a0q) (list:List a3l):∀ (xs:List a3l) (i:Nat),list.drop i = xs → a4z t list xs i = some (if b4i t list xs i = 0 then .go () else .ret (b4i t list xs i))
 | [],i,_ => by rw [a4z]; simp [b4i]
 | x :: xs,i,h => by
  have hi:=b4l h
  rw [a4z,b7a,Option.bind_some,b5s]
  have hx:b4i t list (x :: xs) i = if d1j t list i x = 0 then b4i t list xs (i + 1) else d1j t list i x:=rfl
  rw [hx,b9i t list xs (i + 1) (a9y h)]
  unfold d1j
  cases hk:b6n t x.Column with
  | none => simp
  | some k =>
   obtain ⟨c,e1,e2⟩:=b5g hk
   simp only [Option.isNone_some,Bool.false_eq_true,if_false,atI]
   rw [if_pos (by omega),a7d _ (fun y => y.Column == x.Column) (list.take i) (fun y _ => by unfold b1t; rfl),Option.bind_some]
   cases ha:(list.take i).any (fun y => y.Column == x.Column) with
   | true => simp
   | false =>
    simp only [Bool.false_eq_true,if_false,e2,e1,Option.bind_some]
    have ho:=b8j x.Value c.Kind
    cases hv:x.Value with
    | nil =>
     by_cases hn:x.Names = [] <;> by_cases h4:c.Kind = 4 <;> simp [b1z,hn,List.length_pos_iff,h4]
    | cons a v =>
     have e0:idx (a :: v) 0 = some a:=rfl
     rw [e0]
     by_cases hn:x.Names = [] <;> by_cases h4:c.Kind = 4 <;> by_cases h5:a.Kind = c.Kind <;> by_cases h6:a.Kind = 4 <;> by_cases h7:4 = c.Kind <;> first | (exfalso; omega) | (simp [b1z,hn,List.length_pos_iff,h5,h4,h6]; done) | (simp [b1z,hn,List.length_pos_iff,h5,h4,h6,h7]; done)
theorem d2v (t:a0q) (list:List a3l):b1i t list = some (b4i t list list 0):=by
 unfold b1i
 rw [b9i t list list 0 (by simp)]
 by_cases h:b4i t list list 0 = 0 <;> simp [h]
theorem c1i (list:List a3l) (x:a3l) (i:Nat) (hi:i ≤ list.length) (hl:list.length ≤ 6):∀ (n k fuel:Nat),n + k = i → n < fuel → a4w i list x fuel k = some (if ((list.take i).drop k).any (fun c => c.Column == x.Column) = true then .ret 8 else .go ())
 | _,_,0,_,h => by omega
 | 0,k,fuel + 1,hk,_ => by
  rw [a4w,if_neg (by simp; omega),List.drop_of_length_le (by simp; omega)]; simp
 | n + 1,k,fuel + 1,hk,hf => by
  obtain ⟨y,hy⟩:∃ y,list[k]? = some y:=⟨list[k]'(by omega),List.getElem?_eq_getElem (by omega)⟩
  have hd:(list.take i).drop k = y :: (list.take i).drop (k + 1):=by
   have hk2:k < (list.take i).length:=by simp; omega
   rw [List.drop_eq_getElem_cons hk2]
   congr 1
   rw [List.getElem_take]
   exact (List.getElem?_eq_some_iff.1 hy).2
  have ew:w64 ((k:Int) + 1) = ((k + 1:Nat):Int):=by rw [a6f (by omega)]; omega
  rw [a4w,if_pos (by simp; omega),b0b,hy,Option.bind_some,ew,c1i list x i hi hl n (k + 1) fuel (by omega) (by omega),hd]
  cases hn:(y.Column == x.Column) <;> simp [hn]
theorem c1j (t:a0q) (list:List a3l) (hl:list.length ≤ 6):∀ (xs:List a3l) (i:Nat),list.drop i = xs → a6a t list xs i = some (if b4i t list xs i = 0 then .go () else .ret (b4i t list xs i))
 | [],i,_ => by rw [a6a]; simp [b4i]
 | x :: xs,i,h => by
  have hi:=b4l h
  have hf:2 ^ 40 < FUEL:=by unfold FUEL; decide
  have e:=c1i list x i (by omega) hl i 0 FUEL (by omega) (by omega)
  rw [List.drop_zero] at e
  have e':a4w i list x FUEL 0 = _:=e
  rw [a6a,b5t,Option.bind_some,b5s]
  have hx:b4i t list (x :: xs) i = if d1j t list i x = 0 then b4i t list xs (i + 1) else d1j t list i x:=rfl
  rw [hx,c1j t list hl xs (i + 1) (a9y h),e']
  unfold d1j
  cases hk:b6n t x.Column with
  | none => simp
  | some k =>
   obtain ⟨c,e1,e2⟩:=b5g hk
   simp only [Option.isNone_some,Bool.false_eq_true,if_false,atI]
   cases ha:(list.take i).any (fun y => y.Column == x.Column) with
   | true => simp
   | false =>
    simp only [Bool.false_eq_true,if_false,e2,e1,Option.bind_some]
    cases hv:x.Value with
    | nil =>
     by_cases hn:x.Names = [] <;> by_cases h4:c.Kind = 4 <;> simp [b1z,hn,List.length_pos_iff,h4]
    | cons a v =>
     have e0:idx (a :: v) 0 = some a:=rfl
     rw [e0]
     by_cases hn:x.Names = [] <;> by_cases h4:c.Kind = 4 <;> by_cases h5:a.Kind = c.Kind <;> by_cases h6:a.Kind = 4 <;> by_cases h7:4 = c.Kind <;> first | (exfalso; omega) | (simp [b1z,hn,List.length_pos_iff,h5,h4,h6]; done) | (simp [b1z,hn,List.length_pos_iff,h5,h4,h6,h7]; done)
theorem d6b (t:a0q) (list:List a3l) (hl:list.length ≤ 6):b2y t list = some (b4i t list list 0):=by
 unfold b2y
 rw [c1j t list hl list 0 (by simp)]
 by_cases h:b4i t list list 0 = 0 <;> simp [h]
def b7y (t:a0q) (n:Str):Int:=if (b5h t n).isSome = true then 0 else 11
theorem b6o (t:a0q):∀ l:List Str,a4e t l = some (if a4j (b7y t) l = 0 then .go () else .ret 11)
 | [] => by rw [a4e]; simp [a4j]
 | x :: xs => by
  obtain ⟨c,e,_⟩:=d4d t x
  rw [a4e,e,Option.bind_some,b6o t xs]
  cases h:(b5h t x).isSome <;> simp [a4j,b7y,h]
theorem c5u (t:a0q):∀ l:List Str,a4j (b7y t) l = 0 ∨ a4j (b7y t) l = 11
 | [] => .inl rfl
 | x :: xs => by
  simp only [a4j]
  split
  ·exact c5u t xs
  ·rename_i h
   unfold b7y at h ⊢
   split
   ·rename_i h2; rw [if_pos h2] at h; exact absurd rfl h
   ·exact .inr rfl
theorem c6w (t:a0q) (l:List Str):a9d t l = some (a4j (b7y t) l):=by
 unfold a9d
 rw [b6o]
 rcases c5u t l with h | h <;> simp [h]
theorem c1k (t:a0q):∀ l:List Str,a6b t l = some (if a4j (b7y t) l = 0 then .go () else .ret 11)
 | [] => by rw [a6b]; simp [a4j]
 | x :: xs => by
  rw [a6b,b5t,Option.bind_some,b5s,c1k t xs]
  have hs:(b5h t x).isSome = (decide (x = b5v) || (b6n t x).isSome):=by
   unfold b5h
   cases hk:b6n t x with
   | some k =>
    obtain ⟨c,_,e2⟩:=b5g hk
    show (t.Columns[k]?).isSome = _
    rw [e2]; simp
   | none => by_cases h:x = b5v <;> simp [h]
  by_cases h:x = b5v
  ·have hb:(!(x == [95,117,117,105,100])) = false:=by simp [h,b5v]
   have hs':(b5h t x).isSome = true:=by rw [hs]; simp [h]
   have e:a4j (b7y t) (x :: xs) = a4j (b7y t) xs:=by simp only [a4j,b7y,hs',if_true]
   rw [hb,e]
   simp
  ·have hb:(!(x == [95,117,117,105,100])) = true:=by simpa [b5v] using h
   rw [hb]
   cases hk:b6n t x <;> simp [a4j,b7y,hs,h,hk]
theorem d6c (a b c d:Int):b2s [a,b,c,d] = some (if a ≠ 0 then a else if b ≠ 0 then b else if c ≠ 0 then c else d):=by
 unfold b2s
 simp only [a7p]
 by_cases h1:a = 0 <;> by_cases h2:b = 0 <;> by_cases h3:c = 0 <;> by_cases h4:d = 0 <;> simp [h1,h2,h3,h4]
theorem e0h {o:GOp} (h:opB o = true):o.Row.length ≤ 6 ∧ (o.Kind ≤ 6 → o.Kind ≠ 1 → o.Name = []):=by
 simp only [opB,Bool.and_eq_true,decide_eq_true_eq] at h
 refine ⟨by omega,fun h1 h2 => ?_⟩
 have hu:=h.1.1.1.1.1.1
 simp only [b5f,Bool.and_eq_true,Bool.or_eq_true,decide_eq_true_eq] at hu
 have:=hu.1.1.1.1.2
 rcases this with (h3 | h3) | h3
 ·exact absurd h3 h2
 ·omega
 ·exact h3
theorem d9b (s:a2q) (o:GOp) (ho:opB o = true):∃ r,b3z s o = some r ∧ b3a s o = some r:=by
 obtain ⟨hr,hnm⟩:=e0h ho
 unfold b3z b3a
 simp only [b7s,b4n,Option.bind_some,c8f,c8e,b5s]
 by_cases hk:o.Kind > 6
 ·have hd:decide (o.Kind > 6) = true:=decide_eq_true hk
  simp only [hd,if_true]
  by_cases h10:o.Kind = 10 <;> cases hn:a4v o.Name <;> simp [h10]
 ·have hd:decide (o.Kind > 6) = false:=decide_eq_false hk
  simp only [hd,Bool.false_eq_true,if_false]
  cases ht:d2n s o.Table with
  | none => exact ⟨10,by simp,by simp⟩
  | some k =>
   obtain ⟨t,e1,_⟩:=d8x ht
   have en:(bif (o.Kind == 1) then (!(o.Name == [])) else false) = (!(o.Name == [])):=by
    by_cases h1:o.Kind = 1
    ·simp [h1]
    ·have:=hnm (by omega) h1
     simp [h1,this]
   rw [en]
   simp only [Option.isNone_some,Bool.false_eq_true,if_false,atI,e1,Option.bind_some,c6w,d1i,d2v,d2t,d6c,c1k,d2s,d6b t o.Row hr,d2u]
   cases hc:((if (!(o.Name == [])) = true then some (!a4v o.Name) else some false:Option Bool)) with
   | none => exfalso; split at hc <;> cases hc
   | some b =>
    rw [Option.bind_some,Option.bind_some]
    cases b with
    | true => exact ⟨3,by simp,by simp⟩
    | false =>
     simp only [Bool.false_eq_true,if_false]
     rcases c5u t o.Columns with h | h
     ·rw [h]
      by_cases h2:a4j (b5i t) o.Where = 0
      ·by_cases h3:b4i t o.Row o.Row 0 = 0
       ·exact ⟨_,rfl,by simp [h2,h3]⟩
       ·exact ⟨_,rfl,by simp [h2,h3]⟩
      ·exact ⟨_,rfl,by simp [h2]⟩
     ·rw [h]
      exact ⟨11,by simp,by simp⟩
structure b0x (s:a0h):Prop where
 code:∀ x ∈ s.Code,0 ≤ x ∧ x < 256
 len:(s.Code.length:Int) ≤ 1048576
 at0:0 ≤ s.At
 seed:0 ≤ s.Seed ∧ s.Seed < 2147483648
structure Nx (s s':a0h) (k:Int):Prop where
 ok:b0x s'
 lo:s.At ≤ s'.At
 hi:s'.At ≤ s.At + k
 code:s'.Code = s.Code
theorem Nx.refl {s:a0h} (h:b0x s):Nx s s 0:=⟨h,Int.le_refl _,by omega,rfl⟩
theorem Nx.mono {s s':a0h} {k l:Int} (h:Nx s s' k) (hl:k ≤ l):Nx s s' l:=⟨h.ok,h.lo,by have:=h.hi; omega,h.code⟩
theorem Nx.trans {a b c:a0h} {k l:Int} (h:Nx a b k) (g:Nx b c l):Nx a c (k + l):=⟨g.ok,by have:=h.lo; have:=g.lo; omega,by have:=h.hi; have:=g.hi; omega,g.code.trans h.code⟩
theorem c1l {a m:Int} (h:0 ≤ a) (hm:0 < m):0 ≤ a.tmod m ∧ a.tmod m < m:=⟨Int.tmod_nonneg _ h,Int.tmod_lt_of_pos _ hm⟩
theorem e0i {a m:Int} (h:0 ≤ a) (hm:0 < m):a.tdiv m = a / m:=by rw [Int.tdiv_eq_ediv_of_nonneg h]
theorem d9c (code:List Int) (hc:∀ x ∈ code,0 ≤ x ∧ x < 256) (hl:(code.length:Int) ≤ 1048576):∃ s,b0l code = some s ∧ b0x s ∧ s.At = 0 ∧ s.Code = code:=by
 refine ⟨_,rfl,⟨hc,hl,by simp,?_⟩,rfl,rfl⟩
 have:=c1l (a:=(code.length:Int)) (m:=1000) (by omega) (by omega)
 simp only; omega
theorem e1k (s:a0h) (h:b0x s) (ha:s.At < 2 ^ 50):∃ b s',a4k s = some (b,s') ∧ 0 ≤ b ∧ b < 256 ∧ Nx s s' 1:=by
 obtain ⟨h1,h2,h3,h4,h5⟩:=h
 unfold a4k
 rw [a6f (n:=s.At + 1) (by omega)]
 by_cases c:s.At + 1 ≤ (s.Code.length:Int)
 ·rw [if_pos (by simpa using c)]
  obtain ⟨n,hn⟩:∃ n:Nat,s.At = (n:Int):=⟨s.At.toNat,by omega⟩
  have e1:w64 (s.At + 1 - 1) = (n:Int):=by rw [a6f (by omega)]; omega
  obtain ⟨x,hx⟩:∃ x,s.Code[n]? = some x:=⟨s.Code[n]'(by omega),List.getElem?_eq_getElem (by omega)⟩
  have hb:=h1 x (List.mem_of_getElem? hx)
  rw [e1,b0b,hx,Option.bind_some,Option.bind_some,a6f (n:=x) (by omega),a6f (n:=s.Seed * 31) (by omega),a6f (n:=s.Seed * 31 + x) (by omega),a6f (by omega)]
  have:=c1l (a:=s.Seed * 31 + x + 7) (m:=2147483648) (by omega) (by omega)
  exact ⟨x,_,rfl,hb.1,hb.2,⟨⟨h1,h2,by simp only; omega,this⟩,by simp only; omega,by simp only; omega,rfl⟩⟩
 ·rw [if_neg (by simpa using c)]
  by_cases c2:s.At + 1 > 3000
  ·rw [if_pos (by simpa using c2)]
   exact ⟨0,_,rfl,by omega,by omega,⟨⟨h1,h2,by simp only; omega,h4,h5⟩,by simp only; omega,by simp only; omega,rfl⟩⟩
  ·rw [if_neg (by simpa using c2),a6f (n:=s.Seed * 1103515245) (by omega),a6f (n:=s.Seed * 1103515245 + 12345) (by omega)]
   have hs:=c1l (a:=s.Seed * 1103515245 + 12345) (m:=2147483648) (by omega) (by omega)
   have hq:=e0i (a:=(s.Seed * 1103515245 + 12345).tmod 2147483648) (m:=65536) hs.1 (by omega)
   rw [hq]
   have:w64 ((s.Seed * 1103515245 + 12345).tmod 2147483648 / 65536) = (s.Seed * 1103515245 + 12345).tmod 2147483648 / 65536:=a6f (by omega)
   rw [this]
   have hb:=c1l (a:=(s.Seed * 1103515245 + 12345).tmod 2147483648 / 65536) (m:=256) (by omega) (by omega)
   exact ⟨_,_,rfl,hb.1,hb.2,⟨⟨h1,h2,by simp only; omega,hs⟩,by simp only; omega,by simp only; omega,rfl⟩⟩
theorem a8w (n:Int) (s:a0h) (h:b0x s) (ha:s.At + 1 < 2 ^ 50) (h1:1 ≤ n) (h2:n ≤ 256):∃ v s',a3z n s = some (v,s') ∧ 0 ≤ v ∧ v < n ∧ Nx s s' 1:=by
 unfold a3z
 by_cases c:n ≤ 1
 ·rw [if_pos (by simpa using c)]
  exact ⟨0,s,rfl,by omega,by omega,(Nx.refl h).mono (by omega)⟩
 ·rw [if_neg (by simpa using c),if_pos (by simpa using h2)]
  obtain ⟨b,s',e,g1,g2,g3⟩:=e1k s h (by omega)
  rw [e,Option.bind_some,if_pos (by omega)]
  have:=c1l (a:=b) (m:=n) g1 (by omega)
  exact ⟨_,_,rfl,this.1,this.2,g3⟩
theorem a9x (n:Int) (s:a0h) (h:b0x s) (ha:s.At + 1 < 2 ^ 50) (h1:1 ≤ n) (h2:n ≤ 256):∃ v s',a3e n s = some (v,s') ∧ Nx s s' 1:=by
 unfold a3e
 obtain ⟨v,s',e,_,_,g⟩:=a8w n s h ha h1 h2
 rw [e,Option.bind_some]
 exact ⟨_,_,rfl,g⟩
theorem b8k (l:List Str) (s:a0h) (h:b0x s) (ha:s.At + 1 < 2 ^ 50) (h1:1 ≤ l.length) (h2:l.length ≤ 256):∃ t s',a6y l s = some (t,s') ∧ t ∈ l ∧ Nx s s' 1:=by
 unfold a6y
 rw [if_neg (by simp; intro hh; rw [hh] at h1; simp at h1)]
 obtain ⟨v,s',e,g1,g2,g⟩:=a8w l.length s h ha (by omega) (by omega)
 rw [e,Option.bind_some]
 obtain ⟨m,rfl⟩:∃ m:Nat,v = (m:Int):=⟨v.toNat,by omega⟩
 simp only
 obtain ⟨x,hx⟩:∃ x,l[m]? = some x:=⟨l[m]'(by omega),List.getElem?_eq_getElem (by omega)⟩
 rw [b0b,hx,Option.bind_some]
 exact ⟨x,s',rfl,List.mem_of_getElem? hx,g⟩
theorem e1l (x y:a1c):(x.Kind == y.Kind && (x.N == y.N && (x.T == y.T && true))) = decide (x = y):=by
 cases x; cases y
 rw [Bool.eq_iff_iff]
 simp
theorem d1k (a:a1c):∀ d:List a1c,a6j a d = some (if a ∈ d then .ret true else .go ())
 | [] => by rw [a6j]; simp
 | x :: xs => by
  rw [a6j,e1l,d1k a xs]
  by_cases h:x = a
  ·subst h; simp
  ·simp [h,Ne.symm h]
theorem e8i (d:List a1c) (a:a1c):b3u d a = some (decide (a ∈ d)):=by
 unfold b3u
 rw [d1k]
 by_cases h:a ∈ d <;> simp [h]
theorem d1l (d:List a1c) (a:a1c):∀ (n k:Nat),n < k → n ≤ d.length → d.length ≤ 2 ^ 29 → ∃ m:Nat,a6k d a k n = some (m:Int) ∧ m ≤ n ∧ (∀ x,0 < m → d[m - 1]? = some x → b6y x a ≤ 0) ∧ (∀ j x,m ≤ j → j < n → d[j]? = some x → 0 < b6y x a)
 | _,0,h,_,_ => by omega
 | 0,k + 1,_,_,_ => by
  refine ⟨0,?_,by omega,by omega,by omega⟩
  rw [a6k,if_neg (by simp),Option.bind_some,if_neg (by simp)]
 | n + 1,k + 1,h,hn,hl => by
  obtain ⟨y,hy⟩:∃ y,d[n]? = some y:=⟨d[n],List.getElem?_eq_getElem (by omega)⟩
  have ew:w64 (((n + 1:Nat):Int) - 1) = (n:Int):=by rw [a6f (by omega)]; omega
  rw [a6k,if_pos (by simp),ew,b0b,hy,Option.bind_some,d4a,Option.bind_some,Option.bind_some]
  by_cases hc:b6y y a > 0
  ·rw [if_pos (by simpa using hc)]
   obtain ⟨m,e,h1,h2,h3⟩:=d1l d a n k (by omega) (by omega) hl
   refine ⟨m,e,by omega,h2,fun j x hj1 hj2 hx => ?_⟩
   by_cases hjn:j = n
   ·subst hjn; rw [hy] at hx; rw [← Option.some.inj hx]; exact hc
   ·exact h3 j x hj1 (by omega) hx
  ·rw [if_neg (by simpa using hc)]
   refine ⟨n + 1,rfl,by omega,fun x _ hx => ?_,by omega⟩
   rw [show n + 1 - 1 = n from by omega,hy] at hx
   rw [← Option.some.inj hx]; omega
theorem d4e (d:List a1c) (a:a1c) (k i:Nat) (hk:k ≤ d.length):(d.take k ++ a :: d.drop k)[i]? = if i < k then d[i]? else if i = k then some a else d[i - 1]?:=by
 by_cases h1:i < k
 ·rw [if_pos h1,List.getElem?_append_left (by simp; omega),List.getElem?_take_of_lt h1]
 ·rw [if_neg h1,List.getElem?_append_right (by simp; omega)]
  have hl:(d.take k).length = k:=by simp; omega
  rw [hl]
  by_cases h2:i = k
  ·subst h2; simp
  ·rw [if_neg h2,show i - k = (i - k - 1) + 1 from by omega,List.getElem?_cons_succ,List.getElem?_drop]
   congr 1; omega
theorem e8j (k:Int) (d:List a1c) (a:a1c) (hs:b8y k d) (ha:b3g a = true) (hk:a.Kind = k) (hl:d.length < 2 ^ 29):∃ d',b3v d a = some d' ∧ b8y k d' ∧ (∀ x,x ∈ d' ↔ x = a ∨ x ∈ d) ∧ d'.length ≤ d.length + 1:=by
 have hf:2 ^ 40 < FUEL:=by unfold FUEL; decide
 unfold b3v
 rw [e8i,Option.bind_some]
 by_cases hm:a ∈ d
 ·rw [if_pos (by simpa using hm)]
  exact ⟨d,rfl,hs,fun x => ⟨.inr,fun h => h.elim (fun h => h ▸ hm) id⟩,by omega⟩
 ·rw [if_neg (by simpa using hm)]
  obtain ⟨m,e,h1,h2,h3⟩:=d1l d a d.length FUEL (by omega) (by omega) (by omega)
  rw [e,Option.bind_some,if_pos (by omega),if_pos (by omega),if_pos (by simp; omega),if_pos (by simp; omega),if_pos (by simp; omega)]
  simp only [List.nil_append,Int.toNat_natCast,List.append_assoc,List.cons_append,List.nil_append]
  refine ⟨_,rfl,⟨?_,?_⟩,?_,by simp; omega⟩
  ·intro x hx
   simp only [List.mem_append,List.mem_cons] at hx
   rcases hx with hx | rfl | hx
   ·exact hs.atom x (List.mem_of_mem_take hx)
   ·exact ⟨ha,hk⟩
   ·exact hs.atom x (List.mem_of_mem_drop hx)
  ·intro i x y hx hy
   rw [d4e d a m i h1] at hx
   rw [d4e d a m (i + 1) h1] at hy
   by_cases c1:i + 1 < m
   ·rw [if_pos (by omega)] at hx
    rw [if_pos c1] at hy
    exact hs.ord i x y hx hy
   ·rw [if_neg c1] at hy
    by_cases c2:i + 1 = m
    ·rw [if_pos c2] at hy
     rw [if_pos (by omega)] at hx
     have e1:=Option.some.inj hy
     subst e1
     have:=h2 x (by omega) (by rw [show m - 1 = i from by omega]; exact hx)
     have hne:b6y x a ≠ 0:=fun h => hm (by rw [← (d5n x a).1 h]; exact List.mem_of_getElem? hx)
     omega
    ·rw [if_neg c2] at hy
     rw [if_neg (by omega)] at hx
     by_cases c3:i = m
     ·rw [if_pos c3] at hx
      have e1:=Option.some.inj hx
      subst e1
      rw [show i + 1 - 1 = i from by omega] at hy
      have:=h3 i y (by omega) (List.getElem?_eq_some_iff.1 hy).1 hy
      have:=d5o y a
      omega
     ·rw [if_neg c3] at hx
      exact hs.ord (i - 1) x y hx (by rw [show i - 1 + 1 = i + 1 - 1 from by omega]; exact hy)
  ·intro x
   have:x ∈ d ↔ x ∈ d.take m ∨ x ∈ d.drop m:=by rw [← List.mem_append,List.take_append_drop]
   simp only [List.mem_append,List.mem_cons,this]
   constructor
   ·rintro (h | h | h)
    ·exact .inr (.inl h)
    ·exact .inl h
    ·exact .inr (.inr h)
   ·rintro (h | h | h)
    ·exact .inr (.inl h)
    ·exact .inl h
    ·exact .inr (.inr h)
theorem e1m {n:Int}:okI .u8 n ↔ 0 ≤ n ∧ n ≤ 255:=by
 have h1:IntKind.u8.min = 0:=by decide
 have h2:IntKind.u8.max = 255:=by decide
 simp [okI,Lit.wf,h1,h2]
theorem e0j (s:a0h):a4m s = a4k s:=by
 first
 | rfl
 | (unfold a4m a4k; rfl)
theorem b4o (n:Int) (s:a0h):a0z n s = a3z n s:=by
 first
 | rfl
 | (unfold a0z a3z; simp only [e0j])
theorem c9m (l:List Str) (s:a0h):a4n l s = a6y l s:=by
 first
 | rfl
 | (unfold a4n a6y; simp only [b4o])
theorem d6d (c:List Int):a7k c = b0l c:=by
 first
 | rfl
 | (unfold a7k b0l; rfl)
theorem c5v (kind:Int) (s:a0h) (hk:1 ≤ kind ∧ kind ≤ 4) (h:b0x s) (ha:s.At + 1 < 2 ^ 50):∃ a s',a2k kind s = some (a,s') ∧ b3g a = true ∧ a.Kind = kind ∧ Nx s s' 1:=by
 unfold a2k
 try simp only [b4o,c9m]
 by_cases k1:kind = 1
 ·subst k1
  obtain ⟨v,s',e,g1,g2,g⟩:=a8w 12 s h ha (by omega) (by omega)
  rw [if_pos (by simp),e,Option.bind_some]
  refine ⟨_,s',rfl,?_,rfl,g⟩
  have:w64 (v - 4) = v - 4:=a6f (by omega)
  rw [this]
  have:-1000000000 ≤ v - 4 ∧ v - 4 ≤ 1000000000:=by omega
  simp [b3g,this]
 rw [if_neg (by simpa using k1)]
 by_cases k2:kind = 2
 ·subst k2
  obtain ⟨t,s',e,ht,g⟩:=b8k [[],[97],[98],[99],[110,101,116]] s h ha (by simp) (by simp)
  rw [if_pos (by simp),e,Option.bind_some]
  refine ⟨_,s',rfl,?_,rfl,g⟩
  have:c5o t = true:=List.all_eq_true.1 (show ([[],[97],[98],[99],[110,101,116]]:List Str).all c5o = true by decide) t ht
  simp [b3g,this]
 rw [if_neg (by simpa using k2)]
 by_cases k3:kind = 3
 ·subst k3
  obtain ⟨v,s',e,g1,g2,g⟩:=a8w 2 s h ha (by omega) (by omega)
  rw [if_pos (by simp),e,Option.bind_some]
  refine ⟨_,s',rfl,?_,rfl,g⟩
  have:0 ≤ v ∧ v ≤ 1:=by omega
  simp [b3g,this]
 rw [if_neg (by simpa using k3)]
 have k4:kind = 4:=by omega
 subst k4
 obtain ⟨v,s',e,g1,g2,g⟩:=a8w 6 s h ha (by omega) (by omega)
 rw [e,Option.bind_some]
 refine ⟨_,s',rfl,?_,rfl,g⟩
 have:w64 (1 + v) = 1 + v:=a6f (by omega)
 rw [this]
 have:1 ≤ 1 + v ∧ 1 + v ≤ 1000000:=by omega
 simp [b3g,this]
theorem c5w (kind:Int) (hk:1 ≤ kind ∧ kind ≤ 4):∀ (i k:Nat) (s:a0h) (out:List a1c),i < k → b8y kind out → out.length + i ≤ 100 → b0x s → s.At + i < 2 ^ 50 →
  ∃ s' d,a2z kind k out i s.Code s.At s.Seed = some (d,s'.Code,s'.At,s'.Seed) ∧ b8y kind d ∧ d.length ≤ out.length + i ∧ Nx s s' i
 | _,0,_,_,h,_,_,_,_ => by omega
 | 0,k + 1,s,out,h,hs,hl,ho,ha => by
  refine ⟨s,out,?_,hs,by omega,Nx.refl ho⟩
  rw [a2z,if_neg (by simp)]
 | i + 1,k + 1,s,out,h,hs,hl,ho,ha => by
  rw [a2z,if_pos (by simp)]
  obtain ⟨a,s1,e,g1,g2,g3⟩:=c5v kind s hk ho (by omega)
  have e':a2k kind (⟨s.Code,s.At,s.Seed⟩:a0h) = some (a,s1):=e
  obtain ⟨d,f,f1,f2,f3⟩:=e8j kind out a hs g1 g2 (by omega)
  have ew:w64 (((i + 1:Nat):Int) - 1) = (i:Int):=by rw [a6f (by omega)]; omega
  have:=g3.hi
  obtain ⟨s2,d2,q,q1,q2,q3⟩:=c5w kind hk i k s1 d (by omega) f1 (by omega) g3.ok (by omega)
  rw [e',Option.bind_some,f,Option.bind_some,ew,q]
  exact ⟨s2,d2,rfl,q1,by omega,(g3.trans q3).mono (by omega)⟩
theorem c9n (kind:Int) (s:a0h) (hk:1 ≤ kind ∧ kind ≤ 4) (h:b0x s) (ha:s.At + 5 < 2 ^ 50):∃ d s',a4g kind s = some (d,s') ∧ b8y kind d ∧ d.length ≤ 4 ∧ Nx s s' 5:=by
 have hf:2 ^ 40 < FUEL:=by unfold FUEL; decide
 unfold a4g
 try rw [b4o]
 obtain ⟨v,s1,e,g1,g2,g⟩:=a8w 5 s h (by omega) (by omega) (by omega)
 obtain ⟨i,rfl⟩:∃ i:Nat,v = (i:Int):=⟨v.toNat,by omega⟩
 have:=g.hi
 obtain ⟨s2,d,e2,q1,q2,q3⟩:=c5w kind hk i FUEL s1 [] (by omega) ⟨by simp,by simp⟩ (by simp; omega) g.ok (by omega)
 rw [e,Option.bind_some,e2,Option.bind_some]
 simp only [List.length_nil] at q2
 exact ⟨d,s2,rfl,q1,by omega,(g.trans q3).mono (by omega)⟩
theorem c3q {k:Int} {d:List a1c} (h:b8y k d) (hl:d.length ≤ 8):b5m d = true:=by
 unfold b5m
 rw [b8y.allS h,decide_eq_true (by omega)]
 rfl
theorem c1m {α:Type} (p:α → Bool):∀ l:List α,(l.any fun x => !p x) = !l.all p
 | [] => rfl
 | x :: l => by simp only [List.any_cons,List.all_cons,c1m p l,Bool.not_and]
def rowB (n:Nat) (r:b2j):Bool:=decide (r.Cells.length = n) && r.Cells.all b5m
def e8k (r:b3n):Bool :=
 if r.Code = 0 then decide (0 ≤ r.Count ∧ r.Count ≤ 1000) && decide (0 ≤ r.Id ∧ r.Id ≤ 1000000) && decide (r.Columns.length ≤ 7) && decide (r.Rows.length ≤ 12) && r.Columns.all a4v && r.Rows.all (rowB r.Columns.length)
 else decide (1 ≤ r.Code ∧ r.Code ≤ 19) && decide (r.Count = 0) && decide (r.Id = 0) && decide (r.Columns.length = 0) && decide (r.Rows.length = 0)
def d9d (r:b2j):Prop:=∀ d ∈ r.Cells,d.length ≤ maxLen
theorem d6e (r:b2j) (n:Nat) (h:d9d r):b3c r n = some (rowB n r):=by
 unfold b3c rowB
 by_cases e:r.Cells.length = n
 ·have e':((r.Cells.length:Int) == (n:Int)) = true:=by simp [e]
  rw [e',if_pos rfl,a9p _ (fun d => !b5m d) r.Cells (fun d hd => by unfold b3b; rw [b8i d (h d hd)]; rfl),c1m]
  simp [e]
 ·have e':((r.Cells.length:Int) == (n:Int)) = false:=by simp; omega
  rw [e',if_neg (by simp)]
  simp [e]
theorem c5x (r:b3n) (h:∀ x ∈ r.Rows,d9d x):b0a r = some (e8k r):=by
 unfold b0a e8k
 by_cases c:r.Code = 0
 ·rw [if_pos c,if_neg (by simp [c])]
  simp only [a9w,Option.bind_some]
  rw [a5p _ (fun t => !a4v t) r.Columns (fun t _ => by unfold b1u; rw [b7s]; rfl),c1m,
   b0i _ (fun x => !rowB r.Columns.length x) r.Rows (fun x hx => by unfold b1v; rw [d6e x _ (h x hx)]; rfl),c1m]
  have l1:decide ((r.Columns.length:Int) > 7) = !decide (r.Columns.length ≤ 7):=by by_cases q:r.Columns.length ≤ 7 <;> simp [q] <;> omega
  have l2:decide ((r.Rows.length:Int) > 12) = !decide (r.Rows.length ≤ 12):=by by_cases q:r.Rows.length ≤ 12 <;> simp [q] <;> omega
  rw [l1,l2]
  cases decide (0 ≤ r.Count ∧ r.Count ≤ 1000) <;> cases decide (0 ≤ r.Id ∧ r.Id ≤ 1000000) <;> cases decide (r.Columns.length ≤ 7) <;> cases decide (r.Rows.length ≤ 12) <;> cases r.Columns.all a4v <;> cases r.Rows.all (rowB r.Columns.length) <;> rfl
 ·rw [if_neg c,if_pos (by simpa using c)]
  simp only [a9w,Option.bind_some]
  have l1:((r.Columns.length:Int) == 0) = decide (r.Columns.length = 0):=by by_cases q:r.Columns.length = 0 <;> simp [q]
  have l2:((r.Rows.length:Int) == 0) = decide (r.Rows.length = 0):=by by_cases q:r.Rows.length = 0 <;> simp [q]
  have l3:(r.Count == 0) = decide (r.Count = 0):=by by_cases q:r.Count = 0 <;> simp [q]
  have l4:(r.Id == 0) = decide (r.Id = 0):=by by_cases q:r.Id = 0 <;> simp [q]
  rw [l1,l2,l3,l4]
  cases decide (1 ≤ r.Code ∧ r.Code ≤ 19) <;> cases decide (r.Count = 0) <;> cases decide (r.Id = 0) <;> cases decide (r.Columns.length = 0) <;> cases decide (r.Rows.length = 0) <;> rfl
def nt0:a0q:=⟨[110,111,116,101],[(⟨[110,97,109,101],2,1,1,0,0,[],false⟩:a0v),(⟨[97,98,111,117,116],4,0,4,0,0,[112,111,114,116],false⟩:a0v)],[],true⟩
def nt1:a0q:=⟨[112,111,114,116],[(⟨[110,97,109,101],2,1,1,0,0,[],false⟩:a0v),(⟨[116,97,103],1,0,1,0,99,[],false⟩:a0v),(⟨[117,112],3,1,1,0,0,[],false⟩:a0v)],[(0:Int)],false⟩
def nt2:a0q:=⟨[115,119,105,116,99,104],[(⟨[110,97,109,101],2,1,1,0,0,[],false⟩:a0v),(⟨[99,111,117,110,116],1,1,1,(-1000),1000,[],false⟩:a0v),(⟨[112,111,114,116,115],4,0,8,0,0,[112,111,114,116],true⟩:a0v)],[(0:Int)],true⟩
def b4g:a2q:=⟨[nt0,nt1,nt2]⟩
theorem b7z:a6e = some b4g:=rfl
theorem b8l (v:Int) (h:0 ≤ v ∧ v < 3):∃ t,idx b4g.Tables v = some t ∧ b4g.Tables[v.toNat]? = some t ∧ (t = nt0 ∨ t = nt1 ∨ t = nt2):=by
 have:v = 0 ∨ v = 1 ∨ v = 2:=by omega
 rcases this with rfl | rfl | rfl
 ·exact ⟨nt0,rfl,rfl,.inl rfl⟩
 ·exact ⟨nt1,rfl,rfl,.inr (.inl rfl)⟩
 ·exact ⟨nt2,rfl,rfl,.inr (.inr rfl)⟩
theorem c9o {t:a0q} (h:t = nt0 ∨ t = nt1 ∨ t = nt2):t.Columns.length ≤ 3:=by rcases h with rfl | rfl | rfl <;> decide
theorem b3k (n:Int) (s:a0h):a1r n s = a3e n s:=by
 first
 | rfl
 | (unfold a1r a3e; simp only [b4o])
theorem a7w (s:a0h):(⟨s.Code,s.At,s.Seed⟩:a0h) = s:=rfl
def d6f (c:a0v):Bool:=decide (1 ≤ c.Kind ∧ c.Kind ≤ 4) && a3n c.Name
theorem c9p {t:a0q} (h:t = nt0 ∨ t = nt1 ∨ t = nt2):t.Columns.all d6f = true:=by rcases h with rfl | rfl | rfl <;> decide
theorem c9q {t:a0q} (h:t = nt0 ∨ t = nt1 ∨ t = nt2):2 ≤ t.Columns.length:=by rcases h with rfl | rfl | rfl <;> decide
theorem e8l {k:Int} {a:a1c} (h1:b3g a = true) (h2:a.Kind = k):b8y k [a]:=⟨fun x hx => by simp at hx; subst hx; exact ⟨h1,h2⟩,fun i x y hx hy => by simp at hy⟩
theorem d1m:b5m [] = true:=rfl
theorem b8a {a:a1c} (h:b3g a = true):b5m [a] = true:=c3q (e8l h rfl) (by simp)
theorem b3q {α:Type} {p:α → Bool} {l:List α} {x:α} (h:l.all p = true) (hx:p x = true):(l ++ [x]).all p = true:=by
 rw [List.all_append,h]; simp [hx]
theorem c9r {t:a0q} (ht:t = nt0 ∨ t = nt1 ∨ t = nt2) (v:Int) (h:0 ≤ v ∧ v < (t.Columns.length:Int)):∃ c,idx t.Columns v = some c ∧ c ∈ t.Columns ∧ 1 ≤ c.Kind ∧ c.Kind ≤ 4 ∧ a3n c.Name = true:=by
 obtain ⟨m,rfl⟩:∃ m:Nat,v = (m:Int):=⟨v.toNat,by omega⟩
 obtain ⟨c,hc⟩:∃ c,t.Columns[m]? = some c:=⟨t.Columns[m]'(by omega),List.getElem?_eq_getElem (by omega)⟩
 have hm:=List.mem_of_getElem? hc
 have:=List.all_eq_true.1 (c9p ht) c hm
 simp only [d6f,Bool.and_eq_true,decide_eq_true_eq] at this
 exact ⟨c,by rw [b0b,hc],hm,this.1.1,this.1.2,this.2⟩
theorem e0x (q:Int) (h:0 ≤ q ∧ q < 4):∃ f,[(1:Int),(2:Int),(7:Int),(8:Int)][(0 + q.toNat)]? = some f ∧ 1 ≤ f ∧ f ≤ 8:=by
 have:q = 0 ∨ q = 1 ∨ q = 2 ∨ q = 3:=by omega
 rcases this with rfl | rfl | rfl | rfl
 ·exact ⟨1,rfl,by omega⟩
 ·exact ⟨2,rfl,by omega⟩
 ·exact ⟨7,rfl,by omega⟩
 ·exact ⟨8,rfl,by omega⟩
theorem c5y:∀ (xs:List a0v) (i:Nat) (s:a0h) (out:List a3l),xs.all d6f = true → out.all setB = true → out.length + xs.length ≤ 1000 → b0x s → s.At + 20 * xs.length < 2 ^ 49 →
  ∃ s' l,a2b xs i s.Code s.At s.Seed out = some (s'.Code,s'.At,s'.Seed,l) ∧ l.all setB = true ∧ l.length ≤ out.length + xs.length ∧ out.length ≤ l.length ∧ (i = 0 → xs ≠ [] → out.length < l.length) ∧ Nx s s' (20 * xs.length)
 | [],i,s,out,_,hv,_,ho,_ => ⟨s,out,by rw [a2b],hv,by simp,by omega,by simp,(Nx.refl ho).mono (by simp)⟩
 | c :: xs,i,s,out,hk,hv,hl,ho,ha => by
  simp only [List.length_cons] at hl ha
  simp only [List.all_cons,Bool.and_eq_true] at hk
  obtain ⟨hkc,hks⟩:=hk
  simp only [d6f,Bool.and_eq_true,decide_eq_true_eq] at hkc
  obtain ⟨hk1,hk2⟩:=hkc
  rw [a2b]
  simp only [b3k,c9m]
  obtain ⟨b1,s1,e1,n1⟩:=a9x 2 s ho (by omega) (by omega) (by omega)
  have h1:=n1.hi
  rw [a7w,e1,Option.bind_some]
  have skip:∀ s':a0h,Nx s s' 20 → ∀ out':List a3l,out'.all setB = true → out'.length ≤ out.length + 1 → out.length ≤ out'.length → (i = 0 → out.length < out'.length) → ∃ s'' l,a2b xs (i + 1) s'.Code s'.At s'.Seed out' = some (s''.Code,s''.At,s''.Seed,l) ∧ l.all setB = true ∧ l.length ≤ out.length + (xs.length + 1) ∧ out.length ≤ l.length ∧ (i = 0 → c :: xs ≠ [] → out.length < l.length) ∧ Nx s s'' (20 * ((xs.length + 1:Nat):Int)):=by
   intro s' n out' hv' hl' hl2 hl3
   have h2:=n.hi
   obtain ⟨s'',l,q1,q2,q3,q4,_,q6⟩:=c5y xs (i + 1) s' out' hks hv' (by omega) n.ok (by omega)
   exact ⟨s'',l,q1,q2,by omega,by omega,fun hi _ => by have:=hl3 hi; omega,(n.trans q6).mono (by omega)⟩
  have go:∃ s'' l,((((a2k c.Kind s1).bind fun r_214 =>
  some (r_214.2.Code,r_214.2.At,r_214.2.Seed,[r_214.1]):Option ((List Int) × Int × Int × (List a1c)))).bind fun p213 =>
  (match p213 with
  | (x_209,x_210,x_211,x_212) =>
  ((if (c.Kind == 4) then
  (a3e 2 (⟨x_209,x_210,x_211⟩:a0h)).bind fun r_234 =>
  if r_234.1 then
  (a6y [[112],[113]] r_234.2).bind fun r_237 =>
  some (r_237.2.Code,r_237.2.At,r_237.2.Seed,[],[r_237.1])
  else
  (a3e 2 r_234.2).bind fun r_239 =>
  if r_239.1 then
  (a4g 4 r_239.2).bind fun r_242 =>
  some (r_242.2.Code,r_242.2.At,r_242.2.Seed,r_242.1,[])
  else
  some (r_239.2.Code,r_239.2.At,r_239.2.Seed,[],[])
  else
  some (x_209,x_210,x_211,x_212,[]):Option ((List Int) × Int × Int × (List a1c) × (List Str)))).bind fun p232 =>
  (match p232 with
  | (x_227,x_228,x_229,x_230,x_231) =>
  if (out ++ [(⟨c.Name,x_230,x_231⟩:a3l)]).length ≤ 2 ^ 30 then
  a2b xs (i + 1) x_227 x_228 x_229 (out ++ [(⟨c.Name,x_230,x_231⟩:a3l)])
  else none))) = some (s''.Code,s''.At,s''.Seed,l) ∧ l.all setB = true ∧ l.length ≤ out.length + (xs.length + 1) ∧ out.length ≤ l.length ∧ (i = 0 → c :: xs ≠ [] → out.length < l.length) ∧ Nx s s'' (20 * ((xs.length + 1:Nat):Int)):=by
   obtain ⟨a,s2,e2,a1,_,n2⟩:=c5v c.Kind s1 hk1 n1.ok (by omega)
   have h2:=n2.hi
   rw [e2,Option.bind_some,Option.bind_some]
   simp only
   by_cases k4:c.Kind = 4
   ·rw [if_pos (by simpa using k4)]
    obtain ⟨b3,s3,e3,n3⟩:=a9x 2 s2 n2.ok (by omega) (by omega) (by omega)
    have h3:=n3.hi
    rw [a7w,e3,Option.bind_some]
    cases b3 with
    | true =>
     obtain ⟨t,s4,e4,ht,n4⟩:=b8k [[112],[113]] s3 n3.ok (by omega) (by simp) (by simp)
     have h4:=n4.hi
     have hn:a4v t = true:=List.all_eq_true.1 (show ([[112],[113]]:List Str).all a4v = true by decide) t ht
     rw [if_pos rfl,e4,Option.bind_some,Option.bind_some]
     simp only
     rw [if_pos (by simp <;> omega)]
     exact skip s4 ((((n1.trans n2).trans n3).trans n4).mono (by omega)) _ (b3q hv (by unfold setB; simp [hk2,d1m,hn])) (by simp) (by simp) (by simp)
    | false =>
     obtain ⟨b5,s5,e5,n5⟩:=a9x 2 s3 n3.ok (by omega) (by omega) (by omega)
     have h5:=n5.hi
     rw [if_neg (by simp),e5,Option.bind_some]
     cases b5 with
     | true =>
      obtain ⟨d,s6,e6,hs6,hd,n6⟩:=c9n 4 s5 (by omega) n5.ok (by omega)
      have h6:=n6.hi
      have hdb:=c3q hs6 (by omega)
      rw [if_pos rfl,e6,Option.bind_some,Option.bind_some]
      simp only
      rw [if_pos (by simp <;> omega)]
      exact skip s6 (((((n1.trans n2).trans n3).trans n5).trans n6).mono (by omega)) _ (b3q hv (by unfold setB; simp [hk2,hdb])) (by simp) (by simp) (by simp)
     | false =>
      rw [if_neg (by simp),Option.bind_some]
      simp only
      rw [if_pos (by simp <;> omega)]
      exact skip s5 ((((n1.trans n2).trans n3).trans n5).mono (by omega)) _ (b3q hv (by unfold setB; simp [hk2,d1m])) (by simp) (by simp) (by simp)
   ·rw [if_neg (by simpa using k4),Option.bind_some]
    simp only
    rw [if_pos (by simp <;> omega)]
    exact skip s2 ((n1.trans n2).mono (by omega)) _ (b3q hv (by unfold setB; simp [hk2,b8a a1])) (by simp) (by simp) (by simp)
  cases b1 with
  | true =>
   rw [if_neg (by simp),Option.bind_some]
   simp only
   rw [if_neg (by simp)]
   exact go
  | false =>
   rw [if_pos (by simp),Option.bind_some]
   simp only
   by_cases h0:(i:Int) > 0
   ·rw [if_pos (by simpa using h0)]
    exact skip s1 (n1.mono (by omega)) out hv (by omega) (by omega) (by omega)
   ·rw [if_neg (by simpa using h0)]
    exact go
theorem c1n (v:Int) (hv:0 ≤ v ∧ v < 3) (s:a0h) (ho:b0x s) (ha:s.At + 60 < 2 ^ 48):∃ l s',a3w v s = some (l,s') ∧ l.all setB = true ∧ 1 ≤ l.length ∧ l.length ≤ 3 ∧ Nx s s' 60:=by
 obtain ⟨t,_,e3,ht⟩:=b8l v hv
 have hlen:=c9o ht
 have hlen1:=c9q ht
 obtain ⟨s',l,q1,q2,q3,q4,q5,q6⟩:=c5y t.Columns 0 s [] (c9p ht) rfl (by simp; omega) ho (by omega)
 have e3':b4g.Tables[0 + v.toNat]? = some t:=by simpa using e3
 have hlp:(b4g.Tables.length:Int) = 3:=rfl
 have hne:t.Columns ≠ []:=by intro h; rw [h] at hlen1; simp at hlen1
 have q5:=q5 rfl hne
 simp only [List.length_nil] at q3 q5
 unfold a3w
 rw [b7z,Option.bind_some,if_pos (by rw [hlp]; exact hv),e3',Option.bind_some,q1,Option.bind_some]
 exact ⟨l,s',rfl,q2,by omega,by omega,q6.mono (by omega)⟩
theorem e0k (v:Int) (hv:0 ≤ v ∧ v < 3) (s:a0h) (ho:b0x s) (ha:s.At + 40 < 2 ^ 48):∃ c s',a9b v s = some (c,s') ∧ a9k c = true ∧ Nx s s' 30:=by
 obtain ⟨t,e3,_,ht⟩:=b8l v hv
 have hlen:=c9o ht
 have hlen1:=c9q ht
 unfold a9b
 simp only [b4o,b3k]
 rw [b7z,Option.bind_some,e3,Option.bind_some]
 obtain ⟨b1,s1,e1,n1⟩:=a9x 8 s ho (by omega) (by omega) (by omega)
 have h1:=n1.hi
 rw [e1,Option.bind_some]
 cases b1 with
 | true =>
  obtain ⟨q,s2,e2,q1,q2,n2⟩:=a8w 4 s1 n1.ok (by omega) (by omega) (by omega)
  have h2:=n2.hi
  obtain ⟨a,s3,e4,a1,_,n3⟩:=c5v 4 s2 (by omega) n2.ok (by omega)
  obtain ⟨f,ef,f1⟩:=e0x q ⟨q1,q2⟩
  rw [if_pos rfl,e2,Option.bind_some,if_pos ⟨q1,q2⟩,ef,Option.bind_some,e4,Option.bind_some]
  refine ⟨_,s3,rfl,?_,((n1.trans n2).trans n3).mono (by omega)⟩
  unfold a9k
  rw [decide_eq_true f1,b8a a1]
  rfl
 | false =>
  obtain ⟨q,s2,e2,q1,q2,n2⟩:=a8w t.Columns.length s1 n1.ok (by omega) (by omega) (by omega)
  have h2:=n2.hi
  obtain ⟨c,ec,_,c1,c2,c3⟩:=c9r ht q ⟨q1,q2⟩
  rw [if_neg (by simp),e2,Option.bind_some,ec,Option.bind_some,Option.bind_some]
  simp only [a7w]
  obtain ⟨p,s3,e4,p1,p2,n3⟩:=a8w 4 s2 n2.ok (by omega) (by omega) (by omega)
  have h3:=n3.hi
  obtain ⟨f,ef,f1⟩:=e0x p ⟨p1,p2⟩
  obtain ⟨d,s4,e5,d1,d2,n4⟩:=c9n c.Kind s3 ⟨c1,c2⟩ n3.ok (by omega)
  have h4:=n4.hi
  rw [e4,Option.bind_some,if_pos ⟨p1,p2⟩,ef,Option.bind_some,e5,Option.bind_some,Option.bind_some]
  simp only [a7w]
  -- the function
  have hfun:∃ s5 g,((((if (c.Kind == 1) then
  (a3e 2 s4).bind fun r_87 =>
  some (r_87.1,r_87.2.Code,r_87.2.At,r_87.2.Seed)
  else
  some (false,s4.Code,s4.At,s4.Seed):Option (Bool × (List Int) × Int × Int))).bind fun p85 =>
  (match p85 with
  | (s51_81,x_82,x_83,x_84) =>
  if s51_81 then
  (a3z 4 (⟨x_82,x_83,x_84⟩:a0h)).bind fun r_90 =>
  some (r_90.2.Code,r_90.2.At,r_90.2.Seed,w64 (3 + r_90.1))
  else
  some (x_82,x_83,x_84,f)):Option ((List Int) × Int × Int × Int))) = some (s5.Code,s5.At,s5.Seed,g) ∧ 1 ≤ g ∧ g ≤ 8 ∧ Nx s4 s5 2:=by
   by_cases k:c.Kind = 1
   ·rw [if_pos (by simpa using k)]
    obtain ⟨b5,s5,e6,n5⟩:=a9x 2 s4 n4.ok (by omega) (by omega) (by omega)
    have h5:=n5.hi
    rw [e6,Option.bind_some,Option.bind_some]
    simp only [a7w]
    cases b5 with
    | true =>
     obtain ⟨y,s6,e7,y1,y2,n6⟩:=a8w 4 s5 n5.ok (by omega) (by omega) (by omega)
     rw [if_pos rfl,e7,Option.bind_some,a6f (n:=3 + y) (by omega)]
     exact ⟨s6,3 + y,rfl,by omega,by omega,(n5.trans n6).mono (by omega)⟩
    | false =>
     rw [if_neg (by simp)]
     exact ⟨s5,f,rfl,f1.1,f1.2,n5.mono (by omega)⟩
   ·rw [if_neg (by simpa using k),Option.bind_some]
    simp only
    rw [if_neg (by simp)]
    exact ⟨s4,f,rfl,f1.1,f1.2,(Nx.refl n4.ok).mono (by omega)⟩
  obtain ⟨s5,g,e6,g1,g2,n5⟩:=hfun
  have h5:=n5.hi
  rw [e6,Option.bind_some]
  simp only [a7w]
  obtain ⟨b6,s6,e7,n6⟩:=a9x 2 s5 n5.ok (by omega) (by omega) (by omega)
  have h6:=n6.hi
  have hval:∃ s7 d',((a3e 2 s5).bind fun r_102 =>
  if r_102.1 then
  (a2k c.Kind r_102.2).bind fun r_105 =>
  some (r_105.2.Code,r_105.2.At,r_105.2.Seed,[r_105.1])
  else
  some (r_102.2.Code,r_102.2.At,r_102.2.Seed,d):Option ((List Int) × Int × Int × (List a1c))) = some (s7.Code,s7.At,s7.Seed,d') ∧ b5m d' = true ∧ Nx s5 s7 2:=by
   rw [e7,Option.bind_some]
   cases b6 with
   | true =>
    obtain ⟨a,s7,e8,a1,_,n7⟩:=c5v c.Kind s6 ⟨c1,c2⟩ n6.ok (by omega)
    rw [if_pos rfl,e8,Option.bind_some]
    exact ⟨s7,[a],rfl,b8a a1,(n6.trans n7).mono (by omega)⟩
   | false =>
    rw [if_neg (by simp)]
    exact ⟨s6,d,rfl,c3q d1 (by omega),n6.mono (by omega)⟩
  obtain ⟨s7,d',e8,hd',n7⟩:=hval
  have h7:=n7.hi
  rw [e8,Option.bind_some]
  simp only [a7w]
  rw [c2a,Option.bind_some]
  have nn:=((((n1.trans n2).trans n3).trans n4).trans n5).trans n7
  have last:∀ b:Bool,∃ c' s',(if b = true then (a2k c.Kind s7).bind fun r_118 => some ((⟨c.Name,g,[r_118.1]⟩:a2v),r_118.2) else some ((⟨c.Name,g,d'⟩:a2v),s7)) = some (c',s') ∧ a9k c' = true ∧ Nx s s' 30:=by
   intro b
   cases b with
   | true =>
    obtain ⟨a,s8,e9,a1,_,n8⟩:=c5v c.Kind s7 ⟨c1,c2⟩ n7.ok (by omega)
    rw [if_pos rfl,e9,Option.bind_some]
    refine ⟨_,s8,rfl,?_,(nn.trans n8).mono (by omega)⟩
    unfold a9k
    rw [decide_eq_true ⟨g1,g2⟩,b8a a1,c3]
    rfl
   | false =>
    rw [if_neg (by simp)]
    refine ⟨_,s7,rfl,?_,nn.mono (by omega)⟩
    unfold a9k
    rw [decide_eq_true ⟨g1,g2⟩,hd',c3]
    rfl
  by_cases hr:3 ≤ g ∧ g ≤ 6
  ·rw [decide_eq_true hr,if_pos rfl,Option.bind_some]
   exact last _
  ·rw [decide_eq_false hr,if_neg (by simp),Option.bind_some]
   exact last _
theorem c2s (v:Int) (hv:0 ≤ v ∧ v < 3):∀ (i k:Nat) (s:a0h) (out:List a2v),i < k → out.all a9k = true → out.length + i ≤ 100 → b0x s → s.At + 30 * i + 60 < 2 ^ 48 →
  ∃ s' l,a4c v k (i:Int) s.Code s.At s.Seed out = some (s'.Code,s'.At,s'.Seed,l) ∧ l.all a9k = true ∧ l.length ≤ out.length + i ∧ Nx s s' (30 * i)
 | _,0,_,_,h,_,_,_,_ => by omega
 | 0,k + 1,s,out,h,hv,_,ho,_ => ⟨s,out,by rw [a4c,if_neg (by simp)],hv,by omega,(Nx.refl ho).mono (by simp)⟩
 | i + 1,k + 1,s,out,h,ha,hl,ho,hb => by
  rw [a4c,if_pos (by simp),a7w]
  obtain ⟨c,s1,e1,c1,n1⟩:=e0k v hv s ho (by omega)
  have h1:=n1.hi
  have ew:w64 (((i + 1:Nat):Int) - 1) = (i:Int):=by rw [a6f (by omega)]; omega
  rw [e1,Option.bind_some,if_pos (by simp; omega),ew]
  obtain ⟨s2,l,e2,l1,l2,n2⟩:=c2s v hv i k s1 (out ++ [c]) (by omega) (b3q ha c1) (by simp; omega) n1.ok (by omega)
  simp only [List.length_append,List.length_cons,List.length_nil] at l2
  exact ⟨s2,l,e2,l1,by omega,(n1.trans n2).mono (by omega)⟩
theorem d9e:2 ^ 40 < FUEL:=by unfold FUEL; decide
theorem d9f (v:Int) (hv:0 ≤ v ∧ v < 3) (s:a0h) (ho:b0x s) (ha:s.At + 200 < 2 ^ 48):∃ l s',a7l v s = some (l,s') ∧ l.all a9k = true ∧ l.length ≤ 2 ∧ Nx s s' 61:=by
 have hf:=d9e
 unfold a7l
 rw [b4o]
 obtain ⟨q,s1,e1,q1,q2,n1⟩:=a8w 3 s ho (by omega) (by omega) (by omega)
 obtain ⟨i,rfl⟩:∃ i:Nat,q = (i:Int):=⟨q.toNat,by omega⟩
 have h1:=n1.hi
 obtain ⟨s2,l,e2,l1,l2,n2⟩:=c2s v hv i FUEL s1 [] (by omega) rfl (by simp; omega) n1.ok (by omega)
 rw [e1,Option.bind_some,e2,Option.bind_some]
 simp only [List.length_nil] at l2
 exact ⟨l,s2,rfl,l1,by omega,(n1.trans n2).mono (by omega)⟩
theorem e1q (v:Int) (hv:0 ≤ v ∧ v < 3) (s:a0h) (ho:b0x s) (ha:s.At + 60 < 2 ^ 48):∃ c s',a9r v s = some (c,s') ∧ b5e c = true ∧ Nx s s' 30:=by
 obtain ⟨t,e3,_,ht⟩:=b8l v hv
 have hlen:=c9o ht
 have hlen1:=c9q ht
 unfold a9r
 simp only [b4o,b3k]
 rw [b7z,Option.bind_some,e3,Option.bind_some]
 obtain ⟨q,s2,e2,q1,q2,n2⟩:=a8w t.Columns.length s ho (by omega) (by omega) (by omega)
 have h2:=n2.hi
 obtain ⟨c0,ec0,_,c01,c02,c03⟩:=c9r ht q ⟨q1,q2⟩
 rw [e2,Option.bind_some,ec0,Option.bind_some,Option.bind_some]
 simp only [a7w]
 obtain ⟨b1,s3,e4,n3⟩:=a9x 2 s2 n2.ok (by omega) (by omega) (by omega)
 have h3:=n3.hi
 have hcol:∃ (s4:a0h) (c:a0v),((a3e 2 s2).bind fun r_49 =>
  if r_49.1 then
  (a3z 2 r_49.2).bind fun r_53 =>
  (idx t.Columns (w64 ((w64 ((t.Columns.length:Int) - 1)) - r_53.1))).bind fun x_55 =>
  some (r_53.2.Code,r_53.2.At,r_53.2.Seed,x_55.Name,x_55.Kind,x_55.Min,x_55.Max,x_55.Low,x_55.High,x_55.Ref,x_55.Strong)
  else
  some (r_49.2.Code,r_49.2.At,r_49.2.Seed,c0.Name,c0.Kind,c0.Min,c0.Max,c0.Low,c0.High,c0.Ref,c0.Strong):Option ((List Int) × Int × Int × Str × Int × Int × Int × Int × Int × Str × Bool)) = some (s4.Code,s4.At,s4.Seed,c.Name,c.Kind,c.Min,c.Max,c.Low,c.High,c.Ref,c.Strong) ∧ (1 ≤ c.Kind ∧ c.Kind ≤ 4) ∧ a3n c.Name = true ∧ Nx s2 s4 2:=by
  rw [e4,Option.bind_some]
  cases b1 with
  | true =>
   obtain ⟨y,s4,e5,y1,y2,n4⟩:=a8w 2 s3 n3.ok (by omega) (by omega) (by omega)
   have ew:w64 (w64 ((t.Columns.length:Int) - 1) - y) = (t.Columns.length:Int) - 1 - y:=by rw [a6f (n:=(t.Columns.length:Int) - 1) (by omega),a6f (by omega)]
   obtain ⟨c,ec,_,c1,c2,c3⟩:=c9r ht ((t.Columns.length:Int) - 1 - y) (by omega)
   rw [if_pos rfl,e5,Option.bind_some,ew,ec,Option.bind_some]
   exact ⟨s4,c,rfl,⟨c1,c2⟩,c3,(n3.trans n4).mono (by omega)⟩
  | false =>
   rw [if_neg (by simp)]
   exact ⟨s3,c0,rfl,⟨c01,c02⟩,c03,n3.mono (by omega)⟩
 obtain ⟨s4,c,e5,c1,c3,n4⟩:=hcol
 have h4:=n4.hi
 rw [e5,Option.bind_some]
 simp only [a7w]
 obtain ⟨y,s5,e6,y1,y2,n5⟩:=a8w 2 s4 n4.ok (by omega) (by omega) (by omega)
 have h5:=n5.hi
 obtain ⟨d,s6,e7,d1,d2,n6⟩:=c9n c.Kind s5 c1 n5.ok (by omega)
 have h6:=n6.hi
 rw [e6,Option.bind_some,e7,Option.bind_some,Option.bind_some]
 simp only [a7w]
 have ey:w64 (6 + y) = 6 + y:=a6f (by omega)
 rw [ey]
 have nn:=((n2.trans n4).trans n5).trans n6
 have last:∀ (b:Bool) (s7:a0h),Nx s6 s7 1 → ∃ c' s',(if b = true then (a3z 5 s7).bind fun r_83 => (a3z 9 r_83.2).bind fun r_85 => some ((⟨c.Name,w64 (1 + r_83.1),[(⟨1,w64 (r_85.1 - 3),[]⟩:a1c)]⟩:a5i),r_85.2) else some ((⟨c.Name,6 + y,d⟩:a5i),s7)) = some (c',s') ∧ b5e c' = true ∧ Nx s s' 30:=by
  intro b s7 n7
  have h7:=n7.hi
  cases b with
  | true =>
   obtain ⟨u,s8,e8,u1,u2,n8⟩:=a8w 5 s7 n7.ok (by omega) (by omega) (by omega)
   have h8:=n8.hi
   obtain ⟨z,s9,e9,z1,z2,n9⟩:=a8w 9 s8 n8.ok (by omega) (by omega) (by omega)
   rw [if_pos rfl,e8,Option.bind_some,e9,Option.bind_some,a6f (n:=1 + u) (by omega),a6f (n:=z - 3) (by omega)]
   refine ⟨_,s9,rfl,?_,(((nn.trans n7).trans n8).trans n9).mono (by omega)⟩
   unfold b5e
   have hat:b3g (⟨1,z - 3,[]⟩:a1c) = true:=by
    have:-1000000000 ≤ z - 3 ∧ z - 3 ≤ 1000000000:=by omega
    simp [b3g,this]
   rw [decide_eq_true (show 1 ≤ 1 + u ∧ 1 + u ≤ 7 by omega),b8a hat,c3]
   rfl
  | false =>
   rw [if_neg (by simp)]
   refine ⟨_,s7,rfl,?_,(nn.trans n7).mono (by omega)⟩
   unfold b5e
   rw [decide_eq_true (show 1 ≤ 6 + y ∧ 6 + y ≤ 7 by omega),c3q d1 (by omega),c3]
   rfl
 by_cases k:c.Kind = 1
 ·rw [if_pos (by simpa using k)]
  obtain ⟨b6,s7,e8,n7⟩:=a9x 4 s6 n6.ok (by omega) (by omega) (by omega)
  rw [e8,Option.bind_some,Option.bind_some]
  simp only [a7w]
  exact last _ s7 n7
 ·rw [if_neg (by simpa using k),Option.bind_some]
  simp only [a7w]
  exact last false s6 ((Nx.refl n6.ok).mono (by omega))
theorem c5z (r:Int × a0h) (hv:0 ≤ r.1 ∧ r.1 < 3):∀ (i k:Nat) (s:a0h) (out:List a5i),i < k → out.all b5e = true → out.length + i ≤ 100 → b0x s → s.At + 30 * i + 60 < 2 ^ 48 →
  ∃ s' l,a4q r k (i:Int) s.Code s.At s.Seed out = some (s'.Code,s'.At,s'.Seed,l) ∧ l.all b5e = true ∧ l.length ≤ out.length + i ∧ Nx s s' (30 * i)
 | _,0,_,_,h,_,_,_,_ => by omega
 | 0,k + 1,s,out,h,hv,_,ho,_ => ⟨s,out,by rw [a4q,if_neg (by simp)],hv,by omega,(Nx.refl ho).mono (by simp)⟩
 | i + 1,k + 1,s,out,h,ha,hl,ho,hb => by
  rw [a4q,if_pos (by simp),a7w]
  obtain ⟨c,s1,e1,c1,n1⟩:=e1q r.1 hv s ho (by omega)
  have h1:=n1.hi
  have ew:w64 (((i + 1:Nat):Int) - 1) = (i:Int):=by rw [a6f (by omega)]; omega
  rw [e1,Option.bind_some,if_pos (by simp; omega),ew]
  obtain ⟨s2,l,e2,l1,l2,n2⟩:=c5z r hv i k s1 (out ++ [c]) (by omega) (b3q ha c1) (by simp; omega) n1.ok (by omega)
  simp only [List.length_append,List.length_cons,List.length_nil] at l2
  exact ⟨s2,l,e2,l1,by omega,(n1.trans n2).mono (by omega)⟩
theorem b9y:∀ (xs:List a0v) (s:a0h) (out:List Str),xs.all d6f = true → out.all a3n = true → out.length + xs.length ≤ 1000 → b0x s → s.At + xs.length < 2 ^ 49 →
  ∃ s' l,a2j xs s.Code s.At s.Seed out = some (s'.Code,s'.At,s'.Seed,l) ∧ l.all a3n = true ∧ l.length ≤ out.length + xs.length ∧ Nx s s' xs.length
 | [],s,out,_,hv,_,ho,_ => ⟨s,out,by rw [a2j],hv,by simp,(Nx.refl ho).mono (by simp)⟩
 | c :: xs,s,out,hk,hv,hl,ho,ha => by
  simp only [List.length_cons] at hl ha
  simp only [List.all_cons,Bool.and_eq_true] at hk
  obtain ⟨hkc,hks⟩:=hk
  simp only [d6f,Bool.and_eq_true,decide_eq_true_eq] at hkc
  rw [a2j,a7w,b3k]
  obtain ⟨b1,s1,e1,n1⟩:=a9x 2 s ho (by omega) (by omega) (by omega)
  have h1:=n1.hi
  rw [e1,Option.bind_some]
  cases b1 with
  | true =>
   obtain ⟨s2,l,e2,l1,l2,n2⟩:=b9y xs s1 (out ++ [c.Name]) hks (b3q hv hkc.2) (by simp; omega) n1.ok (by omega)
   simp only [List.length_append,List.length_cons,List.length_nil] at l2
   rw [if_pos rfl,if_pos (by simp; omega)]
   exact ⟨s2,l,e2,l1,by simp only [List.length_cons]; omega,(n1.trans n2).mono (by simp only [List.length_cons]; omega)⟩
  | false =>
   obtain ⟨s2,l,e2,l1,l2,n2⟩:=b9y xs s1 out hks hv (by omega) n1.ok (by omega)
   rw [if_neg (by simp)]
   exact ⟨s2,l,e2,l1,by simp only [List.length_cons]; omega,(n1.trans n2).mono (by simp only [List.length_cons]; omega)⟩
theorem e0l (v:Int) (hv:0 ≤ v ∧ v < 3) (s:a0h) (ho:b0x s) (ha:s.At + 60 < 2 ^ 48):∃ l s',a6u v s = some (l,s') ∧ l.all a3n = true ∧ l.length ≤ 4 ∧ Nx s s' 4:=by
 obtain ⟨t,_,e3,ht⟩:=b8l v hv
 have hlen:=c9o ht
 obtain ⟨s1,l,q1,q2,q3,n1⟩:=b9y t.Columns s [] (c9p ht) rfl (by simp; omega) ho (by omega)
 have e3':b4g.Tables[0 + v.toNat]? = some t:=by simpa using e3
 have hlp:(b4g.Tables.length:Int) = 3:=rfl
 simp only [List.length_nil] at q3
 have h1:=n1.hi
 unfold a6u
 simp only [b3k]
 rw [b7z,Option.bind_some,if_pos (by rw [hlp]; exact hv),e3',Option.bind_some,q1,Option.bind_some]
 simp only [a7w]
 obtain ⟨b1,s2,e1,n2⟩:=a9x 3 s1 n1.ok (by omega) (by omega) (by omega)
 rw [e1,Option.bind_some]
 cases b1 with
 | true =>
  rw [if_pos rfl,if_pos (by simp; omega)]
  exact ⟨_,s2,rfl,b3q q2 (by decide),by simp; omega,(n1.trans n2).mono (by omega)⟩
 | false =>
  rw [if_neg (by simp)]
  exact ⟨_,s2,rfl,q2,by omega,(n1.trans n2).mono (by omega)⟩
theorem b6b {o:GOp} (h1:b5f o = true) (h2:a3n o.Table = true) (h3:a3n o.Name = true) (h4:o.Columns.length ≤ 6) (h5:o.Columns.all a3n = true) (h6:o.Where.all a9k = true) (h7:o.Where.length ≤ 8) (h8:o.Muts.all b5e = true) (h9:o.Muts.length ≤ 8) (h10:o.Row.all setB = true) (h11:o.Row.length ≤ 6):opB o = true:=by
 unfold opB
 rw [h1,h2,h3,decide_eq_true (show (o.Columns.length:Int) ≤ 6 by omega),h5,h6,decide_eq_true (show (o.Where.length:Int) ≤ 8 by omega),h8,decide_eq_true (show (o.Muts.length:Int) ≤ 8 by omega),h10,decide_eq_true (show (o.Row.length:Int) ≤ 6 by omega)]
 rfl
theorem e8m (q x:Int) (h:0 ≤ q ∧ q < 7) (hx:1 ≤ x ∧ x ≤ 10):∃ f,[(1:Int),(1:Int),(3:Int),(4:Int),(2:Int),(5:Int),x][(0 + q.toNat)]? = some f ∧ 1 ≤ f ∧ f ≤ 10:=by
 have:q = 0 ∨ q = 1 ∨ q = 2 ∨ q = 3 ∨ q = 4 ∨ q = 5 ∨ q = 6:=by omega
 rcases this with rfl | rfl | rfl | rfl | rfl | rfl | rfl
 ·exact ⟨1,rfl,by omega⟩
 ·exact ⟨1,rfl,by omega⟩
 ·exact ⟨3,rfl,by omega⟩
 ·exact ⟨4,rfl,by omega⟩
 ·exact ⟨2,rfl,by omega⟩
 ·exact ⟨5,rfl,by omega⟩
 ·exact ⟨x,rfl,hx⟩
theorem e8y (q:Int) (h:0 ≤ q ∧ q < 3):∃ f:Str,[[110,111,116,101],[112,111,114,116],[115,119,105,116,99,104]][(0 + q.toNat)]? = some f ∧ a3n f = true:=by
 have:q = 0 ∨ q = 1 ∨ q = 2:=by omega
 rcases this with rfl | rfl | rfl
 ·exact ⟨_,rfl,by decide⟩
 ·exact ⟨_,rfl,by decide⟩
 ·exact ⟨_,rfl,by decide⟩
set_option maxHeartbeats 4000000 in
theorem e8n (s:a0h) (ho:b0x s) (ha:s.At + 400 < 2 ^ 47):∃ o s',b0m s = some (o,s') ∧ opB o = true ∧ Nx s s' 200:=by
 have hf:=d9e
 unfold b0m
 simp only [b4o,b3k,c9m]
 obtain ⟨t,s1,e1,t1,t2,n1⟩:=a8w 3 s ho (by omega) (by omega) (by omega)
 have h1:=n1.hi
 obtain ⟨u,s2,e2,u1,u2,n2⟩:=a8w 10 s1 n1.ok (by omega) (by omega) (by omega)
 have h2:=n2.hi
 obtain ⟨q,s3,e3,q1,q2,n3⟩:=a8w 7 s2 n2.ok (by omega) (by omega) (by omega)
 have h3:=n3.hi
 rw [e1,Option.bind_some,e2,Option.bind_some,e3,Option.bind_some,a6f (n:=1 + u) (by omega)]
 simp only
 rw [if_pos ⟨q1,q2⟩]
 obtain ⟨k,ek,k1,k2⟩:=e8m q (1 + u) ⟨q1,q2⟩ (by omega)
 rw [ek,Option.bind_some,c2a,Option.bind_some]
 obtain ⟨tn,et,tn1⟩:=e8y t ⟨t1,t2⟩
 have htab:∃ x:Str,((if decide (1 ≤ k ∧ k ≤ 6) = true then
  if (0:Int) ≤ t ∧ t < (3:Int) then
  ([[110,111,116,101],[112,111,114,116],[115,119,105,116,99,104]][(0 + t.toNat)]?).bind fun x_23 =>
  some x_23
  else none
  else
  some []:Option Str)) = some x ∧ a3n x = true ∧ (¬ (1 ≤ k ∧ k ≤ 6) → x = []):=by
  by_cases h:1 ≤ k ∧ k ≤ 6
  ·rw [if_pos (decide_eq_true h),if_pos ⟨t1,t2⟩,et,Option.bind_some]
   exact ⟨tn,rfl,tn1,fun hh => absurd h hh⟩
  ·rw [if_neg (by simpa using h)]
   exact ⟨[],rfl,rfl,fun _ => rfl⟩
 obtain ⟨tb,etb,tb1,tb2⟩:=htab
 rw [etb,Option.bind_some,c2a,Option.bind_some]
 have hwh:∃ (s4:a0h) (w:List a2v),((if decide (2 ≤ k ∧ k ≤ 6) = true then
  (a7l t s3).bind fun r_38 =>
  some (r_38.2.Code,r_38.2.At,r_38.2.Seed,r_38.1)
  else
  some (s3.Code,s3.At,s3.Seed,[]):Option ((List Int) × Int × Int × (List a2v)))) = some (s4.Code,s4.At,s4.Seed,w) ∧ w.all a9k = true ∧ w.length ≤ 2 ∧ (¬ (2 ≤ k ∧ k ≤ 6) → w = []) ∧ Nx s3 s4 61:=by
  by_cases h:2 ≤ k ∧ k ≤ 6
  ·obtain ⟨l,s4,e4,l1,l2,n4⟩:=d9f t ⟨t1,t2⟩ s3 n3.ok (by omega)
   rw [if_pos (decide_eq_true h),e4,Option.bind_some]
   exact ⟨s4,l,rfl,l1,l2,fun hh => absurd h hh,n4⟩
  ·rw [if_neg (by simpa using h)]
   exact ⟨s3,[],rfl,rfl,by simp,fun _ => rfl,(Nx.refl n3.ok).mono (by omega)⟩
 obtain ⟨s4,w,e4,w1,w2,w3,n4⟩:=hwh
 have h4:=n4.hi
 rw [e4,Option.bind_some]
 simp only [a7w]
 have nn:=((n1.trans n2).trans n3).trans n4
 by_cases c1:k = 1
 ·subst c1
  obtain ⟨l,s5,e5,l1,_,l2,n5⟩:=c1n t ⟨t1,t2⟩ s4 n4.ok (by omega)
  have h5:=n5.hi
  obtain ⟨nm,s6,e6,hnm,n6⟩:=b8k [[],[112],[113]] s5 n5.ok (by omega) (by simp) (by simp)
  have hs:a3n nm = true:=List.all_eq_true.1 (show ([[],[112],[113]]:List Str).all a3n = true by decide) nm hnm
  rw [if_pos (by simp),e5,Option.bind_some,e6,Option.bind_some]
  refine ⟨_,s6,rfl,b6b ?_ tb1 hs (by simp) rfl w1 (by simp only; omega) rfl (by simp) l1 (by simp only; omega),((nn.trans n5).trans n6).mono (by omega)⟩
  have hw:=w3 (by omega)
  subst hw
  simp [b5f]
 rw [if_neg (by simpa using c1)]
 by_cases c3:k = 3
 ·subst c3
  obtain ⟨l,s5,e5,l1,_,l2,n5⟩:=c1n t ⟨t1,t2⟩ s4 n4.ok (by omega)
  rw [if_pos (by simp),Option.bind_some,if_pos rfl,e5,Option.bind_some,if_neg (by simp)]
  refine ⟨_,s5,rfl,b6b (by simp [b5f]) tb1 rfl (by simp) rfl w1 (by simp only; omega) rfl (by simp) l1 (by simp only; omega),(nn.trans n5).mono (by omega)⟩
 rw [if_neg (by simpa using c3),Option.bind_some]
 by_cases c6:k = 6
 ·subst c6
  obtain ⟨l,s5,e5,l1,_,l2,n5⟩:=c1n t ⟨t1,t2⟩ s4 n4.ok (by omega)
  have h5:=n5.hi
  obtain ⟨b,s6,e6,n6⟩:=a9x 2 s5 n5.ok (by omega) (by omega) (by omega)
  rw [if_pos (by simp),e5,Option.bind_some,if_pos (by simp),e6,Option.bind_some]
  refine ⟨_,s6,rfl,b6b (by simp [b5f]) tb1 rfl (by simp) rfl w1 (by simp only; omega) rfl (by simp) l1 (by simp only; omega),((nn.trans n5).trans n6).mono (by omega)⟩
 rw [if_neg (by simpa using c6)]
 by_cases c4:k = 4
 ·subst c4
  obtain ⟨y,s5,e5,y1,y2,n5⟩:=a8w 2 s4 n4.ok (by omega) (by omega) (by omega)
  have h5:=n5.hi
  obtain ⟨i,rfl⟩:∃ i:Nat,y = (i:Int):=⟨y.toNat,by omega⟩
  have ei:w64 (1 + (i:Int)) = ((i + 1:Nat):Int):=by rw [a6f (by omega)]; omega
  obtain ⟨s6,l,e6,l1,l2,n6⟩:=c5z (t,s1) ⟨t1,t2⟩ (i + 1) FUEL s5 [] (by omega) rfl (by simp; omega) n5.ok (by omega)
  simp only [List.length_nil] at l2
  rw [if_pos (by simp),e5,Option.bind_some,ei,e6,Option.bind_some]
  refine ⟨_,s6,rfl,b6b (by simp [b5f]) tb1 rfl (by simp) rfl w1 (by simp only; omega) l1 (by simp only; omega) rfl (by simp),((nn.trans n5).trans n6).mono (by omega)⟩
 rw [if_neg (by simpa using c4)]
 by_cases c2:k = 2
 ·subst c2
  obtain ⟨l,s5,e5,l1,l2,n5⟩:=e0l t ⟨t1,t2⟩ s4 n4.ok (by omega)
  rw [if_pos (by simp),e5,Option.bind_some]
  refine ⟨_,s5,rfl,b6b (by simp [b5f]) tb1 rfl (by simp only; omega) l1 w1 (by simp only; omega) rfl (by simp) rfl (by simp),(nn.trans n5).mono (by omega)⟩
 rw [if_neg (by simpa using c2)]
 by_cases c9:k = 9
 ·subst c9
  have ht:=tb2 (by omega)
  have hw:=w3 (by omega)
  subst ht hw
  rw [if_pos (by simp)]
  exact ⟨_,s4,rfl,b6b (by simp [b5f]) rfl (by decide) (by simp) rfl rfl (by simp) rfl (by simp) rfl (by simp),nn.mono (by omega)⟩
 rw [if_neg (by simpa using c9)]
 by_cases c10:k = 10
 ·subst c10
  have ht:=tb2 (by omega)
  have hw:=w3 (by omega)
  subst ht hw
  obtain ⟨nm,s6,e6,hnm,n6⟩:=b8k [[108,111,99,107],[111,116,104,101,114]] s4 n4.ok (by omega) (by simp) (by simp)
  have hs:a3n nm = true:=List.all_eq_true.1 (show ([[108,111,99,107],[111,116,104,101,114]]:List Str).all a3n = true by decide) nm hnm
  rw [if_pos (by simp),e6,Option.bind_some]
  exact ⟨_,s6,rfl,b6b (by simp [b5f]) rfl hs (by simp) rfl rfl (by simp) rfl (by simp) rfl (by simp),(nn.trans n6).mono (by omega)⟩
 rw [if_neg (by simpa using c10)]
 refine ⟨_,s4,rfl,b6b ?_ tb1 rfl (by simp) rfl w1 (by simp only; omega) rfl (by simp) rfl (by simp),nn.mono (by omega)⟩
 have hk:k = 5 ∨ k = 7 ∨ k = 8:=by omega
 rcases hk with rfl | rfl | rfl
 ·simp [b5f]
 ·have ht:=tb2 (by omega)
  have hw:=w3 (by omega)
  subst ht hw
  simp [b5f]
 ·have ht:=tb2 (by omega)
  have hw:=w3 (by omega)
  subst ht hw
  simp [b5f]
theorem c8g:∀ (i k:Nat) (s:a0h) (out:List GOp),i < k → out.all opB = true → out.length + i ≤ 100 → b0x s → s.At + 200 * i + 500 < 2 ^ 46 →
  ∃ s' l,a3s k (i:Int) s.Code s.At s.Seed out = some (s'.Code,s'.At,s'.Seed,l) ∧ l.all opB = true ∧ l.length ≤ out.length + i ∧ Nx s s' (200 * i)
 | _,0,_,_,h,_,_,_,_ => by omega
 | 0,k + 1,s,out,h,hv,_,ho,_ => ⟨s,out,by rw [a3s,if_neg (by simp)],hv,by omega,(Nx.refl ho).mono (by simp)⟩
 | i + 1,k + 1,s,out,h,ha,hl,ho,hb => by
  rw [a3s,if_pos (by simp),a7w]
  obtain ⟨c,s1,e1,c1,n1⟩:=e8n s ho (by omega)
  have h1:=n1.hi
  have ew:w64 (((i + 1:Nat):Int) - 1) = (i:Int):=by rw [a6f (by omega)]; omega
  rw [e1,Option.bind_some,if_pos (by simp; omega),ew]
  obtain ⟨s2,l,e2,l1,l2,n2⟩:=c8g i k s1 (out ++ [c]) (by omega) (b3q ha c1) (by simp; omega) n1.ok (by omega)
  simp only [List.length_append,List.length_cons,List.length_nil] at l2
  exact ⟨s2,l,e2,l1,by omega,(n1.trans n2).mono (by omega)⟩
set_option maxHeartbeats 4000000 in
theorem e1r (s:a0h) (ho:b0x s) (ha:s.At + 2000 < 2 ^ 45):∃ l s',a8c s = some (l,s') ∧ l.all opB = true ∧ l.length ≤ 5 ∧ Nx s s' 800:=by
 have hf:=d9e
 unfold a8c
 simp only [b4o,b3k]
 have hfirst:∃ (s1:a0h) (out:List GOp),(((a3e 2 s).bind fun r_18 =>
  if r_18.1 then
  (a3w 1 r_18.2).bind fun r_21 =>
  if ([] ++ [(⟨1,[112,111,114,116],[112],[],r_21.1,[],[],false⟩:GOp)]).length ≤ 2 ^ 30 then
  (a3w 2 r_21.2).bind fun r_24 =>
  if (0:Int) ≤ 1 ∧ 1 ≤ (r_24.1.length:Int) then
  if ((r_24.1.take 1) ++ [(⟨[112,111,114,116,115],[],[[112]]⟩:a3l)]).length ≤ 2 ^ 30 then
  if (([] ++ [(⟨1,[112,111,114,116],[112],[],r_21.1,[],[],false⟩:GOp)]) ++ [(⟨1,[115,119,105,116,99,104],[],[],(r_24.1.take 1) ++ [(⟨[112,111,114,116,115],[],[[112]]⟩:a3l)],[],[],false⟩:GOp)]).length ≤ 2 ^ 30 then
  some (r_24.2.Code,r_24.2.At,r_24.2.Seed,([] ++ [(⟨1,[112,111,114,116],[112],[],r_21.1,[],[],false⟩:GOp)]) ++ [(⟨1,[115,119,105,116,99,104],[],[],(r_24.1.take 1) ++ [(⟨[112,111,114,116,115],[],[[112]]⟩:a3l)],[],[],false⟩:GOp)])
  else none
  else none
  else none
  else none
  else
  some (r_18.2.Code,r_18.2.At,r_18.2.Seed,[]):Option ((List Int) × Int × Int × (List GOp)))) = some (s1.Code,s1.At,s1.Seed,out) ∧ out.all opB = true ∧ out.length ≤ 2 ∧ Nx s s1 121:=by
  obtain ⟨b,s1,e1,n1⟩:=a9x 2 s ho (by omega) (by omega) (by omega)
  have h1:=n1.hi
  rw [e1,Option.bind_some]
  cases b with
  | false => rw [if_neg (by simp)]; exact ⟨s1,[],rfl,rfl,by simp,n1.mono (by omega)⟩
  | true =>
   obtain ⟨l,s2,e2,l1,_,l2,n2⟩:=c1n 1 (by omega) s1 n1.ok (by omega)
   have h2:=n2.hi
   obtain ⟨m,s3,e3,m1,m2,m3,n3⟩:=c1n 2 (by omega) s2 n2.ok (by omega)
   rw [if_pos rfl,e2,Option.bind_some,if_pos (by simp),e3,Option.bind_some,if_pos ⟨by omega,by show (1:Int) ≤ (m.length:Int); omega⟩,if_pos (by simp; omega),if_pos (by simp)]
   refine ⟨s3,_,rfl,?_,by simp,((n1.trans n2).trans n3).mono (by omega)⟩
   have o1:opB (⟨1,[112,111,114,116],[112],[],l,[],[],false⟩:GOp) = true:=b6b (by simp [b5f]) (by show a3n [112,111,114,116] = true; decide) (by show a3n [112] = true; decide) (by simp) rfl rfl (by simp) rfl (by simp) l1 (by simp only; omega)
   have hm:(m.take 1 ++ [(⟨[112,111,114,116,115],[],[[112]]⟩:a3l)]).all setB = true:=b3q (List.all_eq_true.2 fun x hx => List.all_eq_true.1 m1 x (List.mem_of_mem_take hx)) (by decide)
   have o2:opB (⟨1,[115,119,105,116,99,104],[],[],m.take 1 ++ [(⟨[112,111,114,116,115],[],[[112]]⟩:a3l)],[],[],false⟩:GOp) = true:=b6b (by simp [b5f]) (by show a3n [115,119,105,116,99,104] = true; decide) rfl (by simp) rfl rfl (by simp) rfl (by simp) hm (by simp; omega)
   simp [o1,o2]
 obtain ⟨s1,out,e1,o1,o2,n1⟩:=hfirst
 have h1:=n1.hi
 rw [e1,Option.bind_some]
 simp only [a7w]
 obtain ⟨q,s2,e2,q1,q2,n2⟩:=a8w 4 s1 n1.ok (by omega) (by omega) (by omega)
 have h2:=n2.hi
 obtain ⟨i,rfl⟩:∃ i:Nat,q = (i:Int):=⟨q.toNat,by omega⟩
 obtain ⟨s3,l,e3,l1,l2,n3⟩:=c8g i FUEL s2 out (by omega) o1 (by omega) n2.ok (by omega)
 rw [e2,Option.bind_some,e3,Option.bind_some]
 exact ⟨l,s3,rfl,l1,by omega,((n1.trans n2).trans n3).mono (by omega)⟩
theorem e0m (code:List Int) (hc:∀ x ∈ code,0 ≤ x ∧ x < 256) (hl:(code.length:Int) ≤ 1048576):∃ l,b4w code = some l ∧ l.all opB = true ∧ l.length ≤ 5:=by
 obtain ⟨s,e1,g1,g2,_⟩:=d9c code hc hl
 have e1':a7k code = some s:=by rw [d6d]; exact e1
 obtain ⟨l,s',e2,l1,l2,_⟩:=e1r s g1 (by rw [g2]; decide)
 unfold b4w
 first
 | rw [e1',Option.bind_some,e2,Option.bind_some]
 | rw [e1,Option.bind_some,e2,Option.bind_some]
 exact ⟨l,rfl,l1,l2⟩
theorem e0n {o:GOp} (h:opB o = true):d8u o:=by
 unfold opB at h
 simp only [Bool.and_eq_true,List.all_eq_true,decide_eq_true_eq] at h
 obtain ⟨⟨⟨⟨⟨⟨_,_⟩,_⟩,_⟩,hw,_⟩,hm,_⟩,hr,_⟩:=h
 have key:∀ d:List a1c,b5m d = true → d.length ≤ maxLen:=fun d hd => by
  unfold b5m at hd
  simp only [Bool.and_eq_true,decide_eq_true_eq] at hd
  unfold maxLen; omega
 refine ⟨fun c hc => key _ ?_,fun c hc => key _ ?_,fun c hc => key _ ?_⟩
 ·have:=hw c hc; unfold a9k at this; simp only [Bool.and_eq_true] at this; exact this.1.2
 ·have:=hm c hc; unfold b5e at this; simp only [Bool.and_eq_true] at this; exact this.1.2
 ·have:=hr c hc; unfold setB at this; simp only [Bool.and_eq_true] at this; exact this.1.1.2
theorem c6a:∀ l:List GOp,l.all opB = true → a7f b4g l = some (.go ())
 | [],_ => by rw [a7f]
 | o :: l,h => by
  simp only [List.all_cons,Bool.and_eq_true] at h
  have ho:=e0n h.1
  have hs:d9a b4g = true:=by decide
  obtain ⟨r,e1,e2⟩:=d9b b4g o h.1
  have f1:b4a b4g o = some (r,0):=by unfold b4a; rw [d2q,c9l o ho,hs,h.1]; simp [e1]
  have f2:b4c b4g o = some (r,0):=by unfold b4c; rw [d1h,e0g,hs,h.1]; simp [e2]
  rw [a7f,f1,Option.bind_some,f2,Option.bind_some,c9l o ho,h.1,c6a l h.2]
  simp
theorem d6g (code:List Int) (h1:okL (okI .u8) code):b6x code = some true:=by
 unfold b6x
 by_cases c1:(code.length:Int) > 1048576
 ·rw [if_pos (by simpa using c1)]
 rw [if_neg (by simpa using c1)]
 have b1:∀ z ∈ code,0 ≤ z ∧ z < 256:=fun z hz => by have:=e1m.1 (h1.2 z hz); omega
 obtain ⟨l,e1,l1,_⟩:=e0m code b1 (by omega)
 have len:∀ o:GOp,o.Where = [] → o.Muts = [] → o.Row = [] → d8u o:=fun o h1 h2 h3 => ⟨by simp [h1],by simp [h2],by simp [h3]⟩
 rw [b7z,Option.bind_some,e1,Option.bind_some,c6a l l1,Option.bind_some]
 simp only
 rw [c9l _ (len _ rfl rfl rfl),Option.bind_some,c9l _ (len _ rfl rfl rfl),Option.bind_some,c5x _ (by simp),Option.bind_some,c5x _ (by simp),Option.bind_some]
 decide
end Go.R
