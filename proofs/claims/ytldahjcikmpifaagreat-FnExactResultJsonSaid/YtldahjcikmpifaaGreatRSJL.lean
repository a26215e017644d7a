/- Plain laws of what this statement reaches. -/
import Derived.Test.YtldahjcikmpifaaGreatRSJH
import Derived.Test.YtldahjcikmpifaaGreatP0
set_option linter.all false
namespace Go.R
open Go
set_option linter.all false
theorem a6c (f:(List a0k) → Option Bool) (p:(List a0k) → Bool):∀ (xs:List (List a0k)) (i:Nat),(∀ x ∈ xs,f x = some (p x)) → a0z f xs i = some (match xs.findIdx? p with | some k => .ret ((i + k:Nat):Int) | none => .go ())
 | [],i,_ => by rw [a0z]; rfl
 | x :: xs,i,h => by
  rw [a0z,h x (by simp),Option.bind_some,a6c f p xs (i + 1) (fun y hy => h y (by simp [hy])),List.findIdx?_cons]
  cases hp:p x with
  | true => simp
  | false =>
   cases hq:xs.findIdx? p with
   | none => simp
   | some k => simp; omega
theorem a9q (f:(List a0k) → Option Bool) (p:(List a0k) → Bool) (xs:List (List a0k)) (h:∀ x ∈ xs,f x = some (p x)):a2o xs f = some (match xs.findIdx? p with | some k => (k:Int) | none => -1):=by
 unfold a2o
 rw [a6c f p xs 0 h]
 cases hq:xs.findIdx? p with
 | none => rfl
 | some k => simp
theorem a6r (f:a1u → Option Bool) (p:a1u → Bool):∀ (xs:List a1u) (i:Nat),(∀ x ∈ xs,f x = some (p x)) → a1d f xs i = some (match xs.findIdx? p with | some k => .ret ((i + k:Nat):Int) | none => .go ())
 | [],i,_ => by rw [a1d]; rfl
 | x :: xs,i,h => by
  rw [a1d,h x (by simp),Option.bind_some,a6r f p xs (i + 1) (fun y hy => h y (by simp [hy])),List.findIdx?_cons]
  cases hp:p x with
  | true => simp
  | false =>
   cases hq:xs.findIdx? p with
   | none => simp
   | some k => simp; omega
theorem b0r (f:a1u → Option Bool) (p:a1u → Bool) (xs:List a1u) (h:∀ x ∈ xs,f x = some (p x)):a2w xs f = some (match xs.findIdx? p with | some k => (k:Int) | none => -1):=by
 unfold a2w
 rw [a6r f p xs 0 h]
 cases hq:xs.findIdx? p with
 | none => rfl
 | some k => simp
theorem a7j (f:Str → Option Bool) (p:Str → Bool):∀ (xs:List Str) (i:Nat),(∀ x ∈ xs,f x = some (p x)) → a1h f xs i = some (match xs.findIdx? p with | some k => .ret ((i + k:Nat):Int) | none => .go ())
 | [],i,_ => by rw [a1h]; rfl
 | x :: xs,i,h => by
  rw [a1h,h x (by simp),Option.bind_some,a7j f p xs (i + 1) (fun y hy => h y (by simp [hy])),List.findIdx?_cons]
  cases hp:p x with
  | true => simp
  | false =>
   cases hq:xs.findIdx? p with
   | none => simp
   | some k => simp; omega
theorem b3i (f:Str → Option Bool) (p:Str → Bool) (xs:List Str) (h:∀ x ∈ xs,f x = some (p x)):a3k xs f = some (match xs.findIdx? p with | some k => (k:Int) | none => -1):=by
 unfold a3k
 rw [a7j f p xs 0 h]
 cases hq:xs.findIdx? p with
 | none => rfl
 | some k => simp
theorem a8u (f:(List a0k) → Option Bool) (p:(List a0k) → Bool) (xs:List (List a0k)) (h:∀ x ∈ xs,f x = some (p x)):a2g xs f = some (xs.any p):=by
 unfold a2g
 rw [a9q f p xs h,Option.bind_some]
 cases hq:xs.findIdx? p with
 | none =>
  have:xs.any p = false:=by
   rw [List.any_eq_false]
   intro x hx
   have:=List.findIdx?_eq_none_iff.1 hq x hx
   simp [this]
  rw [this]; rfl
 | some k =>
  have:xs.any p = true:=by
   obtain ⟨x,hx,hp⟩:∃ x,x ∈ xs ∧ p x = true:=by
    have:=List.findIdx?_eq_some_iff_getElem.1 hq
    obtain ⟨hk,h1,_⟩:=this
    exact ⟨xs[k],List.getElem_mem _,h1⟩
   exact List.any_eq_true.2 ⟨x,hx,hp⟩
  rw [this]
  simp
theorem a9r (f:a1u → Option Bool) (p:a1u → Bool) (xs:List a1u) (h:∀ x ∈ xs,f x = some (p x)):a2n xs f = some (xs.any p):=by
 unfold a2n
 rw [b0r f p xs h,Option.bind_some]
 cases hq:xs.findIdx? p with
 | none =>
  have:xs.any p = false:=by
   rw [List.any_eq_false]
   intro x hx
   have:=List.findIdx?_eq_none_iff.1 hq x hx
   simp [this]
  rw [this]; rfl
 | some k =>
  have:xs.any p = true:=by
   obtain ⟨x,hx,hp⟩:∃ x,x ∈ xs ∧ p x = true:=by
    have:=List.findIdx?_eq_some_iff_getElem.1 hq
    obtain ⟨hk,h1,_⟩:=this
    exact ⟨xs[k],List.getElem_mem _,h1⟩
   exact List.any_eq_true.2 ⟨x,hx,hp⟩
  rw [this]
  simp
theorem b1k (f:Str → Option Bool) (p:Str → Bool) (xs:List Str) (h:∀ x ∈ xs,f x = some (p x)):a2y xs f = some (xs.any p):=by
 unfold a2y
 rw [b3i f p xs h,Option.bind_some]
 cases hq:xs.findIdx? p with
 | none =>
  have:xs.any p = false:=by
   rw [List.any_eq_false]
   intro x hx
   have:=List.findIdx?_eq_none_iff.1 hq x hx
   simp [this]
  rw [this]; rfl
 | some k =>
  have:xs.any p = true:=by
   obtain ⟨x,hx,hp⟩:∃ x,x ∈ xs ∧ p x = true:=by
    have:=List.findIdx?_eq_some_iff_getElem.1 hq
    obtain ⟨hk,h1,_⟩:=this
    exact ⟨xs[k],List.getElem_mem _,h1⟩
   exact List.any_eq_true.2 ⟨x,hx,hp⟩
  rw [this]
  simp
def b9u (c:UInt8):Bool:=!(decide ((c.toNat:Int) < 32) || decide ((c.toNat:Int) > 126))
def b9v (t:Str):Bool:=t.all b9u && decide ((t.length:Int) ≤ 200)
theorem c9o:∀ t:Str,a5g t = some (if t.all b9u = true then .go () else .ret false)
 | [] => by rw [a5g]; simp
 | x :: xs => by
  rw [a5g,c9o xs]
  by_cases h1:(x.toNat:Int) < 32
  ·simp [h1,b9u]
  ·by_cases h2:(x.toNat:Int) > 126
   ·simp [h1,h2,b9u]
   ·simp [h1,h2,b9u]
theorem d4c (t:Str):a8t t = some (b9v t):=by
 unfold a8t b9v
 rw [c9o]
 by_cases h:t.all b9u = true
 ·simp only [h,if_pos,Option.bind_some,Bool.true_and]
 ·simp only [h,Bool.not_eq_true] at h ⊢
  simp [h]
theorem b6k (n a b:Int):a4u n a b = some (decide (a ≤ n ∧ n ≤ b)):=by
 unfold a4u
 by_cases h:a ≤ n <;> simp [h]
theorem d2e:∀ t:Str,a5e t = some (if t.all b9u = true then .go () else .ret false)
 | [] => by rw [a5e]; simp
 | x :: xs => by
  rw [a5e,d2e xs]
  by_cases h1:(x.toNat:Int) < 32
  ·simp [h1,b9u]
  ·by_cases h2:(x.toNat:Int) > 126
   ·simp [h1,h2,b9u]
   ·simp [h1,h2,b9u]
theorem d8g (t:Str):a7e t = some (b9v t):=by
 unfold a7e b9v
 rw [d2e]
 by_cases h:t.all b9u = true
 ·simp only [h,if_pos,Option.bind_some,Bool.true_and]
 ·simp only [h,Bool.not_eq_true] at h ⊢
  simp [h]
theorem e0v (n a b:Int):a5u n a b = some (decide (a ≤ n ∧ n ≤ b)):=by
 unfold a5u
 by_cases h:a ≤ n <;> simp [h]
theorem c9p:∀ a b:Str,Lib.compareBytes a b = -1 ∨ Lib.compareBytes a b = 0 ∨ Lib.compareBytes a b = 1
 | [],[] => by simp [Lib.compareBytes]
 | [],_ :: _ => by simp [Lib.compareBytes]
 | _ :: _,[] => by simp [Lib.compareBytes]
 | a :: xs,b :: ys => by
  have:=c9p xs ys
  unfold Lib.compareBytes
  split
  ·simp
  ·split
   ·simp
   ·exact this
theorem c4y (a b:UInt8):a < b ∨ a = b ∨ b < a:=by
 simp only [UInt8.lt_iff_toNat_lt,← UInt8.toNat_inj]
 omega
theorem b8k {a b:UInt8} (h:a < b):¬ b < a:=by
 simp only [UInt8.lt_iff_toNat_lt] at *
 omega
theorem d2f:∀ a b:Str,Lib.compareBytes b a = - Lib.compareBytes a b
 | [],[] => by simp [Lib.compareBytes]
 | [],_ :: _ => by simp [Lib.compareBytes]
 | _ :: _,[] => by simp [Lib.compareBytes]
 | a :: xs,b :: ys => by
  have ih:=d2f xs ys
  unfold Lib.compareBytes
  rcases c4y a b with h | h | h
  ·simp [h,b8k h]
  ·subst h; simp [UInt8.lt_irrefl,ih]
  ·simp [h,b8k h]
theorem c0j:∀ a b:Str,Lib.compareBytes a b = 0 ↔ a = b
 | [],[] => by simp [Lib.compareBytes]
 | [],_ :: _ => by simp [Lib.compareBytes]
 | _ :: _,[] => by simp [Lib.compareBytes]
 | a :: xs,b :: ys => by
  have ih:=c0j xs ys
  unfold Lib.compareBytes
  rcases c4y a b with h | h | h
  ·have hne:a ≠ b:=by rintro rfl; exact UInt8.lt_irrefl _ h
   simp [h,hne]
  ·subst h; simp [UInt8.lt_irrefl,ih]
  ·have hne:a ≠ b:=by rintro rfl; exact UInt8.lt_irrefl _ h
   simp [h,b8k h,hne]
theorem c4z:∀ a b:Str,Op.bytesLess a b = decide (Lib.compareBytes a b < 0)
 | [],[] => by simp [Lib.compareBytes,Op.bytesLess]
 | [],_ :: _ => by simp [Lib.compareBytes,Op.bytesLess]
 | _ :: _,[] => by simp [Lib.compareBytes,Op.bytesLess]
 | a :: xs,b :: ys => by
  have ih:=c4z xs ys
  unfold Lib.compareBytes Op.bytesLess
  rcases c4y a b with h | h | h
  ·simp [h]
  ·subst h; simp [UInt8.lt_irrefl,ih]
  ·have hne:¬ a = b:=by rintro rfl; exact UInt8.lt_irrefl _ h
   simp [h,b8k h,hne]
def d4d (a b:a0k):Int:=if a.Kind ≠ b.Kind then (if a.Kind < b.Kind then -1 else 1) else if a.N ≠ b.N then (if a.N < b.N then -1 else 1) else Lib.compareBytes a.T b.T
theorem e4e (x y:Int):cmp_Compare_int x y = some (if x < y then -1 else if x > y then 1 else 0):=by
 unfold cmp_Compare_int cmp_isNaN_int
 by_cases h1:x < y <;> by_cases h2:x > y <;> simp [h1,h2]
theorem c9q (a b:a0k):a6x a b = some (d4d a b):=by
 unfold a6x strings_Compare a4n b8d
 simp only [e4e,Option.bind_some]
 unfold d4d
 by_cases h1:a.Kind = b.Kind
 ·by_cases h2:a.N = b.N
  ·have e1:(if a.Kind < b.Kind then (-1:Int) else if a.Kind > b.Kind then 1 else 0) = 0:=by rw [h1]; simp
   have e2:(if a.N < b.N then (-1:Int) else if a.N > b.N then 1 else 0) = 0:=by rw [h2]; simp
   rw [e1,e2]
   simp only [a4w,h1,h2]
   by_cases h3:Lib.compareBytes a.T b.T = 0
   ·simp [h3]
   ·simp [h3]
  ·have e1:(if a.Kind < b.Kind then (-1:Int) else if a.Kind > b.Kind then 1 else 0) = 0:=by rw [h1]; simp
   rw [e1]
   rcases Int.lt_or_gt_of_ne h2 with h3 | h3
   ·simp [a4w,h1,h2,h3]
   ·have h4:¬ a.N < b.N:=by omega
    simp [a4w,h1,h2,h3,h4]
 ·rcases Int.lt_or_gt_of_ne h1 with h3 | h3
  ·simp [a4w,h1,h3]
  ·have h4:¬ a.Kind < b.Kind:=by omega
   simp [a4w,h1,h3,h4]
theorem e5w (a b:a0k):a9d a b = some (d4d a b):=by
 unfold a9d a9x d4d
 have w0:w64 (1 - w64 0) = 1:=by decide
 have w1:w64 (1 - w64 2) = -1:=by decide
 by_cases h1:a.Kind = b.Kind
 ·by_cases h2:a.N = b.N
  ·simp only [h1,h2,bne_self_eq_false,Bool.false_eq_true,if_false,ne_eq,not_true_eq_false,c4z]
   by_cases h3:a.T = b.T
   ·simp [h3,(c0j b.T b.T).2 rfl]
   ·have hne:Lib.compareBytes a.T b.T ≠ 0:=fun h => h3 ((c0j _ _).1 h)
    rcases c9p a.T b.T with h | h | h
    ·simp [h3,h,w1]
    ·exact absurd h hne
    ·simp [h3,h,w0]
  ·by_cases h3:a.N < b.N <;> simp [h1,h2,h3,w0,w1]
 ·by_cases h3:a.Kind < b.Kind <;> simp [h1,h3,w0,w1]
def c9r (a:a0k):Bool :=
 (decide (a.Kind = 1) && decide (-1000000000 ≤ a.N ∧ a.N ≤ 1000000000) && decide (a.T = [])) ||
 (decide (a.Kind = 2) && decide (a.N = 0) && b9v a.T) ||
 (decide (a.Kind = 3) && decide (0 ≤ a.N ∧ a.N ≤ 1) && decide (a.T = [])) ||
 (decide (a.Kind = 4) && decide (1 ≤ a.N ∧ a.N ≤ 1000000) && decide (a.T = []))
theorem e4f (a:a0k):b2e a = some (c9r a):=by
 unfold b2e a9h c0i c9r
 simp only [b6k,d4c,Option.bind_some]
 by_cases h1:a.Kind = 1
 ·simp only [h1]
  by_cases c:(-1000000000 ≤ a.N ∧ a.N ≤ 1000000000) <;> by_cases d:a.T = [] <;> simp [c,d]
 by_cases h2:a.Kind = 2
 ·simp only [h2]
  by_cases c:a.N = 0 <;> simp [c]
 by_cases h3:a.Kind = 3
 ·simp only [h3]
  by_cases c:(0 ≤ a.N ∧ a.N ≤ 1) <;> by_cases d:a.T = [] <;> simp [c,d]
 by_cases h4:a.Kind = 4
 ·simp only [h4]
  by_cases c:(1 ≤ a.N ∧ a.N ≤ 1000000) <;> by_cases d:a.T = [] <;> simp [c,d]
 ·simp [h1,h2,h3,h4]
def d6k (d:List a0k) (q:Nat) (x:a0k):Bool :=
 c9r x && (match d[0]? with | some h => x.Kind == h.Kind | none => false) && (q == 0 || match d[q - 1]? with | some y => decide (d4d y x < 0) | none => false)
def d0z (d:List a0k):List a0k → Nat → Bool
 | [],_ => true
 | x :: xs,i => d6k d i x && d0z d xs (i + 1)
def d4e (d:List a0k):Bool:=d0z d d 0 && decide ((d.length:Int) ≤ 8)
theorem e4g (d:List a0k) (i:Nat) (x:a0k) (hi:i < d.length) (hl:d.length ≤ maxLen) (A:a0k → Option Bool) (hA:∀ a,A a = some (c9r a)) (O:a0k → a0k → Option Int) (hO:∀ a b,O a b = some (d4d a b)) :
  ((A x).bind fun r_110 =>
  if (!r_110) then
  some true
  else
  (idx d 0).bind fun x_113 =>
  if (x.Kind != x_113.Kind) then
  some true
  else
  if (decide ((i:Int) > 0)) then
  (idx d (w64 ((i:Int) - 1))).bind fun x_117 =>
  (O x_117 x).bind fun r_119 =>
  some (decide (r_119 ≥ 0))
  else
  some false:Option Bool) = some (!d6k d i x):=by
 simp only [maxLen] at hl
 obtain ⟨h,hh⟩:∃ h,d[0]? = some h:=⟨d[0],List.getElem?_eq_getElem (by omega)⟩
 have e0:idx d 0 = some h:=by rw [show (0:Int) = ((0:Nat):Int) from rfl,b3w,hh]
 rw [hA,Option.bind_some,e0]
 unfold d6k
 rw [hh]
 by_cases ha:c9r x = true
 ·by_cases hk:x.Kind = h.Kind
  ·by_cases h0:i = 0
   ·subst h0; simp [ha,hk]
   ·obtain ⟨y,hy⟩:∃ y,d[i - 1]? = some y:=⟨d[i - 1],List.getElem?_eq_getElem (by omega)⟩
    have e1:w64 ((i:Int) - 1) = ((i - 1:Nat):Int):=by rw [a3m (by omega)]; omega
    rw [e1,b3w,hy]
    have hp:0 < i:=by omega
    simp [ha,hk,h0,hO,hp]
    by_cases hc:d4d y x < 0
    ·have:¬ 0 ≤ d4d y x:=by omega
     simp [hc,this,h0]
    ·have:0 ≤ d4d y x:=by omega
     simp [hc,this,h0]
  ·simp [ha,hk]
 ·simp only [Bool.not_eq_true] at ha
  simp [ha]
theorem c3s (d:List a0k) (hl:d.length ≤ maxLen):∀ (xs:List a0k) (i:Nat),d.drop i = xs → a5h d xs i = some (if d0z d xs i = true then .go () else .ret false)
 | [],i,h => by rw [a5h]; simp [d0z]
 | x :: xs,i,h => by
  rw [a5h,e4g d i x (c7k h) hl b2e e4f a6x c9q,Option.bind_some,c3s d hl xs (i + 1) (b0h h)]
  cases hs:d6k d i x <;> simp [d0z,hs]
theorem e0w (d:List a0k) (hl:d.length ≤ maxLen):b2z d = some (d4e d):=by
 unfold b2z d4e
 rw [c3s d hl d 0 (by simp)]
 cases d0z d d 0 <;> simp
theorem e0x (a:a0k):b1z a = some (c9r a):=by
 unfold b1z c9r
 simp only [e0v,d8g,Option.bind_some]
 by_cases h1:a.Kind = 1
 ·simp only [h1]
  by_cases c:(-1000000000 ≤ a.N ∧ a.N ≤ 1000000000) <;> by_cases d:a.T = [] <;> simp [c,d]
 by_cases h2:a.Kind = 2
 ·simp only [h2]
  by_cases c:a.N = 0 <;> simp [c]
 by_cases h3:a.Kind = 3
 ·simp only [h3]
  by_cases c:(0 ≤ a.N ∧ a.N ≤ 1) <;> by_cases d:a.T = [] <;> simp [c,d]
 by_cases h4:a.Kind = 4
 ·simp only [h4]
  by_cases c:(1 ≤ a.N ∧ a.N ≤ 1000000) <;> by_cases d:a.T = [] <;> simp [c,d]
 ·simp [h1,h2,h3,h4]
theorem c1h (d:List a0k) (hl:d.length ≤ maxLen):∀ (xs:List a0k) (i:Nat),d.drop i = xs → a5f d xs i = some (if d0z d xs i = true then .go () else .ret false)
 | [],i,h => by rw [a5f]; simp [d0z]
 | x :: xs,i,h => by
  rw [a5f,e4g d i x (c7k h) hl b1z e0x a9d e5w,Option.bind_some,c1h d hl xs (i + 1) (b0h h)]
  cases hs:d6k d i x <;> simp [d0z,hs]
theorem d8h (d:List a0k):b2s d = some (d4e d):=by
 unfold b2s d4e
 by_cases h:(d.length:Int) > 4096
 ·rw [if_pos (by simpa using h)]
  have:¬ (d.length:Int) ≤ 8:=by omega
  simp [this]
 ·rw [if_neg (by simpa using h),c1h d (by simp only [maxLen]; omega) d 0 (by simp)]
  cases d0z d d 0 <;> simp
def isLet (c:Int):Bool:=(decide (97 ≤ c) && decide (c ≤ 122)) || (decide (65 ≤ c) && decide (c ≤ 90)) || c == 95
def c5z (c:Int):Bool:=decide (48 ≤ c) && decide (c ≤ 57)
theorem c6a (c:Int):a8l c = some (isLet c):=by
 unfold a8l isLet
 by_cases h1:97 ≤ c <;> by_cases h2:c ≤ 122 <;> by_cases h3:65 ≤ c <;> by_cases h4:c ≤ 90 <;> by_cases h5:c = 95 <;> simp [h1,h2,h3,h4,h5]
theorem d8i (c:Int):b0x c = some (c5z c):=by
 unfold b0x c5z
 by_cases h1:48 ≤ c <;> simp [h1]
theorem e0y (c:Int):b2x c = some (c5z c):=by
 unfold b2x c5z
 by_cases h1:48 ≤ c <;> simp [h1]
def b8l (b:UInt8):Bool:=isLet b.toNat || c5z b.toNat
def b1s (t:Str):Bool:=decide (1 ≤ t.length) && decide (t.length ≤ 40) && isLet (t.headD 0).toNat && (t.drop 1).all b8l
theorem c3t:∀ (t:Str),a5d t = some (if t.all b8l then .go () else .ret false)
 | [] => by rw [a5d]; rfl
 | c :: t => by
  rw [a5d,c6a,Option.bind_some,d8i,c3t t]
  cases h1:isLet (c.toNat:Int) <;> cases h2:c5z (c.toNat:Int) <;> simp [b8l,h1,h2]
theorem e0z (t:Str):b2r t = some (b1s t):=by
 unfold b2r b1s
 cases t with
 | nil => rfl
 | cons c t =>
  have e:idx (c :: t) 0 = some c:=rfl
  rw [e,Option.bind_some,c6a,Option.bind_some,c3t]
  have e1:decide (((c :: t).length:Int) < 1) = false:=decide_eq_false (by simp only [List.length_cons]; omega)
  have e2:decide (1 ≤ (c :: t).length) = true:=decide_eq_true (by simp only [List.length_cons]; omega)
  rw [e1,e2]
  by_cases h:(c :: t).length ≤ 40
  ·have e3:decide (((c :: t).length:Int) > 40) = false:=decide_eq_false (by omega)
   have e4:decide ((c :: t).length ≤ 40) = true:=decide_eq_true h
   rw [e3,e4]
   cases h1:isLet (c.toNat:Int) <;> cases h3:t.all b8l <;> simp [h1,h3]
  ·have e3:decide (((c :: t).length:Int) > 40) = true:=decide_eq_true (by omega)
   have e4:decide ((c :: t).length ≤ 40) = false:=decide_eq_false h
   rw [e3,e4]
   simp
theorem d4f (t:Str):b4m t = some (b1s t):=by
 unfold b4m
 rw [e0z]; rfl
def d6l (p:UInt8 × Nat):Bool:=isLet p.1.toNat || (p.2 != 0 && c5z p.1.toNat)
theorem c6b:∀ (t:Str) (i:Nat),a5w t i = some (if (t.zipIdx i).all d6l then .go () else .ret false)
 | [],i => by rw [a5w]; rfl
 | c :: t,i => by
  have e0:((i:Int) == 0) = (i == 0):=by cases i <;> simp; omega
  rw [a5w,c6b t (i + 1),List.zipIdx_cons,List.all_cons,e0y,e0]
  unfold d6l isLet
  generalize (List.zipIdx t (i + 1)).all _ = A
  generalize c5z (c.toNat:Int) = D
  generalize (c.toNat:Int) = n
  by_cases h1:97 ≤ n <;> by_cases h2:n ≤ 122 <;> by_cases h3:65 ≤ n <;> by_cases h4:n ≤ 90 <;> by_cases h5:n = 95 <;> cases D <;> by_cases h0:i = 0 <;> simp [h1,h2,h3,h4,h5,h0]
theorem e4h (t:Str):b4p t = some (b1s t):=by
 unfold b4p b1s
 rw [c6b,Option.bind_some]
 have hz:∀ (r:Str) (k:Nat),(r.zipIdx (k + 1)).all d6l = r.all b8l:=by
  intro r
  induction r with
  | nil => intro k; rfl
  | cons c r ih => intro k; simp only [List.zipIdx_cons,List.all_cons,ih (k + 1)]; rfl
 cases t with
 | nil => simp [b6k]
 | cons c t =>
  rw [List.zipIdx_cons,List.all_cons,hz t 0]
  have hl:decide (1 ≤ (c :: t).length) = true:=decide_eq_true (by simp)
  have e:d6l (c,0) = isLet (c.toNat:Int):=by simp [d6l]
  rw [e,hl,b6k,Bool.decide_and]
  have e2:decide ((1:Int) ≤ ((c :: t).length:Int)) = true:=decide_eq_true (by simp only [List.length_cons]; omega)
  have e3:decide (((c :: t).length:Int) ≤ 40) = decide ((c :: t).length ≤ 40):=by rw [decide_eq_decide]; omega
  rw [e2,e3]
  show _ = some ((true && _ && isLet (c.toNat:Int)) && t.all b8l)
  cases isLet (c.toNat:Int) <;> cases t.all b8l <;> simp
theorem c3u {α:Type} (p:α → Bool):∀ l:List α,(l.any fun x => !p x) = !l.all p
 | [] => rfl
 | x :: l => by simp only [List.any_cons,List.all_cons,c3u p l,Bool.not_and]
def rowB (n:Nat) (r:a1u):Bool:=decide (r.Cells.length = n) && r.Cells.all d4e
def d6m (r:a1i):Bool :=
 if r.Code = 0 then decide (0 ≤ r.Count ∧ r.Count ≤ 1000) && decide (0 ≤ r.Id ∧ r.Id ≤ 1000000) && decide (r.Columns.length ≤ 7) && decide (r.Rows.length ≤ 12) && r.Columns.all b1s && r.Rows.all (rowB r.Columns.length)
 else decide (1 ≤ r.Code ∧ r.Code ≤ 19) && decide (r.Count = 0) && decide (r.Id = 0) && decide (r.Columns.length = 0) && decide (r.Rows.length = 0)
def d8j (r:a1u):Prop:=∀ d ∈ r.Cells,d.length ≤ maxLen
theorem e1a (r:a1u) (n:Nat) (h:d8j r):b3b r n = some (rowB n r):=by
 unfold b3b rowB
 by_cases e:r.Cells.length = n
 ·have e':((r.Cells.length:Int) == (n:Int)) = true:=by simp [e]
  rw [e',if_pos rfl,a8u _ (fun d => !d4e d) r.Cells (fun d hd => by unfold b3a; rw [e0w d (h d hd)]; rfl),c3u]
  simp [e]
 ·have e':((r.Cells.length:Int) == (n:Int)) = false:=by simp; omega
  rw [e',if_neg (by simp)]
  simp [e]
theorem d8k (r:a1i) (h:∀ x ∈ r.Rows,d8j x):b1a r = some (d6m r):=by
 unfold b1a d6m
 by_cases c:r.Code = 0
 ·rw [if_pos c,if_neg (by simp [c])]
  simp only [b6k,Option.bind_some]
  rw [b1k _ (fun t => !b1s t) r.Columns (fun t _ => by unfold b1o; rw [e4h]; rfl),c3u,
   a9r _ (fun x => !rowB r.Columns.length x) r.Rows (fun x hx => by unfold b1p; rw [e1a x _ (h x hx)]; rfl),c3u]
  have l1:decide ((r.Columns.length:Int) > 7) = !decide (r.Columns.length ≤ 7):=by by_cases q:r.Columns.length ≤ 7 <;> simp [q] <;> omega
  have l2:decide ((r.Rows.length:Int) > 12) = !decide (r.Rows.length ≤ 12):=by by_cases q:r.Rows.length ≤ 12 <;> simp [q] <;> omega
  rw [l1,l2]
  cases decide (0 ≤ r.Count ∧ r.Count ≤ 1000) <;> cases decide (0 ≤ r.Id ∧ r.Id ≤ 1000000) <;> cases decide (r.Columns.length ≤ 7) <;> cases decide (r.Rows.length ≤ 12) <;> cases r.Columns.all b1s <;> cases r.Rows.all (rowB r.Columns.length) <;> rfl
 ·rw [if_neg c,if_pos (by simpa using c)]
  simp only [b6k,Option.bind_some]
  have l1:((r.Columns.length:Int) == 0) = decide (r.Columns.length = 0):=by by_cases q:r.Columns.length = 0 <;> simp [q]
  have l2:((r.Rows.length:Int) == 0) = decide (r.Rows.length = 0):=by by_cases q:r.Rows.length = 0 <;> simp [q]
  have l3:(r.Count == 0) = decide (r.Count = 0):=by by_cases q:r.Count = 0 <;> simp [q]
  have l4:(r.Id == 0) = decide (r.Id = 0):=by by_cases q:r.Id = 0 <;> simp [q]
  rw [l1,l2,l3,l4]
  cases decide (1 ≤ r.Code ∧ r.Code ≤ 19) <;> cases decide (r.Count = 0) <;> cases decide (r.Id = 0) <;> cases decide (r.Columns.length = 0) <;> cases decide (r.Rows.length = 0) <;> rfl
theorem d2g:∀ l:List Str,a4i l = some (if l.all b1s = true then .go () else .ret false)
 | [] => by rw [a4i]; rfl
 | x :: l => by
  rw [a4i,d4f,Option.bind_some,d2g l,List.all_cons]
  cases b1s x <;> simp
theorem d2h:∀ l:List (List a0k),a4j l = some (if l.all d4e = true then .go () else .ret false)
 | [] => by rw [a4j]; rfl
 | x :: l => by
  rw [a4j,d8h,Option.bind_some,d2h l,List.all_cons]
  cases d4e x <;> simp
theorem d2i (r:a1i):∀ l:List a1u,a4k r l = some (if l.all (rowB r.Columns.length) = true then .go () else .ret false)
 | [] => by rw [a4k]; rfl
 | x :: l => by
  rw [a4k,d2h,d2i r l,List.all_cons]
  unfold rowB
  by_cases e:x.Cells.length = r.Columns.length
  ·have e':((x.Cells.length:Int) != (r.Columns.length:Int)) = false:=by simp [e]
   rw [e']
   cases x.Cells.all d4e <;> simp [e]
  ·have e':((x.Cells.length:Int) != (r.Columns.length:Int)) = true:=by simp; omega
   rw [e']
   simp [e]
theorem d6n (r:a1i):b0y r = some (d6m r):=by
 unfold b0y d6m
 simp only [e0v,Option.bind_some,d2g,d2i]
 have l1:decide ((r.Columns.length:Int) > 7) = !decide (r.Columns.length ≤ 7):=by by_cases q:r.Columns.length ≤ 7 <;> simp [q] <;> omega
 have l2:decide ((r.Rows.length:Int) > 12) = !decide (r.Rows.length ≤ 12):=by by_cases q:r.Rows.length ≤ 12 <;> simp [q] <;> omega
 rw [l1,l2]
 by_cases c:r.Code = 0
 ·have c1:decide (0 ≤ r.Code ∧ r.Code ≤ 19) = true:=by simp [c]
  rw [c1,if_pos c]
  simp only [c]
  cases decide (0 ≤ r.Count ∧ r.Count ≤ 1000) <;> cases decide (0 ≤ r.Id ∧ r.Id ≤ 1000000) <;> cases decide (r.Columns.length ≤ 7) <;> cases decide (r.Rows.length ≤ 12) <;> cases r.Columns.all b1s <;> cases r.Rows.all (rowB r.Columns.length) <;> rfl
 ·rw [if_neg c]
  have c0:(r.Code == 0) = false:=by simpa using c
  have c1:decide (0 ≤ r.Code ∧ r.Code ≤ 19) = decide (1 ≤ r.Code ∧ r.Code ≤ 19):=by
   by_cases q:1 ≤ r.Code ∧ r.Code ≤ 19
   ·have:0 ≤ r.Code ∧ r.Code ≤ 19:=by omega
    simp [q,this]
   ·have:¬ (0 ≤ r.Code ∧ r.Code ≤ 19):=by omega
    simp [q,this]
  rw [c0,c1]
  by_cases k1:r.Count = 0
  ·by_cases k2:r.Id = 0
   ·by_cases k3:r.Columns.length = 0
    ·by_cases k4:r.Rows.length = 0
     ·have h3:r.Columns = []:=List.eq_nil_of_length_eq_zero k3
      have h4:r.Rows = []:=List.eq_nil_of_length_eq_zero k4
      simp only [k1,k2,h3,h4]
      cases decide (1 ≤ r.Code ∧ r.Code ≤ 19) <;> rfl
     ·have l4:((r.Rows.length:Int) == 0) = false:=by simpa using k4
      rw [l4]
      simp only [k4,decide_false,Bool.and_false,cond_false]
      cases ((decide (1 ≤ r.Code ∧ r.Code ≤ 19))) <;> cases decide (0 ≤ r.Count ∧ r.Count ≤ 1000) <;> cases decide (0 ≤ r.Id ∧ r.Id ≤ 1000000) <;> cases decide (r.Columns.length ≤ 7) <;> cases decide (r.Rows.length ≤ 12) <;> cases r.Columns.all b1s <;> cases r.Rows.all (rowB r.Columns.length) <;> cases (r.Count == 0) <;> cases (r.Id == 0) <;> rfl
    ·have l3:((r.Columns.length:Int) == 0) = false:=by simpa using k3
     rw [l3]
     simp only [k3,decide_false,Bool.and_false,Bool.false_and,cond_false]
     cases ((decide (1 ≤ r.Code ∧ r.Code ≤ 19))) <;> cases decide (0 ≤ r.Count ∧ r.Count ≤ 1000) <;> cases decide (0 ≤ r.Id ∧ r.Id ≤ 1000000) <;> cases decide (r.Columns.length ≤ 7) <;> cases decide (r.Rows.length ≤ 12) <;> cases r.Columns.all b1s <;> cases r.Rows.all (rowB r.Columns.length) <;> cases (r.Count == 0) <;> cases (r.Id == 0) <;> cases ((r.Rows.length:Int) == 0) <;> rfl
   ·have l2:(r.Id == 0) = false:=by simpa using k2
    rw [l2]
    simp only [k2,decide_false,Bool.and_false,Bool.false_and,cond_false]
    cases ((decide (1 ≤ r.Code ∧ r.Code ≤ 19))) <;> cases decide (0 ≤ r.Count ∧ r.Count ≤ 1000) <;> cases decide (0 ≤ r.Id ∧ r.Id ≤ 1000000) <;> cases decide (r.Columns.length ≤ 7) <;> cases decide (r.Rows.length ≤ 12) <;> cases r.Columns.all b1s <;> cases r.Rows.all (rowB r.Columns.length) <;> cases (r.Count == 0) <;> rfl
  ·have l1:(r.Count == 0) = false:=by simpa using k1
   rw [l1]
   simp only [k1,decide_false,Bool.and_false,Bool.false_and,cond_false]
   cases ((decide (1 ≤ r.Code ∧ r.Code ≤ 19))) <;> cases decide (0 ≤ r.Count ∧ r.Count ≤ 1000) <;> cases decide (0 ≤ r.Id ∧ r.Id ≤ 1000000) <;> cases decide (r.Columns.length ≤ 7) <;> cases decide (r.Rows.length ≤ 12) <;> cases r.Columns.all b1s <;> cases r.Rows.all (rowB r.Columns.length) <;> rfl
theorem c9s:∀ a b c:Str,Lib.compareBytes a b < 0 → Lib.compareBytes b c < 0 → Lib.compareBytes a c < 0
 | [],[],c => by intro h; simp [Lib.compareBytes] at h
 | [],_ :: _,[] => by intro _ h; simp [Lib.compareBytes] at h
 | [],_ :: _,_ :: _ => by intro _ _; simp [Lib.compareBytes]
 | _ :: _,[],c => by intro h; simp [Lib.compareBytes] at h
 | _ :: _,_ :: _,[] => by intro _ h; simp [Lib.compareBytes] at h
 | a :: xs,b :: ys,c :: zs => by
  have ih:=c9s xs ys zs
  unfold Lib.compareBytes
  rcases c4y a b with h | h | h
  ·rcases c4y b c with g | g | g
   ·have:a < c:=by simp only [UInt8.lt_iff_toNat_lt] at *; omega
    simp [this]
   ·subst g; simp [h]
   ·simp [h,g,b8k g]
  ·subst h
   rcases c4y a c with g | g | g
   ·simp [g]
   ·subst g; simp only [UInt8.lt_irrefl,if_false]; exact ih
   ·simp [g,b8k g]
  ·simp [h,b8k h]
theorem e1b:∀ n:Fin 13,(b1c (IntKind.u64.wrap ((n.val:Nat):Int))).isSome = true:=by decide +kernel
theorem b8m {α:Type} (p s:List α) (x:α):(p ++ x :: s)[p.length]? = some x:=by simp
theorem c7l {α:Type} (p s:List α) (x y:α):(p ++ x :: s).set p.length y = p ++ y :: s:=by
 rw [List.set_append_right _ _ (Nat.le_refl _),Nat.sub_self,List.set_cons_zero]
theorem c3v:2 ^ 40 < FUEL:=by unfold FUEL; decide
def b1t (a b:Str):Int:=Lib.compareBytes a b
theorem b5s (a b:Str):b1t a b = 0 ↔ a = b:=c0j a b
theorem d2j (a b:Str):b1t b a = - b1t a b:=d2f a b
theorem b8n {a b c:Str} (h:b1t a b < 0) (g:b1t b c < 0):b1t a c < 0:=c9s a b c h g
theorem b4v (a:Str):¬ b1t a a < 0:=by have:=(b5s a a).2 rfl; omega
theorem d2k (a b:Str):Op.bytesLess a b = decide (b1t a b < 0):=c4z a b
theorem e5x (a b:Str):cmp_Less_string a b = some (decide (b1t a b < 0)):=by
 unfold cmp_Less_string cmp_isNaN_string
 simp [d2k]
def a9l (d:List Str):Prop:=d.Pairwise fun a b => b1t a b < 0
theorem a9l.ext:∀ {a b:List Str},a9l a → a9l b → (∀ x,x ∈ a ↔ x ∈ b) → a = b
 | [],[],_,_,_ => rfl
 | [],y :: _,_,_,h => absurd ((h y).2 (by simp)) (by simp)
 | x :: _,[],_,_,h => absurd ((h x).1 (by simp)) (by simp)
 | x :: xs,y :: ys,ha,hb,h => by
  obtain ⟨ha1,ha2⟩:=List.pairwise_cons.1 ha
  obtain ⟨hb1,hb2⟩:=List.pairwise_cons.1 hb
  have hxy:x = y:=by
   rcases List.mem_cons.1 ((h x).1 (by simp)) with e | e
   ·exact e
   ·rcases List.mem_cons.1 ((h y).2 (by simp)) with e' | e'
    ·exact e'.symm
    ·exact absurd (b8n (ha1 y e') (hb1 x e)) (b4v _)
  subst hxy
  refine congrArg (x :: ·) (a9l.ext ha2 hb2 (fun z => ?_))
  have hz:=h z
  simp only [List.mem_cons] at hz
  constructor
  ·intro q
   rcases hz.1 (.inr q) with e | e
   ·subst e; exact absurd (ha1 z q) (b4v _)
   ·exact e
  ·intro q
   rcases hz.2 (.inr q) with e | e
   ·subst e; exact absurd (hb1 z q) (b4v _)
   ·exact e
def c6c (d:List Str):Prop:=d.Pairwise fun a b => b1t a b ≤ 0
theorem d1a {a b c:Str} (h:b1t a b ≤ 0) (g:b1t b c ≤ 0):b1t a c ≤ 0:=by
 by_cases h0:b1t a b = 0
 ·rw [(b5s a b).1 h0]; exact g
 ·by_cases g0:b1t b c = 0
  ·rw [← (b5s b c).1 g0]; exact h
  ·have:=b8n (a:=a) (b:=b) (c:=c) (by omega) (by omega); omega
def ddT:Str → List Str → List Str
 | _,[] => []
 | a,z :: t => if z = a then ddT a t else z :: ddT z t
theorem c7m (x:Str):∀ (t:List Str) (a:Str),x ∈ a :: ddT a t ↔ x ∈ a :: t
 | [],a => by simp [ddT]
 | z :: t,a => by
  unfold ddT
  by_cases e:z = a
  ·subst e; rw [if_pos rfl,c7m x t z]; simp
  ·rw [if_neg e,List.mem_cons,c7m x t z,List.mem_cons (a:=x) (b:=a)]
theorem c7n:∀ (t:List Str) (a:Str),(ddT a t).length ≤ t.length
 | [],a => by simp [ddT]
 | z :: t,a => by
  unfold ddT
  have h1:=c7n t a
  have h2:=c7n t z
  by_cases e:z = a
  ·rw [if_pos e]; simp only [List.length_cons]; omega
  ·rw [if_neg e]; simp only [List.length_cons]; omega
theorem c2c:∀ (t:List Str) (a:Str),c6c (a :: t) → a9l (a :: ddT a t)
 | [],a,_ => List.pairwise_singleton _ _
 | z :: t,a,h => by
  obtain ⟨h1,h2⟩:=List.pairwise_cons.1 h
  unfold ddT
  by_cases e:z = a
  ·subst e; rw [if_pos rfl]; exact c2c t z h2
  ·rw [if_neg e]
   have haz:b1t a z < 0:=by
    have:=h1 z (by simp)
    have h0:b1t a z ≠ 0:=fun q => e ((b5s a z).1 q).symm
    omega
   refine List.pairwise_cons.2 ⟨fun c hc => ?_,c2c t z h2⟩
   have hc':=(c7m c t z).1 hc
   rcases List.mem_cons.1 hc' with rfl | hc'
   ·exact haz
   ·have hzc:=(List.pairwise_cons.1 h2).1 c hc'
    by_cases hz:b1t z c = 0
    ·rw [← (b5s z c).1 hz]; exact haz
    ·exact b8n haz (by omega)
theorem d2l:∀ (pr:List Str) (k:Nat) (x:Str) (s:List Str),pr.length < k → pr.length + s.length + 1 ≤ 2 ^ 20 → c6c pr.reverse → ∃ p1 p2:List Str,pr.reverse = p1 ++ p2 ∧ a1a 0 k (pr.length:Int) (pr.reverse ++ x :: s) = some (p1 ++ x :: (p2 ++ s)) ∧ (∀ y ∈ p2,b1t x y < 0) ∧ (∀ y ∈ p1,b1t y x ≤ 0)
 | _,0,_,_,h,_,_ => by omega
 | [],k + 1,x,s,_,hl,_ => by
  refine ⟨[],[],rfl,?_,by simp,by simp⟩
  rw [a1a]
  rfl
 | y :: pr,k + 1,x,s,hk,hl,hw => by
  simp only [List.length_cons] at hk hl
  have er:(y :: pr).reverse = pr.reverse ++ [y]:=by simp
  rw [er] at hw
  have hw':c6c pr.reverse:=(List.pairwise_append.1 hw).1
  have hy:∀ z ∈ pr.reverse,b1t z y ≤ 0:=fun z hz => (List.pairwise_append.1 hw).2.2 z hz y (by simp)
  have el:(pr.reverse ++ [y]).length = pr.length + 1:=by simp
  have ed:(pr.reverse ++ [y] ++ x :: s) = pr.reverse ++ y :: x :: s:=by simp
  have e1:decide (((y :: pr).length:Int) > 0) = true:=decide_eq_true (by simp only [List.length_cons]; omega)
  have e2:w64 (((y :: pr).length:Int) - 1) = ((pr.length:Nat):Int):=by rw [a3m (by simp only [List.length_cons]; omega)]; simp only [List.length_cons]; omega
  have g1:(pr.reverse ++ y :: x :: s)[0 + (((y :: pr).length:Nat):Int).toNat]? = some x:=by
   have:=b8m (pr.reverse ++ [y]) s x
   rw [el,ed] at this
   simpa using this
  have g2:(pr.reverse ++ y :: x :: s)[0 + ((pr.length:Nat):Int).toNat]? = some y:=by
   have:=b8m pr.reverse (x :: s) y
   rw [List.length_reverse] at this
   simpa using this
  have b1:0 ≤ (((y :: pr).length:Nat):Int) ∧ (((y :: pr).length:Nat):Int) < ((pr.reverse ++ y :: x :: s).length:Int):=by simp; omega
  have b2:0 ≤ ((pr.length:Nat):Int) ∧ ((pr.length:Nat):Int) < ((pr.reverse ++ y :: x :: s).length:Int):=by simp; omega
  have ss:(pr.reverse ++ y :: x :: s).set (0 + (((y :: pr).length:Nat):Int).toNat) y = pr.reverse ++ y :: y :: s:=by
   have:=c7l (pr.reverse ++ [y]) s x y
   rw [el] at this
   simpa using this
  have s2:(pr.reverse ++ y :: y :: s).set (0 + ((pr.length:Nat):Int).toNat) x = pr.reverse ++ x :: y :: s:=by
   have:=c7l pr.reverse (y :: s) y x
   rw [List.length_reverse] at this
   simpa using this
  have g3:(pr.reverse ++ y :: y :: s)[0 + ((pr.length:Nat):Int).toNat]? = some y:=by
   have:=b8m pr.reverse (y :: s) y
   rw [List.length_reverse] at this
   simpa using this
  rw [a1a,er,ed,if_pos e1,if_pos b1,g1,Option.bind_some,e2,if_pos b2,g2,Option.bind_some,e5x,Option.bind_some,Option.bind_some]
  by_cases c:b1t x y < 0
  ·rw [if_pos (by simpa using c),if_pos b2,Option.bind_some,if_pos b1,Option.bind_some,if_pos b1,if_pos b2,ss,g3,Option.bind_some,s2]
   obtain ⟨p1,p2,h1,h2,h3,h4⟩:=d2l pr k x (y :: s) (by omega) (by simp only [List.length_cons]; omega) hw'
   refine ⟨p1,p2 ++ [y],by rw [h1,List.append_assoc],by rw [h2]; simp,fun z hz => ?_,h4⟩
   rcases List.mem_append.1 hz with hz | hz
   ·exact h3 z hz
   ·simp only [List.mem_singleton] at hz; subst hz; exact c
  ·rw [if_neg (by simpa using c)]
   refine ⟨pr.reverse ++ [y],[],by simp,by simp,by simp,fun z hz => ?_⟩
   have hyx:b1t y x ≤ 0:=by have:=d2j x y; omega
   rcases List.mem_append.1 hz with hz | hz
   ·exact d1a (hy z hz) hyx
   ·simp only [List.mem_singleton] at hz; subst hz; exact hyx
theorem d2m:∀ (s pre:List Str) (k:Nat),s.length < k → pre.length + s.length ≤ 2 ^ 19 → c6c pre → ∃ d,a0u (((pre ++ s).length:Nat):Int) 0 k (pre.length:Int) (pre ++ s) = some d ∧ c6c d ∧ d.Perm (pre ++ s)
 | _,_,0,h,_,_ => by omega
 | [],pre,k + 1,_,_,hw => by
  refine ⟨pre,?_,hw,by simp⟩
  rw [a0u,if_neg (by simp)]
  simp
 | x :: s,pre,k + 1,hk,hl,hw => by
  simp only [List.length_cons] at hk hl
  have hf:=c3v
  rw [a0u,if_pos (by simp; omega)]
  obtain ⟨p1,p2,h1,h2,h3,h4⟩:=d2l pre.reverse FUEL x s (by simp; omega) (by simp; omega) (by simpa using hw)
  rw [List.reverse_reverse] at h1 h2
  rw [List.length_reverse] at h2
  rw [h2,Option.bind_some]
  have hw1:c6c (p1 ++ x :: p2):=by
   rw [h1] at hw
   obtain ⟨a1,a2,a3⟩:=List.pairwise_append.1 hw
   refine List.pairwise_append.2 ⟨a1,List.pairwise_cons.2 ⟨fun z hz => ?_,a2⟩,fun z hz w hw' => ?_⟩
   ·have:=h3 z hz; omega
   ·rcases List.mem_cons.1 hw' with rfl | hw'
    ·exact h4 z hz
    ·exact a3 z hz w hw'
  have el:(p1 ++ x :: p2).length = pre.length + 1:=by rw [h1]; simp; omega
  have e1:w64 ((pre.length:Int) + 1) = (((p1 ++ x :: p2).length:Nat):Int):=by rw [a3m (by omega),el]; omega
  have e2:p1 ++ x :: (p2 ++ s) = (p1 ++ x :: p2) ++ s:=by simp
  have e3:(pre ++ x :: s).length = ((p1 ++ x :: p2) ++ s).length:=by rw [show ((p1 ++ x :: p2) ++ s).length = (p1 ++ x :: p2).length + s.length from List.length_append,el]; simp; omega
  obtain ⟨d,g1,g2,g3⟩:=d2m s (p1 ++ x :: p2) k (by omega) (by omega) hw1
  refine ⟨d,?_,g2,g3.trans ?_⟩
  ·rw [e1,e2,e3]; exact g1
  ·rw [h1,List.append_assoc,List.append_assoc]
   refine List.Perm.append_left p1 ?_
   rw [List.cons_append]
   exact (List.perm_middle (a:=x) (l₁:=p2) (l₂:=s)).symm
theorem e6y (l:List Str) (h:l.length ≤ 2 ^ 19):∃ d,a2p l 0 (l.length:Int) = some d ∧ c6c d ∧ d.Perm l:=by
 have hf:=c3v
 unfold a2p
 cases l with
 | nil =>
  refine ⟨[],?_,.nil,List.Perm.refl _⟩
  obtain ⟨k,hk⟩:∃ k,FUEL = k + 1:=⟨FUEL - 1,by omega⟩
  rw [hk,a0u]
  rfl
 | cons x s =>
  simp only [List.length_cons] at h
  have:=d2m s [x] FUEL (by omega) (by simp; omega) (List.pairwise_singleton _ _)
  have ew:w64 (0 + 1) = 1:=by decide
  rw [ew]
  simpa using this
theorem e5y (l:List Str) (h:l.length ≤ 12):∃ d,a3q l = some d ∧ c6c d ∧ d.Perm l:=by
 have hf:=c3v
 obtain ⟨d,e,h1,h2⟩:=e6y l (by omega)
 refine ⟨d,?_,h1,h2⟩
 have hb:=e1b ⟨l.length,by omega⟩
 unfold a3q
 obtain ⟨n,hn⟩:=Option.isSome_iff_exists.1 hb
 have hn':b1c (IntKind.u64.wrap (l.length:Int)) = some n:=hn
 obtain ⟨k,hk⟩:∃ k,FUEL = k + 1:=⟨FUEL - 1,by omega⟩
 have e2:a2d FUEL l 0 (l.length:Int) n = some d:=by
  rw [hk,a2d]
  unfold a3r
  rw [hk,a1w,if_pos (by rw [a3m (by omega)]; simp; omega),e,Option.bind_some]
 rw [hn',Option.bind_some,e2,Option.bind_some]
theorem c0k (s0:List Str) (k0:Nat):∀ (t c g:List Str) (y:Str) (k k2:Nat),t.length < k → (c ++ (g ++ y :: t)).length = s0.length → c.length + g.length + 1 = k0 + k2 → s0.length ≤ 2 ^ 20 → 1 ≤ k2 → ∃ R,a0x s0 k0 k (c.length:Int) (k2:Int) (c ++ (g ++ y :: t)) = some ((((c ++ ddT y t).length:Nat):Int),R) ∧ R.length = s0.length ∧ R.take (c ++ ddT y t).length = c ++ ddT y t
 | _,_,_,_,0,_,h,_,_,_,_ => by omega
 | [],c,g,y,k + 1,k2,_,hn,hp,hl,h2 => by
  refine ⟨c ++ (g ++ [y]),?_,hn,by simp [ddT]⟩
  simp only [List.length_append,List.length_cons,List.length_nil] at hn
  rw [a0x,if_neg (by simp; omega)]
  simp [ddT]
 | z :: t,c,g,y,k + 1,k2,hk,hn,hp,hl,h2 => by
  have hn0:=hn
  simp only [List.length_append,List.length_cons] at hn hk
  have e1:decide ((k2:Int) < (((s0.length - k0):Nat):Int)) = true:=decide_eq_true (by omega)
  have b1:0 ≤ (k2:Int) ∧ (k2:Int) < (((s0.length - k0):Nat):Int):=by omega
  have e2:w64 ((k2:Int) - 1) = ((k2 - 1:Nat):Int):=by rw [a3m (by omega)]; omega
  have b2:0 ≤ ((k2 - 1:Nat):Int) ∧ ((k2 - 1:Nat):Int) < (((s0.length - k0):Nat):Int):=by omega
  have g1:(c ++ (g ++ y :: z :: t))[k0 + ((k2:Nat):Int).toNat]? = some z:=by
   have:=b8m (c ++ g ++ [y]) t z
   have el:(c ++ g ++ [y]).length = k0 + k2:=by simp; omega
   rw [el] at this
   simpa using this
  have g2:(c ++ (g ++ y :: z :: t))[k0 + ((k2 - 1:Nat):Int).toNat]? = some y:=by
   have:=b8m (c ++ g) (z :: t) y
   have el:(c ++ g).length = k0 + (k2 - 1):=by simp; omega
   rw [el] at this
   simpa using this
  have e3:w64 ((k2:Int) + 1) = ((k2 + 1:Nat):Int):=by rw [a3m (by omega)]; omega
  rw [a0x,if_pos e1,if_pos b1,g1,Option.bind_some,e2,if_pos b2,g2,Option.bind_some,e3]
  by_cases e:z = y
  ·subst e
   rw [if_neg (by simp)]
   have ed:ddT z (z :: t) = ddT z t:=by rw [ddT,if_pos rfl]
   have ec:c ++ (g ++ z :: z :: t) = c ++ ((g ++ [z]) ++ z :: t):=by simp
   rw [ed,ec]
   exact c0k s0 k0 t c (g ++ [z]) z k (k2 + 1) (by omega) (by rw [← ec]; exact hn0) (by simp; omega) hl (by omega)
  ·have ed:ddT y (z :: t) = z :: ddT z t:=by rw [ddT,if_neg e]
   have b3:0 ≤ (c.length:Int) ∧ (c.length:Int) < ((c ++ (g ++ y :: z :: t)).length:Int):=by simp; omega
   have g3:∃ w,(c ++ (g ++ y :: z :: t))[0 + ((c.length:Nat):Int).toNat]? = some w:=⟨_,List.getElem?_eq_getElem (by simp; omega)⟩
   obtain ⟨w,hw⟩:=g3
   have e4:w64 ((c.length:Int) + 1) = (((c ++ [z]).length:Nat):Int):=by rw [a3m (by omega)]; simp
   rw [if_pos (by simp [e]),if_pos b1,if_pos b3,hw,Option.bind_some,e4,ed]
   have ex:c ++ z :: ddT z t = (c ++ [z]) ++ ddT z t:=by simp
   rw [ex]
   cases g with
   | nil =>
    have es:(c ++ ([] ++ y :: z :: t)).set (0 + ((c.length:Nat):Int).toNat) z = (c ++ [z]) ++ ([] ++ z :: t):=by
     have:=c7l c (z :: t) y z
     simpa using this
    rw [es]
    exact c0k s0 k0 t (c ++ [z]) [] z k (k2 + 1) (by omega) (by simp at hn ⊢; omega) (by simp at hp ⊢; omega) hl (by omega)
   | cons g0 g' =>
    have es:(c ++ (g0 :: g' ++ y :: z :: t)).set (0 + ((c.length:Nat):Int).toNat) z = (c ++ [z]) ++ ((g' ++ [y]) ++ z :: t):=by
     have:=c7l c (g' ++ y :: z :: t) g0 z
     simpa using this
    rw [es]
    exact c0k s0 k0 t (c ++ [z]) (g' ++ [y]) z k (k2 + 1) (by omega) (by simp at hn ⊢; omega) (by simp at hp ⊢; omega) hl (by omega)
theorem d2n (s:List Str) (hl:s.length ≤ 2 ^ 20):∀ (xs pre:List Str) (y:Str),s = pre ++ y :: xs → a1c s xs (pre.length + 1) = some (if ddT y xs = xs then .go () else .ret (pre ++ y :: ddT y xs))
 | [],pre,y,_ => by rw [a1c]; simp [ddT]
 | x :: xs,pre,y,hs => by
  have hn:s.length = pre.length + 1 + 1 + xs.length:=by rw [hs]; simp; omega
  have e1:w64 ((((pre.length + 1:Nat)):Int) - 1) = ((pre.length:Nat):Int):=by rw [a3m (by omega)]; omega
  have g1:s[0 + ((pre.length:Nat):Int).toNat]? = some y:=by
   have:=b8m pre (x :: xs) y
   rw [← hs] at this
   simpa using this
  have es:s = (pre ++ [y]) ++ x :: xs:=by rw [hs]; simp
  rw [a1c,if_pos (by omega),e1,if_pos (by omega),g1,Option.bind_some]
  by_cases e:x = y
  ·subst e
   have ed:ddT x (x :: xs) = ddT x xs:=by rw [ddT,if_pos rfl]
   have hne:¬ ddT x (x :: xs) = x :: xs:=by
    rw [ed]; intro h
    have:=c7n xs x
    rw [h] at this
    simp only [List.length_cons] at this
    omega
   have hf:=c3v
   rw [if_pos (by simp),if_pos (by omega),if_neg hne,ed]
   obtain ⟨R,h1,h2,h3⟩:=c0k s (pre.length + 1) xs (pre ++ [x]) [] x FUEL 1 (by omega) (by rw [es]; simp) (by simp) hl (by omega)
   have ec:((pre ++ [x]) ++ ([] ++ x :: xs)) = s:=by rw [es]; simp
   have el:(((pre ++ [x]).length:Nat):Int) = ((pre.length + 1:Nat):Int):=by simp
   have h1':a0x s (pre.length + 1) FUEL ((pre.length + 1:Nat):Int) 1 s = some ((((pre ++ [x] ++ ddT x xs).length:Nat):Int),R):=by
    rw [ec,el] at h1; exact h1
   rw [h1',Option.bind_some]
   have hle:(pre ++ [x] ++ ddT x xs).length ≤ R.length:=by have:=c7n xs x; rw [h2,hn]; simp; omega
   simp only
   rw [if_pos (by omega),if_pos (by omega)]
   have et:(R.take (((pre ++ [x] ++ ddT x xs).length:Nat):Int).toNat) = pre ++ x :: ddT x xs:=by
    rw [Int.toNat_natCast,h3]; simp
   rw [et]
   have el2:(((pre ++ [x] ++ ddT x xs).length:Nat):Int).toNat = (pre ++ x :: ddT x xs).length:=by rw [Int.toNat_natCast]; simp
   rw [el2,List.append_assoc,List.take_left']
   rfl
  ·have ed:ddT y (x :: xs) = x :: ddT x xs:=by rw [ddT,if_neg e]
   have e2:pre.length + 1 + 1 = (pre ++ [y]).length + 1:=by simp
   rw [if_neg (by simp [e]),e2,d2n s hl xs (pre ++ [y]) x es,ed]
   by_cases q:ddT x xs = xs
   ·rw [if_pos q,if_pos (by rw [q])]
   ·rw [if_neg q,if_neg (by simpa using q)]
    simp
def c5a:List Str → List Str
 | [] => []
 | a :: t => a :: ddT a t
theorem d8l (s:List Str) (hl:s.length ≤ 2 ^ 20):a3e s = some (c5a s):=by
 unfold a3e
 cases s with
 | nil => rfl
 | cons a t =>
  cases t with
  | nil => rfl
  | cons b t =>
   rw [if_neg (by simp; omega)]
   have:=d2n (a :: b :: t) hl (b :: t) [] a rfl
   have e:a1c (a :: b :: t) ((a :: b :: t).drop 1) 1 = _:=this
   rw [e]
   by_cases q:ddT a (b :: t) = b :: t
   ·rw [if_pos q,c5a,q]; rfl
   ·rw [if_neg q,c5a]; rfl
theorem a5o.parts {x:o9} (h:a5o x):okS x.T ∧ okL okS x.Keys ∧ x.Items.length ≤ maxLen ∧ ∀ y ∈ x.Items,a5o y:=by
 cases h with
 | mk h0 h1 h2 h3 h4 h5 => exact ⟨h2,h3,h4,h5⟩
theorem f4a {α:Type} (a b:Bool) (x y:α):(if (bif a then true else b) = true then x else y) = (if a = true then x else if b = true then x else y):=by cases a <;> simp
def keyAt (ks:List Str) (i:Nat):Bool:=match ks[i]? with
 | some x => b9v x && (decide (i = 0) || match ks[i - 1]? with | some y => Op.bytesLess y x | none => false)
 | none => false
theorem c3w (ks:List Str) (hl:ks.length ≤ maxLen):∀ (xs:List Str) (i:Nat),ks.drop i = xs →
  a4d ks xs i = some (.go ()) ∧ (∀ q,i ≤ q → q < ks.length → keyAt ks q = true) ∨ a4d ks xs i = some (.ret false) ∧ ∃ q,i ≤ q ∧ q < ks.length ∧ keyAt ks q = false
 | [],i,h => by
  refine .inl ⟨by rw [a4d],fun q h1 h2 => ?_⟩
  have:=List.drop_eq_nil_iff.1 h
  omega
 | x :: xs,i,h => by
  have hi:=c7k h
  have hx:ks[i]? = some x:=by rw [← b3w]; exact b7k h
  rw [a4d,d4c,Option.bind_some]
  have hnext:=c3w ks hl xs (i + 1) (b0h h)
  simp only [maxLen] at hl
  by_cases ht:b9v x = true
  ·rw [if_neg (by simp [ht])]
   by_cases h0:i = 0
   ·subst h0
    rw [if_neg (by simp),Option.bind_some,if_neg (by simp)]
    have hk:keyAt ks 0 = true:=by unfold keyAt; simp [hx,ht]
    rcases hnext with ⟨e,hq⟩ | ⟨e,q,q1,q2,q3⟩
    ·refine .inl ⟨e,fun q h1 h2 => ?_⟩
     by_cases hq0:q = 0
     ·rw [hq0]; exact hk
     ·exact hq q (by omega) h2
    ·exact .inr ⟨e,q,by omega,q2,q3⟩
   ·rw [if_pos (by simp; omega),a3m (by omega)]
    obtain ⟨y,hy⟩:∃ y,ks[i - 1]? = some y:=⟨ks[i - 1],List.getElem?_eq_getElem (by omega)⟩
    have e1:(i:Int) - 1 = ((i - 1:Nat):Int):=by omega
    rw [e1,b3w,hy,Option.bind_some,Option.bind_some]
    have hk:keyAt ks i = Op.bytesLess y x:=by unfold keyAt; simp [hx,ht,h0,hy]
    by_cases hb:Op.bytesLess y x = true
    ·rw [if_neg (by simp [hb])]
     rcases hnext with ⟨e,hq⟩ | ⟨e,q,q1,q2,q3⟩
     ·refine .inl ⟨e,fun q h1 h2 => ?_⟩
      by_cases hq0:q = i
      ·rw [hq0,hk]; exact hb
      ·exact hq q (by omega) h2
     ·exact .inr ⟨e,q,by omega,q2,q3⟩
    ·simp only [Bool.not_eq_true] at hb
     rw [if_pos (by simp [hb])]
     exact .inr ⟨rfl,i,Nat.le_refl _,hi,by rw [hk,hb]⟩
  ·simp only [Bool.not_eq_true] at ht
   rw [if_pos (by simp [ht]),Option.bind_some,if_pos rfl]
   exact .inr ⟨rfl,i,Nat.le_refl _,hi,by unfold keyAt; simp [hx,ht]⟩
theorem e1c (ks:List Str) (hl:ks.length ≤ maxLen):∃ b,b3c ks = some b ∧ (b = true ↔ ∀ q,q < ks.length → keyAt ks q = true):=by
 unfold b3c
 rcases c3w ks hl ks 0 (by simp) with ⟨e,hq⟩ | ⟨e,q,q1,q2,q3⟩
 ·rw [e]; exact ⟨true,rfl,by simp; exact fun q h => hq q (by omega) h⟩
 ·rw [e]; refine ⟨false,rfl,?_⟩
  simp only [Bool.false_eq_true,false_iff]
  intro h
  rw [h q q2] at q3
  cases q3
def b3k (j:o9):Prop :=
 (j.Kind = 0 ∧ j.N = 0 ∧ j.T = [] ∧ j.Keys = [] ∧ j.Items = []) ∨
 (j.Kind = 1 ∧ (0 ≤ j.N ∧ j.N ≤ 1) ∧ j.T = [] ∧ j.Keys = [] ∧ j.Items = []) ∨
 (j.Kind = 2 ∧ (-1000000000 ≤ j.N ∧ j.N ≤ 1000000000) ∧ j.T = [] ∧ j.Keys = [] ∧ j.Items = []) ∨
 (j.Kind = 3 ∧ j.N = 0 ∧ b9v j.T = true ∧ j.Keys = [] ∧ j.Items = []) ∨
 (j.Kind = 4 ∧ j.N = 0 ∧ j.T = [] ∧ j.Keys = []) ∨
 (j.Kind = 5 ∧ j.N = 0 ∧ j.T = [] ∧ j.Keys.length = j.Items.length ∧ ∀ q,q < j.Keys.length → keyAt j.Keys q = true)
theorem e4i (j:o9) (hl:j.Keys.length ≤ maxLen):∃ b,a8m j = some b ∧ (b = true ↔ b3k j):=by
 obtain ⟨kb,ek,hk⟩:=e1c j.Keys hl
 unfold a8m a9h b3k
 simp only [b6k,d4c,ek,Option.bind_some]
 by_cases h0:j.Kind = 0
 ·simp only [h0]
  by_cases h1:j.N = 0 <;> by_cases h2:j.T = [] <;> by_cases h3:j.Keys = [] <;> by_cases h4:j.Items = [] <;> simp_all
 by_cases h1:j.Kind = 1
 ·simp only [h1]
  by_cases c:(0 ≤ j.N ∧ j.N ≤ 1) <;> by_cases h2:j.T = [] <;> by_cases h3:j.Keys = [] <;> by_cases h4:j.Items = [] <;> simp_all
 by_cases h2:j.Kind = 2
 ·simp only [h2]
  by_cases c:(-1000000000 ≤ j.N ∧ j.N ≤ 1000000000) <;> by_cases h2:j.T = [] <;> by_cases h3:j.Keys = [] <;> by_cases h4:j.Items = [] <;> simp_all
 by_cases h3:j.Kind = 3
 ·simp only [h3]
  by_cases h1:j.N = 0 <;> by_cases h2:b9v j.T = true <;> by_cases h3:j.Keys = [] <;> by_cases h4:j.Items = [] <;> simp_all
 by_cases h4:j.Kind = 4
 ·simp only [h4]
  by_cases h1:j.N = 0 <;> by_cases h2:j.T = [] <;> by_cases h3:j.Keys = [] <;> simp_all
 by_cases h5:j.Kind = 5
 ·simp only [h5]
  by_cases h1:j.N = 0 <;> by_cases h2:j.T = [] <;> by_cases h3:j.Keys.length = j.Items.length <;> simp_all <;> omega
 refine ⟨false,?_,?_⟩
 ·simp [h0,h1,h2,h3,h4,h5]
 ·simp [h0,h1,h2,h3,h4,h5]
def OkD:Nat → o9 → Prop
 | 0,_ => False
 | d + 1,j => b3k j ∧ ∀ y ∈ j.Items,OkD d y
def a9s:Nat → o9 → Int
 | 0,_ => 0
 | d + 1,j => 1 + (j.Items.map (a9s d)).sum
theorem c5b {α:Type} (f:α → Int) (hf:∀ x,0 ≤ f x):∀ l:List α,0 ≤ (l.map f).sum
 | [] => by simp
 | x :: xs => by simp only [List.map_cons,List.sum_cons]; have:=hf x; have:=c5b f hf xs; omega
theorem b8o:∀ (d:Nat) (j:o9),0 ≤ a9s d j
 | 0,j => by simp [a9s]
 | d + 1,j => by simp only [a9s]; have:=c5b (a9s d) (b8o d) j.Items; omega
theorem d6o (R:o9 → Int → Int → Option (Bool × Int)) (d:Nat) (deep:Int):∀ (xs:List o9) (s8:Nat) (room:Int),0 ≤ room → room ≤ 400 →
  (∀ y ∈ xs,∀ room,0 ≤ room → room ≤ 400 → ∃ b room',R y (w64 (deep + 1)) room = some (b,room') ∧ room' ≤ room ∧ (b = true ↔ OkD d y ∧ a9s d y ≤ room) ∧ (b = true → room' = room - a9s d y)) →
  (a0t R xs s8 deep room = some (.go (deep,room - (xs.map (a9s d)).sum)) ∧ (∀ y ∈ xs,OkD d y) ∧ (xs.map (a9s d)).sum ≤ room) ∨
  (∃ (i:Nat) (r':Int),a0t R xs s8 deep room = some (.ret ((i:Int),deep,r')) ∧ r' ≤ room ∧ ¬ ((∀ y ∈ xs,OkD d y) ∧ (xs.map (a9s d)).sum ≤ room))
 | [],s8,room,h0,h1,hR => .inl ⟨by rw [a0t]; simp,by simp,by simpa using h0⟩
 | x :: xs,s8,room,h0,h1,hR => by
  rw [a0t]
  unfold a7f
  obtain ⟨b,r1,e,g1,g2,g3⟩:=hR x (by simp) room h0 h1
  rw [e]
  simp only [Option.bind_some]
  have hs:=c5b (a9s d) (b8o d) xs
  have hx:=b8o d x
  cases b with
  | true =>
   obtain ⟨k1,k2⟩:=g2.1 rfl
   have k3:=g3 rfl
   rw [if_neg (by simp)]
   rcases d6o R d deep xs (s8 + 1) r1 (by omega) (by omega) (fun y hy => hR y (by simp [hy])) with ⟨e2,q1,q2⟩ | ⟨i,r',e2,q1,q2⟩
   ·refine .inl ⟨?_,?_,?_⟩
    ·rw [e2]; simp only [List.map_cons,List.sum_cons]; congr 3; omega
    ·intro y hy
     rcases List.mem_cons.1 hy with rfl | hy
     ·exact k1
     ·exact q1 y hy
    ·simp only [List.map_cons,List.sum_cons]; omega
   ·refine .inr ⟨i,r',e2,by omega,fun ⟨f1,f2⟩ => q2 ⟨fun y hy => f1 y (by simp [hy]),?_⟩⟩
    simp only [List.map_cons,List.sum_cons] at f2
    omega
  | false =>
   rw [if_pos (by simp)]
   refine .inr ⟨s8,r1,rfl,g1,fun ⟨f1,f2⟩ => ?_⟩
   simp only [List.map_cons,List.sum_cons] at f2
   have:=g2.2 ⟨f1 x (by simp),by omega⟩
   cases this
theorem d2o:∀ (k d:Nat) (j:o9) (room:Int),d ≤ 12 → d < k → 0 ≤ room → room ≤ 400 → a5o j →
  ∃ b room',a4v k j (12 - d) room = some (b,room') ∧ room' ≤ room ∧ (b = true ↔ OkD d j ∧ a9s d j ≤ room) ∧ (b = true → room' = room - a9s d j)
 | 0,d,j,room,_,hk,_,_,_ => by omega
 | k + 1,d,j,room,hd,hk,h0,h1,ok => by
  obtain ⟨o1,o2,o3,o4⟩:=ok.parts
  rw [a4v]
  unfold a8h
  rw [a3m (by omega)]
  simp only [f4a]
  by_cases c1:room - 1 < 0
  ·rw [if_pos (by simpa using c1),Option.bind_some,if_pos rfl]
   refine ⟨false,room - 1,rfl,by omega,?_,by simp⟩
   simp only [Bool.false_eq_true,false_iff,not_and]
   intro ho
   cases d with
   | zero => exact ho.elim
   | succ d => simp only [a9s]; have:=c5b (a9s d) (b8o d) j.Items; omega
  rw [if_neg (by simpa using c1)]
  cases d with
  | zero =>
   rw [if_pos (by simp),Option.bind_some,if_pos rfl]
   exact ⟨false,room - 1,rfl,by omega,by simp [OkD],by simp⟩
  | succ d =>
   rw [if_neg (by simp; omega)]
   obtain ⟨pb,ep,hp⟩:=e4i j o2.1
   rw [ep,Option.bind_some,Option.bind_some]
   cases pb with
   | false =>
    rw [if_pos (by simp)]
    refine ⟨false,room - 1,rfl,by omega,?_,by simp⟩
    simp only [Bool.false_eq_true,false_iff,not_and,OkD]
    intro ⟨hn,_⟩
    have:=hp.2 hn
    cases this
   | true =>
    rw [if_neg (by simp)]
    have hdeep:w64 (12 - ((d + 1:Nat):Int) + 1) = 12 - (d:Int):=by rw [a3m (by omega)]; omega
    have hloop:=d6o (a4v k) d (12 - ((d + 1:Nat):Int)) j.Items 0 (room - 1) (by omega) (by omega) (fun y hy rm a1 a2 => by
     rw [hdeep]
     exact d2o k d y rm (by omega) (by omega) a1 a2 (o4 y hy))
    unfold a2s a3a
    rcases hloop with ⟨e2,q1,q2⟩ | ⟨i,r',e2,q1,q2⟩
    ·rw [e2]
     refine ⟨true,room - 1 - (j.Items.map (a9s d)).sum,by simp,?_,?_,?_⟩
     ·have:=c5b (a9s d) (b8o d) j.Items; omega
     ·simp only [true_iff,OkD,a9s]; exact ⟨⟨hp.1 rfl,q1⟩,by omega⟩
     ·intro _; simp only [a9s]; omega
    ·rw [e2]
     refine ⟨false,r',by simp,by omega,?_,by simp⟩
     simp only [Bool.false_eq_true,false_iff,OkD,a9s]
     rintro ⟨⟨_,f1⟩,f2⟩
     exact q2 ⟨f1,by omega⟩
theorem f2y (ks:List Str) (hl:ks.length ≤ maxLen) (i:Nat) (hi:i < ks.length):((idx ks (i:Int)).bind fun x => (a7e x).bind fun r => if (!r) then some true else if (decide ((i:Int) > 0)) then (idx ks (w64 ((i:Int) - 1))).bind fun y => (idx ks (i:Int)).bind fun z => some (!Op.bytesLess y z) else some false) = some (!keyAt ks i):=by
 obtain ⟨x,hx⟩:∃ x,ks[i]? = some x:=⟨ks[i],List.getElem?_eq_getElem hi⟩
 simp only [maxLen] at hl
 rw [b3w,hx,Option.bind_some,d8g,Option.bind_some]
 unfold keyAt
 rw [hx]
 by_cases ht:b9v x = true
 ·simp only [ht]
  by_cases h0:i = 0
  ·subst h0; simp
  ·obtain ⟨y,hy⟩:∃ y,ks[i - 1]? = some y:=⟨ks[i - 1],List.getElem?_eq_getElem (by omega)⟩
   have e1:(i:Int) - 1 = ((i - 1:Nat):Int):=by omega
   rw [a3m (by omega),e1,b3w,hy,if_neg (by simp),if_pos (by simp; omega)]
   simp [h0]
 ·simp only [Bool.not_eq_true] at ht
  simp [ht]
theorem d6p (j:o9) (rec:o9 → Int → Option (Int × Bool)) (d:Nat) (deep:Int) (hkl:j.Kind = 5 → j.Keys.length = j.Items.length) (hl:j.Keys.length ≤ maxLen):∀ (xs:List o9) (n:Int) (i:Nat),j.Items.drop i = xs → 0 ≤ n → n ≤ 400 →
  (∀ y ∈ xs,∃ m b,rec y (w64 (deep - 1)) = some (m,b) ∧ (b = true ↔ OkD d y ∧ a9s d y ≤ 400) ∧ (b = true → m = a9s d y)) →
  (a4b j rec deep xs n i = some (.go (n + (xs.map (a9s d)).sum)) ∧ (∀ y ∈ xs,OkD d y) ∧ n + (xs.map (a9s d)).sum ≤ 400 ∧ (j.Kind = 5 → ∀ q,i ≤ q → q < j.Keys.length → keyAt j.Keys q = true)) ∨
  (a4b j rec deep xs n i = some (.ret (0,false)) ∧ ¬ ((∀ y ∈ xs,OkD d y) ∧ n + (xs.map (a9s d)).sum ≤ 400 ∧ (j.Kind = 5 → ∀ q,i ≤ q → q < j.Keys.length → keyAt j.Keys q = true)))
 | [],n,i,h,h0,h1,hr => by
  refine .inl ⟨by rw [a4b]; simp,by simp,by simpa using h1,fun h5 q a b => ?_⟩
  have:=List.drop_eq_nil_iff.1 h
  have:=hkl h5
  omega
 | x :: xs,n,i,h,h0,h1,hr => by
  have hi:=c7k h
  rw [a4b]
  have hs:=c5b (a9s d) (b8o d) xs
  have hx:=b8o d x
  have key:((if (j.Kind == 5) then
  (idx j.Keys (i:Int)).bind fun x_219 =>
  (a7e x_219).bind fun r_221 =>
  if (!r_221) then
  some true
  else
  if (decide ((i:Int) > 0)) then
  (idx j.Keys (w64 ((i:Int) - 1))).bind fun x_225 =>
  (idx j.Keys (i:Int)).bind fun x_227 =>
  some (!Op.bytesLess x_225 x_227)
  else
  some false
  else
  some false:Option Bool)) = some (decide (j.Kind = 5) && !keyAt j.Keys i):=by
   by_cases h5:j.Kind = 5
   ·rw [if_pos (by simp [h5]),f2y j.Keys hl i (by have:=hkl h5; omega)]
    simp [h5]
   ·rw [if_neg (by simp [h5])]; simp [h5]
  rw [key,Option.bind_some]
  by_cases hk:(decide (j.Kind = 5) && !keyAt j.Keys i) = true
  ·rw [if_pos hk]
   refine .inr ⟨rfl,fun ⟨_,_,f⟩ => ?_⟩
   simp only [Bool.and_eq_true,decide_eq_true_eq,Bool.not_eq_true'] at hk
   have:=f hk.1 i (Nat.le_refl _) (by have:=hkl hk.1; omega)
   rw [this] at hk
   cases hk.2
  ·rw [if_neg hk]
   obtain ⟨m,b,e,g1,g2⟩:=hr x (by simp)
   rw [e,Option.bind_some]
   cases b with
   | false =>
    simp only [Bool.not_false,if_pos,Option.bind_some]
    refine .inr ⟨trivial,fun ⟨f1,f2,_⟩ => ?_⟩
    simp only [List.map_cons,List.sum_cons] at f2
    have:=g1.2 ⟨f1 x (by simp),by omega⟩
    cases this
   | true =>
    have hm:=g2 rfl
    obtain ⟨k1,k2⟩:=g1.1 rfl
    simp only
    rw [if_neg (by simp),Option.bind_some,a3m (by omega)]
    by_cases hc:n + m > 400
    ·rw [if_pos (by simpa using hc)]
     refine .inr ⟨rfl,fun ⟨f1,f2,_⟩ => ?_⟩
     simp only [List.map_cons,List.sum_cons] at f2
     omega
    ·rw [if_neg (by simpa using hc)]
     have hkey:j.Kind = 5 → keyAt j.Keys i = true:=by
      intro h5
      simp only [h5,decide_true,Bool.true_and,Bool.not_eq_true',Bool.not_eq_false] at hk
      exact hk
     rcases d6p j rec d deep hkl hl xs (n + m) (i + 1) (b0h h) (by omega) (by omega) (fun y hy => hr y (by simp [hy])) with ⟨e2,q1,q2,q3⟩ | ⟨e2,q⟩
     ·refine .inl ⟨?_,?_,?_,?_⟩
      ·rw [e2]; simp only [List.map_cons,List.sum_cons]; congr 2; omega
      ·intro y hy
       rcases List.mem_cons.1 hy with rfl | hy
       ·exact k1
       ·exact q1 y hy
      ·simp only [List.map_cons,List.sum_cons]; omega
      ·intro h5 q a b
       by_cases hq:q = i
       ·rw [hq]; exact hkey h5
       ·exact q3 h5 q (by omega) b
     ·refine .inr ⟨e2,fun ⟨f1,f2,f3⟩ => q ⟨fun y hy => f1 y (by simp [hy]),?_,fun h5 q a b => f3 h5 q (by omega) b⟩⟩
      simp only [List.map_cons,List.sum_cons] at f2
      omega
theorem d6q {d:Nat} {j:o9} (h:j.Items = []):a9s (d + 1) j = 1:=by simp [a9s,h]
theorem d9v:∀ (k d:Nat) (j:o9),d < k → d ≤ 12 → a5o j → ∃ n b,a8e k j d = some (n,b) ∧ (b = true ↔ OkD d j ∧ a9s d j ≤ 400) ∧ (b = true → n = a9s d j)
 | 0,d,j,hk,_,_ => by omega
 | k + 1,0,j,hk,hd,ok => by
  rw [a8e]
  unfold b2v
  rw [if_pos (by simp)]
  exact ⟨0,false,rfl,by simp [OkD],by simp⟩
 | k + 1,d + 1,j,hk,hd,ok => by
  obtain ⟨o1,o2,o3,o4⟩:=ok.parts
  rw [a8e]
  unfold b2v
  rw [if_neg (by simp; omega)]
  have hdeep:w64 (((d + 1:Nat):Int) - 1) = (d:Int):=by rw [a3m (by omega)]; omega
  have leaf:∀ c:Bool,(c = true ↔ b3k j) → (b3k j → j.Items = []) → ∃ n b,some ((1:Int),c) = some (n,b) ∧ (b = true ↔ OkD (d + 1) j ∧ a9s (d + 1) j ≤ 400) ∧ (b = true → n = a9s (d + 1) j):=by
   intro c hc hi
   refine ⟨1,c,rfl,?_,fun h => (d6q (hi (hc.1 h))).symm⟩
   rw [hc]
   constructor
   ·intro h
    refine ⟨⟨h,by simp [hi h]⟩,?_⟩
    rw [d6q (hi h)]; omega
   ·rintro ⟨⟨h,_⟩,_⟩; exact h
  have plainE:((if ((j.Keys.length:Int) == 0) then some ((j.Items.length:Int) == 0) else some false:Option Bool)) = some (decide (j.Keys = [] ∧ j.Items = [])):=by
   by_cases h1:j.Keys = [] <;> by_cases h2:j.Items = [] <;> simp [h1,h2]
  rw [plainE,Option.bind_some]
  by_cases k0:j.Kind = 0
  ·rw [if_pos (by simp [k0])]
   have:=leaf (decide (j.Keys = [] ∧ j.Items = []) && decide (j.N = 0) && decide (j.T = [])) (by simp [b3k,k0]; grind) (by simp [b3k,k0])
   by_cases h1:(j.Keys = [] ∧ j.Items = []) <;> by_cases h2:j.N = 0 <;> by_cases h3:j.T = [] <;> simpa [h1,h2,h3] using this
  rw [if_neg (by simp [k0])]
  by_cases k1:j.Kind = 1
  ·rw [if_pos (by simp [k1])]
   simp only [e0v,Option.bind_some]
   have:=leaf (decide (j.Keys = [] ∧ j.Items = []) && decide (0 ≤ j.N ∧ j.N ≤ 1) && decide (j.T = [])) (by simp [b3k,k1]; grind) (by simp [b3k,k1])
   by_cases h1:(j.Keys = [] ∧ j.Items = []) <;> by_cases h2:(0 ≤ j.N ∧ j.N ≤ 1) <;> by_cases h3:j.T = [] <;> simpa [h1,h2,h3] using this
  rw [if_neg (by simp [k1])]
  by_cases k2:j.Kind = 2
  ·rw [if_pos (by simp [k2])]
   simp only [e0v,Option.bind_some]
   have:=leaf (decide (j.Keys = [] ∧ j.Items = []) && decide (-1000000000 ≤ j.N ∧ j.N ≤ 1000000000) && decide (j.T = [])) (by simp [b3k,k2]; grind) (by simp [b3k,k2])
   by_cases h1:(j.Keys = [] ∧ j.Items = []) <;> by_cases h2:(-1000000000 ≤ j.N ∧ j.N ≤ 1000000000) <;> by_cases h3:j.T = [] <;> simpa [h1,h2,h3] using this
  rw [if_neg (by simp [k2])]
  by_cases k3:j.Kind = 3
  ·rw [if_pos (by simp [k3])]
   simp only [d8g,Option.bind_some]
   have:=leaf (decide (j.Keys = [] ∧ j.Items = []) && decide (j.N = 0) && b9v j.T) (by simp [b3k,k3]; grind) (by simp [b3k,k3])
   by_cases h1:(j.Keys = [] ∧ j.Items = []) <;> by_cases h2:j.N = 0 <;> simpa [h1,h2] using this
  rw [if_neg (by simp [k3])]
  by_cases hn:(j.Kind = 4 ∧ j.N = 0 ∧ j.T = [] ∧ j.Keys = []) ∨ (j.Kind = 5 ∧ j.N = 0 ∧ j.T = [] ∧ j.Keys.length = j.Items.length)
  ·have hnode:b3k j ↔ (j.Kind = 5 → ∀ q,q < j.Keys.length → keyAt j.Keys q = true):=by
    rcases hn with ⟨a1,a2,a3,a4⟩ | ⟨a1,a2,a3,a4⟩
    ·simp [b3k,a1,a2,a3,a4]
    ·simp [b3k,a1,a2,a3,a4]
   have hkl:j.Kind = 5 → j.Keys.length = j.Items.length:=by
    intro h5
    rcases hn with ⟨a1,_⟩ | ⟨_,_,_,a4⟩
    ·omega
    ·exact a4
   have hloop:=d6p j (a8e k) d ((d + 1:Nat):Int) hkl o2.1 j.Items 1 0 (by simp) (by omega) (by omega) (fun y hy => by
    rw [hdeep]
    exact d9v k d y (by omega) (by omega) (o4 y hy))
   have hc:(bif (bif (bif (bif (bif (j.Kind != 4) then (j.Kind != 5) else false) then true else (j.N != 0)) then true else (!(j.T == []))) then true else (bif (j.Kind == 4) then (decide ((j.Keys.length:Int) > 0)) else false)) then true else (bif (j.Kind == 5) then ((j.Keys.length:Int) != (j.Items.length:Int)) else false)) = false:=by
    rcases hn with ⟨a1,a2,a3,a4⟩ | ⟨a1,a2,a3,a4⟩
    ·simp [a1,a2,a3,a4]
    ·simp [a1,a2,a3,a4]
   simp only [hc,Option.bind_some,Bool.false_eq_true,if_false]
   rcases hloop with ⟨e2,q1,q2,q3⟩ | ⟨e2,q⟩
   ·rw [e2]
    refine ⟨_,true,rfl,?_,fun _ => by simp only [a9s]⟩
    simp only [true_iff,OkD,a9s]
    exact ⟨⟨hnode.2 fun h5 q hq => q3 h5 q (by omega) hq,q1⟩,q2⟩
   ·rw [e2]
    refine ⟨0,false,rfl,?_,by simp⟩
    simp only [Bool.false_eq_true,false_iff,OkD,a9s]
    rintro ⟨⟨f1,f2⟩,f3⟩
    exact q ⟨f2,f3,fun h5 q _ hq => hnode.1 f1 h5 q hq⟩
  ·have hnn:¬ b3k j:=by
    intro h
    apply hn
    unfold b3k at h
    rcases h with h | h | h | h | h | h
    ·exact absurd h.1 k0
    ·exact absurd h.1 k1
    ·exact absurd h.1 k2
    ·exact absurd h.1 k3
    ·exact .inl h
    ·exact .inr ⟨h.1,h.2.1,h.2.2.1,h.2.2.2.1⟩
   refine ⟨0,false,?_,by simp [OkD,hnn],by simp⟩
   by_cases k4:j.Kind = 4
   ·simp only [k4]
    by_cases h1:j.N = 0 <;> by_cases h2:j.T = [] <;> by_cases h3:j.Keys = [] <;> simp [h1,h2,h3,List.length_pos_iff] <;> simp_all
   ·by_cases k5:j.Kind = 5
    ·simp only [k5]
     by_cases h1:j.N = 0 <;> by_cases h2:j.T = [] <;> by_cases h3:j.Keys.length = j.Items.length <;> simp [h1,h2,h3] <;> first | (intro h; omega) | simp_all
    ·simp [k4,k5]
theorem e5z:2 ^ 40 < FUEL:=by unfold FUEL; decide
theorem d1b (j:o9) (ok:a5o j):∃ b,b4q j = some b ∧ b4o j = some b ∧ (b = true ↔ OkD 12 j ∧ a9s 12 j ≤ 400):=by
 have hf:=e5z
 obtain ⟨b,room',e1,_,h1,_⟩:=d2o FUEL 12 j 400 (by omega) (by omega) (by omega) (by omega) ok
 obtain ⟨n,b',e2,h2,_⟩:=d9v FUEL 12 j (by omega) (by omega) ok
 have hb:b = b':=by rw [Bool.eq_iff_iff,h1,h2]
 refine ⟨b,?_,?_,h1⟩
 ·unfold b4q
  have:(12:Int) - ((12:Nat):Int) = 0:=by decide
  rw [this] at e1
  rw [e1,Option.bind_some]
 ·unfold b4o
  have e2':a8e FUEL j 12 = some (n,b'):=e2
  rw [e2',Option.bind_some,hb]
theorem c6d (rec:o9 → Option o9):∀ (xs out:List o9),(∀ x ∈ xs,rec x = some x) → out.length + xs.length ≤ 2 ^ 30 → a4m rec xs out = some (out ++ xs)
 | [],out,_,_ => by rw [a4m]; simp
 | x :: xs,out,hr,h => by
  simp only [List.length_cons] at h
  rw [a4m,hr x (by simp),Option.bind_some,if_pos (by simp; omega),c6d rec xs _ (fun y hy => hr y (by simp [hy])) (by simp; omega)]
  simp
theorem c9t:∀ (k:Nat) (j:o9),a4a j < k → a4a j ≤ 2 ^ 30 → a8b k j = some j
 | 0,j,h,_ => by omega
 | k + 1,j,h,h2 => by
  rw [d2d] at h h2
  have hl:=b6r j.Items
  have hk:j.Keys.length ≤ a2i j.Keys:=by unfold a2i; omega
  rw [a8b]
  unfold b3z
  rw [if_pos (by simp; omega),Option.bind_some,c6d (a8b k) j.Items [] (fun y hy => by have:=b4u hy; exact c9t k y (by omega) (by omega)) (by simp; omega)]
  cases j
  simp
theorem e4j (j:o9) (h:a4a j ≤ 2 ^ 30):a8b FUEL j = some j:=c9t FUEL j (fuel_lt (by omega)) h
theorem c2d (a:a0k):∃ j,a4x a = some j ∧ a4a j ≤ a.T.length + 20:=by
 unfold a4x
 by_cases k1:(a.Kind == 1) = true
 ·rw [if_pos k1]
  exact ⟨_,rfl,by simp [a4a,a2i,a3d,a2q]⟩
 rw [if_neg k1]
 by_cases k2:(a.Kind == 2) = true
 ·rw [if_pos k2]
  exact ⟨_,rfl,by simp [a4a,a2i,a3d,a2q]⟩
 rw [if_neg k2]
 by_cases k3:(a.Kind == 3) = true
 ·rw [if_pos k3]
  unfold b2f
  split
  ·exact ⟨_,rfl,by simp [a4a,a2i,a3d,a2q]⟩
  ·exact ⟨_,rfl,by simp [a4a,a2i,a3d,a2q]⟩
 rw [if_neg k3]
 refine ⟨_,rfl,?_⟩
 simp [a4a,a2i,a3d,a2q]
theorem d2p (a:a0k):b0i a = a4x a:=by
 unfold b0i a4x
 have h:∀ b,c0h b = b2f b:=fun b => by cases b <;> rfl
 have h2:∀ x y:o9,a8a [x,y] = a7p [x,y]:=fun x y => by
  unfold a8a a7p
  rw [if_pos (by simp)]
  rfl
 simp only [h,h2]
 rfl
theorem c5c:∀ (xs:List a0k) (out:List o9),out.length + xs.length ≤ 2 ^ 30 → ∃ js,a2h xs out = some (out ++ js) ∧ a4l xs out = some (out ++ js) ∧ js.length = xs.length ∧ a2q js ≤ b3h xs + 21 * xs.length
 | [],out,_ => ⟨[],by rw [a2h]; simp,by rw [a4l]; simp,rfl,by simp [a2q]⟩
 | x :: xs,out,h => by
  simp only [List.length_cons] at h
  obtain ⟨j,e,hj⟩:=c2d x
  obtain ⟨js,e1,e2,e3,e4⟩:=c5c xs (out ++ [j]) (by simp; omega)
  refine ⟨j :: js,?_,?_,by simp [e3],?_⟩
  ·rw [a2h,e,Option.bind_some,if_pos (by simp; omega),e1]; simp
  ·rw [a4l,d2p,e,Option.bind_some,if_pos (by simp; omega),e2]; simp
  ·simp only [a2q,b3h,b6z,List.length_cons]; omega
theorem e6z (d:List a0k) (h:a5p d ≤ 2 ^ 20):∃ j,a5y d = some j ∧ a9g d = some j ∧ a4a j ≤ 2 ^ 25:=by
 unfold a5p at h
 unfold a5y a9g
 obtain ⟨js,e1,e2,e3,e4⟩:=c5c d [] (by simp; omega)
 rw [e1]
 simp only [Option.bind_some,List.nil_append,e3]
 by_cases h1:d.length = 1
 ·have h1':((d.length:Int) == 1) = true:=by simp [h1]
  rw [if_pos h1',if_pos h1']
  obtain ⟨x,rfl⟩:∃ x,d = [x]:=by
   match d,h1 with
   | [x],_ => exact ⟨x,rfl⟩
  rw [a2h] at e1
  obtain ⟨j,e,hj⟩:=c2d x
  rw [e,Option.bind_some,if_pos (by simp),a2h] at e1
  simp only [List.nil_append,Option.some.injEq] at e1
  subst e1
  refine ⟨j,by simp,?_,?_⟩
  ·simp [idx,d2p,e]
  ·simp only [b3h,b6z,List.length_cons] at h; omega
 ·have h1':((d.length:Int) == 1) = false:=by simp; omega
  rw [if_neg (by simp [h1']),if_neg (by simp [h1'])]
  refine ⟨⟨4,0,[],[],[⟨3,0,[115,101,116],[],[]⟩,⟨4,0,[],[],js⟩]⟩,rfl,?_,?_⟩
  ·have q1:b2u = some ⟨4,0,[],[],[]⟩:=by unfold b2u; simp
   have q2:a9e [115,101,116] = some ⟨3,0,[115,101,116],[],[]⟩:=rfl
   have q3:∀ x y:o9,a8a [x,y] = some ⟨4,0,[],[],[x,y]⟩:=fun x y => by unfold a8a; simp
   rw [q1,Option.bind_some,e2,Option.bind_some,q2,Option.bind_some,q3]
   rfl
  ·simp only [a4a,a2q,a2i,a3d,List.length_cons,List.length_nil]; omega
def b1u {α:Type}:List (Str × α) → Str → α → List (Str × α)
 | [],k,v => [(k,v)]
 | (k',v') :: r,k,v => if b1t k' k < 0 then (k',v') :: b1u r k v else if k' = k then (k,v) :: r else (k,v) :: (k',v') :: r
theorem c9u {α:Type} (k:Str) (v:α):∀ kv:List (Str × α),(b1u kv k v).length ≤ kv.length + 1
 | [] => by simp [b1u]
 | (k',v') :: r => by
  have:=c9u k v r
  unfold b1u
  split
  ·simp only [List.length_cons]; omega
  ·split <;> simp
theorem d2q {α:Type} (k:Str) (v:α) (q:Str):∀ kv:List (Str × α),a6l (b1u kv k v) q = if k = q then some v else a6l kv q
 | [] => by simp [b1u,a6l]
 | (k',v') :: r => by
  unfold b1u
  split
  ·rename_i h
   simp only [a6l]
   rw [d2q k v q r]
   by_cases e1:k' = q
   ·by_cases e2:k = q
    ·subst e1; subst e2; exact absurd h (b4v _)
    ·simp [e1,e2]
   ·simp [e1]
  ·split
   ·rename_i e; subst e
    simp only [a6l]
    by_cases e2:k' = q <;> simp [e2]
   ·simp only [a6l]
theorem c9v {α:Type} (k:Str) (v:α) (q:Str):∀ kv:List (Str × α),q ∈ (b1u kv k v).map Prod.fst ↔ q = k ∨ q ∈ kv.map Prod.fst
 | [] => by simp [b1u]
 | (k',v') :: r => by
  unfold b1u
  split
  ·simp only [List.map_cons,List.mem_cons,c9v k v q r]
   constructor
   ·rintro (h | h | h)
    ·exact .inr (.inl h)
    ·exact .inl h
    ·exact .inr (.inr h)
   ·rintro (h | h | h)
    ·exact .inr (.inl h)
    ·exact .inl h
    ·exact .inr (.inr h)
  ·split
   ·rename_i e; subst e
    simp only [List.map_cons,List.mem_cons]
    constructor
    ·rintro (h | h)
     ·exact .inl h
     ·exact .inr (.inr h)
    ·rintro (h | h | h)
     ·exact .inl h
     ·exact .inl h
     ·exact .inr h
   ·simp only [List.map_cons,List.mem_cons]
theorem c6e {α:Type} (k:Str) (v:α):∀ kv:List (Str × α),a9l (kv.map Prod.fst) → a9l ((b1u kv k v).map Prod.fst)
 | [],_ => List.pairwise_singleton _ _
 | (k',v') :: r,h => by
  have h0:=h
  obtain ⟨h1,h2⟩:=List.pairwise_cons.1 h
  unfold b1u
  split
  ·rename_i c
   refine List.pairwise_cons.2 ⟨fun q hq => ?_,c6e k v r h2⟩
   rcases (c9v k v q r).1 hq with rfl | hq
   ·exact c
   ·exact h1 q hq
  ·rename_i c
   split
   ·rename_i e; subst e; exact h0
   ·rename_i e
    have hk:b1t k k' < 0:=by
     have a1:=d2j k' k
     have a2:b1t k' k ≠ 0:=fun z => e ((b5s _ _).1 z)
     omega
    refine List.pairwise_cons.2 ⟨fun q hq => ?_,h0⟩
    rcases List.mem_cons.1 hq with rfl | hq
    ·exact hk
    ·exact b8n hk (h1 q hq)
def b7u {α:Type} (kv l:List (Str × α)):List (Str × α):=l.foldl (fun kv p => b1u kv p.1 p.2) kv
def d4h {α:Type} (m l:List (Str × α)):List (Str × α):=l.foldl (fun m p => b4z m p.1 p.2) m
theorem c5d {α:Type} (k:Str) (v:α) (q:Str):∀ m:List (Str × α),a6l (b4z m k v) q = if k = q then some v else a6l m q
 | [] => by simp [b4z,a6l]
 | (k',v') :: r => by
  unfold b4z
  split
  ·rename_i e; subst e
   simp only [a6l]
   by_cases e2:k' = q <;> simp [e2]
  ·rename_i h
   simp only [a6l]
   rw [c5d k v q r]
   by_cases e1:k' = q
   ·by_cases e2:k = q
    ·subst e1; subst e2; exact absurd rfl h
    ·simp [e1,e2]
   ·simp [e1]
theorem c9w {α:Type} (q:Str):∀ (l kv:List (Str × α)),q ∈ (b7u kv l).map Prod.fst ↔ q ∈ l.map Prod.fst ∨ q ∈ kv.map Prod.fst
 | [],kv => by simp [b7u]
 | p :: l,kv => by
  have:=c9w q l (b1u kv p.1 p.2)
  simp only [b7u,List.foldl_cons] at this ⊢
  rw [this,c9v]
  simp only [List.map_cons,List.mem_cons]
  constructor
  ·rintro (h | h | h)
   ·exact .inl (.inr h)
   ·exact .inl (.inl h)
   ·exact .inr h
  ·rintro ((h | h) | h)
   ·exact .inr (.inl h)
   ·exact .inl h
   ·exact .inr (.inr h)
theorem b9w {α:Type}:∀ (l kv:List (Str × α)),a9l (kv.map Prod.fst) → a9l ((b7u kv l).map Prod.fst)
 | [],kv,h => h
 | p :: l,kv,h => by
  have:=b9w l (b1u kv p.1 p.2) (c6e _ _ _ h)
  simpa only [b7u,List.foldl_cons] using this
theorem d2r {α β:Type} (f:α → β):∀ (l m:List (Str × α)) (kv:List (Str × β)),(∀ q,a6l kv q = (a6l m q).map f) → ∀ q,a6l (b7u kv (l.map fun p => (p.1,f p.2))) q = (a6l (d4h m l) q).map f
 | [],m,kv,h,q => h q
 | p :: l,m,kv,h,q => by
  have:=d2r f l (b4z m p.1 p.2) (b1u kv p.1 (f p.2)) (fun q => by
   rw [d2q,c5d]
   by_cases e:p.1 = q
   ·simp [e]
   ·simp [e,h q]) q
  simpa only [b7u,d4h,List.map_cons,List.foldl_cons] using this
theorem d6r {α:Type} (q:Str) (d:α):∀ (l m:List (Str × α)),a6l (d4h m l) q = some d → d ∈ l.map Prod.snd ∨ a6l m q = some d
 | [],m,h => .inr h
 | p :: l,m,h => by
  have h':a6l (d4h (b4z m p.1 p.2) l) q = some d:=by simpa only [d4h,List.foldl_cons] using h
  rcases d6r q d l _ h' with h1 | h1
  ·exact .inl (by simp only [List.map_cons,List.mem_cons]; exact .inr h1)
  ·rw [c5d] at h1
   by_cases e:p.1 = q
   ·rw [if_pos e] at h1; cases h1
    exact .inl (by simp)
   ·rw [if_neg e] at h1; exact .inr h1
theorem c6f {α:Type}:∀ (kv:List (Str × α)),a9l (kv.map Prod.fst) → ∀ p ∈ kv,a6l kv p.1 = some p.2
 | [],_,p,hp => by simp at hp
 | (k,v) :: r,h,p,hp => by
  obtain ⟨h1,h2⟩:=List.pairwise_cons.1 h
  rcases List.mem_cons.1 hp with rfl | hp
  ·simp [a6l]
  ·have hne:¬ k = p.1:=fun e => b4v k (by
    have:=h1 p.1 (List.mem_map.2 ⟨p,hp,rfl⟩)
    rwa [← e] at this)
   simp only [a6l,hne,if_false]
   exact c6f r h2 p hp
/-! the reference's order of keys -/
theorem e4k (x:Str):∀ (suf pre:List Str) (f:Nat),suf.length < f → (pre ++ suf).length ≤ 2 ^ 20 → a6t (pre ++ suf) x f ((pre.length:Nat):Int) = some (((pre.length + (suf.takeWhile fun y => Op.bytesLess y x).length:Nat)):Int)
 | _,_,0,h,_ => by omega
 | [],pre,f + 1,_,_ => by
  rw [a6t,if_neg (by simp)]
  simp
 | y :: suf,pre,f + 1,h,hl => by
  simp only [List.length_append,List.length_cons] at h hl
  have e1:decide (((pre.length:Nat):Int) < ((pre ++ y :: suf).length:Int)) = true:=decide_eq_true (by simp; omega)
  have b1:0 ≤ ((pre.length:Nat):Int) ∧ ((pre.length:Nat):Int) < ((pre ++ y :: suf).length:Int):=by simp; omega
  have g1:(pre ++ y :: suf)[0 + ((pre.length:Nat):Int).toNat]? = some y:=by
   have:=b8m pre suf y
   simpa using this
  rw [a6t,if_pos e1,if_pos b1,g1,Option.bind_some,Option.bind_some]
  cases hb:Op.bytesLess y x with
  | false => simp [hb]
  | true =>
   have e2:w64 (((pre.length:Nat):Int) + 1) = (((pre ++ [y]).length:Nat):Int):=by rw [a3m (by omega)]; simp
   have e3:pre ++ y :: suf = (pre ++ [y]) ++ suf:=by simp
   rw [if_pos rfl,e2,e3,e4k x suf (pre ++ [y]) f (by omega) (by simp; omega),List.takeWhile_cons,hb]
   simp; omega
def a4z {α:Type} (kv:List (Str × α)) (x:Str):Nat:=((kv.map Prod.fst).takeWhile fun y => Op.bytesLess y x).length
theorem e6a {α:Type} (kv:List (Str × α)) (x:Str):a4z kv x ≤ kv.length:=by
 unfold a4z
 have:=List.Sublist.length_le (List.takeWhile_sublist (fun y => Op.bytesLess y x) (l:=kv.map Prod.fst))
 simpa using this
theorem d2s {α:Type} (k:Str) (v:α) (r:List (Str × α)) (x:Str):a4z ((k,v) :: r) x = if b1t k x < 0 then a4z r x + 1 else 0:=by
 unfold a4z
 rw [List.map_cons,List.takeWhile_cons]
 simp only [d2k]
 by_cases c:b1t k x < 0
 ·simp [c]
 ·simp [c]
theorem d6s {α:Type} (x:Str) (v:α):∀ kv:List (Str × α),(kv.map Prod.fst)[a4z kv x]? = some x → b1u kv x v = kv.set (a4z kv x) (x,v)
 | [],h => by simp at h
 | (k,w) :: r,h => by
  rw [d2s] at h ⊢
  unfold b1u
  by_cases c:b1t k x < 0
  ·rw [if_pos c] at h ⊢
   rw [if_pos c,List.set_cons_succ,d6s x v r (by simpa using h)]
  ·rw [if_neg c] at h ⊢
   have:k = x:=by simpa using h
   rw [if_neg c,if_pos this,List.set_cons_zero]
theorem c5e {α:Type} (x:Str) (v:α):∀ kv:List (Str × α),¬ (kv.map Prod.fst)[a4z kv x]? = some x → b1u kv x v = kv.take (a4z kv x) ++ (x,v) :: kv.drop (a4z kv x)
 | [],h => by simp [b1u,a4z]
 | (k,w) :: r,h => by
  rw [d2s] at h ⊢
  unfold b1u
  by_cases c:b1t k x < 0
  ·rw [if_pos c] at h ⊢
   rw [if_pos c,c5e x v r (by simpa using h)]
   simp
  ·rw [if_neg c] at h ⊢
   have:¬ k = x:=by simpa using h
   rw [if_neg c,if_neg this]
   simp
theorem e4l (items:List o9):∀ (xs:List Str) (i:Nat) (kv:List (Str × o9)),i + xs.length = items.length → kv.length + xs.length ≤ 2 ^ 19 → a6u items xs i (kv.map Prod.fst) (kv.map Prod.snd) = some ((b7u kv (xs.zip (items.drop i))).map Prod.fst,(b7u kv (xs.zip (items.drop i))).map Prod.snd)
 | [],i,kv,_,_ => by rw [a6u]; simp [b7u]
 | x :: xs,i,kv,hi,hl => by
  simp only [List.length_cons] at hi hl
  obtain ⟨v,hv⟩:∃ v,items[i]? = some v:=⟨_,List.getElem?_eq_getElem (by omega)⟩
  obtain ⟨_,hv'⟩:=List.getElem?_eq_some_iff.1 hv
  have ed:items.drop i = v :: items.drop (i + 1):=by rw [List.drop_eq_getElem_cons (by omega),hv']
  have hix:idx items (i:Int) = some v:=by rw [b3w,hv]
  have e0:=e4k x (kv.map Prod.fst) [] FUEL (by have:=c3v; simp; omega) (by simp; omega)
  simp only [List.nil_append,List.length_nil,Nat.zero_add] at e0
  have e0:a6t (kv.map Prod.fst) x FUEL 0 = some ((a4z kv x:Nat):Int):=e0
  have hp:=e6a kv x
  have hkl:=c9u x v kv
  have ih:=e4l items xs (i + 1) (b1u kv x v) (by omega) (by omega)
  have ek:b7u kv ((x :: xs).zip (items.drop i)) = b7u (b1u kv x v) (xs.zip (items.drop (i + 1))):=by rw [ed]; rfl
  rw [ek,a6u,e0,Option.bind_some]
  have l1:(kv.map Prod.fst).length = kv.length:=by simp
  have l2:(kv.map Prod.snd).length = kv.length:=by simp
  by_cases hlt:a4z kv x < kv.length
  ·have d1:decide (((a4z kv x:Nat):Int) < ((kv.map Prod.fst).length:Int)) = true:=decide_eq_true (by rw [l1]; omega)
   obtain ⟨y,hy⟩:∃ y,(kv.map Prod.fst)[a4z kv x]? = some y:=⟨_,List.getElem?_eq_getElem (by rw [l1]; exact hlt)⟩
   have hy0:(kv.map Prod.fst)[0 + ((a4z kv x:Nat):Int).toNat]? = some y:=by simpa using hy
   obtain ⟨z,hz⟩:∃ z,(kv.map Prod.snd)[0 + ((a4z kv x:Nat):Int).toNat]? = some z:=⟨_,List.getElem?_eq_getElem (by rw [l2]; simpa using hlt)⟩
   rw [if_pos d1,if_pos (by rw [l1]; omega),hy0,Option.bind_some,Option.bind_some]
   by_cases e:y = x
   ·subst e
    have hs:=d6s y v kv hy
    rw [if_pos (by simp),hix,Option.bind_some,if_pos (by rw [l2]; omega),hz,Option.bind_some]
    have m1:(b1u kv y v).map Prod.fst = kv.map Prod.fst:=by
     rw [hs,List.map_set]
     apply List.ext_getElem?
     intro j
     rw [List.getElem?_set]
     by_cases q:a4z kv y = j
     ·subst q; rw [if_pos rfl,if_pos (by rw [l1]; exact hlt),hy]
     ·simp [q]
    have m2:(b1u kv y v).map Prod.snd = (kv.map Prod.snd).set (0 + ((a4z kv y:Nat):Int).toNat) v:=by
     rw [hs,List.map_set]; simp
    rw [← m1,← m2]
    exact ih
   ·have hs:=c5e x v kv (by rw [hy]; simpa using e)
    rw [if_neg (by simpa using e)]
    have c1:(0:Int) ≤ ((a4z kv x:Nat):Int) ∧ ((a4z kv x:Nat):Int) ≤ ((kv.map Prod.fst).length:Int):=by rw [l1]; omega
    have c2:(0:Int) ≤ ((a4z kv x:Nat):Int) ∧ ((a4z kv x:Nat):Int) ≤ ((kv.map Prod.snd).length:Int):=by rw [l2]; omega
    have b1:([] ++ ((kv.map Prod.fst).take ((a4z kv x:Nat):Int).toNat)).length ≤ 2 ^ 30:=by simp; omega
    have b2:(([] ++ ((kv.map Prod.fst).take ((a4z kv x:Nat):Int).toNat)) ++ [x]).length ≤ 2 ^ 30:=by simp; omega
    have b3:((([] ++ ((kv.map Prod.fst).take ((a4z kv x:Nat):Int).toNat)) ++ [x]) ++ (((kv.map Prod.fst).drop ((a4z kv x:Nat):Int).toNat).take ((kv.map Prod.fst).length - ((a4z kv x:Nat):Int).toNat))).length ≤ 2 ^ 30:=by simp; omega
    have b4:([] ++ ((kv.map Prod.snd).take ((a4z kv x:Nat):Int).toNat)).length ≤ 2 ^ 30:=by simp; omega
    have b5:(([] ++ ((kv.map Prod.snd).take ((a4z kv x:Nat):Int).toNat)) ++ [v]).length ≤ 2 ^ 30:=by simp; omega
    have b6:((([] ++ ((kv.map Prod.snd).take ((a4z kv x:Nat):Int).toNat)) ++ [v]) ++ (((kv.map Prod.snd).drop ((a4z kv x:Nat):Int).toNat).take ((kv.map Prod.snd).length - ((a4z kv x:Nat):Int).toNat))).length ≤ 2 ^ 30:=by simp; omega
    rw [if_pos c1,if_pos c1,if_pos b1,if_pos b2,if_pos b3,Option.bind_some,if_pos c2,hix,Option.bind_some,if_pos c2,if_pos b4,if_pos b5,if_pos b6]
    have m1:((([] ++ ((kv.map Prod.fst).take ((a4z kv x:Nat):Int).toNat)) ++ [x]) ++ (((kv.map Prod.fst).drop ((a4z kv x:Nat):Int).toNat).take ((kv.map Prod.fst).length - ((a4z kv x:Nat):Int).toNat))) = (b1u kv x v).map Prod.fst:=by
     rw [hs,List.take_of_length_le (l:=(kv.map Prod.fst).drop ((a4z kv x:Nat):Int).toNat) (by simp)]; simp
    have m2:((([] ++ ((kv.map Prod.snd).take ((a4z kv x:Nat):Int).toNat)) ++ [v]) ++ (((kv.map Prod.snd).drop ((a4z kv x:Nat):Int).toNat).take ((kv.map Prod.snd).length - ((a4z kv x:Nat):Int).toNat))) = (b1u kv x v).map Prod.snd:=by
     rw [hs,List.take_of_length_le (l:=(kv.map Prod.snd).drop ((a4z kv x:Nat):Int).toNat) (by simp)]; simp
    rw [m1,m2]
    exact ih
  ·have hpe:a4z kv x = kv.length:=by omega
   have d1:decide (((a4z kv x:Nat):Int) < ((kv.map Prod.fst).length:Int)) = false:=decide_eq_false (by rw [l1]; omega)
   have hs:=c5e x v kv (by rw [List.getElem?_eq_none (by rw [l1]; omega)]; simp)
   rw [d1,if_neg (by simp),Option.bind_some,if_neg (by simp)]
   have c1:(0:Int) ≤ ((a4z kv x:Nat):Int) ∧ ((a4z kv x:Nat):Int) ≤ ((kv.map Prod.fst).length:Int):=by rw [l1]; omega
   have c2:(0:Int) ≤ ((a4z kv x:Nat):Int) ∧ ((a4z kv x:Nat):Int) ≤ ((kv.map Prod.snd).length:Int):=by rw [l2]; omega
   have b1:([] ++ ((kv.map Prod.fst).take ((a4z kv x:Nat):Int).toNat)).length ≤ 2 ^ 30:=by simp; omega
   have b2:(([] ++ ((kv.map Prod.fst).take ((a4z kv x:Nat):Int).toNat)) ++ [x]).length ≤ 2 ^ 30:=by simp; omega
   have b3:((([] ++ ((kv.map Prod.fst).take ((a4z kv x:Nat):Int).toNat)) ++ [x]) ++ (((kv.map Prod.fst).drop ((a4z kv x:Nat):Int).toNat).take ((kv.map Prod.fst).length - ((a4z kv x:Nat):Int).toNat))).length ≤ 2 ^ 30:=by simp; omega
   have b4:([] ++ ((kv.map Prod.snd).take ((a4z kv x:Nat):Int).toNat)).length ≤ 2 ^ 30:=by simp; omega
   have b5:(([] ++ ((kv.map Prod.snd).take ((a4z kv x:Nat):Int).toNat)) ++ [v]).length ≤ 2 ^ 30:=by simp; omega
   have b6:((([] ++ ((kv.map Prod.snd).take ((a4z kv x:Nat):Int).toNat)) ++ [v]) ++ (((kv.map Prod.snd).drop ((a4z kv x:Nat):Int).toNat).take ((kv.map Prod.snd).length - ((a4z kv x:Nat):Int).toNat))).length ≤ 2 ^ 30:=by simp; omega
   rw [if_pos c1,if_pos c1,if_pos b1,if_pos b2,if_pos b3,Option.bind_some,if_pos c2,hix,Option.bind_some,if_pos c2,if_pos b4,if_pos b5,if_pos b6]
   have m1:((([] ++ ((kv.map Prod.fst).take ((a4z kv x:Nat):Int).toNat)) ++ [x]) ++ (((kv.map Prod.fst).drop ((a4z kv x:Nat):Int).toNat).take ((kv.map Prod.fst).length - ((a4z kv x:Nat):Int).toNat))) = (b1u kv x v).map Prod.fst:=by
    rw [hs,List.take_of_length_le (l:=(kv.map Prod.fst).drop ((a4z kv x:Nat):Int).toNat) (by simp)]; simp
   have m2:((([] ++ ((kv.map Prod.snd).take ((a4z kv x:Nat):Int).toNat)) ++ [v]) ++ (((kv.map Prod.snd).drop ((a4z kv x:Nat):Int).toNat).take ((kv.map Prod.snd).length - ((a4z kv x:Nat):Int).toNat))) = (b1u kv x v).map Prod.snd:=by
    rw [hs,List.take_of_length_le (l:=(kv.map Prod.snd).drop ((a4z kv x:Nat):Int).toNat) (by simp)]; simp
   rw [m1,m2]
   exact ih
theorem p_O (keys:List Str) (items:List o9) (h:keys.length = items.length) (hl:keys.length ≤ 2 ^ 19):a9f keys items = some ⟨5,0,[],(b7u [] (keys.zip items)).map Prod.fst,(b7u [] (keys.zip items)).map Prod.snd⟩:=by
 unfold a9f
 have:=e4l items keys 0 [] (by omega) (by simpa using hl)
 simp only [List.map_nil,List.drop_zero] at this
 rw [this,Option.bind_some]
/-! a row -/
def dj (d:List a0k):o9:=(a5y d).getD ⟨0,0,[],[],[]⟩
theorem e7a (d:List a0k) (h:a5p d ≤ 2 ^ 20):a5y d = some (dj d) ∧ a9g d = some (dj d) ∧ a4a (dj d) ≤ 2 ^ 25:=by
 obtain ⟨j,e1,e2,e3⟩:=e6z d h
 have:dj d = j:=by unfold dj; rw [e1]; rfl
 rw [this]
 exact ⟨e1,e2,e3⟩
theorem d2t (r:a1u) (hw:∀ d ∈ r.Cells,a5p d ≤ 2 ^ 20):∀ (xs:List Str) (i:Nat) (out:List o9),i + xs.length = r.Cells.length → out.length + xs.length ≤ 2 ^ 20 → a5v r xs i out = some (out ++ (r.Cells.drop i).map dj)
 | [],i,out,hi,_ => by
  rw [a5v,List.drop_of_length_le (by simp only [List.length_nil] at hi; omega)]; simp
 | x :: xs,i,out,hi,hl => by
  simp only [List.length_cons] at hi hl
  obtain ⟨v,hv⟩:∃ v,r.Cells[i]? = some v:=⟨_,List.getElem?_eq_getElem (by omega)⟩
  obtain ⟨_,hv'⟩:=List.getElem?_eq_some_iff.1 hv
  have ed:r.Cells.drop i = v :: r.Cells.drop (i + 1):=by rw [List.drop_eq_getElem_cons (by omega),hv']
  rw [a5v,b3w,hv,Option.bind_some,(e7a v (hw v (List.mem_of_getElem? hv))).2.1,Option.bind_some,if_pos (by simp; omega),d2t r hw xs (i + 1) _ (by omega) (by simp; omega),ed]
  simp
theorem d2u (r:a1u):∀ (xs:List Str) (i:Nat) (m:List (Str × List a0k)),i + xs.length = r.Cells.length → a5i r xs i m = some (d4h m (xs.zip (r.Cells.drop i)))
 | [],i,m,hi => by rw [a5i]; simp [d4h]
 | x :: xs,i,m,hi => by
  simp only [List.length_cons] at hi
  obtain ⟨v,hv⟩:∃ v,r.Cells[i]? = some v:=⟨_,List.getElem?_eq_getElem (by omega)⟩
  obtain ⟨_,hv'⟩:=List.getElem?_eq_some_iff.1 hv
  have ed:r.Cells.drop i = v :: r.Cells.drop (i + 1):=by rw [List.drop_eq_getElem_cons (by omega),hv']
  rw [a5i,b3w,hv,Option.bind_some,d2u r xs (i + 1) _ (by omega),ed]
  rfl
theorem d2v (rr:List Str) (m:List (Str × List a0k)):∀ (kv:List (Str × o9)) (i:Nat) (out:List o9),(∀ p ∈ kv,∃ d,a6l m p.1 = some d ∧ a5y d = some p.2) → i + kv.length ≤ rr.length → out.length + kv.length ≤ 2 ^ 20 → a5j rr m (kv.map Prod.fst) i out = some (out ++ kv.map Prod.snd)
 | [],i,out,_,_,_ => by rw [List.map_nil,a5j]; simp
 | p :: kv,i,out,h,hi,hl => by
  simp only [List.length_cons] at hi hl
  obtain ⟨d,h1,h2⟩:=h p (by simp)
  rw [List.map_cons,a5j,if_pos (by omega),h1,Option.bind_some,h2,Option.bind_some,if_pos (by simp; omega),d2v rr m kv (i + 1) _ (fun q hq => h q (by simp [hq])) (by omega) (by simp; omega)]
  simp
def b0p (columns:List Str) (r:a1u):List (Str × o9):=b7u [] ((columns.zip r.Cells).map fun p => (p.1,dj p.2))
theorem c3x {α:Type}:∀ (l kv:List (Str × α)),(b7u kv l).length ≤ kv.length + l.length
 | [],kv => by simp [b7u]
 | p :: l,kv => by
  have h1:=c3x l (b1u kv p.1 p.2)
  have h2:=c9u p.1 p.2 kv
  have e:b7u kv (p :: l) = b7u (b1u kv p.1 p.2) l:=rfl
  rw [e]; simp only [List.length_cons]; omega
theorem b6l (columns:List Str) (r:a1u):∀ p ∈ b0p columns r,p.1 ∈ columns ∧ ∃ d ∈ r.Cells,p.2 = dj d ∧ a6l (d4h [] (columns.zip r.Cells)) p.1 = some d:=by
 intro p hp
 have hs:a9l ((b0p columns r).map Prod.fst):=b9w _ _ .nil
 have hl:=c6f _ hs p hp
 have hk:=d2r dj (columns.zip r.Cells) [] [] (fun q => rfl) p.1
 have hk:a6l (b0p columns r) p.1 = (a6l (d4h [] (columns.zip r.Cells)) p.1).map dj:=hk
 rw [hl] at hk
 obtain ⟨d,h1,h2⟩:=Option.map_eq_some_iff.1 hk.symm
 refine ⟨?_,d,?_,h2.symm,h1⟩
 ·have hpm:p.1 ∈ (b7u [] ((columns.zip r.Cells).map fun p => (p.1,dj p.2))).map Prod.fst:=List.mem_map.2 ⟨p,hp,rfl⟩
  have:=(c9w p.1 ((columns.zip r.Cells).map fun p => (p.1,dj p.2)) []).1 hpm
  rcases this with h | h
  ·simp only [List.map_map,List.mem_map,Function.comp] at h
   obtain ⟨q,hq,e⟩:=h
   rw [← e]; exact (List.of_mem_zip hq).1
  ·simp at h
 ·rcases d6r p.1 d _ _ h1 with h | h
  ·obtain ⟨q,hq,e⟩:=List.mem_map.1 h
   rw [← e]; exact (List.of_mem_zip hq).2
  ·simp [a6l] at h
theorem e1d (columns:List Str) (r:a1u) (hn:r.Cells.length = columns.length) (hl:columns.length ≤ 12) (hw:∀ d ∈ r.Cells,a5p d ≤ 2 ^ 20):b2d columns r = some ⟨5,0,[],(b0p columns r).map Prod.fst,(b0p columns r).map Prod.snd⟩:=by
 unfold b2d
 rw [d2t r hw columns 0 [] (by omega) (by simp; omega),Option.bind_some]
 simp only [List.nil_append,List.drop_zero]
 rw [p_O columns _ (by simp; omega) (by omega),Option.bind_some]
 unfold b0p
 rw [List.zip_map_right]
 rfl
theorem d8m (columns:List Str) (r:a1u) (hn:r.Cells.length = columns.length) (hl:columns.length ≤ 12) (hw:∀ d ∈ r.Cells,a5p d ≤ 2 ^ 20):b0j columns r = some ⟨5,0,[],(b0p columns r).map Prod.fst,(b0p columns r).map Prod.snd⟩:=by
 unfold b0j a5x
 rw [d2u r columns 0 [] (by omega),Option.bind_some,if_pos (by simp; omega),Option.bind_some,List.nil_append,List.drop_zero]
 obtain ⟨s,e,h1,h2⟩:=e5y columns hl
 have hlen:=h2.length_eq
 rw [e,Option.bind_some,d8l s (by omega),Option.bind_some]
 have hst:a9l (c5a s):=by
  cases s with
  | nil => exact .nil
  | cons a t => exact c2c t a h1
 have hm:∀ x,x ∈ c5a s ↔ x ∈ columns:=by
  intro x
  rw [← h2.mem_iff]
  cases s with
  | nil => rfl
  | cons a t => exact c7m x t a
 have hs:a9l ((b0p columns r).map Prod.fst):=b9w _ _ .nil
 have hk:c5a s = (b0p columns r).map Prod.fst:=by
  refine a9l.ext hst hs (fun x => ?_)
  rw [hm]
  unfold b0p
  rw [c9w]
  simp only [List.map_map,List.map_nil,List.not_mem_nil,or_false]
  have e2:(columns.zip r.Cells).map (Prod.fst ∘ fun p:Str × List a0k => (p.1,dj p.2)) = columns:=by
   have:(Prod.fst ∘ fun p:Str × List a0k => (p.1,dj p.2)) = Prod.fst:=rfl
   rw [this,List.map_fst_zip (by omega)]
  rw [e2]
 have hlk:(b0p columns r).length ≤ 12:=by
  have:=c3x ((columns.zip r.Cells).map fun p => (p.1,dj p.2)) []
  simp only [List.length_map,List.length_zip,List.length_nil] at this
  unfold b0p; omega
 rw [hk,d2v _ _ (b0p columns r) 0 [] (fun p hp => by
  obtain ⟨_,d,q1,q2,q3⟩:=b6l columns r p hp
  exact ⟨d,q3,by rw [(e7a d (hw d q1)).1,q2]⟩) (by simp) (by simp; omega),Option.bind_some,List.nil_append]
 rfl
theorem c1i:∀ {l:List (List a0k)} {d:List a0k},d ∈ l → a5p d ≤ b0c l
 | x :: l,d,h => by
  rcases List.mem_cons.1 h with rfl | h
  ·simp only [b0c]; omega
  ·have:=c1i h; simp only [b0c]; omega
theorem c9x (b:Nat):∀ l:List o9,(∀ x ∈ l,a4a x ≤ b) → a2q l ≤ l.length * (b + 1)
 | [],_ => by simp [a2q]
 | x :: l,h => by
  have h1:=h x (by simp)
  have h2:=c9x b l (fun y hy => h y (by simp [hy]))
  simp only [a2q,List.length_cons,Nat.add_mul,Nat.one_mul]
  omega
theorem c3y (b:Nat):∀ l:List Str,(∀ x ∈ l,x.length ≤ b) → a3d l ≤ l.length * b
 | [],_ => by simp [a3d]
 | x :: l,h => by
  have h1:=h x (by simp)
  have h2:=c3y b l (fun y hy => h y (by simp [hy]))
  simp only [a3d,List.length_cons,Nat.add_mul,Nat.one_mul]
  omega
theorem d6t:∀ n:Fin 20,(b1b (n.val:Int) == a8d (n.val:Int) && (match a8d (n.val:Int) with | some w => decide (w.length ≤ 20) | none => false)) = true:=by decide +kernel
theorem d8n (c:Int) (h:0 ≤ c ∧ c ≤ 19):∃ w,b1b c = some w ∧ a8d c = some w ∧ w.length ≤ 20:=by
 obtain ⟨n,rfl⟩:∃ n:Nat,c = n:=⟨c.toNat,by omega⟩
 have:=d6t ⟨n,by omega⟩
 simp only [Bool.and_eq_true,beq_iff_eq] at this
 obtain ⟨h1,h2⟩:=this
 cases hw:a8d (n:Int) with
 | none => rw [hw] at h2; cases h2
 | some w => exact ⟨w,by rw [h1,hw],rfl,by rw [hw] at h2; simpa using h2⟩
theorem b5o {n:Int}:okI .i64 n ↔ -(2 ^ 63) ≤ n ∧ n ≤ 2 ^ 63 - 1:=by
 have h1:IntKind.i64.min = -(2 ^ 63):=by decide
 have h2:IntKind.i64.max = 2 ^ 63 - 1:=by decide
 simp [okI,Lit.wf,h1,h2]
theorem e7b:okI .i64 0:=b5o.2 (by omega)
theorem d4i {n:Int} (h:okI .i64 n):a5o ⟨2,n,[],[],[]⟩:=.mk (b5o.2 (by simp only; omega)) h (by simp [okS]) ⟨by simp,by simp⟩ (by simp) (by simp)
theorem c9y {t:Str} (h:okS t):a5o ⟨3,0,t,[],[]⟩:=.mk (b5o.2 (by simp only; omega)) e7b h ⟨by simp,by simp⟩ (by simp) (by simp)
theorem e7c {k n:Int} (hk:0 ≤ k ∧ k ≤ 5) (h:0 ≤ n ∧ n ≤ 1):a5o ⟨k,n,[],[],[]⟩:=.mk (b5o.2 (by simp only; omega)) (b5o.2 (by simp only; omega)) (by simp [okS]) ⟨by simp,by simp⟩ (by simp) (by simp)
theorem c9z {l:List o9} (hl:l.length ≤ maxLen) (h:∀ y ∈ l,a5o y):a5o ⟨4,0,[],[],l⟩:=.mk (b5o.2 (by simp only; omega)) e7b (by simp [okS]) ⟨by simp,by simp⟩ hl h
theorem c5f {ks:List Str} {l:List o9} (hk:okL (okS) ks) (hl:l.length ≤ maxLen) (h:∀ y ∈ l,a5o y):a5o ⟨5,0,[],ks,l⟩:=.mk (b5o.2 (by simp only; omega)) e7b (by simp [okS]) hk hl h
theorem b2h {t:Str} (h:t.length ≤ 100):okS t:=by unfold okS; simp only [maxLen]; omega
theorem d6u (a:a0k) (ok:a7r a):∀ j,a4x a = some j → a5o j:=by
 intro j
 obtain ⟨h1,h2,h3⟩:=ok
 unfold a4x a9i a8q b2f
 split
 ·intro e; simp only [Option.bind_some,Option.some.injEq] at e; subst e; exact d4i h2
 ·split
  ·intro e; simp only [Option.bind_some,Option.some.injEq] at e; subst e; exact c9y h3
  ·split
   ·intro e
    cases hb:(a.N == 1) <;> simp [hb] at e <;> subst e <;> exact e7c (by omega) (by omega)
   ·intro e
    simp only [Option.bind_some,a7p,Option.some.injEq] at e
    subst e
    refine c9z (by simp [maxLen]) ?_
    intro y hy
    simp only [List.mem_cons,List.not_mem_nil,or_false] at hy
    rcases hy with rfl | rfl
    ·exact c9y (b2h (by simp))
    ·exact d4i h2
theorem d0a:∀ (xs:List a0k) (out js:List o9),a2h xs out = some js → (∀ x ∈ xs,a7r x) → (∀ y ∈ out,a5o y) → (∀ y ∈ js,a5o y) ∧ js.length = out.length + xs.length
 | [],out,js,e,_,h => by rw [a2h] at e; cases e; exact ⟨h,by simp⟩
 | x :: xs,out,js,e,hx,h => by
  rw [a2h] at e
  obtain ⟨j,ej,_⟩:=c2d x
  rw [ej,Option.bind_some] at e
  split at e
  ·obtain ⟨g1,g2⟩:=d0a xs (out ++ [j]) js e (fun y hy => hx y (by simp [hy])) (fun y hy => by
    rcases List.mem_append.1 hy with hy | hy
    ·exact h y hy
    ·simp only [List.mem_singleton] at hy; subst hy; exact d6u x (hx x (by simp)) _ ej)
   exact ⟨g1,by rw [g2]; simp; omega⟩
  ·cases e
theorem e6o (d:List a0k) (h:a5p d ≤ 2 ^ 20) (ok:∀ x ∈ d,a7r x):a5o (dj d) ∧ a4a (dj d) ≤ 22 * a5p d + 40:=by
 have hd:=(e7a d h).1
 generalize dj d = j at hd
 unfold a5p at h ⊢
 unfold a5y at hd
 obtain ⟨js,e1,e2,e3,e4⟩:=c5c d [] (by simp; omega)
 rw [List.nil_append] at e1
 obtain ⟨g1,g2⟩:=d0a d [] js e1 ok (by simp)
 rw [e1,Option.bind_some] at hd
 have hm:js.length ≤ maxLen:=by rw [e3]; simp only [maxLen]; omega
 by_cases c:((js.length:Int) == 1) = true
 ·rw [if_pos c] at hd
  cases hj:js[0]? with
  | none => rw [hj] at hd; cases hd
  | some y =>
   rw [hj,Option.bind_some] at hd
   split at hd
   ·cases hd
    have hy:=List.mem_of_getElem? hj
    refine ⟨g1 _ hy,?_⟩
    have:=b4u hy
    omega
   ·cases hd
 ·rw [if_neg c] at hd
  simp only [a8q,a9z,Option.bind_some,Option.some.injEq] at hd
  subst hd
  refine ⟨c9z (by simp [maxLen]) ?_,?_⟩
  ·intro y hy
   simp only [List.mem_cons,List.not_mem_nil,or_false] at hy
   rcases hy with rfl | rfl
   ·exact c9y (b2h (by simp))
   ·exact c9z hm g1
  ·simp only [a4a,a2q,a2i,a3d,List.length_cons,List.length_nil]; omega
theorem e6b (columns:List Str) (r:a1u) (hn:r.Cells.length = columns.length) (hl:columns.length ≤ 12) (hw:b2g r ≤ 2 ^ 20) (hc:a2i columns ≤ 2 ^ 20) (ok:b5z r) (ok2:okL (okS) columns) :
  ∃ j,b0j columns r = some j ∧ b2d columns r = some j ∧ a4a j ≤ 12 * (22 * b2g r + 41) + 12 * 2 ^ 20 + 30 ∧ a5o j:=by
 have hd:∀ d ∈ r.Cells,a5p d ≤ b2g r:=fun d hd => by
  have:=c1i hd
  unfold b2g b0d; omega
 have hd':∀ d ∈ r.Cells,a5p d ≤ 2 ^ 20:=fun d h => Nat.le_trans (hd d h) hw
 have hok:∀ d ∈ r.Cells,∀ x ∈ d,a7r x:=fun d h x hx => (ok.2.2 d h).2 x hx
 refine ⟨_,d8m columns r hn hl hd',e1d columns r hn hl hd',?_,?_⟩
 ·have hlk:(b0p columns r).length ≤ 12:=by
   have:=c3x ((columns.zip r.Cells).map fun p => (p.1,dj p.2)) []
   simp only [List.length_map,List.length_zip,List.length_nil] at this
   unfold b0p; omega
  have h1:=c9x (22 * b2g r + 40) ((b0p columns r).map Prod.snd) (fun x hx => by
   obtain ⟨p,hp,rfl⟩:=List.mem_map.1 hx
   obtain ⟨_,d,q1,q2,_⟩:=b6l columns r p hp
   rw [q2]
   have:=(e6o d (hd' d q1) (hok d q1)).2
   have:=hd d q1
   omega)
  have h2:=c3y (2 ^ 20) ((b0p columns r).map Prod.fst) (fun x hx => by
   obtain ⟨p,hp,rfl⟩:=List.mem_map.1 hx
   obtain ⟨q,_⟩:=b6l columns r p hp
   have:=c1d q
   unfold a2i at hc; omega)
  rw [List.length_map] at h1 h2
  have h3:(b0p columns r).length * (22 * b2g r + 40 + 1) ≤ 12 * (22 * b2g r + 40 + 1):=Nat.mul_le_mul_right _ hlk
  have h4:(b0p columns r).length * 2 ^ 20 ≤ 12 * 2 ^ 20:=Nat.mul_le_mul_right _ hlk
  simp only [a4a,a2i,List.length_map,List.length_nil]
  omega
 ·have hlk:(b0p columns r).length ≤ 12:=by
   have:=c3x ((columns.zip r.Cells).map fun p => (p.1,dj p.2)) []
   simp only [List.length_map,List.length_zip,List.length_nil] at this
   unfold b0p; omega
  refine c5f ⟨by simp only [List.length_map,maxLen]; omega,fun x hx => ?_⟩ (by simp only [List.length_map,maxLen]; omega) (fun y hy => ?_)
  ·obtain ⟨p,hp,rfl⟩:=List.mem_map.1 hx
   exact ok2.2 _ (b6l columns r p hp).1
  ·obtain ⟨p,hp,rfl⟩:=List.mem_map.1 hy
   obtain ⟨_,d,q1,q2,_⟩:=b6l columns r p hp
   rw [q2]; exact (e6o d (hd' d q1) (hok d q1)).1
def d6v (l:List a1u):Nat:=(l.map fun r => 12 * (22 * b2g r + 41) + 12 * 2 ^ 20 + 31).sum
theorem e4m (r:a1i) (hl:r.Columns.length ≤ 12) (hc:a2i r.Columns ≤ 2 ^ 20) (ok2:okL (okS) r.Columns):∀ (l:List a1u) (out:List o9),(∀ x ∈ l,x.Cells.length = r.Columns.length ∧ b2g x ≤ 2 ^ 20 ∧ b5z x) → out.length + l.length ≤ 2 ^ 20 →
  ∃ js,a3n r l out = some (out ++ js) ∧ a3w r l out = some (out ++ js) ∧ a2q js ≤ d6v l ∧ (∀ y ∈ js,a5o y) ∧ js.length = l.length
 | [],out,_,_ => ⟨[],by rw [a3n]; simp,by rw [a3w]; simp,by simp [a2q],by simp,rfl⟩
 | x :: l,out,h,ho => by
  simp only [List.length_cons] at ho
  obtain ⟨h1,h2,h3⟩:=h x (by simp)
  obtain ⟨j,e1,e2,e3,e4⟩:=e6b r.Columns x h1 hl h2 hc h3 ok2
  obtain ⟨js,g1,g2,g3,g4,g5⟩:=e4m r hl hc ok2 l (out ++ [j]) (fun y hy => h y (by simp [hy])) (by simp; omega)
  refine ⟨j :: js,?_,?_,?_,?_,by simp [g5]⟩
  ·rw [a3n,e1,Option.bind_some,if_pos (by simp; omega),g1]; simp
  ·rw [a3w,e2,Option.bind_some,if_pos (by simp; omega),g2]; simp
  ·simp only [a2q,d6v,List.map_cons,List.sum_cons] at g3 ⊢; omega
  ·intro y hy
   rcases List.mem_cons.1 hy with rfl | hy
   ·exact e4
   ·exact g4 y hy
theorem d6w:∀ l:List a1u,d6v l ≤ 264 * b0e l + l.length * 12583600
 | [] => by simp [d6v]
 | x :: l => by
  have:=d6w l
  simp only [d6v,List.map_cons,List.sum_cons,List.length_cons] at this ⊢
  have h2:b2g x ≤ b0e (x :: l) - b0e l ∧ b0e l ≤ b0e (x :: l):=by simp only [b0e]; omega
  omega
theorem c6g:∀ {l:List a1u} {x:a1u},x ∈ l → b2g x ≤ b0e l
 | y :: l,x,h => by
  rcases List.mem_cons.1 h with rfl | h
  ·simp only [b0e]; omega
  ·have:=c6g h; simp only [b0e]; omega
theorem e6c (k:Str) (v:o9):a9f [k] [v] = some ⟨5,0,[],[k],[v]⟩:=by
 rw [p_O [k] [v] rfl (by simp)]; rfl
theorem e1e (kind:Int) (r:a1i) (hk:1 ≤ kind ∧ kind ≤ 10) (hr:d6m r = true) (hw:a9c r ≤ 2 ^ 20) (ok:b5q r):∃ j,a8w kind r = some j ∧ a9y kind r = some j ∧ a4a j ≤ 2 ^ 29 ∧ a5o j:=by
 unfold a8w a9y
 unfold d6m at hr
 by_cases c:r.Code = 0
 ·have c':(r.Code != 0) = false:=by simp [c]
  rw [if_pos c] at hr
  simp only [Bool.and_eq_true,decide_eq_true_eq] at hr
  obtain ⟨⟨⟨⟨⟨r1,r2⟩,r3⟩,r4⟩,r5⟩,r6⟩:=hr
  have nc:¬ (r.Code != 0) = true:=by simp [c]
  rw [if_neg nc,if_neg nc]
  by_cases k1:kind = 1
  ·have k1':(kind == 1) = true:=by simp [k1]
   rw [if_pos k1',if_pos k1']
   have ea:a4x ⟨4,r.Id,[]⟩ = some ⟨4,0,[],[],[⟨3,0,[117,117,105,100],[],[]⟩,⟨2,r.Id,[],[],[]⟩]⟩:=rfl
   have hI:okI .i64 r.Id:=b5o.2 (by omega)
   have ol:a5o ⟨4,0,[],[],[⟨3,0,[117,117,105,100],[],[]⟩,⟨2,r.Id,[],[],[]⟩]⟩:=c9z (by simp [maxLen]) (by
    intro y hy
    simp only [List.mem_cons,List.not_mem_nil,or_false] at hy
    rcases hy with rfl | rfl
    ·exact c9y (b2h (by simp))
    ·exact d4i hI)
   refine ⟨⟨5,0,[],[[117,117,105,100]],[⟨4,0,[],[],[⟨3,0,[117,117,105,100],[],[]⟩,⟨2,r.Id,[],[],[]⟩]⟩]⟩,by rw [ea]; rfl,?_,?_,?_⟩
   ·have:b7l [⟨3,0,[117,117,105,100],[],[]⟩,⟨2,r.Id,[],[],[]⟩] = some ⟨4,0,[],[],[⟨3,0,[117,117,105,100],[],[]⟩,⟨2,r.Id,[],[],[]⟩]⟩:=by unfold b7l; simp
    simp only [a9e,b2b,Option.bind_some,this,e6c]
   ·simp [a4a,a2q,a2i,a3d]
   ·exact c5f ⟨by simp [maxLen],fun x hx => by simp only [List.mem_singleton] at hx; subst hx; exact b2h (by simp)⟩ (by simp [maxLen]) (fun y hy => by simp only [List.mem_singleton] at hy; subst hy; exact ol)
  ·have k1':¬ (kind == 1) = true:=by simpa using k1
   rw [if_neg k1',if_neg k1']
   by_cases k2:kind = 2
   ·have k2':(kind == 2) = true:=by simp [k2]
    rw [if_pos k2',if_pos k2']
    unfold a9c b6j at hw
    obtain ⟨o1,o2,o3,o4,o5⟩:=ok
    obtain ⟨js,g1,g2,g3,g4,g5⟩:=e4m r (by omega) (by omega) o4 r.Rows [] (fun x hx => by
     have h1:=List.all_eq_true.1 r6 x hx
     simp only [rowB,Bool.and_eq_true,decide_eq_true_eq] at h1
     exact ⟨h1.1,by have:=c6g hx; omega,o5.2 x hx⟩) (by simp; omega)
    rw [List.nil_append] at g1 g2
    have hb:=d6w r.Rows
    have hlen:r.Rows.length * 12583600 ≤ 12 * 12583600:=Nat.mul_le_mul_right _ r4
    have ol:a5o ⟨4,0,[],[],js⟩:=c9z (by rw [g5]; simp only [maxLen]; omega) g4
    have el:b2t = some ⟨4,0,[],[],[]⟩:=by unfold b2t; simp
    refine ⟨⟨5,0,[],[[114,111,119,115]],[⟨4,0,[],[],js⟩]⟩,?_,?_,?_,?_⟩
    ·rw [g1]; rfl
    ·rw [el,Option.bind_some]
     simp only []
     rw [g2,Option.bind_some,e6c]; rfl
    ·simp only [a4a,a2q,a2i,a3d,List.length_cons,List.length_nil]
     omega
    ·exact c5f ⟨by simp [maxLen],fun x hx => by simp only [List.mem_singleton] at hx; subst hx; exact b2h (by simp)⟩ (by simp [maxLen]) (fun y hy => by simp only [List.mem_singleton] at hy; subst hy; exact ol)
   ·have k2':¬ (kind == 2) = true:=by simpa using k2
    rw [if_neg k2',if_neg k2',e0v,Option.bind_some]
    have hC:okI .i64 r.Count:=b5o.2 (by omega)
    by_cases k3:3 ≤ kind ∧ kind ≤ 5
    ·have e3:(if (kind == 3) = true then some true else if (kind == 4) = true then some true else some (kind == 5):Option Bool) = some true:=by
      have:kind = 3 ∨ kind = 4 ∨ kind = 5:=by omega
      rcases this with h | h | h <;> simp [h]
     rw [e3,Option.bind_some,if_pos rfl,decide_eq_true k3,if_pos rfl]
     refine ⟨⟨5,0,[],[[99,111,117,110,116]],[⟨2,r.Count,[],[],[]⟩]⟩,rfl,?_,?_,?_⟩
     ·simp only [b2b,Option.bind_some,e6c]
     ·simp [a4a,a2q,a2i,a3d]
     ·exact c5f ⟨by simp [maxLen],fun x hx => by simp only [List.mem_singleton] at hx; subst hx; exact b2h (by simp)⟩ (by simp [maxLen]) (fun y hy => by simp only [List.mem_singleton] at hy; subst hy; exact d4i hC)
    ·have e3:(if (kind == 3) = true then some true else if (kind == 4) = true then some true else some (kind == 5):Option Bool) = some false:=by
      have a1:¬ kind = 3:=by omega
      have a2:¬ kind = 4:=by omega
      have a3:¬ kind = 5:=by omega
      simp [a1,a2,a3]
     rw [e3,Option.bind_some,if_neg (by simp),decide_eq_false k3,if_neg (by simp)]
     exact ⟨_,rfl,rfl,by simp [a4a,a2q,a2i,a3d],c5f ⟨by simp,by simp⟩ (by simp) (by simp)⟩
 ·have c':(r.Code != 0) = true:=by simpa using c
  rw [if_neg c] at hr
  simp only [Bool.and_eq_true,decide_eq_true_eq] at hr
  obtain ⟨w,w1,w2,w3⟩:=d8n r.Code (by omega)
  rw [if_pos c',if_pos c',w1,w2]
  refine ⟨⟨5,0,[],[[101,114,114,111,114]],[⟨3,0,w,[],[]⟩]⟩,rfl,?_,?_,?_⟩
  ·simp only [a9e,Option.bind_some,e6c]
  ·simp [a4a,a2q,a2i,a3d]; omega
  ·exact c5f ⟨by simp [maxLen],fun x hx => by simp only [List.mem_singleton] at hx; subst hx; exact b2h (by simp)⟩ (by simp [maxLen]) (fun y hy => by simp only [List.mem_singleton] at hy; subst hy; exact c9y (b2h (by omega)))
theorem d4j (kind:Int) (r:a1i) (hw:a9c r ≤ 2 ^ 20) (ok:b5q r):∃ j c,a7v kind r = some (j,c) ∧ a8v kind r = some (j,c) ∧ a4a j ≤ 2 ^ 29:=by
 have hs:∀ x ∈ r.Rows,d8j x:=fun x hx d hd => ((ok.2.2.2.2.2 x hx).2.2 d hd).1
 unfold a7v a8v
 have wz:a4a ⟨0,0,[],[],[]⟩ ≤ 2 ^ 29:=by simp [a4a,a2q,a2i,a3d]
 simp only [b6k,e0v,Option.bind_some,d8k r hs,d6n]
 by_cases hk:1 ≤ kind ∧ kind ≤ 10
 ·cases hb:d6m r with
  | false => exact ⟨⟨0,0,[],[],[]⟩,1,by simp [hk],by simp,wz⟩
  | true =>
   obtain ⟨j,e1,e2,e3,e4⟩:=e1e kind r hk hb hw ok
   obtain ⟨b,f1,f2,_⟩:=d1b j e4
   have ow:=e4j j (by omega)
   cases b with
   | false => exact ⟨⟨0,0,[],[],[]⟩,6,by simp [hk,e1,f1],by simp [hk,e2,f2],wz⟩
   | true => exact ⟨j,0,by simp [hk,e1,f1],by simp [hk,e2,f2,ow],e3⟩
 ·exact ⟨⟨0,0,[],[],[]⟩,1,by simp [hk],by cases d6m r <;> simp [hk],wz⟩
theorem b9a (kind:Int) (r:a1i) (hk:okI .i64 kind) (h:b5q r):a7g kind r = some true:=by
 unfold a7g
 obtain ⟨n,e,hr⟩:=d8c r 1048576 (by omega) (by omega) h
 rw [e,Option.bind_some]
 split
 ·rfl
 ·rename_i hn
  simp only [decide_eq_true_eq] at hn
  obtain ⟨h1,h2⟩:=hr.resolve_left hn
  have hw:a9c r ≤ 1048576:=by omega
  have et:=d8e r (by omega)
  obtain ⟨j,c,e1,e2,k1⟩:=d4j kind r (by omega) h
  have q1:=d4a r
  have m1:=d3y r 1 (d4b r (by omega)) (by omega) (by omega)
  have q2:=c9m j
  have m2:=d7v j 1 (c2b j (by omega)) (by omega) (by omega)
  have m3:=d7w j 1 (c2b j (by omega)) (by omega) (by omega)
  have eq1:=d8a r
  have eq2:=d6g j (by omega)
  have em:(⟨j.Kind,j.N,j.T,(b8f j 1).Keys,(b8f j 1).Items⟩:o9) = b8f j 1:=by rw [b7t]
  have ej:(⟨j.Kind,j.N,j.T,j.Keys,j.Items⟩:o9) = j:=by cases j; rfl
  have n1:decide ((1:Int) + (b5r r:Nat) < 0) = false:=decide_eq_false (by omega)
  have n2:decide ((1:Int) + (b3f j:Nat) < 0) = false:=decide_eq_false (by omega)
  simp only [et,Option.bind_some,e1,e2,eq1,eq2,m1,m2,em,ej,m3,n1,n2,Bool.not_true,Bool.false_eq_true,if_false,bne_self_eq_false,cond_false]
end Go.R
