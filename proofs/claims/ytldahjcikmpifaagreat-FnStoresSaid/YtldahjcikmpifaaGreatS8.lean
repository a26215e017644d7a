/- Part of the proof. -/
import Derived.Test.YtldahjcikmpifaaGreatS7

section
set_option linter.all false
namespace Go.R
open Go
end Go.R
end
section
set_option linter.all false
namespace Go.R
open Go
theorem a5g (f:o5 → Option Bool) (p:o5 → Bool):∀ (xs:List o5) (i:Nat),(∀ x ∈ xs,f x = some (p x)) → a0i f xs i = some (match xs.findIdx? p with | some k => .ret ((i + k:Nat):Int) | none => .go ())
 | [],i,_ => by rw [a0i]; rfl
 | x :: xs,i,h => by
  rw [a0i,h x (by simp),Option.bind_some,a5g f p xs (i + 1) (fun y hy => h y (by simp [hy])),List.findIdx?_cons]
  cases hp:p x with
  | true => simp
  | false =>
   cases hq:xs.findIdx? p with
   | none => simp
   | some k => simp; omega
theorem b2o (f:o5 → Option Bool) (p:o5 → Bool) (xs:List o5) (h:∀ x ∈ xs,f x = some (p x)):a1e xs f = some (match xs.findIdx? p with | some k => (k:Int) | none => -1):=by
 unfold a1e
 rw [a5g f p xs 0 h]
 cases hq:xs.findIdx? p with
 | none => rfl
 | some k => simp
theorem a4j (f:y7 → Option Bool) (p:y7 → Bool):∀ (xs:List y7) (i:Nat),(∀ x ∈ xs,f x = some (p x)) → a0z f xs i = some (match xs.findIdx? p with | some k => .ret ((i + k:Nat):Int) | none => .go ())
 | [],i,_ => by rw [a0z]; rfl
 | x :: xs,i,h => by
  rw [a0z,h x (by simp),Option.bind_some,a4j f p xs (i + 1) (fun y hy => h y (by simp [hy])),List.findIdx?_cons]
  cases hp:p x with
  | true => simp
  | false =>
   cases hq:xs.findIdx? p with
   | none => simp
   | some k => simp; omega
theorem a5d (f:y7 → Option Bool) (p:y7 → Bool) (xs:List y7) (h:∀ x ∈ xs,f x = some (p x)):a0u xs f = some (match xs.findIdx? p with | some k => (k:Int) | none => -1):=by
 unfold a0u
 rw [a4j f p xs 0 h]
 cases hq:xs.findIdx? p with
 | none => rfl
 | some k => simp
theorem a5t (f:o8 → Option Bool) (p:o8 → Bool):∀ (xs:List o8) (i:Nat),(∀ x ∈ xs,f x = some (p x)) → a1s f xs i = some (match xs.findIdx? p with | some k => .ret ((i + k:Nat):Int) | none => .go ())
 | [],i,_ => by rw [a1s]; rfl
 | x :: xs,i,h => by
  rw [a1s,h x (by simp),Option.bind_some,a5t f p xs (i + 1) (fun y hy => h y (by simp [hy])),List.findIdx?_cons]
  cases hp:p x with
  | true => simp
  | false =>
   cases hq:xs.findIdx? p with
   | none => simp
   | some k => simp; omega
theorem b3e (f:o8 → Option Bool) (p:o8 → Bool) (xs:List o8) (h:∀ x ∈ xs,f x = some (p x)):a1x xs f = some (match xs.findIdx? p with | some k => (k:Int) | none => -1):=by
 unfold a1x
 rw [a5t f p xs 0 h]
 cases hq:xs.findIdx? p with
 | none => rfl
 | some k => simp
theorem a4u (f:o6 → Option Bool) (p:o6 → Bool):∀ (xs:List o6) (i:Nat),(∀ x ∈ xs,f x = some (p x)) → a1f f xs i = some (match xs.findIdx? p with | some k => .ret ((i + k:Nat):Int) | none => .go ())
 | [],i,_ => by rw [a1f]; rfl
 | x :: xs,i,h => by
  rw [a1f,h x (by simp),Option.bind_some,a4u f p xs (i + 1) (fun y hy => h y (by simp [hy])),List.findIdx?_cons]
  cases hp:p x with
  | true => simp
  | false =>
   cases hq:xs.findIdx? p with
   | none => simp
   | some k => simp; omega
theorem a5l (f:o6 → Option Bool) (p:o6 → Bool) (xs:List o6) (h:∀ x ∈ xs,f x = some (p x)):a0y xs f = some (match xs.findIdx? p with | some k => (k:Int) | none => -1):=by
 unfold a0y
 rw [a4u f p xs 0 h]
 cases hq:xs.findIdx? p with
 | none => rfl
 | some k => simp
theorem b0k (f:Int → Option Bool) (p:Int → Bool):∀ (xs:List Int) (i:Nat),(∀ x ∈ xs,f x = some (p x)) → a3i f xs i = some (match xs.findIdx? p with | some k => .ret ((i + k:Nat):Int) | none => .go ())
 | [],i,_ => by rw [a3i]; rfl
 | x :: xs,i,h => by
  rw [a3i,h x (by simp),Option.bind_some,b0k f p xs (i + 1) (fun y hy => h y (by simp [hy])),List.findIdx?_cons]
  cases hp:p x with
  | true => simp
  | false =>
   cases hq:xs.findIdx? p with
   | none => simp
   | some k => simp; omega
theorem b7d (f:Int → Option Bool) (p:Int → Bool) (xs:List Int) (h:∀ x ∈ xs,f x = some (p x)):a4e xs f = some (match xs.findIdx? p with | some k => (k:Int) | none => -1):=by
 unfold a4e
 rw [b0k f p xs 0 h]
 cases hq:xs.findIdx? p with
 | none => rfl
 | some k => simp
theorem b1o (f:o5 → Option Bool) (p:o5 → Bool) (xs:List o5) (h:∀ x ∈ xs,f x = some (p x)):a0j xs f = some (xs.any p):=by
 unfold a0j
 rw [b2o f p xs h,Option.bind_some]
 cases hq:xs.findIdx? p with
 | none =>
  have:xs.any p = false:=by
   rw [List.any_eq_false]
   intro x hx
   have:=List.findIdx?_eq_none_iff.1 hq x hx
   simp [this]
  rw [this]; rfl
 | some k =>
  have:xs.any p = true:=by
   obtain ⟨x,hx,hp⟩:∃ x,x ∈ xs ∧ p x = true:=by
    have:=List.findIdx?_eq_some_iff_getElem.1 hq
    obtain ⟨hk,h1,_⟩:=this
    exact ⟨xs[k],List.getElem_mem _,h1⟩
   exact List.any_eq_true.2 ⟨x,hx,hp⟩
  rw [this]
  simp
theorem a9e (f:y7 → Option Bool) (p:y7 → Bool) (xs:List y7) (h:∀ x ∈ xs,f x = some (p x)):a1a xs f = some (xs.any p):=by
 unfold a1a
 rw [a5d f p xs h,Option.bind_some]
 cases hq:xs.findIdx? p with
 | none =>
  have:xs.any p = false:=by
   rw [List.any_eq_false]
   intro x hx
   have:=List.findIdx?_eq_none_iff.1 hq x hx
   simp [this]
  rw [this]; rfl
 | some k =>
  have:xs.any p = true:=by
   obtain ⟨x,hx,hp⟩:∃ x,x ∈ xs ∧ p x = true:=by
    have:=List.findIdx?_eq_some_iff_getElem.1 hq
    obtain ⟨hk,h1,_⟩:=this
    exact ⟨xs[k],List.getElem_mem _,h1⟩
   exact List.any_eq_true.2 ⟨x,hx,hp⟩
  rw [this]
  simp
theorem a5u (f:o8 → Option Bool) (p:o8 → Bool) (xs:List o8) (h:∀ x ∈ xs,f x = some (p x)):a1b xs f = some (xs.any p):=by
 unfold a1b
 rw [b3e f p xs h,Option.bind_some]
 cases hq:xs.findIdx? p with
 | none =>
  have:xs.any p = false:=by
   rw [List.any_eq_false]
   intro x hx
   have:=List.findIdx?_eq_none_iff.1 hq x hx
   simp [this]
  rw [this]; rfl
 | some k =>
  have:xs.any p = true:=by
   obtain ⟨x,hx,hp⟩:∃ x,x ∈ xs ∧ p x = true:=by
    have:=List.findIdx?_eq_some_iff_getElem.1 hq
    obtain ⟨hk,h1,_⟩:=this
    exact ⟨xs[k],List.getElem_mem _,h1⟩
   exact List.any_eq_true.2 ⟨x,hx,hp⟩
  rw [this]
  simp
theorem b0h (f:o6 → Option Bool) (p:o6 → Bool) (xs:List o6) (h:∀ x ∈ xs,f x = some (p x)):a1g xs f = some (xs.any p):=by
 unfold a1g
 rw [a5l f p xs h,Option.bind_some]
 cases hq:xs.findIdx? p with
 | none =>
  have:xs.any p = false:=by
   rw [List.any_eq_false]
   intro x hx
   have:=List.findIdx?_eq_none_iff.1 hq x hx
   simp [this]
  rw [this]; rfl
 | some k =>
  have:xs.any p = true:=by
   obtain ⟨x,hx,hp⟩:∃ x,x ∈ xs ∧ p x = true:=by
    have:=List.findIdx?_eq_some_iff_getElem.1 hq
    obtain ⟨hk,h1,_⟩:=this
    exact ⟨xs[k],List.getElem_mem _,h1⟩
   exact List.any_eq_true.2 ⟨x,hx,hp⟩
  rw [this]
  simp
theorem b5w (f:Int → Option Bool) (p:Int → Bool) (xs:List Int) (h:∀ x ∈ xs,f x = some (p x)):a2o xs f = some (xs.any p):=by
 unfold a2o
 rw [b7d f p xs h,Option.bind_some]
 cases hq:xs.findIdx? p with
 | none =>
  have:xs.any p = false:=by
   rw [List.any_eq_false]
   intro x hx
   have:=List.findIdx?_eq_none_iff.1 hq x hx
   simp [this]
  rw [this]; rfl
 | some k =>
  have:xs.any p = true:=by
   obtain ⟨x,hx,hp⟩:∃ x,x ∈ xs ∧ p x = true:=by
    have:=List.findIdx?_eq_some_iff_getElem.1 hq
    obtain ⟨hk,h1,_⟩:=this
    exact ⟨xs[k],List.getElem_mem _,h1⟩
   exact List.any_eq_true.2 ⟨x,hx,hp⟩
  rw [this]
  simp
def c0p (c:UInt8):Bool:=!(decide ((c.toNat:Int) < 32) || decide ((c.toNat:Int) > 126))
def d1f (t:Str):Bool:=t.all c0p && decide ((t.length:Int) ≤ 200)
theorem d1g:∀ t:Str,b1f t = some (if t.all c0p = true then .go () else .ret false)
 | [] => by rw [b1f]; simp
 | x :: xs => by
  rw [b1f,d1g xs]
  by_cases h1:(x.toNat:Int) < 32
  ·simp [h1,c0p]
  ·by_cases h2:(x.toNat:Int) > 126
   ·simp [h1,h2,c0p]
   ·simp [h1,h2,c0p]
theorem f1b (t:Str):b4u t = some (d1f t):=by
 unfold b4u d1f
 rw [d1g]
 by_cases h:t.all c0p = true
 ·simp only [h,if_pos,Option.bind_some,Bool.true_and]
 ·simp only [h,Bool.not_eq_true] at h ⊢
  simp [h]
theorem b0d (n a b:Int):a2r n a b = some (decide (a ≤ n ∧ n ≤ b)):=by
 unfold a2r
 by_cases h:a ≤ n <;> simp [h]
theorem d4c:∀ t:Str,b1k t = some (if t.all c0p = true then .go () else .ret false)
 | [] => by rw [b1k]; simp
 | x :: xs => by
  rw [b1k,d4c xs]
  by_cases h1:(x.toNat:Int) < 32
  ·simp [h1,c0p]
  ·by_cases h2:(x.toNat:Int) > 126
   ·simp [h1,h2,c0p]
   ·simp [h1,h2,c0p]
theorem f4e (t:Str):b4w t = some (d1f t):=by
 unfold b4w d1f
 rw [d4c]
 by_cases h:t.all c0p = true
 ·simp only [h,if_pos,Option.bind_some,Bool.true_and]
 ·simp only [h,Bool.not_eq_true] at h ⊢
  simp [h]
theorem c0q (n a b:Int):a1o n a b = some (decide (a ≤ n ∧ n ≤ b)):=by
 unfold a1o
 by_cases h:a ≤ n <;> simp [h]
theorem d1h:∀ a b:Str,Lib.compareBytes a b = -1 ∨ Lib.compareBytes a b = 0 ∨ Lib.compareBytes a b = 1
 | [],[] => by simp [Lib.compareBytes]
 | [],_ :: _ => by simp [Lib.compareBytes]
 | _ :: _,[] => by simp [Lib.compareBytes]
 | a :: xs,b :: ys => by
  have:=d1h xs ys
  unfold Lib.compareBytes
  split
  ·simp
  ·split
   ·simp
   ·exact this
theorem c6y (a b:UInt8):a < b ∨ a = b ∨ b < a:=by
 simp only [UInt8.lt_iff_toNat_lt,← UInt8.toNat_inj]
 omega
theorem b8v {a b:UInt8} (h:a < b):¬ b < a:=by
 simp only [UInt8.lt_iff_toNat_lt] at *
 omega
theorem d4d:∀ a b:Str,Lib.compareBytes b a = - Lib.compareBytes a b
 | [],[] => by simp [Lib.compareBytes]
 | [],_ :: _ => by simp [Lib.compareBytes]
 | _ :: _,[] => by simp [Lib.compareBytes]
 | a :: xs,b :: ys => by
  have ih:=d4d xs ys
  unfold Lib.compareBytes
  rcases c6y a b with h | h | h
  ·simp [h,b8v h]
  ·subst h; simp [UInt8.lt_irrefl,ih]
  ·simp [h,b8v h]
theorem b8f:∀ a b:Str,Lib.compareBytes a b = 0 ↔ a = b
 | [],[] => by simp [Lib.compareBytes]
 | [],_ :: _ => by simp [Lib.compareBytes]
 | _ :: _,[] => by simp [Lib.compareBytes]
 | a :: xs,b :: ys => by
  have ih:=b8f xs ys
  unfold Lib.compareBytes
  rcases c6y a b with h | h | h
  ·have hne:a ≠ b:=by rintro rfl; exact UInt8.lt_irrefl _ h
   simp [h,hne]
  ·subst h; simp [UInt8.lt_irrefl,ih]
  ·have hne:a ≠ b:=by rintro rfl; exact UInt8.lt_irrefl _ h
   simp [h,b8v h,hne]
theorem c6z:∀ a b:Str,Op.bytesLess a b = decide (Lib.compareBytes a b < 0)
 | [],[] => by simp [Lib.compareBytes,Op.bytesLess]
 | [],_ :: _ => by simp [Lib.compareBytes,Op.bytesLess]
 | _ :: _,[] => by simp [Lib.compareBytes,Op.bytesLess]
 | a :: xs,b :: ys => by
  have ih:=c6z xs ys
  unfold Lib.compareBytes Op.bytesLess
  rcases c6y a b with h | h | h
  ·simp [h]
  ·subst h; simp [UInt8.lt_irrefl,ih]
  ·have hne:¬ a = b:=by rintro rfl; exact UInt8.lt_irrefl _ h
   simp [h,b8v h,hne]
def b5h (a b:o5):Int:=if a.Kind ≠ b.Kind then (if a.Kind < b.Kind then -1 else 1) else if a.N ≠ b.N then (if a.N < b.N then -1 else 1) else Lib.compareBytes a.T b.T
theorem e4v (a b:o5):b5h a b = 0 ↔ a = b:=by
 unfold b5h
 cases a with | mk k n t =>
 cases b with | mk k' n' t' =>
 simp only [o5.mk.injEq]
 by_cases h1:k = k'
 ·subst h1
  by_cases h2:n = n'
  ·subst h2; simp [b8f]
  ·simp [h2]; split <;> omega
 ·simp [h1]; split <;> omega
theorem e4w (a b:o5):b5h b a = - b5h a b:=by
 unfold b5h
 cases a with | mk k n t =>
 cases b with | mk k' n' t' =>
 by_cases h1:k = k'
 ·subst h1
  by_cases h2:n = n'
  ·subst h2; simp [d4d t t']
  ·have h3:¬ n' = n:=fun h => h2 h.symm
   simp [h2,h3]; split <;> split <;> omega
 ·have h3:¬ k' = k:=fun h => h1 h.symm
  simp [h1,h3]; split <;> split <;> omega
theorem d8s (x y:Int):cmp_Compare_int x y = some (if x < y then -1 else if x > y then 1 else 0):=by
 unfold cmp_Compare_int cmp_isNaN_int
 by_cases h1:x < y <;> by_cases h2:x > y <;> simp [h1,h2]
theorem d1i (a b:o5):a6l a b = some (b5h a b):=by
 unfold a6l strings_Compare a3q b8u
 simp only [d8s,Option.bind_some]
 unfold b5h
 by_cases h1:a.Kind = b.Kind
 ·by_cases h2:a.N = b.N
  ·have e1:(if a.Kind < b.Kind then (-1:Int) else if a.Kind > b.Kind then 1 else 0) = 0:=by rw [h1]; simp
   have e2:(if a.N < b.N then (-1:Int) else if a.N > b.N then 1 else 0) = 0:=by rw [h2]; simp
   rw [e1,e2]
   simp only [a9d,h1,h2]
   by_cases h3:Lib.compareBytes a.T b.T = 0
   ·simp [h3]
   ·simp [h3]
  ·have e1:(if a.Kind < b.Kind then (-1:Int) else if a.Kind > b.Kind then 1 else 0) = 0:=by rw [h1]; simp
   rw [e1]
   rcases Int.lt_or_gt_of_ne h2 with h3 | h3
   ·simp [a9d,h1,h2,h3]
   ·have h4:¬ a.N < b.N:=by omega
    simp [a9d,h1,h2,h3,h4]
 ·rcases Int.lt_or_gt_of_ne h1 with h3 | h3
  ·simp [a9d,h1,h3]
  ·have h4:¬ a.Kind < b.Kind:=by omega
   simp [a9d,h1,h3,h4]
theorem e3i (a b:o5):a7b a b = some (b5h a b):=by
 unfold a7b a8e b5h
 have w0:w64 (1 - w64 0) = 1:=by decide
 have w1:w64 (1 - w64 2) = -1:=by decide
 by_cases h1:a.Kind = b.Kind
 ·by_cases h2:a.N = b.N
  ·simp only [h1,h2,bne_self_eq_false,Bool.false_eq_true,if_false,ne_eq,not_true_eq_false,c6z]
   by_cases h3:a.T = b.T
   ·simp [h3,(b8f b.T b.T).2 rfl]
   ·have hne:Lib.compareBytes a.T b.T ≠ 0:=fun h => h3 ((b8f _ _).1 h)
    rcases d1h a.T b.T with h | h | h
    ·simp [h3,h,w1]
    ·exact absurd h hne
    ·simp [h3,h,w0]
  ·by_cases h3:a.N < b.N <;> simp [h1,h2,h3,w0,w1]
 ·by_cases h3:a.Kind < b.Kind <;> simp [h1,h3,w0,w1]
def b0e (a:o5):Bool :=
 (decide (a.Kind = 1) && decide (-1000000000 ≤ a.N ∧ a.N ≤ 1000000000) && decide (a.T = [])) ||
 (decide (a.Kind = 2) && decide (a.N = 0) && d1f a.T) ||
 (decide (a.Kind = 3) && decide (0 ≤ a.N ∧ a.N ≤ 1) && decide (a.T = [])) ||
 (decide (a.Kind = 4) && decide (1 ≤ a.N ∧ a.N ≤ 1000000) && decide (a.T = []))
theorem e8b (a:o5):b4b a = some (b0e a):=by
 unfold b4b a9c b4a b0e
 simp only [b0d,f1b,Option.bind_some]
 by_cases h1:a.Kind = 1
 ·simp only [h1]
  by_cases c:(-1000000000 ≤ a.N ∧ a.N ≤ 1000000000) <;> by_cases d:a.T = [] <;> simp [c,d]
 by_cases h2:a.Kind = 2
 ·simp only [h2]
  by_cases c:a.N = 0 <;> simp [c]
 by_cases h3:a.Kind = 3
 ·simp only [h3]
  by_cases c:(0 ≤ a.N ∧ a.N ≤ 1) <;> by_cases d:a.T = [] <;> simp [c,d]
 by_cases h4:a.Kind = 4
 ·simp only [h4]
  by_cases c:(1 ≤ a.N ∧ a.N ≤ 1000000) <;> by_cases d:a.T = [] <;> simp [c,d]
 ·simp [h1,h2,h3,h4]
def c5h (d:List o5) (q:Nat) (x:o5):Bool :=
 b0e x && (match d[0]? with | some h => x.Kind == h.Kind | none => false) && (q == 0 || match d[q - 1]? with | some y => decide (b5h y x < 0) | none => false)
def allS (d:List o5):List o5 → Nat → Bool
 | [],_ => true
 | x :: xs,i => c5h d i x && allS d xs (i + 1)
def b1w (d:List o5):Bool:=allS d d 0 && decide ((d.length:Int) ≤ 8)
theorem d1j (d:List o5):∀ (xs:List o5) (i:Nat),allS d xs i = true ↔ ∀ q x,xs[q]? = some x → c5h d (i + q) x = true
 | [],i => by simp [allS]
 | x :: xs,i => by
  simp only [allS,Bool.and_eq_true,d1j d xs (i + 1)]
  constructor
  ·rintro ⟨h1,h2⟩ q y hq
   cases q with
   | zero => simp at hq; subst hq; simpa using h1
   | succ q => have:=h2 q y (by simpa using hq); rw [show i + (q + 1) = i + 1 + q from by omega]; exact this
  ·intro h
   refine ⟨by simpa using h 0 x (by simp),fun q y hq => ?_⟩
   have:=h (q + 1) y (by simpa using hq)
   rw [show i + 1 + q = i + (q + 1) from by omega]; exact this
theorem e8c (d:List o5) (i:Nat) (x:o5) (hi:i < d.length) (hl:d.length ≤ maxLen) (A:o5 → Option Bool) (hA:∀ a,A a = some (b0e a)) (O:o5 → o5 → Option Int) (hO:∀ a b,O a b = some (b5h a b)) :
  ((A x).bind fun r_110 =>
  if (!r_110) then
  some true
  else
  (idx d 0).bind fun x_113 =>
  if (x.Kind != x_113.Kind) then
  some true
  else
  if (decide ((i:Int) > 0)) then
  (idx d (w64 ((i:Int) - 1))).bind fun x_117 =>
  (O x_117 x).bind fun r_119 =>
  some (decide (r_119 ≥ 0))
  else
  some false:Option Bool) = some (!c5h d i x):=by
 simp only [maxLen] at hl
 obtain ⟨h,hh⟩:∃ h,d[0]? = some h:=⟨d[0],List.getElem?_eq_getElem (by omega)⟩
 have e0:idx d 0 = some h:=by rw [show (0:Int) = ((0:Nat):Int) from rfl,a0h,hh]
 rw [hA,Option.bind_some,e0]
 unfold c5h
 rw [hh]
 by_cases ha:b0e x = true
 ·by_cases hk:x.Kind = h.Kind
  ·by_cases h0:i = 0
   ·subst h0; simp [ha,hk]
   ·obtain ⟨y,hy⟩:∃ y,d[i - 1]? = some y:=⟨d[i - 1],List.getElem?_eq_getElem (by omega)⟩
    have e1:w64 ((i:Int) - 1) = ((i - 1:Nat):Int):=by rw [a0w (by omega)]; omega
    rw [e1,a0h,hy]
    have hp:0 < i:=by omega
    simp [ha,hk,h0,hO,hp]
    by_cases hc:b5h y x < 0
    ·have:¬ 0 ≤ b5h y x:=by omega
     simp [hc,this,h0]
    ·have:0 ≤ b5h y x:=by omega
     simp [hc,this,h0]
  ·simp [ha,hk]
 ·simp only [Bool.not_eq_true] at ha
  simp [ha]
theorem c5i (d:List o5) (hl:d.length ≤ maxLen):∀ (xs:List o5) (i:Nat),d.drop i = xs → b1g d xs i = some (if allS d xs i = true then .go () else .ret false)
 | [],i,h => by rw [b1g]; simp [allS]
 | x :: xs,i,h => by
  rw [b1g,e8c d i x (a6g h) hl b4b e8b a6l d1i,Option.bind_some,c5i d hl xs (i + 1) (a2e h)]
  cases hs:c5h d i x <;> simp [allS,hs]
theorem e4x (d:List o5) (hl:d.length ≤ maxLen):b4v d = some (b1w d):=by
 unfold b4v b1w
 rw [c5i d hl d 0 (by simp)]
 cases allS d d 0 <;> simp
structure a7d (k:Int) (d:List o5):Prop where
 atom:∀ x ∈ d,b0e x = true ∧ x.Kind = k
 ord:∀ i x y,d[i]? = some x → d[i + 1]? = some y → b5h x y < 0
theorem a7d.allS {k:Int} {d:List o5} (h:a7d k d):allS d d 0 = true:=by
 rw [d1j]
 intro q x hq
 obtain ⟨h1,h2⟩:=h.atom x (List.mem_of_getElem? hq)
 have hlt:=(List.getElem?_eq_some_iff.1 hq).1
 obtain ⟨z,hz⟩:∃ z,d[0]? = some z:=⟨d[0],List.getElem?_eq_getElem (by omega)⟩
 obtain ⟨_,g2⟩:=h.atom z (List.mem_of_getElem? hz)
 unfold c5h
 simp only [Nat.zero_add,h1,hz,h2,g2,Bool.true_and,beq_self_eq_true]
 by_cases h0:q = 0
 ·simp [h0]
 ·obtain ⟨y,hy⟩:∃ y,d[q - 1]? = some y:=⟨d[q - 1],List.getElem?_eq_getElem (by omega)⟩
  have:=h.ord (q - 1) y x hy (by rw [show q - 1 + 1 = q from by omega]; exact hq)
  simp [hy,this]
theorem e4y (a:o5):b4c a = some (b0e a):=by
 unfold b4c b0e
 simp only [c0q,f4e,Option.bind_some]
 by_cases h1:a.Kind = 1
 ·simp only [h1]
  by_cases c:(-1000000000 ≤ a.N ∧ a.N ≤ 1000000000) <;> by_cases d:a.T = [] <;> simp [c,d]
 by_cases h2:a.Kind = 2
 ·simp only [h2]
  by_cases c:a.N = 0 <;> simp [c]
 by_cases h3:a.Kind = 3
 ·simp only [h3]
  by_cases c:(0 ≤ a.N ∧ a.N ≤ 1) <;> by_cases d:a.T = [] <;> simp [c,d]
 by_cases h4:a.Kind = 4
 ·simp only [h4]
  by_cases c:(1 ≤ a.N ∧ a.N ≤ 1000000) <;> by_cases d:a.T = [] <;> simp [c,d]
 ·simp [h1,h2,h3,h4]
theorem c2w (d:List o5) (hl:d.length ≤ maxLen):∀ (xs:List o5) (i:Nat),d.drop i = xs → b1l d xs i = some (if allS d xs i = true then .go () else .ret false)
 | [],i,h => by rw [b1l]; simp [allS]
 | x :: xs,i,h => by
  rw [b1l,e8c d i x (a6g h) hl b4c e4y a7b e3i,Option.bind_some,c2w d hl xs (i + 1) (a2e h)]
  cases hs:c5h d i x <;> simp [allS,hs]
theorem e1t (d:List o5):b4x d = some (b1w d):=by
 unfold b4x b1w
 by_cases h:(d.length:Int) > 4096
 ·rw [if_pos (by simpa using h)]
  have:¬ (d.length:Int) ≤ 8:=by omega
  simp [this]
 ·rw [if_neg (by simpa using h),c2w d (by simp only [maxLen]; omega) d 0 (by simp)]
  cases allS d d 0 <;> simp
def isLet (c:Int):Bool:=(decide (97 ≤ c) && decide (c ≤ 122)) || (decide (65 ≤ c) && decide (c ≤ 90)) || c == 95
def c8c (c:Int):Bool:=decide (48 ≤ c) && decide (c ≤ 57)
theorem c8d (c:Int):a9l c = some (isLet c):=by
 unfold a9l isLet
 by_cases h1:97 ≤ c <;> by_cases h2:c ≤ 122 <;> by_cases h3:65 ≤ c <;> by_cases h4:c ≤ 90 <;> by_cases h5:c = 95 <;> simp [h1,h2,h3,h4,h5]
theorem e1u (c:Int):b3h c = some (c8c c):=by
 unfold b3h c8c
 by_cases h1:48 ≤ c <;> simp [h1]
theorem e4z (c:Int):b4t c = some (c8c c):=by
 unfold b4t c8c
 by_cases h1:48 ≤ c <;> simp [h1]
def b8w (b:UInt8):Bool:=isLet b.toNat || c8c b.toNat
def a7q (t:Str):Bool:=decide (1 ≤ t.length) && decide (t.length ≤ 40) && isLet (t.headD 0).toNat && (t.drop 1).all b8w
theorem c5j:∀ (t:Str),b0q t = some (if t.all b8w then .go () else .ret false)
 | [] => by rw [b0q]; rfl
 | c :: t => by
  rw [b0q,c8d,Option.bind_some,e1u,c5j t]
  cases h1:isLet (c.toNat:Int) <;> cases h2:c8c (c.toNat:Int) <;> simp [b8w,h1,h2]
theorem e5a (t:Str):b4j t = some (a7q t):=by
 unfold b4j a7q
 cases t with
 | nil => rfl
 | cons c t =>
  have e:idx (c :: t) 0 = some c:=rfl
  rw [e,Option.bind_some,c8d,Option.bind_some,c5j]
  have e1:decide (((c :: t).length:Int) < 1) = false:=decide_eq_false (by simp only [List.length_cons]; omega)
  have e2:decide (1 ≤ (c :: t).length) = true:=decide_eq_true (by simp only [List.length_cons]; omega)
  rw [e1,e2]
  by_cases h:(c :: t).length ≤ 40
  ·have e3:decide (((c :: t).length:Int) > 40) = false:=decide_eq_false (by omega)
   have e4:decide ((c :: t).length ≤ 40) = true:=decide_eq_true h
   rw [e3,e4]
   cases h1:isLet (c.toNat:Int) <;> cases h3:t.all b8w <;> simp [h1,h3]
  ·have e3:decide (((c :: t).length:Int) > 40) = true:=decide_eq_true (by omega)
   have e4:decide ((c :: t).length ≤ 40) = false:=decide_eq_false h
   rw [e3,e4]
   simp
theorem b8x (t:Str):a8f t = some (a7q t):=by
 unfold a8f
 rw [e5a]; rfl
def d8t (p:UInt8 × Nat):Bool:=isLet p.1.toNat || (p.2 != 0 && c8c p.1.toNat)
theorem c8e:∀ (t:Str) (i:Nat),a5b t i = some (if (t.zipIdx i).all d8t then .go () else .ret false)
 | [],i => by rw [a5b]; rfl
 | c :: t,i => by
  have e0:((i:Int) == 0) = (i == 0):=by cases i <;> simp; omega
  rw [a5b,c8e t (i + 1),List.zipIdx_cons,List.all_cons,e4z,e0]
  unfold d8t isLet
  generalize (List.zipIdx t (i + 1)).all _ = A
  generalize c8c (c.toNat:Int) = D
  generalize (c.toNat:Int) = n
  by_cases h1:97 ≤ n <;> by_cases h2:n ≤ 122 <;> by_cases h3:65 ≤ n <;> by_cases h4:n ≤ 90 <;> by_cases h5:n = 95 <;> cases D <;> by_cases h0:i = 0 <;> simp [h1,h2,h3,h4,h5,h0]
theorem d8u (t:Str):b2k t = some (a7q t):=by
 unfold b2k a7q
 rw [c8e,Option.bind_some]
 have hz:∀ (r:Str) (k:Nat),(r.zipIdx (k + 1)).all d8t = r.all b8w:=by
  intro r
  induction r with
  | nil => intro k; rfl
  | cons c r ih => intro k; simp only [List.zipIdx_cons,List.all_cons,ih (k + 1)]; rfl
 cases t with
 | nil => simp [b0d]
 | cons c t =>
  rw [List.zipIdx_cons,List.all_cons,hz t 0]
  have hl:decide (1 ≤ (c :: t).length) = true:=decide_eq_true (by simp)
  have e:d8t (c,0) = isLet (c.toNat:Int):=by simp [d8t]
  rw [e,hl,b0d,Bool.decide_and]
  have e2:decide ((1:Int) ≤ ((c :: t).length:Int)) = true:=decide_eq_true (by simp only [List.length_cons]; omega)
  have e3:decide (((c :: t).length:Int) ≤ 40) = decide ((c :: t).length ≤ 40):=by rw [decide_eq_decide]; omega
  rw [e2,e3]
  show _ = some ((true && _ && isLet (c.toNat:Int)) && t.all b8w)
  cases isLet (c.toNat:Int) <;> cases t.all b8w <;> simp
theorem d1k {α:Type} (p:α → Bool):∀ l:List α,(l.any fun x => !p x) = !l.all p
 | [] => rfl
 | x :: l => by simp only [List.any_cons,List.all_cons,d1k p l,Bool.not_and]
def e1v (r:o8):Prop:=∀ d ∈ r.Cells,d.length ≤ maxLen
def c7a (c:y7) (x:o5):Bool:=!decide (c.Low ≤ x.N ∧ x.N ≤ c.High)
theorem d8v (c:y7):∀ (xs:List o5) (i:Nat),a0i (fun a => a2y a c) xs i = some (.go ()) ∧ xs.any (c7a c) = false ∨ ∃ j:Nat,a0i (fun a => a2y a c) xs i = some (.ret (j:Int)) ∧ xs.any (c7a c) = true
 | [],i => .inl ⟨by rw [a0i],rfl⟩
 | x :: xs,i => by
  rw [a0i]
  have e:a2y x c = some (c7a c x):=by unfold a2y; rw [b0d,Option.bind_some]; rfl
  rw [e,Option.bind_some]
  cases h:c7a c x with
  | true => rw [if_pos rfl]; exact .inr ⟨i,rfl,by simp [h]⟩
  | false =>
   rw [if_neg (by simp)]
   rcases d8v c xs (i + 1) with ⟨h1,h2⟩ | ⟨j,h1,h2⟩
   ·exact .inl ⟨h1,by simp [h,h2]⟩
   ·exact .inr ⟨j,h1,by simp [h,h2]⟩
theorem e1w (c:y7) (d:List o5):a0j d (fun a => a2y a c) = some (d.any (c7a c)):=by
 unfold a0j a1e
 rcases d8v c d 0 with ⟨h1,h2⟩ | ⟨j,h1,h2⟩
 ·rw [h1,h2]; rfl
 ·rw [h1,h2]; simp
theorem d1l (c:y7):∀ (xs:List o5),b0v c xs = some (if (c.Kind == 1 && xs.any (c7a c)) = true then .ret 4 else .go ())
 | [] => by rw [b0v]; simp
 | x :: xs => by
  rw [b0v,d1l c xs]
  by_cases k:c.Kind = 1
  ·rw [if_pos (by simpa using k),c0q,Option.bind_some,Option.bind_some]
   have e:(!decide (c.Low ≤ x.N ∧ x.N ≤ c.High)) = c7a c x:=rfl
   rw [e]
   cases h:c7a c x <;> simp [k,h]
  ·rw [if_neg (by simpa using k),Option.bind_some,if_neg (by simp)]
   simp [k]
def b3c (c:y7) (d:List o5):Int :=
 if (match d[0]? with | some x => x.Kind != c.Kind | none => false) = true then 9 else if ¬ (c.Min ≤ d.length ∧ (d.length:Int) ≤ c.Max) then 6 else if (c.Kind == 1 && d.any (c7a c)) = true then 4 else 0
theorem e8d (c:y7) (d:List o5):((if (decide ((d.length:Int) > 0)) then (idx d 0).bind fun x_11 => some (x_11.Kind != c.Kind) else some false:Option Bool)) = some (match d[0]? with | some x => x.Kind != c.Kind | none => false):=by
 cases d with
 | nil => rfl
 | cons x xs =>
  rw [if_pos (by simp)]
  rfl
theorem f4f (c:y7) (d:List o5):a9u c d = some (b3c c d):=by
 unfold a9u b3c
 rw [e8d,Option.bind_some]
 generalize (match d[0]? with | some x => x.Kind != c.Kind | none => false) = b
 cases b with
 | true => simp
 | false =>
  simp only [Bool.false_eq_true,if_false]
  rw [b0d,Option.bind_some]
  by_cases h:c.Min ≤ d.length ∧ (d.length:Int) ≤ c.Max
  ·rw [decide_eq_true h,if_neg (not_not_intro h)]
   simp only [Bool.not_true,Bool.false_eq_true,if_false]
   by_cases k:c.Kind = 1
   ·rw [if_pos (by simpa using k),e1w,Option.bind_some]
    cases hh:d.any (c7a c) <;> simp [k]
   ·rw [if_neg (by simpa using k)]
    simp [k]
  ·rw [decide_eq_false h,if_pos h]
   simp
theorem d5w (c:y7) (d:List o5):a8i c d = some (b3c c d):=by
 unfold a8i b3c
 rw [e8d,Option.bind_some]
 generalize (match d[0]? with | some x => x.Kind != c.Kind | none => false) = b
 cases b with
 | true => simp
 | false =>
  simp only [Bool.false_eq_true,if_false]
  rw [c0q,Option.bind_some]
  by_cases h:c.Min ≤ d.length ∧ (d.length:Int) ≤ c.Max
  ·rw [decide_eq_true h,if_neg (not_not_intro h)]
   simp only [Bool.not_true,Bool.false_eq_true,if_false]
   rw [d1l]
   cases hh:(c.Kind == 1 && d.any (c7a c)) <;> simp
  ·rw [decide_eq_false h,if_pos h]
   simp
theorem f6o {α:Type} [BEq α] [LawfulBEq α] [DecidableEq α] (a b:α):(a == b) = decide (a = b):=by by_cases h:a = b <;> simp [h]
def a1p {α:Type} (f:Nat → α → Bool):List α → Nat → Bool
 | [],_ => true
 | x :: xs,i => f i x && a1p f xs (i + 1)
theorem b1p {α:Type} (f:Nat → α → Bool):∀ (xs:List α) (i:Nat),a1p f xs i = true ↔ ∀ q x,xs[q]? = some x → f (i + q) x = true
 | [],i => by simp [a1p]
 | x :: xs,i => by
  simp only [a1p,Bool.and_eq_true,b1p f xs (i + 1)]
  constructor
  ·rintro ⟨h1,h2⟩ q y hq
   cases q with
   | zero => simp at hq; subst hq; simpa using h1
   | succ q => have:=h2 q y (by simpa using hq); rw [show i + (q + 1) = i + 1 + q from by omega]; exact this
  ·intro h
   refine ⟨by simpa using h 0 x (by simp),fun q y hq => ?_⟩
   have:=h (q + 1) y (by simpa using hq)
   rw [show i + 1 + q = i + (q + 1) from by omega]; exact this
theorem d8w {α:Type} (f:Nat → α → Bool) (g:α → Bool):∀ (xs:List α) (i:Nat),a1p (fun i x => f i x && g x) xs i = (a1p f xs i && xs.all g)
 | [],i => rfl
 | x :: xs,i => by
  simp only [a1p,List.all_cons,d8w f g xs (i + 1)]
  cases f i x <;> cases g x <;> simp
theorem c0r {α:Type} {f:Nat → α → Bool} {xs:List α} {i:Nat} (h:a1p f xs i = true) {x:α} (hx:x ∈ xs):∃ q,f q x = true:=by
 obtain ⟨q,hq⟩:=List.mem_iff_getElem?.1 hx
 exact ⟨_,(b1p f xs i).1 h q x hq⟩
def atI (o:Option Nat):Int:=match o with | some k => (k:Int) | none => -1
theorem b7o {o:Option Nat}:decide (atI o < 0) = o.isNone:=by
 cases o with
 | none => rfl
 | some k => exact decide_eq_false (show ¬ ((k:Nat):Int) < 0 by omega)
theorem f4g {o:Option Nat}:decide (atI o ≥ 0) = o.isSome:=by
 cases o with
 | none => rfl
 | some k => simp [atI]
def b1x (t:o6) (name:Str):Option Nat:=t.Columns.findIdx? (fun c => c.Name == name)
def b4d (s:o7) (name:Str):Option Nat:=s.Tables.findIdx? (fun c => c.Name == name)
theorem b5x {t:o6} {name:Str} {k:Nat} (h:b1x t name = some k):∃ x,idx t.Columns (k:Int) = some x ∧ t.Columns[k]? = some x:=by
 obtain ⟨h1,h2,_⟩:=List.findIdx?_eq_some_iff_getElem.1 h
 exact ⟨t.Columns[k],by rw [a0h]; simp [h1],by simp [h1]⟩
theorem e8e {s:o7} {name:Str} {k:Nat} (h:b4d s name = some k):∃ x,idx s.Tables (k:Int) = some x ∧ x ∈ s.Tables:=by
 obtain ⟨h1,h2,_⟩:=List.findIdx?_eq_some_iff_getElem.1 h
 exact ⟨s.Tables[k],by rw [a0h]; simp [h1],List.getElem_mem _⟩
theorem c0t (name:Str):∀ (xs:List y7) (i:Nat),a8g name xs i = some (match xs.findIdx? (fun c => c.Name == name) with | some k => .ret ((i + k:Nat):Int) | none => .go ())
 | [],i => by rw [a8g]; rfl
 | x :: xs,i => by
  rw [a8g,c0t name xs (i + 1),List.findIdx?_cons]
  cases hp:(x.Name == name) with
  | true => simp
  | false =>
   cases hq:xs.findIdx? (fun c => c.Name == name) with
   | none => simp
   | some k => simp; omega
theorem b0l (t:o6) (name:Str):a2g t name = some (atI (b1x t name)):=by
 unfold a2g b1x atI
 rw [c0t]
 cases hq:t.Columns.findIdx? (fun c => c.Name == name) <;> simp
theorem c5k (name:Str):∀ (xs:List o6) (i:Nat),b0r name xs i = some (match xs.findIdx? (fun c => c.Name == name) with | some k => .ret ((i + k:Nat):Int) | none => .go ())
 | [],i => by rw [b0r]; rfl
 | x :: xs,i => by
  rw [b0r,c5k name xs (i + 1),List.findIdx?_cons]
  cases hp:(x.Name == name) with
  | true => simp
  | false =>
   cases hq:xs.findIdx? (fun c => c.Name == name) with
   | none => simp
   | some k => simp; omega
theorem b8g (s:o7) (name:Str):a4h s name = some (atI (b4d s name)):=by
 unfold a4h b4d atI
 rw [c5k]
 cases hq:s.Tables.findIdx? (fun c => c.Name == name) <;> simp
theorem e1x (t:o6) (name:Str):a6v t name = some (atI (b1x t name)):=by
 unfold a6v
 rw [a5d _ (fun c => c.Name == name) t.Columns (fun x _ => by unfold a5i; rfl)]
 rfl
theorem c7b (s:o7) (name:Str):a3u s name = some (atI (b4d s name)):=by
 unfold a3u
 rw [a5l _ (fun c => c.Name == name) s.Tables (fun x _ => by unfold a5j; rfl)]
 rfl
def c2h (c:y7):Bool :=
  a7q c.Name && decide (0 ≤ c.Min ∧ c.Min ≤ 1) && decide (1 ≤ c.Max ∧ c.Max ≤ 8) &&
  ((decide (c.Kind = 1) && decide (-1000000000 ≤ c.Low ∧ c.Low ≤ c.High ∧ c.High ≤ 1000000000) && decide (c.Ref = []) && !c.Strong) ||
   ((decide (c.Kind = 2) || decide (c.Kind = 3)) && decide (c.Low = 0) && decide (c.High = 0) && decide (c.Ref = []) && !c.Strong) ||
   (decide (c.Kind = 4) && decide (c.Low = 0) && decide (c.High = 0) && a7q c.Ref && decide (c.Min = 0)))
theorem e1y (c:y7):b3m c = some (c2h c):=by
 unfold b3m a9c c2h
 simp only [d8u,b0d,Option.bind_some,f6o]
 by_cases h1:0 ≤ c.Min ∧ c.Min ≤ 1
 ·by_cases h2:1 ≤ c.Max ∧ c.Max ≤ 8
  ·cases hn:a7q c.Name with
   | false => simp
   | true =>
    simp only [h1,h2,and_self,decide_true,Bool.not_true,Bool.false_eq_true,if_false,Option.bind_some,Bool.true_and]
    by_cases k1:c.Kind = 1
    ·simp only [k1]
     by_cases a1:-1000000000 ≤ c.Low ∧ c.Low ≤ c.High ∧ c.High ≤ 1000000000
     ·have e1:-1000000000 ≤ c.Low ∧ c.Low ≤ 1000000000:=by omega
      have e2:-1000000000 ≤ c.High ∧ c.High ≤ 1000000000:=by omega
      simp [a1,e1,e2]
     ·by_cases e1:-1000000000 ≤ c.Low ∧ c.Low ≤ 1000000000
      ·by_cases e2:-1000000000 ≤ c.High ∧ c.High ≤ 1000000000
       ·have e3:¬ c.Low ≤ c.High:=by omega
        simp [a1,e1,e2,e3]
       ·have a1':¬ (c.Low ≤ c.High ∧ c.High ≤ 1000000000):=by omega
        simp [e1,e2]
        intro p q; exact absurd ⟨p,q⟩ a1'
      ·have a2:(-1000000000 ≤ c.Low ∧ c.Low ≤ c.High ∧ c.High ≤ 1000000000) = False:=eq_false a1
       simp only [e1,a2]; simp
    ·by_cases k2:c.Kind = 2
     ·simp [k2]
     ·by_cases k3:c.Kind = 3
      ·simp [k3]
      ·by_cases k4:c.Kind = 4
       ·simp only [k4]
        by_cases a1:c.Low = 0 <;> by_cases a2:c.High = 0 <;> cases a3:a7q c.Ref <;> simp [a1,a2]
       ·simp [k1,k2,k3,k4]
  ·cases hn:a7q c.Name <;> simp [h1,h2]
 ·cases hn:a7q c.Name <;> simp [h1]
theorem d8x (c:y7):b3p c = some (c2h c):=by
 unfold b3p c2h
 simp only [b8x,c0q,Option.bind_some,f6o,bne]
 by_cases h1:0 ≤ c.Min ∧ c.Min ≤ 1
 ·by_cases h2:1 ≤ c.Max ∧ c.Max ≤ 8
  ·cases hn:a7q c.Name with
   | false => simp
   | true =>
    by_cases hk:1 ≤ c.Kind ∧ c.Kind ≤ 4
    ·simp only [h1,h2,hk,and_self,decide_true,Bool.not_true,Bool.false_eq_true,if_false,Option.bind_some,Bool.true_and]
     by_cases k1:c.Kind = 1
     ·simp only [k1]
      by_cases a1:-1000000000 ≤ c.Low ∧ c.Low ≤ c.High ∧ c.High ≤ 1000000000
      ·have e1:-1000000000 ≤ c.Low ∧ c.Low ≤ c.High:=by omega
       have e2:c.Low ≤ c.High ∧ c.High ≤ 1000000000:=by omega
       simp [a1,e1,e2]
      ·by_cases e1:-1000000000 ≤ c.Low ∧ c.Low ≤ c.High
       ·have e2:¬ (c.Low ≤ c.High ∧ c.High ≤ 1000000000):=by omega
        simp [a1,e1,e2]
       ·simp [a1,e1]
     ·by_cases a1:c.Low = 0
      ·by_cases a2:c.High = 0
       ·by_cases k4:c.Kind = 4
        ·cases a3:a7q c.Ref <;> simp [k4,a1,a2]
        ·have:c.Kind = 2 ∨ c.Kind = 3:=by omega
         by_cases a4:c.Ref = [] <;> rcases this with k | k <;> simp [k,a1,a2,a4]
       ·simp [k1,a1,a2]
      ·simp [k1,a1]
    ·have k1:¬ c.Kind = 1:=by omega
     have k2:¬ c.Kind = 2:=by omega
     have k3:¬ c.Kind = 3:=by omega
     have k4:¬ c.Kind = 4:=by omega
     simp [hk,k1,k2,k3,k4]
  ·cases hn:a7q c.Name <;> by_cases hk:1 ≤ c.Kind ∧ c.Kind ≤ 4 <;> simp [h1,h2,hk]
 ·cases hn:a7q c.Name <;> by_cases hk:1 ≤ c.Kind ∧ c.Kind ≤ 4 <;> simp [h1,hk]
theorem e8f {c:y7} (h:c2h c = true):(c.Kind = 4 ↔ c.Ref ≠ []):=by
 unfold c2h at h
 simp only [Bool.and_eq_true,Bool.or_eq_true,decide_eq_true_eq] at h
 rcases h.2 with (⟨⟨⟨h1,_⟩,h2⟩,_⟩ | ⟨⟨⟨⟨h1,_⟩,_⟩,h2⟩,_⟩) | ⟨⟨⟨⟨h1,_⟩,_⟩,h2⟩,_⟩
 ·simp [h1,h2]
 ·have:c.Kind ≠ 4:=by omega
  simp [this,h2]
 ·refine ⟨fun _ he => ?_,fun _ => h1⟩
  rw [he] at h2
  cases h2
def b7p (t:o6) (i:Nat) (x:y7):Bool:=c2h x && !(t.Columns.take i).any (fun c => c.Name == x.Name)
theorem e5b {t:o6} {i:Nat} {x:y7} (hx:t.Columns[i]? = some x):(atI (b1x t x.Name) != (i:Int)) = (t.Columns.take i).any (fun c => c.Name == x.Name):=by
 have hi:=(List.getElem?_eq_some_iff.1 hx).1
 have hxe:=(List.getElem?_eq_some_iff.1 hx).2
 by_cases ha:(t.Columns.take i).any (fun c => c.Name == x.Name) = true
 ·rw [ha]
  obtain ⟨c,hc,hn⟩:=List.any_eq_true.1 ha
  obtain ⟨j,hj⟩:=List.mem_iff_getElem?.1 hc
  have hji:j < i:=by have:=(List.getElem?_eq_some_iff.1 hj).1; simp at this; omega
  rw [List.getElem?_take_of_lt hji] at hj
  have hne:b1x t x.Name ≠ some i:=by
   intro he
   obtain ⟨_,_,h3⟩:=List.findIdx?_eq_some_iff_getElem.1 he
   have:=h3 j hji
   rw [(List.getElem?_eq_some_iff.1 hj).2] at this
   exact this hn
  cases hk:b1x t x.Name with
  | none => simp [atI]
  | some k =>
   have:k ≠ i:=fun h => hne (by rw [hk,h])
   simp [atI]; omega
 ·simp only [Bool.not_eq_true] at ha
  rw [ha]
  have:b1x t x.Name = some i:=by
   refine List.findIdx?_eq_some_iff_getElem.2 ⟨hi,by simp [hxe],fun j hj => ?_⟩
   have hm:t.Columns[j]'(by omega) ∈ t.Columns.take i:=by
    rw [List.mem_iff_getElem?]
    exact ⟨j,by rw [List.getElem?_take_of_lt hj]; simp⟩
   have:=List.any_eq_false.1 ha _ hm
   simpa using this
  rw [this]
  simp [atI]
theorem c5l (t:o6):∀ (xs:List y7) (i:Nat),t.Columns.drop i = xs → b1d t xs i = some (if a1p (b7p t) xs i = true then .go () else .ret false)
 | [],i,_ => by rw [b1d]; simp [a1p]
 | x :: xs,i,h => by
  have hx:t.Columns[i]? = some x:=by rw [← a0h]; exact e7b h
  rw [b1d,e1y,Option.bind_some,e1x,Option.bind_some,e5b hx,c5l t xs (i + 1) (a2e h)]
  cases h1:c2h x <;> cases h2:(t.Columns.take i).any (fun c => c.Name == x.Name) <;> simp [a1p,b7p,h1,h2]
theorem c2x (t:o6) (x:y7) (i:Nat) (hi:i ≤ t.Columns.length) (hl:t.Columns.length ≤ 6):∀ (n k fuel:Nat),n + k = i → n < fuel → a7g i t x fuel k = some (if ((t.Columns.take i).drop k).any (fun c => c.Name == x.Name) = true then .ret false else .go ())
 | _,_,0,_,h => by omega
 | 0,k,fuel + 1,hk,_ => by
  rw [a7g,if_neg (by simp; omega),List.drop_of_length_le (by simp; omega)]; simp
 | n + 1,k,fuel + 1,hk,hf => by
  obtain ⟨y,hy⟩:∃ y,t.Columns[k]? = some y:=⟨t.Columns[k]'(by omega),List.getElem?_eq_getElem (by omega)⟩
  have hd:(t.Columns.take i).drop k = y :: (t.Columns.take i).drop (k + 1):=by
   have hk2:k < (t.Columns.take i).length:=by simp; omega
   rw [List.drop_eq_getElem_cons hk2]
   congr 1
   rw [List.getElem_take]
   exact (List.getElem?_eq_some_iff.1 hy).2
  have ew:w64 ((k:Int) + 1) = ((k + 1:Nat):Int):=by rw [a0w (by omega)]; omega
  rw [a7g,if_pos (by simp; omega),a0h,hy,Option.bind_some,ew,c2x t x i hi hl n (k + 1) fuel (by omega) (by omega),hd]
  cases hn:(y.Name == x.Name) <;> simp [hn]
theorem c2y (t:o6) (hl:t.Columns.length ≤ 6):∀ (xs:List y7) (i:Nat),t.Columns.drop i = xs → a9x t xs i = some (if a1p (b7p t) xs i = true then .go () else .ret false)
 | [],i,_ => by rw [a9x]; simp [a1p]
 | x :: xs,i,h => by
  have hi:=a6g h
  have hf:2 ^ 40 < FUEL:=by unfold FUEL; decide
  have e:=c2x t x i (by omega) hl i 0 FUEL (by omega) (by omega)
  rw [List.drop_zero] at e
  have e':a7g i t x FUEL 0 = _:=e
  rw [a9x,d8x,Option.bind_some,e',c2y t hl xs (i + 1) (a2e h)]
  cases h1:c2h x <;> cases h2:(t.Columns.take i).any (fun c => c.Name == x.Name) <;> simp [a1p,b7p,h1,h2]
def a6m (t:o6) (i:Nat) (x:Int):Bool:=decide (0 ≤ x ∧ x ≤ (t.Columns.length:Int) - 1) && (i == 0 || match t.Unique[i - 1]? with | some y => decide (y < x) | none => false)
theorem f2t (t:o6) (i:Nat) (x:Int) (hi:i < t.Unique.length) (hl:t.Unique.length ≤ 6) (hc:t.Columns.length ≤ 6) (W:Int → Int → Int → Option Bool) (hW:∀ n a b,W n a b = some (decide (a ≤ n ∧ n ≤ b))) :
  ((W x 0 (w64 ((t.Columns.length:Int) - 1))).bind fun r_176 =>
  if (!r_176) then
  some true
  else
  if (decide ((i:Int) > 0)) then
  (idx t.Unique (w64 ((i:Int) - 1))).bind fun x_180 =>
  some (decide (x_180 ≥ x))
  else
  some false:Option Bool) = some (!a6m t i x):=by
 rw [hW,Option.bind_some,a0w (n:=(t.Columns.length:Int) - 1) (by omega)]
 unfold a6m
 by_cases h:0 ≤ x ∧ x ≤ (t.Columns.length:Int) - 1
 ·by_cases h0:i = 0
  ·subst h0; simp [h]
  ·obtain ⟨y,hy⟩:∃ y,t.Unique[i - 1]? = some y:=⟨t.Unique[i - 1],List.getElem?_eq_getElem (by omega)⟩
   have e1:w64 ((i:Int) - 1) = ((i - 1:Nat):Int):=by rw [a0w (by omega)]; omega
   rw [e1,a0h,hy]
   have hp:0 < i:=by omega
   by_cases hc:y < x
   ·have:¬ x ≤ y:=by omega
    simp [h,h0,hp,hc,this]
   ·have:x ≤ y:=by omega
    simp [h,h0,hp,hc,this]
 ·simp [h]
theorem c5m (t:o6) (hl:t.Unique.length ≤ 6) (hc:t.Columns.length ≤ 6):∀ (xs:List Int) (i:Nat),t.Unique.drop i = xs → b1e t xs i = some (if a1p (a6m t) xs i = true then .go () else .ret false)
 | [],i,_ => by rw [b1e]; simp [a1p]
 | x :: xs,i,h => by
  rw [b1e,f2t t i x (a6g h) hl hc a2r b0d,Option.bind_some,c5m t hl hc xs (i + 1) (a2e h)]
  cases h1:a6m t i x <;> simp [a1p,h1]
theorem c2z (t:o6) (hl:t.Unique.length ≤ 6) (hc:t.Columns.length ≤ 6):∀ (xs:List Int) (i:Nat),t.Unique.drop i = xs → a9y t xs i = some (if a1p (a6m t) xs i = true then .go () else .ret false)
 | [],i,_ => by rw [a9y]; simp [a1p]
 | x :: xs,i,h => by
  rw [a9y,f2t t i x (a6g h) hl hc a1o c0q,Option.bind_some,c2z t hl hc xs (i + 1) (a2e h)]
  cases h1:a6m t i x <;> simp [a1p,h1]
theorem e8g (t:o6) (h:a1p (a6m t) t.Unique 0 = true):∀ (i:Nat) x,t.Unique[i]? = some x → (i:Int) ≤ x
 | 0,x,hx => by
  have:=(b1p _ _ _).1 h 0 x hx
  simp only [a6m,Bool.and_eq_true,decide_eq_true_eq] at this
  exact this.1.1
 | i + 1,x,hx => by
  have hl:=(List.getElem?_eq_some_iff.1 hx).1
  obtain ⟨y,hy⟩:∃ y,t.Unique[i]? = some y:=⟨t.Unique[i],List.getElem?_eq_getElem (by omega)⟩
  have h1:=e8g t h i y hy
  have:=(b1p _ _ _).1 h (i + 1) x hx
  simp only [a6m,Bool.and_eq_true,decide_eq_true_eq,Bool.or_eq_true,Nat.zero_add,Nat.add_sub_cancel,hy] at this
  rcases this.2 with h2 | h2
  ·simp at h2
  ·omega
theorem c9k (t:o6) (h:a1p (a6m t) t.Unique 0 = true):t.Unique.length ≤ t.Columns.length:=by
 rcases Nat.eq_zero_or_pos t.Unique.length with h0 | h0
 ·omega
 ·obtain ⟨x,hx⟩:∃ x,t.Unique[t.Unique.length - 1]? = some x:=⟨t.Unique[t.Unique.length - 1],List.getElem?_eq_getElem (by omega)⟩
  have h1:=e8g t h _ x hx
  have:=(b1p _ _ _).1 h _ x hx
  simp only [a6m,Bool.and_eq_true,decide_eq_true_eq] at this
  have:=this.1.2
  omega
def b8y (t:o6):Bool:=a7q t.Name && decide (1 ≤ (t.Columns.length:Int) ∧ (t.Columns.length:Int) ≤ 6) && a1p (b7p t) t.Columns 0 && a1p (a6m t) t.Unique 0
theorem d4e (t:o6):b0o t = some (b8y t):=by
 unfold b0o b8y
 rw [d8u,Option.bind_some,b0d,Option.bind_some]
 cases hn:a7q t.Name with
 | false => simp
 | true =>
  by_cases hc:1 ≤ (t.Columns.length:Int) ∧ (t.Columns.length:Int) ≤ 6
  ·by_cases hu:(t.Unique.length:Int) > (t.Columns.length:Int)
   ·have:a1p (a6m t) t.Unique 0 = false:=by
     cases hh:a1p (a6m t) t.Unique 0 with
     | false => rfl
     | true => have:=c9k t hh; omega
    simp [hc,hu,this]
   ·rw [c5l t t.Columns 0 (by simp),c5m t (by omega) (by omega) t.Unique 0 (by simp)]
    cases h1:a1p (b7p t) t.Columns 0 <;> cases h2:a1p (a6m t) t.Unique 0 <;> simp [hc,hu]
  ·simp [hc]
theorem e1z (t:o6):b1t t = some (b8y t):=by
 unfold b1t b8y
 rw [b8x,Option.bind_some,c0q,Option.bind_some]
 cases hn:a7q t.Name with
 | false => simp
 | true =>
  by_cases hc:1 ≤ (t.Columns.length:Int) ∧ (t.Columns.length:Int) ≤ 6
  ·by_cases hu:(t.Unique.length:Int) > 6
   ·have:a1p (a6m t) t.Unique 0 = false:=by
     cases hh:a1p (a6m t) t.Unique 0 with
     | false => rfl
     | true => have:=c9k t hh; omega
    simp [hc,hu,this]
   ·rw [c2y t (by omega) t.Columns 0 (by simp),c2z t (by omega) (by omega) t.Unique 0 (by simp)]
    cases h1:a1p (b7p t) t.Columns 0 <;> cases h2:a1p (a6m t) t.Unique 0 <;> simp [hc,hu]
  ·simp [hc]
def b0f (s:o7) (c:y7):Bool:=!(decide (c.Kind = 4) && (b4d s c.Ref).isNone)
def b2z (s:o7) (i:Nat) (x:o6):Bool:=b8y x && (i == 0 || match s.Tables[i - 1]? with | some y => Op.bytesLess y.Name x.Name | none => false)
def a7v (s:o7):Bool:=decide (1 ≤ (s.Tables.length:Int) ∧ (s.Tables.length:Int) ≤ 4) && a1p (b2z s) s.Tables 0 && s.Tables.all (fun t => t.Columns.all (b0f s))
theorem e3j (s:o7) (i:Nat) (x:o6) (hi:i < s.Tables.length) (hl:s.Tables.length ≤ 4) (T:o6 → Option Bool) (hT:∀ t,T t = some (b8y t)) :
  ((T x).bind fun r_79 =>
  if (!r_79) then
  some true
  else
  if (decide ((i:Int) > 0)) then
  (idx s.Tables (w64 ((i:Int) - 1))).bind fun x_83 =>
  some (!Op.bytesLess x_83.Name x.Name)
  else
  some false:Option Bool) = some (!b2z s i x):=by
 rw [hT,Option.bind_some]
 unfold b2z
 cases b8y x with
 | false => simp
 | true =>
  by_cases h0:i = 0
  ·subst h0; simp
  ·obtain ⟨y,hy⟩:∃ y,s.Tables[i - 1]? = some y:=⟨s.Tables[i - 1],List.getElem?_eq_getElem (by omega)⟩
   have e1:w64 ((i:Int) - 1) = ((i - 1:Nat):Int):=by rw [a0w (by omega)]; omega
   rw [e1,a0h,hy]
   have hp:0 < i:=by omega
   simp [h0,hp]
theorem c3a (s:o7) (hl:s.Tables.length ≤ 4):∀ (xs:List o6) (i:Nat),s.Tables.drop i = xs → a9t s xs i = some (if a1p (b2z s) xs i = true then .go () else .ret false)
 | [],i,_ => by rw [a9t]; simp [a1p]
 | x :: xs,i,h => by
  rw [a9t,e3j s i x (a6g h) hl b0o d4e,Option.bind_some,c3a s hl xs (i + 1) (a2e h)]
  cases h1:b2z s i x <;> simp [a1p,h1]
theorem d1m (s:o7):b1s s = some (a7v s):=by
 unfold b1s a7v
 rw [b0d,Option.bind_some]
 by_cases hc:1 ≤ (s.Tables.length:Int) ∧ (s.Tables.length:Int) ≤ 4
 ·have e1:∀ c:y7,a6k c s = some (!b0f s c):=by
   intro c
   unfold a6k b0f
   by_cases k:c.Kind = 4
   ·rw [if_pos (by simpa using k),c7b,Option.bind_some,b7o]; simp [k]
   ·rw [if_neg (by simpa using k)]; simp [k]
  have e2:∀ t:o6,a8a t s = some (!t.Columns.all (b0f s)):=by
   intro t
   unfold a8a
   rw [a9e _ (fun c => !b0f s c) t.Columns (fun x _ => e1 x),Option.bind_some,List.not_all_eq_any_not]
  rw [c3a s (by omega) s.Tables 0 (by simp),b0h _ (fun t => !t.Columns.all (b0f s)) s.Tables (fun x _ => e2 x)]
  have e3:(s.Tables.any fun t => !t.Columns.all (b0f s)) = !s.Tables.all (fun t => t.Columns.all (b0f s)):=by rw [List.not_all_eq_any_not]
  rw [e3]
  cases a1p (b2z s) s.Tables 0 <;> cases s.Tables.all (fun t => t.Columns.all (b0f s)) <;> simp [hc]
 ·simp [hc]
theorem c0u (s:o7):∀ (xs:List y7),(∀ c ∈ xs,c2h c = true) → a9z s xs = some (if xs.all (b0f s) = true then .go () else .ret false)
 | [],_ => by rw [a9z]; simp
 | x :: xs,h => by
  have hr:=e8f (h x (by simp))
  rw [a9z,b8g,Option.bind_some,b7o,c0u s xs (fun c hc => h c (by simp [hc]))]
  by_cases k:x.Ref = []
  ·have k4:¬ x.Kind = 4:=fun hh => hr.1 hh k
   simp [k,b0f,k4]
  ·have k4:x.Kind = 4:=hr.2 k
   cases hn:(b4d s x.Ref).isNone <;> simp [k,b0f,k4,hn]
theorem c1y {t:o6} (h:b8y t = true):∀ c ∈ t.Columns,c2h c = true:=by
 intro c hc
 simp only [b8y,Bool.and_eq_true] at h
 obtain ⟨q,hq⟩:=c0r h.1.2 hc
 simp only [b7p,Bool.and_eq_true] at hq
 exact hq.1
theorem c0w (s:o7) (hl:s.Tables.length ≤ 4):∀ (xs:List o6) (i:Nat),s.Tables.drop i = xs → b0a s xs i = some (if a1p (fun i x => b2z s i x && x.Columns.all (b0f s)) xs i = true then .go () else .ret false)
 | [],i,_ => by rw [b0a]; simp [a1p]
 | x :: xs,i,h => by
  rw [b0a,e3j s i x (a6g h) hl b1t e1z,Option.bind_some,c0w s hl xs (i + 1) (a2e h)]
  cases ht:b2z s i x with
  | false => simp [a1p,ht]
  | true =>
   have hb:b8y x = true:=by simp only [b2z,Bool.and_eq_true] at ht; exact ht.1
   rw [c0u s x.Columns (c1y hb)]
   cases hr:x.Columns.all (b0f s) <;> simp [a1p,ht,hr]
theorem d8y (s:o7):b1u s = some (a7v s):=by
 unfold b1u a7v
 rw [c0q,Option.bind_some]
 by_cases hc:1 ≤ (s.Tables.length:Int) ∧ (s.Tables.length:Int) ≤ 4
 ·rw [c0w s (by omega) s.Tables 0 (by simp),d8w (b2z s) (fun x => x.Columns.all (b0f s))]
  cases a1p (b2z s) s.Tables 0 <;> cases s.Tables.all (fun t => t.Columns.all (b0f s)) <;> simp [hc]
 ·simp [hc]
theorem b7e {s:o7} (h:a7v s = true) {t:o6} (ht:t ∈ s.Tables):b8y t = true:=by
 simp only [a7v,Bool.and_eq_true] at h
 obtain ⟨q,hq⟩:=c0r h.1.2 ht
 simp only [b2z,Bool.and_eq_true] at hq
 exact hq.1
def b2p (t:o6) (i:Nat) (d:List o5):Bool:=b1w d && match t.Columns[i]? with | some c => b3c c d == 0 | none => false
def a3d (t:o6) (r:o8):Bool:=decide (1 ≤ r.Id ∧ r.Id ≤ 1000000) && decide (r.Cells.length = t.Columns.length) && a1p (b2p t) r.Cells 0
theorem c5n (t:o6):∀ (xs:List (List o5)) (i:Nat),i + xs.length ≤ t.Columns.length → (∀ d ∈ xs,d.length ≤ maxLen) → b1h t xs i = some (if a1p (b2p t) xs i = true then .go () else .ret false)
 | [],i,_,_ => by rw [b1h]; rfl
 | d :: xs,i,h,hd => by
  simp only [List.length_cons] at h
  obtain ⟨c,hc⟩:∃ c,t.Columns[i]? = some c:=⟨t.Columns[i]'(by omega),List.getElem?_eq_getElem (by omega)⟩
  rw [b1h,e4x d (hd d (by simp)),Option.bind_some,a0h,hc,c5n t xs (i + 1) (by omega) (fun x hx => hd x (by simp [hx]))]
  simp only [a1p,b2p,hc,Option.bind_some,f4f]
  cases b1w d <;> by_cases q:b3c c d = 0 <;> simp [q]
theorem c8f (t:o6):∀ (xs:List (List o5)) (i:Nat),i + xs.length ≤ t.Columns.length → b2n t xs i = some (if a1p (b2p t) xs i = true then .go () else .ret false)
 | [],i,_ => by rw [b2n]; rfl
 | d :: xs,i,h => by
  simp only [List.length_cons] at h
  obtain ⟨c,hc⟩:∃ c,t.Columns[i]? = some c:=⟨t.Columns[i]'(by omega),List.getElem?_eq_getElem (by omega)⟩
  rw [b2n,e1t d,Option.bind_some,a0h,hc,c8f t xs (i + 1) (by omega)]
  simp only [a1p,b2p,hc,Option.bind_some,d5w]
  cases b1w d <;> by_cases q:b3c c d = 0 <;> simp [q]
theorem d4f (t:o6) (r:o8) (h:∀ d ∈ r.Cells,d.length ≤ maxLen):b2w t r = some (decide (r.Cells.length = t.Columns.length) && a1p (b2p t) r.Cells 0):=by
 unfold b2w
 by_cases e:r.Cells.length = t.Columns.length
 ·have e':((r.Cells.length:Int) != (t.Columns.length:Int)) = false:=by simp [e]
  rw [e',c5n t r.Cells 0 (by omega) h]
  cases a1p (b2p t) r.Cells 0 <;> simp [e]
 ·have e':((r.Cells.length:Int) != (t.Columns.length:Int)) = true:=by simp; omega
  rw [e']
  simp [e]
theorem e8h (t:o6) (r:o8):b5v t r = some (a3d t r):=by
 unfold b5v a3d
 rw [c0q,Option.bind_some]
 by_cases e:r.Cells.length = t.Columns.length
 ·have e':((r.Cells.length:Int) != (t.Columns.length:Int)) = false:=by simp [e]
  rw [e',c8f t r.Cells 0 (by omega)]
  cases decide (1 ≤ r.Id ∧ r.Id ≤ 1000000) <;> cases a1p (b2p t) r.Cells 0 <;> simp [e]
 ·have e':((r.Cells.length:Int) != (t.Columns.length:Int)) = true:=by simp; omega
  rw [e']
  cases decide (1 ≤ r.Id ∧ r.Id ≤ 1000000) <;> simp [e]
theorem f1c (t:o6) (r:o8) (h:∀ d ∈ r.Cells,d.length ≤ maxLen):b5g t r = some (b8y t && a3d t r):=by
 unfold b5g b4a a3d
 rw [d4e,b0d,d4f t r h]
 cases b8y t <;> cases decide (1 ≤ r.Id ∧ r.Id ≤ 1000000) <;> simp
theorem b2q {t:o6} {r:o8} (h:a3d t r = true):r.Cells.length = t.Columns.length:=by
 unfold a3d at h
 simp only [Bool.and_eq_true,decide_eq_true_eq] at h
 exact h.1.2
theorem b7q {t:o6} {r:o8} (h:a3d t r = true) {d:List o5} (hd:d ∈ r.Cells):b1w d = true:=by
 unfold a3d at h
 simp only [Bool.and_eq_true] at h
 obtain ⟨q,hq⟩:=c0r h.2 hd
 unfold b2p at hq
 simp only [Bool.and_eq_true] at hq
 exact hq.1
theorem b4y {d:List o5} (h:b1w d = true):d.length ≤ 8:=by
 unfold b1w at h
 simp only [Bool.and_eq_true,decide_eq_true_eq] at h
 omega
def c3b (t:o6) (r:o8) (n:Str):List o5:=match b1x t n with | some k => (r.Cells[k]?).getD [] | none => [⟨4,r.Id,[]⟩]
theorem c4f {t:o6} {r:o8} {n:Str} {k:Nat} (hl:r.Cells.length = t.Columns.length) (hk:b1x t n = some k):idx r.Cells (k:Int) = some (c3b t r n) ∧ c3b t r n ∈ r.Cells:=by
 obtain ⟨x,_,h2⟩:=b5x hk
 have hlt:k < r.Cells.length:=by rw [hl]; exact (List.getElem?_eq_some_iff.1 h2).1
 unfold c3b
 rw [hk,a0h]
 simp only [List.getElem?_eq_getElem hlt,Option.getD_some]
 exact ⟨trivial,List.getElem_mem hlt⟩
theorem e5c {t:o6} {r:o8} {n:Str} (h:a3d t r = true):(c3b t r n).length ≤ 8:=by
 cases hk:b1x t n with
 | some k => exact b4y (b7q h (c4f (b2q h) hk).2)
 | none => simp [c3b,hk]
theorem d4g {t:o6} {r:o8} (hl:r.Cells.length = t.Columns.length) (n:Str):b2v t r n = some (c3b t r n):=by
 unfold b2v
 rw [b0l,Option.bind_some,b7o]
 cases hk:b1x t n with
 | some k => simp [atI,(c4f hl hk).1]
 | none => simp [c3b,hk]
theorem c5o {t:o6} {r:o8} (h:a3d t r = true):∀ (ns:List Str) (out:List (List o5)),out.length + ns.length ≤ 2 ^ 30 → b0y t r ns out = some (out ++ ns.map (c3b t r))
 | [],out,_ => by rw [b0y]; simp
 | n :: ns,out,hl => by
  simp only [List.length_cons] at hl
  have:=e5c (n:=n) h
  rw [b0y,d4g (b2q h),Option.bind_some,if_pos (by simp; omega),if_pos (by simp; omega),c5o h ns _ (by simp; omega)]
  simp
theorem e5d {t:o6} {r:o8} (h:a3d t r = true) (ns:List Str) (hl:ns.length ≤ 4096):b4o t r ns = some ⟨r.Id,ns.map (c3b t r)⟩:=by
 unfold b4o
 rw [c5o h ns [] (by simp; omega)]
 rfl
theorem d1n:∀ a b c:Str,Lib.compareBytes a b < 0 → Lib.compareBytes b c < 0 → Lib.compareBytes a c < 0
 | [],[],c => by intro h; simp [Lib.compareBytes] at h
 | [],_ :: _,[] => by intro _ h; simp [Lib.compareBytes] at h
 | [],_ :: _,_ :: _ => by intro _ _; simp [Lib.compareBytes]
 | _ :: _,[],c => by intro h; simp [Lib.compareBytes] at h
 | _ :: _,_ :: _,[] => by intro _ h; simp [Lib.compareBytes] at h
 | a :: xs,b :: ys,c :: zs => by
  have ih:=d1n xs ys zs
  unfold Lib.compareBytes
  rcases c6y a b with h | h | h
  ·rcases c6y b c with g | g | g
   ·have:a < c:=by simp only [UInt8.lt_iff_toNat_lt] at *; omega
    simp [this]
   ·subst g; simp [h]
   ·simp [h,g,b8v g]
  ·subst h
   rcases c6y a c with g | g | g
   ·simp [g]
   ·subst g; simp only [UInt8.lt_irrefl,if_false]; exact ih
   ·simp [g,b8v g]
  ·simp [h,b8v h]
theorem e2a {a b c:o5} (h:b5h a b < 0) (g:b5h b c < 0):b5h a c < 0:=by
 unfold b5h at *
 by_cases k1:a.Kind = b.Kind
 ·by_cases k2:b.Kind = c.Kind
  ·have k3:a.Kind = c.Kind:=k1.trans k2
   simp only [k1,k2,k3,ne_eq,not_true_eq_false,if_false] at *
   by_cases n1:a.N = b.N
   ·by_cases n2:b.N = c.N
    ·have n3:a.N = c.N:=n1.trans n2
     simp only [n1,n2,n3,ne_eq,not_true_eq_false,if_false] at *
     exact d1n _ _ _ h g
    ·have n3:¬ a.N = c.N:=fun e => n2 (n1.symm.trans e)
     simp only [n1,n2,ne_eq,not_true_eq_false,not_false_eq_true,if_false,if_true] at *
     split at g <;> simp_all
   ·by_cases n2:b.N = c.N
    ·have n3:¬ a.N = c.N:=fun e => n1 (e.trans n2.symm)
     simp only [n1,n2,n3,ne_eq,not_true_eq_false,not_false_eq_true,if_false,if_true] at *
     split at h <;> simp_all
    ·simp only [n1,n2,ne_eq,not_false_eq_true,if_true] at h g
     have h':a.N < b.N:=by split at h <;> first | assumption | omega
     have g':b.N < c.N:=by split at g <;> first | assumption | omega
     have n3:¬ a.N = c.N:=by omega
     have n4:a.N < c.N:=by omega
     simp [n3,n4]
  ·have k3:¬ a.Kind = c.Kind:=fun e => k2 (k1.symm.trans e)
   simp only [k2,ne_eq,not_false_eq_true,if_true] at g
   have g':b.Kind < c.Kind:=by split at g <;> first | assumption | omega
   have:a.Kind < c.Kind:=by omega
   simp [k3,this]
 ·simp only [k1,ne_eq,not_false_eq_true,if_true] at h
  have h':a.Kind < b.Kind:=by split at h <;> first | assumption | omega
  by_cases k2:b.Kind = c.Kind
  ·have k3:¬ a.Kind = c.Kind:=fun e => k1 (e.trans k2.symm)
   have:a.Kind < c.Kind:=by omega
   simp [k3,this]
  ·simp only [k2,ne_eq,not_false_eq_true,if_true] at g
   have g':b.Kind < c.Kind:=by split at g <;> first | assumption | omega
   have k3:¬ a.Kind = c.Kind:=by omega
   have:a.Kind < c.Kind:=by omega
   simp [k3,this]
def c7c (d:List o5):Prop:=d.Pairwise fun a b => b5h a b < 0
theorem c3c:∀ (d:List o5),(∀ i x y,d[i]? = some x → d[i + 1]? = some y → b5h x y < 0) → c7c d
 | [],_ => .nil
 | [a],_ => List.pairwise_singleton _ _
 | a :: b :: l,h => by
  have ih:c7c (b :: l):=c3c (b :: l) (fun i x y hx hy => h (i + 1) x y (by simpa using hx) (by simpa using hy))
  have hab:b5h a b < 0:=h 0 a b rfl rfl
  refine List.pairwise_cons.2 ⟨fun c hc => ?_,ih⟩
  rcases List.mem_cons.1 hc with rfl | hc
  ·exact hab
  ·exact e2a hab ((List.pairwise_cons.1 ih).1 c hc)
theorem c7c.adj {d:List o5} (h:c7c d):∀ i x y,d[i]? = some x → d[i + 1]? = some y → b5h x y < 0:=by
 intro i x y hx hy
 obtain ⟨hi,rfl⟩:=List.getElem?_eq_some_iff.1 hx
 obtain ⟨hj,rfl⟩:=List.getElem?_eq_some_iff.1 hy
 exact List.pairwise_iff_getElem.1 h i (i + 1) hi hj (by omega)
theorem a7d.strict {k:Int} {d:List o5} (h:a7d k d):c7c d:=c3c d h.ord
theorem a7d.of {k:Int} {d:List o5} (h1:∀ x ∈ d,b0e x = true ∧ x.Kind = k) (h2:c7c d):a7d k d:=⟨h1,h2.adj⟩
theorem d5x (x y:o5):(x.Kind == y.Kind && (x.N == y.N && (x.T == y.T && true))) = decide (x = y):=by
 cases x; cases y
 rw [Bool.eq_iff_iff]
 simp
theorem d8z (a:o5):∀ d:List o5,b2d a d = some (if a ∈ d then .ret true else .go ())
 | [] => by rw [b2d]; simp
 | x :: xs => by
  rw [b2d,d5x,d8z a xs]
  by_cases h:x = a
  ·subst h; simp
  ·simp [h,Ne.symm h]
theorem e8i (d:List o5) (a:o5):b0i d a = some (decide (a ∈ d)):=by
 unfold b0i
 rw [d8z]
 by_cases h:a ∈ d <;> simp [h]
theorem d9a (d:List o5) (a:o5):∀ (n k:Nat),n < k → n ≤ d.length → d.length ≤ 2 ^ 29 → ∃ m:Nat,a3b d a k n = some (m:Int) ∧ m ≤ n ∧ (∀ x,0 < m → d[m - 1]? = some x → b5h x a ≤ 0) ∧ (∀ j x,m ≤ j → j < n → d[j]? = some x → 0 < b5h x a)
 | _,0,h,_,_ => by omega
 | 0,k + 1,_,_,_ => by
  refine ⟨0,?_,by omega,by omega,by omega⟩
  rw [a3b,if_neg (by simp),Option.bind_some,if_neg (by simp)]
 | n + 1,k + 1,h,hn,hl => by
  obtain ⟨y,hy⟩:∃ y,d[n]? = some y:=⟨d[n],List.getElem?_eq_getElem (by omega)⟩
  have ew:w64 (((n + 1:Nat):Int) - 1) = (n:Int):=by rw [a0w (by omega)]; omega
  rw [a3b,if_pos (by simp),ew,a0h,hy,Option.bind_some,e3i,Option.bind_some,Option.bind_some]
  by_cases hc:b5h y a > 0
  ·rw [if_pos (by simpa using hc)]
   obtain ⟨m,e,h1,h2,h3⟩:=d9a d a n k (by omega) (by omega) hl
   refine ⟨m,e,by omega,h2,fun j x hj1 hj2 hx => ?_⟩
   by_cases hjn:j = n
   ·subst hjn; rw [hy] at hx; rw [← Option.some.inj hx]; exact hc
   ·exact h3 j x hj1 (by omega) hx
  ·rw [if_neg (by simpa using hc)]
   refine ⟨n + 1,rfl,by omega,fun x _ hx => ?_,by omega⟩
   rw [show n + 1 - 1 = n from by omega,hy] at hx
   rw [← Option.some.inj hx]; omega
theorem e3k (d:List o5) (a:o5) (k i:Nat) (hk:k ≤ d.length):(d.take k ++ a :: d.drop k)[i]? = if i < k then d[i]? else if i = k then some a else d[i - 1]?:=by
 by_cases h1:i < k
 ·rw [if_pos h1,List.getElem?_append_left (by simp; omega),List.getElem?_take_of_lt h1]
 ·rw [if_neg h1,List.getElem?_append_right (by simp; omega)]
  have hl:(d.take k).length = k:=by simp; omega
  rw [hl]
  by_cases h2:i = k
  ·subst h2; simp
  ·rw [if_neg h2,show i - k = (i - k - 1) + 1 from by omega,List.getElem?_cons_succ,List.getElem?_drop]
   congr 1; omega
theorem e3l (k:Int) (d:List o5) (a:o5) (hs:a7d k d) (ha:b0e a = true) (hk:a.Kind = k) (hl:d.length < 2 ^ 29):∃ d',b0j d a = some d' ∧ a7d k d' ∧ (∀ x,x ∈ d' ↔ x = a ∨ x ∈ d) ∧ d'.length ≤ d.length + 1:=by
 have hf:2 ^ 40 < FUEL:=by unfold FUEL; decide
 unfold b0j
 rw [e8i,Option.bind_some]
 by_cases hm:a ∈ d
 ·rw [if_pos (by simpa using hm)]
  exact ⟨d,rfl,hs,fun x => ⟨.inr,fun h => h.elim (fun h => h ▸ hm) id⟩,by omega⟩
 ·rw [if_neg (by simpa using hm)]
  obtain ⟨m,e,h1,h2,h3⟩:=d9a d a d.length FUEL (by omega) (by omega) (by omega)
  rw [e,Option.bind_some,if_pos (by omega),if_pos (by omega),if_pos (by simp; omega),if_pos (by simp; omega),if_pos (by simp; omega)]
  simp only [List.nil_append,Int.toNat_natCast,List.append_assoc,List.cons_append,List.nil_append]
  refine ⟨_,rfl,⟨?_,?_⟩,?_,by simp; omega⟩
  ·intro x hx
   simp only [List.mem_append,List.mem_cons] at hx
   rcases hx with hx | rfl | hx
   ·exact hs.atom x (List.mem_of_mem_take hx)
   ·exact ⟨ha,hk⟩
   ·exact hs.atom x (List.mem_of_mem_drop hx)
  ·intro i x y hx hy
   rw [e3k d a m i h1] at hx
   rw [e3k d a m (i + 1) h1] at hy
   by_cases c1:i + 1 < m
   ·rw [if_pos (by omega)] at hx
    rw [if_pos c1] at hy
    exact hs.ord i x y hx hy
   ·rw [if_neg c1] at hy
    by_cases c2:i + 1 = m
    ·rw [if_pos c2] at hy
     rw [if_pos (by omega)] at hx
     have e1:=Option.some.inj hy
     subst e1
     have:=h2 x (by omega) (by rw [show m - 1 = i from by omega]; exact hx)
     have hne:b5h x a ≠ 0:=fun h => hm (by rw [← (e4v x a).1 h]; exact List.mem_of_getElem? hx)
     omega
    ·rw [if_neg c2] at hy
     rw [if_neg (by omega)] at hx
     by_cases c3:i = m
     ·rw [if_pos c3] at hx
      have e1:=Option.some.inj hx
      subst e1
      rw [show i + 1 - 1 = i from by omega] at hy
      have:=h3 i y (by omega) (List.getElem?_eq_some_iff.1 hy).1 hy
      have:=e4w y a
      omega
     ·rw [if_neg c3] at hx
      exact hs.ord (i - 1) x y hx (by rw [show i - 1 + 1 = i + 1 - 1 from by omega]; exact hy)
  ·intro x
   have:x ∈ d ↔ x ∈ d.take m ∨ x ∈ d.drop m:=by rw [← List.mem_append,List.take_append_drop]
   simp only [List.mem_append,List.mem_cons,this]
   constructor
   ·rintro (h | h | h)
    ·exact .inr (.inl h)
    ·exact .inl h
    ·exact .inr (.inr h)
   ·rintro (h | h | h)
    ·exact .inr (.inl h)
    ·exact .inl h
    ·exact .inr (.inr h)
theorem f4h {α:Type} (l:List α) (i:Int) (h:0 ≤ i):idx l i = l[0 + i.toNat]?:=by
 obtain ⟨n,rfl⟩:∃ n:Nat,i = n:=⟨i.toNat,by omega⟩
 rw [a0h]; simp
theorem d4h (d:List o5) (a:o5) (hl:d.length ≤ 2 ^ 29):∀ (k n:Nat),n ≤ d.length → a3f d a k (n:Int) = a3b d a k (n:Int)
 | 0,n,_ => by rw [a3f,a3b]
 | k + 1,0,_ => by
  rw [a3f,a3b,if_neg (by simp),if_neg (by simp)]
  simp
 | k + 1,n + 1,h => by
  have ew:w64 (((n + 1:Nat):Int) - 1) = (n:Int):=by rw [a0w (by omega)]; omega
  rw [a3f,a3b,ew,d4h d a hl k n (by omega)]
  simp only [f4h d n (by omega)]
  rw [if_pos (show (0:Int) ≤ (n:Int) ∧ (n:Int) < (d.length:Int) by omega)]
theorem e8j (d:List o5) (a:o5) (hl:d.length ≤ 2 ^ 29):a9j d a = b0j d a:=by
 have e:∀ k:Nat,(d.drop k).take (d.length - k) = d.drop k:=fun k => List.take_of_length_le (by simp)
 unfold a9j b0j
 rw [d4h d a hl FUEL d.length (Nat.le_refl _)]
 simp only [e]
theorem b8z {k:Int} {d:List o5} (h:a7d k d) (hl:d.length ≤ 8):b1w d = true:=by
 unfold b1w
 rw [a7d.allS h,decide_eq_true (by omega)]
 rfl
theorem c0x (v:o5):∀ (xs:List o5) (i:Nat),v ∈ xs ∧ (∃ n:Nat,a1i v xs i = some (.ret (n:Int))) ∨ v ∉ xs ∧ a1i v xs i = some (.go ())
 | [],i => .inr ⟨by simp,by rw [a1i]⟩
 | x :: xs,i => by
  rw [a1i,d5x]
  by_cases e:v = x
  ·rw [if_pos (by simpa using e)]
   exact .inl ⟨by simp [e],i,rfl⟩
  ·rw [if_neg (by simpa using e)]
   rcases c0x v xs (i + 1) with ⟨h,n,hn⟩ | ⟨h,hn⟩
   ·exact .inl ⟨by simp [h],n,hn⟩
   ·exact .inr ⟨by simp [e,h],hn⟩
theorem d9b (d:List o5) (v:o5):a1v d v = some (decide (v ∈ d)):=by
 unfold a1v a3j
 rcases c0x v d 0 with ⟨h,n,hn⟩ | ⟨h,hn⟩
 ·rw [hn]; simp [h]
 ·rw [hn]; simp [h]
theorem c5p (k:Int):∀ (xs out:List o5),a7d k out → (∀ x ∈ xs,b0e x = true ∧ x.Kind = k) → out.length + xs.length ≤ 100 → ∃ d,b0z xs out = some d ∧ a7d k d ∧ (∀ x,x ∈ d ↔ x ∈ out ∨ x ∈ xs) ∧ d.length ≤ out.length + xs.length
 | [],out,h,_,_ => ⟨out,by rw [b0z],h,by simp,by simp⟩
 | x :: xs,out,h,hx,hl => by
  simp only [List.length_cons] at hl
  obtain ⟨d,e,h1,h2,h3⟩:=e3l k out x h (hx x (by simp)).1 (hx x (by simp)).2 (by omega)
  obtain ⟨d2,e2,g1,g2,g3⟩:=c5p k xs d h1 (fun y hy => hx y (by simp [hy])) (by omega)
  refine ⟨d2,?_,g1,fun y => ?_,by simp only [List.length_cons]; omega⟩
  ·rw [b0z,e8j out x (by omega),e,Option.bind_some,e2]
  ·rw [g2,h2,List.mem_cons]
   constructor
   ·rintro ((h | h) | h)
    ·exact .inr (.inl h)
    ·exact .inl h
    ·exact .inr (.inr h)
   ·rintro (h | h | h)
    ·exact .inl (.inr h)
    ·exact .inl (.inl h)
    ·exact .inr h
def keepA (c:List o5) (l:List o5):List o5:=l.filter fun x => !decide (x ∈ c)
theorem e5e {k:Int} {a:List o5} (h:a7d k a) (b:List o5):a7d k (keepA b a):=a7d.of (fun x hx => h.atom x (List.mem_filter.1 hx).1) (h.strict.filter _)
def c3d:Str:=[95,117,117,105,100]
def c4g (t:o6) (name:Str):Option y7:=match b1x t name with
 | some k => t.Columns[k]?
 | none => if name = c3d then some ⟨c3d,4,0,1,0,0,[],false⟩ else none
def b0g (v:List o5) (k:Int):Bool:=match v[0]? with | some x => x.Kind != k | none => false
theorem d5y (v:List o5) (k:Int):((if (decide ((v.length:Int) > 0)) then (idx v 0).bind fun x => some (x.Kind != k) else some false:Option Bool)) = some (b0g v k):=by
 cases v with
 | nil => rfl
 | cons x xs => rw [if_pos (by simp)]; rfl
def b9g (t:o6) (c:a3p):Int:=match c4g t c.Column with
 | none => 11
 | some x => if b0g c.Value x.Kind = true then 9 else if (decide (3 ≤ c.Func ∧ c.Func ≤ 6) && (x.Kind != 1 || x.Max != 1 || (c.Value.length:Int) != 1)) = true then 9 else 0
theorem e5f (t:o6) (c:a3p):b4k t c = some (b9g t c):=by
 unfold b4k b9g c4g
 rw [b0l,Option.bind_some,f4g]
 cases hk:b1x t c.Column with
 | some k =>
  obtain ⟨x,e1,e2⟩:=b5x hk
  simp only [Option.isSome_some,if_true,atI]
  rw [e1,Option.bind_some,Option.bind_some,e2]
  simp only [d5y,Option.bind_some,c0q]
  cases b0g c.Value x.Kind with
  | true => simp
  | false =>
   by_cases hf:3 ≤ c.Func ∧ c.Func ≤ 6 <;> cases h1:(x.Kind != 1) <;> cases h2:(x.Max != 1) <;> cases h3:((c.Value.length:Int) != 1) <;> simp [hf]
 | none =>
  rw [if_neg (by simp)]
  by_cases h:c.Column = c3d
  ·have hb:(!(c.Column == [95,117,117,105,100])) = false:=by simp [h,c3d]
   rw [hb]
   simp only [h,if_true,Bool.false_eq_true,if_false,Option.bind_some,d5y,c0q]
   cases b0g c.Value 4 with
   | true => simp
   | false => by_cases hf:3 ≤ c.Func ∧ c.Func ≤ 6 <;> simp [hf]
  ·have hb:(!(c.Column == [95,117,117,105,100])) = true:=by simpa [c3d] using h
   rw [hb]
   simp [h]
def a6y {α:Type} (f:α → Int):List α → Int
 | [] => 0
 | x :: xs => if f x = 0 then a6y f xs else f x
theorem c4h {α:Type} {f:α → Int}:∀ {l:List α},a6y f l = 0 → ∀ x ∈ l,f x = 0
 | [],_,x,hx => by simp at hx
 | y :: ys,h,x,hx => by
  simp only [a6y] at h
  split at h
  ·rename_i h0
   rcases List.mem_cons.1 hx with rfl | hx
   ·exact h0
   ·exact c4h h x hx
  ·rename_i h0; exact absurd h h0
theorem c3e (t:o6):∀ l:List a3p,a9m t l = some (if a6y (b9g t) l = 0 then .go () else .ret (a6y (b9g t) l))
 | [] => by rw [a9m]; simp [a6y]
 | x :: xs => by
  rw [a9m,e5f,Option.bind_some,c3e t xs]
  by_cases h:b9g t x = 0 <;> simp [a6y,h]
theorem e2c (t:o6) (l:List a3p):b3i t l = some (a6y (b9g t) l):=by
 unfold b3i
 rw [c3e]
 by_cases h:a6y (b9g t) l = 0 <;> simp [h]
def c5q (t:o6) (m:b1v):Int:=match b1x t m.Column with
 | none => 11
 | some k => match t.Columns[k]? with
  | none => 0
  | some x => if b0g m.Value x.Kind = true then 9 else if (decide (m.Func ≤ 5) && (x.Kind != 1 || (m.Value.length:Int) != 1)) = true then 9 else 0
theorem e5g (t:o6) (m:b1v):b4m t m = some (c5q t m):=by
 unfold b4m c5q
 rw [b0l,Option.bind_some,b7o]
 cases hk:b1x t m.Column with
 | none => simp
 | some k =>
  obtain ⟨x,e1,e2⟩:=b5x hk
  simp only [Option.isNone_some,Bool.false_eq_true,if_false,atI]
  rw [e1,Option.bind_some,e2]
  simp only [d5y,Option.bind_some]
  cases b0g m.Value x.Kind with
  | true => simp
  | false =>
   by_cases hf:m.Func ≤ 5 <;> cases h1:(x.Kind != 1) <;> cases h3:((m.Value.length:Int) != 1) <;> simp [hf]
theorem c3f (t:o6):∀ l:List b1v,a9n t l = some (if a6y (c5q t) l = 0 then .go () else .ret (a6y (c5q t) l))
 | [] => by rw [a9n]; simp [a6y]
 | x :: xs => by
  rw [a9n,e5g,Option.bind_some,c3f t xs]
  by_cases h:c5q t x = 0 <;> simp [a6y,h]
theorem e2d (t:o6) (l:List b1v):b3j t l = some (a6y (c5q t) l):=by
 unfold b3j
 rw [c3f]
 by_cases h:a6y (c5q t) l = 0 <;> simp [h]
def e5h (t:o6) (list:List a2c) (i:Nat) (x:a2c):Int:=match b1x t x.Column with
 | none => 11
 | some k => if (list.take i).any (fun y => y.Column == x.Column) = true then 8 else match t.Columns[k]? with
  | none => 0
  | some c => if (b0g x.Value c.Kind || (decide ((x.Names.length:Int) > 0) && c.Kind != 4)) = true then 9 else 0
def c0y (t:o6) (list:List a2c):List a2c → Nat → Int
 | [],_ => 0
 | x :: xs,i => if e5h t list i x = 0 then c0y t list xs (i + 1) else e5h t list i x
theorem c5r (list:List a2c) (x:a2c) (i:Nat) (hi:i ≤ list.length) (hl:list.length ≤ 6):∀ (n k fuel:Nat),n + k = i → n < fuel → a7y i list x fuel k = some (if ((list.take i).drop k).any (fun c => c.Column == x.Column) = true then .ret 8 else .go ())
 | _,_,0,_,h => by omega
 | 0,k,fuel + 1,hk,_ => by
  rw [a7y,if_neg (by simp; omega),List.drop_of_length_le (by simp; omega)]; simp
 | n + 1,k,fuel + 1,hk,hf => by
  obtain ⟨y,hy⟩:∃ y,list[k]? = some y:=⟨list[k]'(by omega),List.getElem?_eq_getElem (by omega)⟩
  have hd:(list.take i).drop k = y :: (list.take i).drop (k + 1):=by
   have hk2:k < (list.take i).length:=by simp; omega
   rw [List.drop_eq_getElem_cons hk2]
   congr 1
   rw [List.getElem_take]
   exact (List.getElem?_eq_some_iff.1 hy).2
  have ew:w64 ((k:Int) + 1) = ((k + 1:Nat):Int):=by rw [a0w (by omega)]; omega
  rw [a7y,if_pos (by simp; omega),a0h,hy,Option.bind_some,ew,c5r list x i hi hl n (k + 1) fuel (by omega) (by omega),hd]
  cases hn:(y.Column == x.Column) <;> simp [hn]
theorem c5s (t:o6) (list:List a2c) (hl:list.length ≤ 6):∀ (xs:List a2c) (i:Nat),list.drop i = xs → b0s t list xs i = some (if c0y t list xs i = 0 then .go () else .ret (c0y t list xs i))
 | [],i,_ => by rw [b0s]; simp [c0y]
 | x :: xs,i,h => by
  have hi:=a6g h
  have hf:2 ^ 40 < FUEL:=by unfold FUEL; decide
  have e:=c5r list x i (by omega) hl i 0 FUEL (by omega) (by omega)
  rw [List.drop_zero] at e
  have e':a7y i list x FUEL 0 = _:=e
  rw [b0s,b0l,Option.bind_some,b7o]
  have hx:c0y t list (x :: xs) i = if e5h t list i x = 0 then c0y t list xs (i + 1) else e5h t list i x:=rfl
  rw [hx,c5s t list hl xs (i + 1) (a2e h),e']
  unfold e5h
  cases hk:b1x t x.Column with
  | none => simp
  | some k =>
   obtain ⟨c,e1,e2⟩:=b5x hk
   simp only [Option.isNone_some,Bool.false_eq_true,if_false,atI]
   cases ha:(list.take i).any (fun y => y.Column == x.Column) with
   | true => simp
   | false =>
    simp only [Bool.false_eq_true,if_false,e2,e1,Option.bind_some]
    cases hv:x.Value with
    | nil =>
     by_cases hn:x.Names = [] <;> by_cases h4:c.Kind = 4 <;> simp [b0g,hn,List.length_pos_iff,h4]
    | cons a v =>
     have e0:idx (a :: v) 0 = some a:=rfl
     rw [e0]
     by_cases hn:x.Names = [] <;> by_cases h4:c.Kind = 4 <;> by_cases h5:a.Kind = c.Kind <;> by_cases h6:a.Kind = 4 <;> by_cases h7:4 = c.Kind <;> first | (exfalso; omega) | (simp [b0g,hn,List.length_pos_iff,h5,h4,h6]; done) | (simp [b0g,hn,List.length_pos_iff,h5,h4,h6,h7]; done)
theorem e5i (t:o6) (list:List a2c) (hl:list.length ≤ 6):b4l t list = some (c0y t list list 0):=by
 unfold b4l
 rw [c5s t list hl list 0 (by simp)]
 by_cases h:c0y t list list 0 = 0 <;> simp [h]
def d1o (t:o6) (n:Str):Int:=if (c4g t n).isSome = true then 0 else 11
theorem c5t (t:o6):∀ l:List Str,b0t t l = some (if a6y (d1o t) l = 0 then .go () else .ret 11)
 | [] => by rw [b0t]; simp [a6y]
 | x :: xs => by
  rw [b0t,b0l,Option.bind_some,b7o,c5t t xs]
  have hs:(c4g t x).isSome = (decide (x = c3d) || (b1x t x).isSome):=by
   unfold c4g
   cases hk:b1x t x with
   | some k =>
    obtain ⟨c,_,e2⟩:=b5x hk
    show (t.Columns[k]?).isSome = _
    rw [e2]; simp
   | none => by_cases h:x = c3d <;> simp [h]
  by_cases h:x = c3d
  ·have hb:(!(x == [95,117,117,105,100])) = false:=by simp [h,c3d]
   have hs':(c4g t x).isSome = true:=by rw [hs]; simp [h]
   have e:a6y (d1o t) (x :: xs) = a6y (d1o t) xs:=by simp only [a6y,d1o,hs',if_true]
   rw [hb,e]
   simp
  ·have hb:(!(x == [95,117,117,105,100])) = true:=by simpa [c3d] using h
   rw [hb]
   cases hk:b1x t x <;> simp [a6y,d1o,hs,h,hk]
def a6z (t:Str):Bool:=decide ((t.length:Int) ≤ 40)
def b7r (c:a3p):Bool:=decide (1 ≤ c.Func ∧ c.Func ≤ 8) && b1w c.Value && a6z c.Column
def c4i (c:b1v):Bool:=decide (1 ≤ c.Func ∧ c.Func ≤ 7) && b1w c.Value && a6z c.Column
def setB (x:a2c):Bool:=a6z x.Column && b1w x.Value && (x.Names.all a7q && decide ((x.Names.length:Int) ≤ 8)) && (decide (x.Names = []) || decide (x.Value = []))
def c4j (o:GOp):Bool :=
 decide (1 ≤ o.Kind ∧ o.Kind ≤ 10) && (decide (1 ≤ o.Kind ∧ o.Kind ≤ 6) || decide (o.Table = [])) && (decide (2 ≤ o.Kind ∧ o.Kind ≤ 6) || decide (o.Where = [])) && (decide (o.Kind = 1) || decide (o.Kind ≥ 9) || decide (o.Name = [])) && (decide (o.Kind = 1) || decide (o.Kind = 3) || decide (o.Kind = 6) || decide (o.Row = [])) && (decide (o.Kind = 4) || decide (o.Muts = [])) && (decide (o.Kind = 2) || decide (o.Columns = [])) && (decide (o.Kind = 6) || !o.Until)
def opB (o:GOp):Bool:=c4j o && (a6z o.Table && a6z o.Name) && decide ((o.Columns.length:Int) ≤ 6) && o.Columns.all a6z && (o.Where.all b7r && decide ((o.Where.length:Int) ≤ 8)) && (o.Muts.all c4i && decide ((o.Muts.length:Int) ≤ 8)) && (o.Row.all setB && decide ((o.Row.length:Int) ≤ 6))
def nt0:o6:=⟨[110,111,116,101],[(⟨[110,97,109,101],2,1,1,0,0,[],false⟩:y7),(⟨[97,98,111,117,116],4,0,4,0,0,[112,111,114,116],false⟩:y7)],[],true⟩
def nt1:o6:=⟨[112,111,114,116],[(⟨[110,97,109,101],2,1,1,0,0,[],false⟩:y7),(⟨[116,97,103],1,0,1,0,99,[],false⟩:y7),(⟨[117,112],3,1,1,0,0,[],false⟩:y7)],[(0:Int)],false⟩
def nt2:o6:=⟨[115,119,105,116,99,104],[(⟨[110,97,109,101],2,1,1,0,0,[],false⟩:y7),(⟨[99,111,117,110,116],1,1,1,(-1000),1000,[],false⟩:y7),(⟨[112,111,114,116,115],4,0,8,0,0,[112,111,114,116],true⟩:y7)],[(0:Int)],true⟩
def a1z:o7:=⟨[nt0,nt1,nt2]⟩
theorem b7f:a3c = some a1z:=rfl
theorem c1z (v:Int) (h:0 ≤ v ∧ v < 3):∃ t,idx a1z.Tables v = some t ∧ a1z.Tables[v.toNat]? = some t ∧ (t = nt0 ∨ t = nt1 ∨ t = nt2):=by
 have:v = 0 ∨ v = 1 ∨ v = 2:=by omega
 rcases this with rfl | rfl | rfl
 ·exact ⟨nt0,rfl,rfl,.inl rfl⟩
 ·exact ⟨nt1,rfl,rfl,.inr (.inl rfl)⟩
 ·exact ⟨nt2,rfl,rfl,.inr (.inr rfl)⟩
def c0z (c:y7):List o5:=if c.Min = 0 then [] else [⟨c.Kind,if c.Kind = 1 then (if (if 0 < c.High then 0 else c.High) > c.Low then (if 0 < c.High then 0 else c.High) else c.Low) else 0,[]⟩]
theorem e8k {t:o6} (h:t = nt0 ∨ t = nt1 ∨ t = nt2):a1p (b2p t) (t.Columns.map c0z) 0 = true:=by rcases h with rfl | rfl | rfl <;> decide
theorem d5z {t:o6} (h:t = nt0 ∨ t = nt1 ∨ t = nt2):t.Columns.length ≤ 3:=by rcases h with rfl | rfl | rfl <;> decide
theorem d1p {α:Type} (f:Nat → α → Bool) (xs:List α) (k:Nat) (y:α) (h:a1p f xs 0 = true) (hy:f k y = true):a1p f (xs.set k y) 0 = true:=by
 rw [b1p] at h ⊢
 intro q x hq
 rw [Nat.zero_add]
 rw [List.getElem?_set] at hq
 by_cases e:k = q
 ·subst e
  rw [if_pos rfl] at hq
  split at hq
  ·cases hq; exact hy
  ·cases hq
 ·rw [if_neg e] at hq
  have:=h q x hq
  rwa [Nat.zero_add] at this
theorem e8l (n:Int) (h:-1000000000 ≤ n ∧ n ≤ 1000000000):b0e ⟨1,n,[]⟩ = true:=by
 unfold b0e
 simp [h]
def e8m (f a b:Int):Option Int:=if f = 1 then some (a + b) else if f = 2 then some (a - b) else if f = 3 then some (a * b) else if b = 0 then none else if f = 5 then some (a.tmod b) else some (a.tdiv b)
def e8n (n:Int):Bool:=decide (-1000000000 ≤ n ∧ n ≤ 1000000000)
theorem f4i (a b:Int) (ha:-1000000000 ≤ a ∧ a ≤ 1000000000) (hb:-1000000000 ≤ b ∧ b ≤ 1000000000):-1000000000000000000 ≤ a * b ∧ a * b ≤ 1000000000000000000:=by
 have h:=Int.natAbs_mul a b
 have h2:a.natAbs * b.natAbs ≤ 1000000000 * 1000000000:=Nat.mul_le_mul (by omega) (by omega)
 omega
theorem f6p (a b:Int) (h:-1000000000 ≤ a ∧ a ≤ 1000000000):-1000000000 ≤ a.tdiv b ∧ a.tdiv b ≤ 1000000000:=by
 have h1:(a.tdiv b).natAbs ≤ a.natAbs:=by rw [Int.natAbs_tdiv]; exact Nat.div_le_self _ _
 omega
theorem e5j (f a b:Int) (hf:1 ≤ f ∧ f ≤ 5) (ha:-1000000000 ≤ a ∧ a ≤ 1000000000) (hb:-1000000000 ≤ b ∧ b ≤ 1000000000):b2h f a b = some (match e8m f a b with | some n => (n,e8n n) | none => (0,false)):=by
 have hm:=f4i a b ha hb
 have hd:=f6p a b ha
 unfold b2h e8m
 have c:f = 1 ∨ f = 2 ∨ f = 3 ∨ f = 4 ∨ f = 5:=by omega
 by_cases hz:b = 0
 ·subst hz
  rcases c with rfl | rfl | rfl | rfl | rfl
  all_goals simp [c0q,e8n]
  all_goals (try rw [a0w (by omega)])
  all_goals (try simp)
 ·rcases c with rfl | rfl | rfl | rfl | rfl
  all_goals simp [hz,c0q,e8n]
  all_goals (try rw [a0w (by omega)])
  all_goals (try simp)
theorem f2u {x:o5} (h:b0e x = true) (hk:x.Kind = 1):-1000000000 ≤ x.N ∧ x.N ≤ 1000000000 ∧ x.T = []:=by
 unfold b0e at h
 simp [hk] at h
 exact ⟨h.1.1,h.1.2,h.2⟩
theorem c7d (b:List o5):∀ (xs out:List o5),out.length + xs.length ≤ 2 ^ 29 → a7e b xs out = some (out ++ keepA b xs)
 | [],out,_ => by rw [a7e]; simp [keepA]
 | x :: xs,out,h => by
  simp only [List.length_cons] at h
  rw [a7e,e8i,Option.bind_some]
  by_cases e:x ∈ b
  ·rw [if_neg (by simp [e]),c7d b xs out (by omega)]
   simp [keepA,e]
  ·rw [if_pos (by simp [e]),if_pos (by simp; omega),c7d b xs _ (by simp; omega)]
   simp [keepA,e]
theorem d6a (a b:List o5) (h:a.length ≤ 2 ^ 28):a9b a b = some (keepA b a):=by
 unfold a9b
 rw [c7d b a [] (by simp; omega)]
 rfl
theorem e2f {d:List o5} {k:Int} (h:b1w d = true) (hk:b0g d k = false):a7d k d:=by
 unfold b1w at h
 simp only [Bool.and_eq_true] at h
 have hs:=(d1j d d 0).1 h.1
 constructor
 ·intro x hx
  obtain ⟨q,hq⟩:=List.mem_iff_getElem?.1 hx
  have:=hs q x hq
  have hlt:=(List.getElem?_eq_some_iff.1 hq).1
  obtain ⟨z,hz⟩:∃ z,d[0]? = some z:=⟨d[0],List.getElem?_eq_getElem (by omega)⟩
  unfold c5h at this
  unfold b0g at hk
  simp only [hz,Bool.and_eq_true,Bool.or_eq_true] at this hk
  refine ⟨this.1.1,?_⟩
  have e1:x.Kind = z.Kind:=by simpa using this.1.2
  have e2:z.Kind = k:=by simpa using hk
  rw [e1,e2]
 ·intro i x y hx hy
  have:=hs (i + 1) y hy
  unfold c5h at this
  simp only [Bool.and_eq_true,Bool.or_eq_true] at this
  have h2:=this.2
  have ei:0 + (i + 1) - 1 = i:=by omega
  rw [ei,hx] at h2
  simpa using h2
theorem c7e {c:y7} {d:List o5} (h:b3c c d = 0):b0g d c.Kind = false ∧ (d.length:Int) ≤ c.Max:=by
 have e:b3c c d = if b0g d c.Kind = true then 9 else if ¬ (c.Min ≤ d.length ∧ (d.length:Int) ≤ c.Max) then 6 else if (c.Kind == 1 && d.any (c7a c)) = true then 4 else 0:=rfl
 rw [e] at h
 cases g:b0g d c.Kind with
 | true => rw [g] at h; simp at h
 | false =>
  refine ⟨rfl,?_⟩
  by_cases g2:c.Min ≤ d.length ∧ (d.length:Int) ≤ c.Max
  ·exact g2.2
  ·rw [g,if_neg (by simp),if_pos g2] at h
   omega
theorem e5k {t:o6} {m:b1v} (h:c5q t m = 0):∃ k,b1x t m.Column = some k ∧ ∀ c,t.Columns[k]? = some c → b0g m.Value c.Kind = false ∧ (m.Func ≤ 5 → c.Kind = 1 ∧ m.Value.length = 1):=by
 unfold c5q at h
 cases hk:b1x t m.Column with
 | none => rw [hk] at h; simp at h
 | some k =>
  refine ⟨k,rfl,fun c hc => ?_⟩
  rw [hk] at h
  simp only [hc] at h
  split at h
  ·omega
  ·rename_i g
   split at h
   ·omega
   ·rename_i g2
    refine ⟨by simpa using g,fun hf => ?_⟩
    simp [hf] at g2
    omega
def d9c (t:o6):List a2c → List (List o5) → Fl (o8 × Int) (List (List o5))
 | [],cs => .go cs
 | x :: xs,cs => match b1x t x.Column with
  | none => .go cs
  | some k => match t.Columns[k]? with
   | none => .go cs
   | some c => if b3c c x.Value = 0 then d9c t xs (cs.set k x.Value) else .ret (⟨0,[]⟩,b3c c x.Value)
theorem c1b (t:o6):∀ (xs:List a2c) (cs:List (List o5)),cs.length = t.Columns.length → (∀ x ∈ xs,(b1x t x.Column).isSome = true ∧ x.Value.length ≤ 8) → a8j t xs cs = some (d9c t xs cs)
 | [],cs,_,_ => by rw [a8j]; rfl
 | x :: xs,cs,hl,h => by
  obtain ⟨k,hk⟩:=Option.isSome_iff_exists.1 (h x (by simp)).1
  have hv:=(h x (by simp)).2
  obtain ⟨c,e1,e2⟩:=b5x hk
  have hlt:k < cs.length:=by rw [hl]; exact (List.getElem?_eq_some_iff.1 e2).1
  have ea:atI (some k) = (k:Int):=rfl
  rw [a8j,b0l,hk,Option.bind_some,ea,e1,Option.bind_some,d5w,Option.bind_some,d9c,hk]
  simp only [e2]
  by_cases q:b3c c x.Value = 0
  ·rw [if_neg (by simp [q]),if_pos q,if_pos (by simp; omega),if_pos (by omega)]
   have e3:0 + ((k:Int)).toNat = k:=by simp
   rw [e3,List.getElem?_eq_getElem hlt,Option.bind_some,c1b t xs _ (by simpa using hl) (fun y hy => h y (by simp [hy]))]
   simp
  ·rw [if_pos (by simpa using q),if_neg q]
theorem d9d (t:o6):∀ {xs:List a2c} {cs:List (List o5)} {q:o8 × Int},d9c t xs cs = .ret q → q.1 = ⟨0,[]⟩ ∧ q.2 ≠ 0
 | [],cs,q,h => by cases h
 | x :: xs,cs,q,h => by
  rw [d9c] at h
  split at h
  ·cases h
  ·split at h
   ·cases h
   ·split at h
    ·exact d9d t h
    ·rename_i h0; cases h; exact ⟨rfl,h0⟩
theorem d4i (t:o6) (list:List a2c):∀ {xs:List a2c} {i:Nat},c0y t list xs i = 0 → ∀ x ∈ xs,(b1x t x.Column).isSome = true
 | [],_,_,x,hx => by simp at hx
 | y :: ys,i,h,x,hx => by
  simp only [c0y] at h
  split at h
  ·rename_i h0
   rcases List.mem_cons.1 hx with rfl | hx
   ·unfold e5h at h0
    cases hk:b1x t x.Column with
    | none => rw [hk] at h0; cases h0
    | some k => rfl
   ·exact d4i t list h x hx
  ·rename_i h0; exact absurd h h0
def b8h:List GOp → Int → List Int
 | [],_ => []
 | o :: l,n => if o.Kind = 1 then n :: b8h l (w64 (n + 1)) else 0 :: b8h l n
theorem d9e:∀ (l:List GOp) (n:Int),(b8h l n).length = l.length
 | [],_ => rfl
 | o :: l,n => by
  rw [b8h]
  split <;> simp [d9e l]
theorem c7f:∀ (l:List GOp) (n:Int) (out:List Int),out.length + l.length ≤ 1000 → a9k l n out = some (out ++ b8h l n)
 | [],n,out,_ => by rw [a9k]; simp [b8h]
 | o :: l,n,out,h => by
  simp only [List.length_cons] at h
  rw [a9k,b8h]
  by_cases c:o.Kind = 1
  ·rw [if_pos (by simpa using c),if_pos c,if_pos (by simp; omega),c7f l _ _ (by simp; omega)]
   simp
  ·rw [if_neg (by simpa using c),if_neg c,if_pos (by simp; omega),c7f l _ _ (by simp; omega)]
   simp
theorem c1c:∀ (xs out:List (List o5)),out.length + xs.length ≤ 2 ^ 30 → (∀ d ∈ xs,d.length ≤ 2 ^ 30) → a8h xs out = some (out ++ xs)
 | [],out,_,_ => by rw [a8h]; simp
 | x :: xs,out,h,hd => by
  simp only [List.length_cons] at h
  have:=hd x (by simp)
  rw [a8h,if_pos (by simp; omega),if_pos (by simp; omega),c1c xs _ (by simp; omega) (fun y hy => hd y (by simp [hy]))]
  simp
theorem b7s (r:o8) (h:r.Cells.length ≤ 2 ^ 30) (hd:∀ d ∈ r.Cells,d.length ≤ 2 ^ 30):a4y r = some r:=by
 unfold a4y
 rw [c1c r.Cells [] (by simp; omega) hd,Option.bind_some]
 cases r
 simp
theorem b3f:2 ^ 40 < FUEL:=by unfold FUEL; decide
def a6o:List o8 → Bool
 | [] => true
 | [_] => true
 | a :: b :: l => decide (a.Id < b.Id) && a6o (b :: l)
theorem c2a {a:o8} {l:List o8} (h:a6o (a :: l) = true):a6o l = true ∧ ∀ b ∈ l,a.Id < b.Id:=by
 induction l generalizing a with
 | nil => exact ⟨rfl,by simp⟩
 | cons b l ih =>
  simp only [a6o,Bool.and_eq_true,decide_eq_true_eq] at h
  refine ⟨h.2,fun c hc => ?_⟩
  rcases List.mem_cons.1 hc with rfl | hc
  ·exact h.1
  ·have:=(ih h.2).2 c hc; omega
theorem c2b {l:List o8} (h:a6o l = true):l.Pairwise fun a b => a.Id < b.Id:=by
 induction l with
 | nil => exact .nil
 | cons a l ih => exact List.pairwise_cons.2 ⟨(c2a h).2,ih (c2a h).1⟩
theorem d6b {l:List o8} (h:a6o l = true) {i j:Nat} {a b:o8} (hi:l[i]? = some a) (hj:l[j]? = some b) (hij:i < j):a.Id < b.Id:=by
 obtain ⟨h1,rfl⟩:=List.getElem?_eq_some_iff.1 hi
 obtain ⟨h2,rfl⟩:=List.getElem?_eq_some_iff.1 hj
 exact List.pairwise_iff_getElem.1 (c2b h) i j h1 h2 hij
theorem c1d (rows:List o8):∀ (xs:List o8) (i:Nat) (p:o8),rows.length ≤ maxLen → rows.drop (i + 1) = xs → rows[i]? = some p → a8s rows xs (i + 1) = some (if a6o (p :: xs) = true then .go () else .ret false)
 | [],i,p,_,_,_ => by rw [a8s]; rfl
 | x :: xs,i,p,hl,hd,hp => by
  have hlt:=a6g hd
  rw [a8s]
  have e:w64 (((i + 1:Nat):Int) - 1) = (i:Int):=by rw [a0w (by unfold maxLen at hl; omega)]; omega
  rw [e,a0h,hp,Option.bind_some]
  have hx:rows[i + 1]? = some x:=by have:=congrArg (·[0]?) hd; simpa using this
  by_cases c:p.Id < x.Id
  ·have c':¬ p.Id ≥ x.Id:=by omega
   rw [if_neg (by simpa using c'),c1d rows xs (i + 1) x hl (a2e hd) hx]
   simp [a6o,c]
  ·rw [if_pos (by simp; omega)]
   simp [a6o,c]
theorem d9f (rows:List o8) (hl:rows.length ≤ maxLen):b2l rows = some (a6o rows):=by
 unfold b2l
 cases rows with
 | nil => rfl
 | cons p xs =>
  rw [show (1:Nat) = 0 + 1 from rfl,c1d (p :: xs) _ 0 p hl rfl rfl]
  have:(p :: xs).drop (0 + 1) = xs:=rfl
  rw [this]
  rcases Bool.eq_false_or_eq_true (a6o (p :: xs)) with hz1 | hz1 <;> simp [hz1]
def b9h (t:o6) (nx:Int) (rows:List o8):Bool:=rows.all fun r => decide (1 ≤ r.Id ∧ r.Id ≤ nx - 1) && decide (r.Cells.length = t.Columns.length) && a1p (b2p t) r.Cells 0
theorem c1e (x:x9) (s:o7) (i:Nat) (t:o6) (ht:s.Tables[i]? = some t) (hn:1 ≤ x.Next ∧ x.Next ≤ 1000000):∀ (xs:List o8),(∀ r ∈ xs,e1v r) → a8t x s i xs = some (if b9h t x.Next xs = true then .go () else .ret false)
 | [],_ => by rw [a8t]; rfl
 | r :: xs,h => by
  rw [a8t,b0d,Option.bind_some,a0w (by omega),a0h,ht,c1e x s i t ht hn xs (fun y hy => h y (by simp [hy]))]
  have e:b9h t x.Next (r :: xs) = (decide (1 ≤ r.Id ∧ r.Id ≤ x.Next - 1) && (decide (r.Cells.length = t.Columns.length) && a1p (b2p t) r.Cells 0) && b9h t x.Next xs):=by simp only [b9h,List.all_cons,Bool.and_assoc]
  rw [e]
  simp only [Option.bind_some,d4f t r (h r (by simp))]
  rcases Bool.eq_false_or_eq_true (decide (1 ≤ r.Id ∧ r.Id ≤ x.Next - 1)) with hz1 | hz1 <;> rcases Bool.eq_false_or_eq_true ((decide (r.Cells.length = t.Columns.length) && a1p (b2p t) r.Cells 0)) with hz2 | hz2 <;> simp [hz1,hz2]
def c3g (s:o7) (nx:Int) (i:Nat) (rows:List o8):Bool:=match s.Tables[i]? with | none => false | some t => decide (rows.length ≤ 12) && a6o rows && b9h t nx rows
theorem c1f (x:x9) (s:o7) (hn:1 ≤ x.Next ∧ x.Next ≤ 1000000):∀ (xs:List (List o8)) (i:Nat),i + xs.length ≤ s.Tables.length → (∀ l ∈ xs,∀ r ∈ l,e1v r) → a8u x s xs i = some (if a1p (c3g s x.Next) xs i = true then .go () else .ret false)
 | [],i,_,_ => by rw [a8u]; rfl
 | l :: xs,i,h,hs => by
  simp only [List.length_cons] at h
  obtain ⟨t,ht⟩:∃ t,s.Tables[i]? = some t:=⟨s.Tables[i]'(by omega),List.getElem?_eq_getElem (by omega)⟩
  rw [a8u,c1e x s i t ht hn l (hs l (by simp)),c1f x s hn xs (i + 1) (by omega) (fun y hy => hs y (by simp [hy]))]
  simp only [a1p,c3g,ht]
  by_cases c:l.length ≤ 12
  ·have c':¬ (l.length:Int) > 12:=by omega
   rw [if_neg (by simpa using c'),d9f l (by unfold maxLen; omega)]
   rcases Bool.eq_false_or_eq_true (a6o l) with hz1 | hz1 <;> rcases Bool.eq_false_or_eq_true (b9h t x.Next l) with hz2 | hz2 <;> simp [hz1,hz2,c]
  ·have c':(l.length:Int) > 12:=by omega
   simp [c',c]
def c1g (s:o7) (x:x9):Bool:=a7v s && decide (x.Tables.length = s.Tables.length) && decide (1 ≤ x.Next ∧ x.Next ≤ 1000000) && a1p (c3g s x.Next) x.Tables 0
theorem c8g (s:o7) (x:x9) (hs:∀ l ∈ x.Tables,∀ r ∈ l,e1v r):a9v s x = some (c1g s x):=by
 unfold a9v c1g b4a
 rw [d1m,b0d]
 by_cases e:x.Tables.length = s.Tables.length
 ·have e':((x.Tables.length:Int) != (s.Tables.length:Int)) = false:=by simp [e]
  rw [e']
  by_cases n:1 ≤ x.Next ∧ x.Next ≤ 1000000
  ·rw [c1f x s n x.Tables 0 (by omega) hs]
   rcases Bool.eq_false_or_eq_true (a7v s) with hz1 | hz1 <;> rcases Bool.eq_false_or_eq_true (a1p (c3g s x.Next) x.Tables 0) with hz2 | hz2 <;> simp [hz1,hz2,e,n]
  ·cases a7v s <;> simp [e,n]
 ·have e':((x.Tables.length:Int) != (s.Tables.length:Int)) = true:=by simp; omega
  rw [e']
  rcases Bool.eq_false_or_eq_true (a7v s) with hz1 | hz1 <;> simp [hz1,e]
def d4j (t:o6) (nx:Int) (l:List o8) (k:Nat) (r:o8):Bool:=a3d t r && decide (r.Id < nx) && (k == 0 || match l[k - 1]? with | some p => decide (p.Id < r.Id) | none => false)
theorem c5u (s:o7) (i:Nat) (x:x9) (l:List o8) (t:o6) (ht:s.Tables[i]? = some t) (hl:l.length ≤ maxLen):∀ (xs:List o8) (k:Nat),l.drop k = xs → b1m s i x l xs k = some (if a1p (d4j t x.Next l) xs k = true then .go () else .ret false)
 | [],k,_ => by rw [b1m]; rfl
 | r :: xs,k,hd => by
  have hlt:=a6g hd
  rw [b1m,a0h,ht,Option.bind_some,e8h,Option.bind_some,c5u s i x l t ht hl xs (k + 1) (a2e hd)]
  simp only [a1p,d4j]
  rcases Bool.eq_false_or_eq_true (a3d t r) with h1 | h1
  rotate_left
  ·simp [h1]
  ·simp only [h1]
   by_cases c:r.Id < x.Next
   ·have c':decide (r.Id ≥ x.Next) = false:=decide_eq_false (by omega)
    rw [c']
    cases k with
    | zero => simp [c]
    | succ k =>
     obtain ⟨p,hp⟩:∃ p,l[k]? = some p:=⟨l[k]'(by omega),List.getElem?_eq_getElem (by omega)⟩
     have e:w64 (((k + 1:Nat):Int) - 1) = (k:Int):=by rw [a0w (by unfold maxLen at hl; omega)]; omega
     have c2:decide (((k + 1:Nat):Int) > 0) = true:=decide_eq_true (by omega)
     rw [e,c2,a0h,hp]
     by_cases q:p.Id < r.Id
     ·have q':decide (p.Id ≥ r.Id) = false:=decide_eq_false (by omega)
      simp [c,hp,q,q']
     ·have q':decide (p.Id ≥ r.Id) = true:=decide_eq_true (by omega)
      simp [c,hp,q,q']
   ·have c':decide (r.Id ≥ x.Next) = true:=decide_eq_true (by omega)
    rw [c']
    simp [c]
theorem e3m:∀ (l:List o8),a6o l = true ↔ ∀ i a b,l[i]? = some a → l[i + 1]? = some b → a.Id < b.Id
 | [] => by simp [a6o]
 | [a] => by simp [a6o]
 | a :: b :: l => by
  have ih:=e3m (b :: l)
  simp only [a6o,Bool.and_eq_true,decide_eq_true_eq,ih]
  constructor
  ·rintro ⟨h1,h2⟩ i x y hx hy
   cases i with
   | zero => simp at hx hy; subst hx; subst hy; exact h1
   | succ i => exact h2 i x y (by simpa using hx) (by simpa using hy)
  ·intro h
   exact ⟨h 0 a b rfl rfl,fun i x y hx hy => h (i + 1) x y (by simpa using hx) (by simpa using hy)⟩
theorem e5l (t:o6) (nx:Int) (hn:nx ≤ 1000000) (l:List o8):a1p (d4j t nx l) l 0 = (a6o l && b9h t nx l):=by
 rw [Bool.eq_iff_iff,b1p,Bool.and_eq_true,e3m]
 have key:∀ r:o8,(a3d t r && decide (r.Id < nx)) = (decide (1 ≤ r.Id ∧ r.Id ≤ nx - 1) && decide (r.Cells.length = t.Columns.length) && a1p (b2p t) r.Cells 0):=by
  intro r
  unfold a3d
  have:(decide (1 ≤ r.Id ∧ r.Id ≤ 1000000) && decide (r.Id < nx)) = decide (1 ≤ r.Id ∧ r.Id ≤ nx - 1):=by
   rw [Bool.eq_iff_iff]; simp only [Bool.and_eq_true,decide_eq_true_eq]; omega
  rw [← this]
  rcases Bool.eq_false_or_eq_true (decide (1 ≤ r.Id ∧ r.Id ≤ 1000000)) with hz1 | hz1 <;> rcases Bool.eq_false_or_eq_true (decide (r.Id < nx)) with hz2 | hz2 <;> simp [hz1,hz2]
 constructor
 ·intro h
  refine ⟨fun i a b ha hb => ?_,?_⟩
  ·have:=h (i + 1) b hb
   rw [Nat.zero_add] at this
   unfold d4j at this
   simp only [Bool.and_eq_true,Bool.or_eq_true,Nat.add_sub_cancel,ha] at this
   rcases this.2 with q | q
   ·simp at q
   ·simpa using q
  ·unfold b9h
   rw [List.all_eq_true]
   intro r hr
   obtain ⟨q,hq⟩:=List.mem_iff_getElem?.1 hr
   have:=h q r hq
   unfold d4j at this
   rw [key] at this
   simp only [Bool.and_eq_true] at this ⊢
   exact this.1
 ·rintro ⟨h1,h2⟩ q r hq
  unfold b9h at h2
  have:=List.all_eq_true.1 h2 r (List.mem_of_getElem? hq)
  unfold d4j
  rw [key,this,Nat.zero_add,Bool.true_and]
  cases q with
  | zero => rfl
  | succ q =>
   have hlt:=(List.getElem?_eq_some_iff.1 hq).1
   obtain ⟨p,hp⟩:∃ p,l[q]? = some p:=⟨l[q]'(by omega),List.getElem?_eq_getElem (by omega)⟩
   have:=h1 q p r hp hq
   simp [hp,this]
theorem c5v (s:o7) (x:x9) (hn:1 ≤ x.Next ∧ x.Next ≤ 1000000):∀ (xs:List (List o8)) (i:Nat),i + xs.length ≤ s.Tables.length → b1n s x xs i = some (if a1p (c3g s x.Next) xs i = true then .go () else .ret false)
 | [],i,_ => by rw [b1n]; rfl
 | l :: xs,i,h => by
  simp only [List.length_cons] at h
  obtain ⟨t,ht⟩:∃ t,s.Tables[i]? = some t:=⟨s.Tables[i]'(by omega),List.getElem?_eq_getElem (by omega)⟩
  rw [b1n,c5v s x hn xs (i + 1) (by omega)]
  simp only [a1p,c3g,ht]
  by_cases c:l.length ≤ 12
  ·have c':¬ (l.length:Int) > 12:=by omega
   rw [if_neg (by simpa using c'),c5u s i x l t ht (by unfold maxLen; omega) l 0 (by simp),e5l t x.Next hn.2 l]
   rcases Bool.eq_false_or_eq_true (a6o l) with hz1 | hz1 <;> rcases Bool.eq_false_or_eq_true (b9h t x.Next l) with hz2 | hz2 <;> simp [hz1,hz2,c]
  ·have c':(l.length:Int) > 12:=by omega
   simp [c',c]
theorem e5m (s:o7) (x:x9):b2y s x = some (decide (x.Tables.length = s.Tables.length) && decide (1 ≤ x.Next ∧ x.Next ≤ 1000000) && a1p (c3g s x.Next) x.Tables 0):=by
 unfold b2y
 rw [c0q]
 by_cases e:x.Tables.length = s.Tables.length
 ·have e':((x.Tables.length:Int) != (s.Tables.length:Int)) = false:=by simp [e]
  rw [e']
  by_cases n:1 ≤ x.Next ∧ x.Next ≤ 1000000
  ·rw [c5v s x n x.Tables 0 (by omega)]
   rcases Bool.eq_false_or_eq_true (a1p (c3g s x.Next) x.Tables 0) with hz1 | hz1 <;> simp [hz1,e,n]
  ·simp [e,n]
 ·have e':((x.Tables.length:Int) != (s.Tables.length:Int)) = true:=by simp; omega
  rw [e']
  simp [e]
theorem d6c (s:o7) (x:x9):((b1u s).bind fun r => if (!r) = true then some true else (b2y s x).bind fun r => some (!r)) = some (!c1g s x):=by
 rw [d8y,Option.bind_some,e5m]
 unfold c1g
 rcases Bool.eq_false_or_eq_true (a7v s) with hz1 | hz1 <;> simp [hz1]
def a4v (l:List o8) (id:Int):Bool:=l.any fun r => r.Id == id
theorem c3h (id:Int):∀ (l:List o8) (i:Nat),a9r id l i = some (match l.findIdx? (fun r => r.Id == id) with | some k => .ret ((i + k:Nat):Int) | none => .go ())
 | [],i => by rw [a9r]; rfl
 | x :: xs,i => by
  rw [a9r,c3h id xs (i + 1),List.findIdx?_cons]
  cases hp:(x.Id == id) with
  | true => simp
  | false =>
   cases hq:xs.findIdx? (fun r => r.Id == id) with
   | none => simp
   | some k => simp; omega
theorem b9a (l:List o8) (id:Int):a4w l id = some (atI (l.findIdx? (fun r => r.Id == id))):=by
 unfold a4w atI
 rw [c3h]
 cases hq:l.findIdx? (fun r => r.Id == id) <;> simp
theorem c7g (l:List o8) (id:Int):decide (atI (l.findIdx? (fun r => r.Id == id)) < 0) = !a4v l id:=by
 rw [b7o]
 unfold a4v
 rw [← List.findIdx?_isSome]
 cases l.findIdx? (fun r => r.Id == id) <;> rfl
theorem f4j {i j:Int} (h0:0 ≤ i) (h1:i < j) (h2:j ≤ 2 ^ 60):w64 (Int.fdiv (IntKind.u64.wrap (w64 (i + j))) (2 ^ (min (Int.toNat 1) (IntKind.bits .u64)))) = (i + j) / 2:=by
 have e1:w64 (i + j) = i + j:=a0w (by omega)
 have e2:IntKind.u64.wrap (i + j) = i + j:=by
  have:IntKind.u64.wrap (i + j) = (i + j) % 2 ^ 64:=rfl
  rw [this]; omega
 have e3:min (Int.toNat 1) (IntKind.bits .u64) = 1:=by decide
 rw [e1,e2,e3,Int.fdiv_eq_ediv_of_nonneg _ (by omega)]
 have:((2:Int) ^ 1) = 2:=rfl
 rw [this,a0w (by omega)]
theorem d4k (r:o8) (id:Int):a8v r id = some (if r.Id < id then -1 else if r.Id > id then 1 else 0):=by
 unfold a8v
 rw [d8s]
 rfl
theorem d1q (l:List o8) (id:Int) (hs:a6o l = true) (hl:l.length ≤ 2 ^ 30):∀ (k i j:Nat),i ≤ j → j ≤ l.length → j - i < k → (∀ q r,q < i → l[q]? = some r → r.Id < id) → (∀ q r,j ≤ q → l[q]? = some r → id ≤ r.Id) → ∃ m:Nat,a0k l a8v id k i j = some (m:Int) ∧ m ≤ l.length ∧ (∀ q r,q < m → l[q]? = some r → r.Id < id) ∧ (∀ q r,m ≤ q → l[q]? = some r → id ≤ r.Id)
 | 0,i,j,_,_,h,_,_ => by omega
 | k + 1,i,j,hij,hj,hk,ha,hb => by
  rw [a0k]
  by_cases c:i < j
  ·rw [if_pos (by simpa using c),f4j (by omega) (by omega) (by omega)]
   have em:((i:Int) + j) / 2 = (((i + j) / 2:Nat):Int):=by omega
   rw [em,a0h]
   have hm:(i + j) / 2 < l.length:=by omega
   obtain ⟨r,hr⟩:∃ r,l[(i + j) / 2]? = some r:=⟨l[(i + j) / 2],List.getElem?_eq_getElem hm⟩
   rw [hr,Option.bind_some,d4k,Option.bind_some]
   by_cases d:r.Id < id
   ·rw [if_pos (by simp [d]),a0w (by omega)]
    have:(((i + j) / 2:Nat):Int) + 1 = (((i + j) / 2 + 1:Nat):Int):=by omega
    rw [this]
    refine d1q l id hs hl k ((i + j) / 2 + 1) j (by omega) hj (by omega) (fun q r' hq hr' => ?_) hb
    by_cases e:q = (i + j) / 2
    ·subst e; rw [hr] at hr'; cases hr'; exact d
    ·have:=d6b hs hr' hr (by omega); omega
   ·rw [if_neg (by simp only [d,if_false]; split <;> simp)]
    refine d1q l id hs hl k i ((i + j) / 2) (by omega) (by omega) (by omega) ha (fun q r' hq hr' => ?_)
    by_cases e:q = (i + j) / 2
    ·subst e; rw [hr] at hr'; cases hr'; omega
    ·have:=d6b hs hr hr' (by omega); omega
  ·rw [if_neg (by simpa using c)]
   exact ⟨i,rfl,by omega,ha,fun q r hq => hb q r (by omega)⟩
theorem f1f (l:List o8) (id:Int) (hs:a6o l = true) (hl:l.length ≤ 2 ^ 30):∃ m:Nat,b7c l id = some ((m:Int),a4v l id) ∧ m ≤ l.length ∧ (∀ q r,q < m → l[q]? = some r → r.Id < id) ∧ (∀ q r,m ≤ q → l[q]? = some r → id ≤ r.Id):=by
 have hf:=b3f
 obtain ⟨m,e,h1,h2,h3⟩:=d1q l id hs hl FUEL 0 l.length (by omega) (by omega) (by omega) (fun q r h => by omega) (fun q r h hr => by have:=(List.getElem?_eq_some_iff.1 hr).1; omega)
 have e':a0k l a8v id FUEL 0 (l.length:Int) = some (m:Int):=e
 refine ⟨m,?_,h1,h2,h3⟩
 unfold b7c a1q
 rw [e',Option.bind_some]
 by_cases c:m < l.length
 ·obtain ⟨r,hr⟩:∃ r,l[m]? = some r:=⟨l[m],List.getElem?_eq_getElem c⟩
  rw [if_pos (by simpa using c),a0h,hr,Option.bind_some,d4k,Option.bind_some,Option.bind_some]
  have hge:=h3 m r (Nat.le_refl _) hr
  by_cases d:r.Id = id
  ·have hh:a4v l id = true:=List.any_eq_true.2 ⟨r,List.mem_of_getElem? hr,by simp [d]⟩
   rw [hh]; simp [d]
  ·have hh:a4v l id = false:=by
    unfold a4v
    rw [List.any_eq_false]
    intro y hy
    obtain ⟨q,hq⟩:=List.mem_iff_getElem?.1 hy
    rcases Nat.lt_trichotomy q m with g | g | g
    ·have:=h2 q y g hq; simp; omega
    ·subst g; rw [hr] at hq; cases hq; simpa using d
    ·have:=d6b hs hr hq g; simp; omega
   have g1:¬ r.Id < id:=by omega
   have g2:r.Id > id:=by omega
   rw [hh]; simp [g1,g2]
 ·have hh:a4v l id = false:=by
   unfold a4v
   rw [List.any_eq_false]
   intro y hy
   obtain ⟨q,hq⟩:=List.mem_iff_getElem?.1 hy
   have:=(List.getElem?_eq_some_iff.1 hq).1
   have:=h2 q y (by omega) hq
   simp; omega
  rw [if_neg (by simpa using c),Option.bind_some,hh]
theorem d1r (x:x9) (j:Nat) (l:List o8) (id:Int) (hj:x.Tables[j]? = some l) (hs:a6o l = true) (hl:l.length ≤ 2 ^ 30):a4a x (j:Int) id = some (a4v l id):=by
 unfold a4a
 obtain ⟨m,e,_⟩:=f1f l id hs hl
 rw [a0h,hj,Option.bind_some,e,Option.bind_some]
def c3i (there:List o8) (d:List o5):Bool:=d.all fun a => a4v there a.N
theorem d6d (x:x9) (j:Nat) (l:List o8) (d:List o5) (hj:x.Tables[j]? = some l) (hs:a6o l = true) (hl:l.length ≤ 2 ^ 30):a4c x (j:Int) d = some (!c3i l d):=by
 unfold a4c
 rw [b1o _ (fun a => !a4v l a.N) d (fun a _ => by unfold a4s; rw [d1r x j l a.N hj hs hl]; rfl),Option.bind_some,d1k]
 rfl
def d2w (x:x9) (s:o7) (rows:List o8) (k:Nat) (c:y7):Bool:=c.Kind != 4 || match b4d s c.Ref with | none => false | some j => match x.Tables[j]? with | none => false | some there => rows.all fun r => match r.Cells[k]? with | some d => c3i there d | none => false
theorem c7h (x:x9) (s:o7) (k:Nat) (c:y7) (j:Nat) (there:List o8) (hr:b4d s c.Ref = some j) (hj:x.Tables[j]? = some there) (hs:a6o there = true) (hl:there.length ≤ 2 ^ 30):∀ (rows:List o8) (code:Int),(∀ r ∈ rows,k < r.Cells.length) →
  a7m k s c rows true x.Tables x.Next code = some (true,x.Tables,x.Next,if (rows.all fun r => match r.Cells[k]? with | some d => c3i there d | none => false) = true then code else 13)
 | [],code,_ => by rw [a7m]; rfl
 | r :: rows,code,h => by
  have hk:=h r (by simp)
  obtain ⟨d,hd⟩:∃ d,r.Cells[k]? = some d:=⟨r.Cells[k],List.getElem?_eq_getElem hk⟩
  have ea:atI (some j) = (j:Int):=rfl
  have ex:(⟨x.Tables,x.Next⟩:x9) = x:=rfl
  rw [a7m,a0h,hd,Option.bind_some,c7b,hr,Option.bind_some,ea,ex]
  unfold a8w
  rw [if_pos rfl,d6d x j there d hj hs hl]
  simp only [Option.bind_some,List.all_cons,hd]
  cases hc:c3i there d with
  | true =>
   rw [if_neg (by simp)]
   simp only [Option.bind_some]
   rw [c7h x s k c j there hr hj hs hl rows code (fun y hy => h y (by simp [hy]))]
   simp
  | false =>
   rw [if_pos (by simp)]
   simp only [Option.bind_some]
   rw [c7h x s k c j there hr hj hs hl rows 13 (fun y hy => h y (by simp [hy]))]
   simp
def e8o (x:x9):Prop:=∀ l ∈ x.Tables,a6o l = true ∧ l.length ≤ 12
theorem c7i (x:x9) (s:o7) (i:Nat) (rows:List o8) (hi:x.Tables[i]? = some rows) (hx:e8o x) (hlen:x.Tables.length = s.Tables.length):∀ (cs:List y7) (k:Nat) (code:Int),(∀ c ∈ cs,b0f s c = true) → (∀ r ∈ rows,k + cs.length ≤ r.Cells.length) →
  a5o x i s cs k true x.Tables x.Next code = some (true,x.Tables,x.Next,if a1p (d2w x s rows) cs k = true then code else 13)
 | [],k,code,_,_ => by rw [a5o]; rfl
 | c :: cs,k,code,hc,h => by
  simp only [List.length_cons] at h
  rw [a5o]
  have hc0:=hc c (by simp)
  by_cases q:c.Kind = 4
  ·rw [if_neg (by simp [q]),a0h,hi,Option.bind_some]
   unfold b0f at hc0
   cases hr:b4d s c.Ref with
   | none => simp [q,hr] at hc0
   | some j =>
    have hj':j < s.Tables.length:=by
     unfold b4d at hr
     exact (List.findIdx?_eq_some_iff_getElem.1 hr).1
    obtain ⟨there,hj⟩:∃ l,x.Tables[j]? = some l:=⟨x.Tables[j]'(by omega),List.getElem?_eq_getElem (by omega)⟩
    obtain ⟨g1,g2⟩:=hx there (List.mem_of_getElem? hj)
    rw [c7h x s k c j there hr hj g1 (by omega) rows code (fun r hr => by have:=h r hr; omega),Option.bind_some]
    simp only
    rw [c7i x s i rows hi hx hlen cs (k + 1) _ (fun y hy => hc y (by simp [hy])) (fun r hr => by have:=h r hr; omega)]
    simp only [a1p,d2w,hr,hj,q,bne_self_eq_false,Bool.false_or]
    rcases Bool.eq_false_or_eq_true ((rows.all fun r => match r.Cells[k]? with | some d => c3i there d | none => false)) with hz1 | hz1 <;> rcases Bool.eq_false_or_eq_true (a1p (d2w x s rows) cs (k + 1)) with hz2 | hz2 <;> simp [hz1,hz2]
  ·rw [if_pos (by simpa using q),c7i x s i rows hi hx hlen cs (k + 1) code (fun y hy => hc y (by simp [hy])) (fun r hr => by have:=h r hr; omega)]
   have:(c.Kind != 4) = true:=by simpa using q
   simp only [a1p,d2w,this,Bool.true_or,Bool.true_and]
def d9g (x:x9) (s:o7) (i:Nat) (t:o6):Bool:=match x.Tables[i]? with | none => false | some rows => a1p (d2w x s rows) t.Columns 0
theorem d4l (x:x9) (s:o7) (hx:e8o x) (hlen:x.Tables.length = s.Tables.length):∀ (ts:List o6) (i:Nat) (code:Int),i + ts.length = s.Tables.length → (∀ t ∈ ts,∀ c ∈ t.Columns,b0f s c = true) → (∀ (q:Nat) (t:o6) (rows:List o8),ts[q]? = some t → x.Tables[i + q]? = some rows → ∀ r ∈ rows,t.Columns.length ≤ r.Cells.length) →
  a7n x s ts i true x.Tables x.Next code = some (true,x,if a1p (d9g x s) ts i = true then code else 13)
 | [],i,code,_,_,_ => by rw [a7n]; rfl
 | t :: ts,i,code,hl,hc,h => by
  simp only [List.length_cons] at hl
  obtain ⟨rows,hi⟩:∃ l,x.Tables[i]? = some l:=⟨x.Tables[i]'(by omega),List.getElem?_eq_getElem (by omega)⟩
  rw [a7n,c7i x s i rows hi hx hlen t.Columns 0 code (hc t (by simp)) (fun r hr => by have:=h 0 t rows rfl (by simpa using hi) r hr; omega),Option.bind_some]
  simp only
  rw [d4l x s hx hlen ts (i + 1) _ (by omega) (fun y hy => hc y (by simp [hy])) (fun q t' rows' h1 h2 => h (q + 1) t' rows' (by simpa using h1) (by rw [show i + (q + 1) = i + 1 + q from by omega]; exact h2))]
  simp only [a1p,d9g,hi]
  rcases Bool.eq_false_or_eq_true (a1p (d2w x s rows) t.Columns 0) with hz1 | hz1 <;> rcases Bool.eq_false_or_eq_true (a1p (d9g x s) ts (i + 1)) with hz2 | hz2 <;> simp [hz1,hz2]
theorem c5w (there:List o8):∀ d:List o5,b1a there d = some (if c3i there d = true then .go () else .ret false)
 | [] => by rw [b1a]; rfl
 | a :: d => by
  rw [b1a,b9a,Option.bind_some,c7g,c5w there d]
  simp only [c3i,List.all_cons]
  rcases Bool.eq_false_or_eq_true (a4v there a.N) with hz1 | hz1 <;> simp [hz1]
theorem c5x (k:Nat) (there:List o8):∀ rows:List o8,(∀ r ∈ rows,k < r.Cells.length) → b1b (k:Int) there rows = some (if (rows.all fun r => match r.Cells[k]? with | some d => c3i there d | none => false) = true then .go () else .ret false)
 | [],_ => by rw [b1b]; rfl
 | r :: rows,h => by
  have hk:=h r (by simp)
  obtain ⟨d,hd⟩:∃ d,r.Cells[k]? = some d:=⟨r.Cells[k],List.getElem?_eq_getElem hk⟩
  rw [b1b,a0h,hd,Option.bind_some,c5w,c5x k there rows (fun y hy => h y (by simp [hy]))]
  simp only [List.all_cons,hd]
  rcases Bool.eq_false_or_eq_true (c3i there d) with hz1 | hz1 <;> simp [hz1]
theorem c5y (s:o7) (i:Nat) (x:x9) (rows:List o8) (t:o6) (ht:s.Tables[i]? = some t) (hlen:x.Tables.length = s.Tables.length) (hc:∀ c ∈ t.Columns,b0f s c = true) (h:∀ r ∈ rows,t.Columns.length ≤ r.Cells.length) (h6:t.Columns.length ≤ 6):∀ (n fuel k:Nat),n + k = t.Columns.length → n < fuel →
  a7z s i x rows fuel k = some (if a1p (d2w x s rows) (t.Columns.drop k) k = true then .go () else .ret false)
 | n,0,k,_,hf => by omega
 | n,fuel + 1,k,hn,hf => by
  rw [a7z,a0h,ht,Option.bind_some]
  cases n with
  | zero =>
   have:¬ k < t.Columns.length:=by omega
   rw [if_neg (by simpa using this),List.drop_of_length_le (by omega)]
   rfl
  | succ n =>
   have hk:k < t.Columns.length:=by omega
   obtain ⟨c,hcc⟩:∃ c,t.Columns[k]? = some c:=⟨t.Columns[k],List.getElem?_eq_getElem hk⟩
   have ed:t.Columns.drop k = c :: t.Columns.drop (k + 1):=by
    rw [List.drop_eq_getElem_cons hk]; congr 1; exact (List.getElem?_eq_some_iff.1 hcc).2
   have ew:w64 ((k:Int) + 1) = ((k + 1:Nat):Int):=by rw [a0w (by omega)]; omega
   rw [if_pos (by simpa using hk),Option.bind_some,a0h,hcc,Option.bind_some,ew,c5y s i x rows t ht hlen hc h h6 n fuel (k + 1) (by omega) (by omega),ed]
   by_cases q:c.Kind = 4
   ·rw [if_neg (by simp [q]),b8g,Option.bind_some]
    have hc0:=hc c (List.mem_of_getElem? hcc)
    unfold b0f at hc0
    cases hr:b4d s c.Ref with
    | none => simp [q,hr] at hc0
    | some j =>
     have hj':j < s.Tables.length:=by
      unfold b4d at hr
      exact (List.findIdx?_eq_some_iff_getElem.1 hr).1
     obtain ⟨there,hj⟩:∃ l,x.Tables[j]? = some l:=⟨x.Tables[j]'(by omega),List.getElem?_eq_getElem (by omega)⟩
     have ea:atI (some j) = (j:Int):=rfl
     rw [ea,a0h,hj,Option.bind_some,c5x k there rows (fun r hr => by have:=h r hr; omega)]
     simp only [a1p,d2w,hr,hj,q,bne_self_eq_false,Bool.false_or]
     rcases Bool.eq_false_or_eq_true ((rows.all fun r => match r.Cells[k]? with | some d => c3i there d | none => false)) with hz1 | hz1 <;> simp [hz1]
   ·have q':(c.Kind != 4) = true:=by simpa using q
    rw [if_pos q']
    simp only [a1p,d2w,q',Bool.true_or,Bool.true_and]
theorem c5z (s:o7) (x:x9) (hlen:x.Tables.length = s.Tables.length) (h6:∀ t ∈ s.Tables,t.Columns.length ≤ 6):∀ (xs:List (List o8)) (i:Nat),x.Tables.drop i = xs → (∀ t ∈ s.Tables,∀ c ∈ t.Columns,b0f s c = true) → (∀ (q:Nat) (t:o6) (rows:List o8),s.Tables[q]? = some t → x.Tables[q]? = some rows → ∀ r ∈ rows,t.Columns.length ≤ r.Cells.length) →
  b1c s x xs i = some (if a1p (d9g x s) (s.Tables.drop i) i = true then .go () else .ret false)
 | [],i,hd,_,_ => by
  have:x.Tables.length ≤ i:=by simpa using hd
  rw [b1c,List.drop_of_length_le (by omega)]
  rfl
 | rows :: xs,i,hd,hc,h => by
  have hlt:=a6g hd
  have hi:x.Tables[i]? = some rows:=by have:=congrArg (·[0]?) hd; simpa using this
  obtain ⟨t,ht⟩:∃ t,s.Tables[i]? = some t:=⟨s.Tables[i]'(by omega),List.getElem?_eq_getElem (by omega)⟩
  have hf:=b3f
  have htm:=List.mem_of_getElem? ht
  have h6':=h6 t htm
  have ed:s.Tables.drop i = t :: s.Tables.drop (i + 1):=by
   rw [List.drop_eq_getElem_cons (by omega)]; congr 1; exact (List.getElem?_eq_some_iff.1 ht).2
  have e2:=c5y s i x rows t ht hlen (hc t htm) (h i t rows ht hi) h6' t.Columns.length FUEL 0 (by omega) (by omega)
  have e2':a7z s i x rows FUEL 0 = _:=e2
  rw [b1c,e2',c5z s x hlen h6 xs (i + 1) (a2e hd) hc h,ed]
  simp only [a1p,d9g,hi,List.drop_zero]
  rcases Bool.eq_false_or_eq_true (a1p (d2w x s rows) t.Columns 0) with hz1 | hz1 <;> simp [hz1]
def d1s (s:o7) (x:x9):Bool:=a1p (d9g x s) s.Tables 0
theorem d1t (b:List o5):∀ (xs:List o5) (i:Nat),i + xs.length = b.length → a1u b xs i = some (if xs = b.drop i then .go () else .ret false)
 | [],i,h => by
  rw [a1u,List.drop_of_length_le (by simp at h; omega)]; rfl
 | x :: xs,i,h => by
  simp only [List.length_cons] at h
  obtain ⟨y,hy⟩:∃ y,b[i]? = some y:=⟨b[i]'(by omega),List.getElem?_eq_getElem (by omega)⟩
  have ed:b.drop i = y :: b.drop (i + 1):=by
   rw [List.drop_eq_getElem_cons (by omega)]; congr 1; exact (List.getElem?_eq_some_iff.1 hy).2
  rw [a1u,a0h,hy,Option.bind_some,d5x,d1t b xs (i + 1) (by omega),ed]
  by_cases e:x = y
  ·subst e; simp
  ·simp [e]
theorem f1g (a b:List o5):a2l a b = some (decide (a = b)):=by
 unfold a2l
 by_cases e:a.length = b.length
 ·rw [if_neg (by simp [e]),d1t b a 0 (by omega),List.drop_zero]
  by_cases q:a = b <;> simp [q]
 ·have:a ≠ b:=fun h => e (by rw [h])
  rw [if_pos (by simp; omega)]
  simp [this]
theorem c6a (b:List o5):∀ (xs:List o5) (i:Nat),i + xs.length = b.length → b0w b xs i = some (if xs = b.drop i then .go () else .ret false)
 | [],i,h => by
  rw [b0w,List.drop_of_length_le (by simp at h; omega)]; rfl
 | x :: xs,i,h => by
  simp only [List.length_cons] at h
  obtain ⟨y,hy⟩:∃ y,b[i]? = some y:=⟨b[i]'(by omega),List.getElem?_eq_getElem (by omega)⟩
  have ed:b.drop i = y :: b.drop (i + 1):=by
   rw [List.drop_eq_getElem_cons (by omega)]; congr 1; exact (List.getElem?_eq_some_iff.1 hy).2
  rw [b0w,a0h,hy,Option.bind_some,d5x,c6a b xs (i + 1) (by omega),ed]
  by_cases e:x = y
  ·subst e; simp
  ·simp [e]
theorem c2c (a b:List o5):a8k a b = some (decide (a = b)):=by
 unfold a8k
 by_cases e:a.length = b.length
 ·rw [if_neg (by simp [e]),c6a b a 0 (by omega),List.drop_zero]
  by_cases q:a = b <;> simp [q]
 ·have:a ≠ b:=fun h => e (by rw [h])
  rw [if_pos (by simp; omega)]
  simp [this]
def cellAt (r:o8) (k:Int):List o5:=(r.Cells[k.toNat]?).getD []
theorem c6b (r:o8) (k:Int) (h:0 ≤ k ∧ k < r.Cells.length):idx r.Cells k = some (cellAt r k):=by
 obtain ⟨n,rfl⟩:∃ n:Nat,k = n:=⟨k.toNat,by omega⟩
 rw [a0h]
 unfold cellAt
 simp only [Int.toNat_natCast]
 rw [List.getElem?_eq_getElem (by omega)]
 rfl
def c1h (u:List Int) (a b:o8):Bool:=u.all fun k => decide (cellAt a k = cellAt b k)
def inU (u:List Int) (r:o8):Prop:=∀ k ∈ u,0 ≤ k ∧ k < r.Cells.length
theorem e8p (u:List Int) (a b:o8) (ha:inU u a) (hb:inU u b):a2o u (fun a0 => a8b a0 a b) = some (!c1h u a b):=by
 rw [b5w _ (fun k => !decide (cellAt a k = cellAt b k)) u (fun k hk => by unfold a8b; rw [c6b a k (ha k hk),Option.bind_some,c6b b k (hb k hk),Option.bind_some,f1g]; rfl),d1k]
 rfl
theorem c3j (rows:List o8) (i:Nat) (t:o6) (a:o8) (ha:inU t.Unique a) (hr:∀ r ∈ rows,inU t.Unique r):∀ (xs:List o8) (k:Nat),(rows.take i).drop k = xs → a3r rows i t a xs k = some (if (xs.all fun b => !c1h t.Unique a b) = true then .go () else .ret true)
 | [],k,_ => by rw [a3r]; rfl
 | b :: xs,k,hd => by
  have hk:(rows.take i)[k]? = some b:=by have:=congrArg (·[0]?) hd; simpa using this
  have hb:b ∈ rows:=List.mem_of_mem_take (List.mem_of_getElem? hk)
  rw [a3r,a0h,hk,Option.bind_some,e8p _ a b ha (hr b hb),Option.bind_some,c3j rows i t a ha hr xs (k + 1) (a2e hd)]
  simp only [List.all_cons]
  rcases Bool.eq_false_or_eq_true (c1h t.Unique a b) with hz1 | hz1 <;> simp [hz1]
def c7j (t:o6) (rows:List o8) (i:Nat) (a:o8):Bool:=(rows.take i).all fun b => !c1h t.Unique a b
theorem c3k (rows:List o8) (t:o6) (hr:∀ r ∈ rows,inU t.Unique r):∀ (xs:List o8) (i:Nat),rows.drop i = xs → a3s rows t xs i = some (if a1p (c7j t rows) xs i = true then .go () else .ret true)
 | [],i,_ => by rw [a3s]; rfl
 | a :: xs,i,hd => by
  have hlt:=a6g hd
  have ha:rows[i]? = some a:=by have:=congrArg (·[0]?) hd; simpa using this
  rw [a3s,if_pos (by omega),c3j rows i t a (hr a (List.mem_of_getElem? ha)) hr (rows.take i) 0 (by simp),c3k rows t hr xs (i + 1) (a2e hd)]
  simp only [a1p,c7j]
  rcases Bool.eq_false_or_eq_true (((rows.take i).all fun b => !c1h t.Unique a b)) with hz1 | hz1 <;> simp [hz1]
def d9h (t:o6) (rows:List o8):Bool:=decide (t.Unique = []) || a1p (c7j t rows) rows 0
theorem e2g (t:o6) (rows:List o8) (hr:∀ r ∈ rows,inU t.Unique r):b3o t rows = some (!d9h t rows):=by
 unfold b3o d9h
 by_cases e:t.Unique = []
 ·simp [e]
 ·have e':((t.Unique.length:Int) == 0) = false:=by
   have:t.Unique.length ≠ 0:=fun h => e (List.length_eq_zero_iff.1 h)
   simp; omega
  rw [e',c3k rows t hr rows 0 (by simp)]
  rcases Bool.eq_false_or_eq_true (a1p (c7j t rows) rows 0) with hz1 | hz1 <;> simp [hz1,e]
def e2h (x:x9) (i:Nat) (t:o6):Bool:=match x.Tables[i]? with | none => false | some rows => d9h t rows
theorem c8h (x:x9) (s:o7) (hlen:x.Tables.length = s.Tables.length):∀ (ts:List o6) (i:Nat) (code:Int),i + ts.length = s.Tables.length → (∀ (q:Nat) (t:o6) (rows:List o8),ts[q]? = some t → x.Tables[i + q]? = some rows → ∀ r ∈ rows,inU t.Unique r) →
  ∀ c0 c1,a5p (c0,x,c1) ts i code = some (if code = 0 ∧ a1p (e2h x) ts i = false then 12 else code)
 | [],i,code,_,_,c0,c1 => by rw [a5p]; simp [a1p]
 | t :: ts,i,code,hl,h,c0,c1 => by
  simp only [List.length_cons] at hl
  obtain ⟨rows,hi⟩:∃ l,x.Tables[i]? = some l:=⟨x.Tables[i]'(by omega),List.getElem?_eq_getElem (by omega)⟩
  have ih:=fun code => c8h x s hlen ts (i + 1) code (by omega) (fun q t' rows' h1 h2 => h (q + 1) t' rows' (by simpa using h1) (by rw [show i + (q + 1) = i + 1 + q from by omega]; exact h2)) c0 c1
  rw [a5p]
  by_cases c:code = 0
  ·subst c
   simp only [beq_self_eq_true,if_true,a0h,hi,Option.bind_some,e2g t rows (h 0 t rows rfl (by simpa using hi)),ih,a1p,e2h]
   rcases Bool.eq_false_or_eq_true (d9h t rows) with hz1 | hz1 <;> simp [hz1]
  ·have c':(code == 0) = false:=by simpa using c
   rw [c']
   simp only [Bool.false_eq_true,if_false,Option.bind_some,ih]
   simp [c]
def d1v (s:o7) (x:x9):Bool:=a1p (e2h x) s.Tables 0
structure c7k (s:o7) (x:x9):Prop where
 len:x.Tables.length = s.Tables.length
 ris:e8o x
 ref:∀ t ∈ s.Tables,∀ c ∈ t.Columns,b0f s c = true
 cols:∀ t ∈ s.Tables,t.Columns.length ≤ 6
 uni:∀ t ∈ s.Tables,t.Unique.length ≤ 6 ∧ ∀ k ∈ t.Unique,0 ≤ k ∧ k < t.Columns.length
 cell:∀ (q:Nat) (t:o6) (rows:List o8),s.Tables[q]? = some t → x.Tables[q]? = some rows → ∀ r ∈ rows,r.Cells.length = t.Columns.length
theorem e8q {s:o7} {x:x9} (h:c1g s x = true):c7k s x:=by
 unfold c1g at h
 simp only [Bool.and_eq_true,decide_eq_true_eq] at h
 obtain ⟨⟨⟨h1,h2⟩,h3⟩,h4⟩:=h
 have tab:∀ t ∈ s.Tables,b8y t = true:=fun t ht => b7e h1 ht
 have hI:=(b1p _ _ _).1 h4
 have rowt:∀ (q:Nat) (l:List o8),x.Tables[q]? = some l → ∃ t,s.Tables[q]? = some t ∧ l.length ≤ 12 ∧ a6o l = true ∧ b9h t x.Next l = true:=by
  intro q l hq
  have:=hI q l hq
  rw [Nat.zero_add] at this
  unfold c3g at this
  cases ht:s.Tables[q]? with
  | none => rw [ht] at this; cases this
  | some t =>
   rw [ht] at this
   simp only [Bool.and_eq_true,decide_eq_true_eq] at this
   exact ⟨t,rfl,this.1.1,this.1.2,this.2⟩
 refine ⟨h2,fun l hl => ?_,?_,fun t ht => ?_,fun t ht => ?_,fun q t rows ht hr r hm => ?_⟩
 ·obtain ⟨q,hq⟩:=List.mem_iff_getElem?.1 hl
  obtain ⟨t,_,g1,g2,_⟩:=rowt q l hq
  exact ⟨g2,g1⟩
 ·unfold a7v at h1
  simp only [Bool.and_eq_true] at h1
  intro t ht c hc
  exact List.all_eq_true.1 (List.all_eq_true.1 h1.2 t ht) c hc
 ·have:=tab t ht
  unfold b8y at this
  simp only [Bool.and_eq_true,decide_eq_true_eq] at this
  omega
 ·have:=tab t ht
  unfold b8y at this
  simp only [Bool.and_eq_true,decide_eq_true_eq] at this
  have hu:=c9k t this.2
  refine ⟨by omega,fun k hk => ?_⟩
  obtain ⟨q,hq⟩:=c0r this.2 hk
  unfold a6m at hq
  simp only [Bool.and_eq_true,decide_eq_true_eq] at hq
  omega
 ·obtain ⟨t',ht',_,_,g⟩:=rowt q rows hr
  rw [ht] at ht'; cases ht'
  unfold b9h at g
  have:=List.all_eq_true.1 g r hm
  simp only [Bool.and_eq_true,decide_eq_true_eq] at this
  exact this.1.2
theorem d1w {s:o7} {x:x9} (h:c7k s x) {q:Nat} {t:o6} {rows:List o8} (ht:s.Tables[q]? = some t) (hr:x.Tables[q]? = some rows):∀ r ∈ rows,inU t.Unique r:=by
 intro r hm k hk
 have h1:=(h.uni t (List.mem_of_getElem? ht)).2 k hk
 have h2:=h.cell q t rows ht hr r hm
 omega
theorem d6e {s:o7} {x:x9} (h:c7k s x):b1i s x true = some (if d1s s x = false then 13 else if d1v s x = false then 12 else 0):=by
 unfold b1i b3s
 rw [d4l x s h.ris h.len s.Tables 0 0 (by omega) h.ref (fun q t rows h1 h2 r hm => by rw [h.cell q t rows h1 (by simpa using h2) r hm]; omega),Option.bind_some]
 simp only
 rw [c8h x s h.len s.Tables 0 _ (by omega) (fun q t rows h1 h2 => d1w h h1 (by simpa using h2)),Option.bind_some]
 unfold d1s d1v
 rcases Bool.eq_false_or_eq_true (a1p (d9g x s) s.Tables 0) with hz1 | hz1 <;> rcases Bool.eq_false_or_eq_true (a1p (e2h x) s.Tables 0) with hz2 | hz2 <;> simp [hz1,hz2]
theorem c1i (rows:List o8) (k j:Nat) (a b:o8) (hk:rows[k]? = some a) (hj:rows[j]? = some b):∀ (u:List Int) (same:Bool),inU u a → inU u b → a3g rows (k:Int) (j:Int) u same = some (same && c1h u a b)
 | [],same,_,_ => by rw [a3g]; simp [c1h]
 | n :: u,same,ha,hb => by
  have ih:=fun same => c1i rows k j a b hk hj u same (fun z hz => ha z (by simp [hz])) (fun z hz => hb z (by simp [hz]))
  rw [a3g]
  cases same with
  | true =>
   rw [if_pos rfl,a0h,hk,Option.bind_some,c6b a n (ha n (by simp)),Option.bind_some,a0h,hj,Option.bind_some,c6b b n (hb n (by simp)),Option.bind_some,c2c,Option.bind_some,ih]
   simp [c1h]
  | false =>
   rw [if_neg (by simp),ih]
   simp
theorem c1j (rows:List o8) (t:o6) (k:Nat) (a:o8) (hk:rows[k]? = some a) (hr:∀ r ∈ rows,inU t.Unique r) (hl:rows.length ≤ 12):∀ (n fuel j:Nat),n + j = k → n < fuel → a3y (k:Int) rows t fuel (j:Int) = some (if (((rows.take k).drop j).all fun b => !c1h t.Unique a b) = true then .go () else .ret false)
 | n,0,j,_,hf => by omega
 | n,fuel + 1,j,hn,hf => by
  have hlt:=(List.getElem?_eq_some_iff.1 hk).1
  rw [a3y]
  cases n with
  | zero =>
   have:¬ ((j:Int) < (k:Int)):=by omega
   rw [if_neg (by simpa using this),List.drop_of_length_le (by simp; omega)]
   rfl
  | succ n =>
   have hj:j < k:=by omega
   obtain ⟨b,hb⟩:∃ b,rows[j]? = some b:=⟨rows[j]'(by omega),List.getElem?_eq_getElem (by omega)⟩
   have ed:(rows.take k).drop j = b :: (rows.take k).drop (j + 1):=by
    have:(rows.take k)[j]? = some b:=by rw [List.getElem?_take_of_lt hj]; exact hb
    obtain ⟨h1,h2⟩:=List.getElem?_eq_some_iff.1 this
    rw [List.drop_eq_getElem_cons h1,h2]
   have ew:w64 ((j:Int) + 1) = ((j + 1:Nat):Int):=by rw [a0w (by omega)]; omega
   rw [if_pos (by simpa using hj),c1i rows k j a b hk hb t.Unique true (hr a (List.mem_of_getElem? hk)) (hr b (List.mem_of_getElem? hb)),Option.bind_some,ew,c1j rows t k a hk hr hl n fuel (j + 1) (by omega) (by omega),ed]
   simp only [List.all_cons,Bool.true_and]
   rcases Bool.eq_false_or_eq_true (c1h t.Unique a b) with hz1 | hz1 <;> simp [hz1]
theorem c1k (rows:List o8) (t:o6) (hr:∀ r ∈ rows,inU t.Unique r) (hl:rows.length ≤ 12) (hu:t.Unique ≠ []):∀ (n fuel k:Nat),n + k = rows.length → n < fuel → a2w rows t fuel (k:Int) = some (if a1p (c7j t rows) (rows.drop k) k = true then .go () else .ret false)
 | n,0,k,_,hf => by omega
 | n,fuel + 1,k,hn,hf => by
  rw [a2w,Option.bind_some]
  have u1:decide ((t.Unique.length:Int) > 0) = true:=by
   have:t.Unique.length ≠ 0:=fun h => hu (List.length_eq_zero_iff.1 h)
   simp; omega
  cases n with
  | zero =>
   have:decide ((k:Int) < (rows.length:Int)) = false:=decide_eq_false (by omega)
   rw [this,List.drop_of_length_le (by omega)]
   rfl
  | succ n =>
   have hk:k < rows.length:=by omega
   have c1:decide ((k:Int) < (rows.length:Int)) = true:=decide_eq_true (by omega)
   obtain ⟨a,ha⟩:∃ a,rows[k]? = some a:=⟨rows[k],List.getElem?_eq_getElem hk⟩
   have ed:rows.drop k = a :: rows.drop (k + 1):=by
    rw [List.drop_eq_getElem_cons hk]; congr 1; exact (List.getElem?_eq_some_iff.1 ha).2
   have ew:w64 ((k:Int) + 1) = ((k + 1:Nat):Int):=by rw [a0w (by omega)]; omega
   have hf':=b3f
   have e3:=c1j rows t k a ha hr hl k FUEL 0 (by omega) (by omega)
   have e3':a3y (k:Int) rows t FUEL 0 = _:=e3
   rw [c1,u1,show (bif true then true else false) = true from rfl,if_pos rfl,e3',ew,c1k rows t hr hl hu n fuel (k + 1) (by omega) (by omega),ed,List.drop_zero]
   simp only [a1p,c7j]
   rcases Bool.eq_false_or_eq_true (((rows.take k).all fun b => !c1h t.Unique a b)) with hz1 | hz1 <;> simp [hz1]
theorem c8u (rows:List o8) (t:o6) (hr:∀ r ∈ rows,inU t.Unique r) (hl:rows.length ≤ 12):a2w rows t FUEL 0 = some (if d9h t rows = true then .go () else .ret false):=by
 have hf:=b3f
 by_cases hu:t.Unique = []
 ·obtain ⟨k,hk⟩:∃ k,FUEL = k + 1:=⟨FUEL - 1,by omega⟩
  rw [hk,a2w,Option.bind_some]
  unfold d9h
  rcases Bool.eq_false_or_eq_true (decide ((0:Int) < (rows.length:Int))) with hz1 | hz1 <;> simp [hz1,hu]
 ·have e:=c1k rows t hr hl hu rows.length FUEL 0 (by omega) (by omega)
  have e':a2w rows t FUEL 0 = _:=e
  rw [e']
  unfold d9h
  simp [hu]
theorem c1l {s:o7} {x:x9} (h:c7k s x):∀ (xs:List (List o8)) (i:Nat),x.Tables.drop i = xs → a3z s xs i = some (if a1p (e2h x) (s.Tables.drop i) i = true then .go () else .ret false)
 | [],i,hd => by
  have:=h.len
  have:x.Tables.length ≤ i:=by simpa using hd
  rw [a3z,List.drop_of_length_le (by omega)]
  rfl
 | rows :: xs,i,hd => by
  have hlt:=a6g hd
  have hlen:=h.len
  have hi:x.Tables[i]? = some rows:=by have:=congrArg (·[0]?) hd; simpa using this
  obtain ⟨t,ht⟩:∃ t,s.Tables[i]? = some t:=⟨s.Tables[i]'(by omega),List.getElem?_eq_getElem (by omega)⟩
  have ed:s.Tables.drop i = t :: s.Tables.drop (i + 1):=by
   rw [List.drop_eq_getElem_cons (by omega)]; congr 1; exact (List.getElem?_eq_some_iff.1 ht).2
  rw [a3z,a0h,ht,Option.bind_some,c8u rows t (d1w h ht hi) (h.ris rows (List.mem_of_getElem? hi)).2,c1l h xs (i + 1) (a2e hd),ed]
  simp only [a1p,e2h,hi]
  rcases Bool.eq_false_or_eq_true (d9h t rows) with hz1 | hz1 <;> simp [hz1]
theorem d9i {s:o7} {x:x9} (h:c7k s x):b2j s x = some (if d1s s x = false then 13 else if d1v s x = false then 12 else 0):=by
 unfold b2j b6o b4r
 rw [c5z s x h.len h.cols x.Tables 0 (by simp) h.ref (fun q t rows h1 h2 r hm => by rw [h.cell q t rows h1 h2 r hm]; omega),c1l h x.Tables 0 (by simp)]
 unfold d1s d1v
 simp only [List.drop_zero]
 rcases Bool.eq_false_or_eq_true (a1p (d9g x s) s.Tables 0) with hz1 | hz1 <;> rcases Bool.eq_false_or_eq_true (a1p (e2h x) s.Tables 0) with hz2 | hz2 <;> simp [hz1,hz2]
def smR (r:o8):Prop:=r.Cells.length ≤ 2 ^ 30 ∧ ∀ d ∈ r.Cells,d.length ≤ 2 ^ 30
def smL (l:List o8):Prop:=l.length ≤ 2 ^ 29 ∧ ∀ r ∈ l,smR r
def smS (x:x9):Prop:=x.Tables.length ≤ 2 ^ 29 ∧ ∀ l ∈ x.Tables,smL l
def d4m (l:List o8) (id:Int):List o8:=l.filter fun r => !(r.Id == id)
def c2i:List o8 → o8 → List o8
 | [],r => [r]
 | x :: xs,r => if x.Id < r.Id then x :: c2i xs r else if x.Id = r.Id then r :: xs else r :: x :: xs
theorem c8i:∀ (xs out:List o8),out.length + xs.length ≤ 2 ^ 30 → (∀ r ∈ xs,smR r) → b2e xs out = some (out ++ xs)
 | [],out,_,_ => by rw [b2e]; simp
 | x :: xs,out,h,hd => by
  simp only [List.length_cons] at h
  have:=hd x (by simp)
  rw [b2e,b7s x this.1 this.2,Option.bind_some,if_pos (by simp; omega),c8i xs _ (by simp; omega) (fun y hy => hd y (by simp [hy]))]
  simp
theorem c8j:∀ (xs out:List (List o8)),out.length + xs.length ≤ 2 ^ 30 → (∀ l ∈ xs,smL l) → b2f xs out = some (out ++ xs)
 | [],out,_,_ => by rw [b2f]; simp
 | x :: xs,out,h,hd => by
  simp only [List.length_cons] at h
  have:=hd x (by simp)
  have h2:=this.1
  rw [b2f,c8i x [] (by simp; omega) this.2,Option.bind_some,if_pos (by simp; omega),c8j xs _ (by simp; omega) (fun y hy => hd y (by simp [hy]))]
  simp
theorem c6c (x:x9) (h:smS x):a7c x = some x:=by
 have:=h.1
 unfold a7c
 rw [c8j x.Tables [] (by simp; omega) h.2]
 cases x
 rfl
theorem b6r (id:Int):∀ l:List o8,a6o l = true →
  (a4v l id = true ∧ ∃ A r B,l = A ++ r :: B ∧ r.Id = id ∧ (∀ x ∈ A,x.Id < id) ∧ ∀ x ∈ B,id < x.Id) ∨ (a4v l id = false ∧ ∃ A B,l = A ++ B ∧ (∀ x ∈ A,x.Id < id) ∧ ∀ x ∈ B,id < x.Id)
 | [],_ => .inr ⟨rfl,[],[],rfl,by simp,by simp⟩
 | a :: l,hs => by
  obtain ⟨h1,h2⟩:=c2a hs
  rcases Int.lt_trichotomy a.Id id with h | h | h
  ·have hn:a4v (a :: l) id = a4v l id:=by
    have:¬ a.Id = id:=by omega
    simp [a4v,this]
   rw [hn]
   rcases b6r id l h1 with ⟨e,A,r,B,rfl,hr,hA,hB⟩ | ⟨e,A,B,rfl,hA,hB⟩
   ·refine .inl ⟨e,a :: A,r,B,rfl,hr,fun x hx => ?_,hB⟩
    rcases List.mem_cons.1 hx with rfl | hx
    ·exact h
    ·exact hA x hx
   ·refine .inr ⟨e,a :: A,B,rfl,fun x hx => ?_,hB⟩
    rcases List.mem_cons.1 hx with rfl | hx
    ·exact h
    ·exact hA x hx
  ·refine .inl ⟨by simp [a4v,h],[],a,l,rfl,h,by simp,fun x hx => by have:=h2 x hx; omega⟩
  ·refine .inr ⟨?_,[],a :: l,rfl,by simp,fun x hx => ?_⟩
   ·unfold a4v
    rw [List.any_eq_false]
    intro x hx
    rcases List.mem_cons.1 hx with rfl | hx
    ·simp; omega
    ·have:=h2 x hx; simp; omega
   ·rcases List.mem_cons.1 hx with rfl | hx
    ·exact h
    ·have:=h2 x hx; omega
theorem c3l {A B:List o8} {r:o8} {id:Int} (hA:∀ x ∈ A,x.Id < id) (hr:r.Id = id):(A ++ r :: B).findIdx? (fun r => r.Id == id) = some A.length:=by
 induction A with
 | nil => simp [List.findIdx?_cons,hr]
 | cons a A ih =>
  have h1:=hA a (by simp)
  rw [List.cons_append,List.findIdx?_cons,ih fun x hx => hA x (by simp [hx])]
  have:¬ a.Id = id:=by omega
  simp [this]
theorem e2i {A B:List o8} {r:o8} {id:Int} (hA:∀ x ∈ A,x.Id < id) (hr:r.Id = id) (hB:∀ x ∈ B,id < x.Id):d4m (A ++ r :: B) id = A ++ B:=by
 unfold d4m
 rw [List.filter_append,List.filter_cons,if_neg (by simp [hr]),List.filter_eq_self.2 (fun x hx => by have:=hA x hx; simp; omega),List.filter_eq_self.2 (fun x hx => by have:=hB x hx; simp; omega)]
theorem c2d {A B:List o8} {r x:o8} (hA:∀ y ∈ A,y.Id < x.Id) (hr:r.Id = x.Id):c2i (A ++ r :: B) x = A ++ x :: B:=by
 induction A with
 | nil => simp [c2i,hr]
 | cons a A ih =>
  have h1:=hA a (by simp)
  rw [List.cons_append,c2i,if_pos h1,ih fun y hy => hA y (by simp [hy])]; rfl
theorem d9j {A B:List o8} {x:o8} (hA:∀ y ∈ A,y.Id < x.Id) (hB:∀ y ∈ B,x.Id < y.Id):c2i (A ++ B) x = A ++ x :: B:=by
 induction A with
 | nil =>
  cases B with
  | nil => rfl
  | cons b B =>
   have:=hB b (by simp)
   rw [List.nil_append,c2i,if_neg (by omega),if_neg (by omega)]; rfl
 | cons a A ih =>
  have h1:=hA a (by simp)
  rw [List.cons_append,c2i,if_pos h1,ih fun y hy => hA y (by simp [hy])]; rfl
theorem c7l {A B:List o8} {r:o8}:idx (A ++ r :: B) (A.length:Int) = some r:=by rw [a0h]; simp
theorem c1m (l:List o8) (r:o8) (A B:List o8) (hl:l = A ++ B) (hA:∀ x ∈ A,x.Id < r.Id) (hB:∀ x ∈ B,r.Id ≤ x.Id) (hs:l.length ≤ 2 ^ 40):∀ (n f k:Nat),k + n = A.length → n < f → a7i l r f (k:Int) = some ((A.length:Nat):Int)
 | _,0,_,_,h => by omega
 | 0,f + 1,k,h,_ => by
  have hk:k = A.length:=by omega
  subst hk
  rw [a7i]
  cases B with
  | nil => rw [if_neg (by rw [hl]; simp),Option.bind_some,if_neg (by simp)]
  | cons b B =>
   have:=hB b (by simp)
   have hi:idx l (A.length:Int) = some b:=by rw [hl]; exact c7l
   rw [if_pos (by rw [hl]; simp <;> omega),hi,Option.bind_some,Option.bind_some,if_neg (by simp; omega)]
 | n + 1,f + 1,k,h,hf => by
  have hk:k < A.length:=by omega
  have hla:A.length ≤ l.length:=by rw [hl]; simp
  have hi:idx l (k:Int) = some A[k]:=by rw [a0h,hl,List.getElem?_append_left hk,List.getElem?_eq_getElem hk]
  have:=hA A[k] (List.getElem_mem hk)
  rw [a7i,if_pos (by simp; omega),hi,Option.bind_some,Option.bind_some,if_pos (by simpa using this),a0w (by omega)]
  exact c1m l r A B hl hA hB hs n f (k + 1) (by omega) (by omega)
theorem d9k (x:x9) (t:Nat) (l:List o8) (r:o8) (hx:smS x) (ht:x.Tables[t]? = some l) (hs:a6o l = true) (hr:smR r):b2g x (t:Int) r = some ⟨x.Tables.set t (c2i l r),x.Next⟩:=by
 have hl:=hx.2 l (List.mem_of_getElem? ht)
 have h0:=hl.1
 have hf:=b3f
 have htl:=(List.getElem?_eq_some_iff.1 ht).1
 unfold b2g
 rw [c6c x hx,Option.bind_some,if_pos (by omega),Nat.zero_add,Int.toNat_natCast,ht,Option.bind_some]
 rcases b6r r.Id l hs with ⟨hh,A,q,B,rfl,hq,hA,hB⟩ | ⟨hh,A,B,rfl,hA,hB⟩
 ·simp only [List.length_append,List.length_cons] at h0
  have hB':∀ y ∈ q :: B,r.Id ≤ y.Id:=by
   intro y hy
   rcases List.mem_cons.1 hy with rfl | hy
   ·omega
   ·have:=hB y hy; omega
  have e1:a7i (A ++ q :: B) r FUEL 0 = some ((A.length:Nat):Int):=c1m _ r A (q :: B) rfl hA hB' (by simp; omega) A.length FUEL 0 (by omega) (by omega)
  rw [e1,Option.bind_some,if_pos (by simp <;> omega),if_pos (by simp <;> omega),c7l,Option.bind_some,Option.bind_some,if_pos (by simp [hq]),a0w (by omega),if_pos (by simp <;> omega),Option.bind_some,
   if_pos (by simp <;> omega),if_pos (by simp; omega),b7s r hr.1 hr.2,Option.bind_some,if_pos (by simp <;> omega)]
  have e2:((A.length:Int) + 1).toNat = A.length + 1:=by omega
  rw [e2,if_pos (by simp <;> omega),if_pos (by omega),c2d hA hq,Int.toNat_natCast,List.take_left]
  have e3:(A ++ q :: B).drop (A.length + 1) = B:=by rw [← List.drop_drop,List.drop_left]; rfl
  rw [e3]
  simp
 ·simp only [List.length_append] at h0
  have e1:a7i (A ++ B) r FUEL 0 = some ((A.length:Nat):Int):=c1m _ r A B rfl hA (fun y hy => by have:=hB y hy; omega) (by simp; omega) A.length FUEL 0 (by omega) (by omega)
  rw [e1,Option.bind_some,if_pos (by simp <;> omega)]
  have e4:(if decide (((A.length:Nat):Int) < (((A ++ B).length:Nat):Int)) = true then (idx (A ++ B) ((A.length:Nat):Int)).bind fun x_80 => some (x_80.Id == r.Id) else some false:Option Bool) = some false:=by
   cases B with
   | nil => rw [if_neg (by simp)]
   | cons b B =>
    have:=hB b (by simp)
    rw [if_pos (by simp <;> omega),c7l,Option.bind_some]
    have:¬ b.Id = r.Id:=by omega
    simp [this]
  rw [e4,Option.bind_some,if_neg (by simp),Option.bind_some,if_pos (by simp <;> omega),if_pos (by simp; omega),b7s r hr.1 hr.2,Option.bind_some,if_pos (by simp <;> omega),if_pos (by simp <;> omega),if_pos (by omega),
   d9j hA hB,Int.toNat_natCast,List.take_left,List.drop_left]
  simp
theorem e3n {A B:List o8} {r:o8}:a6o A = true → a6o B = true → (∀ x ∈ A,x.Id < r.Id) → (∀ x ∈ B,r.Id < x.Id) → a6o (A ++ r :: B) = true:=by
 have hc:∀ (a:o8) (l:List o8),a6o l = true → (∀ x ∈ l,a.Id < x.Id) → a6o (a :: l) = true:=by
  intro a l h1 h2
  cases l with
  | nil => rfl
  | cons b l => simp only [a6o,Bool.and_eq_true,decide_eq_true_eq]; exact ⟨h2 b (by simp),h1⟩
 intro h1 h2 h3 h4
 induction A with
 | nil => exact hc r B h2 h4
 | cons a A ih =>
  have ha:=c2a h1
  have har:=h3 a (by simp)
  refine hc a (A ++ r :: B) (ih ha.1 (fun x hx => h3 x (by simp [hx]))) ?_
  intro x hx
  rcases List.mem_append.1 hx with h | h
  ·exact ha.2 x h
  ·rcases List.mem_cons.1 h with rfl | h
   ·exact har
   ·have:=h4 x h; omega
theorem c6d {A B:List o8} (h:List.Sublist A B) (hb:a6o B = true):a6o A = true:=by
 have hp:=(c2b hb).sublist h
 have:∀ l:List o8,l.Pairwise (fun a b => a.Id < b.Id) → a6o l = true:=by
  intro l
  induction l with
  | nil => intro _; rfl
  | cons a l ih =>
   intro h
   rw [List.pairwise_cons] at h
   cases l with
   | nil => rfl
   | cons b l => simp only [a6o,Bool.and_eq_true,decide_eq_true_eq]; exact ⟨h.1 b (by simp),ih h.2⟩
 exact this A hp
theorem e8r {l:List o8} (id:Int) (h:a6o l = true):a6o (d4m l id) = true:=c6d List.filter_sublist h
theorem f1h {l:List o8} (r:o8) (h:a6o l = true) (hl:l.length ≤ 2 ^ 30):a6o (c2i l r) = true:=by
 rcases b6r r.Id l h with ⟨hh,A,q,B,rfl,hq,hA,hB⟩ | ⟨hh,A,B,rfl,hA,hB⟩
 ·rw [c2d hA hq]
  exact e3n (c6d (List.sublist_append_left _ _) h) (c6d ((List.sublist_cons_self q B).trans (List.sublist_append_right _ _)) h) hA hB
 ·rw [d9j hA hB]
  exact e3n (c6d (List.sublist_append_left _ _) h) (c6d (List.sublist_append_right _ _) h) hA hB
theorem put_mem {l:List o8} {r x:o8} (h:x ∈ c2i l r):x = r ∨ x ∈ l:=by
 induction l with
 | nil => simp [c2i] at h; exact .inl h
 | cons y l ih =>
  rw [c2i] at h
  split at h
  ·rcases List.mem_cons.1 h with rfl | h
   ·exact .inr (by simp)
   ·rcases ih h with h | h
    ·exact .inl h
    ·exact .inr (by simp [h])
  ·split at h
   ·rcases List.mem_cons.1 h with rfl | h
    ·exact .inl rfl
    ·exact .inr (by simp [h])
   ·rcases List.mem_cons.1 h with rfl | h
    ·exact .inl rfl
    ·exact .inr h
theorem f1i (l:List o8) (r:o8):(c2i l r).length ≤ l.length + 1:=by
 induction l with
 | nil => simp [c2i]
 | cons y l ih =>
  rw [c2i]
  split
  ·simp only [List.length_cons]; omega
  ·split <;> simp
theorem e8s {l:List o8} {id:Int} {x:o8} (h:x ∈ d4m l id):x ∈ l:=(List.mem_filter.1 h).1
theorem e8t (l:List o8) (id:Int):(d4m l id).length ≤ l.length:=List.length_filter_le _ _
theorem d9l:∀ {a b c:Str},Op.bytesLess a b = true → Op.bytesLess b c = true → Op.bytesLess a c = true
 | _,[],_,h,_ => by cases ‹Str› <;> simp [Op.bytesLess] at h
 | _,_ :: _,[],_,h => by simp [Op.bytesLess] at h
 | [],_ :: _,_ :: _,_,_ => by simp [Op.bytesLess]
 | x :: a,y :: b,z :: c,h1,h2 => by
  simp only [Op.bytesLess,Bool.or_eq_true,Bool.and_eq_true,decide_eq_true_eq,beq_iff_eq] at *
  rcases h1 with h1 | ⟨rfl,h1⟩
  ·rcases h2 with h2 | ⟨rfl,h2⟩
   ·exact .inl (UInt8.lt_trans h1 h2)
   ·exact .inl h1
  ·rcases h2 with h2 | ⟨rfl,h2⟩
   ·exact .inl h2
   ·exact .inr ⟨rfl,d9l h1 h2⟩
theorem e8u (a:Str):Op.bytesLess a a = false:=by
 rw [c6z,(b8f a a).2 rfl]; rfl
theorem d9m {s:o7} (h:a7v s = true):∀ (d i:Nat) (a b:o6),s.Tables[i]? = some a → s.Tables[i + d + 1]? = some b → Op.bytesLess a.Name b.Name = true:=by
 unfold a7v at h
 simp only [Bool.and_eq_true] at h
 have hst:∀ i a b,s.Tables[i]? = some a → s.Tables[i + 1]? = some b → Op.bytesLess a.Name b.Name = true:=by
  intro i a b ha hb
  have:=(b1p _ _ _).1 h.1.2 (i + 1) b hb
  simp only [b2z,Nat.zero_add,Nat.add_sub_cancel,ha,Bool.and_eq_true,Bool.or_eq_true] at this
  rcases this.2 with h | h
  ·simp at h
  ·exact h
 intro d
 induction d with
 | zero => exact hst
 | succ d ih =>
  intro i a b ha hb
  have hl:=(List.getElem?_eq_some_iff.1 hb).1
  obtain ⟨c,hc⟩:∃ c,s.Tables[i + d + 1]? = some c:=⟨s.Tables[i + d + 1]'(by omega),List.getElem?_eq_getElem (by omega)⟩
  exact d9l (ih i a c ha hc) (hst (i + d + 1) c b hc hb)
theorem f1j {s:o7} (h:a7v s = true) {ref:Str} {j:Nat} (hj:b4d s ref = some j) {k:Nat} {tt:o6} (hk:s.Tables[k]? = some tt):(ref == tt.Name) = decide (j = k):=by
 unfold b4d at hj
 obtain ⟨h1,h2,-⟩:=List.findIdx?_eq_some_iff_getElem.1 hj
 have h2:s.Tables[j].Name = ref:=by simpa using h2
 have hjt:s.Tables[j]? = some s.Tables[j]:=List.getElem?_eq_getElem h1
 by_cases e:j = k
 ·subst e
  rw [hjt] at hk
  cases hk
  simp [h2]
 ·rw [decide_eq_false e]
  rw [beq_eq_false_iff_ne]
  intro hr
  have hn:s.Tables[j].Name = tt.Name:=h2.trans hr
  rcases Nat.lt_or_gt_of_ne e with hlt | hlt
  ·have:=d9m h (k - j - 1) j _ tt hjt (by rw [show j + (k - j - 1) + 1 = k by omega]; exact hk)
   rw [hn,e8u] at this; cases this
  ·have:=d9m h (j - k - 1) k tt _ hk (by rw [show k + (j - k - 1) + 1 = j by omega]; exact hjt)
   rw [hn,e8u] at this; cases this
theorem e3o {s:o7} {ref:Str} {j:Nat} (hj:b4d s ref = some j):j < s.Tables.length:=by
 unfold b4d at hj
 exact (List.findIdx?_eq_some_iff_getElem.1 hj).1
theorem c8k {c:y7} (h:c2h c = true) (hs:c.Strong = true):c.Kind = 4:=by
 unfold c2h at h
 simp only [Bool.and_eq_true,Bool.or_eq_true,decide_eq_true_eq,hs] at h
 simp at h
 exact h.2.1.1.1.1
def d9n (id:Int) (d:List o5):Int:=if (⟨4,id,[]⟩:o5) ∈ d then 1 else 0
def c2j (k:Nat) (id:Int):List o8 → Int
 | [] => 0
 | r :: l => (match r.Cells[k]? with | some d => d9n id d | none => 0) + c2j k id l
def c8v (s:o7) (tab:Nat) (c:y7):Bool:=c.Strong && decide (b4d s c.Ref = some tab)
def b8i (s:o7) (tab:Nat) (id:Int) (rows:List o8):List y7 → Nat → Int
 | [],_ => 0
 | c :: cs,k => (if c8v s tab c = true then c2j k id rows else 0) + b8i s tab id rows cs (k + 1)
def b6d (s:o7) (tab:Nat) (id:Int) (T:List (List o8)):List o6 → Nat → Int
 | [],_ => 0
 | t :: ts,i => b8i s tab id ((T[i]?).getD []) t.Columns 0 + b6d s tab id T ts (i + 1)
theorem e2j (id:Int) (d:List o5):0 ≤ d9n id d ∧ d9n id d ≤ 1:=by unfold d9n; split <;> omega
theorem d6f (k:Nat) (id:Int):∀ l:List o8,0 ≤ c2j k id l ∧ c2j k id l ≤ l.length
 | [] => by simp [c2j]
 | r :: l => by
  have:=d6f k id l
  simp only [c2j,List.length_cons]
  cases r.Cells[k]? with
  | none => simp only; omega
  | some d => have:=e2j id d; simp only; omega
theorem d6g (s:o7) (tab:Nat) (id:Int) (rows:List o8):∀ (cs:List y7) (k:Nat),0 ≤ b8i s tab id rows cs k ∧ b8i s tab id rows cs k ≤ (cs.length * rows.length:Nat)
 | [],k => by simp [b8i]
 | c :: cs,k => by
  have h1:=d6g s tab id rows cs (k + 1)
  have h2:=d6f k id rows
  have h3:(cs.length + 1) * rows.length = cs.length * rows.length + rows.length:=by rw [Nat.add_mul,Nat.one_mul]
  simp only [b8i,List.length_cons]
  rw [h3]
  split <;> omega
theorem e2k (c:y7) (ref:Int) (d:List o5) (tab id n:Int) (hn:0 ≤ n ∧ n ≤ 2 ^ 30):a5k c ref d tab id n = some (tab,id,n + (if (c.Strong && (ref == tab)) = true then d9n id d else 0)):=by
 unfold a5k
 rw [d9b]
 unfold d9n
 have e:(bif c.Strong then (ref == tab) else false) = (c.Strong && (ref == tab)):=by cases c.Strong <;> rfl
 rw [e]
 cases (c.Strong && (ref == tab)) with
 | false => simp
 | true =>
  by_cases hm:(⟨4,id,[]⟩:o5) ∈ d
  ·simp [hm,a0w (n:=n + 1) (by omega)]
  ·simp [hm]
theorem d1x (s:o7) (c:y7) (k tab:Nat) (id:Int):∀ (rows:List o8) (n:Int),(∀ r ∈ rows,k < r.Cells.length) → 0 ≤ n → n + rows.length ≤ 2 ^ 30 →
  a7o k s c rows (tab:Int) id n = some ((tab:Int),id,n + (if c8v s tab c = true then c2j k id rows else 0))
 | [],n,_,_,_ => by rw [a7o]; simp [c2j]
 | r :: rows,n,h,h0,hn => by
  simp only [List.length_cons] at hn
  obtain ⟨d,hd⟩:∃ d,r.Cells[k]? = some d:=⟨r.Cells[k]'(h r (by simp)),List.getElem?_eq_getElem (h r (by simp))⟩
  have hb:=e2j id d
  have ec:(c.Strong && (atI (b4d s c.Ref) == (tab:Int))) = c8v s tab c:=by
   unfold c8v
   congr 1
   cases b4d s c.Ref with
   | none => simp [atI]
   | some j =>
    by_cases e:j = tab
    ·subst e; simp [atI]
    ·have e':¬ (j:Int) = (tab:Int):=by omega
     simp [atI,e,e']
  rw [a7o,a0h,hd,Option.bind_some,c7b,Option.bind_some,e2k c _ d _ id n ⟨h0,by omega⟩,Option.bind_some,ec]
  simp only
  rw [d1x s c k tab id rows _ (fun y hy => h y (by simp [hy])) (by split <;> omega) (by split <;> omega)]
  simp only [c2j,hd]
  congr 2
  cases c8v s tab c <;> simp
  omega
def d1y (s:o7) (T:List (List o8)):Prop:=T.length = s.Tables.length ∧ ∀ (i:Nat) (t:o6) (l:List o8),s.Tables[i]? = some t → T[i]? = some l → a6o l = true ∧ l.length ≤ 12 ∧ ∀ r ∈ l,r.Cells.length = t.Columns.length ∧ ∀ d ∈ r.Cells,d.length ≤ 2 ^ 30
theorem c4k (s:o7) (hs:a7v s = true) (x:x9) (i tab:Nat) (id:Int) (rows:List o8) (hi:x.Tables[i]? = some rows) (hl:rows.length ≤ 12):∀ (cs:List y7) (k:Nat) (n:Int),(∀ c ∈ cs,c2h c = true) → (∀ r ∈ rows,k + cs.length ≤ r.Cells.length) → 0 ≤ n → n + (cs.length * rows.length:Nat) ≤ 2 ^ 29 →
  a5q x i s cs k (tab:Int) id n = some ((tab:Int),id,n + b8i s tab id rows cs k)
 | [],k,n,_,_,_,_ => by rw [a5q]; simp [b8i]
 | c :: cs,k,n,hc,h,h0,hn => by
  have h3:(cs.length + 1) * rows.length = cs.length * rows.length + rows.length:=by rw [Nat.add_mul,Nat.one_mul]
  simp only [List.length_cons] at hn h
  rw [h3] at hn
  rw [a5q]
  have hR:=d6f k id rows
  by_cases q:c.Kind = 4
  ·rw [if_neg (by simp [q]),a0h,hi,Option.bind_some,d1x s c k tab id rows n (fun r hr => by have:=h r hr; omega) h0 (by omega),Option.bind_some]
   simp only
   rw [c4k s hs x i tab id rows hi hl cs (k + 1) _ (fun y hy => hc y (by simp [hy])) (fun r hr => by have:=h r hr; omega) (by split <;> omega) (by split <;> omega)]
   simp only [b8i,Int.add_assoc]
  ·have hns:c8v s tab c = false:=by
    unfold c8v
    cases hst:c.Strong with
    | false => rfl
    | true => exact absurd (c8k (hc c (by simp)) hst) q
   rw [if_pos (by simpa using q),c4k s hs x i tab id rows hi hl cs (k + 1) n (fun y hy => hc y (by simp [hy])) (fun r hr => by have:=h r hr; omega) h0 (by omega)]
   simp [b8i,hns]
theorem b3a {s:o7} (hs:a7v s = true) {t:o6} (ht:t ∈ s.Tables):t.Columns.length ≤ 6:=by
 have:=b7e hs ht
 unfold b8y at this
 simp only [Bool.and_eq_true,decide_eq_true_eq] at this
 omega
theorem b6s {s:o7} (hs:a7v s = true):s.Tables.length ≤ 4:=by
 unfold a7v at hs
 simp only [Bool.and_eq_true,decide_eq_true_eq] at hs
 omega
theorem d9o {s:o7} (hs:a7v s = true) {t:o6} (ht:t ∈ s.Tables) {l:List o8} (hl:l.length ≤ 12):t.Columns.length * l.length ≤ 72:=Nat.le_trans (Nat.mul_le_mul (b3a hs ht) hl) (by decide)
theorem d1z (s:o7) (hs:a7v s = true) (x:x9) (hx:d1y s x.Tables) (tab:Nat) (id:Int):∀ (ts:List o6) (i:Nat) (n:Int),s.Tables.drop i = ts → 0 ≤ n → n + (ts.length * 72:Nat) ≤ 2 ^ 28 →
  a7p x s ts i (tab:Int) id n = some ((tab:Int),id,n + b6d s tab id x.Tables ts i)
 | [],i,n,_,_,_ => by rw [a7p]; simp [b6d]
 | t :: ts,i,n,hd,h0,hn => by
  have hlt:=a6g hd
  have ht:s.Tables[i]? = some t:=by have:=congrArg (·[0]?) hd; simpa using this
  obtain ⟨l,hl⟩:∃ l,x.Tables[i]? = some l:=⟨x.Tables[i]'(by rw [hx.1]; exact hlt),List.getElem?_eq_getElem _⟩
  obtain ⟨g1,g2,g3⟩:=hx.2 i t l ht hl
  have hm:=List.mem_of_getElem? ht
  have hb:=d6g s tab id l t.Columns 0
  have hcc:=d9o hs hm g2
  simp only [List.length_cons] at hn
  rw [a7p,c4k s hs x i tab id l hl g2 t.Columns 0 n (c1y (b7e hs hm)) (fun r hr => by have:=(g3 r hr).1; omega) h0 (by omega),Option.bind_some]
  simp only
  rw [d1z s hs x hx tab id ts (i + 1) _ (a2e hd) (by omega) (by omega)]
  simp only [b6d,hl,Option.getD_some,Int.add_assoc]
theorem d4n (s:o7) (hs:a7v s = true) (x:x9) (hx:d1y s x.Tables) (tab:Nat) (id:Int):a5r s x (tab:Int) id = some (b6d s tab id x.Tables s.Tables 0):=by
 have:=b6s hs
 unfold a5r b3t
 rw [d1z s hs x hx tab id s.Tables 0 0 rfl (by omega) (by omega)]
 simp
theorem f6r (b:Bool):a8e b = some (if b = true then 1 else 0):=by
 unfold a8e
 cases b <;> rfl
theorem d2a (k:Nat) (id:Int):∀ (rows:List o8) (n:Int),(∀ r ∈ rows,k < r.Cells.length) → 0 ≤ n → n + rows.length ≤ 2 ^ 30 → a8n (k:Int) id rows n = some (n + c2j k id rows)
 | [],n,_,_,_ => by rw [a8n]; simp [c2j]
 | r :: rows,n,h,h0,hn => by
  simp only [List.length_cons] at hn
  obtain ⟨d,hd⟩:∃ d,r.Cells[k]? = some d:=⟨r.Cells[k]'(h r (by simp)),List.getElem?_eq_getElem (h r (by simp))⟩
  have hb:=e2j id d
  have e:(if decide ((⟨4,id,[]⟩:o5) ∈ d) = true then (1:Int) else 0) = d9n id d:=by unfold d9n; simp
  rw [a8n,a0h,hd,Option.bind_some,e8i,Option.bind_some,f6r,Option.bind_some,e,a0w (by omega),d2a k id rows _ (fun y hy => h y (by simp [hy])) (by omega) (by omega)]
  simp only [c2j,hd,Int.add_assoc]
theorem b9b (s:o7) (hs:a7v s = true) (i tab:Nat) (t tt:o6) (ht:s.Tables[i]? = some t) (htt:s.Tables[tab]? = some tt) (id:Int) (rows:List o8) (hl:rows.length ≤ 12) (h:∀ r ∈ rows,t.Columns.length ≤ r.Cells.length):∀ (m fuel k:Nat) (n:Int),m + k = t.Columns.length → m < fuel → 0 ≤ n → n + (m * rows.length:Nat) ≤ 2 ^ 29 →
  a8o s i (tab:Int) id rows fuel n (k:Int) = some (n + b8i s tab id rows (t.Columns.drop k) k)
 | m,0,k,n,_,hf,_,_ => by omega
 | m,fuel + 1,k,n,hm,hf,h0,hn => by
  have hmt:=List.mem_of_getElem? ht
  have h6:=b3a hs hmt
  rw [a8o,a0h,ht,Option.bind_some]
  cases m with
  | zero =>
   rw [if_neg (by simp; omega),List.drop_of_length_le (by omega)]
   simp [b8i]
  | succ m =>
   have h3:(m + 1) * rows.length = m * rows.length + rows.length:=by rw [Nat.add_mul,Nat.one_mul]
   rw [h3] at hn
   have hk:k < t.Columns.length:=by omega
   obtain ⟨c,hcc⟩:∃ c,t.Columns[k]? = some c:=⟨t.Columns[k],List.getElem?_eq_getElem hk⟩
   have ed:t.Columns.drop k = c :: t.Columns.drop (k + 1):=by
    rw [List.drop_eq_getElem_cons hk]; congr 1; exact (List.getElem?_eq_some_iff.1 hcc).2
   have ew:w64 ((k:Int) + 1) = ((k + 1:Nat):Int):=by rw [a0w (by omega)]; omega
   have hR:=d6f k id rows
   have hcol:=c1y (b7e hs hmt) c (List.mem_of_getElem? hcc)
   rw [if_pos (by simpa using hk),Option.bind_some,a0h,hcc,Option.bind_some,ew,ed]
   cases hst:c.Strong with
   | false =>
    simp only [Bool.not_false,if_true,Option.bind_some]
    rw [b9b s hs i tab t tt ht htt id rows hl h m fuel (k + 1) n (by omega) (by omega) h0 (by omega)]
    simp [b8i,c8v,hst]
   | true =>
    have h4:=c8k hcol hst
    have hro:b0f s c = true:=by
     unfold a7v at hs
     simp only [Bool.and_eq_true] at hs
     exact List.all_eq_true.1 (List.all_eq_true.1 hs.2 t hmt) c (List.mem_of_getElem? hcc)
    obtain ⟨j,hj⟩:∃ j,b4d s c.Ref = some j:=by
     unfold b0f at hro
     cases hr:b4d s c.Ref with
     | none => simp [h4,hr] at hro
     | some j => exact ⟨j,rfl⟩
    simp only [Bool.not_true,Bool.false_eq_true,if_false,a0h,htt,Option.bind_some,f1j hs hj htt]
    by_cases e:j = tab
    ·subst e
     simp only [decide_true,Bool.not_true,Bool.false_eq_true,if_false]
     rw [d2a k id rows n (fun r hr => by have:=h r hr; omega) h0 (by omega),Option.bind_some,b9b s hs i j t tt ht htt id rows hl h m fuel (k + 1) _ (by omega) (by omega) (by omega) (by omega)]
     simp [b8i,c8v,hst,hj,Int.add_assoc]
    ·simp only [decide_eq_false e,Bool.not_false,if_true]
     rw [b9b s hs i tab t tt ht htt id rows hl h m fuel (k + 1) n (by omega) (by omega) h0 (by omega)]
     simp [b8i,c8v,hst,hj,e]
theorem d2b (s:o7) (hs:a7v s = true) (x:x9) (hx:d1y s x.Tables) (tab:Nat) (tt:o6) (htt:s.Tables[tab]? = some tt) (id:Int):∀ (xs:List (List o8)) (i:Nat) (n:Int),x.Tables.drop i = xs → 0 ≤ n → n + (xs.length * 72:Nat) ≤ 2 ^ 28 →
  a8p s (tab:Int) id xs n i = some (n + b6d s tab id x.Tables (s.Tables.drop i) i)
 | [],i,n,hd,_,_ => by
  have:x.Tables.length ≤ i:=by simpa using hd
  rw [a8p,List.drop_of_length_le (by rw [← hx.1]; exact this)]
  simp [b6d]
 | l :: xs,i,n,hd,h0,hn => by
  have hlt:=a6g hd
  have hl:x.Tables[i]? = some l:=by have:=congrArg (·[0]?) hd; simpa using this
  have hlt2:i < s.Tables.length:=by rw [← hx.1]; exact hlt
  obtain ⟨t,ht⟩:∃ t,s.Tables[i]? = some t:=⟨s.Tables[i],List.getElem?_eq_getElem hlt2⟩
  have ed:s.Tables.drop i = t :: s.Tables.drop (i + 1):=by
   rw [List.drop_eq_getElem_cons hlt2]; congr 1; exact (List.getElem?_eq_some_iff.1 ht).2
  obtain ⟨g1,g2,g3⟩:=hx.2 i t l ht hl
  have hm:=List.mem_of_getElem? ht
  have hb:=d6g s tab id l t.Columns 0
  have hcc:=d9o hs hm g2
  have hf:=b3f
  have h6:=b3a hs hm
  simp only [List.length_cons] at hn
  have e0:((0:Nat):Int) = 0:=rfl
  have:=b9b s hs i tab t tt ht htt id l g2 (fun r hr => by have:=(g3 r hr).1; omega) t.Columns.length FUEL 0 n (by omega) (by omega) h0 (by omega)
  rw [e0] at this
  rw [a8p,this,Option.bind_some,List.drop_zero,d2b s hs x hx tab tt htt id xs (i + 1) _ (a2e hd) (by omega) (by omega),ed]
  simp only [b6d,hl,Option.getD_some,Int.add_assoc]
theorem d4o (s:o7) (hs:a7v s = true) (x:x9) (hx:d1y s x.Tables) (tab:Nat) (htab:tab < s.Tables.length) (id:Int):a5a s x (tab:Int) id = some (b6d s tab id x.Tables s.Tables 0):=by
 have:=b6s hs
 have h1:=hx.1
 unfold a5a
 rw [d2b s hs x hx tab _ (List.getElem?_eq_getElem htab) id x.Tables 0 0 rfl (by omega) (by omega)]
 simp
def gT (ts:List (List a1n)):List (List o8):=ts.map (List.map gRow)
theorem f1k (a:b3b):d4b (c8b a) = a:=rfl
theorem f1l (a:o5):c8b (d4b a) = a:=rfl
theorem f4k (r:a1n):b9l (gRow r) = r:=by
 unfold b9l gRow
 have:(List.map d4b ∘ List.map c8b) = id:=by funext l; simp [Function.comp_def,f1k]
 simp only [List.map_map,this,List.map_id]
theorem f4l (r:o8):gRow (b9l r) = r:=by
 unfold b9l gRow
 have:(List.map c8b ∘ List.map d4b) = id:=by funext l; simp [Function.comp_def,f1l]
 simp only [List.map_map,this,List.map_id]
theorem g0p (ts:List (List a1n)):(gT ts).map (List.map b9l) = ts:=by
 unfold gT
 have:(List.map b9l ∘ List.map gRow) = id:=by funext l; simp [Function.comp_def,f4k]
 simp only [List.map_map,this,List.map_id]
theorem g0q (T:List (List o8)):gT (T.map (List.map b9l)) = T:=by
 unfold gT
 have:(List.map gRow ∘ List.map b9l) = id:=by funext l; simp [Function.comp_def,f4l]
 simp only [List.map_map,this,List.map_id]
theorem c7m {ts:List (List a1n)} {i:Nat} {t:List a1n} (h:ts[i]? = some t):(gT ts)[i]? = some (t.map gRow):=by unfold gT; rw [List.getElem?_map,h]; rfl
def c1n (ts:List (List a1n)):Nat:=(ts.map List.length).sum
theorem d9p:∀ (ts:List (List a1n)) (i:Nat) (t t':List a1n),ts[i]? = some t → c1n (ts.set i t') + t.length = c1n ts + t'.length
 | [],i,t,t',h => by simp at h
 | x :: ts,0,t,t',h => by simp at h; subst h; simp only [List.set_cons_zero,c1n,List.map_cons,List.sum_cons]; omega
 | x :: ts,i + 1,t,t',h => by
  have:=d9p ts i t t' (by simpa using h)
  simp only [c1n,List.set_cons_succ,List.map_cons,List.sum_cons] at *; omega
theorem c8l:∀ {l:List o8},l.Pairwise (fun a b => a.Id < b.Id) → a6o l = true
 | [],_ => rfl
 | [_],_ => rfl
 | a :: b :: l,h => by
  obtain ⟨h1,h2⟩:=List.pairwise_cons.1 h
  simp only [a6o,Bool.and_eq_true,decide_eq_true_eq]
  exact ⟨h1 b (by simp),c8l h2⟩
theorem d9q:∀ {l l':List o8},l.map o8.Id = l'.map o8.Id → a6o l = a6o l'
 | [],[],_ => rfl
 | [_],[_],_ => rfl
 | a :: b :: l,c :: d :: l',h => by
  simp only [List.map_cons,List.cons.injEq] at h
  have:=d9q (l:=b :: l) (l':=d :: l') (by simp [h.2.1,h.2.2])
  simp only [a6o,h.1,h.2.1,this]
 | [],_ :: _,h => by simp at h
 | _ :: _,[],h => by simp at h
 | [_],_ :: _ :: _,h => by simp at h
 | _ :: _ :: _,[_],h => by simp at h
def cF1 (s:o7) (n:Int) (ts:List (List a1n)) (i:Nat) (id:Int):Option Int:=a5a s ⟨ts.map (List.map gRow),n⟩ (i:Int) id
def e2l (n:Int) (ts:List (List a1n)):Option (List (List a1n)):=(a7c ⟨ts.map (List.map gRow),n⟩).bind fun y => if y.Next = n then some (y.Tables.map (List.map b9l)) else none
def cPl (rows:List a1n) (N:Int):Option Int:=a4w (rows.map gRow) N
theorem d6h (there:List a1n):∀ (xs acc:List b3b),acc.length + xs.length ≤ 2 ^ 30 → b8d (cPl there) xs acc = some (acc ++ xs.filter fun x => a4v (there.map gRow) x.2.1)
 | [],acc,_ => by simp [b8d]
 | x :: xs,acc,h => by
  simp only [List.length_cons] at h
  have hn:=c7g (there.map gRow) x.2.1
  have hp:cPl there x.2.1 = some (atI ((there.map gRow).findIdx? fun r => r.Id == x.2.1)):=b9a _ _
  simp only [b8d,hp,Option.bind_some]
  generalize atI ((there.map gRow).findIdx? fun r => r.Id == x.2.1) = o at hn
  cases hh:a4v (there.map gRow) x.2.1 with
  | true =>
   rw [hh] at hn
   have:o ≥ 0:=by simp at hn; omega
   rw [if_pos this,if_pos (by omega),d6h there xs (acc ++ [x]) (by rw [List.length_append]; simp; omega)]
   simp [List.filter_cons,hh]
  | false =>
   rw [hh] at hn
   have:¬ o ≥ 0:=by simp at hn; omega
   rw [if_neg this,d6h there xs acc (by omega)]
   simp [List.filter_cons,hh]
def e8v (c:y7):e1o:=⟨c.Name,c.Kind,c.Min,c.Max,c.Low,c.High,c.Ref,c.Strong⟩
structure d2c (s:o7) (Pr:Nat → o8 → Prop):Prop where
 cl:∀ i r,Pr i r → ∀ t,s.Tables[i]? = some t → r.Cells.length = t.Columns.length ∧ ∀ d ∈ r.Cells,d.length ≤ 2 ^ 30
 wk:∀ i r t c col d (p:o5 → Bool),Pr i r → s.Tables[i]? = some t → t.Columns[c]? = some col → col.Kind = 4 → col.Strong = false → r.Cells[c]? = some d → Pr i ⟨r.Id,r.Cells.set c (d.filter p)⟩
structure StQ (s:o7) (Pr:Nat → o8 → Prop) (T:List (List o8)):Prop where
 len:T.length = s.Tables.length
 tab:∀ (i:Nat) (l:List o8),T[i]? = some l → a6o l = true ∧ l.length ≤ 12 ∧ ∀ r ∈ l,Pr i r
def Held (s:o7) (T:List (List o8)):Prop:=∀ (i:Nat) (t:o6) (l:List o8),s.Tables[i]? = some t → t.Root = false → T[i]? = some l → ∀ r ∈ l,b6d s i r.Id T s.Tables 0 ≠ 0
theorem StQ.form {s:o7} {Pr:Nat → o8 → Prop} {T:List (List o8)} (h:StQ s Pr T) (hP:d2c s Pr):d1y s T:=⟨h.len,fun i t l ht hl => by
 obtain ⟨a,b,c⟩:=h.tab i l hl
 exact ⟨a,b,fun r hr => hP.cl i r (c r hr) t ht⟩⟩
theorem b9c {s:o7} {n:Int} {T:List (List o8)} (h:d1y s T) (hs:a7v s = true):smS ⟨T,n⟩:=by
 have h4:=b6s hs
 refine ⟨by have:=h.1; show T.length ≤ _; omega,fun l hl => ?_⟩
 obtain ⟨i,hi⟩:=List.mem_iff_getElem?.1 hl
 have hil:=(List.getElem?_eq_some_iff.1 hi).1
 obtain ⟨t,ht⟩:∃ t,s.Tables[i]? = some t:=⟨s.Tables[i]'(by rw [← h.1]; exact hil),List.getElem?_eq_getElem _⟩
 obtain ⟨g1,g2,g3⟩:=h.2 i t l ht hi
 have h6:=b3a hs (List.mem_of_getElem? ht)
 exact ⟨by omega,fun r hr => ⟨by rw [(g3 r hr).1]; omega,(g3 r hr).2⟩⟩
theorem StQ.set {s:o7} {Pr:Nat → o8 → Prop} {T:List (List o8)} {i:Nat} {l l':List o8} (h:StQ s Pr T) (ht:T[i]? = some l) (hr:a6o l' = true) (hl:l'.length ≤ 12) (hp:∀ r ∈ l',Pr i r):StQ s Pr (T.set i l'):=by
 have hi:=(List.getElem?_eq_some_iff.1 ht).1
 refine ⟨by rw [List.length_set]; exact h.len,fun q m hm => ?_⟩
 by_cases e:i = q
 ·subst e
  rw [List.getElem?_set_self hi] at hm
  cases hm
  exact ⟨hr,hl,hp⟩
 ·rw [List.getElem?_set_ne e] at hm
  exact h.tab q m hm
theorem c4l (ts:List (List a1n)):(gT ts).length = ts.length:=List.length_map _
theorem e8w (ts:List (List a1n)) (i:Nat) (t:List a1n):gT (ts.set i t) = (gT ts).set i (t.map gRow):=List.map_set
theorem f6u {s:o7} {Pr:Nat → o8 → Prop} {n:Int} {ts:List (List a1n)} (h:StQ s Pr (gT ts)) (hP:d2c s Pr) (hs:a7v s = true):e2l n ts = some ts:=by
 unfold e2l
 rw [show ts.map (List.map gRow) = gT ts from rfl,c6c _ (b9c (h.form hP) hs),Option.bind_some,if_pos rfl,g0p]
theorem g0r {s:o7} {Pr:Nat → o8 → Prop} {n:Int} {ts:List (List a1n)} (h:StQ s Pr (gT ts)) (hP:d2c s Pr) (hs:a7v s = true) {i:Nat} (hi:i < s.Tables.length) (id:Int):cF1 s n ts i id = some (b6d s i id (gT ts) s.Tables 0):=d4o s hs ⟨gT ts,n⟩ (h.form hP) i hi id
theorem e3p {s:o7} {Pr:Nat → o8 → Prop} {n:Int} (hs:a7v s = true) (hP:d2c s Pr) {i:Nat} {st:o6} (hst:s.Tables[i]? = some st):∀ (rest A:List a1n) (ts:List (List a1n)) (g:Bool) (fuel:Nat),StQ s Pr (gT ts) → ts[i]? = some (A ++ rest) → rest.length < fuel →
  ∃ r,b6c (s.Tables.map c2g) (cF1 s n) (e2l n) i fuel A.length ts g = some r ∧ StQ s Pr (gT r.1) ∧ c1n r.1 ≤ c1n ts ∧ (r.2 = true → g = true ∨ c1n r.1 < c1n ts) ∧ (r.2 = false → g = false ∧ r.1 = ts ∧ (st.Root = false → ∀ x ∈ rest,b6d s i x.1 (gT ts) s.Tables 0 ≠ 0))
 | _,_,_,_,0,_,_,hf => by omega
 | [],A,ts,g,fuel + 1,h,ht,hf => by
  refine ⟨(ts,g),?_,h,Nat.le_refl _,fun hg => .inl hg,fun hg => ⟨hg,rfl,fun _ x hx => by simp at hx⟩⟩
  rw [List.append_nil] at ht
  simp only [b6c,ht,Option.bind_some]
  rw [List.getElem?_eq_none (Nat.le_refl _)]
  simp
 | r :: rest,A,ts,g,fuel + 1,h,ht,hf => by
  simp only [List.length_cons] at hf
  have hi:=(List.getElem?_eq_some_iff.1 hst).1
  have hk:(A ++ r :: rest)[A.length]? = some r:=by rw [List.getElem?_append_right (Nat.le_refl _)]; simp
  have hss:(s.Tables.map c2g)[i]? = some (c2g st):=by rw [List.getElem?_map,hst]; rfl
  have hroot:(c2g st).root = st.Root:=rfl
  have ht':ts[i]? = some ((A ++ [r]) ++ rest):=by rw [ht]; simp
  have hlen:(A ++ [r]).length = A.length + 1:=by simp
  simp only [b6c,ht,Option.bind_some,hk,hss,hroot]
  by_cases hR:st.Root = true
  ·rw [if_pos hR,← hlen]
   obtain ⟨q,q1,q2,q3,q4,q5⟩:=e3p hs hP hst rest (A ++ [r]) ts g fuel h ht' (by omega)
   exact ⟨q,q1,q2,q3,q4,fun hq => ⟨(q5 hq).1,(q5 hq).2.1,fun hr => by rw [hR] at hr; cases hr⟩⟩
  ·rw [if_neg hR,g0r h hP hs hi,Option.bind_some]
   by_cases hc:b6d s i r.1 (gT ts) s.Tables 0 = 0
   ·rw [if_pos hc,f6u h hP hs,Option.bind_some,ht,Option.bind_some]
    obtain ⟨g1,g2,g3⟩:=h.tab i _ (c7m ht)
    have hsub:List.Sublist (A ++ rest) (A ++ r :: rest):=List.Sublist.append (List.Sublist.refl _) (List.sublist_cons_self ..)
    have k1:StQ s Pr (gT (ts.set i (A ++ rest))):=by
     rw [e8w]
     refine h.set (c7m ht) (c8l ((c2b g1).sublist (hsub.map _))) ?_ (fun x hx => g3 x ((hsub.map gRow).subset hx))
     have:=(hsub.map gRow).length_le
     omega
    rw [List.length_map] at g2
    have e1:(A ++ r :: rest).take A.length ++ (A ++ r :: rest).drop (A.length + 1) = A ++ rest:=by
     rw [List.take_left,← List.drop_drop,List.drop_left]; rfl
    have h4:=b6s hs
    rw [if_pos ⟨by simp,by omega,by omega⟩,e1]
    have hset:(ts.set i (A ++ rest))[i]? = some (A ++ rest):=List.getElem?_set_self (by rw [← c4l,h.len]; exact hi)
    obtain ⟨q,q1,q3,q4,q5,q6⟩:=e3p hs hP hst rest A (ts.set i (A ++ rest)) true fuel k1 hset (by omega)
    have ht2:=d9p ts i _ (A ++ rest) ht
    simp only [List.length_append,List.length_cons] at ht2
    exact ⟨q,q1,q3,by omega,fun _ => .inr (by omega),fun hq => by have:=(q6 hq).1; cases this⟩
   ·rw [if_neg hc,← hlen]
    obtain ⟨q,q1,q2,q3,q4,q5⟩:=e3p hs hP hst rest (A ++ [r]) ts g fuel h ht' (by omega)
    exact ⟨q,q1,q2,q3,q4,fun hq => ⟨(q5 hq).1,(q5 hq).2.1,fun hr x hx => by
     rcases List.mem_cons.1 hx with rfl | hx
     ·exact hc
     ·exact (q5 hq).2.2 hr x hx⟩⟩
theorem f2v {s:o7} {Pr:Nat → o8 → Prop} {n:Int} (hs:a7v s = true) (hP:d2c s Pr):∀ (xs:List o6) (i:Nat) (ts:List (List a1n)) (g:Bool) (fuel:Nat),s.Tables.drop i = xs → StQ s Pr (gT ts) → xs.length < fuel →
  ∃ r,b8s (s.Tables.map c2g) (cF1 s n) (e2l n) fuel i ts g = some r ∧ StQ s Pr (gT r.1) ∧ c1n r.1 ≤ c1n ts ∧ (r.2 = true → g = true ∨ c1n r.1 < c1n ts) ∧ (r.2 = false → g = false ∧ r.1 = ts ∧ ∀ (j:Nat) (t:o6) (l:List a1n),i ≤ j → s.Tables[j]? = some t → t.Root = false → ts[j]? = some l → ∀ x ∈ l,b6d s j x.1 (gT ts) s.Tables 0 ≠ 0)
 | _,_,_,_,0,_,_,hf => by omega
 | [],i,ts,g,fuel + 1,hd,h,hf => by
  have hi:s.Tables.length ≤ i:=by simpa using hd
  refine ⟨(ts,g),?_,h,Nat.le_refl _,fun hg => .inl hg,fun hg => ⟨hg,rfl,fun j t l hj ht => by have:=(List.getElem?_eq_some_iff.1 ht).1; omega⟩⟩
  simp only [b8s]
  rw [if_neg (by rw [← c4l,h.len]; omega)]
 | t :: xs,i,ts,g,fuel + 1,hd,h,hf => by
  simp only [List.length_cons] at hf
  have hlt:=a6g hd
  have hst:s.Tables[i]? = some t:=by have:=congrArg (·[0]?) hd; simpa using this
  have hil:i < ts.length:=by rw [← c4l,h.len]; exact hlt
  obtain ⟨l,hl⟩:∃ l,ts[i]? = some l:=⟨ts[i],List.getElem?_eq_getElem _⟩
  obtain ⟨g1,g2,-⟩:=h.tab i _ (c7m hl)
  rw [List.length_map] at g2
  have hf40:=b3f
  obtain ⟨q,q1,q3,q4,q5,q6⟩:=e3p (n:=n) hs hP hst l [] ts g FUEL h (by simpa using hl) (by omega)
  have q1:b6c (s.Tables.map c2g) (cF1 s n) (e2l n) i FUEL 0 ts g = some q:=q1
  obtain ⟨z,z1,z3,z4,z5,z6⟩:=f2v hs hP xs (i + 1) q.1 q.2 fuel (a2e hd) q3 (by omega)
  refine ⟨z,?_,z3,by omega,fun hz => ?_,fun hz => ?_⟩
  ·simp only [b8s]
   rw [if_pos hil,q1,Option.bind_some,z1]
  ·rcases z5 hz with hq | hq
   ·rcases q5 hq with hg | hg
    ·exact .inl hg
    ·exact .inr (by omega)
   ·exact .inr (by omega)
  ·obtain ⟨y1,y2,y3⟩:=z6 hz
   obtain ⟨w1,w2,w3⟩:=q6 y1
   rw [w2] at y2 y3
   refine ⟨w1,y2,fun j t' l' hj ht' hr hl' x hx => ?_⟩
   by_cases e:i = j
   ·subst e
    rw [hst] at ht'; cases ht'
    rw [hl] at hl'; cases hl'
    exact w3 hr x hx
   ·exact y3 j t' l' (by omega) ht' hr hl' x hx
theorem f4m {ts:List (List a1n)} {i:Nat} {l:List o8} (h:(gT ts)[i]? = some l):∃ t,ts[i]? = some t ∧ l = t.map gRow:=by
 unfold gT at h
 rw [List.getElem?_map] at h
 cases e:ts[i]? with
 | none => rw [e] at h; cases h
 | some t => rw [e] at h; cases h; exact ⟨t,rfl,rfl⟩
theorem f2w {s:o7} {Pr:Nat → o8 → Prop} {n:Int} (hs:a7v s = true) (hP:d2c s Pr):∀ (fuel:Nat) (ts:List (List a1n)) (g:Bool),StQ s Pr (gT ts) → 1 ≤ fuel → (g = true → c1n ts + 2 ≤ fuel) → (g = false → Held s (gT ts)) →
  ∃ r,b8t (s.Tables.map c2g) (cF1 s n) (e2l n) fuel ts g = some r ∧ StQ s Pr (gT r) ∧ Held s (gT r)
 | 0,_,_,_,hf,_,_ => by omega
 | fuel + 1,ts,g,h,hf,hg,hH => by
  simp only [b8t]
  by_cases c:g = true
  ·have hg:=hg c
   have h4:=b6s hs
   have hf40:=b3f
   obtain ⟨q,q1,q3,q4,q5,q6⟩:=f2v (n:=n) hs hP s.Tables 0 ts false FUEL rfl h (by omega)
   rw [if_pos c,q1,Option.bind_some]
   refine f2w hs hP fuel q.1 q.2 q3 (by omega) (fun hq => by rcases q5 hq with h | h; cases h; omega) (fun hq => ?_)
   obtain ⟨-,y2,y3⟩:=q6 hq
   rw [y2]
   intro i t l ht hr hl r hrm
   obtain ⟨l',hl',rfl⟩:=f4m hl
   obtain ⟨r',hr',rfl⟩:=List.mem_map.1 hrm
   exact y3 i t l' (Nat.zero_le _) ht hr hl' r' hr'
  ·rw [if_neg c]
   exact ⟨ts,rfl,h,hH (by simpa using c)⟩
theorem f1m {α:Type} {l:List α} {k:Nat} {x:α} (h:l[k]? = some x):l.set k x = l:=by
 obtain ⟨h1,h2⟩:=List.getElem?_eq_some_iff.1 h
 rw [← h2]; exact List.set_getElem_self h1
theorem d9r (q:Nat) (id:Int) (c:Nat) (d:List o5) (hq:q ≠ c):∀ (l:List o8) (k:Nat) (r:o8),l[k]? = some r → c2j q id (l.set k ⟨r.Id,r.Cells.set c d⟩) = c2j q id l
 | [],k,r,h => by simp at h
 | x :: l,0,r,h => by
  simp at h; subst h
  simp only [List.set_cons_zero,c2j]
  rw [List.getElem?_set_ne (fun e => hq e.symm)]
 | x :: l,k + 1,r,h => by
  simp only [List.set_cons_succ,c2j]
  rw [d9r q id c d hq l k r (by simpa using h)]
theorem d9s (s:o7) (tab:Nat) (id:Int) (c:Nat) (d:List o5) (l:List o8) (k:Nat) (r:o8) (h:l[k]? = some r):∀ (cs:List y7) (q:Nat),(∀ j col,cs[j]? = some col → q + j = c → col.Strong = false) → b8i s tab id (l.set k ⟨r.Id,r.Cells.set c d⟩) cs q = b8i s tab id l cs q
 | [],q,_ => rfl
 | col :: cs,q,hc => by
  simp only [b8i]
  rw [d9s s tab id c d l k r h cs (q + 1) (fun j col' hj e => hc (j + 1) col' (by simpa using hj) (by omega))]
  congr 1
  by_cases e:q = c
  ·have:c8v s tab col = false:=by unfold c8v; rw [hc 0 col rfl (by omega)]; rfl
   simp [this]
  ·rw [d9r q id c d e l k r h]
theorem d9t (s:o7) (tab:Nat) (id:Int) (T:List (List o8)) (i:Nat) (l l':List o8) (hl:T[i]? = some l):∀ (ts:List o6) (q:Nat),(∀ j t,ts[j]? = some t → q + j = i → b8i s tab id l' t.Columns 0 = b8i s tab id l t.Columns 0) → b6d s tab id (T.set i l') ts q = b6d s tab id T ts q
 | [],q,_ => rfl
 | t :: ts,q,h => by
  simp only [b6d]
  rw [d9t s tab id T i l l' hl ts (q + 1) (fun j t' hj e => h (j + 1) t' (by simpa using hj) (by omega))]
  congr 1
  by_cases e:i = q
  ·subst e
   rw [List.getElem?_set_self (List.getElem?_eq_some_iff.1 hl).1,hl]
   exact h 0 t rfl rfl
  ·rw [List.getElem?_set_ne e]
theorem e8x {s:o7} {T:List (List o8)} {i k c:Nat} {st:o6} {col:y7} {l:List o8} {r:o8} {d:List o5} (hH:Held s T) (hst:s.Tables[i]? = some st) (hc:st.Columns[c]? = some col) (hw:col.Strong = false) (hl:T[i]? = some l) (hr:l[k]? = some r):Held s (T.set i (l.set k ⟨r.Id,r.Cells.set c d⟩)):=by
 intro j t l' ht hroot hl' r' hr'
 rw [d9t s j r'.Id T i l _ hl s.Tables 0 (fun q t' hq e => by
  have e:q = i:=by omega
  subst e
  rw [hst] at hq; cases hq
  exact d9s s j r'.Id c d l k r hr _ 0 (fun q' col' hq' e' => by
   have e':q' = c:=by omega
   subst e'
   rw [hc] at hq'; cases hq'; exact hw))]
 by_cases e:i = j
 ·subst e
  rw [List.getElem?_set_self (List.getElem?_eq_some_iff.1 hl).1] at hl'
  cases hl'
  rcases List.mem_or_eq_of_mem_set hr' with hm | rfl
  ·exact hH i t l ht hroot hl r' hm
  ·exact hH i t l ht hroot hl r (List.mem_of_getElem? hr)
 ·rw [List.getElem?_set_ne e] at hl'
  exact hH j t l' ht hroot hl' r' hr'
theorem f2x {s:o7} {Pr:Nat → o8 → Prop} (hP:d2c s Pr) {i c j:Nat} {st:o6} {col:y7} {rf:Str} (hst:s.Tables[i]? = some st) (hc:st.Columns[c]? = some col) (hkind:col.Kind = 4) (hw:col.Strong = false) (hj:b4d s rf = some j):∀ (m k:Nat) (ts:List (List a1n)) (t:List a1n),StQ s Pr (gT ts) → Held s (gT ts) → ts[i]? = some t → t.length = m + k →
  ∃ r,b7a cPl i c j m k ts = some r ∧ StQ s Pr (gT r) ∧ Held s (gT r)
 | 0,k,ts,t,h,hH,ht,hl => ⟨ts,rfl,h,hH⟩
 | m + 1,k,ts,t,h,hH,ht,hl => by
  obtain ⟨g1,g2,g3⟩:=h.tab i _ (c7m ht)
  have hcl':=(List.getElem?_eq_some_iff.1 hc).1
  have hkl:k < t.length:=by omega
  obtain ⟨rr,hrr⟩:∃ r,t[k]? = some r:=⟨t[k],List.getElem?_eq_getElem hkl⟩
  have hrm:gRow rr ∈ t.map gRow:=List.mem_map_of_mem (List.mem_of_getElem? hrr)
  obtain ⟨z1,z2⟩:=hP.cl i _ (g3 _ hrm) st hst
  have hcl:c < rr.2.length:=by
   have:(gRow rr).Cells.length = rr.2.length:=by unfold gRow; simp
   omega
  obtain ⟨d,hd⟩:∃ d,rr.2[c]? = some d:=⟨rr.2[c],List.getElem?_eq_getElem hcl⟩
  have hdg:(gRow rr).Cells[c]? = some (d.map c8b):=by unfold gRow; simp [hd]
  have hdl:=z2 _ (List.mem_of_getElem? hdg)
  rw [List.length_map] at hdl
  have hjl:=e3o hj
  obtain ⟨there,hth⟩:∃ l,ts[j]? = some l:=⟨ts[j]'(by rw [← c4l,h.len]; exact hjl),List.getElem?_eq_getElem _⟩
  have hkeep:=d6h there d [] (by simpa using hdl)
  rw [List.nil_append] at hkeep
  simp only [b7a,ht,hrr,hd,hth,Option.bind_some,hkeep]
  have em:gT (ts.set i (t.set k (rr.1,rr.2.set c (d.filter fun x => a4v (there.map gRow) x.2.1)))) = (gT ts).set i ((t.map gRow).set k ⟨(gRow rr).Id,(gRow rr).Cells.set c ((d.map c8b).filter fun x => a4v (there.map gRow) x.N)⟩):=by
   rw [e8w,List.map_set]
   congr 2
   unfold gRow
   simp only [List.map_set,o8.mk.injEq,true_and]
   congr 1
   rw [List.filter_map]; rfl
  have ek:(t.map gRow)[k]? = some (gRow rr):=by rw [List.getElem?_map,hrr]; rfl
  have hi:=(List.getElem?_eq_some_iff.1 ht).1
  refine f2x hP hst hc hkind hw hj m (k + 1) _ (t.set k (rr.1,rr.2.set c (d.filter fun x => a4v (there.map gRow) x.2.1))) ?_ ?_ (List.getElem?_set_self hi) (by rw [List.length_set]; omega)
  ·rw [em]
   refine h.set (c7m ht) ?_ (by rw [List.length_set]; exact g2) (fun r' hr' => ?_)
   ·rw [← g1]
    refine d9q ?_
    rw [List.map_set]
    exact f1m (by rw [List.getElem?_map,ek]; rfl)
   ·rcases List.mem_or_eq_of_mem_set hr' with hm | rfl
    ·exact g3 r' hm
    ·exact hP.wk i _ st c col _ _ (g3 _ hrm) hst hc hkind hw hdg
  ·rw [em]
   exact e8x hH hst hc hw (c7m ht) ek
theorem e8y {s:o7} {Pr:Nat → o8 → Prop} (hs:a7v s = true) (hP:d2c s Pr) {i:Nat} {st:o6} (hst:s.Tables[i]? = some st):∀ (cs:List y7) (c:Nat) (ts:List (List a1n)),st.Columns.drop c = cs → StQ s Pr (gT ts) → Held s (gT ts) →
  ∃ r,b7b (fun rf => a4h s rf) cPl i (cs.map e8v) c ts = some r ∧ StQ s Pr (gT r) ∧ Held s (gT r)
 | [],c,ts,_,h,hH => ⟨ts,rfl,h,hH⟩
 | col :: cs,c,ts,hd,h,hH => by
  have hi:=(List.getElem?_eq_some_iff.1 hst).1
  have hcol:st.Columns[c]? = some col:=by have:=congrArg (·[0]?) hd; simpa using this
  have e1:(e8v col).kd = col.Kind:=rfl
  have e2:(e8v col).st = col.Strong:=rfl
  have e3:(e8v col).rf = col.Ref:=rfl
  simp only [List.map_cons,b7b,e1,e2,e3]
  by_cases hsk:(decide (col.Kind ≠ 4) || col.Strong) = true
  ·rw [if_pos hsk]
   exact e8y hs hP hst cs (c + 1) ts (a2e hd) h hH
  ·rw [if_neg hsk]
   simp at hsk
   obtain ⟨j,hj⟩:∃ j,b4d s col.Ref = some j:=by
    have hro:b0f s col = true:=by
     unfold a7v at hs
     simp only [Bool.and_eq_true] at hs
     exact List.all_eq_true.1 (List.all_eq_true.1 hs.2 st (List.mem_of_getElem? hst)) col (List.mem_of_getElem? hcol)
    unfold b0f at hro
    cases hr:b4d s col.Ref with
    | none => simp [hsk.1,hr] at hro
    | some j => exact ⟨j,rfl⟩
   have hjl:=e3o hj
   obtain ⟨t,ht⟩:∃ t,ts[i]? = some t:=⟨ts[i]'(by rw [← c4l,h.len]; exact hi),List.getElem?_eq_getElem _⟩
   obtain ⟨q,q1,q3,q4⟩:=f2x hP hst hcol hsk.1 hsk.2 hj t.length 0 ts t h hH ht rfl
   have ea:atI (some j) = (j:Int):=rfl
   rw [b8g,hj,Option.bind_some,ea,if_pos ⟨by omega,by rw [← c4l,h.len]; omega⟩,ht,Option.bind_some,Int.toNat_natCast,q1,Option.bind_some]
   exact e8y hs hP hst cs (c + 1) q (a2e hd) q3 q4
theorem f2y {s:o7} {Pr:Nat → o8 → Prop} (hs:a7v s = true) (hP:d2c s Pr):∀ (xs:List o6) (i:Nat) (ts:List (List a1n)),s.Tables.drop i = xs → StQ s Pr (gT ts) → Held s (gT ts) →
  ∃ r,c0l (fun rf => a4h s rf) cPl (s.Tables.map c2g) xs.length i ts = some r ∧ StQ s Pr (gT r) ∧ Held s (gT r)
 | [],i,ts,_,h,hH => ⟨ts,rfl,h,hH⟩
 | t :: xs,i,ts,hd,h,hH => by
  have hst:s.Tables[i]? = some t:=by have:=congrArg (·[0]?) hd; simpa using this
  have hss:(s.Tables.map c2g)[i]? = some (c2g t):=by rw [List.getElem?_map,hst]; rfl
  have ec:(c2g t).cols = t.Columns.map e8v:=rfl
  obtain ⟨q,q1,q3,q4⟩:=e8y hs hP hst t.Columns 0 ts rfl h hH
  simp only [List.length_cons,c0l,hss,Option.bind_some,ec,q1]
  exact f2y hs hP xs (i + 1) q (a2e hd) q3 q4
theorem e8z (s:o7) {Pr:Nat → o8 → Prop} (hs:a7v s = true) (hP:d2c s Pr) (x:x9) (hx:StQ s Pr x.Tables):∃ o,b3l s x = some o ∧ o.Next = x.Next ∧ StQ s Pr o.Tables ∧ Held s o.Tables:=by
 have h0:StQ s Pr (gT (x.Tables.map (List.map b9l))):=by rw [g0q]; exact hx
 have h4:=b6s hs
 have ht:c1n (x.Tables.map (List.map b9l)) + 2 ≤ FUEL:=by
  have hf:=b3f
  have:∀ T:List (List o8),(∀ l ∈ T,l.length ≤ 12) → c1n (T.map (List.map b9l)) ≤ T.length * 12:=by
   intro T
   induction T with
   | nil => intro _; simp [c1n]
   | cons l T ih =>
    intro h
    have:=ih (fun y hy => h y (by simp [hy]))
    have:=h l (by simp)
    simp only [c1n,List.map_cons,List.sum_cons,List.length_cons,List.length_map] at *
    omega
  have:=this x.Tables (fun l hl => by
   obtain ⟨i,hi⟩:=List.mem_iff_getElem?.1 hl
   exact (hx.tab i l hi).2.1)
  have:=hx.len
  omega
 obtain ⟨q,q1,q3,q4⟩:=f2w (n:=x.Next) hs hP FUEL _ true h0 (by have:=b3f; omega) (fun _ => ht) (fun h => by cases h)
 obtain ⟨z,z1,z3,z4⟩:=f2y hs hP s.Tables 0 q rfl q3 q4
 refine ⟨⟨z.map (List.map gRow),x.Next⟩,?_,rfl,z3,z4⟩
 unfold b3l c5g
 have e1:=f6u (n:=x.Next) h0 hP hs
 unfold e2l at e1
 dsimp only
 rw [e1,Option.bind_some]
 have e2:b8t (s.Tables.map c2g) (fun ts i id => a5a s ⟨ts.map (List.map gRow),x.Next⟩ (i:Int) id) (fun ts => (a7c ⟨ts.map (List.map gRow),x.Next⟩).bind fun y => if y.Next = x.Next then some (y.Tables.map (List.map b9l)) else none) FUEL (x.Tables.map (List.map b9l)) true = some q:=q1
 have e3:c0l (fun rf => a4h s rf) (fun rows n => a4w (rows.map gRow) n) (s.Tables.map c2g) q.length 0 q = some z:=by rw [← c4l,q3.len]; exact z1
 rw [e2,Option.bind_some,e3]
 rfl
structure b2r (s:x8):Prop where
 code:∀ x ∈ s.Code,0 ≤ x ∧ x < 256
 len:(s.Code.length:Int) ≤ 1048576
 at0:0 ≤ s.At
 seed:0 ≤ s.Seed ∧ s.Seed < 2147483648
structure Nx (s s':x8) (k:Int):Prop where
 ok:b2r s'
 lo:s.At ≤ s'.At
 hi:s'.At ≤ s.At + k
 code:s'.Code = s.Code
theorem Nx.refl {s:x8} (h:b2r s):Nx s s 0:=⟨h,Int.le_refl _,by omega,rfl⟩
theorem Nx.mono {s s':x8} {k l:Int} (h:Nx s s' k) (hl:k ≤ l):Nx s s' l:=⟨h.ok,h.lo,by have:=h.hi; omega,h.code⟩
theorem Nx.trans {a b c:x8} {k l:Int} (h:Nx a b k) (g:Nx b c l):Nx a c (k + l):=⟨g.ok,by have:=h.lo; have:=g.lo; omega,by have:=h.hi; have:=g.hi; omega,g.code.trans h.code⟩
theorem c6e {a m:Int} (h:0 ≤ a) (hm:0 < m):0 ≤ a.tmod m ∧ a.tmod m < m:=⟨Int.tmod_nonneg _ h,Int.tmod_lt_of_pos _ hm⟩
theorem f1n {a m:Int} (h:0 ≤ a) (hm:0 < m):a.tdiv m = a / m:=by rw [Int.tdiv_eq_ediv_of_nonneg h]
theorem e9a (code:List Int) (hc:∀ x ∈ code,0 ≤ x ∧ x < 256) (hl:(code.length:Int) ≤ 1048576):∃ s,a3h code = some s ∧ b2r s ∧ s.At = 0 ∧ s.Code = code:=by
 refine ⟨_,rfl,⟨hc,hl,by simp,?_⟩,rfl,rfl⟩
 have:=c6e (a:=(code.length:Int)) (m:=1000) (by omega) (by omega)
 simp only; omega
theorem f4n (s:x8) (h:b2r s) (ha:s.At < 2 ^ 50):∃ b s',a1k s = some (b,s') ∧ 0 ≤ b ∧ b < 256 ∧ Nx s s' 1:=by
 obtain ⟨h1,h2,h3,h4,h5⟩:=h
 unfold a1k
 rw [a0w (n:=s.At + 1) (by omega)]
 by_cases c:s.At + 1 ≤ (s.Code.length:Int)
 ·rw [if_pos (by simpa using c)]
  obtain ⟨n,hn⟩:∃ n:Nat,s.At = (n:Int):=⟨s.At.toNat,by omega⟩
  have e1:w64 (s.At + 1 - 1) = (n:Int):=by rw [a0w (by omega)]; omega
  obtain ⟨x,hx⟩:∃ x,s.Code[n]? = some x:=⟨s.Code[n]'(by omega),List.getElem?_eq_getElem (by omega)⟩
  have hb:=h1 x (List.mem_of_getElem? hx)
  rw [e1,a0h,hx,Option.bind_some,Option.bind_some,a0w (n:=x) (by omega),a0w (n:=s.Seed * 31) (by omega),a0w (n:=s.Seed * 31 + x) (by omega),a0w (by omega)]
  have:=c6e (a:=s.Seed * 31 + x + 7) (m:=2147483648) (by omega) (by omega)
  exact ⟨x,_,rfl,hb.1,hb.2,⟨⟨h1,h2,by simp only; omega,this⟩,by simp only; omega,by simp only; omega,rfl⟩⟩
 ·rw [if_neg (by simpa using c)]
  by_cases c2:s.At + 1 > 3000
  ·rw [if_pos (by simpa using c2)]
   exact ⟨0,_,rfl,by omega,by omega,⟨⟨h1,h2,by simp only; omega,h4,h5⟩,by simp only; omega,by simp only; omega,rfl⟩⟩
  ·rw [if_neg (by simpa using c2),a0w (n:=s.Seed * 1103515245) (by omega),a0w (n:=s.Seed * 1103515245 + 12345) (by omega)]
   have hs:=c6e (a:=s.Seed * 1103515245 + 12345) (m:=2147483648) (by omega) (by omega)
   have hq:=f1n (a:=(s.Seed * 1103515245 + 12345).tmod 2147483648) (m:=65536) hs.1 (by omega)
   rw [hq]
   have:w64 ((s.Seed * 1103515245 + 12345).tmod 2147483648 / 65536) = (s.Seed * 1103515245 + 12345).tmod 2147483648 / 65536:=a0w (by omega)
   rw [this]
   have hb:=c6e (a:=(s.Seed * 1103515245 + 12345).tmod 2147483648 / 65536) (m:=256) (by omega) (by omega)
   exact ⟨_,_,rfl,hb.1,hb.2,⟨⟨h1,h2,by simp only; omega,hs⟩,by simp only; omega,by simp only; omega,rfl⟩⟩
theorem a7w (n:Int) (s:x8) (h:b2r s) (ha:s.At + 1 < 2 ^ 50) (h1:1 ≤ n) (h2:n ≤ 256):∃ v s',y9 n s = some (v,s') ∧ 0 ≤ v ∧ v < n ∧ Nx s s' 1:=by
 unfold y9
 by_cases c:n ≤ 1
 ·rw [if_pos (by simpa using c)]
  exact ⟨0,s,rfl,by omega,by omega,(Nx.refl h).mono (by omega)⟩
 ·rw [if_neg (by simpa using c),if_pos (by simpa using h2)]
  obtain ⟨b,s',e,g1,g2,g3⟩:=f4n s h (by omega)
  rw [e,Option.bind_some,if_pos (by omega)]
  have:=c6e (a:=b) (m:=n) g1 (by omega)
  exact ⟨_,_,rfl,this.1,this.2,g3⟩
theorem b1q (n:Int) (s:x8) (h:b2r s) (ha:s.At + 1 < 2 ^ 50) (h1:1 ≤ n) (h2:n ≤ 256):∃ v s',a0e n s = some (v,s') ∧ Nx s s' 1:=by
 unfold a0e
 obtain ⟨v,s',e,_,_,g⟩:=a7w n s h ha h1 h2
 rw [e,Option.bind_some]
 exact ⟨_,_,rfl,g⟩
theorem c2e (l:List Str) (s:x8) (h:b2r s) (ha:s.At + 1 < 2 ^ 50) (h1:1 ≤ l.length) (h2:l.length ≤ 256):∃ t s',a1c l s = some (t,s') ∧ t ∈ l ∧ Nx s s' 1:=by
 unfold a1c
 rw [if_neg (by simp; intro hh; rw [hh] at h1; simp at h1)]
 obtain ⟨v,s',e,g1,g2,g⟩:=a7w l.length s h ha (by omega) (by omega)
 rw [e,Option.bind_some]
 obtain ⟨m,rfl⟩:∃ m:Nat,v = (m:Int):=⟨v.toNat,by omega⟩
 simp only
 obtain ⟨x,hx⟩:∃ x,l[m]? = some x:=⟨l[m]'(by omega),List.getElem?_eq_getElem (by omega)⟩
 rw [a0h,hx,Option.bind_some]
 exact ⟨x,s',rfl,List.mem_of_getElem? hx,g⟩
theorem f1o (s:x8):a1k s = a1k s:=by
 first
 | rfl
 | (unfold a1k a1k; rfl)
theorem b5o (n:Int) (s:x8):y9 n s = y9 n s:=by
 first
 | rfl
 | (unfold y9 y9; simp only [f1o])
theorem d6i (l:List Str) (s:x8):a1c l s = a1c l s:=by
 first
 | rfl
 | (unfold a1c a1c; simp only [b5o])
theorem e5o (c:List Int):a3h c = a3h c:=by
 first
 | rfl
 | (unfold a3h a3h; rfl)
theorem d2d (kind:Int) (s:x8) (hk:1 ≤ kind ∧ kind ≤ 4) (h:b2r s) (ha:s.At + 1 < 2 ^ 50):∃ a s',a1d kind s = some (a,s') ∧ b0e a = true ∧ a.Kind = kind ∧ Nx s s' 1:=by
 unfold a1d
 try simp only [b5o,d6i]
 by_cases k1:kind = 1
 ·subst k1
  obtain ⟨v,s',e,g1,g2,g⟩:=a7w 12 s h ha (by omega) (by omega)
  rw [if_pos (by simp),e,Option.bind_some]
  refine ⟨_,s',rfl,?_,rfl,g⟩
  have:w64 (v - 4) = v - 4:=a0w (by omega)
  rw [this]
  have:-1000000000 ≤ v - 4 ∧ v - 4 ≤ 1000000000:=by omega
  simp [b0e,this]
 rw [if_neg (by simpa using k1)]
 by_cases k2:kind = 2
 ·subst k2
  obtain ⟨t,s',e,ht,g⟩:=c2e [[],[97],[98],[99],[110,101,116]] s h ha (by simp) (by simp)
  rw [if_pos (by simp),e,Option.bind_some]
  refine ⟨_,s',rfl,?_,rfl,g⟩
  have:d1f t = true:=List.all_eq_true.1 (show ([[],[97],[98],[99],[110,101,116]]:List Str).all d1f = true by decide) t ht
  simp [b0e,this]
 rw [if_neg (by simpa using k2)]
 by_cases k3:kind = 3
 ·subst k3
  obtain ⟨v,s',e,g1,g2,g⟩:=a7w 2 s h ha (by omega) (by omega)
  rw [if_pos (by simp),e,Option.bind_some]
  refine ⟨_,s',rfl,?_,rfl,g⟩
  have:0 ≤ v ∧ v ≤ 1:=by omega
  simp [b0e,this]
 rw [if_neg (by simpa using k3)]
 have k4:kind = 4:=by omega
 subst k4
 obtain ⟨v,s',e,g1,g2,g⟩:=a7w 6 s h ha (by omega) (by omega)
 rw [e,Option.bind_some]
 refine ⟨_,s',rfl,?_,rfl,g⟩
 have:w64 (1 + v) = 1 + v:=a0w (by omega)
 rw [this]
 have:1 ≤ 1 + v ∧ 1 + v ≤ 1000000:=by omega
 simp [b0e,this]
theorem d2e (kind:Int) (hk:1 ≤ kind ∧ kind ≤ 4):∀ (i k:Nat) (s:x8) (out:List o5),i < k → a7d kind out → out.length + i ≤ 100 → b2r s → s.At + i < 2 ^ 50 →
  ∃ s' d,a4m kind k out i s.Code s.At s.Seed = some (d,s'.Code,s'.At,s'.Seed) ∧ a7d kind d ∧ d.length ≤ out.length + i ∧ Nx s s' i
 | _,0,_,_,h,_,_,_,_ => by omega
 | 0,k + 1,s,out,h,hs,hl,ho,ha => by
  refine ⟨s,out,?_,hs,by omega,Nx.refl ho⟩
  rw [a4m,if_neg (by simp)]
 | i + 1,k + 1,s,out,h,hs,hl,ho,ha => by
  rw [a4m,if_pos (by simp)]
  obtain ⟨a,s1,e,g1,g2,g3⟩:=d2d kind s hk ho (by omega)
  have e':a1d kind (⟨s.Code,s.At,s.Seed⟩:x8) = some (a,s1):=e
  obtain ⟨d,f,f1,f2,f3⟩:=e3l kind out a hs g1 g2 (by omega)
  have ew:w64 (((i + 1:Nat):Int) - 1) = (i:Int):=by rw [a0w (by omega)]; omega
  have:=g3.hi
  obtain ⟨s2,d2,q,q1,q2,q3⟩:=d2e kind hk i k s1 d (by omega) f1 (by omega) g3.ok (by omega)
  rw [e',Option.bind_some,f,Option.bind_some,ew,q]
  exact ⟨s2,d2,rfl,q1,by omega,(g3.trans q3).mono (by omega)⟩
theorem d6j (kind:Int) (s:x8) (hk:1 ≤ kind ∧ kind ≤ 4) (h:b2r s) (ha:s.At + 5 < 2 ^ 50):∃ d s',a2x kind s = some (d,s') ∧ a7d kind d ∧ d.length ≤ 4 ∧ Nx s s' 5:=by
 have hf:2 ^ 40 < FUEL:=by unfold FUEL; decide
 unfold a2x
 try rw [b5o]
 obtain ⟨v,s1,e,g1,g2,g⟩:=a7w 5 s h (by omega) (by omega) (by omega)
 obtain ⟨i,rfl⟩:∃ i:Nat,v = (i:Int):=⟨v.toNat,by omega⟩
 have:=g.hi
 obtain ⟨s2,d,e2,q1,q2,q3⟩:=d2e kind hk i FUEL s1 [] (by omega) ⟨by simp,by simp⟩ (by simp; omega) g.ok (by omega)
 rw [e,Option.bind_some,e2,Option.bind_some]
 simp only [List.length_nil] at q2
 exact ⟨d,s2,rfl,q1,by omega,(g.trans q3).mono (by omega)⟩
theorem b5i (n:Int) (s:x8):a0e n s = a0e n s:=by
 first
 | rfl
 | (unfold a0e a0e; simp only [b5o])
theorem a7a (s:x8):(⟨s.Code,s.At,s.Seed⟩:x8) = s:=rfl
def e5p (c:y7):Bool:=decide (1 ≤ c.Kind ∧ c.Kind ≤ 4) && a6z c.Name
theorem d6k {t:o6} (h:t = nt0 ∨ t = nt1 ∨ t = nt2):t.Columns.all e5p = true:=by rcases h with rfl | rfl | rfl <;> decide
theorem d6l {t:o6} (h:t = nt0 ∨ t = nt1 ∨ t = nt2):2 ≤ t.Columns.length:=by rcases h with rfl | rfl | rfl <;> decide
theorem f6v {k:Int} {a:o5} (h1:b0e a = true) (h2:a.Kind = k):a7d k [a]:=⟨fun x hx => by simp at hx; subst hx; exact ⟨h1,h2⟩,fun i x y hx hy => by simp at hy⟩
theorem d9u:b1w [] = true:=rfl
theorem c1o {a:o5} (h:b0e a = true):b1w [a] = true:=b8z (f6v h rfl) (by simp)
theorem b5p {α:Type} {p:α → Bool} {l:List α} {x:α} (h:l.all p = true) (hx:p x = true):(l ++ [x]).all p = true:=by
 rw [List.all_append,h]; simp [hx]
theorem d6m {t:o6} (ht:t = nt0 ∨ t = nt1 ∨ t = nt2) (v:Int) (h:0 ≤ v ∧ v < (t.Columns.length:Int)):∃ c,idx t.Columns v = some c ∧ c ∈ t.Columns ∧ 1 ≤ c.Kind ∧ c.Kind ≤ 4 ∧ a6z c.Name = true:=by
 obtain ⟨m,rfl⟩:∃ m:Nat,v = (m:Int):=⟨v.toNat,by omega⟩
 obtain ⟨c,hc⟩:∃ c,t.Columns[m]? = some c:=⟨t.Columns[m]'(by omega),List.getElem?_eq_getElem (by omega)⟩
 have hm:=List.mem_of_getElem? hc
 have:=List.all_eq_true.1 (d6k ht) c hm
 simp only [e5p,Bool.and_eq_true,decide_eq_true_eq] at this
 exact ⟨c,by rw [a0h,hc],hm,this.1.1,this.1.2,this.2⟩
theorem f2z (q:Int) (h:0 ≤ q ∧ q < 4):∃ f,[(1:Int),(2:Int),(7:Int),(8:Int)][(0 + q.toNat)]? = some f ∧ 1 ≤ f ∧ f ≤ 8:=by
 have:q = 0 ∨ q = 1 ∨ q = 2 ∨ q = 3:=by omega
 rcases this with rfl | rfl | rfl | rfl
 ·exact ⟨1,rfl,by omega⟩
 ·exact ⟨2,rfl,by omega⟩
 ·exact ⟨7,rfl,by omega⟩
 ·exact ⟨8,rfl,by omega⟩
theorem d2f:∀ (xs:List y7) (i:Nat) (s:x8) (out:List a2c),xs.all e5p = true → out.all setB = true → out.length + xs.length ≤ 1000 → b2r s → s.At + 20 * xs.length < 2 ^ 49 →
  ∃ s' l,a2k xs i s.Code s.At s.Seed out = some (s'.Code,s'.At,s'.Seed,l) ∧ l.all setB = true ∧ l.length ≤ out.length + xs.length ∧ out.length ≤ l.length ∧ (i = 0 → xs ≠ [] → out.length < l.length) ∧ Nx s s' (20 * xs.length)
 | [],i,s,out,_,hv,_,ho,_ => ⟨s,out,by rw [a2k],hv,by simp,by omega,by simp,(Nx.refl ho).mono (by simp)⟩
 | c :: xs,i,s,out,hk,hv,hl,ho,ha => by
  simp only [List.length_cons] at hl ha
  simp only [List.all_cons,Bool.and_eq_true] at hk
  obtain ⟨hkc,hks⟩:=hk
  simp only [e5p,Bool.and_eq_true,decide_eq_true_eq] at hkc
  obtain ⟨hk1,hk2⟩:=hkc
  rw [a2k]
  simp only [b5i,d6i]
  obtain ⟨b1,s1,e1,n1⟩:=b1q 2 s ho (by omega) (by omega) (by omega)
  have h1:=n1.hi
  rw [a7a,e1,Option.bind_some]
  have skip:∀ s':x8,Nx s s' 20 → ∀ out':List a2c,out'.all setB = true → out'.length ≤ out.length + 1 → out.length ≤ out'.length → (i = 0 → out.length < out'.length) → ∃ s'' l,a2k xs (i + 1) s'.Code s'.At s'.Seed out' = some (s''.Code,s''.At,s''.Seed,l) ∧ l.all setB = true ∧ l.length ≤ out.length + (xs.length + 1) ∧ out.length ≤ l.length ∧ (i = 0 → c :: xs ≠ [] → out.length < l.length) ∧ Nx s s'' (20 * ((xs.length + 1:Nat):Int)):=by
   intro s' n out' hv' hl' hl2 hl3
   have h2:=n.hi
   obtain ⟨s'',l,q1,q2,q3,q4,_,q6⟩:=d2f xs (i + 1) s' out' hks hv' (by omega) n.ok (by omega)
   exact ⟨s'',l,q1,q2,by omega,by omega,fun hi _ => by have:=hl3 hi; omega,(n.trans q6).mono (by omega)⟩
  have go:∃ s'' l,((((a1d c.Kind s1).bind fun r_214 =>
  some (r_214.2.Code,r_214.2.At,r_214.2.Seed,[r_214.1]):Option ((List Int) × Int × Int × (List o5)))).bind fun p213 =>
  (match p213 with
  | (x_209,x_210,x_211,x_212) =>
  ((if (c.Kind == 4) then
  (a0e 2 (⟨x_209,x_210,x_211⟩:x8)).bind fun r_234 =>
  if r_234.1 then
  (a1c [[112],[113]] r_234.2).bind fun r_237 =>
  some (r_237.2.Code,r_237.2.At,r_237.2.Seed,[],[r_237.1])
  else
  (a0e 2 r_234.2).bind fun r_239 =>
  if r_239.1 then
  (a2x 4 r_239.2).bind fun r_242 =>
  some (r_242.2.Code,r_242.2.At,r_242.2.Seed,r_242.1,[])
  else
  some (r_239.2.Code,r_239.2.At,r_239.2.Seed,[],[])
  else
  some (x_209,x_210,x_211,x_212,[]):Option ((List Int) × Int × Int × (List o5) × (List Str)))).bind fun p232 =>
  (match p232 with
  | (x_227,x_228,x_229,x_230,x_231) =>
  if (out ++ [(⟨c.Name,x_230,x_231⟩:a2c)]).length ≤ 2 ^ 30 then
  a2k xs (i + 1) x_227 x_228 x_229 (out ++ [(⟨c.Name,x_230,x_231⟩:a2c)])
  else none))) = some (s''.Code,s''.At,s''.Seed,l) ∧ l.all setB = true ∧ l.length ≤ out.length + (xs.length + 1) ∧ out.length ≤ l.length ∧ (i = 0 → c :: xs ≠ [] → out.length < l.length) ∧ Nx s s'' (20 * ((xs.length + 1:Nat):Int)):=by
   obtain ⟨a,s2,e2,a1,_,n2⟩:=d2d c.Kind s1 hk1 n1.ok (by omega)
   have h2:=n2.hi
   rw [e2,Option.bind_some,Option.bind_some]
   simp only
   by_cases k4:c.Kind = 4
   ·rw [if_pos (by simpa using k4)]
    obtain ⟨b3,s3,e3,n3⟩:=b1q 2 s2 n2.ok (by omega) (by omega) (by omega)
    have h3:=n3.hi
    rw [a7a,e3,Option.bind_some]
    cases b3 with
    | true =>
     obtain ⟨t,s4,e4,ht,n4⟩:=c2e [[112],[113]] s3 n3.ok (by omega) (by simp) (by simp)
     have h4:=n4.hi
     have hn:a7q t = true:=List.all_eq_true.1 (show ([[112],[113]]:List Str).all a7q = true by decide) t ht
     rw [if_pos rfl,e4,Option.bind_some,Option.bind_some]
     simp only
     rw [if_pos (by simp <;> omega)]
     exact skip s4 ((((n1.trans n2).trans n3).trans n4).mono (by omega)) _ (b5p hv (by unfold setB; simp [hk2,d9u,hn])) (by simp) (by simp) (by simp)
    | false =>
     obtain ⟨b5,s5,e5,n5⟩:=b1q 2 s3 n3.ok (by omega) (by omega) (by omega)
     have h5:=n5.hi
     rw [if_neg (by simp),e5,Option.bind_some]
     cases b5 with
     | true =>
      obtain ⟨d,s6,e6,hs6,hd,n6⟩:=d6j 4 s5 (by omega) n5.ok (by omega)
      have h6:=n6.hi
      have hdb:=b8z hs6 (by omega)
      rw [if_pos rfl,e6,Option.bind_some,Option.bind_some]
      simp only
      rw [if_pos (by simp <;> omega)]
      exact skip s6 (((((n1.trans n2).trans n3).trans n5).trans n6).mono (by omega)) _ (b5p hv (by unfold setB; simp [hk2,hdb])) (by simp) (by simp) (by simp)
     | false =>
      rw [if_neg (by simp),Option.bind_some]
      simp only
      rw [if_pos (by simp <;> omega)]
      exact skip s5 ((((n1.trans n2).trans n3).trans n5).mono (by omega)) _ (b5p hv (by unfold setB; simp [hk2,d9u])) (by simp) (by simp) (by simp)
   ·rw [if_neg (by simpa using k4),Option.bind_some]
    simp only
    rw [if_pos (by simp <;> omega)]
    exact skip s2 ((n1.trans n2).mono (by omega)) _ (b5p hv (by unfold setB; simp [hk2,c1o a1])) (by simp) (by simp) (by simp)
  cases b1 with
  | true =>
   rw [if_neg (by simp),Option.bind_some]
   simp only
   rw [if_neg (by simp)]
   exact go
  | false =>
   rw [if_pos (by simp),Option.bind_some]
   simp only
   by_cases h0:(i:Int) > 0
   ·rw [if_pos (by simpa using h0)]
    exact skip s1 (n1.mono (by omega)) out hv (by omega) (by omega) (by omega)
   ·rw [if_neg (by simpa using h0)]
    exact go
theorem c6f (v:Int) (hv:0 ≤ v ∧ v < 3) (s:x8) (ho:b2r s) (ha:s.At + 60 < 2 ^ 48):∃ l s',a2a v s = some (l,s') ∧ l.all setB = true ∧ 1 ≤ l.length ∧ l.length ≤ 3 ∧ Nx s s' 60:=by
 obtain ⟨t,_,e3,ht⟩:=c1z v hv
 have hlen:=d5z ht
 have hlen1:=d6l ht
 obtain ⟨s',l,q1,q2,q3,q4,q5,q6⟩:=d2f t.Columns 0 s [] (d6k ht) rfl (by simp; omega) ho (by omega)
 have e3':a1z.Tables[0 + v.toNat]? = some t:=by simpa using e3
 have hlp:(a1z.Tables.length:Int) = 3:=rfl
 have hne:t.Columns ≠ []:=by intro h; rw [h] at hlen1; simp at hlen1
 have q5:=q5 rfl hne
 simp only [List.length_nil] at q3 q5
 unfold a2a
 rw [b7f,Option.bind_some,if_pos (by rw [hlp]; exact hv),e3',Option.bind_some,q1,Option.bind_some]
 exact ⟨l,s',rfl,q2,by omega,by omega,q6.mono (by omega)⟩
theorem f1p (v:Int) (hv:0 ≤ v ∧ v < 3) (s:x8) (ho:b2r s) (ha:s.At + 40 < 2 ^ 48):∃ c s',a6u v s = some (c,s') ∧ b7r c = true ∧ Nx s s' 30:=by
 obtain ⟨t,e3,_,ht⟩:=c1z v hv
 have hlen:=d5z ht
 have hlen1:=d6l ht
 unfold a6u
 simp only [b5o,b5i]
 rw [b7f,Option.bind_some,e3,Option.bind_some]
 obtain ⟨b1,s1,e1,n1⟩:=b1q 8 s ho (by omega) (by omega) (by omega)
 have h1:=n1.hi
 rw [e1,Option.bind_some]
 cases b1 with
 | true =>
  obtain ⟨q,s2,e2,q1,q2,n2⟩:=a7w 4 s1 n1.ok (by omega) (by omega) (by omega)
  have h2:=n2.hi
  obtain ⟨a,s3,e4,a1,_,n3⟩:=d2d 4 s2 (by omega) n2.ok (by omega)
  obtain ⟨f,ef,f1⟩:=f2z q ⟨q1,q2⟩
  rw [if_pos rfl,e2,Option.bind_some,if_pos ⟨q1,q2⟩,ef,Option.bind_some,e4,Option.bind_some]
  refine ⟨_,s3,rfl,?_,((n1.trans n2).trans n3).mono (by omega)⟩
  unfold b7r
  rw [decide_eq_true f1,c1o a1]
  rfl
 | false =>
  obtain ⟨q,s2,e2,q1,q2,n2⟩:=a7w t.Columns.length s1 n1.ok (by omega) (by omega) (by omega)
  have h2:=n2.hi
  obtain ⟨c,ec,_,c1,c2,c3⟩:=d6m ht q ⟨q1,q2⟩
  rw [if_neg (by simp),e2,Option.bind_some,ec,Option.bind_some,Option.bind_some]
  simp only [a7a]
  obtain ⟨p,s3,e4,p1,p2,n3⟩:=a7w 4 s2 n2.ok (by omega) (by omega) (by omega)
  have h3:=n3.hi
  obtain ⟨f,ef,f1⟩:=f2z p ⟨p1,p2⟩
  obtain ⟨d,s4,e5,d1,d2,n4⟩:=d6j c.Kind s3 ⟨c1,c2⟩ n3.ok (by omega)
  have h4:=n4.hi
  rw [e4,Option.bind_some,if_pos ⟨p1,p2⟩,ef,Option.bind_some,e5,Option.bind_some,Option.bind_some]
  simp only [a7a]
  -- the function
  have hfun:∃ s5 g,((((if (c.Kind == 1) then
  (a0e 2 s4).bind fun r_87 =>
  some (r_87.1,r_87.2.Code,r_87.2.At,r_87.2.Seed)
  else
  some (false,s4.Code,s4.At,s4.Seed):Option (Bool × (List Int) × Int × Int))).bind fun p85 =>
  (match p85 with
  | (s51_81,x_82,x_83,x_84) =>
  if s51_81 then
  (y9 4 (⟨x_82,x_83,x_84⟩:x8)).bind fun r_90 =>
  some (r_90.2.Code,r_90.2.At,r_90.2.Seed,w64 (3 + r_90.1))
  else
  some (x_82,x_83,x_84,f)):Option ((List Int) × Int × Int × Int))) = some (s5.Code,s5.At,s5.Seed,g) ∧ 1 ≤ g ∧ g ≤ 8 ∧ Nx s4 s5 2:=by
   by_cases k:c.Kind = 1
   ·rw [if_pos (by simpa using k)]
    obtain ⟨b5,s5,e6,n5⟩:=b1q 2 s4 n4.ok (by omega) (by omega) (by omega)
    have h5:=n5.hi
    rw [e6,Option.bind_some,Option.bind_some]
    simp only [a7a]
    cases b5 with
    | true =>
     obtain ⟨y,s6,e7,y1,y2,n6⟩:=a7w 4 s5 n5.ok (by omega) (by omega) (by omega)
     rw [if_pos rfl,e7,Option.bind_some,a0w (n:=3 + y) (by omega)]
     exact ⟨s6,3 + y,rfl,by omega,by omega,(n5.trans n6).mono (by omega)⟩
    | false =>
     rw [if_neg (by simp)]
     exact ⟨s5,f,rfl,f1.1,f1.2,n5.mono (by omega)⟩
   ·rw [if_neg (by simpa using k),Option.bind_some]
    simp only
    rw [if_neg (by simp)]
    exact ⟨s4,f,rfl,f1.1,f1.2,(Nx.refl n4.ok).mono (by omega)⟩
  obtain ⟨s5,g,e6,g1,g2,n5⟩:=hfun
  have h5:=n5.hi
  rw [e6,Option.bind_some]
  simp only [a7a]
  obtain ⟨b6,s6,e7,n6⟩:=b1q 2 s5 n5.ok (by omega) (by omega) (by omega)
  have h6:=n6.hi
  have hval:∃ s7 d',((a0e 2 s5).bind fun r_102 =>
  if r_102.1 then
  (a1d c.Kind r_102.2).bind fun r_105 =>
  some (r_105.2.Code,r_105.2.At,r_105.2.Seed,[r_105.1])
  else
  some (r_102.2.Code,r_102.2.At,r_102.2.Seed,d):Option ((List Int) × Int × Int × (List o5))) = some (s7.Code,s7.At,s7.Seed,d') ∧ b1w d' = true ∧ Nx s5 s7 2:=by
   rw [e7,Option.bind_some]
   cases b6 with
   | true =>
    obtain ⟨a,s7,e8,a1,_,n7⟩:=d2d c.Kind s6 ⟨c1,c2⟩ n6.ok (by omega)
    rw [if_pos rfl,e8,Option.bind_some]
    exact ⟨s7,[a],rfl,c1o a1,(n6.trans n7).mono (by omega)⟩
   | false =>
    rw [if_neg (by simp)]
    exact ⟨s6,d,rfl,b8z d1 (by omega),n6.mono (by omega)⟩
  obtain ⟨s7,d',e8,hd',n7⟩:=hval
  have h7:=n7.hi
  rw [e8,Option.bind_some]
  simp only [a7a]
  rw [c0q,Option.bind_some]
  have nn:=((((n1.trans n2).trans n3).trans n4).trans n5).trans n7
  have last:∀ b:Bool,∃ c' s',(if b = true then (a1d c.Kind s7).bind fun r_118 => some ((⟨c.Name,g,[r_118.1]⟩:a3p),r_118.2) else some ((⟨c.Name,g,d'⟩:a3p),s7)) = some (c',s') ∧ b7r c' = true ∧ Nx s s' 30:=by
   intro b
   cases b with
   | true =>
    obtain ⟨a,s8,e9,a1,_,n8⟩:=d2d c.Kind s7 ⟨c1,c2⟩ n7.ok (by omega)
    rw [if_pos rfl,e9,Option.bind_some]
    refine ⟨_,s8,rfl,?_,(nn.trans n8).mono (by omega)⟩
    unfold b7r
    rw [decide_eq_true ⟨g1,g2⟩,c1o a1,c3]
    rfl
   | false =>
    rw [if_neg (by simp)]
    refine ⟨_,s7,rfl,?_,nn.mono (by omega)⟩
    unfold b7r
    rw [decide_eq_true ⟨g1,g2⟩,hd',c3]
    rfl
  by_cases hr:3 ≤ g ∧ g ≤ 6
  ·rw [decide_eq_true hr,if_pos rfl,Option.bind_some]
   exact last _
  ·rw [decide_eq_false hr,if_neg (by simp),Option.bind_some]
   exact last _
theorem c8m (v:Int) (hv:0 ≤ v ∧ v < 3):∀ (i k:Nat) (s:x8) (out:List a3p),i < k → out.all b7r = true → out.length + i ≤ 100 → b2r s → s.At + 30 * i + 60 < 2 ^ 48 →
  ∃ s' l,a4n v k (i:Int) s.Code s.At s.Seed out = some (s'.Code,s'.At,s'.Seed,l) ∧ l.all b7r = true ∧ l.length ≤ out.length + i ∧ Nx s s' (30 * i)
 | _,0,_,_,h,_,_,_,_ => by omega
 | 0,k + 1,s,out,h,hv,_,ho,_ => ⟨s,out,by rw [a4n,if_neg (by simp)],hv,by omega,(Nx.refl ho).mono (by simp)⟩
 | i + 1,k + 1,s,out,h,ha,hl,ho,hb => by
  rw [a4n,if_pos (by simp),a7a]
  obtain ⟨c,s1,e1,c1,n1⟩:=f1p v hv s ho (by omega)
  have h1:=n1.hi
  have ew:w64 (((i + 1:Nat):Int) - 1) = (i:Int):=by rw [a0w (by omega)]; omega
  rw [e1,Option.bind_some,if_pos (by simp; omega),ew]
  obtain ⟨s2,l,e2,l1,l2,n2⟩:=c8m v hv i k s1 (out ++ [c]) (by omega) (b5p ha c1) (by simp; omega) n1.ok (by omega)
  simp only [List.length_append,List.length_cons,List.length_nil] at l2
  exact ⟨s2,l,e2,l1,by omega,(n1.trans n2).mono (by omega)⟩
theorem e9b:2 ^ 40 < FUEL:=by unfold FUEL; decide
theorem e9c (v:Int) (hv:0 ≤ v ∧ v < 3) (s:x8) (ho:b2r s) (ha:s.At + 200 < 2 ^ 48):∃ l s',a4o v s = some (l,s') ∧ l.all b7r = true ∧ l.length ≤ 2 ∧ Nx s s' 61:=by
 have hf:=e9b
 unfold a4o
 rw [b5o]
 obtain ⟨q,s1,e1,q1,q2,n1⟩:=a7w 3 s ho (by omega) (by omega) (by omega)
 obtain ⟨i,rfl⟩:∃ i:Nat,q = (i:Int):=⟨q.toNat,by omega⟩
 have h1:=n1.hi
 obtain ⟨s2,l,e2,l1,l2,n2⟩:=c8m v hv i FUEL s1 [] (by omega) rfl (by simp; omega) n1.ok (by omega)
 rw [e1,Option.bind_some,e2,Option.bind_some]
 simp only [List.length_nil] at l2
 exact ⟨l,s2,rfl,l1,by omega,(n1.trans n2).mono (by omega)⟩
theorem f4o (v:Int) (hv:0 ≤ v ∧ v < 3) (s:x8) (ho:b2r s) (ha:s.At + 60 < 2 ^ 48):∃ c s',a7k v s = some (c,s') ∧ c4i c = true ∧ Nx s s' 30:=by
 obtain ⟨t,e3,_,ht⟩:=c1z v hv
 have hlen:=d5z ht
 have hlen1:=d6l ht
 unfold a7k
 simp only [b5o,b5i]
 rw [b7f,Option.bind_some,e3,Option.bind_some]
 obtain ⟨q,s2,e2,q1,q2,n2⟩:=a7w t.Columns.length s ho (by omega) (by omega) (by omega)
 have h2:=n2.hi
 obtain ⟨c0,ec0,_,c01,c02,c03⟩:=d6m ht q ⟨q1,q2⟩
 rw [e2,Option.bind_some,ec0,Option.bind_some,Option.bind_some]
 simp only [a7a]
 obtain ⟨b1,s3,e4,n3⟩:=b1q 2 s2 n2.ok (by omega) (by omega) (by omega)
 have h3:=n3.hi
 have hcol:∃ (s4:x8) (c:y7),((a0e 2 s2).bind fun r_49 =>
  if r_49.1 then
  (y9 2 r_49.2).bind fun r_53 =>
  (idx t.Columns (w64 ((w64 ((t.Columns.length:Int) - 1)) - r_53.1))).bind fun x_55 =>
  some (r_53.2.Code,r_53.2.At,r_53.2.Seed,x_55.Name,x_55.Kind,x_55.Min,x_55.Max,x_55.Low,x_55.High,x_55.Ref,x_55.Strong)
  else
  some (r_49.2.Code,r_49.2.At,r_49.2.Seed,c0.Name,c0.Kind,c0.Min,c0.Max,c0.Low,c0.High,c0.Ref,c0.Strong):Option ((List Int) × Int × Int × Str × Int × Int × Int × Int × Int × Str × Bool)) = some (s4.Code,s4.At,s4.Seed,c.Name,c.Kind,c.Min,c.Max,c.Low,c.High,c.Ref,c.Strong) ∧ (1 ≤ c.Kind ∧ c.Kind ≤ 4) ∧ a6z c.Name = true ∧ Nx s2 s4 2:=by
  rw [e4,Option.bind_some]
  cases b1 with
  | true =>
   obtain ⟨y,s4,e5,y1,y2,n4⟩:=a7w 2 s3 n3.ok (by omega) (by omega) (by omega)
   have ew:w64 (w64 ((t.Columns.length:Int) - 1) - y) = (t.Columns.length:Int) - 1 - y:=by rw [a0w (n:=(t.Columns.length:Int) - 1) (by omega),a0w (by omega)]
   obtain ⟨c,ec,_,c1,c2,c3⟩:=d6m ht ((t.Columns.length:Int) - 1 - y) (by omega)
   rw [if_pos rfl,e5,Option.bind_some,ew,ec,Option.bind_some]
   exact ⟨s4,c,rfl,⟨c1,c2⟩,c3,(n3.trans n4).mono (by omega)⟩
  | false =>
   rw [if_neg (by simp)]
   exact ⟨s3,c0,rfl,⟨c01,c02⟩,c03,n3.mono (by omega)⟩
 obtain ⟨s4,c,e5,c1,c3,n4⟩:=hcol
 have h4:=n4.hi
 rw [e5,Option.bind_some]
 simp only [a7a]
 obtain ⟨y,s5,e6,y1,y2,n5⟩:=a7w 2 s4 n4.ok (by omega) (by omega) (by omega)
 have h5:=n5.hi
 obtain ⟨d,s6,e7,d1,d2,n6⟩:=d6j c.Kind s5 c1 n5.ok (by omega)
 have h6:=n6.hi
 rw [e6,Option.bind_some,e7,Option.bind_some,Option.bind_some]
 simp only [a7a]
 have ey:w64 (6 + y) = 6 + y:=a0w (by omega)
 rw [ey]
 have nn:=((n2.trans n4).trans n5).trans n6
 have last:∀ (b:Bool) (s7:x8),Nx s6 s7 1 → ∃ c' s',(if b = true then (y9 5 s7).bind fun r_83 => (y9 9 r_83.2).bind fun r_85 => some ((⟨c.Name,w64 (1 + r_83.1),[(⟨1,w64 (r_85.1 - 3),[]⟩:o5)]⟩:b1v),r_85.2) else some ((⟨c.Name,6 + y,d⟩:b1v),s7)) = some (c',s') ∧ c4i c' = true ∧ Nx s s' 30:=by
  intro b s7 n7
  have h7:=n7.hi
  cases b with
  | true =>
   obtain ⟨u,s8,e8,u1,u2,n8⟩:=a7w 5 s7 n7.ok (by omega) (by omega) (by omega)
   have h8:=n8.hi
   obtain ⟨z,s9,e9,z1,z2,n9⟩:=a7w 9 s8 n8.ok (by omega) (by omega) (by omega)
   rw [if_pos rfl,e8,Option.bind_some,e9,Option.bind_some,a0w (n:=1 + u) (by omega),a0w (n:=z - 3) (by omega)]
   refine ⟨_,s9,rfl,?_,(((nn.trans n7).trans n8).trans n9).mono (by omega)⟩
   unfold c4i
   have hat:b0e (⟨1,z - 3,[]⟩:o5) = true:=by
    have:-1000000000 ≤ z - 3 ∧ z - 3 ≤ 1000000000:=by omega
    simp [b0e,this]
   rw [decide_eq_true (show 1 ≤ 1 + u ∧ 1 + u ≤ 7 by omega),c1o hat,c3]
   rfl
  | false =>
   rw [if_neg (by simp)]
   refine ⟨_,s7,rfl,?_,(nn.trans n7).mono (by omega)⟩
   unfold c4i
   rw [decide_eq_true (show 1 ≤ 6 + y ∧ 6 + y ≤ 7 by omega),b8z d1 (by omega),c3]
   rfl
 by_cases k:c.Kind = 1
 ·rw [if_pos (by simpa using k)]
  obtain ⟨b6,s7,e8,n7⟩:=b1q 4 s6 n6.ok (by omega) (by omega) (by omega)
  rw [e8,Option.bind_some,Option.bind_some]
  simp only [a7a]
  exact last _ s7 n7
 ·rw [if_neg (by simpa using k),Option.bind_some]
  simp only [a7a]
  exact last false s6 ((Nx.refl n6.ok).mono (by omega))
theorem d2g (r:Int × x8) (hv:0 ≤ r.1 ∧ r.1 < 3):∀ (i k:Nat) (s:x8) (out:List b1v),i < k → out.all c4i = true → out.length + i ≤ 100 → b2r s → s.At + 30 * i + 60 < 2 ^ 48 →
  ∃ s' l,a6a r k (i:Int) s.Code s.At s.Seed out = some (s'.Code,s'.At,s'.Seed,l) ∧ l.all c4i = true ∧ l.length ≤ out.length + i ∧ Nx s s' (30 * i)
 | _,0,_,_,h,_,_,_,_ => by omega
 | 0,k + 1,s,out,h,hv,_,ho,_ => ⟨s,out,by rw [a6a,if_neg (by simp)],hv,by omega,(Nx.refl ho).mono (by simp)⟩
 | i + 1,k + 1,s,out,h,ha,hl,ho,hb => by
  rw [a6a,if_pos (by simp),a7a]
  obtain ⟨c,s1,e1,c1,n1⟩:=f4o r.1 hv s ho (by omega)
  have h1:=n1.hi
  have ew:w64 (((i + 1:Nat):Int) - 1) = (i:Int):=by rw [a0w (by omega)]; omega
  rw [e1,Option.bind_some,if_pos (by simp; omega),ew]
  obtain ⟨s2,l,e2,l1,l2,n2⟩:=d2g r hv i k s1 (out ++ [c]) (by omega) (b5p ha c1) (by simp; omega) n1.ok (by omega)
  simp only [List.length_append,List.length_cons,List.length_nil] at l2
  exact ⟨s2,l,e2,l1,by omega,(n1.trans n2).mono (by omega)⟩
theorem c4m:∀ (xs:List y7) (s:x8) (out:List Str),xs.all e5p = true → out.all a6z = true → out.length + xs.length ≤ 1000 → b2r s → s.At + xs.length < 2 ^ 49 →
  ∃ s' l,a2n xs s.Code s.At s.Seed out = some (s'.Code,s'.At,s'.Seed,l) ∧ l.all a6z = true ∧ l.length ≤ out.length + xs.length ∧ Nx s s' xs.length
 | [],s,out,_,hv,_,ho,_ => ⟨s,out,by rw [a2n],hv,by simp,(Nx.refl ho).mono (by simp)⟩
 | c :: xs,s,out,hk,hv,hl,ho,ha => by
  simp only [List.length_cons] at hl ha
  simp only [List.all_cons,Bool.and_eq_true] at hk
  obtain ⟨hkc,hks⟩:=hk
  simp only [e5p,Bool.and_eq_true,decide_eq_true_eq] at hkc
  rw [a2n,a7a,b5i]
  obtain ⟨b1,s1,e1,n1⟩:=b1q 2 s ho (by omega) (by omega) (by omega)
  have h1:=n1.hi
  rw [e1,Option.bind_some]
  cases b1 with
  | true =>
   obtain ⟨s2,l,e2,l1,l2,n2⟩:=c4m xs s1 (out ++ [c.Name]) hks (b5p hv hkc.2) (by simp; omega) n1.ok (by omega)
   simp only [List.length_append,List.length_cons,List.length_nil] at l2
   rw [if_pos rfl,if_pos (by simp; omega)]
   exact ⟨s2,l,e2,l1,by simp only [List.length_cons]; omega,(n1.trans n2).mono (by simp only [List.length_cons]; omega)⟩
  | false =>
   obtain ⟨s2,l,e2,l1,l2,n2⟩:=c4m xs s1 out hks hv (by omega) n1.ok (by omega)
   rw [if_neg (by simp)]
   exact ⟨s2,l,e2,l1,by simp only [List.length_cons]; omega,(n1.trans n2).mono (by simp only [List.length_cons]; omega)⟩
theorem f1q (v:Int) (hv:0 ≤ v ∧ v < 3) (s:x8) (ho:b2r s) (ha:s.At + 60 < 2 ^ 48):∃ l s',a4d v s = some (l,s') ∧ l.all a6z = true ∧ l.length ≤ 4 ∧ Nx s s' 4:=by
 obtain ⟨t,_,e3,ht⟩:=c1z v hv
 have hlen:=d5z ht
 obtain ⟨s1,l,q1,q2,q3,n1⟩:=c4m t.Columns s [] (d6k ht) rfl (by simp; omega) ho (by omega)
 have e3':a1z.Tables[0 + v.toNat]? = some t:=by simpa using e3
 have hlp:(a1z.Tables.length:Int) = 3:=rfl
 simp only [List.length_nil] at q3
 have h1:=n1.hi
 unfold a4d
 simp only [b5i]
 rw [b7f,Option.bind_some,if_pos (by rw [hlp]; exact hv),e3',Option.bind_some,q1,Option.bind_some]
 simp only [a7a]
 obtain ⟨b1,s2,e1,n2⟩:=b1q 3 s1 n1.ok (by omega) (by omega) (by omega)
 rw [e1,Option.bind_some]
 cases b1 with
 | true =>
  rw [if_pos rfl,if_pos (by simp; omega)]
  exact ⟨_,s2,rfl,b5p q2 (by decide),by simp; omega,(n1.trans n2).mono (by omega)⟩
 | false =>
  rw [if_neg (by simp)]
  exact ⟨_,s2,rfl,q2,by omega,(n1.trans n2).mono (by omega)⟩
theorem b7x {o:GOp} (h1:c4j o = true) (h2:a6z o.Table = true) (h3:a6z o.Name = true) (h4:o.Columns.length ≤ 6) (h5:o.Columns.all a6z = true) (h6:o.Where.all b7r = true) (h7:o.Where.length ≤ 8) (h8:o.Muts.all c4i = true) (h9:o.Muts.length ≤ 8) (h10:o.Row.all setB = true) (h11:o.Row.length ≤ 6):opB o = true:=by
 unfold opB
 rw [h1,h2,h3,decide_eq_true (show (o.Columns.length:Int) ≤ 6 by omega),h5,h6,decide_eq_true (show (o.Where.length:Int) ≤ 8 by omega),h8,decide_eq_true (show (o.Muts.length:Int) ≤ 8 by omega),h10,decide_eq_true (show (o.Row.length:Int) ≤ 6 by omega)]
 rfl
theorem f6w (q x:Int) (h:0 ≤ q ∧ q < 7) (hx:1 ≤ x ∧ x ≤ 10):∃ f,[(1:Int),(1:Int),(3:Int),(4:Int),(2:Int),(5:Int),x][(0 + q.toNat)]? = some f ∧ 1 ≤ f ∧ f ≤ 10:=by
 have:q = 0 ∨ q = 1 ∨ q = 2 ∨ q = 3 ∨ q = 4 ∨ q = 5 ∨ q = 6:=by omega
 rcases this with rfl | rfl | rfl | rfl | rfl | rfl | rfl
 ·exact ⟨1,rfl,by omega⟩
 ·exact ⟨1,rfl,by omega⟩
 ·exact ⟨3,rfl,by omega⟩
 ·exact ⟨4,rfl,by omega⟩
 ·exact ⟨2,rfl,by omega⟩
 ·exact ⟨5,rfl,by omega⟩
 ·exact ⟨x,rfl,hx⟩
theorem g0s (q:Int) (h:0 ≤ q ∧ q < 3):∃ f:Str,[[110,111,116,101],[112,111,114,116],[115,119,105,116,99,104]][(0 + q.toNat)]? = some f ∧ a6z f = true:=by
 have:q = 0 ∨ q = 1 ∨ q = 2:=by omega
 rcases this with rfl | rfl | rfl
 ·exact ⟨_,rfl,by decide⟩
 ·exact ⟨_,rfl,by decide⟩
 ·exact ⟨_,rfl,by decide⟩
set_option maxHeartbeats 4000000 in
theorem f6x (s:x8) (ho:b2r s) (ha:s.At + 400 < 2 ^ 47):∃ o s',a8q s = some (o,s') ∧ opB o = true ∧ Nx s s' 200:=by
 have hf:=e9b
 unfold a8q
 simp only [b5o,b5i,d6i]
 obtain ⟨t,s1,e1,t1,t2,n1⟩:=a7w 3 s ho (by omega) (by omega) (by omega)
 have h1:=n1.hi
 obtain ⟨u,s2,e2,u1,u2,n2⟩:=a7w 10 s1 n1.ok (by omega) (by omega) (by omega)
 have h2:=n2.hi
 obtain ⟨q,s3,e3,q1,q2,n3⟩:=a7w 7 s2 n2.ok (by omega) (by omega) (by omega)
 have h3:=n3.hi
 rw [e1,Option.bind_some,e2,Option.bind_some,e3,Option.bind_some,a0w (n:=1 + u) (by omega)]
 simp only
 rw [if_pos ⟨q1,q2⟩]
 obtain ⟨k,ek,k1,k2⟩:=f6w q (1 + u) ⟨q1,q2⟩ (by omega)
 rw [ek,Option.bind_some,c0q,Option.bind_some]
 obtain ⟨tn,et,tn1⟩:=g0s t ⟨t1,t2⟩
 have htab:∃ x:Str,((if decide (1 ≤ k ∧ k ≤ 6) = true then
  if (0:Int) ≤ t ∧ t < (3:Int) then
  ([[110,111,116,101],[112,111,114,116],[115,119,105,116,99,104]][(0 + t.toNat)]?).bind fun x_23 =>
  some x_23
  else none
  else
  some []:Option Str)) = some x ∧ a6z x = true ∧ (¬ (1 ≤ k ∧ k ≤ 6) → x = []):=by
  by_cases h:1 ≤ k ∧ k ≤ 6
  ·rw [if_pos (decide_eq_true h),if_pos ⟨t1,t2⟩,et,Option.bind_some]
   exact ⟨tn,rfl,tn1,fun hh => absurd h hh⟩
  ·rw [if_neg (by simpa using h)]
   exact ⟨[],rfl,rfl,fun _ => rfl⟩
 obtain ⟨tb,etb,tb1,tb2⟩:=htab
 rw [etb,Option.bind_some,c0q,Option.bind_some]
 have hwh:∃ (s4:x8) (w:List a3p),((if decide (2 ≤ k ∧ k ≤ 6) = true then
  (a4o t s3).bind fun r_38 =>
  some (r_38.2.Code,r_38.2.At,r_38.2.Seed,r_38.1)
  else
  some (s3.Code,s3.At,s3.Seed,[]):Option ((List Int) × Int × Int × (List a3p)))) = some (s4.Code,s4.At,s4.Seed,w) ∧ w.all b7r = true ∧ w.length ≤ 2 ∧ (¬ (2 ≤ k ∧ k ≤ 6) → w = []) ∧ Nx s3 s4 61:=by
  by_cases h:2 ≤ k ∧ k ≤ 6
  ·obtain ⟨l,s4,e4,l1,l2,n4⟩:=e9c t ⟨t1,t2⟩ s3 n3.ok (by omega)
   rw [if_pos (decide_eq_true h),e4,Option.bind_some]
   exact ⟨s4,l,rfl,l1,l2,fun hh => absurd h hh,n4⟩
  ·rw [if_neg (by simpa using h)]
   exact ⟨s3,[],rfl,rfl,by simp,fun _ => rfl,(Nx.refl n3.ok).mono (by omega)⟩
 obtain ⟨s4,w,e4,w1,w2,w3,n4⟩:=hwh
 have h4:=n4.hi
 rw [e4,Option.bind_some]
 simp only [a7a]
 have nn:=((n1.trans n2).trans n3).trans n4
 by_cases c1:k = 1
 ·subst c1
  obtain ⟨l,s5,e5,l1,_,l2,n5⟩:=c6f t ⟨t1,t2⟩ s4 n4.ok (by omega)
  have h5:=n5.hi
  obtain ⟨nm,s6,e6,hnm,n6⟩:=c2e [[],[112],[113]] s5 n5.ok (by omega) (by simp) (by simp)
  have hs:a6z nm = true:=List.all_eq_true.1 (show ([[],[112],[113]]:List Str).all a6z = true by decide) nm hnm
  rw [if_pos (by simp),e5,Option.bind_some,e6,Option.bind_some]
  refine ⟨_,s6,rfl,b7x ?_ tb1 hs (by simp) rfl w1 (by simp only; omega) rfl (by simp) l1 (by simp only; omega),((nn.trans n5).trans n6).mono (by omega)⟩
  have hw:=w3 (by omega)
  subst hw
  simp [c4j]
 rw [if_neg (by simpa using c1)]
 by_cases c3:k = 3
 ·subst c3
  obtain ⟨l,s5,e5,l1,_,l2,n5⟩:=c6f t ⟨t1,t2⟩ s4 n4.ok (by omega)
  rw [if_pos (by simp),Option.bind_some,if_pos rfl,e5,Option.bind_some,if_neg (by simp)]
  refine ⟨_,s5,rfl,b7x (by simp [c4j]) tb1 rfl (by simp) rfl w1 (by simp only; omega) rfl (by simp) l1 (by simp only; omega),(nn.trans n5).mono (by omega)⟩
 rw [if_neg (by simpa using c3),Option.bind_some]
 by_cases c6:k = 6
 ·subst c6
  obtain ⟨l,s5,e5,l1,_,l2,n5⟩:=c6f t ⟨t1,t2⟩ s4 n4.ok (by omega)
  have h5:=n5.hi
  obtain ⟨b,s6,e6,n6⟩:=b1q 2 s5 n5.ok (by omega) (by omega) (by omega)
  rw [if_pos (by simp),e5,Option.bind_some,if_pos (by simp),e6,Option.bind_some]
  refine ⟨_,s6,rfl,b7x (by simp [c4j]) tb1 rfl (by simp) rfl w1 (by simp only; omega) rfl (by simp) l1 (by simp only; omega),((nn.trans n5).trans n6).mono (by omega)⟩
 rw [if_neg (by simpa using c6)]
 by_cases c4:k = 4
 ·subst c4
  obtain ⟨y,s5,e5,y1,y2,n5⟩:=a7w 2 s4 n4.ok (by omega) (by omega) (by omega)
  have h5:=n5.hi
  obtain ⟨i,rfl⟩:∃ i:Nat,y = (i:Int):=⟨y.toNat,by omega⟩
  have ei:w64 (1 + (i:Int)) = ((i + 1:Nat):Int):=by rw [a0w (by omega)]; omega
  obtain ⟨s6,l,e6,l1,l2,n6⟩:=d2g (t,s1) ⟨t1,t2⟩ (i + 1) FUEL s5 [] (by omega) rfl (by simp; omega) n5.ok (by omega)
  simp only [List.length_nil] at l2
  rw [if_pos (by simp),e5,Option.bind_some,ei,e6,Option.bind_some]
  refine ⟨_,s6,rfl,b7x (by simp [c4j]) tb1 rfl (by simp) rfl w1 (by simp only; omega) l1 (by simp only; omega) rfl (by simp),((nn.trans n5).trans n6).mono (by omega)⟩
 rw [if_neg (by simpa using c4)]
 by_cases c2:k = 2
 ·subst c2
  obtain ⟨l,s5,e5,l1,l2,n5⟩:=f1q t ⟨t1,t2⟩ s4 n4.ok (by omega)
  rw [if_pos (by simp),e5,Option.bind_some]
  refine ⟨_,s5,rfl,b7x (by simp [c4j]) tb1 rfl (by simp only; omega) l1 w1 (by simp only; omega) rfl (by simp) rfl (by simp),(nn.trans n5).mono (by omega)⟩
 rw [if_neg (by simpa using c2)]
 by_cases c9:k = 9
 ·subst c9
  have ht:=tb2 (by omega)
  have hw:=w3 (by omega)
  subst ht hw
  rw [if_pos (by simp)]
  exact ⟨_,s4,rfl,b7x (by simp [c4j]) rfl (by decide) (by simp) rfl rfl (by simp) rfl (by simp) rfl (by simp),nn.mono (by omega)⟩
 rw [if_neg (by simpa using c9)]
 by_cases c10:k = 10
 ·subst c10
  have ht:=tb2 (by omega)
  have hw:=w3 (by omega)
  subst ht hw
  obtain ⟨nm,s6,e6,hnm,n6⟩:=c2e [[108,111,99,107],[111,116,104,101,114]] s4 n4.ok (by omega) (by simp) (by simp)
  have hs:a6z nm = true:=List.all_eq_true.1 (show ([[108,111,99,107],[111,116,104,101,114]]:List Str).all a6z = true by decide) nm hnm
  rw [if_pos (by simp),e6,Option.bind_some]
  exact ⟨_,s6,rfl,b7x (by simp [c4j]) rfl hs (by simp) rfl rfl (by simp) rfl (by simp) rfl (by simp),(nn.trans n6).mono (by omega)⟩
 rw [if_neg (by simpa using c10)]
 refine ⟨_,s4,rfl,b7x ?_ tb1 rfl (by simp) rfl w1 (by simp only; omega) rfl (by simp) rfl (by simp),nn.mono (by omega)⟩
 have hk:k = 5 ∨ k = 7 ∨ k = 8:=by omega
 rcases hk with rfl | rfl | rfl
 ·simp [c4j]
 ·have ht:=tb2 (by omega)
  have hw:=w3 (by omega)
  subst ht hw
  simp [c4j]
 ·have ht:=tb2 (by omega)
  have hw:=w3 (by omega)
  subst ht hw
  simp [c4j]
theorem d4p:∀ (i k:Nat) (s:x8) (out:List GOp),i < k → out.all opB = true → out.length + i ≤ 100 → b2r s → s.At + 200 * i + 500 < 2 ^ 46 →
  ∃ s' l,a2q k (i:Int) s.Code s.At s.Seed out = some (s'.Code,s'.At,s'.Seed,l) ∧ l.all opB = true ∧ l.length ≤ out.length + i ∧ Nx s s' (200 * i)
 | _,0,_,_,h,_,_,_,_ => by omega
 | 0,k + 1,s,out,h,hv,_,ho,_ => ⟨s,out,by rw [a2q,if_neg (by simp)],hv,by omega,(Nx.refl ho).mono (by simp)⟩
 | i + 1,k + 1,s,out,h,ha,hl,ho,hb => by
  rw [a2q,if_pos (by simp),a7a]
  obtain ⟨c,s1,e1,c1,n1⟩:=f6x s ho (by omega)
  have h1:=n1.hi
  have ew:w64 (((i + 1:Nat):Int) - 1) = (i:Int):=by rw [a0w (by omega)]; omega
  rw [e1,Option.bind_some,if_pos (by simp; omega),ew]
  obtain ⟨s2,l,e2,l1,l2,n2⟩:=d4p i k s1 (out ++ [c]) (by omega) (b5p ha c1) (by simp; omega) n1.ok (by omega)
  simp only [List.length_append,List.length_cons,List.length_nil] at l2
  exact ⟨s2,l,e2,l1,by omega,(n1.trans n2).mono (by omega)⟩
set_option maxHeartbeats 4000000 in
theorem f4p (s:x8) (ho:b2r s) (ha:s.At + 2000 < 2 ^ 45):∃ l s',a7l s = some (l,s') ∧ l.all opB = true ∧ l.length ≤ 5 ∧ Nx s s' 800:=by
 have hf:=e9b
 unfold a7l
 simp only [b5o,b5i]
 have hfirst:∃ (s1:x8) (out:List GOp),(((a0e 2 s).bind fun r_18 =>
  if r_18.1 then
  (a2a 1 r_18.2).bind fun r_21 =>
  if ([] ++ [(⟨1,[112,111,114,116],[112],[],r_21.1,[],[],false⟩:GOp)]).length ≤ 2 ^ 30 then
  (a2a 2 r_21.2).bind fun r_24 =>
  if (0:Int) ≤ 1 ∧ 1 ≤ (r_24.1.length:Int) then
  if ((r_24.1.take 1) ++ [(⟨[112,111,114,116,115],[],[[112]]⟩:a2c)]).length ≤ 2 ^ 30 then
  if (([] ++ [(⟨1,[112,111,114,116],[112],[],r_21.1,[],[],false⟩:GOp)]) ++ [(⟨1,[115,119,105,116,99,104],[],[],(r_24.1.take 1) ++ [(⟨[112,111,114,116,115],[],[[112]]⟩:a2c)],[],[],false⟩:GOp)]).length ≤ 2 ^ 30 then
  some (r_24.2.Code,r_24.2.At,r_24.2.Seed,([] ++ [(⟨1,[112,111,114,116],[112],[],r_21.1,[],[],false⟩:GOp)]) ++ [(⟨1,[115,119,105,116,99,104],[],[],(r_24.1.take 1) ++ [(⟨[112,111,114,116,115],[],[[112]]⟩:a2c)],[],[],false⟩:GOp)])
  else none
  else none
  else none
  else none
  else
  some (r_18.2.Code,r_18.2.At,r_18.2.Seed,[]):Option ((List Int) × Int × Int × (List GOp)))) = some (s1.Code,s1.At,s1.Seed,out) ∧ out.all opB = true ∧ out.length ≤ 2 ∧ Nx s s1 121:=by
  obtain ⟨b,s1,e1,n1⟩:=b1q 2 s ho (by omega) (by omega) (by omega)
  have h1:=n1.hi
  rw [e1,Option.bind_some]
  cases b with
  | false => rw [if_neg (by simp)]; exact ⟨s1,[],rfl,rfl,by simp,n1.mono (by omega)⟩
  | true =>
   obtain ⟨l,s2,e2,l1,_,l2,n2⟩:=c6f 1 (by omega) s1 n1.ok (by omega)
   have h2:=n2.hi
   obtain ⟨m,s3,e3,m1,m2,m3,n3⟩:=c6f 2 (by omega) s2 n2.ok (by omega)
   rw [if_pos rfl,e2,Option.bind_some,if_pos (by simp),e3,Option.bind_some,if_pos ⟨by omega,by show (1:Int) ≤ (m.length:Int); omega⟩,if_pos (by simp; omega),if_pos (by simp)]
   refine ⟨s3,_,rfl,?_,by simp,((n1.trans n2).trans n3).mono (by omega)⟩
   have o1:opB (⟨1,[112,111,114,116],[112],[],l,[],[],false⟩:GOp) = true:=b7x (by simp [c4j]) (by show a6z [112,111,114,116] = true; decide) (by show a6z [112] = true; decide) (by simp) rfl rfl (by simp) rfl (by simp) l1 (by simp only; omega)
   have hm:(m.take 1 ++ [(⟨[112,111,114,116,115],[],[[112]]⟩:a2c)]).all setB = true:=b5p (List.all_eq_true.2 fun x hx => List.all_eq_true.1 m1 x (List.mem_of_mem_take hx)) (by decide)
   have o2:opB (⟨1,[115,119,105,116,99,104],[],[],m.take 1 ++ [(⟨[112,111,114,116,115],[],[[112]]⟩:a2c)],[],[],false⟩:GOp) = true:=b7x (by simp [c4j]) (by show a6z [115,119,105,116,99,104] = true; decide) rfl (by simp) rfl rfl (by simp) rfl (by simp) hm (by simp; omega)
   simp [o1,o2]
 obtain ⟨s1,out,e1,o1,o2,n1⟩:=hfirst
 have h1:=n1.hi
 rw [e1,Option.bind_some]
 simp only [a7a]
 obtain ⟨q,s2,e2,q1,q2,n2⟩:=a7w 4 s1 n1.ok (by omega) (by omega) (by omega)
 have h2:=n2.hi
 obtain ⟨i,rfl⟩:∃ i:Nat,q = (i:Int):=⟨q.toNat,by omega⟩
 obtain ⟨s3,l,e3,l1,l2,n3⟩:=d4p i FUEL s2 out (by omega) o1 (by omega) n2.ok (by omega)
 rw [e2,Option.bind_some,e3,Option.bind_some]
 exact ⟨l,s3,rfl,l1,by omega,((n1.trans n2).trans n3).mono (by omega)⟩
def PrS (s:o7) (S:Nat → Int → Prop) (i:Nat) (r:o8):Prop:=∃ t,s.Tables[i]? = some t ∧ a3d t r = true ∧ S i r.Id
theorem b0p {t:o6} {r:o8}:a3d t r = true ↔ (1 ≤ r.Id ∧ r.Id ≤ 1000000) ∧ r.Cells.length = t.Columns.length ∧ a1p (b2p t) r.Cells 0 = true:=by
 unfold a3d
 simp only [Bool.and_eq_true,decide_eq_true_eq,and_assoc]
theorem b8j {t:o6} {k:Nat} {d:List o5}:b2p t k d = true ↔ b1w d = true ∧ ∃ c,t.Columns[k]? = some c ∧ b3c c d = 0:=by
 unfold b2p
 cases h:t.Columns[k]? with
 | none => simp
 | some c => simp
theorem d9v {k:Int} {d:List o5} (h:a7d k d) (p:o5 → Bool):a7d k (d.filter p):=a7d.of (fun x hx => h.atom x (List.mem_filter.1 hx).1) (h.strict.filter _)
theorem e9d (c:y7) (d:List o5):b3c c d = if b0g d c.Kind = true then 9 else if ¬ (c.Min ≤ d.length ∧ (d.length:Int) ≤ c.Max) then 6 else if (c.Kind == 1 && d.any (c7a c)) = true then 4 else 0:=rfl
theorem e2m {k:Int} {d:List o5} (h:a7d k d):b0g d k = false:=by
 unfold b0g
 cases d with
 | nil => rfl
 | cons x xs => have:=(h.atom x (by simp)).2; simp [this]
theorem d9w {c:y7} {d:List o5} (hc:c2h c = true) (hk:c.Kind = 4) (h:b1w d = true) (hf:b3c c d = 0) (p:o5 → Bool):b1w (d.filter p) = true ∧ b3c c (d.filter p) = 0:=by
 obtain ⟨f1,f2⟩:=c7e hf
 have hs:=d9v (e2f h f1) p
 have hl:=List.length_filter_le p d
 have h8:=b4y h
 refine ⟨b8z hs (by omega),?_⟩
 have hm:c.Min = 0:=by
  unfold c2h at hc
  simp [hk] at hc
  exact hc.2.2
 rw [e9d,e2m hs,if_neg (by simp),if_neg (by rw [hm]; simp; omega),if_neg (by simp [hk])]
theorem e9e {t:o6} {r:o8} {k:Nat} {c:y7} {d:List o5} (h:a3d t r = true) (hc:t.Columns[k]? = some c) (hd:r.Cells[k]? = some d):b1w d = true ∧ b3c c d = 0:=by
 have:=(b1p _ _ _).1 (b0p.1 h).2.2 k d hd
 rw [Nat.zero_add] at this
 obtain ⟨h1,c',h2,h3⟩:=b8j.1 this
 rw [hc] at h2; cases h2
 exact ⟨h1,h3⟩
theorem f1r {t:o6} {r:o8} {k:Nat} {c:y7} {d:List o5} (h:a3d t r = true) (hc:t.Columns[k]? = some c) (hd:b1w d = true) (hf:b3c c d = 0):a3d t ⟨r.Id,r.Cells.set k d⟩ = true:=by
 obtain ⟨h1,h2,h3⟩:=b0p.1 h
 exact b0p.2 ⟨h1,by simpa using h2,d1p _ _ _ _ h3 (b8j.2 ⟨hd,c,hc,hf⟩)⟩
theorem c7n {s:o7} (hs:a7v s = true) (S:Nat → Int → Prop):d2c s (PrS s S):=by
 constructor
 ·rintro i r ⟨t,ht,hr,-⟩ t' ht'
  rw [ht] at ht'; cases ht'
  exact ⟨b2q hr,fun d hd => by have:=b4y (b7q hr hd); omega⟩
 ·rintro i r t c col d p ⟨t',ht',hr,hS⟩ ht hc hk hw hd
  rw [ht] at ht'; cases ht'
  have hcol:=c1y (b7e hs (List.mem_of_getElem? ht)) col (List.mem_of_getElem? hc)
  obtain ⟨g1,g2⟩:=e9e hr hc hd
  obtain ⟨g3,g4⟩:=d9w hcol hk g1 g2 p
  exact ⟨t,ht,f1r hr hc g3 g4,hS⟩
theorem d9x (m:b1v) (b:o5) (hv:m.Value = [b]) (hb:-1000000000 ≤ b.N ∧ b.N ≤ 1000000000) (hf:1 ≤ m.Func ∧ m.Func ≤ 5):∀ (xs o:List o5),(∀ x ∈ xs,b0e x = true ∧ x.Kind = 1) → a7d 1 o → o.length + xs.length ≤ 100 →
  a6j m xs o = some (.ret ([],4)) ∨ ∃ o',a6j m xs o = some (.go o') ∧ a7d 1 o'
 | [],o,_,hs,_ => .inr ⟨o,by rw [a6j],hs⟩
 | x :: xs,o,hx,hs,hl => by
  simp only [List.length_cons] at hl
  obtain ⟨x1,x2⟩:=hx x (by simp)
  obtain ⟨n1,n2,_⟩:=f2u x1 x2
  have ei:idx m.Value 0 = some b:=by rw [hv]; rfl
  rw [a6j,ei,Option.bind_some,e5j _ _ _ hf ⟨n1,n2⟩ hb,Option.bind_some]
  cases hc:e8m m.Func x.N b.N with
  | none => exact .inl (by simp)
  | some n =>
   simp only
   cases hn:e8n n with
   | false => exact .inl (by simp)
   | true =>
    have hn':-1000000000 ≤ n ∧ n ≤ 1000000000:=by simpa [e8n] using hn
    obtain ⟨d,e,h1,h2,h3⟩:=e3l 1 o ⟨1,n,[]⟩ hs (e8l n hn') rfl (by omega)
    rw [if_neg (by simp),e8j o _ (by omega),e,Option.bind_some]
    exact d9x m b hv hb hf xs d (fun y hy => hx y (by simp [hy])) h1 (by omega)
theorem f4q (c:y7) (d:List o5) (m:b1v) (hd:a7d c.Kind d) (ld:d.length ≤ 8) (hc:c.Max ≤ 8) (hm:c4i m = true) (ht:b0g m.Value c.Kind = false) (hf:m.Func ≤ 5 → c.Kind = 1 ∧ m.Value.length = 1) :
  ∃ d' e,b2i c d m = some (d',e) ∧ (e = 0 → b1w d' = true ∧ b3c c d' = 0):=by
 have hm':=hm
 unfold c4i at hm'
 simp only [Bool.and_eq_true,decide_eq_true_eq] at hm'
 obtain ⟨⟨⟨f1,f2⟩,hdv⟩,_⟩:=hm'
 have hv:a7d c.Kind m.Value:=e2f hdv ht
 have lv:=b4y hdv
 have fin:∀ x:List o5,a7d c.Kind x → ∃ d' e,((a8i c x).bind fun r_128 => if (r_128 != 0) then some (([]:List o5),r_128) else some (x,0)) = some (d',e) ∧ (e = 0 → b1w d' = true ∧ b3c c d' = 0):=by
  intro x hx
  rw [d5w,Option.bind_some]
  by_cases q:b3c c x = 0
  ·rw [if_neg (by simpa using q)]
   exact ⟨x,0,rfl,fun _ => ⟨b8z hx (by have:=(c7e q).2; omega),q⟩⟩
  ·rw [if_pos (by simpa using q)]
   exact ⟨[],_,rfl,fun h => absurd h q⟩
 unfold b2i
 by_cases e6:m.Func = 6
 ·obtain ⟨s2,g,g1,g2,g3⟩:=c5p c.Kind m.Value d hd hv.atom (by omega)
  unfold b6n
  rw [if_pos (by simp [e6]),if_pos (by simp; omega),List.nil_append,g,Option.bind_some,Option.bind_some,Option.bind_some]
  exact fin s2 g1
 by_cases e7:m.Func = 7
 ·rw [if_neg (by simp [e7]),if_pos (by simp [e7]),d6a d m.Value (by omega),Option.bind_some,Option.bind_some]
  exact fin _ (e5e hd m.Value)
 have f5:m.Func ≤ 5:=by omega
 obtain ⟨k1,l1⟩:=hf f5
 obtain ⟨b,eb⟩:∃ b,m.Value = [b]:=by
  cases hvv:m.Value with
  | nil => rw [hvv] at l1; simp at l1
  | cons b bs =>
   rw [hvv] at l1
   simp at l1
   exact ⟨b,by rw [l1]⟩
 have hb:=hv.atom b (by rw [eb]; simp)
 obtain ⟨b1,b2,_⟩:=f2u hb.1 (by rw [hb.2,k1])
 rw [k1] at hd
 rw [if_neg (by simp [e6]),if_neg (by simp [e7])]
 rcases d9x m b eb ⟨b1,b2⟩ ⟨f1,f5⟩ d [] hd.atom ⟨by simp,by simp⟩ (by simp; omega) with h2 | ⟨oS,h2,h3⟩
 ·rw [h2]
  exact ⟨[],4,rfl,fun h => by omega⟩
 ·rw [← k1] at h3
  rw [h2,Option.bind_some]
  exact fin oS h3
theorem d9y (t:o6) (hmax:∀ c ∈ t.Columns,c.Max ≤ 8):∀ (l:List b1v) (cs:List (List o5)),(∀ m ∈ l,c4i m = true ∧ c5q t m = 0) → a1p (b2p t) cs 0 = true → cs.length = t.Columns.length →
  (∃ e,a9s t l cs = some (.ret (⟨0,[]⟩,e)) ∧ e ≠ 0) ∨ (∃ cs',a9s t l cs = some (.go cs') ∧ a1p (b2p t) cs' 0 = true ∧ cs'.length = t.Columns.length)
 | [],cs,_,h,hl => .inr ⟨cs,by rw [a9s],h,hl⟩
 | m :: l,cs,hm,h,hl => by
  obtain ⟨m1,m3⟩:=hm m (by simp)
  obtain ⟨k,hk,hk2⟩:=e5k m3
  obtain ⟨c,e1,e2⟩:=b5x hk
  obtain ⟨t1,t2⟩:=hk2 c e2
  have hlt:k < t.Columns.length:=(List.getElem?_eq_some_iff.1 e2).1
  obtain ⟨d,hd⟩:∃ d,cs[k]? = some d:=⟨cs[k]'(by omega),List.getElem?_eq_getElem (by omega)⟩
  have hcell:=(b1p _ _ _).1 h k d hd
  rw [Nat.zero_add] at hcell
  obtain ⟨c1,c',c2,c3⟩:=b8j.1 hcell
  rw [e2] at c2; cases c2
  have hsd:a7d c.Kind d:=e2f c1 (c7e c3).1
  obtain ⟨d',e,g2,g3⟩:=f4q c d m hsd (b4y c1) (hmax c (List.mem_of_getElem? e2)) m1 t1 t2
  have hb:(0:Int) ≤ (k:Int) ∧ (k:Int) < (cs.length:Int):=by omega
  have hd':cs[(0 + ((k:Int)).toNat)]? = some d:=by simpa using hd
  have hcol2:a2g t m.Column = some (k:Int):=by rw [b0l,hk]; rfl
  rw [a9s,hcol2,Option.bind_some,e1,Option.bind_some,if_pos hb,hd',Option.bind_some,g2,Option.bind_some]
  by_cases q:e = 0
  ·subst q
   obtain ⟨g4,g5⟩:=g3 rfl
   simp only [bne_self_eq_false,Bool.false_eq_true,if_false]
   rw [if_pos hb]
   have ek:0 + ((k:Int)).toNat = k:=by simp
   rw [ek]
   exact d9y t hmax l (cs.set k d') (fun x hx => hm x (by simp [hx])) (d1p _ cs k _ h (b8j.2 ⟨g4,c,e2,g5⟩)) (by simpa using hl)
  ·rw [if_pos (by simpa using q)]
   exact .inl ⟨e,rfl,q⟩
theorem f3a {t:o6} {r:o8} (h:a3d t r = true) (h6:t.Columns.length ≤ 6):a4y r = some r:=b7s r (by rw [b2q h]; omega) (fun d hd => by have:=b4y (b7q h hd); omega)
theorem f4r {t:o6} (h6:t.Columns.length ≤ 6) (hmax:∀ c ∈ t.Columns,c.Max ≤ 8) {r:o8} (h:a3d t r = true) (l:List b1v) (hm:∀ m ∈ l,c4i m = true ∧ c5q t m = 0):∃ r' e,b5u t r l = some (r',e) ∧ (e = 0 → a3d t r' = true ∧ r'.Id = r.Id):=by
 obtain ⟨h1,h2,h3⟩:=b0p.1 h
 unfold b5u
 rw [f3a h h6,Option.bind_some]
 rcases d9y t hmax l r.Cells hm h3 h2 with ⟨e,q,he⟩ | ⟨cs,q,q1,q2⟩
 ·rw [q]; exact ⟨_,e,rfl,fun h => absurd h he⟩
 ·rw [q]; exact ⟨_,0,rfl,fun _ => ⟨b0p.2 ⟨h1,q2,q1⟩,rfl⟩⟩
theorem d4q (t:o6):∀ {xs:List a2c} {cs cs':List (List o5)},d9c t xs cs = .go cs' → a1p (b2p t) cs 0 = true → (∀ x ∈ xs,(b1x t x.Column).isSome = true ∧ b1w x.Value = true) → a1p (b2p t) cs' 0 = true ∧ cs'.length = cs.length
 | [],cs,cs',h,ha,_ => by cases h; exact ⟨ha,rfl⟩
 | x :: xs,cs,cs',h,ha,hx => by
  obtain ⟨k,hk⟩:=Option.isSome_iff_exists.1 (hx x (by simp)).1
  obtain ⟨c,e1,e2⟩:=b5x hk
  rw [d9c,hk] at h
  simp only [e2] at h
  by_cases q:b3c c x.Value = 0
  ·rw [if_pos q] at h
   have:=d4q t h (d1p _ cs k _ ha (b8j.2 ⟨(hx x (by simp)).2,c,e2,q⟩)) (fun y hy => hx y (by simp [hy]))
   exact ⟨this.1,by rw [this.2]; simp⟩
  ·rw [if_neg q] at h; cases h
theorem e9f {t:o6} (h6:t.Columns.length ≤ 6) {r:o8} (h:a3d t r = true) (l:List a2c) (hx:∀ x ∈ l,(b1x t x.Column).isSome = true ∧ b1w x.Value = true):∃ r' e,a9p t r l = some (r',e) ∧ (e = 0 → a3d t r' = true ∧ r'.Id = r.Id):=by
 obtain ⟨h1,h2,h3⟩:=b0p.1 h
 unfold a9p
 rw [f3a h h6,Option.bind_some,c1b t l r.Cells h2 (fun x y => ⟨(hx x y).1,b4y (hx x y).2⟩),Option.bind_some]
 cases q:d9c t l r.Cells with
 | ret v => exact ⟨v.1,v.2,rfl,fun h => absurd h (d9d t q).2⟩
 | go cs => exact ⟨_,0,rfl,fun _ => by
   obtain ⟨q1,q2⟩:=d4q t q h3 hx
   exact ⟨b0p.2 ⟨h1,by rw [q2]; exact h2,q1⟩,rfl⟩⟩
theorem e5q {t:o6} {c:a3p} (h:b9g t c = 0) (hf:3 ≤ c.Func ∧ c.Func ≤ 6):c.Value.length = 1:=by
 unfold b9g at h
 cases hn:c4g t c.Column with
 | none => rw [hn] at h; simp at h
 | some x =>
  rw [hn] at h
  simp only at h
  split at h
  ·cases h
  ·split at h
   ·cases h
   ·rename_i h2
    simp only [hf,decide_true,Bool.true_and,Bool.or_eq_true,not_or,bne_iff_ne,ne_eq,Decidable.not_not,and_self] at h2
    omega
theorem e9g {t:o6} {r:o8} (h:a3d t r = true) {c:a3p} (hc:b7r c = true) (hi:b9g t c = 0):∃ b,b0x t r c = some b:=by
 unfold b7r at hc
 simp only [Bool.and_eq_true,decide_eq_true_eq] at hc
 obtain ⟨⟨⟨f1,f2⟩,hd⟩,_⟩:=hc
 have hv:=b4y hd
 unfold b0x
 rw [d4g (b2q h),Option.bind_some]
 by_cases e1:c.Func = 1
 ·rw [if_pos (by simp [e1]),c2c]; exact ⟨_,rfl⟩
 rw [if_neg (by simpa using e1)]
 by_cases e2:c.Func = 2
 ·rw [if_pos (by simp [e2]),c2c]; exact ⟨_,rfl⟩
 rw [if_neg (by simpa using e2)]
 by_cases e7:c.Func = 7
 ·rw [if_pos (by simp [e7]),d6a _ _ (by omega)]; exact ⟨_,rfl⟩
 rw [if_neg (by simpa using e7)]
 by_cases e8:c.Func = 8
 ·rw [if_pos (by simp [e8]),d6a _ _ (by omega)]; exact ⟨_,rfl⟩
 rw [if_neg (by simpa using e8)]
 have h1:=e5q hi ⟨by omega,by omega⟩
 cases hr:c3b t r c.Column with
 | nil => exact ⟨false,by simp⟩
 | cons x xs =>
  cases hvv:c.Value with
  | nil => rw [hvv] at h1; simp at h1
  | cons y ys =>
   rw [if_neg (by simp; omega),show idx (x :: xs) 0 = some x from rfl,show idx (y :: ys) 0 = some y from rfl,Option.bind_some,Option.bind_some]
   split
   ·exact ⟨_,rfl⟩
   ·split
    ·exact ⟨_,rfl⟩
    ·split <;> exact ⟨_,rfl⟩
def b9d (t:o6) (l:List a3p):Prop:=∀ c ∈ l,b7r c = true ∧ b9g t c = 0
theorem e2n {t:o6} {r:o8} (h:a3d t r = true):∀ {l:List a3p},b9d t l → ∃ b,a8l t r l = some b:=by
 have:∀ l:List a3p,b9d t l → (a9q t r l = some (.go ()) ∨ a9q t r l = some (.ret false)):=by
  intro l
  induction l with
  | nil => intro _; exact .inl (by rw [a9q])
  | cons c l ih =>
   intro hl
   obtain ⟨b,e⟩:=e9g h (hl c (by simp)).1 (hl c (by simp)).2
   rw [a9q,e,Option.bind_some]
   cases b with
   | true => exact ih (fun x hx => hl x (by simp [hx]))
   | false => exact .inr (by simp)
 intro l hl
 unfold a8l
 rcases this l hl with e | e <;> rw [e]
 ·exact ⟨true,rfl⟩
 ·exact ⟨false,rfl⟩
theorem f4s {t:o6} {cs:List a3p} (hc:b9d t cs):∀ (xs:List o8) (out:List Int),(∀ r ∈ xs,a3d t r = true) → out.length + xs.length ≤ 1000 → ∃ q:o8 → Bool,a6i t cs xs out = some (out ++ (xs.filter q).map o8.Id):=by
 intro xs
 have hp:∃ q:o8 → Bool,∀ r,a3d t r = true → a8l t r cs = some (q r):=⟨fun r => (a8l t r cs).getD false,fun r hr => by obtain ⟨b,e⟩:=e2n hr hc; simp [e]⟩
 obtain ⟨q,hq⟩:=hp
 intro out h hl
 refine ⟨q,?_⟩
 induction xs generalizing out with
 | nil => rw [a6i]; simp
 | cons r xs ih =>
  simp only [List.length_cons] at hl
  rw [a6i,hq r (h r (by simp)),Option.bind_some]
  cases e:q r with
  | true => rw [if_pos rfl,if_pos (by simp; omega),ih _ (fun y hy => h y (by simp [hy])) (by simp; omega)]; simp [List.filter_cons,e]
  | false => rw [if_neg (by simp),ih _ (fun y hy => h y (by simp [hy])) (by omega)]; simp [List.filter_cons,e]
theorem f4t (t:Str) (w:a0g) (hl:w.Ids.length = w.Ops.length):∃ n,a5y t w = some (n,w) ∧ (n = 0 ∨ n ∈ w.Ids):=by
 have:∀ (xs:List GOp) (i:Nat),w.Ops.drop i = xs → (∃ n,a3l t w xs i = some (.ret (n,w)) ∧ n ∈ w.Ids) ∨ a3l t w xs i = some (.go ()):=by
  intro xs
  induction xs with
  | nil => intro i _; exact .inr (by rw [a3l])
  | cons x xs ih =>
   intro i hd
   have hi:=a6g hd
   obtain ⟨n,hn⟩:∃ n,w.Ids[i]? = some n:=⟨w.Ids[i]'(by omega),List.getElem?_eq_getElem _⟩
   rw [a3l]
   cases hc:(if (x.Kind == 1) = true then some (x.Name == t) else some false:Option Bool) with
   | none => exfalso; split at hc <;> cases hc
   | some b =>
    rw [Option.bind_some]
    cases b with
    | true => rw [if_pos rfl,a0h,hn,Option.bind_some]; exact .inl ⟨n,rfl,List.mem_of_getElem? hn⟩
    | false => rw [if_neg (by simp)]; exact ih (i + 1) (a2e hd)
 unfold a5y
 rcases this w.Ops 0 rfl with ⟨n,e,hn⟩ | e <;> rw [e]
 ·exact ⟨n,rfl,.inr hn⟩
 ·exact ⟨0,rfl,.inl rfl⟩
def d9z (l:List Int):Prop:=∀ n ∈ l,0 ≤ n ∧ n ≤ 1000000
theorem f1s {n:Int} (h:0 ≤ n ∧ n ≤ 1000000) (h0:n ≠ 0):b0e ⟨4,n,[]⟩ = true:=by
 unfold b0e
 have:1 ≤ n ∧ n ≤ 1000000:=by omega
 simp [this]
theorem d4r (out:List a2c) (w:a0g) (hl:w.Ids.length = w.Ops.length) (hid:d9z w.Ids):∀ (xs:List Str) (d:List o5),a7d 4 d → d.length + xs.length ≤ 100 →
  a1r out xs w.S.Tables w.X.Tables w.X.Next w.Ops w.Ids w.Owned d = some (.ret (out,13,w)) ∨ ∃ d',a1r out xs w.S.Tables w.X.Tables w.X.Next w.Ops w.Ids w.Owned d = some (.go (w.S.Tables,w.X.Tables,w.X.Next,w.Ops,w.Ids,w.Owned,d')) ∧ a7d 4 d' ∧ d'.length ≤ d.length + xs.length
 | [],d,hs,_ => .inr ⟨d,by rw [a1r],hs,by simp⟩
 | x :: xs,d,hs,hn => by
  simp only [List.length_cons] at hn
  obtain ⟨n,e,he⟩:=f4t x w hl
  have ew:(⟨⟨w.S.Tables⟩,⟨w.X.Tables,w.X.Next⟩,w.Ops,w.Ids,w.Owned⟩:a0g) = w:=rfl
  rw [a1r,ew,e,Option.bind_some]
  by_cases h0:n = 0
  ·rw [if_pos (by simp [h0])]; exact .inl rfl
  ·rw [if_neg (by simpa using h0)]
   have hb:0 ≤ n ∧ n ≤ 1000000:=by rcases he with h | h; exact absurd h h0; exact hid n h
   obtain ⟨d',e',h1,h2,h3⟩:=e3l 4 d ⟨4,n,[]⟩ hs (f1s hb h0) rfl (by omega)
   rw [e',Option.bind_some]
   rcases d4r out w hl hid xs d' h1 (by omega) with q | ⟨d2,q,q1,q2⟩
   ·exact .inl q
   ·exact .inr ⟨d2,q,q1,by simp only [List.length_cons]; omega⟩
theorem d4s (w:a0g) (hl:w.Ids.length = w.Ops.length) (hid:d9z w.Ids):∀ (xs out:List a2c),(∀ x ∈ xs,setB x = true) → out.length + xs.length ≤ 1000 →
  (∃ l,a3m xs w.S.Tables w.X.Tables w.X.Next w.Ops w.Ids w.Owned out = some (.ret (l,13,w))) ∨ ∃ l,a3m xs w.S.Tables w.X.Tables w.X.Next w.Ops w.Ids w.Owned out = some (.go (w.S.Tables,w.X.Tables,w.X.Next,w.Ops,w.Ids,w.Owned,out ++ l)) ∧ ∀ y ∈ l,b1w y.Value = true ∧ ∃ x ∈ xs,y.Column = x.Column
 | [],out,_,_ => .inr ⟨[],by rw [a3m,List.append_nil],fun y hy => by simp at hy⟩
 | x :: xs,out,h,hn => by
  simp only [List.length_cons] at hn
  have hx:=h x (by simp)
  unfold setB at hx
  simp only [Bool.and_eq_true,Bool.or_eq_true,decide_eq_true_eq] at hx
  obtain ⟨⟨⟨_,hd⟩,_,hnl⟩,hor⟩:=hx
  have step:(∃ l,a1r out x.Names w.S.Tables w.X.Tables w.X.Next w.Ops w.Ids w.Owned x.Value = some (.ret (l,13,w))) ∨ ∃ d',a1r out x.Names w.S.Tables w.X.Tables w.X.Next w.Ops w.Ids w.Owned x.Value = some (.go (w.S.Tables,w.X.Tables,w.X.Next,w.Ops,w.Ids,w.Owned,d')) ∧ b1w d' = true:=by
   rcases hor with hor | hor
   ·rw [hor]
    exact .inr ⟨x.Value,by rw [a1r],hd⟩
   ·rw [hor]
    rcases d4r out w hl hid x.Names [] ⟨by simp,by simp⟩ (by simp; omega) with q | ⟨d2,q,q1,q2⟩
    ·exact .inl ⟨out,q⟩
    ·exact .inr ⟨d2,q,b8z q1 (by simp at q2; omega)⟩
  rw [a3m]
  rcases step with ⟨l,q⟩ | ⟨d',q,q1⟩
  ·rw [q]; exact .inl ⟨l,rfl⟩
  ·rw [q,Option.bind_some]
   simp only
   rw [if_pos (by simp; omega)]
   rcases d4s w hl hid xs (out ++ [⟨x.Column,d',[]⟩]) (fun y hy => h y (by simp [hy])) (by simp; omega) with ⟨l,z⟩ | ⟨l,z,z1⟩
   ·exact .inl ⟨l,z⟩
   ·refine .inr ⟨⟨x.Column,d',[]⟩ :: l,by rw [z]; simp,fun y hy => ?_⟩
    rcases List.mem_cons.1 hy with rfl | hy
    ·exact ⟨q1,x,by simp,rfl⟩
    ·obtain ⟨k1,x',k2,k3⟩:=z1 y hy
     exact ⟨k1,x',by simp [k2],k3⟩
theorem f4u (w:a0g) (hl:w.Ids.length = w.Ops.length) (hid:d9z w.Ids) (list:List a2c) (h:∀ x ∈ list,setB x = true) (hn:list.length ≤ 100):∃ l e,a5z list w = some (l,e,w) ∧ (e = 0 → ∀ y ∈ l,b1w y.Value = true ∧ ∃ x ∈ list,y.Column = x.Column):=by
 unfold a5z
 rcases d4s w hl hid list [] h (by simp; omega) with ⟨l,z⟩ | ⟨l,z,z1⟩ <;> rw [z]
 ·exact ⟨l,13,rfl,fun h => by omega⟩
 ·exact ⟨[] ++ l,0,rfl,fun _ => by simpa using z1⟩
def f4v (s:o7) (o:GOp):Prop:=6 < o.Kind ∨ ∃ k t,b4d s o.Table = some k ∧ s.Tables[k]? = some t ∧ a6y (d1o t) o.Columns = 0 ∧ b9d t o.Where ∧ (∀ x ∈ o.Row,(b1x t x.Column).isSome = true) ∧ ∀ m ∈ o.Muts,c4i m = true ∧ c5q t m = 0
theorem f1t (s:o7) (o:GOp) (ho:opB o = true):∃ e,b4n s o = some e ∧ (e = 0 → f4v s o):=by
 have ho':=ho
 simp only [opB,Bool.and_eq_true,decide_eq_true_eq,List.all_eq_true] at ho'
 obtain ⟨⟨⟨_,hcond,_⟩,hmut,_⟩,hset,hrow⟩:=ho'
 unfold b4n
 simp only [b8x,Option.bind_some,b8g,b7o]
 by_cases hk:o.Kind > 6
 ·rw [if_pos (by simpa using hk)]
  split
  ·cases a7q o.Name
   ·exact ⟨3,rfl,fun h => by omega⟩
   ·exact ⟨0,rfl,fun _ => .inl hk⟩
  ·exact ⟨0,rfl,fun _ => .inl hk⟩
 ·rw [if_neg (by simpa using hk)]
  cases ht:b4d s o.Table with
  | none => exact ⟨10,rfl,fun h => by omega⟩
  | some k =>
   obtain ⟨t,e1,e2⟩:=e8e ht
   simp only [Option.isNone_some,Bool.false_eq_true,if_false,atI,e1,Option.bind_some,c5t,e2c,e5i t o.Row (by omega),e2d]
   cases hc:((if (bif (o.Kind == 1) then (!(o.Name == [])) else false) = true then some (!a7q o.Name) else some false:Option Bool)) with
   | none => exfalso; split at hc <;> cases hc
   | some b =>
    rw [Option.bind_some]
    cases b with
    | true => exact ⟨3,rfl,fun h => by omega⟩
    | false =>
     simp only [Bool.false_eq_true,if_false]
     by_cases h1:a6y (d1o t) o.Columns = 0
     ·rw [if_pos h1]
      simp only
      by_cases h2:a6y (b9g t) o.Where = 0
      ·rw [if_neg (by simpa using h2)]
       by_cases h3:c0y t o.Row o.Row 0 = 0
       ·rw [if_neg (by simpa using h3)]
        refine ⟨_,rfl,fun h4 => .inr ⟨k,t,ht,?_,h1,fun c hc => ⟨hcond c hc,c4h h2 c hc⟩,d4i t o.Row h3,fun m hm => ⟨hmut m hm,c4h h4 m hm⟩⟩⟩
        rw [a0h] at e1; exact e1
       ·rw [if_pos (by simpa using h3)]; exact ⟨_,rfl,fun h => absurd h h3⟩
      ·rw [if_pos (by simpa using h2)]; exact ⟨_,rfl,fun h => absurd h h2⟩
     ·rw [if_neg h1]; exact ⟨11,rfl,fun h => by omega⟩
def mkW (s:o7) (nx:Int) (ops:List GOp) (ids:List Int) (ow:List Str) (T:List (List o8)):a0g:=⟨s,⟨T,nx⟩,ops,ids,ow⟩
def e3q (s:o7) (S:Nat → Int → Prop) (ops:List GOp) (ids:List Int):Prop:=ids.length = ops.length ∧ d9z ids ∧ ∀ (k:Nat) (o:GOp) (t:Nat) (n:Int),ops[k]? = some o → o.Kind = 1 → b4d s o.Table = some t → ids[k]? = some n → 1 ≤ n ∧ S t n
theorem f1u {A B:List o8} {r r':o8} {id:Int} (h:r'.Id = r.Id) (hh:a4v (A ++ r :: B) id = true):a4v (A ++ r' :: B) id = true:=by
 unfold a4v at *
 simpa [List.any_append,h] using hh
theorem StQ.put {s:o7} {S:Nat → Int → Prop} {T:List (List o8)} {t:Nat} {l:List o8} {r:o8} (h:StQ s (PrS s S) T) (hl:T[t]? = some l) (hr:PrS s S t r) (h12:l.length < 12 ∨ a4v l r.Id = true):StQ s (PrS s S) (T.set t (c2i l r)):=by
 obtain ⟨g1,g2,g3⟩:=h.tab t l hl
 refine h.set hl (f1h r g1 (by omega)) ?_ (fun x hx => by rcases put_mem hx with rfl | hx; exact hr; exact g3 x hx)
 rcases h12 with h12 | hh
 ·have:=f1i l r; omega
 ·rcases b6r r.Id l g1 with ⟨_,A,q,B,rfl,hq,hA,hB⟩ | ⟨hn,_⟩
  ·rw [c2d hA hq]
   simpa using g2
  ·rw [hh] at hn; cases hn
theorem f1v (x:x9) (t:Nat) (l:List o8) (id:Int) (hx:smS x) (ht:x.Tables[t]? = some l) (hs:a6o l = true) (hh:a4v l id = true):b4q x (t:Int) (atI (l.findIdx? (fun r => r.Id == id))) = some ⟨x.Tables.set t (d4m l id),x.Next⟩:=by
 have hl:=(hx.2 l (List.mem_of_getElem? ht)).1
 have h0:=hx.1
 have htl:=(List.getElem?_eq_some_iff.1 ht).1
 unfold b4q
 rw [c6c x hx,Option.bind_some,a0h,ht,Option.bind_some]
 rcases b6r id l hs with ⟨_,A,q,B,rfl,hq,hA,hB⟩ | ⟨h,_⟩
 ·have ea:atI (some A.length) = (A.length:Int):=rfl
  simp only [List.length_append,List.length_cons] at hl
  rw [c3l hA hq,e2i hA hq hB,ea,if_pos ⟨⟨by omega,by simp; omega⟩,by simp; omega,by omega⟩]
  simp
 ·rw [hh] at h; cases h
theorem e9h {s:o7} (hs:a7v s = true) {S:Nat → Int → Prop} {t:Nat} {r:o8} (h:PrS s S t r):smR r:=by
 obtain ⟨tb,h1,h2,-⟩:=h
 have h6:=b3a hs (List.mem_of_getElem? h1)
 exact ⟨by rw [b2q h2]; omega,fun d hd => by have:=b4y (b7q h2 hd); omega⟩
theorem e9i (c:y7):b0u c = some (c0z c):=by
 unfold b0u c0z
 by_cases h:c.Min = 0
 ·simp [h]
 ·by_cases k:c.Kind = 1 <;> simp [h,k]
theorem e9j (t:o6) (h:t.Columns.length ≤ 6) (id:Int):b3k t id = some ⟨id,t.Columns.map c0z⟩:=by
 have:∀ (cs:List y7) (out:List (List o5)),out.length + cs.length ≤ 1000 → a9o cs out = some (out ++ cs.map c0z):=by
  intro cs
  induction cs with
  | nil => intro out _; rw [a9o]; simp
  | cons c cs ih =>
   intro out h
   simp only [List.length_cons] at h
   rw [a9o,e9i,Option.bind_some,if_pos (by simp <;> omega),ih _ (by simp <;> omega)]
   simp
 unfold b3k
 rw [this _ _ (by simp; omega)]
 simp
section
variable {s:o7} {S:Nat → Int → Prop} {nx:Int} {ops:List GOp} {ids:List Int} {ow:List Str}
theorem e0a (i:Nat) (o:GOp) (w:a0g) (hi:i < w.Ops.length) (hb:w.Ops.length ≤ 1000):∀ (n k fuel:Nat),n + k = i → n < fuel → (∃ r,a4z (i:Int) o w fuel (k:Int) = some (.ret (r,w))) ∨ a4z (i:Int) o w fuel (k:Int) = some (.go ())
 | n,k,0,_,h => by omega
 | n,k,fuel + 1,hn,hf => by
  rw [a4z]
  cases n with
  | zero => exact .inr (by rw [if_neg (by simp; omega)]; simp)
  | succ n =>
   obtain ⟨p,hp⟩:∃ p,w.Ops[k]? = some p:=⟨w.Ops[k]'(by omega),List.getElem?_eq_getElem _⟩
   rw [if_pos (by simp; omega),Option.bind_some]
   have ew:w64 ((k:Int) + 1) = ((k + 1:Nat):Int):=by rw [a0w (by omega)]; omega
   cases hnm:(!(o.Name == [])) with
   | false => exact .inr (by simp)
   | true =>
    simp only [if_true,a0h,hp,Option.bind_some]
    cases hc:(if (p.Kind == 1) = true then some (p.Name == o.Name) else some false:Option Bool) with
    | none => exfalso; split at hc <;> cases hc
    | some b =>
     rw [Option.bind_some]
     cases b with
     | true => exact .inl ⟨_,by rw [if_pos rfl]⟩
     | false =>
      rw [if_neg (by simp),ew]
      exact e0a i o w hi hb n (k + 1) fuel (by omega) (by omega)
theorem e9k (hs:a7v s = true) (hfr:∀ t ∈ s.Tables,a1p (b2p t) (t.Columns.map c0z) 0 = true) {T:List (List o8)} (hT:StQ s (PrS s S) T) (hN:e3q s S ops ids) (hlen:ops.length ≤ 1000) {i t:Nat} {o:GOp} {tb:o6} (ho:ops[i]? = some o) (hk:o.Kind = 1) (htab:b4d s o.Table = some t) (htb:s.Tables[t]? = some tb) (list:List a2c) (hx:∀ x ∈ list,(b1x tb x.Column).isSome = true ∧ b1w x.Value = true) :
  ∃ r T',a6r (i:Int) (t:Int) list (mkW s nx ops ids ow T) = some (r,mkW s nx ops ids ow T') ∧ StQ s (PrS s S) T':=by
 have hi:=(List.getElem?_eq_some_iff.1 ho).1
 have htl:=(List.getElem?_eq_some_iff.1 htb).1
 have h6:=b3a hs (List.mem_of_getElem? htb)
 obtain ⟨l,hl⟩:∃ l,T[t]? = some l:=⟨T[t]'(by rw [hT.len]; exact htl),List.getElem?_eq_getElem _⟩
 obtain ⟨n,hn⟩:∃ n,ids[i]? = some n:=⟨ids[i]'(by rw [hN.1]; exact hi),List.getElem?_eq_getElem _⟩
 obtain ⟨n1,n2⟩:=hN.2.2 i o t n ho hk htab hn
 have n3:=hN.2.1 n (List.mem_of_getElem? hn)
 obtain ⟨g1,g2,g3⟩:=hT.tab t l hl
 have hf:=b3f
 unfold a6r
 have eo:(mkW s nx ops ids ow T).Ops = ops:=rfl
 have ei:(mkW s nx ops ids ow T).Ids = ids:=rfl
 have es:(mkW s nx ops ids ow T).S = s:=rfl
 have ex:(mkW s nx ops ids ow T).X = ⟨T,nx⟩:=rfl
 rw [eo,a0h,ho,Option.bind_some]
 rcases e0a i o (mkW s nx ops ids ow T) hi hlen i 0 FUEL rfl (by omega) with ⟨r,e⟩ | e
 ·rw [show ((0:Nat):Int) = 0 from rfl] at e
  rw [e]; exact ⟨r,T,rfl,hT⟩
 ·rw [show ((0:Nat):Int) = 0 from rfl] at e
  rw [e,Option.bind_some]
  simp only [ex,es,ei,a0h,hl,htb,hn,Option.bind_some]
  by_cases h12:l.length = 12
  ·rw [if_pos (by simp [h12])]; exact ⟨_,T,rfl,hT⟩
  ·rw [if_neg (by simp; omega),e9j tb h6,Option.bind_some]
   have hrow:a3d tb ⟨n,tb.Columns.map c0z⟩ = true:=b0p.2 ⟨⟨n1,n3.2⟩,by simp,hfr tb (List.mem_of_getElem? htb)⟩
   obtain ⟨r',e',q,q2⟩:=e9f h6 hrow list hx
   rw [q,Option.bind_some,Option.bind_some]
   simp only
   by_cases h0:e' = 0
   ·obtain ⟨k1,k2⟩:=q2 h0
    have hp:PrS s S t r':=⟨tb,htb,k1,by rw [k2]; exact n2⟩
    rw [if_neg (by simpa using h0),show (⟨r'.Id,r'.Cells⟩:o8) = r' from rfl,d9k ⟨T,nx⟩ t l r' (b9c (hT.form (c7n hs S)) hs) hl g1 (e9h hs hp),Option.bind_some]
    exact ⟨_,_,rfl,hT.put hl hp (.inl (by omega))⟩
   ·rw [if_pos (by simpa using h0)]; exact ⟨_,T,rfl,hT⟩
theorem d2h (hs:a7v s = true) (hmax:∀ t ∈ s.Tables,∀ c ∈ t.Columns,c.Max ≤ 8) {T0:List (List o8)} {t:Nat} {tb:o6} (htb:s.Tables[t]? = some tb) (o:GOp) (hm:∀ m ∈ o.Muts,c4i m = true ∧ c5q tb m = 0) (list:List a2c) (hx:∀ x ∈ list,(b1x tb x.Column).isSome = true ∧ b1w x.Value = true) (rl:List Int):∀ (xs:List Int) (i:Nat) (T:List (List o8)),StQ s (PrS s S) T → (∀ l,T[t]? = some l → ∀ id ∈ xs,a4v l id = true) → xs.Pairwise (· < ·) → i + xs.length = rl.length →
  (∃ r T',a2j (t:Int) rl o (mkW s nx ops ids ow T0) list xs i T nx = some (.ret (r,mkW s nx ops ids ow T')) ∧ StQ s (PrS s S) T') ∨ ∃ T',a2j (t:Int) rl o (mkW s nx ops ids ow T0) list xs i T nx = some (.go (T',nx)) ∧ StQ s (PrS s S) T'
 | [],i,T,hT,_,_,_ => .inr ⟨T,by rw [a2j],hT⟩
 | id :: xs,i,T,hT,hh,hp,hi => by
  simp only [List.length_cons] at hi
  obtain ⟨p1,p2⟩:=List.pairwise_cons.1 hp
  have htl:=(List.getElem?_eq_some_iff.1 htb).1
  have h6:=b3a hs (List.mem_of_getElem? htb)
  obtain ⟨l,hl⟩:∃ l,T[t]? = some l:=⟨T[t]'(by rw [hT.len]; exact htl),List.getElem?_eq_getElem _⟩
  obtain ⟨g1,g2,g3⟩:=hT.tab t l hl
  have hid:=hh l hl id (by simp)
  have hsm:=b9c (n:=nx) (hT.form (c7n hs S)) hs
  have hTl:t < T.length:=by rw [hT.len]; exact htl
  rw [a2j,a0h,hl,Option.bind_some,if_pos (by omega),b9a,Option.bind_some]
  have es:(mkW s nx ops ids ow T0).S = s:=rfl
  by_cases h5:o.Kind = 5
  ·rw [if_pos (by simp [h5]),f1v ⟨T,nx⟩ t l id hsm hl g1 hid,Option.bind_some]
   refine d2h hs hmax htb o hm list hx rl xs (i + 1) _ (hT.set hl (e8r id g1) (Nat.le_trans (e8t l id) g2) (fun r hr => g3 r (e8s hr))) (fun l' hl' id' hid' => ?_) p2 (by omega)
   rw [List.getElem?_set_self hTl] at hl'
   cases hl'
   have h1:=hh l hl id' (by simp [hid'])
   have h2:=p1 id' hid'
   unfold a4v at h1 ⊢
   obtain ⟨r,r1,r2⟩:=List.any_eq_true.1 h1
   refine List.any_eq_true.2 ⟨r,List.mem_filter.2 ⟨r1,?_⟩,r2⟩
   simp at r2 ⊢
   omega
  ·rw [if_neg (by simpa using h5)]
   rcases b6r id l g1 with ⟨_,A,r,B,rfl,hr,hA,hB⟩ | ⟨hn,_⟩
   ·rw [c3l hA hr]
    have ea:atI (some A.length) = (A.length:Int):=rfl
    have er:(A ++ r :: B)[A.length]? = some r:=by simp
    obtain ⟨tb',q1,q2,q3⟩:=g3 r (by simp)
    rw [htb] at q1; cases q1
    obtain ⟨r1,e1,z1,z2⟩:=e9f h6 q2 list hx
    obtain ⟨r2,e2,y1,y2⟩:=f4r h6 (hmax tb (List.mem_of_getElem? htb)) q2 o.Muts hm
    simp only [ea,es,a0h,htb,hl,er,Option.bind_some,z1,y1]
    have fin:∀ (e:Int) (r':o8),(e = 0 → a3d tb r' = true ∧ r'.Id = r.Id) → ∀ K:Option (Fl (a1l × a0g) ((List (List o8)) × Int)),(K = if (e != 0) = true then some (.ret ((⟨e,0,0,[],[]⟩:a1l),(⟨s,(⟨T,nx⟩:x9),ops,ids,ow⟩:a0g))) else (b2g (⟨T,nx⟩:x9) (t:Int) (⟨r'.Id,r'.Cells⟩:o8)).bind fun r_252 => a2j (t:Int) rl o (mkW s nx ops ids ow T0) list xs (i + 1) r_252.Tables r_252.Next) →
      (∃ r T',K = some (.ret (r,mkW s nx ops ids ow T')) ∧ StQ s (PrS s S) T') ∨ ∃ T',K = some (.go (T',nx)) ∧ StQ s (PrS s S) T':=by
     intro e r' he K hK
     subst hK
     by_cases h0:e = 0
     ·obtain ⟨k1,k2⟩:=he h0
      have hp':PrS s S t r':=⟨tb,htb,k1,by rw [k2]; exact q3⟩
      rw [if_neg (by simpa using h0),show (⟨r'.Id,r'.Cells⟩:o8) = r' from rfl,d9k ⟨T,nx⟩ t _ r' hsm hl g1 (e9h hs hp'),Option.bind_some]
      refine d2h hs hmax htb o hm list hx rl xs (i + 1) _ (hT.put hl hp' (.inr ?_)) (fun l' hl' id' hid' => ?_) p2 (by omega)
      ·rw [k2,hr]; exact hid
      ·rw [List.getElem?_set_self hTl] at hl'
       cases hl'
       have hA':∀ x ∈ A,x.Id < r'.Id:=by rw [k2,hr]; exact hA
       rw [c2d hA' k2.symm]
       exact f1u k2 (hh _ hl id' (by simp [hid']))
     ·rw [if_pos (by simpa using h0)]
      exact .inl ⟨_,T,rfl,hT⟩
    by_cases h4:o.Kind = 4
    ·refine fin e2 r2 y2 _ ?_
     rw [if_pos (by simp [h4])]; rfl
    ·refine fin e1 r1 z2 _ ?_
     rw [if_neg (by simpa using h4)]; rfl
   ·rw [hid] at hn; cases hn
theorem e9l (hs:a7v s = true) (hmax:∀ t ∈ s.Tables,∀ c ∈ t.Columns,c.Max ≤ 8) {T:List (List o8)} (hT:StQ s (PrS s S) T) {t:Nat} {tb:o6} (htb:s.Tables[t]? = some tb) (o:GOp) (hc:b9d tb o.Where) (hm:∀ m ∈ o.Muts,c4i m = true ∧ c5q tb m = 0) (list:List a2c) (hx:∀ x ∈ list,(b1x tb x.Column).isSome = true ∧ b1w x.Value = true) :
  ∃ r T',a6s o (t:Int) list (mkW s nx ops ids ow T) = some (r,mkW s nx ops ids ow T') ∧ StQ s (PrS s S) T':=by
 have htl:=(List.getElem?_eq_some_iff.1 htb).1
 obtain ⟨l,hl⟩:∃ l,T[t]? = some l:=⟨T[t]'(by rw [hT.len]; exact htl),List.getElem?_eq_getElem _⟩
 obtain ⟨g1,g2,g3⟩:=hT.tab t l hl
 have hrow:∀ r ∈ l,a3d tb r = true:=fun r hr => by obtain ⟨tb',q1,q2,q3⟩:=g3 r hr; rw [htb] at q1; cases q1; exact q2
 obtain ⟨q,e⟩:=f4s hc l [] hrow (by simp; omega)
 rw [List.nil_append] at e
 unfold a6s b4p
 have es:(mkW s nx ops ids ow T).S = s:=rfl
 have ex:(mkW s nx ops ids ow T).X = ⟨T,nx⟩:=rfl
 simp only [es,ex,a0h,htb,hl,Option.bind_some,e]
 have hhas:∀ l',T[t]? = some l' → ∀ id ∈ (l.filter q).map o8.Id,a4v l' id = true:=by
  intro l' hl' id hid
  rw [hl] at hl'; cases hl'
  obtain ⟨r,r1,r2⟩:=List.mem_map.1 hid
  exact List.any_eq_true.2 ⟨r,(List.mem_filter.1 r1).1,by simp [r2]⟩
 rcases d2h (nx:=nx) (ops:=ops) (ids:=ids) (ow:=ow) (T0:=T) hs hmax htb o hm list hx ((l.filter q).map o8.Id) ((l.filter q).map o8.Id) 0 T hT hhas (List.pairwise_map.2 ((c2b g1).filter _)) (by simp) with ⟨r,T',z,z1⟩ | ⟨T',z,z1⟩
 ·rw [z]; exact ⟨r,T',rfl,z1⟩
 ·rw [z]; exact ⟨_,T',rfl,z1⟩
end
theorem f6y:2 ^ 40 < FUEL:=b3f
section
variable {s:o7} {S:Nat → Int → Prop} {nx:Int} {ops:List GOp} {ids:List Int} {ow:List Str}
theorem e9m {w:a0g} {t:Nat} {tb:o6} {l:List o8} (htb:w.S.Tables[t]? = some tb) (hl:w.X.Tables[t]? = some l) (h6:tb.Columns.length ≤ 6) (h12:l.length ≤ 12) (hrow:∀ r ∈ l,a3d tb r = true) {o:GOp} (hc:b9d tb o.Where) (hcol:o.Columns.length ≤ 6):∃ r,a4l o (t:Int) w = some (r,w):=by
 have hf:=f6y
 have c1:∀ (n i fuel:Nat) (out:List Str),n + i = tb.Columns.length → n < fuel → out.length + n ≤ 1000 → ∃ q,a2u w (t:Int) fuel (i:Int) out = some q ∧ q.length ≤ out.length + n:=by
  intro n
  induction n with
  | zero =>
   intro i fuel out hn hfu _
   obtain ⟨k,rfl⟩:∃ k,fuel = k + 1:=⟨fuel - 1,by omega⟩
   rw [a2u,a0h,htb,Option.bind_some,if_neg (by simp; omega)]
   exact ⟨out,rfl,by omega⟩
  | succ n ih =>
   intro i fuel out hn hfu ho
   obtain ⟨k,rfl⟩:∃ k,fuel = k + 1:=⟨fuel - 1,by omega⟩
   obtain ⟨c,hcc⟩:∃ c,tb.Columns[i]? = some c:=⟨tb.Columns[i]'(by omega),List.getElem?_eq_getElem _⟩
   have ew:w64 ((i:Int) + 1) = ((i + 1:Nat):Int):=by rw [a0w (by omega)]; omega
   rw [a2u,a0h,htb,Option.bind_some,if_pos (by simp; omega),Option.bind_some,a0h,hcc,Option.bind_some,if_pos (by simp; omega),ew]
   obtain ⟨q,q1,q2⟩:=ih (i + 1) k (out ++ [c.Name]) (by omega) (by omega) (by simp; omega)
   exact ⟨q,q1,by simp at q2; omega⟩
 have c2:∀ (cols:List Str),cols.length ≤ 4096 → ∀ (n i fuel:Nat) (out:List o8),n + i = l.length → n < fuel → out.length + n ≤ 1000 → ∃ q,a2v w (t:Int) o cols fuel (i:Int) out = some q:=by
  intro cols hcl n
  induction n with
  | zero =>
   intro i fuel out hn hfu _
   obtain ⟨k,rfl⟩:∃ k,fuel = k + 1:=⟨fuel - 1,by omega⟩
   rw [a2v,a0h,hl,Option.bind_some,if_neg (by simp; omega)]
   exact ⟨out,rfl⟩
  | succ n ih =>
   intro i fuel out hn hfu ho
   obtain ⟨k,rfl⟩:∃ k,fuel = k + 1:=⟨fuel - 1,by omega⟩
   obtain ⟨r,hr⟩:∃ r,l[i]? = some r:=⟨l[i]'(by omega),List.getElem?_eq_getElem _⟩
   have ew:w64 ((i:Int) + 1) = ((i + 1:Nat):Int):=by rw [a0w (by omega)]; omega
   have hrr:=hrow r (List.mem_of_getElem? hr)
   obtain ⟨b,hb⟩:=e2n hrr hc
   rw [a2v,a0h,hl,Option.bind_some,if_pos (by simp; omega),Option.bind_some,a0h,hr,Option.bind_some,a0h,htb,Option.bind_some,hb,Option.bind_some,ew]
   cases b with
   | true =>
    rw [if_pos rfl,Option.bind_some,e5d hrr cols hcl,Option.bind_some,if_pos (by simp; omega)]
    exact ih (i + 1) k _ (by omega) (by omega) (by simp; omega)
   | false => rw [if_neg (by simp)]; exact ih (i + 1) k _ (by omega) (by omega) (by omega)
 have e0:((0:Nat):Int) = 0:=rfl
 unfold a4l
 rw [List.nil_append,if_pos (by omega)]
 obtain ⟨q,q1,q2⟩:∃ q,(if ((o.Columns.length:Int) == 0) = true then a2u w (t:Int) FUEL 0 o.Columns else some o.Columns:Option (List Str)) = some q ∧ q.length ≤ 4096:=by
  split
  ·obtain ⟨q,q1,q2⟩:=c1 tb.Columns.length 0 FUEL o.Columns (by omega) (by omega) (by omega)
   exact ⟨q,q1,by omega⟩
  ·exact ⟨_,rfl,by omega⟩
 rw [q1,Option.bind_some]
 obtain ⟨z,z1⟩:=c2 q q2 l.length 0 FUEL [] (by omega) (by omega) (by simp; omega)
 rw [e0] at z1
 rw [z1]
 exact ⟨_,rfl⟩
theorem f4w {w:a0g} {t:Nat} {tb:o6} {l:List o8} (htb:w.S.Tables[t]? = some tb) (hl:w.X.Tables[t]? = some l) (h12:l.length ≤ 12) (hrow:∀ r ∈ l,a3d tb r = true) {o:GOp} (hc:b9d tb o.Where) {list:List a2c} (hx:∀ x ∈ list,(b1x tb x.Column).isSome = true):∃ r,a8m o (t:Int) list w = some (r,w):=by
 have hf:=b3f
 have c2:∀ r,a3d tb r = true → ∀ (xs:List a2c) (b:Bool),(∀ x ∈ xs,(b1x tb x.Column).isSome = true) → ∃ b',a2h w (t:Int) r xs b = some b':=by
  intro r hr xs
  induction xs with
  | nil => intro b _; exact ⟨b,by rw [a2h]⟩
  | cons x xs ih =>
   intro b h
   obtain ⟨k,hk⟩:=Option.isSome_iff_exists.1 (h x (by simp))
   have hcl:a2g tb x.Column = some (k:Int):=by rw [b0l,hk]; rfl
   rw [a2h]
   cases b with
   | true =>
    rw [if_pos rfl,a0h,htb,Option.bind_some,hcl,Option.bind_some,(c4f (b2q hr) hk).1,Option.bind_some,c2c,Option.bind_some]
    exact ih _ (fun y hy => h y (by simp [hy]))
   | false => rw [if_neg (by simp)]; exact ih _ (fun y hy => h y (by simp [hy]))
 have c1:∀ (n i fuel:Nat) (c:Int) (b:Bool),n + i = l.length → n < fuel → ∃ q,a2i w (t:Int) o list fuel c b (i:Int) = some q:=by
  intro n
  induction n with
  | zero =>
   intro i fuel c b hn hfu
   obtain ⟨k,rfl⟩:∃ k,fuel = k + 1:=⟨fuel - 1,by omega⟩
   rw [a2i,a0h,hl,Option.bind_some,if_neg (by simp; omega)]
   exact ⟨_,rfl⟩
  | succ n ih =>
   intro i fuel c b hn hfu
   obtain ⟨k,rfl⟩:∃ k,fuel = k + 1:=⟨fuel - 1,by omega⟩
   obtain ⟨r,hr⟩:∃ r,l[i]? = some r:=⟨l[i]'(by omega),List.getElem?_eq_getElem _⟩
   have ew:w64 ((i:Int) + 1) = ((i + 1:Nat):Int):=by rw [a0w (by omega)]; omega
   have hrr:=hrow r (List.mem_of_getElem? hr)
   obtain ⟨b2,hb⟩:=e2n hrr hc
   rw [a2i,a0h,hl,Option.bind_some,if_pos (by simp; omega),Option.bind_some,a0h,hr,Option.bind_some,a0h,htb,Option.bind_some,hb,Option.bind_some,ew]
   cases b2 with
   | true =>
    rw [if_neg (by simp)]
    obtain ⟨b3,e3⟩:=c2 r hrr list b hx
    rw [e3,Option.bind_some]
    exact ih (i + 1) k _ _ (by omega) (by omega)
   | false => rw [if_pos (by simp)]; exact ih (i + 1) k _ _ (by omega) (by omega)
 obtain ⟨⟨c,b⟩,q⟩:=c1 l.length 0 FUEL 0 true (by omega) (by omega)
 rw [show ((0:Nat):Int) = 0 from rfl] at q
 unfold a8m
 rw [q,Option.bind_some]
 simp only
 split
 ·rw [Option.bind_some]; split <;> exact ⟨_,rfl⟩
 ·rw [Option.bind_some]; split <;> exact ⟨_,rfl⟩
structure e3r (s:o7):Prop where
 ok:a7v s = true
 max:∀ t ∈ s.Tables,∀ c ∈ t.Columns,c.Max ≤ 8
 fresh:∀ t ∈ s.Tables,a1p (b2p t) (t.Columns.map c0z) 0 = true
theorem g0t (hs:e3r s) {T:List (List o8)} (hT:StQ s (PrS s S) T) (hN:e3q s S ops ids) (hlen:ops.length ≤ 1000) (hops:∀ o ∈ ops,opB o = true) {i:Nat} (hi:i < ops.length) :
  ∃ r T',a7j (i:Int) (mkW s nx ops ids ow T) = some (r,mkW s nx ops ids ow T') ∧ StQ s (PrS s S) T':=by
 obtain ⟨o,ho⟩:∃ o,ops[i]? = some o:=⟨ops[i],List.getElem?_eq_getElem hi⟩
 have hob:=hops o (List.mem_of_getElem? ho)
 obtain ⟨e,e1,e2⟩:=f1t s o hob
 have es:(mkW s nx ops ids ow T).S = s:=rfl
 have eo:(mkW s nx ops ids ow T).Ops = ops:=rfl
 have ew:(mkW s nx ops ids ow T).Owned = ow:=rfl
 unfold a7j
 rw [eo,a0h,ho,Option.bind_some,es,e1,Option.bind_some]
 by_cases h0:e = 0
 ·rw [if_neg (by simpa using h0)]
  have hcode:=e2 h0
  cases hc:(if (o.Kind == 7) = true then some true else some (o.Kind == 9):Option Bool) with
  | none => exfalso; split at hc <;> cases hc
  | some b =>
   rw [Option.bind_some]
   cases b with
   | true => exact ⟨_,T,rfl,hT⟩
   | false =>
    rw [if_neg (by simp)]
    by_cases h8:o.Kind = 8
    ·rw [if_pos (by simp [h8])]; exact ⟨_,T,rfl,hT⟩
    rw [if_neg (by simpa using h8)]
    by_cases h10:o.Kind = 10
    ·rw [if_pos (by simp [h10])]
     have:∀ xs:List Str,(∃ r,a4b o (mkW s nx ops ids ow T) xs = some (.ret (r,mkW s nx ops ids ow T))) ∨ a4b o (mkW s nx ops ids ow T) xs = some (.go ()):=by
      intro xs
      induction xs with
      | nil => exact .inr (by rw [a4b])
      | cons x xs ih =>
       rw [a4b]
       split
       ·exact .inl ⟨_,rfl⟩
       ·exact ih
     rw [ew]
     rcases this ow with ⟨r,z⟩ | z <;> rw [z] <;> exact ⟨_,T,rfl,hT⟩
    rw [if_neg (by simpa using h10)]
    have hob':=hob
    simp only [opB,c4j,Bool.and_eq_true,decide_eq_true_eq,List.all_eq_true] at hob'
    have hkk:o.Kind ≠ 7 ∧ o.Kind ≠ 9:=by
     by_cases h7:o.Kind = 7
     ·rw [if_pos (by simp [h7])] at hc; cases hc
     ·rw [if_neg (by simpa using h7)] at hc
      exact ⟨h7,by simpa using hc⟩
    rcases hcode with hk | ⟨t,tb,k1,k2,k3,k4,k5,k6⟩
    ·have:=hob'.1.1.1.1.1.1.1.1.1.1.1.1.1
     omega
    have htl:=(List.getElem?_eq_some_iff.1 k2).1
    have h6:=b3a hs.ok (List.mem_of_getElem? k2)
    obtain ⟨l,hl⟩:∃ l,T[t]? = some l:=⟨T[t]'(by rw [hT.len]; exact htl),List.getElem?_eq_getElem _⟩
    obtain ⟨g1,g2,g3⟩:=hT.tab t l hl
    have hrow:∀ r ∈ l,a3d tb r = true:=fun r hr => by obtain ⟨tb',q1,q2,q3⟩:=g3 r hr; rw [k2] at q1; cases q1; exact q2
    obtain ⟨list,e',z,z2⟩:=f4u (mkW s nx ops ids ow T) hN.1 hN.2.1 o.Row hob'.2.1 (by omega)
    have ea:atI (some t) = (t:Int):=rfl
    rw [b8g,k1,ea,Option.bind_some,z,Option.bind_some]
    by_cases h0':e' = 0
    ·simp only [h0',bne_self_eq_false,Bool.false_eq_true,if_false]
     have hx:∀ x ∈ list,(b1x tb x.Column).isSome = true ∧ b1w x.Value = true:=fun x hx => by
      obtain ⟨q1,y,q2,q3⟩:=z2 h0' x hx
      exact ⟨by rw [q3]; exact k5 y q2,q1⟩
     by_cases h1:o.Kind = 1
     ·rw [if_pos (by simp [h1])]
      obtain ⟨r,T',y1,y2⟩:=e9k (nx:=nx) (ow:=ow) hs.ok hs.fresh hT hN hlen ho h1 k1 k2 list hx
      rw [y1]; exact ⟨r,T',rfl,y2⟩
     rw [if_neg (by simpa using h1)]
     by_cases h2:o.Kind = 2
     ·rw [if_pos (by simp [h2])]
      obtain ⟨r,y1⟩:=e9m (w:=mkW s nx ops ids ow T) k2 hl h6 g2 hrow k4 (by omega)
      rw [y1]; exact ⟨r,T,rfl,hT⟩
     rw [if_neg (by simpa using h2)]
     by_cases h6':o.Kind = 6
     ·rw [if_pos (by simp [h6'])]
      obtain ⟨r,y1⟩:=f4w (w:=mkW s nx ops ids ow T) k2 hl g2 hrow k4 (fun x h => (hx x h).1)
      rw [y1]; exact ⟨r,T,rfl,hT⟩
     rw [if_neg (by simpa using h6')]
     obtain ⟨r,T',y1,y2⟩:=e9l (nx:=nx) (ops:=ops) (ids:=ids) (ow:=ow) hs.ok hs.max hT k2 o k4 k6 list hx
     rw [y1]; exact ⟨r,T',rfl,y2⟩
    ·rw [if_pos (by simpa using h0')]; exact ⟨_,T,rfl,hT⟩
 ·rw [if_pos (by simpa using h0)]; exact ⟨_,T,rfl,hT⟩
theorem StQ.P (hs:a7v s = true) {x:x9} (h:StQ s (PrS s S) x.Tables):c7k s x:=by
 have tab:∀ t ∈ s.Tables,b8y t = true:=fun t ht => b7e hs ht
 refine ⟨h.len,fun l hl => ?_,?_,fun t ht => b3a hs ht,fun t ht => ?_,fun q t rows ht hr r hm => ?_⟩
 ·obtain ⟨q,hq⟩:=List.mem_iff_getElem?.1 hl
  exact ⟨(h.tab q l hq).1,(h.tab q l hq).2.1⟩
 ·unfold a7v at hs
  simp only [Bool.and_eq_true] at hs
  intro t ht c hc
  exact List.all_eq_true.1 (List.all_eq_true.1 hs.2 t ht) c hc
 ·have:=tab t ht
  unfold b8y at this
  simp only [Bool.and_eq_true,decide_eq_true_eq] at this
  have hu:=c9k t this.2
  refine ⟨by omega,fun k hk => ?_⟩
  obtain ⟨q,hq⟩:=c0r this.2 hk
  unfold a6m at hq
  simp only [Bool.and_eq_true,decide_eq_true_eq] at hq
  omega
 ·obtain ⟨t',ht',g,_⟩:=(h.tab q rows hr).2.2 r hm
  rw [ht] at ht'; cases ht'
  exact b2q g
theorem b9e:∀ (l:List GOp) (n:Int),1 ≤ n → n + l.length ≤ 1000000 → ∀ (k:Nat) m,(b8h l n)[k]? = some m → (m = 0 ∨ (n ≤ m ∧ m < n + l.length)) ∧ ∀ o,l[k]? = some o → o.Kind = 1 → n ≤ m
 | [],n,_,_,k,m,h => by simp [b8h] at h
 | o :: l,n,h1,h2,k,m,h => by
  simp only [List.length_cons] at h2 ⊢
  rw [b8h] at h
  have ew:w64 (n + 1) = n + 1:=a0w (by omega)
  split at h
  ·rename_i hk
   cases k with
   | zero => simp at h; subst h; exact ⟨.inr ⟨by omega,by omega⟩,fun o' _ _ => by omega⟩
   | succ k =>
    rw [List.getElem?_cons_succ,ew] at h
    obtain ⟨q1,q2⟩:=b9e l (n + 1) (by omega) (by omega) k m h
    exact ⟨by omega,fun o' ho hk' => by have:=q2 o' (by simpa using ho) hk'; omega⟩
  ·rename_i hk
   cases k with
   | zero => simp at h; subst h; exact ⟨.inl rfl,fun o' ho hk' => by simp at ho; subst ho; exact absurd hk' hk⟩
   | succ k =>
    rw [List.getElem?_cons_succ] at h
    obtain ⟨q1,q2⟩:=b9e l n (by omega) (by omega) k m h
    exact ⟨by omega,fun o' ho hk' => q2 o' (by simpa using ho) hk'⟩
theorem e3s:∀ (l:List Int) (m:Int),(∀ n ∈ l,0 ≤ n ∧ n ≤ 1000000) → ∃ v,a6t l m = some v ∧ m ≤ v ∧ (∀ n ∈ l,n < v) ∧ (v = m ∨ ∃ n ∈ l,v = n + 1)
 | [],m,_ => ⟨m,by rw [a6t],by omega,by simp,.inl rfl⟩
 | n :: l,m,h => by
  have hn:=h n (by simp)
  have ew:w64 (n + 1) = n + 1:=a0w (by omega)
  rw [a6t,ew]
  obtain ⟨v,v1,v2,v3,v4⟩:=e3s l (if n + 1 > m then n + 1 else m) (fun y hy => h y (by simp [hy]))
  refine ⟨v,v1,by split at v2 <;> omega,fun y hy => ?_,?_⟩
  ·rcases List.mem_cons.1 hy with rfl | hy
   ·split at v2 <;> omega
   ·exact v3 y hy
  ·rcases v4 with v4 | ⟨y,y1,y2⟩
   ·split at v4
    ·exact .inr ⟨n,by simp,v4⟩
    ·exact .inl v4
   ·exact .inr ⟨y,by simp [y1],y2⟩
theorem e3t (hs:e3r s) (x:x9) (hN:e3q s S ops ids) (hlen:ops.length ≤ 1000) (hops:∀ o ∈ ops,opB o = true):∀ (xs:List GOp) (i:Nat) (T:List (List o8)) (out:List a1l),ops.drop i = xs → StQ s (PrS s S) T → out.length + xs.length ≤ 2000 →
  (∃ res,a5f x xs i s.Tables T nx ops ids ow out = some (.ret (x,res,false))) ∨ ∃ T' res,a5f x xs i s.Tables T nx ops ids ow out = some (.go (s.Tables,T',nx,ops,ids,ow,res)) ∧ StQ s (PrS s S) T' ∧ res.length ≤ 2000
 | [],i,T,out,_,hT,hn => .inr ⟨T,out,by rw [a5f],hT,by simpa using hn⟩
 | o :: xs,i,T,out,hd,hT,hn => by
  simp only [List.length_cons] at hn
  obtain ⟨r,T',e,hT'⟩:=g0t (nx:=nx) (ow:=ow) hs hT hN hlen hops (a6g hd)
  have ew:(⟨⟨s.Tables⟩,⟨T,nx⟩,ops,ids,ow⟩:a0g) = mkW s nx ops ids ow T:=rfl
  rw [a5f,ew,e,Option.bind_some,if_pos (by simp; omega)]
  split
  ·exact .inl ⟨_,rfl⟩
  ·exact e3t hs x hN hlen hops xs (i + 1) T' _ (a2e hd) hT' (by simp; omega)
theorem e2o (hs:e3r s) {x:x9} (hT:StQ s (PrS s S) x.Tables) (hlen:ops.length ≤ 100) (hops:∀ o ∈ ops,opB o = true) (hnx:1 ≤ x.Next ∧ x.Next + 100 ≤ 1000000) (hS:∀ (k:Nat) (o:GOp) (t:Nat) (n:Int),ops[k]? = some o → o.Kind = 1 → b4d s o.Table = some t → (b8h ops x.Next)[k]? = some n → S t n) :
  ∃ y res b,a7f s x ops ow = some (y,res,b) ∧ (y = x ∨ (StQ s (PrS s S) y.Tables ∧ Held s y.Tables ∧ d1s s y = true ∧ d1v s y = true ∧ x.Next ≤ y.Next ∧ y.Next ≤ x.Next + ops.length ∧ ∀ n ∈ b8h ops x.Next,n < y.Next)):=by
 have hid:d9z (b8h ops x.Next):=fun n hn => by
  obtain ⟨k,hk⟩:=List.mem_iff_getElem?.1 hn
  have:=(b9e ops x.Next hnx.1 (by omega) k n hk).1
  omega
 have hN:e3q s S ops (b8h ops x.Next):=⟨d9e _ _,hid,fun k o t n h1 h2 h3 h4 => ⟨by have:=(b9e ops x.Next hnx.1 (by omega) k n h4).2 o h1 h2; omega,hS k o t n h1 h2 h3 h4⟩⟩
 unfold a7f b7n
 rw [c7f ops x.Next [] (by simp; omega),Option.bind_some,Option.bind_some,List.nil_append]
 rcases e3t (nx:=x.Next) (ow:=ow) hs x hN (by omega) hops ops 0 x.Tables [] rfl hT (by simp; omega) with ⟨res,e⟩ | ⟨T',res,e,hT',hres⟩
 ·rw [e]; exact ⟨x,res,false,rfl,.inl rfl⟩
 ·rw [e,Option.bind_some]
  simp only
  obtain ⟨o,o1,o2,o3,o4⟩:=e8z s hs.ok (c7n hs.ok S) ⟨T',x.Next⟩ hT'
  obtain ⟨v,v1,v2,v3,v4⟩:=e3s (b8h ops x.Next) x.Next hid
  have o2:o.Next = x.Next:=o2
  rw [o1,Option.bind_some,Option.bind_some]
  simp only
  rw [o2,v1,Option.bind_some,d9i (StQ.P (x:=⟨o.Tables,v⟩) hs.ok o3),Option.bind_some]
  cases hr:d1s s ⟨o.Tables,v⟩ with
  | false =>
   simp only [if_true]
   rw [if_pos (by decide),if_pos (by simp; omega)]
   exact ⟨x,_,false,rfl,.inl rfl⟩
  | true =>
   cases hu:d1v s ⟨o.Tables,v⟩ with
   | false =>
    simp only [if_true,Bool.true_eq_false,if_false]
    rw [if_pos (by decide),if_pos (by simp; omega)]
    exact ⟨x,_,false,rfl,.inl rfl⟩
   | true =>
    simp only [Bool.true_eq_false,if_false]
    rw [if_neg (by decide)]
    refine ⟨_,_,true,rfl,.inr ⟨o3,o4,hr,hu,v2,?_,v3⟩⟩
    rcases v4 with v4 | ⟨n,n1,n2⟩
    ·show v ≤ _; omega
    ·obtain ⟨k,hk⟩:=List.mem_iff_getElem?.1 n1
     have:=(b9e ops x.Next hnx.1 (by omega) k n hk).1
     show v ≤ _; omega
end
theorem b2s:e3r a1z:=by
 refine ⟨by decide,?_,?_⟩
 ·intro t ht
  have:t = nt0 ∨ t = nt1 ∨ t = nt2:=by simpa [a1z] using ht
  rcases this with rfl | rfl | rfl <;> decide
 ·intro t ht
  exact e8k (by simpa [a1z] using ht)
theorem f1w (n:Int) (s:x8):y9 n s = y9 n s:=b5o n s
structure e9n (J:x9 → Prop):Prop where
 new:J ⟨[[],[],[]],1⟩
 sm:∀ x,J x → smS x
 tr:∀ x ops,J x → 1 ≤ x.Next → x.Next ≤ 1000 → (∀ o ∈ ops,opB o = true) → ops.length ≤ 5 → ∃ y res b,a7f a1z x ops [] = some (y,res,b) ∧ J y ∧ x.Next ≤ y.Next ∧ y.Next ≤ x.Next + 5
theorem d2i {J:x9 → Prop} (hJ:e9n J):∀ (i k:Nat) (s:x8) (x:x9),i < k → J x → 1 ≤ x.Next → x.Next + 5 * i ≤ 1000 → b2r s → s.At + 800 * i + 2000 < 2 ^ 45 → ∃ (s':x8) (y:x9),a4p k i s.Code s.At s.Seed x.Tables x.Next = some (s'.Code,s'.At,s'.Seed,y.Tables,y.Next) ∧ J y ∧ 1 ≤ y.Next ∧ y.Next ≤ 1000
 | _,0,_,_,h,_,_,_,_,_ => by omega
 | 0,k + 1,s,x,h,hx,h1,h2,ho,ha => by
  refine ⟨s,x,?_,hx,h1,by omega⟩
  rw [a4p,if_neg (by simp)]
 | i + 1,k + 1,s,x,h,hx,h1,h2,ho,ha => by
  rw [a4p,if_pos (by simp),b7f,Option.bind_some]
  obtain ⟨l,s1,e,l1,l2,n1⟩:=f4p s ho (by omega)
  obtain ⟨y,res,b,t1,t2,t3,t4⟩:=hJ.tr x l hx h1 (by omega) (List.all_eq_true.1 l1) l2
  have es:(⟨s.Code,s.At,s.Seed⟩:x8) = s:=rfl
  have ex:(⟨x.Tables,x.Next⟩:x9) = x:=rfl
  have ew:w64 (((i + 1:Nat):Int) - 1) = (i:Int):=by rw [a0w (by omega)]; omega
  have:=n1.hi
  obtain ⟨s2,z,q1,q2,q3,q4⟩:=d2i hJ i k s1 y (by omega) t2 (by omega) (by omega) n1.ok (by omega)
  rw [es,e,Option.bind_some,ex,t1,Option.bind_some,ew]
  exact ⟨s2,z,q1,q2,q3,q4⟩
theorem e5r {J:x9 → Prop} (hJ:e9n J) (code:List Int) (hc:∀ x ∈ code,0 ≤ x ∧ x < 256) (hl:(code.length:Int) ≤ 1048576):∃ x,b4s code = some x ∧ J x ∧ 1 ≤ x.Next ∧ x.Next ≤ 1000:=by
 have hf:=b3f
 obtain ⟨s,e1,g1,g2,_⟩:=e9a code hc hl
 have e1':a3h code = some s:=by rw [e5o]; exact e1
 unfold b4s
 rw [e1',Option.bind_some]
 unfold a8r a9g
 have hnew:b7m a1z = some ⟨[[],[],[]],1⟩:=rfl
 have hsz:w64 (1 + (w64 ((s.Code.length:Int).tdiv 12))) = 1 + (s.Code.length:Int) / 12:=by
  have h1:=g1.len
  have e0:w64 ((s.Code.length:Int) / 12) = (s.Code.length:Int) / 12:=a0w (by omega)
  rw [Int.tdiv_eq_ediv_of_nonneg (by omega),e0,a0w (by omega)]
 obtain ⟨m,hm,hm1,hm2⟩:∃ m:Int,(if (8:Int) < w64 (1 + (w64 ((s.Code.length:Int).tdiv 12))) then 8 else w64 (1 + (w64 ((s.Code.length:Int).tdiv 12)))) = m ∧ 1 ≤ m ∧ m ≤ 8:=by
  refine ⟨_,rfl,?_,?_⟩ <;> rw [hsz] <;> split <;> omega
 rw [b7f,Option.bind_some,hnew,Option.bind_some,Option.bind_some]
 simp only [hm]
 rw [a0w (by omega),f1w]
 obtain ⟨v,s1,e2,v1,v2,n1⟩:=a7w (m + 5) s g1 (by rw [g2]; decide) (by omega) (by omega)
 obtain ⟨i,rfl⟩:∃ i:Nat,v = (i:Int):=⟨v.toNat,by omega⟩
 have:=n1.hi
 obtain ⟨s2,x,e3,x1,x2,x3⟩:=d2i hJ i FUEL s1 ⟨[[],[],[]],1⟩ (by omega) hJ.new (by simp) (by simp; omega) n1.ok (by omega)
 rw [e2,Option.bind_some]
 simp only
 rw [e3,Option.bind_some]
 simp only
 rw [c6c ⟨x.Tables,x.Next⟩ (hJ.sm x x1),Option.bind_some,Option.bind_some]
 exact ⟨x,rfl,x1,x2,x3⟩
theorem f4x {n:Int}:okI .u8 n ↔ 0 ≤ n ∧ n < 256:=by
 unfold okI Lit.wf
 simp only [Bool.and_eq_true,decide_eq_true_eq,show IntKind.min .u8 = 0 from rfl,show IntKind.max .u8 = 255 from rfl]
 omega
theorem e3u (s:o7) (tab:Nat) (id:Int) (T:List (List o8)):∀ (ts:List o6) (i:Nat),0 ≤ b6d s tab id T ts i
 | [],i => by rw [b6d]; omega
 | t :: ts,i => by
  rw [b6d]
  have h1:=e3u s tab id T ts (i + 1)
  have h2:=(d6g s tab id ((T[i]?).getD []) t.Columns 0).1
  omega
def DJ (S:Nat → Int → Prop) (nx:Int):Prop:=(∀ t n,S t n → n < nx) ∧ ∀ t u n,S t n → S u n → t = u
def SJ (x:x9):Prop:=∃ S,DJ S x.Next ∧ StQ a1z (PrS a1z S) x.Tables ∧ Held a1z x.Tables ∧ d1s a1z x = true ∧ d1v a1z x = true
theorem e9o {s:o7} {S S':Nat → Int → Prop} (h:∀ t n,S t n → S' t n) {i:Nat} {r:o8} (hp:PrS s S i r):PrS s S' i r:=by
 obtain ⟨t,a,b,c⟩:=hp
 exact ⟨t,a,b,h _ _ c⟩
theorem e9p {s:o7} {P Q:Nat → o8 → Prop} (h:∀ i r,P i r → Q i r) {T:List (List o8)} (hT:StQ s P T):StQ s Q T :=
 ⟨hT.len,fun i l hl => ⟨(hT.tab i l hl).1,(hT.tab i l hl).2.1,fun r hr => h i r ((hT.tab i l hl).2.2 r hr)⟩⟩
theorem d6n:∀ (l:List GOp) (n:Int),1 ≤ n → n + l.length ≤ 1000000 → ∀ (k k':Nat) m o o',(b8h l n)[k]? = some m → (b8h l n)[k']? = some m → l[k]? = some o → l[k']? = some o' → o.Kind = 1 → o'.Kind = 1 → k = k'
 | [],n,_,_,k,k',m,o,o',h,_,_,_,_,_ => by simp [b8h] at h
 | a :: l,n,h1,h2,k,k',m,o,o',hk,hk',ho,ho',e,e' => by
  simp only [List.length_cons] at h2
  rw [b8h] at hk hk'
  have ew:w64 (n + 1) = n + 1:=a0w (by omega)
  split at hk
  ·rename_i ha
   rw [if_pos ha,ew] at hk'
   rw [ew] at hk
   cases k with
   | zero =>
    cases k' with
    | zero => rfl
    | succ k' =>
     simp only [List.getElem?_cons_zero,Option.some.injEq,List.getElem?_cons_succ] at hk hk' ho'
     have:=(b9e l (n + 1) (by omega) (by omega) k' m hk').2 o' ho' e'
     omega
   | succ k =>
    cases k' with
    | zero =>
     simp only [List.getElem?_cons_zero,Option.some.injEq,List.getElem?_cons_succ] at hk hk' ho
     have:=(b9e l (n + 1) (by omega) (by omega) k m hk).2 o ho e
     omega
    | succ k' =>
     simp only [List.getElem?_cons_succ] at hk hk' ho ho'
     rw [d6n l (n + 1) (by omega) (by omega) k k' m o o' hk hk' ho ho' e e']
  ·rename_i ha
   rw [if_neg ha] at hk'
   cases k with
   | zero => simp only [List.getElem?_cons_zero,Option.some.injEq] at ho; subst ho; exact absurd e ha
   | succ k =>
    cases k' with
    | zero => simp only [List.getElem?_cons_zero,Option.some.injEq] at ho'; subst ho'; exact absurd e' ha
    | succ k' =>
     simp only [List.getElem?_cons_succ] at hk hk' ho ho'
     rw [d6n l n (by omega) (by omega) k k' m o o' hk hk' ho ho' e e']
theorem d4t {i:Nat} {l:List o8} (hl:([[],[],[]]:List (List o8))[i]? = some l):l = []:=by
 have:l ∈ [([]:List o8),[],[]]:=List.mem_of_getElem? hl
 simpa using this
theorem b6p:e9n SJ:=by
 refine ⟨⟨fun _ _ => False,⟨fun _ _ h => h.elim,fun _ _ _ h => h.elim⟩,⟨rfl,fun i l hl => ?_⟩,fun i t l _ _ hl r hr => ?_,rfl,rfl⟩,fun x ⟨S,_,h,_⟩ => b9c (h.form (c7n b2s.ok _)) b2s.ok,fun x ops ⟨S,⟨d1,d2⟩,hx,hh,hr,hu⟩ h1 h2 ho hl => ?_⟩
 ·rw [d4t hl]
  exact ⟨rfl,by simp,by simp⟩
 ·rw [d4t hl] at hr
  cases hr
 ·obtain ⟨y,res,b,e,he⟩:=e2o (S:=fun t n => S t n ∨ ∃ (k:Nat) (o:GOp),ops[k]? = some o ∧ o.Kind = 1 ∧ b4d a1z o.Table = some t ∧ (b8h ops x.Next)[k]? = some n) (ow:=[]) b2s (e9p (fun i r => e9o fun t n h => .inl h) hx) (by omega) ho ⟨h1,by omega⟩ (fun k o t n a b c d => .inr ⟨k,o,a,b,c,d⟩)
  rcases he with rfl | ⟨g1,g2,g3,g4,g5,g6,g7⟩
  ·exact ⟨y,res,b,e,⟨S,⟨d1,d2⟩,hx,hh,hr,hu⟩,by omega,by omega⟩
  ·refine ⟨y,res,b,e,⟨_,⟨fun t n h => ?_,fun t u n ha hb => ?_⟩,g1,g2,g3,g4⟩,g5,by omega⟩
   ·rcases h with h | ⟨k,o,a,b,c,d⟩
    ·have:=d1 t n h; omega
    ·exact g7 n (List.mem_of_getElem? d)
   ·rcases ha with ha | ⟨k,o,a,b,c,d⟩ <;> rcases hb with hb | ⟨k',o',a',b',c',d'⟩
    ·exact d2 t u n ha hb
    ·have h3:=d1 t n ha
     have h4:=(b9e ops x.Next h1 (by omega) k' n d').2 o' a' b'
     omega
    ·have h3:=d1 u n hb
     have h4:=(b9e ops x.Next h1 (by omega) k n d).2 o a b
     omega
    ·have hk:=d6n ops x.Next h1 (by omega) k k' n o o' d d' a a' b b'
     subst hk
     rw [a] at a'; cases a'
     rw [c] at c'; cases c'; rfl
theorem SJ.store {x:x9} (h:SJ x) (hn:1 ≤ x.Next ∧ x.Next ≤ 1000):c1g a1z x = true:=by
 obtain ⟨S,⟨d1,d2⟩,hx,hh,hr,hu⟩:=h
 unfold c1g
 simp only [Bool.and_eq_true,decide_eq_true_eq]
 refine ⟨⟨⟨b2s.ok,hx.len⟩,by omega⟩,(b1p _ _ _).2 fun q l hl => ?_⟩
 obtain ⟨g1,g2,g3⟩:=hx.tab q l hl
 have hql:=(List.getElem?_eq_some_iff.1 hl).1
 obtain ⟨t,ht⟩:∃ t,a1z.Tables[q]? = some t:=⟨a1z.Tables[q]'(by rw [← hx.len]; exact hql),List.getElem?_eq_getElem _⟩
 rw [Nat.zero_add]
 unfold c3g
 rw [ht]
 simp only [Bool.and_eq_true,decide_eq_true_eq]
 refine ⟨⟨g2,g1⟩,List.all_eq_true.2 fun r hm => ?_⟩
 obtain ⟨t',ht',a,b⟩:=g3 r hm
 rw [ht] at ht'; cases ht'
 have h3:=b0p.1 a
 have h4:=d1 q r.Id b
 simp only [Bool.and_eq_true,decide_eq_true_eq]
 exact ⟨⟨by omega,h3.2.1⟩,h3.2.2⟩
theorem c8o {x:x9} (hr:e8o x) (i:Nat) (l:List o8) (hd:∀ (j:Nat) m,j < i → x.Tables[j]? = some m → ∀ r ∈ l,a4v m r.Id = false) (hi:i ≤ x.Tables.length) (h9:x.Tables.length ≤ 100):∀ (k:Nat) (j:Nat),j ≤ i → i - j < k → a4q i l x k (j:Int) = some (.go ())
 | 0,j,_,h => by omega
 | k + 1,j,hj,h => by
  rw [a4q]
  by_cases c:j < i
  ·obtain ⟨m,hm⟩:∃ m,x.Tables[j]? = some m:=⟨x.Tables[j]'(by omega),List.getElem?_eq_getElem _⟩
   obtain ⟨a,b⟩:=hr m (List.mem_of_getElem? hm)
   rw [if_pos (by simpa using c),a5u _ (fun r => a4v m r.Id) l (fun r _ => by
    unfold a5c
    rw [d1r x j m r.Id hm a (by omega)]; rfl),Option.bind_some]
   have e:l.any (fun r => a4v m r.Id) = false:=by
    rw [List.any_eq_false]
    intro r hm'
    simp [hd j m c hm r hm']
   have e2:(j:Int) + 1 = ((j + 1:Nat):Int):=by omega
   rw [e,if_neg (by simp),a0w (by omega),e2]
   exact c8o hr i l hd hi h9 k (j + 1) (by omega) (by omega)
  ·rw [if_neg (by simpa using c)]
theorem c8p {x:x9} (hr:e8o x) (h9:x.Tables.length ≤ 100) (hd:∀ (i j:Nat) l m,j < i → x.Tables[i]? = some l → x.Tables[j]? = some m → ∀ r ∈ l,a4v m r.Id = false):∀ (xs:List (List o8)) (i:Nat),x.Tables.drop i = xs → a4r x xs i = some (.go ())
 | [],i,_ => by rw [a4r]
 | l :: xs,i,h => by
  have hlt:=a6g h
  have hg:x.Tables[i]? = some l:=by
   have:=List.drop_eq_getElem_cons hlt
   rw [h] at this
   rw [List.getElem?_eq_getElem hlt]
   injection this with h1 _
   rw [h1]
  have hf:=b3f
  have e:=c8o hr i l (fun j m hj hm => hd i j l m hj hg hm) (by omega) h9 FUEL 0 (by omega) (by omega)
  have e':a4q i l x FUEL 0 = some (.go ()):=e
  rw [a4r,e',Option.bind_some]
  exact c8p hr h9 hd xs (i + 1) (a2e h)
theorem c6h {s:o7} (hs:a7v s = true) {x:x9} (hF:d1y s x.Tables) (hH:Held s x.Tables):∀ (xs:List o6) (i:Nat),s.Tables.drop i = xs → b1j x s xs i = some (.go ())
 | [],i,_ => by rw [b1j]
 | t :: xs,i,h => by
  have hlt:=a6g h
  have hg:s.Tables[i]? = some t:=by
   have:=List.drop_eq_getElem_cons hlt
   rw [h] at this
   rw [List.getElem?_eq_getElem hlt]
   injection this with h1 _
   rw [h1]
  obtain ⟨l,hl⟩:∃ l,x.Tables[i]? = some l:=⟨x.Tables[i]'(by rw [hF.1]; exact hlt),List.getElem?_eq_getElem _⟩
  rw [b1j,c6h hs hF hH xs (i + 1) (a2e h)]
  cases hR:t.Root with
  | true => rfl
  | false =>
   simp only [Bool.not_false,if_true]
   rw [a0h,hl,Option.bind_some,a5u _ (fun r => b6d s i r.Id x.Tables s.Tables 0 == 0) l (fun r _ => by
    unfold b2m
    rw [d4n s hs x hF i r.Id]; rfl),Option.bind_some,Option.bind_some]
   have e:l.any (fun r => b6d s i r.Id x.Tables s.Tables 0 == 0) = false:=by
    rw [List.any_eq_false]
    intro r hm
    simpa using hH i t l hg hR hl r hm
   rw [e,if_neg (by simp)]
theorem d4u {x:x9} (h:SJ x) (hn:1 ≤ x.Next ∧ x.Next ≤ 1000):b2x a1z x = some true:=by
 have hB:=h.store hn
 have hsm:=b6p.sm x h
 obtain ⟨S,⟨d1,d2⟩,hx,hh,hr,hu⟩:=h
 have hP:=e8q hB
 have hlen:x.Tables.length = 3:=hx.len
 have hsh:a6b x = some false:=by
  unfold a6b
  rw [c8p hP.ris (by omega) (fun i j l m hj hi hm r hr => by
   unfold a4v
   rw [List.any_eq_false]
   intro q hq
   simp only [beq_iff_eq]
   intro e
   obtain ⟨_,_,_,g1⟩:=(hx.tab i l hi).2.2 r hr
   obtain ⟨_,_,_,g2⟩:=(hx.tab j m hm).2.2 q hq
   rw [e] at g2
   have:=d2 i j r.Id g1 g2
   omega) x.Tables 0 rfl,Option.bind_some]
 unfold b2x
 rw [c8g a1z x (fun l hl r hm d hd => by
  have:=((hsm.2 l hl).2 r hm).2 d hd
  unfold maxLen; omega),hB,Option.bind_some,if_neg (by simp),hsh,Option.bind_some,if_neg (by simp),d6e hP,hr,hu]
 simp only [Bool.true_eq_false,if_false,Option.bind_some,bne_self_eq_false,Bool.false_eq_true]
 rw [c6h b2s.ok (hx.form (c7n b2s.ok _)) hh a1z.Tables 0 rfl,Option.bind_some]
theorem f1x {x:x9} (h:SJ x) (hn:1 ≤ x.Next ∧ x.Next ≤ 1000) {l:List o8} (hl:x.Tables[1]? = some l) {r:o8} (hr:r ∈ l):∃ n,a9w a1z x 1 r.Id = some (n,0) ∧ b0b a1z x 1 r.Id = some (n,0) ∧ 1 ≤ n ∧ b5g nt1 r = some true:=by
 have hB:=h.store hn
 have hsm:=b6p.sm x h
 have hsl:=(hsm.2 l (List.mem_of_getElem? hl)).2 r hr
 obtain ⟨S,⟨d1,d2⟩,hx,hh,-,-⟩:=h
 have hlen:x.Tables.length = 3:=hx.len
 have hF:=hx.form (c7n b2s.ok _)
 obtain ⟨g1,g2,g3⟩:=hx.tab 1 l hl
 have hid:a4v l r.Id = true:=by unfold a4v; exact List.any_eq_true.2 ⟨r,hr,by simp⟩
 have h0:=e3u a1z 1 r.Id x.Tables a1z.Tables 0
 have h1:=hh 1 nt1 l rfl rfl hl r hr
 have hlp:(a1z.Tables.length:Int) = 3:=rfl
 refine ⟨b6d a1z 1 r.Id x.Tables a1z.Tables 0,?_,?_,by omega,?_⟩
 ·unfold a9w
  rw [c8g a1z x (fun l hl r hm d hd => by
   have:=((hsm.2 l hl).2 r hm).2 d hd
   unfold maxLen; omega),hB,Option.bind_some,if_neg (by simp),b0d,hlen,a0w (by omega),Option.bind_some,if_neg (by simp)]
  have e1:a4a x (1:Int) r.Id = some (a4v l r.Id):=d1r x 1 l r.Id hl g1 (by omega)
  have e2:a5r a1z x (1:Int) r.Id = some (b6d a1z 1 r.Id x.Tables a1z.Tables 0):=d4n a1z b2s.ok x hF 1 r.Id
  rw [e1,hid,Option.bind_some,if_neg (by simp),e2,Option.bind_some]
 ·unfold b0b
  have e1:idx x.Tables (1:Int) = some l:=(a0h x.Tables 1).trans hl
  have e2:a5a a1z x (1:Int) r.Id = some (b6d a1z 1 r.Id x.Tables a1z.Tables 0):=d4o a1z b2s.ok x hF 1 (by decide) r.Id
  rw [d6c,hB,Option.bind_some,if_neg (by simp),c0q,hlp,a0w (by omega),Option.bind_some,if_neg (by simp),e1,Option.bind_some,b9a,Option.bind_some,c7g,hid,if_neg (by simp),e2,Option.bind_some]
 ·obtain ⟨t,ht,a,_⟩:=g3 r hr
  have:t = nt1:=by
   have e:a1z.Tables[1]? = some nt1:=rfl
   rw [e] at ht; cases ht; rfl
  subst this
  rw [f1c nt1 r (fun d hd => by
   have:=hsl.2 d hd
   unfold maxLen; omega),a,b7e b2s.ok (by simp [a1z])]
  rfl
theorem e0b {x:x9} (h:SJ x) (hn:1 ≤ x.Next ∧ x.Next ≤ 1000) {l:List o8} (hl:x.Tables[1]? = some l) (h12:l.length ≤ 12):∀ (k:Nat) (i:Nat),i ≤ l.length → l.length - i < k → b0c x a1z k (i:Int) = some (.go ())
 | 0,i,_,c => by omega
 | k + 1,i,hi,c => by
  have e1:idx x.Tables (1:Int) = some l:=(a0h x.Tables 1).trans hl
  have e2:idx a1z.Tables (1:Int) = some nt1:=rfl
  rw [b0c,e1,Option.bind_some]
  by_cases hlt:i < l.length
  ·obtain ⟨n,a1,a2,a3,a4⟩:=f1x h hn hl (List.getElem_mem hlt)
   have e3:(i:Int) + 1 = ((i + 1:Nat):Int):=by omega
   rw [if_pos (by simpa using hlt)]
   simp only [e1,e2,Option.bind_some,a0h,List.getElem?_eq_getElem hlt,a1,a2,a4]
   rw [if_neg (by simp; omega),Option.bind_some,if_neg (by simp),a0w (by omega),e3]
   exact e0b h hn hl h12 k (i + 1) (by omega) (by omega)
  ·rw [if_neg (by simpa using hlt)]
theorem d6o (code:List Int) (h1:okL (okI .u8) code):b5n code = some true:=by
 unfold b5n
 by_cases c1:(code.length:Int) > 1048576
 ·rw [if_pos (by simpa using c1)]
 rw [if_neg (by simpa using c1)]
 have hc:∀ z ∈ code,0 ≤ z ∧ z < 256:=fun z hz => by have:=f4x.1 (h1.2 z hz); omega
 obtain ⟨x,e1,hx,x1,x2⟩:=e5r b6p code hc (by omega)
 have hn:b3n a1z = some (⟨[[],[],[]],1⟩,0):=by
  unfold b3n
  rw [d1m,b2s.ok,Option.bind_some,if_neg (by simp)]
  rfl
 have hok:=d4u hx ⟨x1,x2⟩
 have hok2:=d4u b6p.new (by decide)
 rw [b7f,Option.bind_some,e1,Option.bind_some,hn,Option.bind_some,hok,Option.bind_some]
 simp only [Bool.not_true,cond_false,bne_self_eq_false,Bool.false_eq_true,if_false]
 rw [hok2,Option.bind_some,Option.bind_some]
 simp only [Bool.not_true,Bool.false_eq_true,if_false]
 obtain ⟨S,hd,hq,hh⟩:=hx
 have hlen:x.Tables.length = 3:=hq.len
 obtain ⟨l,hl⟩:∃ l,x.Tables[1]? = some l:=⟨x.Tables[1]'(by omega),List.getElem?_eq_getElem _⟩
 have h12:=(hq.tab 1 l hl).2.1
 have hf:=b3f
 have e:=e0b ⟨S,hd,hq,hh⟩ ⟨x1,x2⟩ hl h12 FUEL 0 (by omega) (by omega)
 have e':b0c x a1z FUEL 0 = some (.go ()):=e
 rw [e',Option.bind_some]
end Go.R
end
