import Derived.Test.YtldahjcikmpifaaGreatJMOH
import Derived.Test.YtldahjcikmpifaaGreatP0
set_option linter.all false
namespace Go.R
open Go
theorem a5s (f:a0m → Option Bool) (p:a0m → Bool):∀ (xs:List a0m) (i:Nat),(∀ x ∈ xs,f x = some (p x)) → a0y f xs i = some (match xs.findIdx? p with | some k => .ret ((i + k:Nat):Int) | none => .go ())
 | [],i,_ => by rw [a0y]; rfl
 | x :: xs,i,h => by
  rw [a0y,h x (by simp),Option.bind_some,a5s f p xs (i + 1) (fun y hy => h y (by simp [hy])),List.findIdx?_cons]
  cases hp:p x with
  | true => simp
  | false =>
   cases hq:xs.findIdx? p with
   | none => simp
   | some k => simp; omega
theorem a9x (f:a0m → Option Bool) (p:a0m → Bool) (xs:List a0m) (h:∀ x ∈ xs,f x = some (p x)):a2g xs f = some (match xs.findIdx? p with | some k => (k:Int) | none => -1):=by
 unfold a2g
 rw [a5s f p xs 0 h]
 cases hq:xs.findIdx? p with
 | none => rfl
 | some k => simp
theorem a6y (f:Str → Option Bool) (p:Str → Bool):∀ (xs:List Str) (i:Nat),(∀ x ∈ xs,f x = some (p x)) → a1f f xs i = some (match xs.findIdx? p with | some k => .ret ((i + k:Nat):Int) | none => .go ())
 | [],i,_ => by rw [a1f]; rfl
 | x :: xs,i,h => by
  rw [a1f,h x (by simp),Option.bind_some,a6y f p xs (i + 1) (fun y hy => h y (by simp [hy])),List.findIdx?_cons]
  cases hp:p x with
  | true => simp
  | false =>
   cases hq:xs.findIdx? p with
   | none => simp
   | some k => simp; omega
theorem b1y (f:Str → Option Bool) (p:Str → Bool) (xs:List Str) (h:∀ x ∈ xs,f x = some (p x)):a3l xs f = some (match xs.findIdx? p with | some k => (k:Int) | none => -1):=by
 unfold a3l
 rw [a6y f p xs 0 h]
 cases hq:xs.findIdx? p with
 | none => rfl
 | some k => simp
theorem a8x (f:a0m → Option Bool) (p:a0m → Bool) (xs:List a0m) (h:∀ x ∈ xs,f x = some (p x)):a1z xs f = some (xs.any p):=by
 unfold a1z
 rw [a9x f p xs h,Option.bind_some]
 cases hq:xs.findIdx? p with
 | none =>
  have:xs.any p = false:=by
   rw [List.any_eq_false]
   intro x hx
   have:=List.findIdx?_eq_none_iff.1 hq x hx
   simp [this]
  rw [this]; rfl
 | some k =>
  have:xs.any p = true:=by
   obtain ⟨x,hx,hp⟩:∃ x,x ∈ xs ∧ p x = true:=by
    have:=List.findIdx?_eq_some_iff_getElem.1 hq
    obtain ⟨hk,h1,_⟩:=this
    exact ⟨xs[k],List.getElem_mem _,h1⟩
   exact List.any_eq_true.2 ⟨x,hx,hp⟩
  rw [this]
  simp
theorem b0m (f:Str → Option Bool) (p:Str → Bool) (xs:List Str) (h:∀ x ∈ xs,f x = some (p x)):a2u xs f = some (xs.any p):=by
 unfold a2u
 rw [b1y f p xs h,Option.bind_some]
 cases hq:xs.findIdx? p with
 | none =>
  have:xs.any p = false:=by
   rw [List.any_eq_false]
   intro x hx
   have:=List.findIdx?_eq_none_iff.1 hq x hx
   simp [this]
  rw [this]; rfl
 | some k =>
  have:xs.any p = true:=by
   obtain ⟨x,hx,hp⟩:∃ x,x ∈ xs ∧ p x = true:=by
    have:=List.findIdx?_eq_some_iff_getElem.1 hq
    obtain ⟨hk,h1,_⟩:=this
    exact ⟨xs[k],List.getElem_mem _,h1⟩
   exact List.any_eq_true.2 ⟨x,hx,hp⟩
  rw [this]
  simp
def b8a (c:UInt8):Bool:=!(decide ((c.toNat:Int) < 32) || decide ((c.toNat:Int) > 126))
def b6v (t:Str):Bool:=t.all b8a && decide ((t.length:Int) ≤ 200)
theorem c7w:∀ t:Str,a5a t = some (if t.all b8a = true then .go () else .ret false)
 | [] => by rw [a5a]; simp
 | x :: xs => by
  rw [a5a,c7w xs]
  by_cases h1:(x.toNat:Int) < 32
  ·simp [h1,b8a]
  ·by_cases h2:(x.toNat:Int) > 126
   ·simp [h1,h2,b8a]
   ·simp [h1,h2,b8a]
theorem d1v (t:Str):a8l t = some (b6v t):=by
 unfold a8l b6v
 rw [c7w]
 by_cases h:t.all b8a = true
 ·simp only [h,if_pos,Option.bind_some,Bool.true_and]
 ·simp only [h,Bool.not_eq_true] at h ⊢
  simp [h]
theorem b8b (n a b:Int):a6v n a b = some (decide (a ≤ n ∧ n ≤ b)):=by
 unfold a6v
 by_cases h:a ≤ n <;> simp [h]
theorem d0k:∀ t:Str,a4v t = some (if t.all b8a = true then .go () else .ret false)
 | [] => by rw [a4v]; simp
 | x :: xs => by
  rw [a4v,d0k xs]
  by_cases h1:(x.toNat:Int) < 32
  ·simp [h1,b8a]
  ·by_cases h2:(x.toNat:Int) > 126
   ·simp [h1,h2,b8a]
   ·simp [h1,h2,b8a]
theorem d6c (t:Str):a6r t = some (b6v t):=by
 unfold a6r b6v
 rw [d0k]
 by_cases h:t.all b8a = true
 ·simp only [h,if_pos,Option.bind_some,Bool.true_and]
 ·simp only [h,Bool.not_eq_true] at h ⊢
  simp [h]
theorem e3o (n a b:Int):a7o n a b = some (decide (a ≤ n ∧ n ≤ b)):=by
 unfold a7o
 by_cases h:a ≤ n <;> simp [h]
theorem c7x:∀ a b:Str,Lib.compareBytes a b = -1 ∨ Lib.compareBytes a b = 0 ∨ Lib.compareBytes a b = 1
 | [],[] => by simp [Lib.compareBytes]
 | [],_ :: _ => by simp [Lib.compareBytes]
 | _ :: _,[] => by simp [Lib.compareBytes]
 | a :: xs,b :: ys => by
  have:=c7x xs ys
  unfold Lib.compareBytes
  split
  ·simp
  ·split
   ·simp
   ·exact this
theorem c3v (a b:UInt8):a < b ∨ a = b ∨ b < a:=by
 simp only [UInt8.lt_iff_toNat_lt,← UInt8.toNat_inj]
 omega
theorem b6l {a b:UInt8} (h:a < b):¬ b < a:=by
 simp only [UInt8.lt_iff_toNat_lt] at *
 omega
theorem d0l:∀ a b:Str,Lib.compareBytes b a = - Lib.compareBytes a b
 | [],[] => by simp [Lib.compareBytes]
 | [],_ :: _ => by simp [Lib.compareBytes]
 | _ :: _,[] => by simp [Lib.compareBytes]
 | a :: xs,b :: ys => by
  have ih:=d0l xs ys
  unfold Lib.compareBytes
  rcases c3v a b with h | h | h
  ·simp [h,b6l h]
  ·subst h; simp [UInt8.lt_irrefl,ih]
  ·simp [h,b6l h]
theorem b8v:∀ a b:Str,Lib.compareBytes a b = 0 ↔ a = b
 | [],[] => by simp [Lib.compareBytes]
 | [],_ :: _ => by simp [Lib.compareBytes]
 | _ :: _,[] => by simp [Lib.compareBytes]
 | a :: xs,b :: ys => by
  have ih:=b8v xs ys
  unfold Lib.compareBytes
  rcases c3v a b with h | h | h
  ·have hne:a ≠ b:=by rintro rfl; exact UInt8.lt_irrefl _ h
   simp [h,hne]
  ·subst h; simp [UInt8.lt_irrefl,ih]
  ·have hne:a ≠ b:=by rintro rfl; exact UInt8.lt_irrefl _ h
   simp [h,b6l h,hne]
theorem d0m:∀ a b:Str,Op.bytesLess a b = decide (Lib.compareBytes a b < 0)
 | [],[] => by simp [Lib.compareBytes,Op.bytesLess]
 | [],_ :: _ => by simp [Lib.compareBytes,Op.bytesLess]
 | _ :: _,[] => by simp [Lib.compareBytes,Op.bytesLess]
 | a :: xs,b :: ys => by
  have ih:=d0m xs ys
  unfold Lib.compareBytes Op.bytesLess
  rcases c3v a b with h | h | h
  ·simp [h]
  ·subst h; simp [UInt8.lt_irrefl,ih]
  ·have hne:¬ a = b:=by rintro rfl; exact UInt8.lt_irrefl _ h
   simp [h,b6l h,hne]
def a7u (a b:a0g):Int:=if a.Kind ≠ b.Kind then (if a.Kind < b.Kind then -1 else 1) else if a.N ≠ b.N then (if a.N < b.N then -1 else 1) else Lib.compareBytes a.T b.T
theorem b3y (a b:a0g):a7u a b = 0 ↔ a = b:=by
 unfold a7u
 cases a with | mk k n t =>
 cases b with | mk k' n' t' =>
 simp only [a0g.mk.injEq]
 by_cases h1:k = k'
 ·subst h1
  by_cases h2:n = n'
  ·subst h2; simp [b8v]
  ·simp [h2]; split <;> omega
 ·simp [h1]; split <;> omega
theorem c3w (a b:a0g):a7u b a = - a7u a b:=by
 unfold a7u
 cases a with | mk k n t =>
 cases b with | mk k' n' t' =>
 by_cases h1:k = k'
 ·subst h1
  by_cases h2:n = n'
  ·subst h2; simp [d0l t t']
  ·have h3:¬ n' = n:=fun h => h2 h.symm
   simp [h2,h3]; split <;> split <;> omega
 ·have h3:¬ k' = k:=fun h => h1 h.symm
  simp [h1,h3]; split <;> split <;> omega
theorem e1s (x y:Int):cmp_Compare_int x y = some (if x < y then -1 else if x > y then 1 else 0):=by
 unfold cmp_Compare_int cmp_isNaN_int
 by_cases h1:x < y <;> by_cases h2:x > y <;> simp [h1,h2]
theorem c7y (a b:a0g):a6g a b = some (a7u a b):=by
 unfold a6g strings_Compare a4m b6i
 simp only [e1s,Option.bind_some]
 unfold a7u
 by_cases h1:a.Kind = b.Kind
 ·by_cases h2:a.N = b.N
  ·have e1:(if a.Kind < b.Kind then (-1:Int) else if a.Kind > b.Kind then 1 else 0) = 0:=by rw [h1]; simp
   have e2:(if a.N < b.N then (-1:Int) else if a.N > b.N then 1 else 0) = 0:=by rw [h2]; simp
   rw [e1,e2]
   simp only [a4t,h1,h2]
   by_cases h3:Lib.compareBytes a.T b.T = 0
   ·simp [h3]
   ·simp [h3]
  ·have e1:(if a.Kind < b.Kind then (-1:Int) else if a.Kind > b.Kind then 1 else 0) = 0:=by rw [h1]; simp
   rw [e1]
   rcases Int.lt_or_gt_of_ne h2 with h3 | h3
   ·simp [a4t,h1,h2,h3]
   ·have h4:¬ a.N < b.N:=by omega
    simp [a4t,h1,h2,h3,h4]
 ·rcases Int.lt_or_gt_of_ne h1 with h3 | h3
  ·simp [a4t,h1,h3]
  ·have h4:¬ a.Kind < b.Kind:=by omega
   simp [a4t,h1,h3,h4]
theorem d7r (a b:a0g):a7q a b = some (a7u a b):=by
 unfold a7q b0y a7u
 have w0:w64 (1 - w64 0) = 1:=by decide
 have w1:w64 (1 - w64 2) = -1:=by decide
 by_cases h1:a.Kind = b.Kind
 ·by_cases h2:a.N = b.N
  ·simp only [h1,h2,bne_self_eq_false,Bool.false_eq_true,if_false,ne_eq,not_true_eq_false,d0m]
   by_cases h3:a.T = b.T
   ·simp [h3,(b8v b.T b.T).2 rfl]
   ·have hne:Lib.compareBytes a.T b.T ≠ 0:=fun h => h3 ((b8v _ _).1 h)
    rcases c7x a.T b.T with h | h | h
    ·simp [h3,h,w1]
    ·exact absurd h hne
    ·simp [h3,h,w0]
  ·by_cases h3:a.N < b.N <;> simp [h1,h2,h3,w0,w1]
 ·by_cases h3:a.Kind < b.Kind <;> simp [h1,h3,w0,w1]
def b1b (a:a0g):Bool :=
 (decide (a.Kind = 1) && decide (-1000000000 ≤ a.N ∧ a.N ≤ 1000000000) && decide (a.T = [])) ||
 (decide (a.Kind = 2) && decide (a.N = 0) && b6v a.T) ||
 (decide (a.Kind = 3) && decide (0 ≤ a.N ∧ a.N ≤ 1) && decide (a.T = [])) ||
 (decide (a.Kind = 4) && decide (1 ≤ a.N ∧ a.N ≤ 1000000) && decide (a.T = []))
theorem c2h (a:a0g):a7k a = some (b1b a):=by
 unfold a7k a9a b8s b1b
 simp only [b8b,d1v,Option.bind_some]
 by_cases h1:a.Kind = 1
 ·simp only [h1]
  by_cases c:(-1000000000 ≤ a.N ∧ a.N ≤ 1000000000) <;> by_cases d:a.T = [] <;> simp [c,d]
 by_cases h2:a.Kind = 2
 ·simp only [h2]
  by_cases c:a.N = 0 <;> simp [c]
 by_cases h3:a.Kind = 3
 ·simp only [h3]
  by_cases c:(0 ≤ a.N ∧ a.N ≤ 1) <;> by_cases d:a.T = [] <;> simp [c,d]
 by_cases h4:a.Kind = 4
 ·simp only [h4]
  by_cases c:(1 ≤ a.N ∧ a.N ≤ 1000000) <;> by_cases d:a.T = [] <;> simp [c,d]
 ·simp [h1,h2,h3,h4]
def c7z (d:List a0g) (q:Nat) (x:a0g):Bool :=
 b1b x && (match d[0]? with | some h => x.Kind == h.Kind | none => false) && (q == 0 || match d[q - 1]? with | some y => decide (a7u y x < 0) | none => false)
def allS (d:List a0g):List a0g → Nat → Bool
 | [],_ => true
 | x :: xs,i => c7z d i x && allS d xs (i + 1)
def d6d (d:List a0g):Bool:=allS d d 0 && decide ((d.length:Int) ≤ 8)
theorem d4l (d:List a0g):∀ (xs:List a0g) (i:Nat),allS d xs i = true ↔ ∀ q x,xs[q]? = some x → c7z d (i + q) x = true
 | [],i => by simp [allS]
 | x :: xs,i => by
  simp only [allS,Bool.and_eq_true,d4l d xs (i + 1)]
  constructor
  ·rintro ⟨h1,h2⟩ q y hq
   cases q with
   | zero => simp at hq; subst hq; simpa using h1
   | succ q => have:=h2 q y (by simpa using hq); rw [show i + (q + 1) = i + 1 + q from by omega]; exact this
  ·intro h
   refine ⟨by simpa using h 0 x (by simp),fun q y hq => ?_⟩
   have:=h (q + 1) y (by simpa using hq)
   rw [show i + 1 + q = i + (q + 1) from by omega]; exact this
theorem e1t (d:List a0g) (i:Nat) (x:a0g) (hi:i < d.length) (hl:d.length ≤ maxLen) (A:a0g → Option Bool) (hA:∀ a,A a = some (b1b a)) (O:a0g → a0g → Option Int) (hO:∀ a b,O a b = some (a7u a b)) :
  ((A x).bind fun r_110 =>
  if (!r_110) then
  some true
  else
  (idx d 0).bind fun x_113 =>
  if (x.Kind != x_113.Kind) then
  some true
  else
  if (decide ((i:Int) > 0)) then
  (idx d (w64 ((i:Int) - 1))).bind fun x_117 =>
  (O x_117 x).bind fun r_119 =>
  some (decide (r_119 ≥ 0))
  else
  some false:Option Bool) = some (!c7z d i x):=by
 simp only [maxLen] at hl
 obtain ⟨h,hh⟩:∃ h,d[0]? = some h:=⟨d[0],List.getElem?_eq_getElem (by omega)⟩
 have e0:idx d 0 = some h:=by rw [show (0:Int) = ((0:Nat):Int) from rfl,b4r,hh]
 rw [hA,Option.bind_some,e0]
 unfold c7z
 rw [hh]
 by_cases ha:b1b x = true
 ·by_cases hk:x.Kind = h.Kind
  ·by_cases h0:i = 0
   ·subst h0; simp [ha,hk]
   ·obtain ⟨y,hy⟩:∃ y,d[i - 1]? = some y:=⟨d[i - 1],List.getElem?_eq_getElem (by omega)⟩
    have e1:w64 ((i:Int) - 1) = ((i - 1:Nat):Int):=by rw [a3p (by omega)]; omega
    rw [e1,b4r,hy]
    have hp:0 < i:=by omega
    simp [ha,hk,h0,hO,hp]
    by_cases hc:a7u y x < 0
    ·have:¬ 0 ≤ a7u y x:=by omega
     simp [hc,this,h0]
    ·have:0 ≤ a7u y x:=by omega
     simp [hc,this,h0]
  ·simp [ha,hk]
 ·simp only [Bool.not_eq_true] at ha
  simp [ha]
theorem c2i (d:List a0g) (hl:d.length ≤ maxLen):∀ (xs:List a0g) (i:Nat),d.drop i = xs → a5b d xs i = some (if allS d xs i = true then .go () else .ret false)
 | [],i,h => by rw [a5b]; simp [allS]
 | x :: xs,i,h => by
  rw [a5b,e1t d i x (c5p h) hl a7k c2h a6g c7y,Option.bind_some,c2i d hl xs (i + 1) (b0x h)]
  cases hs:c7z d i x <;> simp [allS,hs]
theorem d9a (d:List a0g) (hl:d.length ≤ maxLen):b1t d = some (d6d d):=by
 unfold b1t d6d
 rw [c2i d hl d 0 (by simp)]
 cases allS d d 0 <;> simp
structure b8c (k:Int) (d:List a0g):Prop where
 atom:∀ x ∈ d,b1b x = true ∧ x.Kind = k
 ord:∀ i x y,d[i]? = some x → d[i + 1]? = some y → a7u x y < 0
theorem b8c.allS {k:Int} {d:List a0g} (h:b8c k d):allS d d 0 = true:=by
 rw [d4l]
 intro q x hq
 obtain ⟨h1,h2⟩:=h.atom x (List.mem_of_getElem? hq)
 have hlt:=(List.getElem?_eq_some_iff.1 hq).1
 obtain ⟨z,hz⟩:∃ z,d[0]? = some z:=⟨d[0],List.getElem?_eq_getElem (by omega)⟩
 obtain ⟨_,g2⟩:=h.atom z (List.mem_of_getElem? hz)
 unfold c7z
 simp only [Nat.zero_add,h1,hz,h2,g2,Bool.true_and,beq_self_eq_true]
 by_cases h0:q = 0
 ·simp [h0]
 ·obtain ⟨y,hy⟩:∃ y,d[q - 1]? = some y:=⟨d[q - 1],List.getElem?_eq_getElem (by omega)⟩
  have:=h.ord (q - 1) y x hy (by rw [show q - 1 + 1 = q from by omega]; exact hq)
  simp [hy,this]
theorem c3x (a:a0g):a7j a = some (b1b a):=by
 unfold a7j b1b
 simp only [e3o,d6c,Option.bind_some]
 by_cases h1:a.Kind = 1
 ·simp only [h1]
  by_cases c:(-1000000000 ≤ a.N ∧ a.N ≤ 1000000000) <;> by_cases d:a.T = [] <;> simp [c,d]
 by_cases h2:a.Kind = 2
 ·simp only [h2]
  by_cases c:a.N = 0 <;> simp [c]
 by_cases h3:a.Kind = 3
 ·simp only [h3]
  by_cases c:(0 ≤ a.N ∧ a.N ≤ 1) <;> by_cases d:a.T = [] <;> simp [c,d]
 by_cases h4:a.Kind = 4
 ·simp only [h4]
  by_cases c:(1 ≤ a.N ∧ a.N ≤ 1000000) <;> by_cases d:a.T = [] <;> simp [c,d]
 ·simp [h1,h2,h3,h4]
theorem b9k (d:List a0g) (hl:d.length ≤ maxLen):∀ (xs:List a0g) (i:Nat),d.drop i = xs → a4y d xs i = some (if allS d xs i = true then .go () else .ret false)
 | [],i,h => by rw [a4y]; simp [allS]
 | x :: xs,i,h => by
  rw [a4y,e1t d i x (c5p h) hl a7j c3x a7q d7r,Option.bind_some,b9k d hl xs (i + 1) (b0x h)]
  cases hs:c7z d i x <;> simp [allS,hs]
theorem d6e (d:List a0g):b1m d = some (d6d d):=by
 unfold b1m d6d
 by_cases h:(d.length:Int) > 4096
 ·rw [if_pos (by simpa using h)]
  have:¬ (d.length:Int) ≤ 8:=by omega
  simp [this]
 ·rw [if_neg (by simpa using h),b9k d (by simp only [maxLen]; omega) d 0 (by simp)]
  cases allS d d 0 <;> simp
def isLet (c:Int):Bool:=(decide (97 ≤ c) && decide (c ≤ 122)) || (decide (65 ≤ c) && decide (c ≤ 90)) || c == 95
def c4p (c:Int):Bool:=decide (48 ≤ c) && decide (c ≤ 57)
theorem c4q (c:Int):a7z c = some (isLet c):=by
 unfold a7z isLet
 by_cases h1:97 ≤ c <;> by_cases h2:c ≤ 122 <;> by_cases h3:65 ≤ c <;> by_cases h4:c ≤ 90 <;> by_cases h5:c = 95 <;> simp [h1,h2,h3,h4,h5]
theorem d6f (c:Int):b0j c = some (c4p c):=by
 unfold b0j c4p
 by_cases h1:48 ≤ c <;> simp [h1]
theorem d9b (c:Int):b1q c = some (c4p c):=by
 unfold b1q c4p
 by_cases h1:48 ≤ c <;> simp [h1]
def b6m (b:UInt8):Bool:=isLet b.toNat || c4p b.toNat
def b8d (t:Str):Bool:=decide (1 ≤ t.length) && decide (t.length ≤ 40) && isLet (t.headD 0).toNat && (t.drop 1).all b6m
theorem c2j:∀ (t:Str),a4x t = some (if t.all b6m then .go () else .ret false)
 | [] => by rw [a4x]; rfl
 | c :: t => by
  rw [a4x,c4q,Option.bind_some,d6f,c2j t]
  cases h1:isLet (c.toNat:Int) <;> cases h2:c4p (c.toNat:Int) <;> simp [b6m,h1,h2]
theorem d9c (t:Str):b1l t = some (b8d t):=by
 unfold b1l b8d
 cases t with
 | nil => rfl
 | cons c t =>
  have e:idx (c :: t) 0 = some c:=rfl
  rw [e,Option.bind_some,c4q,Option.bind_some,c2j]
  have e1:decide (((c :: t).length:Int) < 1) = false:=decide_eq_false (by simp only [List.length_cons]; omega)
  have e2:decide (1 ≤ (c :: t).length) = true:=decide_eq_true (by simp only [List.length_cons]; omega)
  rw [e1,e2]
  by_cases h:(c :: t).length ≤ 40
  ·have e3:decide (((c :: t).length:Int) > 40) = false:=decide_eq_false (by omega)
   have e4:decide ((c :: t).length ≤ 40) = true:=decide_eq_true h
   rw [e3,e4]
   cases h1:isLet (c.toNat:Int) <;> cases h3:t.all b6m <;> simp [h1,h3]
  ·have e3:decide (((c :: t).length:Int) > 40) = true:=decide_eq_true (by omega)
   have e4:decide ((c :: t).length ≤ 40) = false:=decide_eq_false h
   rw [e3,e4]
   simp
theorem d1w (t:Str):b2w t = some (b8d t):=by
 unfold b2w
 rw [d9c]; rfl
def d4m (p:UInt8 × Nat):Bool:=isLet p.1.toNat || (p.2 != 0 && c4p p.1.toNat)
theorem c4r:∀ (t:Str) (i:Nat),a5m t i = some (if (t.zipIdx i).all d4m then .go () else .ret false)
 | [],i => by rw [a5m]; rfl
 | c :: t,i => by
  have e0:((i:Int) == 0) = (i == 0):=by cases i <;> simp; omega
  rw [a5m,c4r t (i + 1),List.zipIdx_cons,List.all_cons,d9b,e0]
  unfold d4m isLet
  generalize (List.zipIdx t (i + 1)).all _ = A
  generalize c4p (c.toNat:Int) = D
  generalize (c.toNat:Int) = n
  by_cases h1:97 ≤ n <;> by_cases h2:n ≤ 122 <;> by_cases h3:65 ≤ n <;> by_cases h4:n ≤ 90 <;> by_cases h5:n = 95 <;> cases D <;> by_cases h0:i = 0 <;> simp [h1,h2,h3,h4,h5,h0]
theorem e1u (t:Str):b2y t = some (b8d t):=by
 unfold b2y b8d
 rw [c4r,Option.bind_some]
 have hz:∀ (r:Str) (k:Nat),(r.zipIdx (k + 1)).all d4m = r.all b6m:=by
  intro r
  induction r with
  | nil => intro k; rfl
  | cons c r ih => intro k; simp only [List.zipIdx_cons,List.all_cons,ih (k + 1)]; rfl
 cases t with
 | nil => simp [b8b]
 | cons c t =>
  rw [List.zipIdx_cons,List.all_cons,hz t 0]
  have hl:decide (1 ≤ (c :: t).length) = true:=decide_eq_true (by simp)
  have e:d4m (c,0) = isLet (c.toNat:Int):=by simp [d4m]
  rw [e,hl,b8b,Bool.decide_and]
  have e2:decide ((1:Int) ≤ ((c :: t).length:Int)) = true:=decide_eq_true (by simp only [List.length_cons]; omega)
  have e3:decide (((c :: t).length:Int) ≤ 40) = decide ((c :: t).length ≤ 40):=by rw [decide_eq_decide]; omega
  rw [e2,e3]
  show _ = some ((true && _ && isLet (c.toNat:Int)) && t.all b6m)
  cases isLet (c.toNat:Int) <;> cases t.all b6m <;> simp
theorem d6g (x y:a0g):(x.Kind == y.Kind && (x.N == y.N && (x.T == y.T && true))) = decide (x = y):=by
 cases x; cases y
 rw [Bool.eq_iff_iff]
 simp
theorem d4n (a:a0g):∀ d:List a0g,a5l a d = some (if a ∈ d then .ret true else .go ())
 | [] => by rw [a5l]; simp
 | x :: xs => by
  rw [a5l,d6g,d4n a xs]
  by_cases h:x = a
  ·subst h; simp
  ·simp [h,Ne.symm h]
theorem f1e (d:List a0g) (a:a0g):b2v d a = some (decide (a ∈ d)):=by
 unfold b2v
 rw [d4n]
 by_cases h:a ∈ d <;> simp [h]
theorem d0n (d:List a0g) (a:a0g):∀ (n k:Nat),n < k → n ≤ d.length → d.length ≤ 2 ^ 29 → ∃ m:Nat,a3u d a k n = some (m:Int) ∧ m ≤ n ∧ (∀ x,0 < m → d[m - 1]? = some x → a7u x a ≤ 0) ∧ (∀ j x,m ≤ j → j < n → d[j]? = some x → 0 < a7u x a)
 | _,0,h,_,_ => by omega
 | 0,k + 1,_,_,_ => by
  refine ⟨0,?_,by omega,by omega,by omega⟩
  rw [a3u,if_neg (by simp),Option.bind_some,if_neg (by simp)]
 | n + 1,k + 1,h,hn,hl => by
  obtain ⟨y,hy⟩:∃ y,d[n]? = some y:=⟨d[n],List.getElem?_eq_getElem (by omega)⟩
  have ew:w64 (((n + 1:Nat):Int) - 1) = (n:Int):=by rw [a3p (by omega)]; omega
  rw [a3u,if_pos (by simp),ew,if_pos (show (0:Int) ≤ (n:Int) ∧ (n:Int) < (d.length:Int) by omega),show 0 + (n:Int).toNat = n by omega,hy,Option.bind_some,d7r,Option.bind_some,Option.bind_some]
  by_cases hc:a7u y a > 0
  ·rw [if_pos (by simpa using hc)]
   obtain ⟨m,e,h1,h2,h3⟩:=d0n d a n k (by omega) (by omega) hl
   refine ⟨m,e,by omega,h2,fun j x hj1 hj2 hx => ?_⟩
   by_cases hjn:j = n
   ·subst hjn; rw [hy] at hx; rw [← Option.some.inj hx]; exact hc
   ·exact h3 j x hj1 (by omega) hx
  ·rw [if_neg (by simpa using hc)]
   refine ⟨n + 1,rfl,by omega,fun x _ hx => ?_,by omega⟩
   rw [show n + 1 - 1 = n from by omega,hy] at hx
   rw [← Option.some.inj hx]; omega
theorem d7s (d:List a0g) (a:a0g) (k i:Nat) (hk:k ≤ d.length):(d.take k ++ a :: d.drop k)[i]? = if i < k then d[i]? else if i = k then some a else d[i - 1]?:=by
 by_cases h1:i < k
 ·rw [if_pos h1,List.getElem?_append_left (by simp; omega),List.getElem?_take_of_lt h1]
 ·rw [if_neg h1,List.getElem?_append_right (by simp; omega)]
  have hl:(d.take k).length = k:=by simp; omega
  rw [hl]
  by_cases h2:i = k
  ·subst h2; simp
  ·rw [if_neg h2,show i - k = (i - k - 1) + 1 from by omega,List.getElem?_cons_succ,List.getElem?_drop]
   congr 1; omega
theorem e4z (k:Int) (d:List a0g) (a:a0g) (hs:b8c k d) (ha:b1b a = true) (hk:a.Kind = k) (hl:d.length < 2 ^ 29):∃ d',a9q d a = some d' ∧ b8c k d' ∧ (∀ x,x ∈ d' ↔ x = a ∨ x ∈ d) ∧ d'.length ≤ d.length + 1:=by
 have hf:2 ^ 40 < FUEL:=by unfold FUEL; decide
 unfold a9q
 rw [f1e,Option.bind_some]
 by_cases hm:a ∈ d
 ·rw [if_pos (by simpa using hm)]
  exact ⟨d,rfl,hs,fun x => ⟨.inr,fun h => h.elim (fun h => h ▸ hm) id⟩,by omega⟩
 ·rw [if_neg (by simpa using hm)]
  obtain ⟨m,e,h1,h2,h3⟩:=d0n d a d.length FUEL (by omega) (by omega) (by omega)
  have et:(d.drop (m:Int).toNat).take (d.length - (m:Int).toNat) = d.drop (m:Int).toNat:=List.take_of_length_le (by simp)
  rw [e,Option.bind_some,et,if_pos (by omega),if_pos (by omega),if_pos (by simp; omega),if_pos (by simp; omega),if_pos (by simp; omega)]
  simp only [List.nil_append,Int.toNat_natCast,List.append_assoc,List.cons_append,List.nil_append]
  refine ⟨_,rfl,⟨?_,?_⟩,?_,by simp; omega⟩
  ·intro x hx
   simp only [List.mem_append,List.mem_cons] at hx
   rcases hx with hx | rfl | hx
   ·exact hs.atom x (List.mem_of_mem_take hx)
   ·exact ⟨ha,hk⟩
   ·exact hs.atom x (List.mem_of_mem_drop hx)
  ·intro i x y hx hy
   rw [d7s d a m i h1] at hx
   rw [d7s d a m (i + 1) h1] at hy
   by_cases c1:i + 1 < m
   ·rw [if_pos (by omega)] at hx
    rw [if_pos c1] at hy
    exact hs.ord i x y hx hy
   ·rw [if_neg c1] at hy
    by_cases c2:i + 1 = m
    ·rw [if_pos c2] at hy
     rw [if_pos (by omega)] at hx
     have e1:=Option.some.inj hy
     subst e1
     have:=h2 x (by omega) (by rw [show m - 1 = i from by omega]; exact hx)
     have hne:a7u x a ≠ 0:=fun h => hm (by rw [← (b3y x a).1 h]; exact List.mem_of_getElem? hx)
     omega
    ·rw [if_neg c2] at hy
     rw [if_neg (by omega)] at hx
     by_cases c3:i = m
     ·rw [if_pos c3] at hx
      have e1:=Option.some.inj hx
      subst e1
      rw [show i + 1 - 1 = i from by omega] at hy
      have:=h3 i y (by omega) (List.getElem?_eq_some_iff.1 hy).1 hy
      have:=c3w y a
      omega
     ·rw [if_neg c3] at hx
      exact hs.ord (i - 1) x y hx (by rw [show i - 1 + 1 = i + 1 - 1 from by omega]; exact hy)
  ·intro x
   have:x ∈ d ↔ x ∈ d.take m ∨ x ∈ d.drop m:=by rw [← List.mem_append,List.take_append_drop]
   simp only [List.mem_append,List.mem_cons,this]
   constructor
   ·rintro (h | h | h)
    ·exact .inr (.inl h)
    ·exact .inl h
    ·exact .inr (.inr h)
   ·rintro (h | h | h)
    ·exact .inr (.inl h)
    ·exact .inl h
    ·exact .inr (.inr h)
theorem c8a:∀ a b c:Str,Lib.compareBytes a b < 0 → Lib.compareBytes b c < 0 → Lib.compareBytes a c < 0
 | [],[],c => by intro h; simp [Lib.compareBytes] at h
 | [],_ :: _,[] => by intro _ h; simp [Lib.compareBytes] at h
 | [],_ :: _,_ :: _ => by intro _ _; simp [Lib.compareBytes]
 | _ :: _,[],c => by intro h; simp [Lib.compareBytes] at h
 | _ :: _,_ :: _,[] => by intro _ h; simp [Lib.compareBytes] at h
 | a :: xs,b :: ys,c :: zs => by
  have ih:=c8a xs ys zs
  unfold Lib.compareBytes
  rcases c3v a b with h | h | h
  ·rcases c3v b c with g | g | g
   ·have:a < c:=by simp only [UInt8.lt_iff_toNat_lt] at *; omega
    simp [this]
   ·subst g; simp [h]
   ·simp [h,g,b6l g]
  ·subst h
   rcases c3v a c with g | g | g
   ·simp [g]
   ·subst g; simp only [UInt8.lt_irrefl,if_false]; exact ih
   ·simp [g,b6l g]
  ·simp [h,b6l h]
theorem b6n {a b c:a0g} (h:a7u a b < 0) (g:a7u b c < 0):a7u a c < 0:=by
 unfold a7u at *
 by_cases k1:a.Kind = b.Kind
 ·by_cases k2:b.Kind = c.Kind
  ·have k3:a.Kind = c.Kind:=k1.trans k2
   simp only [k1,k2,k3,ne_eq,not_true_eq_false,if_false] at *
   by_cases n1:a.N = b.N
   ·by_cases n2:b.N = c.N
    ·have n3:a.N = c.N:=n1.trans n2
     simp only [n1,n2,n3,ne_eq,not_true_eq_false,if_false] at *
     exact c8a _ _ _ h g
    ·have n3:¬ a.N = c.N:=fun e => n2 (n1.symm.trans e)
     simp only [n1,n2,ne_eq,not_true_eq_false,not_false_eq_true,if_false,if_true] at *
     split at g <;> simp_all
   ·by_cases n2:b.N = c.N
    ·have n3:¬ a.N = c.N:=fun e => n1 (e.trans n2.symm)
     simp only [n1,n2,n3,ne_eq,not_true_eq_false,not_false_eq_true,if_false,if_true] at *
     split at h <;> simp_all
    ·simp only [n1,n2,ne_eq,not_false_eq_true,if_true] at h g
     have h':a.N < b.N:=by split at h <;> first | assumption | omega
     have g':b.N < c.N:=by split at g <;> first | assumption | omega
     have n3:¬ a.N = c.N:=by omega
     have n4:a.N < c.N:=by omega
     simp [n3,n4]
  ·have k3:¬ a.Kind = c.Kind:=fun e => k2 (k1.symm.trans e)
   simp only [k2,ne_eq,not_false_eq_true,if_true] at g
   have g':b.Kind < c.Kind:=by split at g <;> first | assumption | omega
   have:a.Kind < c.Kind:=by omega
   simp [k3,this]
 ·simp only [k1,ne_eq,not_false_eq_true,if_true] at h
  have h':a.Kind < b.Kind:=by split at h <;> first | assumption | omega
  by_cases k2:b.Kind = c.Kind
  ·have k3:¬ a.Kind = c.Kind:=fun e => k1 (e.trans k2.symm)
   have:a.Kind < c.Kind:=by omega
   simp [k3,this]
  ·simp only [k2,ne_eq,not_false_eq_true,if_true] at g
   have g':b.Kind < c.Kind:=by split at g <;> first | assumption | omega
   have k3:¬ a.Kind = c.Kind:=by omega
   have:a.Kind < c.Kind:=by omega
   simp [k3,this]
theorem b8e (a:a0g):¬ a7u a a < 0:=by have:=(b3y a a).2 rfl; omega
def b1z (d:List a0g):Prop:=d.Pairwise fun a b => a7u a b < 0
theorem b9l:∀ (d:List a0g),(∀ i x y,d[i]? = some x → d[i + 1]? = some y → a7u x y < 0) → b1z d
 | [],_ => .nil
 | [a],_ => List.pairwise_singleton _ _
 | a :: b :: l,h => by
  have ih:b1z (b :: l):=b9l (b :: l) (fun i x y hx hy => h (i + 1) x y (by simpa using hx) (by simpa using hy))
  have hab:a7u a b < 0:=h 0 a b rfl rfl
  refine List.pairwise_cons.2 ⟨fun c hc => ?_,ih⟩
  rcases List.mem_cons.1 hc with rfl | hc
  ·exact hab
  ·exact b6n hab ((List.pairwise_cons.1 ih).1 c hc)
theorem b1z.adj {d:List a0g} (h:b1z d):∀ i x y,d[i]? = some x → d[i + 1]? = some y → a7u x y < 0:=by
 intro i x y hx hy
 obtain ⟨hi,rfl⟩:=List.getElem?_eq_some_iff.1 hx
 obtain ⟨hj,rfl⟩:=List.getElem?_eq_some_iff.1 hy
 exact List.pairwise_iff_getElem.1 h i (i + 1) hi hj (by omega)
theorem b1z.ext:∀ {a b:List a0g},b1z a → b1z b → (∀ x,x ∈ a ↔ x ∈ b) → a = b
 | [],[],_,_,_ => rfl
 | [],y :: _,_,_,h => absurd ((h y).2 (by simp)) (by simp)
 | x :: _,[],_,_,h => absurd ((h x).1 (by simp)) (by simp)
 | x :: xs,y :: ys,ha,hb,h => by
  obtain ⟨ha1,ha2⟩:=List.pairwise_cons.1 ha
  obtain ⟨hb1,hb2⟩:=List.pairwise_cons.1 hb
  have hxy:x = y:=by
   rcases List.mem_cons.1 ((h x).1 (by simp)) with e | e
   ·exact e
   ·rcases List.mem_cons.1 ((h y).2 (by simp)) with e' | e'
    ·exact e'.symm
    ·exact absurd (b6n (ha1 y e') (hb1 x e)) (b8e _)
  subst hxy
  refine congrArg (x :: ·) (b1z.ext ha2 hb2 (fun z => ?_))
  have hz:=h z
  simp only [List.mem_cons] at hz
  constructor
  ·intro q
   rcases hz.1 (.inr q) with e | e
   ·subst e; exact absurd (ha1 z q) (b8e _)
   ·exact e
  ·intro q
   rcases hz.2 (.inr q) with e | e
   ·subst e; exact absurd (hb1 z q) (b8e _)
   ·exact e
theorem b8c.strict {k:Int} {d:List a0g} (h:b8c k d):b1z d:=b9l d h.ord
theorem b8c.of {k:Int} {d:List a0g} (h1:∀ x ∈ d,b1b x = true ∧ x.Kind = k) (h2:b1z d):b8c k d:=⟨h1,h2.adj⟩
def e5a (d:List a0g):Prop:=d.Pairwise fun a b => a7u a b ≤ 0
theorem c9e {a b c:a0g} (h:a7u a b ≤ 0) (g:a7u b c ≤ 0):a7u a c ≤ 0:=by
 by_cases h0:a7u a b = 0
 ·rw [(b3y a b).1 h0]; exact g
 ·by_cases g0:a7u b c = 0
  ·rw [← (b3y b c).1 g0]; exact h
  ·have:=b6n (a:=a) (b:=b) (c:=c) (by omega) (by omega); omega
def dd:a0g → List a0g → List a0g
 | _,[] => []
 | a,z :: t => if z = a then dd a t else z :: dd z t
theorem d1x (x:a0g):∀ (t:List a0g) (a:a0g),x ∈ a :: dd a t ↔ x ∈ a :: t
 | [],a => by simp [dd]
 | z :: t,a => by
  unfold dd
  by_cases e:z = a
  ·subst e; rw [if_pos rfl,d1x x t z]; simp
  ·rw [if_neg e,List.mem_cons,d1x x t z,List.mem_cons (a:=x) (b:=a)]
theorem c8b:∀ (t:List a0g) (a:a0g),(dd a t).length ≤ t.length
 | [],a => by simp [dd]
 | z :: t,a => by
  unfold dd
  have h1:=c8b t a
  have h2:=c8b t z
  by_cases e:z = a
  ·rw [if_pos e]; simp only [List.length_cons]; omega
  ·rw [if_neg e]; simp only [List.length_cons]; omega
theorem c3y:∀ (t:List a0g) (a:a0g),e5a (a :: t) → b1z (a :: dd a t)
 | [],a,_ => List.pairwise_singleton _ _
 | z :: t,a,h => by
  obtain ⟨h1,h2⟩:=List.pairwise_cons.1 h
  unfold dd
  by_cases e:z = a
  ·subst e; rw [if_pos rfl]; exact c3y t z h2
  ·rw [if_neg e]
   have haz:a7u a z < 0:=by
    have:=h1 z (by simp)
    have h0:a7u a z ≠ 0:=fun q => e ((b3y a z).1 q).symm
    omega
   refine List.pairwise_cons.2 ⟨fun c hc => ?_,c3y t z h2⟩
   have hc':=(d1x c t z).1 hc
   rcases List.mem_cons.1 hc' with rfl | hc'
   ·exact haz
   ·have hzc:=(List.pairwise_cons.1 h2).1 c hc'
    by_cases hz:a7u z c = 0
    ·rw [← (b3y z c).1 hz]; exact haz
    ·exact b6n haz (by omega)
theorem d1y {α:Type} (p s:List α) (x:α):(p ++ x :: s)[p.length]? = some x:=by simp
theorem d7t {α:Type} (p s:List α) (x y:α):(p ++ x :: s).set p.length y = p ++ y :: s:=by
 rw [List.set_append_right _ _ (Nat.le_refl _),Nat.sub_self,List.set_cons_zero]
theorem e3p:2 ^ 40 < FUEL:=by unfold FUEL; decide
theorem c2k (s0:List a0g) (k0:Nat):∀ (t c g:List a0g) (y:a0g) (k k2:Nat),t.length < k → (c ++ (g ++ y :: t)).length = s0.length → c.length + g.length + 1 = k0 + k2 → s0.length ≤ 2 ^ 20 → 1 ≤ k2 → ∃ R,a0r s0 k0 k (c.length:Int) (k2:Int) (c ++ (g ++ y :: t)) = some ((((c ++ dd y t).length:Nat):Int),R) ∧ R.length = s0.length ∧ R.take (c ++ dd y t).length = c ++ dd y t
 | _,_,_,_,0,_,h,_,_,_,_ => by omega
 | [],c,g,y,k + 1,k2,_,hn,hp,hl,h2 => by
  refine ⟨c ++ (g ++ [y]),?_,hn,by simp [dd]⟩
  simp only [List.length_append,List.length_cons,List.length_nil] at hn
  rw [a0r,if_neg (by simp; omega)]
  simp [dd]
 | z :: t,c,g,y,k + 1,k2,hk,hn,hp,hl,h2 => by
  have hn0:=hn
  simp only [List.length_append,List.length_cons] at hn hk
  have e1:decide ((k2:Int) < (((s0.length - k0):Nat):Int)) = true:=decide_eq_true (by omega)
  have b1:0 ≤ (k2:Int) ∧ (k2:Int) < (((s0.length - k0):Nat):Int):=by omega
  have e2:w64 ((k2:Int) - 1) = ((k2 - 1:Nat):Int):=by rw [a3p (by omega)]; omega
  have b2:0 ≤ ((k2 - 1:Nat):Int) ∧ ((k2 - 1:Nat):Int) < (((s0.length - k0):Nat):Int):=by omega
  have g1:(c ++ (g ++ y :: z :: t))[k0 + ((k2:Nat):Int).toNat]? = some z:=by
   have:=d1y (c ++ g ++ [y]) t z
   have el:(c ++ g ++ [y]).length = k0 + k2:=by simp; omega
   rw [el] at this
   simpa using this
  have g2:(c ++ (g ++ y :: z :: t))[k0 + ((k2 - 1:Nat):Int).toNat]? = some y:=by
   have:=d1y (c ++ g) (z :: t) y
   have el:(c ++ g).length = k0 + (k2 - 1):=by simp; omega
   rw [el] at this
   simpa using this
  have e3:w64 ((k2:Int) + 1) = ((k2 + 1:Nat):Int):=by rw [a3p (by omega)]; omega
  rw [a0r,if_pos e1,if_pos b1,g1,Option.bind_some,e2,if_pos b2,g2,Option.bind_some,d6g,e3]
  by_cases e:z = y
  ·subst e
   rw [if_neg (by simp)]
   have ed:dd z (z :: t) = dd z t:=by rw [dd,if_pos rfl]
   have ec:c ++ (g ++ z :: z :: t) = c ++ ((g ++ [z]) ++ z :: t):=by simp
   rw [ed,ec]
   exact c2k s0 k0 t c (g ++ [z]) z k (k2 + 1) (by omega) (by rw [← ec]; exact hn0) (by simp; omega) hl (by omega)
  ·have ed:dd y (z :: t) = z :: dd z t:=by rw [dd,if_neg e]
   have b3:0 ≤ (c.length:Int) ∧ (c.length:Int) < ((c ++ (g ++ y :: z :: t)).length:Int):=by simp; omega
   have g3:∃ w,(c ++ (g ++ y :: z :: t))[0 + ((c.length:Nat):Int).toNat]? = some w:=⟨_,List.getElem?_eq_getElem (by simp; omega)⟩
   obtain ⟨w,hw⟩:=g3
   have e4:w64 ((c.length:Int) + 1) = (((c ++ [z]).length:Nat):Int):=by rw [a3p (by omega)]; simp
   rw [if_pos (by simp [e]),if_pos b1,if_pos b3,hw,Option.bind_some,e4,ed]
   have ex:c ++ z :: dd z t = (c ++ [z]) ++ dd z t:=by simp
   rw [ex]
   cases g with
   | nil =>
    have es:(c ++ ([] ++ y :: z :: t)).set (0 + ((c.length:Nat):Int).toNat) z = (c ++ [z]) ++ ([] ++ z :: t):=by
     have:=d7t c (z :: t) y z
     simpa using this
    rw [es]
    exact c2k s0 k0 t (c ++ [z]) [] z k (k2 + 1) (by omega) (by simp at hn ⊢; omega) (by simp at hp ⊢; omega) hl (by omega)
   | cons g0 g' =>
    have es:(c ++ (g0 :: g' ++ y :: z :: t)).set (0 + ((c.length:Nat):Int).toNat) z = (c ++ [z]) ++ ((g' ++ [y]) ++ z :: t):=by
     have:=d7t c (g' ++ y :: z :: t) g0 z
     simpa using this
    rw [es]
    exact c2k s0 k0 t (c ++ [z]) (g' ++ [y]) z k (k2 + 1) (by omega) (by simp at hn ⊢; omega) (by simp at hp ⊢; omega) hl (by omega)
theorem d4o (s:List a0g) (hl:s.length ≤ 2 ^ 20):∀ (xs pre:List a0g) (y:a0g),s = pre ++ y :: xs → a0w s xs (pre.length + 1) = some (if dd y xs = xs then .go () else .ret (pre ++ y :: dd y xs))
 | [],pre,y,_ => by rw [a0w]; simp [dd]
 | x :: xs,pre,y,hs => by
  have hn:s.length = pre.length + 1 + 1 + xs.length:=by rw [hs]; simp; omega
  have e1:w64 ((((pre.length + 1:Nat)):Int) - 1) = ((pre.length:Nat):Int):=by rw [a3p (by omega)]; omega
  have g1:s[0 + ((pre.length:Nat):Int).toNat]? = some y:=by
   have:=d1y pre (x :: xs) y
   rw [← hs] at this
   simpa using this
  have es:s = (pre ++ [y]) ++ x :: xs:=by rw [hs]; simp
  rw [a0w,if_pos (by omega),e1,if_pos (by omega),g1,Option.bind_some,d6g]
  by_cases e:x = y
  ·subst e
   have ed:dd x (x :: xs) = dd x xs:=by rw [dd,if_pos rfl]
   have hne:¬ dd x (x :: xs) = x :: xs:=by
    rw [ed]; intro h
    have:=c8b xs x
    rw [h] at this
    simp only [List.length_cons] at this
    omega
   have hf:=e3p
   rw [if_pos (by simp),if_pos (by omega),if_neg hne,ed]
   obtain ⟨R,h1,h2,h3⟩:=c2k s (pre.length + 1) xs (pre ++ [x]) [] x FUEL 1 (by omega) (by rw [es]; simp) (by simp) hl (by omega)
   have ec:((pre ++ [x]) ++ ([] ++ x :: xs)) = s:=by rw [es]; simp
   have el:(((pre ++ [x]).length:Nat):Int) = ((pre.length + 1:Nat):Int):=by simp
   have h1':a0r s (pre.length + 1) FUEL ((pre.length + 1:Nat):Int) 1 s = some ((((pre ++ [x] ++ dd x xs).length:Nat):Int),R):=by
    rw [ec,el] at h1; exact h1
   rw [h1',Option.bind_some]
   have hle:(pre ++ [x] ++ dd x xs).length ≤ R.length:=by have:=c8b xs x; rw [h2,hn]; simp; omega
   simp only
   rw [if_pos (by omega),if_pos (by omega)]
   have et:(R.take (((pre ++ [x] ++ dd x xs).length:Nat):Int).toNat) = pre ++ x :: dd x xs:=by
    rw [Int.toNat_natCast,h3]; simp
   rw [et]
   have el2:(((pre ++ [x] ++ dd x xs).length:Nat):Int).toNat = (pre ++ x :: dd x xs).length:=by rw [Int.toNat_natCast]; simp
   rw [el2,List.append_assoc,List.take_left']
   rfl
  ·have ed:dd y (x :: xs) = x :: dd x xs:=by rw [dd,if_neg e]
   have e2:pre.length + 1 + 1 = (pre ++ [y]).length + 1:=by simp
   rw [if_neg (by simp [e]),e2,d4o s hl xs (pre ++ [y]) x es,ed]
   by_cases q:dd x xs = xs
   ·rw [if_pos q,if_pos (by rw [q])]
   ·rw [if_neg q,if_neg (by simpa using q)]
    simp
def d4p:List a0g → List a0g
 | [] => []
 | a :: t => a :: dd a t
theorem d9d (s:List a0g) (hl:s.length ≤ 2 ^ 20):a2f s = some (d4p s):=by
 unfold a2f
 cases s with
 | nil => rfl
 | cons a t =>
  cases t with
  | nil => rfl
  | cons b t =>
   rw [if_neg (by simp; omega)]
   have:=d4o (a :: b :: t) hl (b :: t) [] a rfl
   have e:a0w (a :: b :: t) ((a :: b :: t).drop 1) 1 = _:=this
   rw [e]
   by_cases q:dd a (b :: t) = b :: t
   ·rw [if_pos q,d4p,q]; rfl
   ·rw [if_neg q,d4p]; rfl
theorem e3q (x y:a0g):cfA (x.Kind,x.N,x.T) (y.Kind,y.N,y.T) = a7u x y:=by
 unfold cfA orI b6z a7u
 simp only
 rcases Int.lt_trichotomy x.Kind y.Kind with h | h | h
 ·have h2:x.Kind ≠ y.Kind:=by omega
  simp [h,h2]
 ·rcases Int.lt_trichotomy x.N y.N with g | g | g
  ·have h2:x.N ≠ y.N:=by omega
   simp [h,g,h2]
  ·simp [h,g]
  ·have h2:x.N ≠ y.N:=by omega
   have h3:¬ x.N < y.N:=by omega
   simp [h,g,h2,h3]
 ·have h2:x.Kind ≠ y.Kind:=by omega
  have h3:¬ x.Kind < y.Kind:=by omega
  simp [h,h2,h3]
theorem leA (x y:a0g):(!(Go.Proofs.ltOf cfA) (y.Kind,y.N,y.T) (x.Kind,x.N,x.T)) = decide (a7u x y ≤ 0):=by
 have:=c3w x y
 unfold Go.Proofs.ltOf
 rw [e3q]
 by_cases h:a7u y x < 0
 ·rw [decide_eq_true h,decide_eq_false (by omega)]; rfl
 ·rw [decide_eq_false h,decide_eq_true (by omega)]; rfl
theorem d4q (l:List a0g) (h:l.length ≤ 2 ^ 30):∃ d,a2b l = some d ∧ e5a d ∧ d.Perm l:=by
 refine ⟨_,by unfold a2b; rw [if_pos h],?_,List.mergeSort_perm _ _⟩
 simp only [leA]
 have:=List.pairwise_mergeSort (le:=fun x y => decide (a7u x y ≤ 0)) (by
  intro a b c h1 h2
  simp only [decide_eq_true_eq] at *
  exact c9e h1 h2) (by
  intro a b
  have:=c3w a b
  simp only [Bool.or_eq_true,decide_eq_true_eq]
  omega) l
 unfold e5a
 exact this.imp (fun h => by simpa using h)
theorem d4r (l:List a0g) (h:l.length ≤ 2 ^ 19):∃ d,b4k l = some d ∧ b1z d ∧ (∀ x,x ∈ d ↔ x ∈ l) ∧ d.length ≤ l.length:=by
 obtain ⟨s,e,h1,h2⟩:=d4q l (by omega)
 have hlen:=h2.length_eq
 refine ⟨d4p s,?_,?_,?_,?_⟩
 ·unfold b4k a3v
  rw [if_pos (by simp; omega),Option.bind_some,List.nil_append,e,Option.bind_some,d9d s (by omega),Option.bind_some]
 ·cases s with
  | nil => exact .nil
  | cons a t => exact c3y t a h1
 ·intro x
  rw [← h2.mem_iff]
  cases s with
  | nil => rfl
  | cons a t => exact d1x x t a
 ·rw [← hlen]
  cases s with
  | nil => exact Nat.le_refl _
  | cons a t =>
   have:=c8b t a
   simp only [d4p,List.length_cons]
   omega
theorem b9m (k:Int):∀ (xs out:List a0g),b8c k out → (∀ x ∈ xs,b1b x = true ∧ x.Kind = k) → out.length + xs.length ≤ 2 ^ 20 → ∃ d,a4w xs out = some d ∧ b8c k d ∧ (∀ x,x ∈ d ↔ x ∈ out ∨ x ∈ xs) ∧ d.length ≤ out.length + xs.length
 | [],out,h,_,_ => ⟨out,by rw [a4w],h,by simp,by simp⟩
 | x :: xs,out,h,hx,hl => by
  simp only [List.length_cons] at hl
  obtain ⟨d,e,h1,h2,h3⟩:=e4z k out x h (hx x (by simp)).1 (hx x (by simp)).2 (by omega)
  obtain ⟨d2,e2,g1,g2,g3⟩:=b9m k xs d h1 (fun y hy => hx y (by simp [hy])) (by omega)
  refine ⟨d2,?_,g1,fun y => ?_,by simp only [List.length_cons]; omega⟩
  ·rw [a4w,e,Option.bind_some,e2]
  ·rw [g2,h2,List.mem_cons]
   constructor
   ·rintro ((h | h) | h)
    ·exact .inr (.inl h)
    ·exact .inl h
    ·exact .inr (.inr h)
   ·rintro (h | h | h)
    ·exact .inl (.inr h)
    ·exact .inl (.inl h)
    ·exact .inr h
theorem c8c (list:List a0g):∀ xs:List a0g,(∀ x ∈ xs,x ∈ list) → (a3i list xs = some (.go ()) ∧ a4h list xs = some (.go ()) ∧ ∀ x ∈ xs,b1b x = true ∧ ∀ z,list[0]? = some z → x.Kind = z.Kind) ∨ ∃ c,c ≠ 0 ∧ a3i list xs = some (.ret ([],c)) ∧ a4h list xs = some (.ret ([],c))
 | [],_ => .inl ⟨by rw [a3i],by rw [a4h],by simp⟩
 | x :: xs,h => by
  have hx:=h x (by simp)
  obtain ⟨z,hz⟩:∃ z,list[0]? = some z:=by
   cases list with
   | nil => simp at hx
   | cons z l => exact ⟨z,rfl⟩
  have e0:idx list 0 = some z:=by rw [show (0:Int) = ((0:Nat):Int) from rfl,b4r,hz]
  rw [a3i,a4h,c2h,c3x,Option.bind_some,Option.bind_some]
  cases ha:b1b x with
  | false => exact .inr ⟨1,by decide,by simp,by simp⟩
  | true =>
   rw [if_neg (by simp),if_neg (by simp),e0,Option.bind_some,Option.bind_some]
   by_cases hk:x.Kind = z.Kind
   ·rw [if_neg (by simp [hk]),if_neg (by simp [hk])]
    rcases c8c list xs (fun y hy => h y (by simp [hy])) with ⟨h1,h2,h3⟩ | ⟨c,hc,h1,h2⟩
    ·refine .inl ⟨h1,h2,fun y hy => ?_⟩
     rcases List.mem_cons.1 hy with rfl | hy
     ·refine ⟨ha,fun z' hz' => ?_⟩
      rw [hz] at hz'
      cases hz'
      exact hk
     ·exact h3 y hy
    ·exact .inr ⟨c,hc,h1,h2⟩
   ·rw [if_pos (by simp [hk]),if_pos (by simp [hk])]
    exact .inr ⟨9,by decide,rfl,rfl⟩
theorem e1v (list:List a0g) (hl:list.length ≤ 4096):∃ d c,a6t list = some (d,c) ∧ b1i list = some (d,c) ∧ d.length ≤ 8 ∧ (∀ x ∈ d,x ∈ list):=by
 unfold a6t b1i
 rw [if_neg (by simp; omega)]
 rcases c8c list list (fun _ h => h) with ⟨h1,h2,h3⟩ | ⟨c,_,h1,h2⟩
 ·obtain ⟨k,hk⟩:∃ k:Int,∀ x ∈ list,b1b x = true ∧ x.Kind = k:=by
   cases list with
   | nil => exact ⟨0,by simp⟩
   | cons z t => exact ⟨z.Kind,fun x hx => ⟨(h3 x hx).1,(h3 x hx).2 z rfl⟩⟩
  obtain ⟨d,e,s1,s2,s3⟩:=d4r list (by omega)
  obtain ⟨d2,e2,t1,t2,t3⟩:=b9m k list [] (b8c.of (by simp) .nil) hk (by simp; omega)
  have hd:d2 = d:=b1z.ext t1.strict s1 (fun x => by rw [t2,s2]; simp)
  subst hd
  rw [h1,h2]
  unfold b3s
  rw [if_pos (by simp)]
  simp only [Option.bind_some,List.nil_append,e,e2]
  by_cases c:(d2.length:Int) > 8
  ·rw [decide_eq_true c]
   exact ⟨[],6,rfl,rfl,by simp,by simp⟩
  ·rw [decide_eq_false c]
   exact ⟨d2,0,rfl,rfl,by omega,fun x hx => (s2 x).1 hx⟩
 ·rw [h1,h2]
  exact ⟨[],c,rfl,rfl,by simp,by simp⟩
theorem f2f {α:Type} (a b:Bool) (x y:α):(if (bif a then true else b) = true then x else y) = (if a = true then x else if b = true then x else y):=by cases a <;> simp
def keyAt (ks:List Str) (i:Nat):Bool:=match ks[i]? with
 | some x => b6v x && (decide (i = 0) || match ks[i - 1]? with | some y => Op.bytesLess y x | none => false)
 | none => false
theorem c2l (ks:List Str) (hl:ks.length ≤ maxLen):∀ (xs:List Str) (i:Nat),ks.drop i = xs →
  a4i ks xs i = some (.go ()) ∧ (∀ q,i ≤ q → q < ks.length → keyAt ks q = true) ∨ a4i ks xs i = some (.ret false) ∧ ∃ q,i ≤ q ∧ q < ks.length ∧ keyAt ks q = false
 | [],i,h => by
  refine .inl ⟨by rw [a4i],fun q h1 h2 => ?_⟩
  have:=List.drop_eq_nil_iff.1 h
  omega
 | x :: xs,i,h => by
  have hi:=c5p h
  have hx:ks[i]? = some x:=by rw [← b4r]; exact b7o h
  rw [a4i,d1v,Option.bind_some]
  have hnext:=c2l ks hl xs (i + 1) (b0x h)
  simp only [maxLen] at hl
  by_cases ht:b6v x = true
  ·rw [if_neg (by simp [ht])]
   by_cases h0:i = 0
   ·subst h0
    rw [if_neg (by simp),Option.bind_some,if_neg (by simp)]
    have hk:keyAt ks 0 = true:=by unfold keyAt; simp [hx,ht]
    rcases hnext with ⟨e,hq⟩ | ⟨e,q,q1,q2,q3⟩
    ·refine .inl ⟨e,fun q h1 h2 => ?_⟩
     by_cases hq0:q = 0
     ·rw [hq0]; exact hk
     ·exact hq q (by omega) h2
    ·exact .inr ⟨e,q,by omega,q2,q3⟩
   ·rw [if_pos (by simp; omega),a3p (by omega)]
    obtain ⟨y,hy⟩:∃ y,ks[i - 1]? = some y:=⟨ks[i - 1],List.getElem?_eq_getElem (by omega)⟩
    have e1:(i:Int) - 1 = ((i - 1:Nat):Int):=by omega
    rw [e1,b4r,hy,Option.bind_some,Option.bind_some]
    have hk:keyAt ks i = Op.bytesLess y x:=by unfold keyAt; simp [hx,ht,h0,hy]
    by_cases hb:Op.bytesLess y x = true
    ·rw [if_neg (by simp [hb])]
     rcases hnext with ⟨e,hq⟩ | ⟨e,q,q1,q2,q3⟩
     ·refine .inl ⟨e,fun q h1 h2 => ?_⟩
      by_cases hq0:q = i
      ·rw [hq0,hk]; exact hb
      ·exact hq q (by omega) h2
     ·exact .inr ⟨e,q,by omega,q2,q3⟩
    ·simp only [Bool.not_eq_true] at hb
     rw [if_pos (by simp [hb])]
     exact .inr ⟨rfl,i,Nat.le_refl _,hi,by rw [hk,hb]⟩
  ·simp only [Bool.not_eq_true] at ht
   rw [if_pos (by simp [ht]),Option.bind_some,if_pos rfl]
   exact .inr ⟨rfl,i,Nat.le_refl _,hi,by unfold keyAt; simp [hx,ht]⟩
theorem d9e (ks:List Str) (hl:ks.length ≤ maxLen):∃ b,b1o ks = some b ∧ (b = true ↔ ∀ q,q < ks.length → keyAt ks q = true):=by
 unfold b1o
 rcases c2l ks hl ks 0 (by simp) with ⟨e,hq⟩ | ⟨e,q,q1,q2,q3⟩
 ·rw [e]; exact ⟨true,rfl,by simp; exact fun q h => hq q (by omega) h⟩
 ·rw [e]; refine ⟨false,rfl,?_⟩
  simp only [Bool.false_eq_true,false_iff]
  intro h
  rw [h q q2] at q3
  cases q3
def b2a (j:y8):Prop :=
 (j.Kind = 0 ∧ j.N = 0 ∧ j.T = [] ∧ j.Keys = [] ∧ j.Items = []) ∨
 (j.Kind = 1 ∧ (0 ≤ j.N ∧ j.N ≤ 1) ∧ j.T = [] ∧ j.Keys = [] ∧ j.Items = []) ∨
 (j.Kind = 2 ∧ (-1000000000 ≤ j.N ∧ j.N ≤ 1000000000) ∧ j.T = [] ∧ j.Keys = [] ∧ j.Items = []) ∨
 (j.Kind = 3 ∧ j.N = 0 ∧ b6v j.T = true ∧ j.Keys = [] ∧ j.Items = []) ∨
 (j.Kind = 4 ∧ j.N = 0 ∧ j.T = [] ∧ j.Keys = []) ∨
 (j.Kind = 5 ∧ j.N = 0 ∧ j.T = [] ∧ j.Keys.length = j.Items.length ∧ ∀ q,q < j.Keys.length → keyAt j.Keys q = true)
theorem e1w (j:y8) (hl:j.Keys.length ≤ maxLen):∃ b,a8b j = some b ∧ (b = true ↔ b2a j):=by
 obtain ⟨kb,ek,hk⟩:=d9e j.Keys hl
 unfold a8b a9a b2a
 simp only [b8b,d1v,ek,Option.bind_some]
 by_cases h0:j.Kind = 0
 ·simp only [h0]
  by_cases h1:j.N = 0 <;> by_cases h2:j.T = [] <;> by_cases h3:j.Keys = [] <;> by_cases h4:j.Items = [] <;> simp_all
 by_cases h1:j.Kind = 1
 ·simp only [h1]
  by_cases c:(0 ≤ j.N ∧ j.N ≤ 1) <;> by_cases h2:j.T = [] <;> by_cases h3:j.Keys = [] <;> by_cases h4:j.Items = [] <;> simp_all
 by_cases h2:j.Kind = 2
 ·simp only [h2]
  by_cases c:(-1000000000 ≤ j.N ∧ j.N ≤ 1000000000) <;> by_cases h2:j.T = [] <;> by_cases h3:j.Keys = [] <;> by_cases h4:j.Items = [] <;> simp_all
 by_cases h3:j.Kind = 3
 ·simp only [h3]
  by_cases h1:j.N = 0 <;> by_cases h2:b6v j.T = true <;> by_cases h3:j.Keys = [] <;> by_cases h4:j.Items = [] <;> simp_all
 by_cases h4:j.Kind = 4
 ·simp only [h4]
  by_cases h1:j.N = 0 <;> by_cases h2:j.T = [] <;> by_cases h3:j.Keys = [] <;> simp_all
 by_cases h5:j.Kind = 5
 ·simp only [h5]
  by_cases h1:j.N = 0 <;> by_cases h2:j.T = [] <;> by_cases h3:j.Keys.length = j.Items.length <;> simp_all <;> omega
 refine ⟨false,?_,?_⟩
 ·simp [h0,h1,h2,h3,h4,h5]
 ·simp [h0,h1,h2,h3,h4,h5]
def OkD:Nat → y8 → Prop
 | 0,_ => False
 | d + 1,j => b2a j ∧ ∀ y ∈ j.Items,OkD d y
def a5f:Nat → y8 → Int
 | 0,_ => 0
 | d + 1,j => 1 + (j.Items.map (a5f d)).sum
theorem b8f {α:Type} (f:α → Int) (hf:∀ x,0 ≤ f x):∀ l:List α,0 ≤ (l.map f).sum
 | [] => by simp
 | x :: xs => by simp only [List.map_cons,List.sum_cons]; have:=hf x; have:=b8f f hf xs; omega
theorem b3v:∀ (d:Nat) (j:y8),0 ≤ a5f d j
 | 0,j => by simp [a5f]
 | d + 1,j => by simp only [a5f]; have:=b8f (a5f d) (b3v d) j.Items; omega
theorem d4s (R:y8 → Int → Int → Option (Bool × Int)) (d:Nat) (deep:Int):∀ (xs:List y8) (s8:Nat) (room:Int),0 ≤ room → room ≤ 400 →
  (∀ y ∈ xs,∀ room,0 ≤ room → room ≤ 400 → ∃ b room',R y (w64 (deep + 1)) room = some (b,room') ∧ room' ≤ room ∧ (b = true ↔ OkD d y ∧ a5f d y ≤ room) ∧ (b = true → room' = room - a5f d y)) →
  (a0u R xs s8 deep room = some (.go (deep,room - (xs.map (a5f d)).sum)) ∧ (∀ y ∈ xs,OkD d y) ∧ (xs.map (a5f d)).sum ≤ room) ∨
  (∃ (i:Nat) (r':Int),a0u R xs s8 deep room = some (.ret ((i:Int),deep,r')) ∧ r' ≤ room ∧ ¬ ((∀ y ∈ xs,OkD d y) ∧ (xs.map (a5f d)).sum ≤ room))
 | [],s8,room,h0,h1,hR => .inl ⟨by rw [a0u]; simp,by simp,by simpa using h0⟩
 | x :: xs,s8,room,h0,h1,hR => by
  rw [a0u]
  unfold a6s
  obtain ⟨b,r1,e,g1,g2,g3⟩:=hR x (by simp) room h0 h1
  rw [e]
  simp only [Option.bind_some]
  have hs:=b8f (a5f d) (b3v d) xs
  have hx:=b3v d x
  cases b with
  | true =>
   obtain ⟨k1,k2⟩:=g2.1 rfl
   have k3:=g3 rfl
   rw [if_neg (by simp)]
   rcases d4s R d deep xs (s8 + 1) r1 (by omega) (by omega) (fun y hy => hR y (by simp [hy])) with ⟨e2,q1,q2⟩ | ⟨i,r',e2,q1,q2⟩
   ·refine .inl ⟨?_,?_,?_⟩
    ·rw [e2]; simp only [List.map_cons,List.sum_cons]; congr 3; omega
    ·intro y hy
     rcases List.mem_cons.1 hy with rfl | hy
     ·exact k1
     ·exact q1 y hy
    ·simp only [List.map_cons,List.sum_cons]; omega
   ·refine .inr ⟨i,r',e2,by omega,fun ⟨f1,f2⟩ => q2 ⟨fun y hy => f1 y (by simp [hy]),?_⟩⟩
    simp only [List.map_cons,List.sum_cons] at f2
    omega
  | false =>
   rw [if_pos (by simp)]
   refine .inr ⟨s8,r1,rfl,g1,fun ⟨f1,f2⟩ => ?_⟩
   simp only [List.map_cons,List.sum_cons] at f2
   have:=g2.2 ⟨f1 x (by simp),by omega⟩
   cases this
theorem d0p:∀ (k d:Nat) (j:y8) (room:Int),d ≤ 12 → d < k → 0 ≤ room → room ≤ 400 → a6p j →
  ∃ b room',a4r k j (12 - d) room = some (b,room') ∧ room' ≤ room ∧ (b = true ↔ OkD d j ∧ a5f d j ≤ room) ∧ (b = true → room' = room - a5f d j)
 | 0,d,j,room,_,hk,_,_,_ => by omega
 | k + 1,d,j,room,hd,hk,h0,h1,ok => by
  obtain ⟨o1,o2,o3,o4⟩:=ok.parts
  rw [a4r]
  unfold a7v
  rw [a3p (by omega)]
  simp only [f2f]
  by_cases c1:room - 1 < 0
  ·rw [if_pos (by simpa using c1),Option.bind_some,if_pos rfl]
   refine ⟨false,room - 1,rfl,by omega,?_,by simp⟩
   simp only [Bool.false_eq_true,false_iff,not_and]
   intro ho
   cases d with
   | zero => exact ho.elim
   | succ d => simp only [a5f]; have:=b8f (a5f d) (b3v d) j.Items; omega
  rw [if_neg (by simpa using c1)]
  cases d with
  | zero =>
   rw [if_pos (by simp),Option.bind_some,if_pos rfl]
   exact ⟨false,room - 1,rfl,by omega,by simp [OkD],by simp⟩
  | succ d =>
   rw [if_neg (by simp; omega)]
   obtain ⟨pb,ep,hp⟩:=e1w j o2.1
   rw [ep,Option.bind_some,Option.bind_some]
   cases pb with
   | false =>
    rw [if_pos (by simp)]
    refine ⟨false,room - 1,rfl,by omega,?_,by simp⟩
    simp only [Bool.false_eq_true,false_iff,not_and,OkD]
    intro ⟨hn,_⟩
    have:=hp.2 hn
    cases this
   | true =>
    rw [if_neg (by simp)]
    have hdeep:w64 (12 - ((d + 1:Nat):Int) + 1) = 12 - (d:Int):=by rw [a3p (by omega)]; omega
    have hloop:=d4s (a4r k) d (12 - ((d + 1:Nat):Int)) j.Items 0 (room - 1) (by omega) (by omega) (fun y hy rm a1 a2 => by
     rw [hdeep]
     exact d0p k d y rm (by omega) (by omega) a1 a2 (o4 y hy))
    unfold a2k a2v
    rcases hloop with ⟨e2,q1,q2⟩ | ⟨i,r',e2,q1,q2⟩
    ·rw [e2]
     refine ⟨true,room - 1 - (j.Items.map (a5f d)).sum,by simp,?_,?_,?_⟩
     ·have:=b8f (a5f d) (b3v d) j.Items; omega
     ·simp only [true_iff,OkD,a5f]; exact ⟨⟨hp.1 rfl,q1⟩,by omega⟩
     ·intro _; simp only [a5f]; omega
    ·rw [e2]
     refine ⟨false,r',by simp,by omega,?_,by simp⟩
     simp only [Bool.false_eq_true,false_iff,OkD,a5f]
     rintro ⟨⟨_,f1⟩,f2⟩
     exact q2 ⟨f1,by omega⟩
theorem f1f (ks:List Str) (hl:ks.length ≤ maxLen) (i:Nat) (hi:i < ks.length):((idx ks (i:Int)).bind fun x => (a6r x).bind fun r => if (!r) then some true else if (decide ((i:Int) > 0)) then (idx ks (w64 ((i:Int) - 1))).bind fun y => (idx ks (i:Int)).bind fun z => some (!Op.bytesLess y z) else some false) = some (!keyAt ks i):=by
 obtain ⟨x,hx⟩:∃ x,ks[i]? = some x:=⟨ks[i],List.getElem?_eq_getElem hi⟩
 simp only [maxLen] at hl
 rw [b4r,hx,Option.bind_some,d6c,Option.bind_some]
 unfold keyAt
 rw [hx]
 by_cases ht:b6v x = true
 ·simp only [ht]
  by_cases h0:i = 0
  ·subst h0; simp
  ·obtain ⟨y,hy⟩:∃ y,ks[i - 1]? = some y:=⟨ks[i - 1],List.getElem?_eq_getElem (by omega)⟩
   have e1:(i:Int) - 1 = ((i - 1:Nat):Int):=by omega
   rw [a3p (by omega),e1,b4r,hy,if_neg (by simp),if_pos (by simp; omega)]
   simp [h0]
 ·simp only [Bool.not_eq_true] at ht
  simp [ht]
theorem d4t (j:y8) (rec:y8 → Int → Option (Int × Bool)) (d:Nat) (deep:Int) (hkl:j.Kind = 5 → j.Keys.length = j.Items.length) (hl:j.Keys.length ≤ maxLen):∀ (xs:List y8) (n:Int) (i:Nat),j.Items.drop i = xs → 0 ≤ n → n ≤ 400 →
  (∀ y ∈ xs,∃ m b,rec y (w64 (deep - 1)) = some (m,b) ∧ (b = true ↔ OkD d y ∧ a5f d y ≤ 400) ∧ (b = true → m = a5f d y)) →
  (a4g j rec deep xs n i = some (.go (n + (xs.map (a5f d)).sum)) ∧ (∀ y ∈ xs,OkD d y) ∧ n + (xs.map (a5f d)).sum ≤ 400 ∧ (j.Kind = 5 → ∀ q,i ≤ q → q < j.Keys.length → keyAt j.Keys q = true)) ∨
  (a4g j rec deep xs n i = some (.ret (0,false)) ∧ ¬ ((∀ y ∈ xs,OkD d y) ∧ n + (xs.map (a5f d)).sum ≤ 400 ∧ (j.Kind = 5 → ∀ q,i ≤ q → q < j.Keys.length → keyAt j.Keys q = true)))
 | [],n,i,h,h0,h1,hr => by
  refine .inl ⟨by rw [a4g]; simp,by simp,by simpa using h1,fun h5 q a b => ?_⟩
  have:=List.drop_eq_nil_iff.1 h
  have:=hkl h5
  omega
 | x :: xs,n,i,h,h0,h1,hr => by
  have hi:=c5p h
  rw [a4g]
  have hs:=b8f (a5f d) (b3v d) xs
  have hx:=b3v d x
  have key:((if (j.Kind == 5) then
  (idx j.Keys (i:Int)).bind fun x_219 =>
  (a6r x_219).bind fun r_221 =>
  if (!r_221) then
  some true
  else
  if (decide ((i:Int) > 0)) then
  (idx j.Keys (w64 ((i:Int) - 1))).bind fun x_225 =>
  (idx j.Keys (i:Int)).bind fun x_227 =>
  some (!Op.bytesLess x_225 x_227)
  else
  some false
  else
  some false:Option Bool)) = some (decide (j.Kind = 5) && !keyAt j.Keys i):=by
   by_cases h5:j.Kind = 5
   ·rw [if_pos (by simp [h5]),f1f j.Keys hl i (by have:=hkl h5; omega)]
    simp [h5]
   ·rw [if_neg (by simp [h5])]; simp [h5]
  rw [key,Option.bind_some]
  by_cases hk:(decide (j.Kind = 5) && !keyAt j.Keys i) = true
  ·rw [if_pos hk]
   refine .inr ⟨rfl,fun ⟨_,_,f⟩ => ?_⟩
   simp only [Bool.and_eq_true,decide_eq_true_eq,Bool.not_eq_true'] at hk
   have:=f hk.1 i (Nat.le_refl _) (by have:=hkl hk.1; omega)
   rw [this] at hk
   cases hk.2
  ·rw [if_neg hk]
   obtain ⟨m,b,e,g1,g2⟩:=hr x (by simp)
   rw [e,Option.bind_some]
   cases b with
   | false =>
    simp only [Bool.not_false,if_pos,Option.bind_some]
    refine .inr ⟨trivial,fun ⟨f1,f2,_⟩ => ?_⟩
    simp only [List.map_cons,List.sum_cons] at f2
    have:=g1.2 ⟨f1 x (by simp),by omega⟩
    cases this
   | true =>
    have hm:=g2 rfl
    obtain ⟨k1,k2⟩:=g1.1 rfl
    simp only
    rw [if_neg (by simp),Option.bind_some,a3p (by omega)]
    by_cases hc:n + m > 400
    ·rw [if_pos (by simpa using hc)]
     refine .inr ⟨rfl,fun ⟨f1,f2,_⟩ => ?_⟩
     simp only [List.map_cons,List.sum_cons] at f2
     omega
    ·rw [if_neg (by simpa using hc)]
     have hkey:j.Kind = 5 → keyAt j.Keys i = true:=by
      intro h5
      simp only [h5,decide_true,Bool.true_and,Bool.not_eq_true',Bool.not_eq_false] at hk
      exact hk
     rcases d4t j rec d deep hkl hl xs (n + m) (i + 1) (b0x h) (by omega) (by omega) (fun y hy => hr y (by simp [hy])) with ⟨e2,q1,q2,q3⟩ | ⟨e2,q⟩
     ·refine .inl ⟨?_,?_,?_,?_⟩
      ·rw [e2]; simp only [List.map_cons,List.sum_cons]; congr 2; omega
      ·intro y hy
       rcases List.mem_cons.1 hy with rfl | hy
       ·exact k1
       ·exact q1 y hy
      ·simp only [List.map_cons,List.sum_cons]; omega
      ·intro h5 q a b
       by_cases hq:q = i
       ·rw [hq]; exact hkey h5
       ·exact q3 h5 q (by omega) b
     ·refine .inr ⟨e2,fun ⟨f1,f2,f3⟩ => q ⟨fun y hy => f1 y (by simp [hy]),?_,fun h5 q a b => f3 h5 q (by omega) b⟩⟩
      simp only [List.map_cons,List.sum_cons] at f2
      omega
theorem d4u {d:Nat} {j:y8} (h:j.Items = []):a5f (d + 1) j = 1:=by simp [a5f,h]
theorem d7u:∀ (k d:Nat) (j:y8),d < k → d ≤ 12 → a6p j → ∃ n b,a7p k j d = some (n,b) ∧ (b = true ↔ OkD d j ∧ a5f d j ≤ 400) ∧ (b = true → n = a5f d j)
 | 0,d,j,hk,_,_ => by omega
 | k + 1,0,j,hk,hd,ok => by
  rw [a7p]
  unfold b1h
  rw [if_pos (by simp)]
  exact ⟨0,false,rfl,by simp [OkD],by simp⟩
 | k + 1,d + 1,j,hk,hd,ok => by
  obtain ⟨o1,o2,o3,o4⟩:=ok.parts
  rw [a7p]
  unfold b1h
  rw [if_neg (by simp; omega)]
  have hdeep:w64 (((d + 1:Nat):Int) - 1) = (d:Int):=by rw [a3p (by omega)]; omega
  have leaf:∀ c:Bool,(c = true ↔ b2a j) → (b2a j → j.Items = []) → ∃ n b,some ((1:Int),c) = some (n,b) ∧ (b = true ↔ OkD (d + 1) j ∧ a5f (d + 1) j ≤ 400) ∧ (b = true → n = a5f (d + 1) j):=by
   intro c hc hi
   refine ⟨1,c,rfl,?_,fun h => (d4u (hi (hc.1 h))).symm⟩
   rw [hc]
   constructor
   ·intro h
    refine ⟨⟨h,by simp [hi h]⟩,?_⟩
    rw [d4u (hi h)]; omega
   ·rintro ⟨⟨h,_⟩,_⟩; exact h
  have plainE:((if ((j.Keys.length:Int) == 0) then some ((j.Items.length:Int) == 0) else some false:Option Bool)) = some (decide (j.Keys = [] ∧ j.Items = [])):=by
   by_cases h1:j.Keys = [] <;> by_cases h2:j.Items = [] <;> simp [h1,h2]
  rw [plainE,Option.bind_some]
  by_cases k0:j.Kind = 0
  ·rw [if_pos (by simp [k0])]
   have:=leaf (decide (j.Keys = [] ∧ j.Items = []) && decide (j.N = 0) && decide (j.T = [])) (by simp [b2a,k0]; grind) (by simp [b2a,k0])
   by_cases h1:(j.Keys = [] ∧ j.Items = []) <;> by_cases h2:j.N = 0 <;> by_cases h3:j.T = [] <;> simpa [h1,h2,h3] using this
  rw [if_neg (by simp [k0])]
  by_cases k1:j.Kind = 1
  ·rw [if_pos (by simp [k1])]
   simp only [e3o,Option.bind_some]
   have:=leaf (decide (j.Keys = [] ∧ j.Items = []) && decide (0 ≤ j.N ∧ j.N ≤ 1) && decide (j.T = [])) (by simp [b2a,k1]; grind) (by simp [b2a,k1])
   by_cases h1:(j.Keys = [] ∧ j.Items = []) <;> by_cases h2:(0 ≤ j.N ∧ j.N ≤ 1) <;> by_cases h3:j.T = [] <;> simpa [h1,h2,h3] using this
  rw [if_neg (by simp [k1])]
  by_cases k2:j.Kind = 2
  ·rw [if_pos (by simp [k2])]
   simp only [e3o,Option.bind_some]
   have:=leaf (decide (j.Keys = [] ∧ j.Items = []) && decide (-1000000000 ≤ j.N ∧ j.N ≤ 1000000000) && decide (j.T = [])) (by simp [b2a,k2]; grind) (by simp [b2a,k2])
   by_cases h1:(j.Keys = [] ∧ j.Items = []) <;> by_cases h2:(-1000000000 ≤ j.N ∧ j.N ≤ 1000000000) <;> by_cases h3:j.T = [] <;> simpa [h1,h2,h3] using this
  rw [if_neg (by simp [k2])]
  by_cases k3:j.Kind = 3
  ·rw [if_pos (by simp [k3])]
   simp only [d6c,Option.bind_some]
   have:=leaf (decide (j.Keys = [] ∧ j.Items = []) && decide (j.N = 0) && b6v j.T) (by simp [b2a,k3]; grind) (by simp [b2a,k3])
   by_cases h1:(j.Keys = [] ∧ j.Items = []) <;> by_cases h2:j.N = 0 <;> simpa [h1,h2] using this
  rw [if_neg (by simp [k3])]
  by_cases hn:(j.Kind = 4 ∧ j.N = 0 ∧ j.T = [] ∧ j.Keys = []) ∨ (j.Kind = 5 ∧ j.N = 0 ∧ j.T = [] ∧ j.Keys.length = j.Items.length)
  ·have hnode:b2a j ↔ (j.Kind = 5 → ∀ q,q < j.Keys.length → keyAt j.Keys q = true):=by
    rcases hn with ⟨a1,a2,a3,a4⟩ | ⟨a1,a2,a3,a4⟩
    ·simp [b2a,a1,a2,a3,a4]
    ·simp [b2a,a1,a2,a3,a4]
   have hkl:j.Kind = 5 → j.Keys.length = j.Items.length:=by
    intro h5
    rcases hn with ⟨a1,_⟩ | ⟨_,_,_,a4⟩
    ·omega
    ·exact a4
   have hloop:=d4t j (a7p k) d ((d + 1:Nat):Int) hkl o2.1 j.Items 1 0 (by simp) (by omega) (by omega) (fun y hy => by
    rw [hdeep]
    exact d7u k d y (by omega) (by omega) (o4 y hy))
   have hc:(bif (bif (bif (bif (bif (j.Kind != 4) then (j.Kind != 5) else false) then true else (j.N != 0)) then true else (!(j.T == []))) then true else (bif (j.Kind == 4) then (decide ((j.Keys.length:Int) > 0)) else false)) then true else (bif (j.Kind == 5) then ((j.Keys.length:Int) != (j.Items.length:Int)) else false)) = false:=by
    rcases hn with ⟨a1,a2,a3,a4⟩ | ⟨a1,a2,a3,a4⟩
    ·simp [a1,a2,a3,a4]
    ·simp [a1,a2,a3,a4]
   simp only [hc,Option.bind_some,Bool.false_eq_true,if_false]
   rcases hloop with ⟨e2,q1,q2,q3⟩ | ⟨e2,q⟩
   ·rw [e2]
    refine ⟨_,true,rfl,?_,fun _ => by simp only [a5f]⟩
    simp only [true_iff,OkD,a5f]
    exact ⟨⟨hnode.2 fun h5 q hq => q3 h5 q (by omega) hq,q1⟩,q2⟩
   ·rw [e2]
    refine ⟨0,false,rfl,?_,by simp⟩
    simp only [Bool.false_eq_true,false_iff,OkD,a5f]
    rintro ⟨⟨f1,f2⟩,f3⟩
    exact q ⟨f2,f3,fun h5 q _ hq => hnode.1 f1 h5 q hq⟩
  ·have hnn:¬ b2a j:=by
    intro h
    apply hn
    unfold b2a at h
    rcases h with h | h | h | h | h | h
    ·exact absurd h.1 k0
    ·exact absurd h.1 k1
    ·exact absurd h.1 k2
    ·exact absurd h.1 k3
    ·exact .inl h
    ·exact .inr ⟨h.1,h.2.1,h.2.2.1,h.2.2.2.1⟩
   refine ⟨0,false,?_,by simp [OkD,hnn],by simp⟩
   by_cases k4:j.Kind = 4
   ·simp only [k4]
    by_cases h1:j.N = 0 <;> by_cases h2:j.T = [] <;> by_cases h3:j.Keys = [] <;> simp [h1,h2,h3,List.length_pos_iff] <;> simp_all
   ·by_cases k5:j.Kind = 5
    ·simp only [k5]
     by_cases h1:j.N = 0 <;> by_cases h2:j.T = [] <;> by_cases h3:j.Keys.length = j.Items.length <;> simp [h1,h2,h3] <;> first | (intro h; omega) | simp_all
    ·simp [k4,k5]
theorem e3r:2 ^ 40 < FUEL:=by unfold FUEL; decide
theorem c9f (j:y8) (ok:a6p j):∃ b,b2x j = some b ∧ b2u j = some b ∧ (b = true ↔ OkD 12 j ∧ a5f 12 j ≤ 400):=by
 have hf:=e3r
 obtain ⟨b,room',e1,_,h1,_⟩:=d0p FUEL 12 j 400 (by omega) (by omega) (by omega) (by omega) ok
 obtain ⟨n,b',e2,h2,_⟩:=d7u FUEL 12 j (by omega) (by omega) ok
 have hb:b = b':=by rw [Bool.eq_iff_iff,h1,h2]
 refine ⟨b,?_,?_,h1⟩
 ·unfold b2x
  have:(12:Int) - ((12:Nat):Int) = 0:=by decide
  rw [this] at e1
  rw [e1,Option.bind_some]
 ·unfold b2u
  have e2':a7p FUEL j 12 = some (n,b'):=e2
  rw [e2',Option.bind_some,hb]
theorem d4v (j:y8):(∃ x y,j.Kind = 4 ∧ j.Items = [x,y] ∧ x.Kind = 3 ∧ ∀ w,a3t j w = some (if x.T = w then (y,true) else (⟨0,0,[],[],[]⟩,false))) ∨ ∀ w,a3t j w = some (⟨0,0,[],[],[]⟩,false):=by
 unfold a3t
 by_cases k4:j.Kind = 4
 ·by_cases h2:j.Items.length = 2
  ·obtain ⟨x,y,hxy⟩:∃ x y,j.Items = [x,y]:=by
    match hj:j.Items,h2 with
    | [x,y],_ => exact ⟨x,y,rfl⟩
   have e0:idx j.Items 0 = some x:=by rw [hxy]; rfl
   have e1:idx j.Items 1 = some y:=by rw [hxy]; rfl
   by_cases h3:x.Kind = 3
   ·refine .inl ⟨x,y,k4,hxy,h3,fun w => ?_⟩
    rw [if_neg (by simp [k4,h2])]
    simp only [e0,e1,Option.bind_some]
    by_cases h4:x.T = w <;> simp [h3,h4]
   ·refine .inr fun w => ?_
    rw [if_neg (by simp [k4,h2])]
    simp only [e0,e1,Option.bind_some]
    simp [h3]
  ·refine .inr fun w => ?_
   rw [if_pos (by simp; omega)]
   rfl
 ·refine .inr fun w => ?_
  rw [if_pos (by simp [k4])]
  rfl
theorem d1z (j:y8) (w:Str):a6z j w = a3t j w:=by
 unfold a6z a3t
 rfl
theorem b5q (a:a0g):∃ b,a7k a = some b ∧ a7j a = some b ∧ (a.Kind = 0 → b = false) ∧ (b = true → b1b a = true) :=
 ⟨b1b a,c2h a,c3x a,fun h => by unfold b1b; simp [h],id⟩
def c2n (r:a0g × Bool):a0g × Bool:=if r.2 = true then r else (⟨0,0,[]⟩,false)
theorem d0q (j:y8):∃ r s,a6w j = some r ∧ a7c j = some s ∧ c2n r = s ∧ (r.2 = true → b1b r.1 = true) ∧ ((∀ w,a3t j w = some (⟨0,0,[],[],[]⟩,false)) ∨ r.2 = true → True):=by
 unfold a6w a7c
 by_cases k2:j.Kind = 2
 ·obtain ⟨b,e1,e2,_,e3⟩:=b5q ⟨1,j.N,[]⟩
  simp only [k2]
  simp only [beq_self_eq_true,if_pos,Option.bind_some,e1,e2]
  cases b <;> simp [c2n] <;> simpa using e3
 by_cases k3:j.Kind = 3
 ·obtain ⟨b,e1,e2,_,e3⟩:=b5q ⟨2,0,j.T⟩
  simp only [k3]
  simp [e1,e2]
  cases b <;> simp [c2n] <;> simpa using e3
 by_cases k1:j.Kind = 1
 ·obtain ⟨b,e1,e2,_,e3⟩:=b5q ⟨3,j.N,[]⟩
  simp only [k1]
  simp [e1,e2]
  cases b <;> simp [c2n] <;> simpa using e3
 have c2:(j.Kind == 2) = false:=by simp [k2]
 have c3:(j.Kind == 3) = false:=by simp [k3]
 have c1:(j.Kind == 1) = false:=by simp [k1]
 simp only [c1,c2,c3,d1z,Bool.false_eq_true,if_false]
 rcases d4v j with ⟨x,y,k4,_,_,hw⟩ | hw
 ·rw [if_pos (by simp [k4])]
  simp only [hw,Option.bind_some]
  by_cases hx:x.T = [117,117,105,100]
  ·obtain ⟨b,e1,e2,_,e3⟩:=b5q ⟨4,y.N,[]⟩
   simp only [hx,if_true]
   by_cases h2:y.Kind = 2
   ·simp [h2,e1,e2]
    cases b <;> simp [c2n] <;> simpa using e3
   ·simp [h2,c2n]
  ·simp [hx,c2n]
 ·by_cases k4:j.Kind = 4
  ·rw [if_pos (by simp [k4])]
   simp only [hw,Option.bind_some]
   simp [c2n]
  ·obtain ⟨b,e1,e2,hb0,_⟩:=b5q ⟨0,0,[]⟩
   have hb1:b = false:=hb0 rfl
   subst hb1
   rw [if_neg (by simp [k4])]
   simp only [hw,Option.bind_some]
   simp [e1,c2n]
theorem d6h (j x y:y8) (k4:j.Kind = 4) (hx:x.T ≠ [117,117,105,100]) (hw:∀ w,a3t j w = some (if x.T = w then (y,true) else (⟨0,0,[],[],[]⟩,false))):∃ a,a6w j = some (a,false):=by
 unfold a6w
 simp [k4,d1z,hw,hx]
theorem d2a:∀ (xs:List y8) (out:List a0g),out.length + xs.length ≤ 2 ^ 20 → (∃ d,a1y xs out = some (.go d) ∧ a3b xs out = some (.go d) ∧ d.length = out.length + xs.length) ∨ (a1y xs out = some (.ret ([],false)) ∧ a3b xs out = some (.ret ([],false)))
 | [],out,_ => .inl ⟨out,by rw [a1y],by rw [a3b],by simp⟩
 | x :: xs,out,h => by
  simp only [List.length_cons] at h
  obtain ⟨r,s,e1,e2,e3,_⟩:=d0q x
  rw [a1y,a3b,e1,e2,Option.bind_some,Option.bind_some]
  subst e3
  obtain ⟨a,b⟩:=r
  cases b with
  | false => exact .inr ⟨by simp,by simp [c2n]⟩
  | true =>
   simp only [c2n,if_true,Bool.not_true,Bool.false_eq_true,if_false]
   rw [if_pos (by simp; omega),if_pos (by simp; omega)]
   rcases d2a xs (out ++ [a]) (by simp; omega) with ⟨d,h1,h2,h3⟩ | h
   ·exact .inl ⟨d,h1,h2,by rw [h3]; simp; omega⟩
   ·exact .inr h
theorem f1g (a:a0g) (h:b1b a = true):a6t [a] = some ([a],0):=by
 obtain ⟨d,c,e,e2,h8,hm⟩:=e1v [a] (by simp)
 unfold a6t at e ⊢
 rcases c8c [a] [a] (fun _ h => h) with ⟨h1,_,_⟩ | ⟨c',_,h1,h2⟩
 ·obtain ⟨d',g1,g2,g3,g4⟩:=d4r [a] (by simp)
  rw [h1,g1]
  have:d' = [a]:=b1z.ext g2 (List.pairwise_singleton _ _) g3
  subst this
  simp
 ·rw [a3i,c2h,h] at h1
  simp [idx,a3i] at h1
theorem c4s (j:y8) (hl:∀ y ∈ j.Items,y.Items.length ≤ 4096):∃ d d' b,a9r j = some (d,b) ∧ a8q j = some (d',b) ∧ (b = true → d' = d ∧ d.length ≤ 8):=by
 unfold a9r a8q a9f
 rw [d1z]
 have one:∀ (a:a0g) (b:Bool),a6w j = some (a,b) → (b = true → b1b a = true) → ∃ d,((a1y [j] []).bind fun q => (match q with
   | .ret r => some r
   | .go list_34 => (a6t list_34).bind fun r_47 => some (r_47.1,(r_47.2 == 0)))) = some (d,b) ∧ (b = true → d = [a]):=by
  intro a b e1 hb
  rw [a1y,e1]
  cases b with
  | false => exact ⟨[],by simp,by simp⟩
  | true => exact ⟨[a],by simp [a1y,f1g a (hb rfl)],fun _ => rfl⟩
 have notset:a3t j [115,101,116] = some (⟨0,0,[],[],[]⟩,false) → ∃ d d' b,((a3t j [115,101,116]).bind fun r_2 => if r_2.2 = true then some (r_2.1.Items,(r_2.1.Kind == 4)) else some (r_2.1.Items,false)).bind (fun r_2 => ((if (!r_2.2) then some [j] else some r_2.1:Option (List y8))).bind fun items_5 => (a1y items_5 []).bind fun q => (match q with
   | .ret r => some r
   | .go list_34 => (a6t list_34).bind fun r_47 => some (r_47.1,(r_47.2 == 0)))) = some (d,b) ∧ ((a7c j).bind fun r_5 => some ([r_5.1],r_5.2)) = some (d',b) ∧ (b = true → d' = d ∧ d.length ≤ 8):=by
  intro hp
  obtain ⟨r,s,e1,e2,e3,e4,_⟩:=d0q j
  obtain ⟨a,b⟩:=r
  obtain ⟨d,g1,g2⟩:=one a b e1 e4
  subst e3
  refine ⟨d,[(c2n (a,b)).1],b,?_,?_,?_⟩
  ·rw [hp]; simpa using g1
  ·rw [e2]; cases b <;> simp [c2n]
  ·intro hb; subst hb; rw [g2 rfl]; simp [c2n]
 rcases d4v j with ⟨x,y,k4,hi,hk,hw⟩ | hw
 ·by_cases hx:x.T = [115,101,116]
  ·simp only [hw,hx,if_true,Option.bind_some]
   by_cases hy:y.Kind = 4
   ·simp only [hy,beq_self_eq_true,Bool.not_true,Bool.false_eq_true,if_false,Option.bind_some,if_true]
    have hly:=hl y (by rw [hi]; simp)
    rcases d2a y.Items [] (by simp; omega) with ⟨l,h1,h2,h3⟩ | ⟨h1,h2⟩
    ·obtain ⟨d,c,q1,q2,q3,_⟩:=e1v l (by rw [h3]; simpa using hly)
     rw [h1,h2]
     simp only [Option.bind_some,q1,q2]
     exact ⟨d,d,(c == 0),rfl,rfl,fun _ => ⟨rfl,q3⟩⟩
    ·rw [h1,h2]
     exact ⟨[],[],false,rfl,rfl,fun _ => ⟨rfl,by simp⟩⟩
   ·have hy':(y.Kind == 4) = false:=by simp [hy]
    obtain ⟨a,ea⟩:=d6h j x y k4 (by rw [hx]; decide) hw
    obtain ⟨d,g1,_⟩:=one a false ea (by simp)
    have hly:=hl y (by rw [hi]; simp)
    simp only [hy',Bool.not_false,Bool.not_true,if_true,Bool.false_eq_true,if_false,Option.bind_some]
    rcases d2a y.Items [] (by simp; omega) with ⟨l,h1,h2,h3⟩ | ⟨h1,h2⟩
    ·obtain ⟨d2,c,q1,q2,_⟩:=e1v l (by rw [h3]; simpa using hly)
     rw [h2]
     simp only [Option.bind_some,q2]
     exact ⟨d,d2,false,g1,rfl,by simp⟩
    ·rw [h2]
     exact ⟨d,[],false,g1,rfl,by simp⟩
  ·have hp:a3t j [115,101,116] = some (⟨0,0,[],[],[]⟩,false):=by rw [hw,if_neg hx]
   obtain ⟨d,d',b,g1,g2,g3⟩:=notset hp
   refine ⟨d,d',b,g1,?_,g3⟩
   rw [hp]
   simpa using g2
 ·have hp:=hw [115,101,116]
  obtain ⟨d,d',b,g1,g2,g3⟩:=notset hp
  refine ⟨d,d',b,g1,?_,g3⟩
  rw [hp]
  simpa using g2
theorem d7v {α:Type} (f:α → Int) (hf:∀ x,1 ≤ f x):∀ l:List α,(l.length:Int) ≤ (l.map f).sum
 | [] => by simp
 | x :: xs => by simp only [List.map_cons,List.sum_cons,List.length_cons]; have:=hf x; have:=d7v f hf xs; omega
theorem d4w {α:Type} (f:α → Int) (hf:∀ x,0 ≤ f x):∀ (l:List α) (x:α),x ∈ l → f x ≤ (l.map f).sum
 | y :: ys,x,h => by
  simp only [List.map_cons,List.sum_cons]
  have h1:=b8f f hf ys
  have h2:=hf y
  rcases List.mem_cons.1 h with rfl | h
  ·omega
  ·have:=d4w f hf ys x h
   omega
def a9e (t:Str):Bool:=decide ((t.length:Int) ≤ 40)
theorem c0n (l:List Str):a7s l = some (l.all a9e):=by
 unfold a7s
 rw [b0m _ (fun t => !a9e t) l (fun x _ => by unfold b0o a9e; congr 1; rw [Bool.eq_iff_iff]; simp),Option.bind_some,List.not_any_eq_all_not]
 simp
def b3k (c:a0m):Bool:=decide (1 ≤ c.Func ∧ c.Func ≤ 8) && d6d c.Value && a9e c.Column
theorem e1x (c:a0m) (h:c.Value.length ≤ maxLen):b2z c = some (b3k c):=by
 unfold b2z b3k
 rw [b8b,Option.bind_some,d9a _ h,Option.bind_some,c0n,Option.bind_some]
 by_cases h1:(1 ≤ c.Func ∧ c.Func ≤ 8) <;> cases h2:d6d c.Value <;> simp [h1]
theorem e3s (c:a0m):b4h c = some (b3k c):=by
 unfold b4h b3k a9e
 rw [e3o,Option.bind_some,d6e,Option.bind_some]
 by_cases h1:(1 ≤ c.Func ∧ c.Func ≤ 8) <;> cases h2:d6d c.Value <;> simp [h1]
theorem c2o:∀ l:List a0m,a4z l = some (if l.all b3k = true then .go () else .ret false)
 | [] => by rw [a4z]; simp
 | x :: xs => by
  rw [a4z,e3s,Option.bind_some,c2o xs]
  cases h:b3k x <;> simp [h]
theorem d9f (l:List a0m):b1n l = some (l.all b3k && decide ((l.length:Int) ≤ 8)):=by
 unfold b1n
 rw [c2o]
 cases l.all b3k <;> simp
theorem d9g (l:List a0m) (h:∀ c ∈ l,c.Value.length ≤ maxLen):b1v l = some (l.all b3k && decide ((l.length:Int) ≤ 8)):=by
 unfold b1v
 rw [a8x _ (fun t => !b3k t) l (fun x hx => by unfold b1u; rw [e1x x (h x hx)]; rfl),Option.bind_some,List.not_any_eq_all_not]
 have e2:(l.all fun a => !!b3k a) = l.all b3k:=by simp
 rw [e2]
 by_cases c:(l.length:Int) ≤ 8 <;> simp [c]
theorem e1y {a b c:Str} (h1:Op.bytesLess a b = true) (h2:Op.bytesLess b c = true):Op.bytesLess a c = true:=by
 rw [b6e,decide_eq_true_eq] at *
 exact b5a a b c h1 h2
theorem e5b (a:Str):Op.bytesLess a a = false:=by
 rw [b6e,(b6d a a).2 rfl]; rfl
theorem d6i (ks:List Str) (h:∀ q,q < ks.length → keyAt ks q = true):ks.Nodup:=by
 have adj:∀ i (hj:i + 1 < ks.length),Op.bytesLess (ks[i]'(by omega)) ks[i + 1] = true:=by
  intro i hj
  have:=h (i + 1) hj
  unfold keyAt at this
  rw [List.getElem?_eq_getElem hj] at this
  simp only [Nat.add_sub_cancel,List.getElem?_eq_getElem (show i < ks.length by omega)] at this
  have:=(Bool.and_eq_true _ _ ▸ this:b6v ks[i + 1] = true ∧ _).2
  simpa using this
 have step:∀ d i (hj:i + d + 1 < ks.length),Op.bytesLess (ks[i]'(by omega)) ks[i + d + 1] = true:=by
  intro d
  induction d with
  | zero => intro i hj; exact adj i hj
  | succ d ih => intro i hj; exact e1y (ih i (by omega)) (adj (i + d + 1) hj)
 unfold List.Nodup
 rw [List.pairwise_iff_getElem]
 intro i j hi hj hij e
 obtain ⟨d,rfl⟩:∃ d,j = i + d + 1:=⟨j - i - 1,by omega⟩
 have:=step d i hj
 rw [e,e5b] at this
 cases this
theorem b8w {d:Nat} {j y:y8} (h:a5f (d + 1) j ≤ 400) (hy:y ∈ j.Items):a5f d y ≤ 400:=by
 have h1:a5f (d + 1) j = 1 + (j.Items.map (a5f d)).sum:=rfl
 have h2:=d4w (a5f d) (b3v d) j.Items y hy
 omega
theorem c5q {d:Nat} {j:y8} (h:a5f (d + 2) j ≤ 400):j.Items.length ≤ 400:=by
 have h1:a5f (d + 2) j = 1 + (j.Items.map (a5f (d + 1))).sum:=rfl
 have h4:=d7v (a5f (d + 1)) (fun x => by
  have:a5f (d + 1) x = 1 + (x.Items.map (a5f d)).sum:=rfl
  have:=b8f (a5f d) (b3v d) x.Items
  omega) j.Items
 omega
theorem c8d:∀ (xs:List y8) (out:List Str),out.length + xs.length ≤ 2 ^ 20 → (∃ l,a3c xs out = some (.go l) ∧ a3n xs out = some (.go l) ∧ l.length = out.length + xs.length) ∨ (a3c xs out = some (.ret ([],false)) ∧ a3n xs out = some (.ret ([],false)))
 | [],out,_ => .inl ⟨out,by rw [a3c],by rw [a3n],by simp⟩
 | x :: xs,out,h => by
  simp only [List.length_cons] at h
  rw [a3c,a3n]
  by_cases k:x.Kind = 3
  ·have hk:(x.Kind != 3) = false:=by simp [k]
   have hl:(out ++ [x.T]).length ≤ 2 ^ 30:=by simp; omega
   simp only [hk,hl,Bool.false_eq_true,if_false,if_true]
   rcases c8d xs (out ++ [x.T]) (by simp; omega) with ⟨l,e1,e2,e3⟩ | h
   ·exact .inl ⟨l,e1,e2,by rw [e3]; simp; omega⟩
   ·exact .inr h
  ·have hk:(x.Kind != 3) = true:=by simp [k]
   simp only [hk,if_true]
   exact .inr ⟨trivial,trivial⟩
theorem e3t (j:y8) (h:j.Items.length ≤ 400):∃ l b,a8t j = some (l,b) ∧ a8y j = some (l,b) ∧ l.length ≤ 400:=by
 unfold a8t a8y
 rcases c8d j.Items [] (by simp; omega) with ⟨l,e1,e2,e3⟩ | ⟨e1,e2⟩
 ·rw [e1,e2]; exact ⟨l,_,rfl,rfl,by rw [e3]; simpa using h⟩
 ·rw [e1,e2]; exact ⟨[],false,rfl,rfl,by simp⟩
theorem d6j (w:Str):∃ r:Int,b0z w = some r ∧ b1k w = some r:=by
 unfold b0z b1p b3t a3k b1k b2m
 simp only [Option.bind_some,List.drop]
 by_cases h1:w = [61,61]
 ·subst h1; exact ⟨1,rfl,rfl⟩
 by_cases h2:w = [33,61]
 ·subst h2; exact ⟨2,rfl,rfl⟩
 by_cases h3:w = [60]
 ·subst h3; exact ⟨3,rfl,rfl⟩
 by_cases h4:w = [60,61]
 ·subst h4; exact ⟨4,rfl,rfl⟩
 by_cases h5:w = [62]
 ·subst h5; exact ⟨5,rfl,rfl⟩
 by_cases h6:w = [62,61]
 ·subst h6; exact ⟨6,rfl,rfl⟩
 by_cases h7:w = [105,110,99,108,117,100,101,115]
 ·subst h7; exact ⟨7,rfl,rfl⟩
 by_cases h8:w = [101,120,99,108,117,100,101,115]
 ·subst h8; exact ⟨8,rfl,rfl⟩
 refine ⟨0,?_,?_⟩
 ·simp [a1e,h1,h2,h3,h4,h5,h6,h7,h8]; rfl
 ·simp [a6j,Ne.symm h1,Ne.symm h2,Ne.symm h3,Ne.symm h4,Ne.symm h5,Ne.symm h6,Ne.symm h7,Ne.symm h8]
def TE (x:y8):Option Bool:=if (bif (x.Kind != 4) then true else ((x.Items.length:Int) != 3)) then
  some true
  else
  (idx x.Items 0).bind fun x_13 =>
  if (x_13.Kind != 3) then
  some true
  else
  (idx x.Items 1).bind fun x_16 =>
  some (x_16.Kind != 3)
theorem d4x (x:y8):TE x = some true ∨ ∃ a b c,x.Items = [a,b,c] ∧ TE x = some false ∧ idx x.Items 0 = some a ∧ idx x.Items 1 = some b ∧ idx x.Items 2 = some c:=by
 unfold TE
 by_cases h:x.Kind = 4 ∧ x.Items.length = 3
 ·obtain ⟨a,b,c,hi⟩:∃ a b c,x.Items = [a,b,c]:=by
   match hj:x.Items,h.2 with
   | [a,b,c],_ => exact ⟨a,b,c,rfl⟩
  rw [if_neg (by simp [h.1,h.2])]
  have i0:idx x.Items 0 = some a:=by rw [hi]; rfl
  have i1:idx x.Items 1 = some b:=by rw [hi]; rfl
  have i2:idx x.Items 2 = some c:=by rw [hi]; rfl
  rw [i0,i1,i2,Option.bind_some,Option.bind_some]
  by_cases ha:a.Kind = 3
  ·rw [if_neg (by simp [ha])]
   by_cases hb:b.Kind = 3
   ·exact .inr ⟨a,b,c,hi,by simp [hb],rfl,rfl,rfl⟩
   ·exact .inl (by simp [hb])
  ·exact .inl (by rw [if_pos (by simp [ha])])
 ·refine .inl ?_
  rw [if_pos]
  by_cases h4:x.Kind = 4
  ·have h3:x.Items.length ≠ 3:=fun h3 => h ⟨h4,h3⟩
   simp [h4]; omega
  ·simp [h4]
def smW (l:List a0m):Prop:=∀ c ∈ l,c.Value.length ≤ 8
theorem smW.snoc {l:List a0m} {c:a0m} (h:smW l) (hc:c.Value.length ≤ 8):smW (l ++ [c]):=by
 intro x hx
 rcases List.mem_append.1 hx with hx | hx
 ·exact h x hx
 ·rw [List.mem_singleton.1 hx]; exact hc
def d4y (l:List a0m):Prop:=∃ c ∈ l,c.Func = 0
theorem d4z (a b:Str) (d:List a0g) (l:List a0m) (r:Int) (h:b0z b = some r) (hl:l.length + 1 ≤ 2 ^ 20):a6b a b d l = some (l ++ [⟨a,r,d⟩]):=by
 unfold a6b
 rw [h,Option.bind_some,if_pos (by simp; omega)]
theorem d7w:∀ (xs:List y8) (out:List a0m),(∀ x ∈ xs,a5f 10 x ≤ 400) → smW out → out.length + xs.length ≤ 2 ^ 20 →
  ∃ l,(a1c xs out = some (.go l) ∨ a1c xs out = some (.ret (false,l))) ∧ smW l ∧ (∀ c ∈ out,c ∈ l) ∧ l.length ≤ out.length + xs.length
 | [],out,_,hw,_ => ⟨out,.inl (by rw [a1c]),hw,fun _ h => h,by simp⟩
 | x :: xs,out,hx,hw,h => by
  simp only [List.length_cons] at h
  rw [a1c]
  rcases d4x x with ht | ⟨a,b,c,hi,ht,i0,i1,i2⟩
  ·unfold TE at ht
   rw [ht]
   exact ⟨out,.inr rfl,hw,fun _ h => h,by simp⟩
  ·unfold TE at ht
   rw [ht]
   simp only [Option.bind_some,Bool.false_eq_true,if_false,i0,i1,i2]
   have hc:∀ y ∈ c.Items,y.Items.length ≤ 4096:=by
    intro y hy
    have q1:a5f 9 c ≤ 400:=b8w (d:=9) (hx x (by simp)) (by rw [hi]; simp)
    have q2:a5f 8 y ≤ 400:=b8w (d:=8) q1 hy
    have:=c5q (d:=6) q2
    omega
   obtain ⟨d,d',b2,g1,g2,g3⟩:=c4s c hc
   rw [g1,Option.bind_some]
   cases b2 with
   | false => exact ⟨out,.inr rfl,hw,fun _ h => h,by simp⟩
   | true =>
    obtain ⟨r,f1,f2⟩:=d6j b.T
    simp only [Bool.not_true,Bool.false_eq_true,if_false,d4z a.T b.T d out r f1 (by omega),Option.bind_some]
    obtain ⟨l,e1,e2,e3,e4⟩:=d7w xs (out ++ [⟨a.T,r,d⟩]) (fun y hy => hx y (by simp [hy])) (hw.snoc (g3 rfl).2) (by simp; omega)
    exact ⟨l,e1,e2,fun c hc => e3 c (by simp [hc]),by simp at e4 ⊢; omega⟩
theorem e1z:∀ (xs:List y8) (out:List a0m),(∀ x ∈ xs,a5f 10 x ≤ 400) → smW out → out.length + xs.length ≤ 2 ^ 20 →
  (∃ l,a1c xs out = some (.go l) ∧ a3j xs out = some (.go l) ∧ smW l ∧ l.length ≤ out.length + xs.length) ∨
  (∃ l,a1c xs out = some (.ret (false,l)) ∧ a3j xs out = some (.ret ([],false)) ∧ smW l ∧ l.length ≤ out.length + xs.length) ∨
  (∃ l,a1c xs out = some (.go l) ∧ a3j xs out = some (.ret ([],false)) ∧ d4y l ∧ smW l ∧ l.length ≤ out.length + xs.length)
 | [],out,_,hw,_ => .inl ⟨out,by rw [a1c],by rw [a3j],hw,by simp⟩
 | x :: xs,out,hx,hw,h => by
  simp only [List.length_cons] at h
  rw [a1c,a3j]
  unfold b1j
  rcases d4x x with ht | ⟨a,b,c,hi,ht,i0,i1,i2⟩
  ·unfold TE at ht
   obtain ⟨r,f1,f2⟩:=d6j []
   simp only [ht,Option.bind_some,if_true,f2]
   exact .inr (.inl ⟨out,rfl,by simp,hw,by simp⟩)
  ·unfold TE at ht
   have hc:∀ y ∈ c.Items,y.Items.length ≤ 4096:=by
    intro y hy
    have q1:a5f 9 c ≤ 400:=b8w (d:=9) (hx x (by simp)) (by rw [hi]; simp)
    have q2:a5f 8 y ≤ 400:=b8w (d:=8) q1 hy
    have:=c5q (d:=6) q2
    omega
   obtain ⟨d,d',b2,g1,g2,g3⟩:=c4s c hc
   obtain ⟨r,f1,f2⟩:=d6j b.T
   rw [ht]
   simp only [Option.bind_some,Bool.false_eq_true,if_false,i0,i1,i2,g1,g2,f2]
   cases b2 with
   | false => exact .inr (.inl ⟨out,by simp,by simp,hw,by simp⟩)
   | true =>
    obtain ⟨rfl,h8⟩:=g3 rfl
    rw [d4z _ _ _ _ r f1 (by omega)]
    simp only [Bool.not_true,Bool.false_eq_true,if_false,Option.bind_some]
    by_cases hr:r = 0
    ·subst hr
     obtain ⟨l,e1,e2,e3,e4⟩:=d7w xs (out ++ [⟨a.T,0,d'⟩]) (fun y hy => hx y (by simp [hy])) (hw.snoc h8) (by simp; omega)
     have hb:d4y l:=⟨⟨a.T,0,d'⟩,e3 _ (by simp),rfl⟩
     have e4':l.length ≤ out.length + (xs.length + 1):=by simp at e4; omega
     rcases e1 with e1 | e1
     ·exact .inr (.inr ⟨l,e1,by simp,hb,e2,e4'⟩)
     ·exact .inr (.inl ⟨l,e1,by simp,e2,e4'⟩)
    ·have hr':(r == 0) = false:=by simp [hr]
     simp only [hr',Bool.false_eq_true,if_false]
     rw [if_pos (by simp; omega)]
     rcases e1z xs (out ++ [⟨a.T,r,d'⟩]) (fun y hy => hx y (by simp [hy])) (hw.snoc h8) (by simp; omega) with ⟨l,e1,e2,e3,e4⟩ | ⟨l,e1,e2,e3,e4⟩ | ⟨l,e1,e2,e3,e4,e5⟩
     ·exact .inl ⟨l,e1,e2,e3,by simp at e4 ⊢; omega⟩
     ·exact .inr (.inl ⟨l,e1,e2,e3,by simp at e4 ⊢; omega⟩)
     ·exact .inr (.inr ⟨l,e1,e2,e3,e4,by simp at e5 ⊢; omega⟩)
theorem e3u (j:y8) (h:a5f 11 j ≤ 400):∃ l b l' b',a8u j = some (l,b) ∧ a8z j = some (l',b') ∧ smW l ∧ l.length ≤ 400 ∧ (b' = true → b = true ∧ l' = l) ∧ (b = true → b' = true ∨ d4y l):=by
 have hl:=c5q (d:=9) h
 unfold a8u a8z a7l
 rcases e1z j.Items [] (fun x hx => b8w (d:=10) h hx) (by intro c hc; cases hc) (by simp; omega) with ⟨l,e1,e2,e3,e4⟩ | ⟨l,e1,e2,e3,e4⟩ | ⟨l,e1,e2,e3,e4,e5⟩
 ·rw [e1,e2]
  exact ⟨l,_,l,_,rfl,rfl,e3,by simp at e4; omega,fun h => ⟨h,rfl⟩,fun h => .inl h⟩
 ·rw [e1,e2]
  exact ⟨l,_,[],_,rfl,rfl,e3,by simp at e4; omega,fun h => (by cases h),fun h => (by cases h)⟩
 ·rw [e1,e2]
  exact ⟨l,_,[],_,rfl,rfl,e4,by simp at e5; omega,fun h => (by cases h),fun h => .inr e3⟩
def KT:Str:=[116,97,98,108,101]
def KW:Str:=[119,104,101,114,101]
def emM:a0k:=⟨[],[],[],false,false,false,false,[]⟩
def MI (m:a0k):Prop:=m.Columns.length ≤ 400 ∧ m.Where.length ≤ 400 ∧ smW m.Where
def SS (k:Str) (x:y8) (m:a0k):Option (Bool × Str × Bool × Bool × Bool × Bool × (List Str) × (List a0m)) :=
  (if (k == [116,97,98,108,101]) then
  some ((x.Kind == 3),x.T,m.Initial,m.Insert,m.Delete,m.Modify,m.Columns,m.Where)
  else
  if (k == [99,111,108,117,109,110,115]) then
  (a8y x).bind fun r_193 =>
  some (r_193.2,m.Table,m.Initial,m.Insert,m.Delete,m.Modify,r_193.1,m.Where)
  else
  if (k == [119,104,101,114,101]) then
  (a8z x).bind fun r_196 =>
  some (r_196.2,m.Table,m.Initial,m.Insert,m.Delete,m.Modify,m.Columns,r_196.1)
  else
  if (k == [105,110,105,116,105,97,108]) then
  some ((x.Kind == 1),m.Table,(x.N == 1),m.Insert,m.Delete,m.Modify,m.Columns,m.Where)
  else
  if (k == [105,110,115,101,114,116]) then
  some ((x.Kind == 1),m.Table,m.Initial,(x.N == 1),m.Delete,m.Modify,m.Columns,m.Where)
  else
  if (k == [100,101,108,101,116,101]) then
  some ((x.Kind == 1),m.Table,m.Initial,m.Insert,(x.N == 1),m.Modify,m.Columns,m.Where)
  else
  if (k == [109,111,100,105,102,121]) then
  some ((x.Kind == 1),m.Table,m.Initial,m.Insert,m.Delete,(x.N == 1),m.Columns,m.Where)
  else
  some (false,m.Table,m.Initial,m.Insert,m.Delete,m.Modify,m.Columns,m.Where))
def sT (b:Bool) (m:a0k):Bool × Str × Bool × Bool × Bool × Bool × (List Str) × (List a0m):=(b,m.Table,m.Initial,m.Insert,m.Delete,m.Modify,m.Columns,m.Where)
def d7y (k:Str) (x:y8) (m:a0k):=a6c k x m.Name m.Table m.Columns m.Initial m.Insert m.Delete m.Modify m.Where
def e4k (k:Str) (m:a0k) (b:Bool) (m1:a0k) (b':Bool) (m1':a0k):Prop :=
 MI m1 ∧ m1.Name = m.Name ∧ (k ≠ KT → m1'.Table = m.Table) ∧ (k ≠ KW → m1.Where = m.Where) ∧ (k ≠ KT → m1.Table = m.Table) ∧ (k = KT → b = true → m1.Table ≠ []) ∧ (b = true → b' = true → m1' = m1) ∧ (b = true → b' = false → k = KW ∧ d4y m1.Where) ∧ (b = false → b' = true → k = KT ∧ m1'.Table = [] ∧ MI m1')
theorem b5r (k:Str) (m m1:a0k) (b:Bool) (h1:k ≠ KT) (hm:MI m) (e1:m1.Name = m.Name) (e2:m1.Table = m.Table) (e3:m1.Columns = m.Columns) (e4:m1.Where = m.Where):e4k k m b m1 b m1 :=
 ⟨⟨by rw [e3]; exact hm.1,by rw [e4]; exact hm.2.1,by rw [e4]; exact hm.2.2⟩,e1,fun _ => e2,fun _ => e4,fun _ => e2,fun h => absurd h h1,fun _ _ => rfl,fun h h' => (by rw [h] at h'; cases h'),fun h h' => (by rw [h] at h'; cases h')⟩
theorem d2b (k:Str) (x:y8) (m:a0k) (hx:a5f 11 x ≤ 400) (hm:MI m):∃ b m1 b' m1',d7y k x m = some (b,m1) ∧ SS k x m = some (sT b' m1') ∧ e4k k m b m1 b' m1':=by
 unfold d7y a6c SS sT
 by_cases h1:k = [116,97,98,108,101]
 ·subst h1
  simp only [beq_self_eq_true,if_true]
  by_cases k3:x.Kind = 3
  ·simp only [k3,beq_self_eq_true,if_true]
   by_cases ht:x.T = []
   ·refine ⟨false,⟨m.Name,x.T,m.Columns,m.Initial,m.Insert,m.Delete,m.Modify,m.Where⟩,true,⟨m.Name,x.T,m.Columns,m.Initial,m.Insert,m.Delete,m.Modify,m.Where⟩,(by simp [ht]),rfl,hm,rfl,fun h => absurd rfl h,fun _ => rfl,fun h => absurd rfl h,fun _ h => by (cases h),fun h => by (cases h),fun h => by (cases h),fun _ _ => ⟨rfl,ht,hm⟩⟩
   ·refine ⟨true,⟨m.Name,x.T,m.Columns,m.Initial,m.Insert,m.Delete,m.Modify,m.Where⟩,true,⟨m.Name,x.T,m.Columns,m.Initial,m.Insert,m.Delete,m.Modify,m.Where⟩,(by simp [ht]),rfl,hm,rfl,fun h => absurd rfl h,fun _ => rfl,fun h => absurd rfl h,fun _ _ => ht,fun _ _ => rfl,fun _ h => by (cases h),fun h => by (cases h)⟩
  ·have k3':(x.Kind == 3) = false:=by simp [k3]
   simp only [k3',Bool.false_eq_true,if_false]
   exact ⟨false,_,false,⟨m.Name,x.T,m.Columns,m.Initial,m.Insert,m.Delete,m.Modify,m.Where⟩,rfl,rfl,hm,rfl,fun h => absurd rfl h,fun _ => rfl,fun h => absurd rfl h,fun _ h => by (cases h),fun h => by (cases h),fun h => by (cases h),fun _ h => by (cases h)⟩
 have b1:(k == [116,97,98,108,101]) = false:=by simp [h1]
 simp only [b1,Bool.false_eq_true,if_false]
 by_cases h2:k = [99,111,108,117,109,110,115]
 ·subst h2
  obtain ⟨l,b,e1,e2,e3⟩:=e3t x (c5q (d:=9) hx)
  simp only [beq_self_eq_true,if_true,e1,e2,Option.bind_some]
  exact ⟨b,_,b,⟨m.Name,m.Table,l,m.Initial,m.Insert,m.Delete,m.Modify,m.Where⟩,rfl,rfl,⟨e3,hm.2⟩,rfl,fun _ => rfl,fun _ => rfl,fun _ => rfl,fun h => absurd h h1,fun _ _ => rfl,fun h h' => (by rw [h] at h'; cases h'),fun h h' => (by rw [h] at h'; cases h')⟩
 have b2:(k == [99,111,108,117,109,110,115]) = false:=by simp [h2]
 simp only [b2,Bool.false_eq_true,if_false]
 by_cases h3:k = [119,104,101,114,101]
 ·subst h3
  obtain ⟨l,b,l',b',e1,e2,e3,e4,e5,e6⟩:=e3u x hx
  simp only [beq_self_eq_true,if_true,e1,e2,Option.bind_some]
  refine ⟨b,_,b',⟨m.Name,m.Table,m.Columns,m.Initial,m.Insert,m.Delete,m.Modify,l'⟩,rfl,rfl,⟨hm.1,e4,e3⟩,rfl,fun _ => rfl,fun h => absurd rfl h,fun _ => rfl,fun h => absurd h h1,fun _ h => ?_,fun h h' => ⟨rfl,?_⟩,fun h h' => ?_⟩
  ·rw [(e5 h).2]
  ·exact (e6 h).resolve_left (by rw [h']; simp)
  ·rw [(e5 h').1] at h; cases h
 have b3:(k == [119,104,101,114,101]) = false:=by simp [h3]
 simp only [b3,Bool.false_eq_true,if_false]
 by_cases h4:k = [105,110,105,116,105,97,108]
 ·subst h4
  exact ⟨_,_,_,⟨m.Name,m.Table,m.Columns,(x.N == 1),m.Insert,m.Delete,m.Modify,m.Where⟩,rfl,rfl,b5r _ _ _ _ h1 hm rfl rfl rfl rfl⟩
 have b4:(k == [105,110,105,116,105,97,108]) = false:=by simp [h4]
 simp only [b4,Bool.false_eq_true,if_false]
 by_cases h5:k = [105,110,115,101,114,116]
 ·subst h5
  exact ⟨_,_,_,⟨m.Name,m.Table,m.Columns,m.Initial,(x.N == 1),m.Delete,m.Modify,m.Where⟩,rfl,rfl,b5r _ _ _ _ h1 hm rfl rfl rfl rfl⟩
 have b5:(k == [105,110,115,101,114,116]) = false:=by simp [h5]
 simp only [b5,Bool.false_eq_true,if_false]
 by_cases h6:k = [100,101,108,101,116,101]
 ·subst h6
  exact ⟨_,_,_,⟨m.Name,m.Table,m.Columns,m.Initial,m.Insert,(x.N == 1),m.Modify,m.Where⟩,rfl,rfl,b5r _ _ _ _ h1 hm rfl rfl rfl rfl⟩
 have b6:(k == [100,101,108,101,116,101]) = false:=by simp [h6]
 simp only [b6,Bool.false_eq_true,if_false]
 by_cases h7:k = [109,111,100,105,102,121]
 ·subst h7
  exact ⟨_,_,_,⟨m.Name,m.Table,m.Columns,m.Initial,m.Insert,m.Delete,(x.N == 1),m.Where⟩,rfl,rfl,b5r _ _ _ _ h1 hm rfl rfl rfl rfl⟩
 have b7:(k == [109,111,100,105,102,121]) = false:=by simp [h7]
 simp only [b7,Bool.false_eq_true,if_false]
 exact ⟨false,_,false,m,rfl,rfl,b5r _ _ _ _ h1 hm rfl rfl rfl rfl⟩
def iL (j:y8) (xs:List Str) (i:Nat) (m:a0k):=a2t j xs i m.Name m.Table m.Initial m.Insert m.Delete m.Modify [] [] m.Columns m.Where
def sL (j:y8) (xs:List Str) (i:Nat) (m:a0k):=a2q j xs i m.Table m.Initial m.Insert m.Delete m.Modify m.Columns m.Where
def iG (m:a0k):Str × Str × Bool × Bool × Bool × Bool × (List Str) × (List a0m) × (List Str) × (List a0m):=(m.Name,m.Table,m.Initial,m.Insert,m.Delete,m.Modify,[],[],m.Columns,m.Where)
def sG (m:a0k):Str × Bool × Bool × Bool × Bool × (List Str) × (List a0m):=(m.Table,m.Initial,m.Insert,m.Delete,m.Modify,m.Columns,m.Where)
theorem d7z (j:y8) (k:Str) (xs:List Str) (i:Nat) (m:a0k) (x:y8) (b:Bool) (m1:a0k) (hx:idx j.Items i = some x) (h:d7y k x m = some (b,m1)):iL j (k :: xs) i m = if b = true then iL j xs (i + 1) m1 else some (.ret (emM,false)):=by
 unfold d7y at h
 unfold iL
 rw [a2t,hx,Option.bind_some,h,Option.bind_some]
 cases b <;> rfl
theorem d8a (j:y8) (k:Str) (xs:List Str) (i:Nat) (m:a0k) (x:y8) (b:Bool) (m1:a0k) (hx:idx j.Items i = some x) (h:SS k x m = some (sT b m1)):sL j (k :: xs) i m = if b = true then sL j xs (i + 1) m1 else some (.ret (emM,false)):=by
 unfold SS at h
 unfold sL
 rw [a2q,hx,Option.bind_some,h,Option.bind_some]
 unfold sT
 cases b <;> rfl
theorem e5c (j:y8) (hc:∀ x ∈ j.Items,a5f 11 x ≤ 400) (i:Nat) (h:i < j.Items.length):∃ x,idx j.Items i = some x ∧ a5f 11 x ≤ 400:=by
 refine ⟨j.Items[i],?_,hc _ (List.getElem_mem _)⟩
 unfold idx
 simp [h]
theorem e5d (j:y8) (hc:∀ x ∈ j.Items,a5f 11 x ≤ 400):∀ (xs:List Str) (i:Nat) (m:a0k),KT ∉ xs → m.Table = [] → MI m → i + xs.length = j.Items.length →
  sL j xs i m = some (.ret (emM,false)) ∨ ∃ m',sL j xs i m = some (.go (sG m')) ∧ m'.Table = []
 | [],i,m,_,ht,_,_ => .inr ⟨m,by unfold sL; rw [a2q]; rfl,ht⟩
 | k :: xs,i,m,hk,ht,hm,hl => by
  simp only [List.length_cons] at hl
  obtain ⟨x,hx,hcx⟩:=e5c j hc i (by omega)
  obtain ⟨b,m1,b',m1',e1,e2,q⟩:=d2b k x m hcx hm
  have hkt:k ≠ KT:=fun h => hk (by simp [h])
  rw [d8a j k xs i m x b' m1' hx e2]
  cases b' with
  | false => exact .inl rfl
  | true =>
   rw [if_pos rfl]
   cases b with
   | false => exact absurd (q.2.2.2.2.2.2.2.2 rfl rfl).1 hkt
   | true =>
    have e:=q.2.2.2.2.2.2.1 rfl rfl
    subst e
    exact e5d j hc xs (i + 1) _ (fun h => hk (by simp [h])) (by rw [q.2.2.1 hkt]; exact ht) q.1 (by omega)
theorem f1h (j:y8) (hc:∀ x ∈ j.Items,a5f 11 x ≤ 400):∀ (xs:List Str) (i:Nat) (m:a0k),KW ∉ xs → d4y m.Where → MI m → i + xs.length = j.Items.length →
  iL j xs i m = some (.ret (emM,false)) ∨ ∃ m',iL j xs i m = some (.go (iG m')) ∧ d4y m'.Where ∧ MI m'
 | [],i,m,_,hb,hm,_ => .inr ⟨m,by unfold iL; rw [a2t]; rfl,hb,hm⟩
 | k :: xs,i,m,hk,hb,hm,hl => by
  simp only [List.length_cons] at hl
  obtain ⟨x,hx,hcx⟩:=e5c j hc i (by omega)
  obtain ⟨b,m1,b',m1',e1,e2,q⟩:=d2b k x m hcx hm
  have hkw:k ≠ KW:=fun h => hk (by simp [h])
  rw [d7z j k xs i m x b m1 hx e1]
  cases b with
  | false => exact .inl rfl
  | true =>
   rw [if_pos rfl]
   exact f1h j hc xs (i + 1) _ (fun h => hk (by simp [h])) (by rw [q.2.2.2.1 hkw]; exact hb) q.1 (by omega)
theorem f1i (j:y8) (hc:∀ x ∈ j.Items,a5f 11 x ≤ 400):∀ (xs:List Str) (i:Nat) (m:a0k),xs.Nodup → MI m → i + xs.length = j.Items.length →
  (∃ m',iL j xs i m = some (.go (iG m')) ∧ sL j xs i m = some (.go (sG m')) ∧ MI m' ∧ m'.Name = m.Name ∧ (m.Table ≠ [] ∨ KT ∈ xs → m'.Table ≠ [])) ∨
  (iL j xs i m = some (.ret (emM,false)) ∧ (sL j xs i m = some (.ret (emM,false)) ∨ ∃ m',sL j xs i m = some (.go (sG m')) ∧ m'.Table = [])) ∨
  (∃ m',iL j xs i m = some (.go (iG m')) ∧ d4y m'.Where ∧ MI m' ∧ sL j xs i m = some (.ret (emM,false)))
 | [],i,m,_,hm,_ => .inl ⟨m,by unfold iL; rw [a2t]; rfl,by unfold sL; rw [a2q]; rfl,hm,rfl,fun h => by simpa using h⟩
 | k :: xs,i,m,hn,hm,hl => by
  simp only [List.length_cons] at hl
  obtain ⟨hn1,hn2⟩:=List.nodup_cons.1 hn
  obtain ⟨x,hx,hcx⟩:=e5c j hc i (by omega)
  obtain ⟨b,m1,b',m1',e1,e2,q1,q2,q3,q4,q5,q6,q7,q8,q9⟩:=d2b k x m hcx hm
  rw [d7z j k xs i m x b m1 hx e1,d8a j k xs i m x b' m1' hx e2]
  cases b with
  | false =>
   rw [if_neg (by simp)]
   cases b' with
   | false => exact .inr (.inl ⟨rfl,.inl rfl⟩)
   | true =>
    obtain ⟨hk,ht,hmm⟩:=q9 rfl rfl
    rw [if_pos rfl]
    refine .inr (.inl ⟨rfl,e5d j hc xs (i + 1) m1' (by rw [← hk]; exact hn1) ht hmm (by omega)⟩)
  | true =>
   rw [if_pos rfl]
   cases b' with
   | false =>
    obtain ⟨hk,hb⟩:=q8 rfl rfl
    rw [if_neg (by simp)]
    rcases f1h j hc xs (i + 1) m1 (by rw [← hk]; exact hn1) hb q1 (by omega) with h | ⟨m',h1,h2,h3⟩
    ·exact .inr (.inl ⟨h,.inl rfl⟩)
    ·exact .inr (.inr ⟨m',h1,h2,h3,rfl⟩)
   | true =>
    rw [if_pos rfl]
    have e:=q7 rfl rfl
    subst e
    rcases f1i j hc xs (i + 1) _ hn2 q1 (by omega) with ⟨m',h1,h2,h3,h4,h5⟩ | h | h
    ·refine .inl ⟨m',h1,h2,h3,by rw [h4,q2],fun h => h5 ?_⟩
     by_cases hk:k = KT
     ·exact .inl (q6 hk rfl)
     ·rw [q5 hk]
      rcases h with h | h
      ·exact .inl h
      ·rcases List.mem_cons.1 h with h | h
       ·exact absurd h.symm hk
       ·exact .inr h
    ·exact .inr (.inl h)
    ·exact .inr (.inr h)
theorem b8g (v:Str):∀ (l:List Str) (i:Nat),(a1e v l i = some (.go ()) ∧ v ∉ l) ∨ (∃ k:Nat,a1e v l i = some (.ret (k:Int)) ∧ k < i + l.length ∧ v ∈ l)
 | [],i => .inl ⟨by rw [a1e],by simp⟩
 | x :: l,i => by
  rw [a1e]
  by_cases h:v = x
  ·rw [if_pos (by simp [h])]
   exact .inr ⟨i,rfl,by simp,by simp [h]⟩
  ·rw [if_neg (by simp [h])]
   rcases b8g v l (i + 1) with ⟨h1,h2⟩ | ⟨k,h1,h2,h3⟩
   ·exact .inl ⟨h1,by simp [h,h2]⟩
   ·exact .inr ⟨k,h1,by simp; omega,by simp [h3]⟩
theorem e3v (j:y8) (v:Str) (hl:j.Kind = 5 → j.Keys.length = j.Items.length):(a6l j v = some (⟨0,0,[],[],[]⟩,false) ∧ (j.Kind ≠ 5 ∨ v ∉ j.Keys)) ∨ (∃ x,a6l j v = some (x,true) ∧ j.Kind = 5 ∧ v ∈ j.Keys):=by
 unfold a6l a3k
 by_cases h5:j.Kind = 5
 ·have h5':(j.Kind != 5) = false:=by simp [h5]
  rcases b8g v j.Keys 0 with ⟨h1,h2⟩ | ⟨k,h1,h2,h3⟩
  ·refine .inl ⟨?_,.inr h2⟩
   rw [h1]
   simp [h5]
  ·refine .inr ?_
   have hk:k < j.Items.length:=by rw [← hl h5]; omega
   have hi:idx j.Items (k:Int) = some j.Items[k]:=by unfold idx; simp [hk]
   refine ⟨j.Items[k],?_,h5,h3⟩
   rw [h1]
   have hn:decide ((k:Int) < 0) = false:=decide_eq_false (by omega)
   simp only [Option.bind_some,h5',Bool.false_eq_true,if_false,hn,hi]
 ·refine .inl ⟨?_,.inl h5⟩
  rcases b8g v j.Keys 0 with ⟨h1,h2⟩ | ⟨k,h1,h2,h3⟩ <;> (rw [h1]; simp [h5])
def d6k (m:a0k):Bool:=b8d m.Name && a9e m.Table && decide ((m.Columns.length:Int) ≤ 6) && m.Columns.all a9e && (m.Where.all b3k && decide ((m.Where.length:Int) ≤ 8))
theorem c4t (m:a0k) (h:MI m):a6d m = some (d6k m):=by
 unfold a6d d6k
 rw [e1u,c0n,c0n,d9g _ (fun c hc => by have:=h.2.2 c hc; simp only [maxLen]; omega)]
 cases b8d m.Name <;> cases h1:a9e m.Table <;> by_cases h2:(m.Columns.length:Int) ≤ 6 <;> cases h3:m.Columns.all a9e <;> simp [h1,h2]
theorem c8e:∀ l:List Str,a6a l = some (if l.all a9e = true then .go () else .ret false)
 | [] => by rw [a6a]; simp
 | x :: xs => by
  rw [a6a,c8e xs]
  by_cases h:(x.length:Int) ≤ 40
  ·have h1:a9e x = true:=by unfold a9e; simpa using h
   have h2:decide ((x.length:Int) > 40) = false:=decide_eq_false (by omega)
   simp only [h2,Bool.false_eq_true,if_false,List.all_cons,h1,Bool.true_and]
  ·have h1:a9e x = false:=by unfold a9e; exact decide_eq_false h
   have h2:decide ((x.length:Int) > 40) = true:=decide_eq_true (by omega)
   simp only [h2,if_true,List.all_cons,h1,Bool.false_and,Bool.false_eq_true,if_false]
theorem e3w (m:a0k):b0r m = some (d6k m):=by
 unfold b0r d6k
 rw [d1w,d9f,c8e]
 have e1:decide ((m.Table.length:Int) > 40) = !a9e m.Table:=by unfold a9e; rw [Bool.eq_iff_iff]; simp
 have e2:decide ((m.Columns.length:Int) > 6) = !decide ((m.Columns.length:Int) ≤ 6):=by rw [Bool.eq_iff_iff]; simp
 rw [e1,e2]
 cases b8d m.Name <;> cases a9e m.Table <;> cases decide ((m.Columns.length:Int) ≤ 6) <;> cases (m.Where.all b3k && decide ((m.Where.length:Int) ≤ 8)) <;> cases m.Columns.all a9e <;> rfl
theorem e3x (m:a0k) (h:d4y m.Where):d6k m = false:=by
 obtain ⟨c,hc,hf⟩:=h
 have:m.Where.all b3k = false:=by
  rw [List.all_eq_false]
  exact ⟨c,hc,by unfold b3k; simp [hf]⟩
 unfold d6k
 rw [this]
 simp
theorem c9g (n:Str) (j:y8) (hd:OkD 12 j) (hc:a5f 12 j ≤ 400):∃ m m' b,a8d n j = some (m,b) ∧ a6k n j = some (m',b) ∧ (b = true → m' = m ∧ MI m):=by
 have hn:b2a j:=hd.1
 have hci:∀ x ∈ j.Items,a5f 11 x ≤ 400:=fun x hx => b8w (d:=11) hc hx
 have h5:j.Kind = 5 → j.Keys.length = j.Items.length ∧ j.Keys.Nodup:=by
  intro h
  rcases hn with ⟨h',_⟩ | ⟨h',_⟩ | ⟨h',_⟩ | ⟨h',_⟩ | ⟨h',_⟩ | ⟨h',_,_,h1,h2⟩
  ·omega
  ·omega
  ·omega
  ·omega
  ·omega
  ·exact ⟨h1,d6i _ h2⟩
 have hk:j.Kind ≠ 5 → j.Keys = []:=by
  intro h
  rcases hn with ⟨_,_,_,h',_⟩ | ⟨_,_,_,h',_⟩ | ⟨_,_,_,h',_⟩ | ⟨_,_,_,h',_⟩ | ⟨_,_,_,h'⟩ | ⟨h',_⟩
  ·exact h'
  ·exact h'
  ·exact h'
  ·exact h'
  ·exact h'
  ·exact absurd h' h
 let m0:a0k:=⟨n,[],[],true,true,true,true,[]⟩
 have hm0:MI m0:=⟨by show (0:Nat) ≤ 400; omega,by show (0:Nat) ≤ 400; omega,fun c hc => (by cases hc)⟩
 have ei:a8d n j = (a6l j KT).bind fun r => if (!r.2) then some (emM,false) else (iL j j.Keys 0 m0).bind fun q => (match q with
  | .ret r => some r
  | .go (x_62,x_63,x_64,x_65,x_66,x_67,x_68,x_69,x_70,x_71) =>
  (a6d (⟨x_62,x_63,x_70,x_64,x_65,x_66,x_67,x_71⟩:a0k)).bind fun r_85 =>
  some ((⟨x_62,x_63,x_70,x_64,x_65,x_66,x_67,x_71⟩:a0k),r_85)):=rfl
 have es:a6k n j = (sL j j.Keys 0 m0).bind fun q => (match q with
  | .ret r => some r
  | .go (x_152,x_153,x_154,x_155,x_156,x_157,x_158) =>
  if (bif (j.Kind == 5) then (!(x_152 == [])) else false) then
  (b0r (⟨n,x_152,x_157,x_153,x_154,x_155,x_156,x_158⟩:a0k)).bind fun r_204 =>
  some ((⟨n,x_152,x_157,x_153,x_154,x_155,x_156,x_158⟩:a0k),r_204)
  else
  some ((⟨n,x_152,x_157,x_153,x_154,x_155,x_156,x_158⟩:a0k),false)):=rfl
 have spf:(sL j j.Keys 0 m0 = some (.ret (emM,false)) ∨ ∃ m',sL j j.Keys 0 m0 = some (.go (sG m')) ∧ (m'.Table = [] ∨ j.Kind ≠ 5)) → ∃ m',a6k n j = some (m',false):=by
  rintro (h | ⟨m',h,ht⟩)
  ·rw [es,h]; exact ⟨_,rfl⟩
  ·rw [es,h,Option.bind_some]
   exact ⟨_,if_neg (by rcases ht with ht | ht <;> simp [sG,ht])⟩
 rcases e3v j KT (fun h => (h5 h).1) with ⟨hf,hcase⟩ | ⟨x,hf,hk5,hin⟩
 ·rw [ei,hf]
  have hs:∃ m',a6k n j = some (m',false):=by
   apply spf
   by_cases hk5:j.Kind = 5
   ·rcases e5d j hci j.Keys 0 m0 (hcase.resolve_left (fun h => h hk5)) rfl hm0 (by rw [(h5 hk5).1]; simp) with h | ⟨m',h1,h2⟩
    ·exact .inl h
    ·exact .inr ⟨m',h1,.inl h2⟩
   ·rw [hk hk5]
    exact .inr ⟨m0,by unfold sL; rw [a2q]; rfl,.inr hk5⟩
  obtain ⟨m',hs⟩:=hs
  exact ⟨emM,m',false,rfl,hs,fun h => (by cases h)⟩
 ·rw [ei,hf,Option.bind_some,if_neg (by simp)]
  rcases f1i j hci j.Keys 0 m0 (h5 hk5).2 hm0 (by rw [(h5 hk5).1]; simp) with ⟨m',h1,h2,h3,h4,h6⟩ | ⟨h1,h2⟩ | ⟨m',h1,h2,h3,h4⟩
  ·have ht:=h6 (.inr hin)
   have hn':m'.Name = n:=h4
   subst hn'
   rw [h1,es,h2,Option.bind_some,Option.bind_some]
   refine ⟨m',m',d6k m',?_,(if_pos ?_).trans ?_,fun _ => ⟨rfl,h3⟩⟩
   ·show (a6d m').bind (fun r => some (m',r)) = _
    rw [c4t _ h3]; rfl
   ·simp [sG,hk5,ht]
   ·show (b0r m').bind (fun r => some (m',r)) = _
    rw [e3w]; rfl
  ·obtain ⟨m',hs⟩:=spf (by
    rcases h2 with h2 | ⟨m',h2,h3⟩
    ·exact .inl h2
    ·exact .inr ⟨m',h2,.inl h3⟩)
   rw [h1]
   exact ⟨_,m',false,rfl,hs,fun h => (by cases h)⟩
  ·obtain ⟨m2,hs⟩:=spf (.inl h4)
   rw [h1,Option.bind_some]
   refine ⟨m',m2,false,?_,hs,fun h => (by cases h)⟩
   show (a6d m').bind (fun r => some (m',r)) = _
   rw [c4t _ h3,e3x _ h2]; rfl
theorem d5a:∀ (n k i:Nat) (l:List a0m),i + n = l.length → n < k → smW l → l.length ≤ 400 → a2a k (i:Int) l = some l
 | _,0,_,_,_,h,_,_ => by omega
 | 0,k + 1,i,l,h,_,_,_ => by
  rw [a2a,if_neg (by simp; omega)]
 | n + 1,k + 1,i,l,h,hk,hw,hl => by
  have hi:i < l.length:=by omega
  have hlt:(0:Int) ≤ (i:Int) ∧ (i:Int) < (l.length:Int):=⟨by omega,by omega⟩
  have hix:0 + (i:Int).toNat = i:=by simp
  have wi:w64 ((i:Int) + 1) = ((i + 1:Nat):Int):=by rw [a3p (by omega)]; rfl
  have hv:=hw l[i] (List.getElem_mem _)
  rw [a2a,if_pos (by simp; omega),if_pos hlt,hix,List.getElem?_eq_getElem hi,Option.bind_some,if_pos (by simp; omega),if_pos hlt,wi]
  have es:l.set i ⟨l[i].Column,l[i].Func,[] ++ l[i].Value⟩ = l:=by
   rw [List.nil_append]
   exact List.set_getElem_self hi
  rw [es]
  exact d5a n k (i + 1) l (by omega) (by omega) hw hl
theorem f1j (m:a0k) (h:MI m):a5w m.Name m.Table m.Columns m.Initial m.Insert m.Delete m.Modify m.Where = some m:=by
 unfold a5w
 obtain ⟨h1,h2,h3⟩:=h
 rw [if_pos (by simp; omega),if_pos (by simp; omega),show (0:Int) = ((0:Nat):Int) from rfl,List.nil_append,d5a m.Where.length FUEL 0 m.Where (by omega) (fuel_lt (by omega)) h3 h2]
 simp
theorem c9h (n:Str) (j:y8) (ok:a6p j):∃ m c,a7a n j = some (m,c) ∧ a8a n j = some (m,c) ∧ MI m:=by
 have hE:MI emM:=⟨by show (0:Nat) ≤ 400; omega,by show (0:Nat) ≤ 400; omega,fun c hc => (by cases hc)⟩
 obtain ⟨b,e1,e2,hb⟩:=c9f j ok
 unfold a7a a8a b4s
 rw [e1,e2,Option.bind_some]
 by_cases hn:(n.length:Int) ≤ 65536
 ·have n1:decide ((n.length:Int) ≤ 65536) = true:=decide_eq_true hn
  have n2:decide ((n.length:Int) > 65536) = false:=decide_eq_false (by omega)
  rw [n1,n2]
  simp only [Bool.not_true,Bool.false_eq_true,if_false,Option.bind_some]
  cases b with
  | false => exact ⟨emM,1,rfl,rfl,hE⟩
  | true =>
   obtain ⟨m,m',b,g1,g2,g3⟩:=c9g n j (hb.1 rfl).1 (hb.1 rfl).2
   simp only [Bool.not_true,Bool.false_eq_true,if_false,g1,g2,Option.bind_some]
   cases b with
   | false => exact ⟨emM,3,rfl,rfl,hE⟩
   | true =>
    obtain ⟨rfl,hm⟩:=g3 rfl
    simp only [Bool.not_true,Bool.false_eq_true,if_false,f1j m' hm,Option.bind_some]
    exact ⟨m',0,rfl,rfl,hm⟩
 ·have n1:decide ((n.length:Int) ≤ 65536) = false:=decide_eq_false hn
  have n2:decide ((n.length:Int) > 65536) = true:=decide_eq_true (by omega)
  rw [n1,n2]
  exact ⟨emM,2,rfl,rfl,hE⟩
theorem b9n:∀ l:List Str,a1l l ≤ 8 * l.length
 | [] => by simp [a1l]
 | x :: xs => by have:=b9n xs; simp only [a1l,List.length_cons]; omega
theorem c4u:∀ l:List a0g,a3m l ≤ 8 * l.length
 | [] => by simp [a3m]
 | x :: xs => by have:=c4u xs; simp only [a3m,List.length_cons]; omega
theorem c4v:∀ l:List a0m,smW l → a4o l ≤ 100 * l.length
 | [],_ => by simp [a4o]
 | x :: xs,h => by
  have:=c4v xs (fun c hc => h c (by simp [hc]))
  have h1:=h x (by simp)
  have h2:=c4u x.Value
  simp only [a4o,List.length_cons]; omega
theorem b6o (n:Str) (j:y8) (hn:okS n) (h:a6p j):a6h n j = some true:=by
 unfold a6h
 by_cases hn:(n.length:Int) > 1048576
 ·rw [if_pos (decide_eq_true hn)]
 rw [if_neg (by simpa using hn)]
 obtain ⟨r,e,hr⟩:=e1q j 1048576 (by omega) (by omega) h
 rw [e,Option.bind_some]
 by_cases hn:r < 0
 ·rw [if_pos (decide_eq_true hn)]
 ·rw [if_neg (by simpa using hn)]
  obtain ⟨h1,h2⟩:=hr.resolve_left hn
  have hw:a9d j ≤ 1048576:=by omega
  have et:=e1r j (by omega)
  obtain ⟨m,c,e1,e2,k1,k2,k3⟩:=c9h n j h
  have q1:=c7u j
  have q2:=b9n m.Columns
  have q3:=c4v m.Where k3
  have hf:b2e m:=⟨by unfold a4e; omega,by omega,fun x hx => by have:=k3 x hx; unfold a7e; omega⟩
  have q4:a7f m = a1l m.Columns + a4o m.Where:=rfl
  have m1:=d6a j 1 (c7v j (by omega)) (by omega) (by omega)
  have m2:=c9a m 1 hf (by omega) (by omega)
  have m3:a5z ⟨m.Name,m.Table,(b5p m 1).Columns,m.Initial,m.Insert,m.Delete,m.Modify,(b5p m 1).Where⟩ 1 = some ((1:Int) + (a7f m:Nat)):=c9c m 1 hf (by omega) (by omega)
  have eq1:=d4f m
  have eq2:=d4e j (by omega)
  have n1:decide ((1:Int) + (b3u j:Nat) < 0) = false:=decide_eq_false (by omega)
  have n2:decide ((1:Int) + (a7f m:Nat) < 0) = false:=decide_eq_false (by omega)
  simp only [et,Option.bind_some,e1,e2,eq1,eq2,m1,m2,m3,n1,n2,Bool.not_true,Bool.false_eq_true,if_false,bne_self_eq_false,cond_false]
end Go.R
