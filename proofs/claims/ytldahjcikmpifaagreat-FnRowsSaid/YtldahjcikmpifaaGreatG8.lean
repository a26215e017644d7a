/- Part of the proof. -/
import Derived.Test.YtldahjcikmpifaaGreatG7

section
set_option linter.all false
namespace Go.R
open Go
end Go.R
end
section
set_option linter.all false
namespace Go.R
open Go
theorem a4u (f:(List o5) → Option Bool) (p:(List o5) → Bool):∀ (xs:List (List o5)) (i:Nat),(∀ x ∈ xs,f x = some (p x)) → a1o f xs i = some (match xs.findIdx? p with | some k => .ret ((i + k:Nat):Int) | none => .go ())
 | [],i,_ => by rw [a1o]; rfl
 | x :: xs,i,h => by
  rw [a1o,h x (by simp),Option.bind_some,a4u f p xs (i + 1) (fun y hy => h y (by simp [hy])),List.findIdx?_cons]
  cases hp:p x with
  | true => simp
  | false =>
   cases hq:xs.findIdx? p with
   | none => simp
   | some k => simp; omega
theorem b0y (f:(List o5) → Option Bool) (p:(List o5) → Bool) (xs:List (List o5)) (h:∀ x ∈ xs,f x = some (p x)):a1u xs f = some (match xs.findIdx? p with | some k => (k:Int) | none => -1):=by
 unfold a1u
 rw [a4u f p xs 0 h]
 cases hq:xs.findIdx? p with
 | none => rfl
 | some k => simp
theorem a9w (f:(List o5) → Option Bool) (p:(List o5) → Bool) (xs:List (List o5)) (h:∀ x ∈ xs,f x = some (p x)):a1p xs f = some (xs.any p):=by
 unfold a1p
 rw [b0y f p xs h,Option.bind_some]
 cases hq:xs.findIdx? p with
 | none =>
  have:xs.any p = false:=by
   rw [List.any_eq_false]
   intro x hx
   have:=List.findIdx?_eq_none_iff.1 hq x hx
   simp [this]
  rw [this]; rfl
 | some k =>
  have:xs.any p = true:=by
   obtain ⟨x,hx,hp⟩:∃ x,x ∈ xs ∧ p x = true:=by
    have:=List.findIdx?_eq_some_iff_getElem.1 hq
    obtain ⟨hk,h1,_⟩:=this
    exact ⟨xs[k],List.getElem_mem _,h1⟩
   exact List.any_eq_true.2 ⟨x,hx,hp⟩
  rw [this]
  simp
def f3v (c:UInt8):Bool:=!(decide ((c.toNat:Int) < 32) || decide ((c.toNat:Int) > 126))
def e4z (t:Str):Bool:=t.all f3v && decide ((t.length:Int) ≤ 200)
theorem c9x (n a b:Int):a5r n a b = some (decide (a ≤ n ∧ n ≤ b)):=by
 unfold a5r
 by_cases h:a ≤ n <;> simp [h]
theorem c8n:∀ a b:Str,Lib.compareBytes a b = -1 ∨ Lib.compareBytes a b = 0 ∨ Lib.compareBytes a b = 1
 | [],[] => by simp [Lib.compareBytes]
 | [],_ :: _ => by simp [Lib.compareBytes]
 | _ :: _,[] => by simp [Lib.compareBytes]
 | a :: xs,b :: ys => by
  have:=c8n xs ys
  unfold Lib.compareBytes
  split
  ·simp
  ·split
   ·simp
   ·exact this
theorem c4e (a b:UInt8):a < b ∨ a = b ∨ b < a:=by
 simp only [UInt8.lt_iff_toNat_lt,← UInt8.toNat_inj]
 omega
theorem b6y {a b:UInt8} (h:a < b):¬ b < a:=by
 simp only [UInt8.lt_iff_toNat_lt] at *
 omega
theorem d1c:∀ a b:Str,Lib.compareBytes b a = - Lib.compareBytes a b
 | [],[] => by simp [Lib.compareBytes]
 | [],_ :: _ => by simp [Lib.compareBytes]
 | _ :: _,[] => by simp [Lib.compareBytes]
 | a :: xs,b :: ys => by
  have ih:=d1c xs ys
  unfold Lib.compareBytes
  rcases c4e a b with h | h | h
  ·simp [h,b6y h]
  ·subst h; simp [UInt8.lt_irrefl,ih]
  ·simp [h,b6y h]
theorem b6g:∀ a b:Str,Lib.compareBytes a b = 0 ↔ a = b
 | [],[] => by simp [Lib.compareBytes]
 | [],_ :: _ => by simp [Lib.compareBytes]
 | _ :: _,[] => by simp [Lib.compareBytes]
 | a :: xs,b :: ys => by
  have ih:=b6g xs ys
  unfold Lib.compareBytes
  rcases c4e a b with h | h | h
  ·have hne:a ≠ b:=by rintro rfl; exact UInt8.lt_irrefl _ h
   simp [h,hne]
  ·subst h; simp [UInt8.lt_irrefl,ih]
  ·have hne:a ≠ b:=by rintro rfl; exact UInt8.lt_irrefl _ h
   simp [h,b6y h,hne]
theorem c4f:∀ a b:Str,Op.bytesLess a b = decide (Lib.compareBytes a b < 0)
 | [],[] => by simp [Lib.compareBytes,Op.bytesLess]
 | [],_ :: _ => by simp [Lib.compareBytes,Op.bytesLess]
 | _ :: _,[] => by simp [Lib.compareBytes,Op.bytesLess]
 | a :: xs,b :: ys => by
  have ih:=c4f xs ys
  unfold Lib.compareBytes Op.bytesLess
  rcases c4e a b with h | h | h
  ·simp [h]
  ·subst h; simp [UInt8.lt_irrefl,ih]
  ·have hne:¬ a = b:=by rintro rfl; exact UInt8.lt_irrefl _ h
   simp [h,b6y h,hne]
def b5z (a b:o7):Int:=if a.Kind ≠ b.Kind then (if a.Kind < b.Kind then -1 else 1) else if a.N ≠ b.N then (if a.N < b.N then -1 else 1) else Lib.compareBytes a.T b.T
theorem e1r (a b:o7):b5z a b = 0 ↔ a = b:=by
 unfold b5z
 cases a with | mk k n t =>
 cases b with | mk k' n' t' =>
 simp only [o7.mk.injEq]
 by_cases h1:k = k'
 ·subst h1
  by_cases h2:n = n'
  ·subst h2; simp [b6g]
  ·simp [h2]; split <;> omega
 ·simp [h1]; split <;> omega
theorem e1s (a b:o7):b5z b a = - b5z a b:=by
 unfold b5z
 cases a with | mk k n t =>
 cases b with | mk k' n' t' =>
 by_cases h1:k = k'
 ·subst h1
  by_cases h2:n = n'
  ·subst h2; simp [d1c t t']
  ·have h3:¬ n' = n:=fun h => h2 h.symm
   simp [h2,h3]; split <;> split <;> omega
 ·have h3:¬ k' = k:=fun h => h1 h.symm
  simp [h1,h3]; split <;> split <;> omega
theorem d5m (x y:Int):cmp_Compare_int x y = some (if x < y then -1 else if x > y then 1 else 0):=by
 unfold cmp_Compare_int cmp_isNaN_int
 by_cases h1:x < y <;> by_cases h2:x > y <;> simp [h1,h2]
theorem e7y (a b:o7):a9s a b = some (b5z a b):=by
 unfold a9s a7b b5z
 have w0:w64 (1 - w64 0) = 1:=by decide
 have w1:w64 (1 - w64 2) = -1:=by decide
 by_cases h1:a.Kind = b.Kind
 ·by_cases h2:a.N = b.N
  ·simp only [h1,h2,bne_self_eq_false,Bool.false_eq_true,if_false,ne_eq,not_true_eq_false,c4f]
   by_cases h3:a.T = b.T
   ·simp [h3,(b6g b.T b.T).2 rfl]
   ·have hne:Lib.compareBytes a.T b.T ≠ 0:=fun h => h3 ((b6g _ _).1 h)
    rcases c8n a.T b.T with h | h | h
    ·simp [h3,h,w1]
    ·exact absurd h hne
    ·simp [h3,h,w0]
  ·by_cases h3:a.N < b.N <;> simp [h1,h2,h3,w0,w1]
 ·by_cases h3:a.Kind < b.Kind <;> simp [h1,h3,w0,w1]
def b1o (a:o7):Bool :=
 (decide (a.Kind = 1) && decide (-1000000000 ≤ a.N ∧ a.N ≤ 1000000000) && decide (a.T = [])) ||
 (decide (a.Kind = 2) && decide (a.N = 0) && e4z a.T) ||
 (decide (a.Kind = 3) && decide (0 ≤ a.N ∧ a.N ≤ 1) && decide (a.T = [])) ||
 (decide (a.Kind = 4) && decide (1 ≤ a.N ∧ a.N ≤ 1000000) && decide (a.T = []))
def d5n (d:List o7) (q:Nat) (x:o7):Bool :=
 b1o x && (match d[0]? with | some h => x.Kind == h.Kind | none => false) && (q == 0 || match d[q - 1]? with | some y => decide (b5z y x < 0) | none => false)
def allS (d:List o7):List o7 → Nat → Bool
 | [],_ => true
 | x :: xs,i => d5n d i x && allS d xs (i + 1)
def b2j (d:List o7):Bool:=allS d d 0 && decide ((d.length:Int) ≤ 8)
theorem c8o (d:List o7):∀ (xs:List o7) (i:Nat),allS d xs i = true ↔ ∀ q x,xs[q]? = some x → d5n d (i + q) x = true
 | [],i => by simp [allS]
 | x :: xs,i => by
  simp only [allS,Bool.and_eq_true,c8o d xs (i + 1)]
  constructor
  ·rintro ⟨h1,h2⟩ q y hq
   cases q with
   | zero => simp at hq; subst hq; simpa using h1
   | succ q => have:=h2 q y (by simpa using hq); rw [show i + (q + 1) = i + 1 + q from by omega]; exact this
  ·intro h
   refine ⟨by simpa using h 0 x (by simp),fun q y hq => ?_⟩
   have:=h (q + 1) y (by simpa using hq)
   rw [show i + 1 + q = i + (q + 1) from by omega]; exact this
structure a6d (k:Int) (d:List o7):Prop where
 atom:∀ x ∈ d,b1o x = true ∧ x.Kind = k
 ord:∀ i x y,d[i]? = some x → d[i + 1]? = some y → b5z x y < 0
theorem a6d.allS {k:Int} {d:List o7} (h:a6d k d):allS d d 0 = true:=by
 rw [c8o]
 intro q x hq
 obtain ⟨h1,h2⟩:=h.atom x (List.mem_of_getElem? hq)
 have hlt:=(List.getElem?_eq_some_iff.1 hq).1
 obtain ⟨z,hz⟩:∃ z,d[0]? = some z:=⟨d[0],List.getElem?_eq_getElem (by omega)⟩
 obtain ⟨_,g2⟩:=h.atom z (List.mem_of_getElem? hz)
 unfold d5n
 simp only [Nat.zero_add,h1,hz,h2,g2,Bool.true_and,beq_self_eq_true]
 by_cases h0:q = 0
 ·simp [h0]
 ·obtain ⟨y,hy⟩:∃ y,d[q - 1]? = some y:=⟨d[q - 1],List.getElem?_eq_getElem (by omega)⟩
  have:=h.ord (q - 1) y x hy (by rw [show q - 1 + 1 = q from by omega]; exact hq)
  simp [hy,this]
def isLet (c:Int):Bool:=(decide (97 ≤ c) && decide (c ≤ 122)) || (decide (65 ≤ c) && decide (c ≤ 90)) || c == 95
def d9w (c:Int):Bool:=decide (48 ≤ c) && decide (c ≤ 57)
theorem c5f (c:Int):a8a c = some (isLet c):=by
 unfold a8a isLet
 by_cases h1:97 ≤ c <;> by_cases h2:c ≤ 122 <;> by_cases h3:65 ≤ c <;> by_cases h4:c ≤ 90 <;> by_cases h5:c = 95 <;> simp [h1,h2,h3,h4,h5]
theorem d8g (c:Int):b1f c = some (d9w c):=by
 unfold b1f d9w
 by_cases h1:48 ≤ c <;> simp [h1]
def c6f (b:UInt8):Bool:=isLet b.toNat || d9w b.toNat
def b5g (t:Str):Bool:=decide (1 ≤ t.length) && decide (t.length ≤ 40) && isLet (t.headD 0).toNat && (t.drop 1).all c6f
theorem c2n:∀ (t:Str),a9c t = some (if t.all c6f then .go () else .ret false)
 | [] => by rw [a9c]; rfl
 | c :: t => by
  rw [a9c,c5f,Option.bind_some,d8g,c2n t]
  cases h1:isLet (c.toNat:Int) <;> cases h2:d9w (c.toNat:Int) <;> simp [c6f,h1,h2]
theorem e1t (t:Str):b2n t = some (b5g t):=by
 unfold b2n b5g
 cases t with
 | nil => rfl
 | cons c t =>
  have e:idx (c :: t) 0 = some c:=rfl
  rw [e,Option.bind_some,c5f,Option.bind_some,c2n]
  have e1:decide (((c :: t).length:Int) < 1) = false:=decide_eq_false (by simp only [List.length_cons]; omega)
  have e2:decide (1 ≤ (c :: t).length) = true:=decide_eq_true (by simp only [List.length_cons]; omega)
  rw [e1,e2]
  by_cases h:(c :: t).length ≤ 40
  ·have e3:decide (((c :: t).length:Int) > 40) = false:=decide_eq_false (by omega)
   have e4:decide ((c :: t).length ≤ 40) = true:=decide_eq_true h
   rw [e3,e4]
   cases h1:isLet (c.toNat:Int) <;> cases h3:t.all c6f <;> simp [h1,h3]
  ·have e3:decide (((c :: t).length:Int) > 40) = true:=decide_eq_true (by omega)
   have e4:decide ((c :: t).length ≤ 40) = false:=decide_eq_false h
   rw [e3,e4]
   simp
theorem d2s (t:Str):b2i t = some (b5g t):=by
 unfold b2i
 rw [e1t]; rfl
def d8h (c:a0d) (x:o7):Bool:=!decide (c.Low ≤ x.N ∧ x.N ≤ c.High)
theorem c8p (c:a0d):∀ (xs:List o7),a9g c xs = some (if (c.Kind == 1 && xs.any (d8h c)) = true then .ret 4 else .go ())
 | [] => by rw [a9g]; simp
 | x :: xs => by
  rw [a9g,c8p c xs]
  by_cases k:c.Kind = 1
  ·rw [if_pos (by simpa using k),c9x,Option.bind_some,Option.bind_some]
   have e:(!decide (c.Low ≤ x.N ∧ x.N ≤ c.High)) = d8h c x:=rfl
   rw [e]
   cases h:d8h c x <;> simp [k,h]
  ·rw [if_neg (by simpa using k),Option.bind_some,if_neg (by simp)]
   simp [k]
def b3d (c:a0d) (d:List o7):Int :=
 if (match d[0]? with | some x => x.Kind != c.Kind | none => false) = true then 9 else if ¬ (c.Min ≤ d.length ∧ (d.length:Int) ≤ c.Max) then 6 else if (c.Kind == 1 && d.any (d8h c)) = true then 4 else 0
theorem f1d (c:a0d) (d:List o7):((if (decide ((d.length:Int) > 0)) then (idx d 0).bind fun x_11 => some (x_11.Kind != c.Kind) else some false:Option Bool)) = some (match d[0]? with | some x => x.Kind != c.Kind | none => false):=by
 cases d with
 | nil => rfl
 | cons x xs =>
  rw [if_pos (by simp)]
  rfl
theorem d9x (c:a0d) (d:List o7):a8z c d = some (b3d c d):=by
 unfold a8z b3d
 rw [f1d,Option.bind_some]
 generalize (match d[0]? with | some x => x.Kind != c.Kind | none => false) = b
 cases b with
 | true => simp
 | false =>
  simp only [Bool.false_eq_true,if_false]
  rw [c9x,Option.bind_some]
  by_cases h:c.Min ≤ d.length ∧ (d.length:Int) ≤ c.Max
  ·rw [decide_eq_true h,if_neg (not_not_intro h)]
   simp only [Bool.not_true,Bool.false_eq_true,if_false]
   rw [c8p]
   cases hh:(c.Kind == 1 && d.any (d8h c)) <;> simp
  ·rw [decide_eq_false h,if_pos h]
   simp
def a9x {α:Type} (f:Nat → α → Bool):List α → Nat → Bool
 | [],_ => true
 | x :: xs,i => f i x && a9x f xs (i + 1)
theorem b2x {α:Type} (f:Nat → α → Bool):∀ (xs:List α) (i:Nat),a9x f xs i = true ↔ ∀ q x,xs[q]? = some x → f (i + q) x = true
 | [],i => by simp [a9x]
 | x :: xs,i => by
  simp only [a9x,Bool.and_eq_true,b2x f xs (i + 1)]
  constructor
  ·rintro ⟨h1,h2⟩ q y hq
   cases q with
   | zero => simp at hq; subst hq; simpa using h1
   | succ q => have:=h2 q y (by simpa using hq); rw [show i + (q + 1) = i + 1 + q from by omega]; exact this
  ·intro h
   refine ⟨by simpa using h 0 x (by simp),fun q y hq => ?_⟩
   have:=h (q + 1) y (by simpa using hq)
   rw [show i + 1 + q = i + (q + 1) from by omega]; exact this
theorem c2o {α:Type} {f:Nat → α → Bool} {xs:List α} {i:Nat} (h:a9x f xs i = true) {x:α} (hx:x ∈ xs):∃ q,f q x = true:=by
 obtain ⟨q,hq⟩:=List.mem_iff_getElem?.1 hx
 exact ⟨_,(b2x f xs i).1 h q x hq⟩
def atI (o:Option Nat):Int:=match o with | some k => (k:Int) | none => -1
theorem b9j {o:Option Nat}:decide (atI o < 0) = o.isNone:=by
 cases o with
 | none => rfl
 | some k => exact decide_eq_false (show ¬ ((k:Nat):Int) < 0 by omega)
theorem f1e {o:Option Nat}:decide (atI o ≥ 0) = o.isSome:=by
 cases o with
 | none => rfl
 | some k => simp [atI]
def b2a (t:x8) (name:Str):Option Nat:=t.Columns.findIdx? (fun c => c.Name == name)
def b5k (s:a0b) (name:Str):Option Nat:=s.Tables.findIdx? (fun c => c.Name == name)
theorem b4c {t:x8} {name:Str} {k:Nat} (h:b2a t name = some k):∃ x,idx t.Columns (k:Int) = some x ∧ t.Columns[k]? = some x:=by
 obtain ⟨h1,h2,_⟩:=List.findIdx?_eq_some_iff_getElem.1 h
 exact ⟨t.Columns[k],by rw [a0m]; simp [h1],by simp [h1]⟩
theorem e5a {s:a0b} {name:Str} {k:Nat} (h:b5k s name = some k):∃ x,idx s.Tables (k:Int) = some x ∧ x ∈ s.Tables:=by
 obtain ⟨h1,h2,_⟩:=List.findIdx?_eq_some_iff_getElem.1 h
 exact ⟨s.Tables[k],by rw [a0m]; simp [h1],List.getElem_mem _⟩
theorem b8m (name:Str):∀ (xs:List a0d) (i:Nat),a7c name xs i = some (match xs.findIdx? (fun c => c.Name == name) with | some k => .ret ((i + k:Nat):Int) | none => .go ())
 | [],i => by rw [a7c]; rfl
 | x :: xs,i => by
  rw [a7c,b8m name xs (i + 1),List.findIdx?_cons]
  cases hp:(x.Name == name) with
  | true => simp
  | false =>
   cases hq:xs.findIdx? (fun c => c.Name == name) with
   | none => simp
   | some k => simp; omega
theorem a8w (t:x8) (name:Str):a2e t name = some (atI (b2a t name)):=by
 unfold a2e b2a atI
 rw [b8m]
 cases hq:t.Columns.findIdx? (fun c => c.Name == name) <;> simp
theorem c2p (name:Str):∀ (xs:List x8) (i:Nat),a9d name xs i = some (match xs.findIdx? (fun c => c.Name == name) with | some k => .ret ((i + k:Nat):Int) | none => .go ())
 | [],i => by rw [a9d]; rfl
 | x :: xs,i => by
  rw [a9d,c2p name xs (i + 1),List.findIdx?_cons]
  cases hp:(x.Name == name) with
  | true => simp
  | false =>
   cases hq:xs.findIdx? (fun c => c.Name == name) with
   | none => simp
   | some k => simp; omega
theorem b9k (s:a0b) (name:Str):a4k s name = some (atI (b5k s name)):=by
 unfold a4k b5k atI
 rw [c2p]
 cases hq:s.Tables.findIdx? (fun c => c.Name == name) <;> simp
def e1u (c:a0d):Bool :=
  b5g c.Name && decide (0 ≤ c.Min ∧ c.Min ≤ 1) && decide (1 ≤ c.Max ∧ c.Max ≤ 8) &&
  ((decide (c.Kind = 1) && decide (-1000000000 ≤ c.Low ∧ c.Low ≤ c.High ∧ c.High ≤ 1000000000) && decide (c.Ref = []) && !c.Strong) ||
   ((decide (c.Kind = 2) || decide (c.Kind = 3)) && decide (c.Low = 0) && decide (c.High = 0) && decide (c.Ref = []) && !c.Strong) ||
   (decide (c.Kind = 4) && decide (c.Low = 0) && decide (c.High = 0) && b5g c.Ref && decide (c.Min = 0)))
def d9y (t:x8) (i:Nat) (x:a0d):Bool:=e1u x && !(t.Columns.take i).any (fun c => c.Name == x.Name)
def b6z (t:x8) (i:Nat) (x:Int):Bool:=decide (0 ≤ x ∧ x ≤ (t.Columns.length:Int) - 1) && (i == 0 || match t.Unique[i - 1]? with | some y => decide (y < x) | none => false)
theorem e5b (t:x8) (h:a9x (b6z t) t.Unique 0 = true):∀ (i:Nat) x,t.Unique[i]? = some x → (i:Int) ≤ x
 | 0,x,hx => by
  have:=(b2x _ _ _).1 h 0 x hx
  simp only [b6z,Bool.and_eq_true,decide_eq_true_eq] at this
  exact this.1.1
 | i + 1,x,hx => by
  have hl:=(List.getElem?_eq_some_iff.1 hx).1
  obtain ⟨y,hy⟩:∃ y,t.Unique[i]? = some y:=⟨t.Unique[i],List.getElem?_eq_getElem (by omega)⟩
  have h1:=e5b t h i y hy
  have:=(b2x _ _ _).1 h (i + 1) x hx
  simp only [b6z,Bool.and_eq_true,decide_eq_true_eq,Bool.or_eq_true,Nat.zero_add,Nat.add_sub_cancel,hy] at this
  rcases this.2 with h2 | h2
  ·simp at h2
  ·omega
theorem e7z (t:x8) (h:a9x (b6z t) t.Unique 0 = true):t.Unique.length ≤ t.Columns.length:=by
 rcases Nat.eq_zero_or_pos t.Unique.length with h0 | h0
 ·omega
 ·obtain ⟨x,hx⟩:∃ x,t.Unique[t.Unique.length - 1]? = some x:=⟨t.Unique[t.Unique.length - 1],List.getElem?_eq_getElem (by omega)⟩
  have h1:=e5b t h _ x hx
  have:=(b2x _ _ _).1 h _ x hx
  simp only [b6z,Bool.and_eq_true,decide_eq_true_eq] at this
  have:=this.1.2
  omega
def d8i (t:x8):Bool:=b5g t.Name && decide (1 ≤ (t.Columns.length:Int) ∧ (t.Columns.length:Int) ≤ 6) && a9x (d9y t) t.Columns 0 && a9x (b6z t) t.Unique 0
def c2r (s:a0b) (c:a0d):Bool:=!(decide (c.Kind = 4) && (b5k s c.Ref).isNone)
def d2t (s:a0b) (i:Nat) (x:x8):Bool:=d8i x && (i == 0 || match s.Tables[i - 1]? with | some y => Op.bytesLess y.Name x.Name | none => false)
def b2b (s:a0b):Bool:=decide (1 ≤ (s.Tables.length:Int) ∧ (s.Tables.length:Int) ≤ 4) && a9x (d2t s) s.Tables 0 && s.Tables.all (fun t => t.Columns.all (c2r s))
theorem d1d {t:x8} (h:d8i t = true):∀ c ∈ t.Columns,e1u c = true:=by
 intro c hc
 simp only [d8i,Bool.and_eq_true] at h
 obtain ⟨q,hq⟩:=c2o h.1.2 hc
 simp only [d9y,Bool.and_eq_true] at hq
 exact hq.1
theorem c2s {s:a0b} (h:b2b s = true) {t:x8} (ht:t ∈ s.Tables):d8i t = true:=by
 simp only [b2b,Bool.and_eq_true] at h
 obtain ⟨q,hq⟩:=c2o h.1.2 ht
 simp only [d2t,Bool.and_eq_true] at hq
 exact hq.1
def b7i (t:x8) (i:Nat) (d:List o7):Bool:=b2j d && match t.Columns[i]? with | some c => b3d c d == 0 | none => false
def a4n (t:x8) (r:o5):Bool:=decide (1 ≤ r.Id ∧ r.Id ≤ 1000000) && decide (r.Cells.length = t.Columns.length) && a9x (b7i t) r.Cells 0
theorem b0q {t:x8} {r:o5} (h:a4n t r = true):r.Cells.length = t.Columns.length:=by
 unfold a4n at h
 simp only [Bool.and_eq_true,decide_eq_true_eq] at h
 exact h.1.2
theorem b5t {t:x8} {r:o5} (h:a4n t r = true) {d:List o7} (hd:d ∈ r.Cells):b2j d = true:=by
 unfold a4n at h
 simp only [Bool.and_eq_true] at h
 obtain ⟨q,hq⟩:=c2o h.2 hd
 unfold b7i at hq
 simp only [Bool.and_eq_true] at hq
 exact hq.1
theorem b2y {d:List o7} (h:b2j d = true):d.length ≤ 8:=by
 unfold b2j at h
 simp only [Bool.and_eq_true,decide_eq_true_eq] at h
 omega
def c0c (t:x8) (r:o5) (n:Str):List o7:=match b2a t n with | some k => (r.Cells[k]?).getD [] | none => [⟨4,r.Id,[]⟩]
theorem c1d {t:x8} {r:o5} {n:Str} {k:Nat} (hl:r.Cells.length = t.Columns.length) (hk:b2a t n = some k):idx r.Cells (k:Int) = some (c0c t r n) ∧ c0c t r n ∈ r.Cells:=by
 obtain ⟨x,_,h2⟩:=b4c hk
 have hlt:k < r.Cells.length:=by rw [hl]; exact (List.getElem?_eq_some_iff.1 h2).1
 unfold c0c
 rw [hk,a0m]
 simp only [List.getElem?_eq_getElem hlt,Option.getD_some]
 exact ⟨trivial,List.getElem_mem hlt⟩
theorem e1v {t:x8} {r:o5} {n:Str} (h:a4n t r = true):(c0c t r n).length ≤ 8:=by
 cases hk:b2a t n with
 | some k => exact b2y (b5t h (c1d (b0q h) hk).2)
 | none => simp [c0c,hk]
theorem d1e {t:x8} {r:o5} (hl:r.Cells.length = t.Columns.length) (n:Str):b0v t r n = some (c0c t r n):=by
 unfold b0v
 rw [a8w,Option.bind_some,b9j]
 cases hk:b2a t n with
 | some k => simp [atI,(c1d hl hk).1]
 | none => simp [c0c,hk]
theorem c2t {t:x8} {r:o5} (h:a4n t r = true):∀ (ns:List Str) (out:List (List o7)),out.length + ns.length ≤ 2 ^ 30 → a9j t r ns out = some (out ++ ns.map (c0c t r))
 | [],out,_ => by rw [a9j]; simp
 | n :: ns,out,hl => by
  simp only [List.length_cons] at hl
  have:=e1v (n:=n) h
  rw [a9j,d1e (b0q h),Option.bind_some,if_pos (by simp; omega),if_pos (by simp; omega),c2t h ns _ (by simp; omega)]
  simp
theorem e1w {t:x8} {r:o5} (h:a4n t r = true) (ns:List Str) (hl:ns.length ≤ 4096):b2s t r ns = some ⟨r.Id,ns.map (c0c t r)⟩:=by
 unfold b2s
 rw [c2t h ns [] (by simp; omega)]
 rfl
theorem c8q:∀ a b c:Str,Lib.compareBytes a b < 0 → Lib.compareBytes b c < 0 → Lib.compareBytes a c < 0
 | [],[],c => by intro h; simp [Lib.compareBytes] at h
 | [],_ :: _,[] => by intro _ h; simp [Lib.compareBytes] at h
 | [],_ :: _,_ :: _ => by intro _ _; simp [Lib.compareBytes]
 | _ :: _,[],c => by intro h; simp [Lib.compareBytes] at h
 | _ :: _,_ :: _,[] => by intro _ h; simp [Lib.compareBytes] at h
 | a :: xs,b :: ys,c :: zs => by
  have ih:=c8q xs ys zs
  unfold Lib.compareBytes
  rcases c4e a b with h | h | h
  ·rcases c4e b c with g | g | g
   ·have:a < c:=by simp only [UInt8.lt_iff_toNat_lt] at *; omega
    simp [this]
   ·subst g; simp [h]
   ·simp [h,g,b6y g]
  ·subst h
   rcases c4e a c with g | g | g
   ·simp [g]
   ·subst g; simp only [UInt8.lt_irrefl,if_false]; exact ih
   ·simp [g,b6y g]
  ·simp [h,b6y h]
theorem d8j {a b c:o7} (h:b5z a b < 0) (g:b5z b c < 0):b5z a c < 0:=by
 unfold b5z at *
 by_cases k1:a.Kind = b.Kind
 ·by_cases k2:b.Kind = c.Kind
  ·have k3:a.Kind = c.Kind:=k1.trans k2
   simp only [k1,k2,k3,ne_eq,not_true_eq_false,if_false] at *
   by_cases n1:a.N = b.N
   ·by_cases n2:b.N = c.N
    ·have n3:a.N = c.N:=n1.trans n2
     simp only [n1,n2,n3,ne_eq,not_true_eq_false,if_false] at *
     exact c8q _ _ _ h g
    ·have n3:¬ a.N = c.N:=fun e => n2 (n1.symm.trans e)
     simp only [n1,n2,ne_eq,not_true_eq_false,not_false_eq_true,if_false,if_true] at *
     split at g <;> simp_all
   ·by_cases n2:b.N = c.N
    ·have n3:¬ a.N = c.N:=fun e => n1 (e.trans n2.symm)
     simp only [n1,n2,n3,ne_eq,not_true_eq_false,not_false_eq_true,if_false,if_true] at *
     split at h <;> simp_all
    ·simp only [n1,n2,ne_eq,not_false_eq_true,if_true] at h g
     have h':a.N < b.N:=by split at h <;> first | assumption | omega
     have g':b.N < c.N:=by split at g <;> first | assumption | omega
     have n3:¬ a.N = c.N:=by omega
     have n4:a.N < c.N:=by omega
     simp [n3,n4]
  ·have k3:¬ a.Kind = c.Kind:=fun e => k2 (k1.symm.trans e)
   simp only [k2,ne_eq,not_false_eq_true,if_true] at g
   have g':b.Kind < c.Kind:=by split at g <;> first | assumption | omega
   have:a.Kind < c.Kind:=by omega
   simp [k3,this]
 ·simp only [k1,ne_eq,not_false_eq_true,if_true] at h
  have h':a.Kind < b.Kind:=by split at h <;> first | assumption | omega
  by_cases k2:b.Kind = c.Kind
  ·have k3:¬ a.Kind = c.Kind:=fun e => k1 (e.trans k2.symm)
   have:a.Kind < c.Kind:=by omega
   simp [k3,this]
  ·simp only [k2,ne_eq,not_false_eq_true,if_true] at g
   have g':b.Kind < c.Kind:=by split at g <;> first | assumption | omega
   have k3:¬ a.Kind = c.Kind:=by omega
   have:a.Kind < c.Kind:=by omega
   simp [k3,this]
def c4g (d:List o7):Prop:=d.Pairwise fun a b => b5z a b < 0
theorem c0d:∀ (d:List o7),(∀ i x y,d[i]? = some x → d[i + 1]? = some y → b5z x y < 0) → c4g d
 | [],_ => .nil
 | [a],_ => List.pairwise_singleton _ _
 | a :: b :: l,h => by
  have ih:c4g (b :: l):=c0d (b :: l) (fun i x y hx hy => h (i + 1) x y (by simpa using hx) (by simpa using hy))
  have hab:b5z a b < 0:=h 0 a b rfl rfl
  refine List.pairwise_cons.2 ⟨fun c hc => ?_,ih⟩
  rcases List.mem_cons.1 hc with rfl | hc
  ·exact hab
  ·exact d8j hab ((List.pairwise_cons.1 ih).1 c hc)
theorem c4g.adj {d:List o7} (h:c4g d):∀ i x y,d[i]? = some x → d[i + 1]? = some y → b5z x y < 0:=by
 intro i x y hx hy
 obtain ⟨hi,rfl⟩:=List.getElem?_eq_some_iff.1 hx
 obtain ⟨hj,rfl⟩:=List.getElem?_eq_some_iff.1 hy
 exact List.pairwise_iff_getElem.1 h i (i + 1) hi hj (by omega)
theorem a6d.strict {k:Int} {d:List o7} (h:a6d k d):c4g d:=c0d d h.ord
theorem a6d.of {k:Int} {d:List o7} (h1:∀ x ∈ d,b1o x = true ∧ x.Kind = k) (h2:c4g d):a6d k d:=⟨h1,h2.adj⟩
theorem d2u (x y:o7):(x.Kind == y.Kind && (x.N == y.N && (x.T == y.T && true))) = decide (x = y):=by
 cases x; cases y
 rw [Bool.eq_iff_iff]
 simp
theorem d5o (a:o7):∀ d:List o7,b0i a d = some (if a ∈ d then .ret true else .go ())
 | [] => by rw [b0i]; simp
 | x :: xs => by
  rw [b0i,d2u,d5o a xs]
  by_cases h:x = a
  ·subst h; simp
  ·simp [h,Ne.symm h]
theorem e5c (d:List o7) (a:o7):a8t d a = some (decide (a ∈ d)):=by
 unfold a8t
 rw [d5o]
 by_cases h:a ∈ d <;> simp [h]
theorem d5p (d:List o7) (a:o7):∀ (n k:Nat),n < k → n ≤ d.length → d.length ≤ 2 ^ 29 → ∃ m:Nat,a2t d a k n = some (m:Int) ∧ m ≤ n ∧ (∀ x,0 < m → d[m - 1]? = some x → b5z x a ≤ 0) ∧ (∀ j x,m ≤ j → j < n → d[j]? = some x → 0 < b5z x a)
 | _,0,h,_,_ => by omega
 | 0,k + 1,_,_,_ => by
  refine ⟨0,?_,by omega,by omega,by omega⟩
  rw [a2t,if_neg (by simp),Option.bind_some,if_neg (by simp)]
 | n + 1,k + 1,h,hn,hl => by
  obtain ⟨y,hy⟩:∃ y,d[n]? = some y:=⟨d[n],List.getElem?_eq_getElem (by omega)⟩
  have ew:w64 (((n + 1:Nat):Int) - 1) = (n:Int):=by rw [a1d (by omega)]; omega
  rw [a2t,if_pos (by simp),ew,a0m,hy,Option.bind_some,e7y,Option.bind_some,Option.bind_some]
  by_cases hc:b5z y a > 0
  ·rw [if_pos (by simpa using hc)]
   obtain ⟨m,e,h1,h2,h3⟩:=d5p d a n k (by omega) (by omega) hl
   refine ⟨m,e,by omega,h2,fun j x hj1 hj2 hx => ?_⟩
   by_cases hjn:j = n
   ·subst hjn; rw [hy] at hx; rw [← Option.some.inj hx]; exact hc
   ·exact h3 j x hj1 (by omega) hx
  ·rw [if_neg (by simpa using hc)]
   refine ⟨n + 1,rfl,by omega,fun x _ hx => ?_,by omega⟩
   rw [show n + 1 - 1 = n from by omega,hy] at hx
   rw [← Option.some.inj hx]; omega
theorem d9z (d:List o7) (a:o7) (k i:Nat) (hk:k ≤ d.length):(d.take k ++ a :: d.drop k)[i]? = if i < k then d[i]? else if i = k then some a else d[i - 1]?:=by
 by_cases h1:i < k
 ·rw [if_pos h1,List.getElem?_append_left (by simp; omega),List.getElem?_take_of_lt h1]
 ·rw [if_neg h1,List.getElem?_append_right (by simp; omega)]
  have hl:(d.take k).length = k:=by simp; omega
  rw [hl]
  by_cases h2:i = k
  ·subst h2; simp
  ·rw [if_neg h2,show i - k = (i - k - 1) + 1 from by omega,List.getElem?_cons_succ,List.getElem?_drop]
   congr 1; omega
theorem e0a (k:Int) (d:List o7) (a:o7) (hs:a6d k d) (ha:b1o a = true) (hk:a.Kind = k) (hl:d.length < 2 ^ 29):∃ d',a8u d a = some d' ∧ a6d k d' ∧ (∀ x,x ∈ d' ↔ x = a ∨ x ∈ d) ∧ d'.length ≤ d.length + 1:=by
 have hf:2 ^ 40 < FUEL:=by unfold FUEL; decide
 unfold a8u
 rw [e5c,Option.bind_some]
 by_cases hm:a ∈ d
 ·rw [if_pos (by simpa using hm)]
  exact ⟨d,rfl,hs,fun x => ⟨.inr,fun h => h.elim (fun h => h ▸ hm) id⟩,by omega⟩
 ·rw [if_neg (by simpa using hm)]
  obtain ⟨m,e,h1,h2,h3⟩:=d5p d a d.length FUEL (by omega) (by omega) (by omega)
  rw [e,Option.bind_some,if_pos (by omega),if_pos (by omega),if_pos (by simp; omega),if_pos (by simp; omega),if_pos (by simp; omega)]
  simp only [List.nil_append,Int.toNat_natCast,List.append_assoc,List.cons_append,List.nil_append]
  refine ⟨_,rfl,⟨?_,?_⟩,?_,by simp; omega⟩
  ·intro x hx
   simp only [List.mem_append,List.mem_cons] at hx
   rcases hx with hx | rfl | hx
   ·exact hs.atom x (List.mem_of_mem_take hx)
   ·exact ⟨ha,hk⟩
   ·exact hs.atom x (List.mem_of_mem_drop hx)
  ·intro i x y hx hy
   rw [d9z d a m i h1] at hx
   rw [d9z d a m (i + 1) h1] at hy
   by_cases c1:i + 1 < m
   ·rw [if_pos (by omega)] at hx
    rw [if_pos c1] at hy
    exact hs.ord i x y hx hy
   ·rw [if_neg c1] at hy
    by_cases c2:i + 1 = m
    ·rw [if_pos c2] at hy
     rw [if_pos (by omega)] at hx
     have e1:=Option.some.inj hy
     subst e1
     have:=h2 x (by omega) (by rw [show m - 1 = i from by omega]; exact hx)
     have hne:b5z x a ≠ 0:=fun h => hm (by rw [← (e1r x a).1 h]; exact List.mem_of_getElem? hx)
     omega
    ·rw [if_neg c2] at hy
     rw [if_neg (by omega)] at hx
     by_cases c3:i = m
     ·rw [if_pos c3] at hx
      have e1:=Option.some.inj hx
      subst e1
      rw [show i + 1 - 1 = i from by omega] at hy
      have:=h3 i y (by omega) (List.getElem?_eq_some_iff.1 hy).1 hy
      have:=e1s y a
      omega
     ·rw [if_neg c3] at hx
      exact hs.ord (i - 1) x y hx (by rw [show i - 1 + 1 = i + 1 - 1 from by omega]; exact hy)
  ·intro x
   have:x ∈ d ↔ x ∈ d.take m ∨ x ∈ d.drop m:=by rw [← List.mem_append,List.take_append_drop]
   simp only [List.mem_append,List.mem_cons,this]
   constructor
   ·rintro (h | h | h)
    ·exact .inr (.inl h)
    ·exact .inl h
    ·exact .inr (.inr h)
   ·rintro (h | h | h)
    ·exact .inr (.inl h)
    ·exact .inl h
    ·exact .inr (.inr h)
theorem f1f {α:Type} (l:List α) (i:Int) (h:0 ≤ i):idx l i = l[0 + i.toNat]?:=by
 obtain ⟨n,rfl⟩:∃ n:Nat,i = n:=⟨i.toNat,by omega⟩
 rw [a0m]; simp
theorem d1f (d:List o7) (a:o7) (hl:d.length ≤ 2 ^ 29):∀ (k n:Nat),n ≤ d.length → a3a d a k (n:Int) = a2t d a k (n:Int)
 | 0,n,_ => by rw [a3a,a2t]
 | k + 1,0,_ => by
  rw [a3a,a2t,if_neg (by simp),if_neg (by simp)]
  simp
 | k + 1,n + 1,h => by
  have ew:w64 (((n + 1:Nat):Int) - 1) = (n:Int):=by rw [a1d (by omega)]; omega
  rw [a3a,a2t,ew,d1f d a hl k n (by omega)]
  simp only [f1f d n (by omega)]
  rw [if_pos (show (0:Int) ≤ (n:Int) ∧ (n:Int) < (d.length:Int) by omega)]
theorem e5d (d:List o7) (a:o7) (hl:d.length ≤ 2 ^ 29):a7y d a = a8u d a:=by
 have e:∀ k:Nat,(d.drop k).take (d.length - k) = d.drop k:=fun k => List.take_of_length_le (by simp)
 unfold a7y a8u
 rw [d1f d a hl FUEL d.length (Nat.le_refl _)]
 simp only [e]
theorem b7a {k:Int} {d:List o7} (h:a6d k d) (hl:d.length ≤ 8):b2j d = true:=by
 unfold b2j
 rw [a6d.allS h,decide_eq_true (by omega)]
 rfl
theorem c2u (k:Int):∀ (xs out:List o7),a6d k out → (∀ x ∈ xs,b1o x = true ∧ x.Kind = k) → out.length + xs.length ≤ 100 → ∃ d,a9k xs out = some d ∧ a6d k d ∧ (∀ x,x ∈ d ↔ x ∈ out ∨ x ∈ xs) ∧ d.length ≤ out.length + xs.length
 | [],out,h,_,_ => ⟨out,by rw [a9k],h,by simp,by simp⟩
 | x :: xs,out,h,hx,hl => by
  simp only [List.length_cons] at hl
  obtain ⟨d,e,h1,h2,h3⟩:=e0a k out x h (hx x (by simp)).1 (hx x (by simp)).2 (by omega)
  obtain ⟨d2,e2,g1,g2,g3⟩:=c2u k xs d h1 (fun y hy => hx y (by simp [hy])) (by omega)
  refine ⟨d2,?_,g1,fun y => ?_,by simp only [List.length_cons]; omega⟩
  ·rw [a9k,e5d out x (by omega),e,Option.bind_some,e2]
  ·rw [g2,h2,List.mem_cons]
   constructor
   ·rintro ((h | h) | h)
    ·exact .inr (.inl h)
    ·exact .inl h
    ·exact .inr (.inr h)
   ·rintro (h | h | h)
    ·exact .inl (.inr h)
    ·exact .inl (.inl h)
    ·exact .inr h
def keepA (c:List o7) (l:List o7):List o7:=l.filter fun x => !decide (x ∈ c)
theorem e1x {k:Int} {a:List o7} (h:a6d k a) (b:List o7):a6d k (keepA b a):=a6d.of (fun x hx => h.atom x (List.mem_filter.1 hx).1) (h.strict.filter _)
def c0e:Str:=[95,117,117,105,100]
def c1e (t:x8) (name:Str):Option a0d:=match b2a t name with
 | some k => t.Columns[k]?
 | none => if name = c0e then some ⟨c0e,4,0,1,0,0,[],false⟩ else none
def a8o (v:List o7) (k:Int):Bool:=match v[0]? with | some x => x.Kind != k | none => false
theorem d2v (v:List o7) (k:Int):((if (decide ((v.length:Int) > 0)) then (idx v 0).bind fun x => some (x.Kind != k) else some false:Option Bool)) = some (a8o v k):=by
 cases v with
 | nil => rfl
 | cons x xs => rw [if_pos (by simp)]; rfl
def b7j (t:x8) (c:a3k):Int:=match c1e t c.Column with
 | none => 11
 | some x => if a8o c.Value x.Kind = true then 9 else if (decide (3 ≤ c.Func ∧ c.Func ≤ 6) && (x.Kind != 1 || x.Max != 1 || (c.Value.length:Int) != 1)) = true then 9 else 0
theorem e1y (t:x8) (c:a3k):b2o t c = some (b7j t c):=by
 unfold b2o b7j c1e
 rw [a8w,Option.bind_some,f1e]
 cases hk:b2a t c.Column with
 | some k =>
  obtain ⟨x,e1,e2⟩:=b4c hk
  simp only [Option.isSome_some,if_true,atI]
  rw [e1,Option.bind_some,Option.bind_some,e2]
  simp only [d2v,Option.bind_some,c9x]
  cases a8o c.Value x.Kind with
  | true => simp
  | false =>
   by_cases hf:3 ≤ c.Func ∧ c.Func ≤ 6 <;> cases h1:(x.Kind != 1) <;> cases h2:(x.Max != 1) <;> cases h3:((c.Value.length:Int) != 1) <;> simp [hf]
 | none =>
  rw [if_neg (by simp)]
  by_cases h:c.Column = c0e
  ·have hb:(!(c.Column == [95,117,117,105,100])) = false:=by simp [h,c0e]
   rw [hb]
   simp only [h,if_true,Bool.false_eq_true,if_false,Option.bind_some,d2v,c9x]
   cases a8o c.Value 4 with
   | true => simp
   | false => by_cases hf:3 ≤ c.Func ∧ c.Func ≤ 6 <;> simp [hf]
  ·have hb:(!(c.Column == [95,117,117,105,100])) = true:=by simpa [c0e] using h
   rw [hb]
   simp [h]
def a5z {α:Type} (f:α → Int):List α → Int
 | [] => 0
 | x :: xs => if f x = 0 then a5z f xs else f x
theorem c1f {α:Type} {f:α → Int}:∀ {l:List α},a5z f l = 0 → ∀ x ∈ l,f x = 0
 | [],_,x,hx => by simp at hx
 | y :: ys,h,x,hx => by
  simp only [a5z] at h
  split at h
  ·rename_i h0
   rcases List.mem_cons.1 hx with rfl | hx
   ·exact h0
   ·exact c1f h x hx
  ·rename_i h0; exact absurd h h0
theorem c0f (t:x8):∀ l:List a3k,a8b t l = some (if a5z (b7j t) l = 0 then .go () else .ret (a5z (b7j t) l))
 | [] => by rw [a8b]; simp [a5z]
 | x :: xs => by
  rw [a8b,e1y,Option.bind_some,c0f t xs]
  by_cases h:b7j t x = 0 <;> simp [a5z,h]
theorem d8k (t:x8) (l:List a3k):b1g t l = some (a5z (b7j t) l):=by
 unfold b1g
 rw [c0f]
 by_cases h:a5z (b7j t) l = 0 <;> simp [h]
def c2w (t:x8) (m:b0b):Int:=match b2a t m.Column with
 | none => 11
 | some k => match t.Columns[k]? with
  | none => 0
  | some x => if a8o m.Value x.Kind = true then 9 else if (decide (m.Func ≤ 5) && (x.Kind != 1 || (m.Value.length:Int) != 1)) = true then 9 else 0
theorem e1z (t:x8) (m:b0b):b2q t m = some (c2w t m):=by
 unfold b2q c2w
 rw [a8w,Option.bind_some,b9j]
 cases hk:b2a t m.Column with
 | none => simp
 | some k =>
  obtain ⟨x,e1,e2⟩:=b4c hk
  simp only [Option.isNone_some,Bool.false_eq_true,if_false,atI]
  rw [e1,Option.bind_some,e2]
  simp only [d2v,Option.bind_some]
  cases a8o m.Value x.Kind with
  | true => simp
  | false =>
   by_cases hf:m.Func ≤ 5 <;> cases h1:(x.Kind != 1) <;> cases h3:((m.Value.length:Int) != 1) <;> simp [hf]
theorem c0g (t:x8):∀ l:List b0b,a8c t l = some (if a5z (c2w t) l = 0 then .go () else .ret (a5z (c2w t) l))
 | [] => by rw [a8c]; simp [a5z]
 | x :: xs => by
  rw [a8c,e1z,Option.bind_some,c0g t xs]
  by_cases h:c2w t x = 0 <;> simp [a5z,h]
theorem d8l (t:x8) (l:List b0b):b1h t l = some (a5z (c2w t) l):=by
 unfold b1h
 rw [c0g]
 by_cases h:a5z (c2w t) l = 0 <;> simp [h]
def e2a (t:x8) (list:List a2c) (i:Nat) (x:a2c):Int:=match b2a t x.Column with
 | none => 11
 | some k => if (list.take i).any (fun y => y.Column == x.Column) = true then 8 else match t.Columns[k]? with
  | none => 0
  | some c => if (a8o x.Value c.Kind || (decide ((x.Names.length:Int) > 0) && c.Kind != 4)) = true then 9 else 0
def b8n (t:x8) (list:List a2c):List a2c → Nat → Int
 | [],_ => 0
 | x :: xs,i => if e2a t list i x = 0 then b8n t list xs (i + 1) else e2a t list i x
theorem c2x (list:List a2c) (x:a2c) (i:Nat) (hi:i ≤ list.length) (hl:list.length ≤ 6):∀ (n k fuel:Nat),n + k = i → n < fuel → a6v i list x fuel k = some (if ((list.take i).drop k).any (fun c => c.Column == x.Column) = true then .ret 8 else .go ())
 | _,_,0,_,h => by omega
 | 0,k,fuel + 1,hk,_ => by
  rw [a6v,if_neg (by simp; omega),List.drop_of_length_le (by simp; omega)]; simp
 | n + 1,k,fuel + 1,hk,hf => by
  obtain ⟨y,hy⟩:∃ y,list[k]? = some y:=⟨list[k]'(by omega),List.getElem?_eq_getElem (by omega)⟩
  have hd:(list.take i).drop k = y :: (list.take i).drop (k + 1):=by
   have hk2:k < (list.take i).length:=by simp; omega
   rw [List.drop_eq_getElem_cons hk2]
   congr 1
   rw [List.getElem_take]
   exact (List.getElem?_eq_some_iff.1 hy).2
  have ew:w64 ((k:Int) + 1) = ((k + 1:Nat):Int):=by rw [a1d (by omega)]; omega
  rw [a6v,if_pos (by simp; omega),a0m,hy,Option.bind_some,ew,c2x list x i hi hl n (k + 1) fuel (by omega) (by omega),hd]
  cases hn:(y.Column == x.Column) <;> simp [hn]
theorem c2y (t:x8) (list:List a2c) (hl:list.length ≤ 6):∀ (xs:List a2c) (i:Nat),list.drop i = xs → a9e t list xs i = some (if b8n t list xs i = 0 then .go () else .ret (b8n t list xs i))
 | [],i,_ => by rw [a9e]; simp [b8n]
 | x :: xs,i,h => by
  have hi:=b4q h
  have hf:2 ^ 40 < FUEL:=by unfold FUEL; decide
  have e:=c2x list x i (by omega) hl i 0 FUEL (by omega) (by omega)
  rw [List.drop_zero] at e
  have e':a6v i list x FUEL 0 = _:=e
  rw [a9e,a8w,Option.bind_some,b9j]
  have hx:b8n t list (x :: xs) i = if e2a t list i x = 0 then b8n t list xs (i + 1) else e2a t list i x:=rfl
  rw [hx,c2y t list hl xs (i + 1) (a6u h),e']
  unfold e2a
  cases hk:b2a t x.Column with
  | none => simp
  | some k =>
   obtain ⟨c,e1,e2⟩:=b4c hk
   simp only [Option.isNone_some,Bool.false_eq_true,if_false,atI]
   cases ha:(list.take i).any (fun y => y.Column == x.Column) with
   | true => simp
   | false =>
    simp only [Bool.false_eq_true,if_false,e2,e1,Option.bind_some]
    cases hv:x.Value with
    | nil =>
     by_cases hn:x.Names = [] <;> by_cases h4:c.Kind = 4 <;> simp [a8o,hn,List.length_pos_iff,h4]
    | cons a v =>
     have e0:idx (a :: v) 0 = some a:=rfl
     rw [e0]
     by_cases hn:x.Names = [] <;> by_cases h4:c.Kind = 4 <;> by_cases h5:a.Kind = c.Kind <;> by_cases h6:a.Kind = 4 <;> by_cases h7:4 = c.Kind <;> first | (exfalso; omega) | (simp [a8o,hn,List.length_pos_iff,h5,h4,h6]; done) | (simp [a8o,hn,List.length_pos_iff,h5,h4,h6,h7]; done)
theorem e2c (t:x8) (list:List a2c) (hl:list.length ≤ 6):b2p t list = some (b8n t list list 0):=by
 unfold b2p
 rw [c2y t list hl list 0 (by simp)]
 by_cases h:b8n t list list 0 = 0 <;> simp [h]
def c8r (t:x8) (n:Str):Int:=if (c1e t n).isSome = true then 0 else 11
theorem c2z (t:x8):∀ l:List Str,a9f t l = some (if a5z (c8r t) l = 0 then .go () else .ret 11)
 | [] => by rw [a9f]; simp [a5z]
 | x :: xs => by
  rw [a9f,a8w,Option.bind_some,b9j,c2z t xs]
  have hs:(c1e t x).isSome = (decide (x = c0e) || (b2a t x).isSome):=by
   unfold c1e
   cases hk:b2a t x with
   | some k =>
    obtain ⟨c,_,e2⟩:=b4c hk
    show (t.Columns[k]?).isSome = _
    rw [e2]; simp
   | none => by_cases h:x = c0e <;> simp [h]
  by_cases h:x = c0e
  ·have hb:(!(x == [95,117,117,105,100])) = false:=by simp [h,c0e]
   have hs':(c1e t x).isSome = true:=by rw [hs]; simp [h]
   have e:a5z (c8r t) (x :: xs) = a5z (c8r t) xs:=by simp only [a5z,c8r,hs',if_true]
   rw [hb,e]
   simp
  ·have hb:(!(x == [95,117,117,105,100])) = true:=by simpa [c0e] using h
   rw [hb]
   cases hk:b2a t x <;> simp [a5z,c8r,hs,h,hk]
def a6a (t:Str):Bool:=decide ((t.length:Int) ≤ 40)
def b5u (c:a3k):Bool:=decide (1 ≤ c.Func ∧ c.Func ≤ 8) && b2j c.Value && a6a c.Column
def c1g (c:b0b):Bool:=decide (1 ≤ c.Func ∧ c.Func ≤ 7) && b2j c.Value && a6a c.Column
def setB (x:a2c):Bool:=a6a x.Column && b2j x.Value && (x.Names.all b5g && decide ((x.Names.length:Int) ≤ 8)) && (decide (x.Names = []) || decide (x.Value = []))
def c1h (o:GOp):Bool :=
 decide (1 ≤ o.Kind ∧ o.Kind ≤ 10) && (decide (1 ≤ o.Kind ∧ o.Kind ≤ 6) || decide (o.Table = [])) && (decide (2 ≤ o.Kind ∧ o.Kind ≤ 6) || decide (o.Where = [])) && (decide (o.Kind = 1) || decide (o.Kind ≥ 9) || decide (o.Name = [])) && (decide (o.Kind = 1) || decide (o.Kind = 3) || decide (o.Kind = 6) || decide (o.Row = [])) && (decide (o.Kind = 4) || decide (o.Muts = [])) && (decide (o.Kind = 2) || decide (o.Columns = [])) && (decide (o.Kind = 6) || !o.Until)
def opB (o:GOp):Bool:=c1h o && (a6a o.Table && a6a o.Name) && decide ((o.Columns.length:Int) ≤ 6) && o.Columns.all a6a && (o.Where.all b5u && decide ((o.Where.length:Int) ≤ 8)) && (o.Muts.all c1g && decide ((o.Muts.length:Int) ≤ 8)) && (o.Row.all setB && decide ((o.Row.length:Int) ≤ 6))
def nt0:x8:=⟨[110,111,116,101],[(⟨[110,97,109,101],2,1,1,0,0,[],false⟩:a0d),(⟨[97,98,111,117,116],4,0,4,0,0,[112,111,114,116],false⟩:a0d)],[],true⟩
def nt1:x8:=⟨[112,111,114,116],[(⟨[110,97,109,101],2,1,1,0,0,[],false⟩:a0d),(⟨[116,97,103],1,0,1,0,99,[],false⟩:a0d),(⟨[117,112],3,1,1,0,0,[],false⟩:a0d)],[(0:Int)],false⟩
def nt2:x8:=⟨[115,119,105,116,99,104],[(⟨[110,97,109,101],2,1,1,0,0,[],false⟩:a0d),(⟨[99,111,117,110,116],1,1,1,(-1000),1000,[],false⟩:a0d),(⟨[112,111,114,116,115],4,0,8,0,0,[112,111,114,116],true⟩:a0d)],[(0:Int)],true⟩
def b1d:a0b:=⟨[nt0,nt1,nt2]⟩
theorem b5h:a2u = some b1d:=rfl
theorem b6h (v:Int) (h:0 ≤ v ∧ v < 3):∃ t,idx b1d.Tables v = some t ∧ b1d.Tables[v.toNat]? = some t ∧ (t = nt0 ∨ t = nt1 ∨ t = nt2):=by
 have:v = 0 ∨ v = 1 ∨ v = 2:=by omega
 rcases this with rfl | rfl | rfl
 ·exact ⟨nt0,rfl,rfl,.inl rfl⟩
 ·exact ⟨nt1,rfl,rfl,.inr (.inl rfl)⟩
 ·exact ⟨nt2,rfl,rfl,.inr (.inr rfl)⟩
def b4h (c:a0d):List o7:=if c.Min = 0 then [] else [⟨c.Kind,if c.Kind = 1 then (if (if 0 < c.High then 0 else c.High) > c.Low then (if 0 < c.High then 0 else c.High) else c.Low) else 0,[]⟩]
theorem e5e {t:x8} (h:t = nt0 ∨ t = nt1 ∨ t = nt2):a9x (b7i t) (t.Columns.map b4h) 0 = true:=by rcases h with rfl | rfl | rfl <;> decide
theorem c8s {t:x8} (h:t = nt0 ∨ t = nt1 ∨ t = nt2):t.Columns.length ≤ 3:=by rcases h with rfl | rfl | rfl <;> decide
theorem e8a {t:x8} (h:t = nt0 ∨ t = nt1 ∨ t = nt2):∀ c ∈ t.Columns,1 ≤ c.Kind ∧ c.Kind ≤ 4:=by rcases h with rfl | rfl | rfl <;> decide
theorem c8t {α:Type} (f:Nat → α → Bool) (xs:List α) (k:Nat) (y:α) (h:a9x f xs 0 = true) (hy:f k y = true):a9x f (xs.set k y) 0 = true:=by
 rw [b2x] at h ⊢
 intro q x hq
 rw [Nat.zero_add]
 rw [List.getElem?_set] at hq
 by_cases e:k = q
 ·subst e
  rw [if_pos rfl] at hq
  split at hq
  ·cases hq; exact hy
  ·cases hq
 ·rw [if_neg e] at hq
  have:=h q x hq
  rwa [Nat.zero_add] at this
theorem e5f (n:Int) (h:-1000000000 ≤ n ∧ n ≤ 1000000000):b1o ⟨1,n,[]⟩ = true:=by
 unfold b1o
 simp [h]
def e5g (f a b:Int):Option Int:=if f = 1 then some (a + b) else if f = 2 then some (a - b) else if f = 3 then some (a * b) else if b = 0 then none else if f = 5 then some (a.tmod b) else some (a.tdiv b)
def e5h (n:Int):Bool:=decide (-1000000000 ≤ n ∧ n ≤ 1000000000)
theorem f1g (a b:Int) (ha:-1000000000 ≤ a ∧ a ≤ 1000000000) (hb:-1000000000 ≤ b ∧ b ≤ 1000000000):-1000000000000000000 ≤ a * b ∧ a * b ≤ 1000000000000000000:=by
 have h:=Int.natAbs_mul a b
 have h2:a.natAbs * b.natAbs ≤ 1000000000 * 1000000000:=Nat.mul_le_mul (by omega) (by omega)
 omega
theorem f3w (a b:Int) (h:-1000000000 ≤ a ∧ a ≤ 1000000000):-1000000000 ≤ a.tdiv b ∧ a.tdiv b ≤ 1000000000:=by
 have h1:(a.tdiv b).natAbs ≤ a.natAbs:=by rw [Int.natAbs_tdiv]; exact Nat.div_le_self _ _
 omega
theorem e2d (f a b:Int) (hf:1 ≤ f ∧ f ≤ 5) (ha:-1000000000 ≤ a ∧ a ≤ 1000000000) (hb:-1000000000 ≤ b ∧ b ≤ 1000000000):b0l f a b = some (match e5g f a b with | some n => (n,e5h n) | none => (0,false)):=by
 have hm:=f1g a b ha hb
 have hd:=f3w a b ha
 unfold b0l e5g
 have c:f = 1 ∨ f = 2 ∨ f = 3 ∨ f = 4 ∨ f = 5:=by omega
 by_cases hz:b = 0
 ·subst hz
  rcases c with rfl | rfl | rfl | rfl | rfl
  all_goals simp [c9x,e5h]
  all_goals (try rw [a1d (by omega)])
  all_goals (try simp)
 ·rcases c with rfl | rfl | rfl | rfl | rfl
  all_goals simp [hz,c9x,e5h]
  all_goals (try rw [a1d (by omega)])
  all_goals (try simp)
theorem e9p {x:o7} (h:b1o x = true) (hk:x.Kind = 1):-1000000000 ≤ x.N ∧ x.N ≤ 1000000000 ∧ x.T = []:=by
 unfold b1o at h
 simp [hk] at h
 exact ⟨h.1.1,h.1.2,h.2⟩
theorem c4h (b:List o7):∀ (xs out:List o7),out.length + xs.length ≤ 2 ^ 29 → a6f b xs out = some (out ++ keepA b xs)
 | [],out,_ => by rw [a6f]; simp [keepA]
 | x :: xs,out,h => by
  simp only [List.length_cons] at h
  rw [a6f,e5c,Option.bind_some]
  by_cases e:x ∈ b
  ·rw [if_neg (by simp [e]),c4h b xs out (by omega)]
   simp [keepA,e]
  ·rw [if_pos (by simp [e]),if_pos (by simp; omega),c4h b xs _ (by simp; omega)]
   simp [keepA,e]
theorem d2w (a b:List o7) (h:a.length ≤ 2 ^ 28):a7t a b = some (keepA b a):=by
 unfold a7t
 rw [c4h b a [] (by simp; omega)]
 rfl
theorem d8m {d:List o7} {k:Int} (h:b2j d = true) (hk:a8o d k = false):a6d k d:=by
 unfold b2j at h
 simp only [Bool.and_eq_true] at h
 have hs:=(c8o d d 0).1 h.1
 constructor
 ·intro x hx
  obtain ⟨q,hq⟩:=List.mem_iff_getElem?.1 hx
  have:=hs q x hq
  have hlt:=(List.getElem?_eq_some_iff.1 hq).1
  obtain ⟨z,hz⟩:∃ z,d[0]? = some z:=⟨d[0],List.getElem?_eq_getElem (by omega)⟩
  unfold d5n at this
  unfold a8o at hk
  simp only [hz,Bool.and_eq_true,Bool.or_eq_true] at this hk
  refine ⟨this.1.1,?_⟩
  have e1:x.Kind = z.Kind:=by simpa using this.1.2
  have e2:z.Kind = k:=by simpa using hk
  rw [e1,e2]
 ·intro i x y hx hy
  have:=hs (i + 1) y hy
  unfold d5n at this
  simp only [Bool.and_eq_true,Bool.or_eq_true] at this
  have h2:=this.2
  have ei:0 + (i + 1) - 1 = i:=by omega
  rw [ei,hx] at h2
  simpa using h2
theorem c4i {c:a0d} {d:List o7} (h:b3d c d = 0):a8o d c.Kind = false ∧ (d.length:Int) ≤ c.Max:=by
 have e:b3d c d = if a8o d c.Kind = true then 9 else if ¬ (c.Min ≤ d.length ∧ (d.length:Int) ≤ c.Max) then 6 else if (c.Kind == 1 && d.any (d8h c)) = true then 4 else 0:=rfl
 rw [e] at h
 cases g:a8o d c.Kind with
 | true => rw [g] at h; simp at h
 | false =>
  refine ⟨rfl,?_⟩
  by_cases g2:c.Min ≤ d.length ∧ (d.length:Int) ≤ c.Max
  ·exact g2.2
  ·rw [g,if_neg (by simp),if_pos g2] at h
   omega
theorem e2e {t:x8} {m:b0b} (h:c2w t m = 0):∃ k,b2a t m.Column = some k ∧ ∀ c,t.Columns[k]? = some c → a8o m.Value c.Kind = false ∧ (m.Func ≤ 5 → c.Kind = 1 ∧ m.Value.length = 1):=by
 unfold c2w at h
 cases hk:b2a t m.Column with
 | none => rw [hk] at h; simp at h
 | some k =>
  refine ⟨k,rfl,fun c hc => ?_⟩
  rw [hk] at h
  simp only [hc] at h
  split at h
  ·omega
  ·rename_i g
   split at h
   ·omega
   ·rename_i g2
    refine ⟨by simpa using g,fun hf => ?_⟩
    simp [hf] at g2
    omega
def d5q (t:x8):List a2c → List (List o7) → Fl (o5 × Int) (List (List o7))
 | [],cs => .go cs
 | x :: xs,cs => match b2a t x.Column with
  | none => .go cs
  | some k => match t.Columns[k]? with
   | none => .go cs
   | some c => if b3d c x.Value = 0 then d5q t xs (cs.set k x.Value) else .ret (⟨0,[]⟩,b3d c x.Value)
theorem b8o (t:x8):∀ (xs:List a2c) (cs:List (List o7)),cs.length = t.Columns.length → (∀ x ∈ xs,(b2a t x.Column).isSome = true ∧ x.Value.length ≤ 8) → a7e t xs cs = some (d5q t xs cs)
 | [],cs,_,_ => by rw [a7e]; rfl
 | x :: xs,cs,hl,h => by
  obtain ⟨k,hk⟩:=Option.isSome_iff_exists.1 (h x (by simp)).1
  have hv:=(h x (by simp)).2
  obtain ⟨c,e1,e2⟩:=b4c hk
  have hlt:k < cs.length:=by rw [hl]; exact (List.getElem?_eq_some_iff.1 e2).1
  have ea:atI (some k) = (k:Int):=rfl
  rw [a7e,a8w,hk,Option.bind_some,ea,e1,Option.bind_some,d9x,Option.bind_some,d5q,hk]
  simp only [e2]
  by_cases q:b3d c x.Value = 0
  ·rw [if_neg (by simp [q]),if_pos q,if_pos (by simp; omega),if_pos (by omega)]
   have e3:0 + ((k:Int)).toNat = k:=by simp
   rw [e3,List.getElem?_eq_getElem hlt,Option.bind_some,b8o t xs _ (by simpa using hl) (fun y hy => h y (by simp [hy]))]
   simp
  ·rw [if_pos (by simpa using q),if_neg q]
theorem d5r (t:x8):∀ {xs:List a2c} {cs:List (List o7)} {q:o5 × Int},d5q t xs cs = .ret q → q.1 = ⟨0,[]⟩ ∧ q.2 ≠ 0
 | [],cs,q,h => by cases h
 | x :: xs,cs,q,h => by
  rw [d5q] at h
  split at h
  ·cases h
  ·split at h
   ·cases h
   ·split at h
    ·exact d5r t h
    ·rename_i h0; cases h; exact ⟨rfl,h0⟩
theorem d1g (t:x8) (list:List a2c):∀ {xs:List a2c} {i:Nat},b8n t list xs i = 0 → ∀ x ∈ xs,(b2a t x.Column).isSome = true
 | [],_,_,x,hx => by simp at hx
 | y :: ys,i,h,x,hx => by
  simp only [b8n] at h
  split at h
  ·rename_i h0
   rcases List.mem_cons.1 hx with rfl | hx
   ·unfold e2a at h0
    cases hk:b2a t x.Column with
    | none => rw [hk] at h0; cases h0
    | some k => rfl
   ·exact d1g t list h x hx
  ·rename_i h0; exact absurd h h0
def c1i:List GOp → Int → List Int
 | [],_ => []
 | o :: l,n => if o.Kind = 1 then n :: c1i l (w64 (n + 1)) else 0 :: c1i l n
theorem d5s:∀ (l:List GOp) (n:Int),(c1i l n).length = l.length
 | [],_ => rfl
 | o :: l,n => by
  rw [c1i]
  split <;> simp [d5s l]
theorem c4j:∀ (l:List GOp) (n:Int) (out:List Int),out.length + l.length ≤ 1000 → a7z l n out = some (out ++ c1i l n)
 | [],n,out,_ => by rw [a7z]; simp [c1i]
 | o :: l,n,out,h => by
  simp only [List.length_cons] at h
  rw [a7z,c1i]
  by_cases c:o.Kind = 1
  ·rw [if_pos (by simpa using c),if_pos c,if_pos (by simp; omega),c4j l _ _ (by simp; omega)]
   simp
  ·rw [if_neg (by simpa using c),if_neg c,if_pos (by simp; omega),c4j l _ _ (by simp; omega)]
   simp
theorem c3a:∀ (xs out:List (List o7)),out.length + xs.length ≤ 2 ^ 30 → (∀ d ∈ xs,d.length ≤ 2 ^ 30) → a9o xs out = some (out ++ xs)
 | [],out,_,_ => by rw [a9o]; simp
 | x :: xs,out,h,hd => by
  simp only [List.length_cons] at h
  have:=hd x (by simp)
  rw [a9o]
  unfold a3c
  rw [if_pos (by simp; omega),Option.bind_some,if_pos (by simp; omega),c3a xs _ (by simp; omega) (fun y hy => hd y (by simp [hy]))]
  simp
theorem b9l (r:o5) (h:r.Cells.length ≤ 2 ^ 30) (hd:∀ d ∈ r.Cells,d.length ≤ 2 ^ 30):a9a r = some r:=by
 unfold a9a
 rw [c3a r.Cells [] (by simp; omega) hd,Option.bind_some]
 cases r with
 | mk i c =>
  cases c with
  | nil => rfl
  | cons a c => rw [if_pos (by simp)]; simp
theorem b8p:∀ (xs out:List (List o7)),out.length + xs.length ≤ 2 ^ 30 → (∀ d ∈ xs,d.length ≤ 2 ^ 30) → a7d xs out = some (out ++ xs)
 | [],out,_,_ => by rw [a7d]; simp
 | x :: xs,out,h,hd => by
  simp only [List.length_cons] at h
  have:=hd x (by simp)
  rw [a7d,if_pos (by simp; omega),if_pos (by simp; omega),b8p xs _ (by simp; omega) (fun y hy => hd y (by simp [hy]))]
  simp
theorem b5v (r:o5) (h:r.Cells.length ≤ 2 ^ 30) (hd:∀ d ∈ r.Cells,d.length ≤ 2 ^ 30):a4l r = some r:=by
 unfold a4l
 rw [b8p r.Cells [] (by simp; omega) hd,Option.bind_some]
 cases r
 simp
theorem b2c:2 ^ 40 < FUEL:=by unfold FUEL; decide
def a4q:List o5 → Bool
 | [] => true
 | [_] => true
 | a :: b :: l => decide (a.Id < b.Id) && a4q (b :: l)
theorem b9m {a:o5} {l:List o5} (h:a4q (a :: l) = true):a4q l = true ∧ ∀ b ∈ l,a.Id < b.Id:=by
 induction l generalizing a with
 | nil => exact ⟨rfl,by simp⟩
 | cons b l ih =>
  simp only [a4q,Bool.and_eq_true,decide_eq_true_eq] at h
  refine ⟨h.2,fun c hc => ?_⟩
  rcases List.mem_cons.1 hc with rfl | hc
  ·exact h.1
  ·have:=(ih h.2).2 c hc; omega
theorem b9n {l:List o5} (h:a4q l = true):l.Pairwise fun a b => a.Id < b.Id:=by
 induction l with
 | nil => exact .nil
 | cons a l ih => exact List.pairwise_cons.2 ⟨(b9m h).2,ih (b9m h).1⟩
theorem b9o {l:List o5} (h:a4q l = true) {i j:Nat} {a b:o5} (hi:l[i]? = some a) (hj:l[j]? = some b) (hij:i < j):a.Id < b.Id:=by
 obtain ⟨h1,rfl⟩:=List.getElem?_eq_some_iff.1 hi
 obtain ⟨h2,rfl⟩:=List.getElem?_eq_some_iff.1 hj
 exact List.pairwise_iff_getElem.1 (b9n h) i j h1 h2 hij
theorem b8q (rows:List o5):∀ (xs:List o5) (i:Nat) (p:o5),rows.length ≤ maxLen → rows.drop (i + 1) = xs → rows[i]? = some p → a7n rows xs (i + 1) = some (if a4q (p :: xs) = true then .go () else .ret false)
 | [],i,p,_,_,_ => by rw [a7n]; rfl
 | x :: xs,i,p,hl,hd,hp => by
  have hlt:=b4q hd
  rw [a7n]
  have e:w64 (((i + 1:Nat):Int) - 1) = (i:Int):=by rw [a1d (by unfold maxLen at hl; omega)]; omega
  rw [e,a0m,hp,Option.bind_some]
  have hx:rows[i + 1]? = some x:=by have:=congrArg (·[0]?) hd; simpa using this
  by_cases c:p.Id < x.Id
  ·have c':¬ p.Id ≥ x.Id:=by omega
   rw [if_neg (by simpa using c'),b8q rows xs (i + 1) x hl (a6u hd) hx]
   simp [a4q,c]
  ·rw [if_pos (by simp; omega)]
   simp [a4q,c]
theorem d5t (rows:List o5) (hl:rows.length ≤ maxLen):b0o rows = some (a4q rows):=by
 unfold b0o
 cases rows with
 | nil => rfl
 | cons p xs =>
  rw [show (1:Nat) = 0 + 1 from rfl,b8q (p :: xs) _ 0 p hl rfl rfl]
  have:(p :: xs).drop (0 + 1) = xs:=rfl
  rw [this]
  rcases Bool.eq_false_or_eq_true (a4q (p :: xs)) with hz1 | hz1 <;> simp [hz1]
def a1x (l:List o5) (id:Int):Bool:=l.any fun r => r.Id == id
theorem c0h (id:Int):∀ (l:List o5) (i:Nat),a8g id l i = some (match l.findIdx? (fun r => r.Id == id) with | some k => .ret ((i + k:Nat):Int) | none => .go ())
 | [],i => by rw [a8g]; rfl
 | x :: xs,i => by
  rw [a8g,c0h id xs (i + 1),List.findIdx?_cons]
  cases hp:(x.Id == id) with
  | true => simp
  | false =>
   cases hq:xs.findIdx? (fun r => r.Id == id) with
   | none => simp
   | some k => simp; omega
theorem b7b (l:List o5) (id:Int):a4h l id = some (atI (l.findIdx? (fun r => r.Id == id))):=by
 unfold a4h atI
 rw [c0h]
 cases hq:l.findIdx? (fun r => r.Id == id) <;> simp
theorem c4k (l:List o5) (id:Int):decide (atI (l.findIdx? (fun r => r.Id == id)) < 0) = !a1x l id:=by
 rw [b9j]
 unfold a1x
 rw [← List.findIdx?_isSome]
 cases l.findIdx? (fun r => r.Id == id) <;> rfl
theorem e5i {i j:Int} (h0:0 ≤ i) (h1:i < j) (h2:j ≤ 2 ^ 60):w64 (Int.fdiv (IntKind.u64.wrap (w64 (i + j))) (2 ^ (min (Int.toNat 1) (IntKind.bits .u64)))) = (i + j) / 2:=by
 have e1:w64 (i + j) = i + j:=a1d (by omega)
 have e2:IntKind.u64.wrap (i + j) = i + j:=by
  have:IntKind.u64.wrap (i + j) = (i + j) % 2 ^ 64:=rfl
  rw [this]; omega
 have e3:min (Int.toNat 1) (IntKind.bits .u64) = 1:=by decide
 rw [e1,e2,e3,Int.fdiv_eq_ediv_of_nonneg _ (by omega)]
 have:((2:Int) ^ 1) = 2:=rfl
 rw [this,a1d (by omega)]
theorem d1h (r:o5) (id:Int):a7p r id = some (if r.Id < id then -1 else if r.Id > id then 1 else 0):=by
 unfold a7p
 rw [d5m]
 rfl
theorem c8u (l:List o5) (id:Int) (hs:a4q l = true) (hl:l.length ≤ 2 ^ 30):∀ (k i j:Nat),i ≤ j → j ≤ l.length → j - i < k → (∀ q r,q < i → l[q]? = some r → r.Id < id) → (∀ q r,j ≤ q → l[q]? = some r → id ≤ r.Id) → ∃ m:Nat,a0s l a7p id k i j = some (m:Int) ∧ m ≤ l.length ∧ (∀ q r,q < m → l[q]? = some r → r.Id < id) ∧ (∀ q r,m ≤ q → l[q]? = some r → id ≤ r.Id)
 | 0,i,j,_,_,h,_,_ => by omega
 | k + 1,i,j,hij,hj,hk,ha,hb => by
  rw [a0s]
  by_cases c:i < j
  ·rw [if_pos (by simpa using c),e5i (by omega) (by omega) (by omega)]
   have em:((i:Int) + j) / 2 = (((i + j) / 2:Nat):Int):=by omega
   rw [em,a0m]
   have hm:(i + j) / 2 < l.length:=by omega
   obtain ⟨r,hr⟩:∃ r,l[(i + j) / 2]? = some r:=⟨l[(i + j) / 2],List.getElem?_eq_getElem hm⟩
   rw [hr,Option.bind_some,d1h,Option.bind_some]
   by_cases d:r.Id < id
   ·rw [if_pos (by simp [d]),a1d (by omega)]
    have:(((i + j) / 2:Nat):Int) + 1 = (((i + j) / 2 + 1:Nat):Int):=by omega
    rw [this]
    refine c8u l id hs hl k ((i + j) / 2 + 1) j (by omega) hj (by omega) (fun q r' hq hr' => ?_) hb
    by_cases e:q = (i + j) / 2
    ·subst e; rw [hr] at hr'; cases hr'; exact d
    ·have:=b9o hs hr' hr (by omega); omega
   ·rw [if_neg (by simp only [d,if_false]; split <;> simp)]
    refine c8u l id hs hl k i ((i + j) / 2) (by omega) (by omega) (by omega) ha (fun q r' hq hr' => ?_)
    by_cases e:q = (i + j) / 2
    ·subst e; rw [hr] at hr'; cases hr'; omega
    ·have:=b9o hs hr hr' (by omega); omega
  ·rw [if_neg (by simpa using c)]
   exact ⟨i,rfl,by omega,ha,fun q r hq => hb q r (by omega)⟩
theorem e0b (l:List o5) (id:Int) (hs:a4q l = true) (hl:l.length ≤ 2 ^ 30):∃ m:Nat,b1y l id = some ((m:Int),a1x l id) ∧ m ≤ l.length ∧ (∀ q r,q < m → l[q]? = some r → r.Id < id) ∧ (∀ q r,m ≤ q → l[q]? = some r → id ≤ r.Id):=by
 have hf:=b2c
 obtain ⟨m,e,h1,h2,h3⟩:=c8u l id hs hl FUEL 0 l.length (by omega) (by omega) (by omega) (fun q r h => by omega) (fun q r h hr => by have:=(List.getElem?_eq_some_iff.1 hr).1; omega)
 have e':a0s l a7p id FUEL 0 (l.length:Int) = some (m:Int):=e
 refine ⟨m,?_,h1,h2,h3⟩
 unfold b1y a1q
 rw [e',Option.bind_some]
 by_cases c:m < l.length
 ·obtain ⟨r,hr⟩:∃ r,l[m]? = some r:=⟨l[m],List.getElem?_eq_getElem c⟩
  rw [if_pos (by simpa using c),a0m,hr,Option.bind_some,d1h,Option.bind_some,Option.bind_some]
  have hge:=h3 m r (Nat.le_refl _) hr
  by_cases d:r.Id = id
  ·have hh:a1x l id = true:=List.any_eq_true.2 ⟨r,List.mem_of_getElem? hr,by simp [d]⟩
   rw [hh]; simp [d]
  ·have hh:a1x l id = false:=by
    unfold a1x
    rw [List.any_eq_false]
    intro y hy
    obtain ⟨q,hq⟩:=List.mem_iff_getElem?.1 hy
    rcases Nat.lt_trichotomy q m with g | g | g
    ·have:=h2 q y g hq; simp; omega
    ·subst g; rw [hr] at hq; cases hq; simpa using d
    ·have:=b9o hs hr hq g; simp; omega
   have g1:¬ r.Id < id:=by omega
   have g2:r.Id > id:=by omega
   rw [hh]; simp [g1,g2]
 ·have hh:a1x l id = false:=by
   unfold a1x
   rw [List.any_eq_false]
   intro y hy
   obtain ⟨q,hq⟩:=List.mem_iff_getElem?.1 hy
   have:=(List.getElem?_eq_some_iff.1 hq).1
   have:=h2 q y (by omega) hq
   simp; omega
  rw [if_neg (by simpa using c),Option.bind_some,hh]
theorem d5u (x:x9) (j:Nat) (l:List o5) (id:Int) (hj:x.Tables[j]? = some l) (hs:a4q l = true) (hl:l.length ≤ 2 ^ 30):a5n x (j:Int) id = some (a1x l id):=by
 unfold a5n
 obtain ⟨m,e,_⟩:=e0b l id hs hl
 rw [a0m,hj,Option.bind_some,e,Option.bind_some]
def d1i (there:List o5) (d:List o7):Bool:=d.all fun a => a1x there a.N
def e5j (x:x9) (s:a0b) (rows:List o5) (k:Nat) (c:a0d):Bool:=c.Kind != 4 || match b5k s c.Ref with | none => false | some j => match x.Tables[j]? with | none => false | some there => rows.all fun r => match r.Cells[k]? with | some d => d1i there d | none => false
def f8g (x:x9):Prop:=∀ l ∈ x.Tables,a4q l = true ∧ l.length ≤ 12
def e8b (x:x9) (s:a0b) (i:Nat) (t:x8):Bool:=match x.Tables[i]? with | none => false | some rows => a9x (e5j x s rows) t.Columns 0
theorem c3b (there:List o5):∀ d:List o7,a9l there d = some (if d1i there d = true then .go () else .ret false)
 | [] => by rw [a9l]; rfl
 | a :: d => by
  rw [a9l,b7b,Option.bind_some,c4k,c3b there d]
  simp only [d1i,List.all_cons]
  rcases Bool.eq_false_or_eq_true (a1x there a.N) with hz1 | hz1 <;> simp [hz1]
theorem c3c (k:Nat) (there:List o5):∀ rows:List o5,(∀ r ∈ rows,k < r.Cells.length) → a9m (k:Int) there rows = some (if (rows.all fun r => match r.Cells[k]? with | some d => d1i there d | none => false) = true then .go () else .ret false)
 | [],_ => by rw [a9m]; rfl
 | r :: rows,h => by
  have hk:=h r (by simp)
  obtain ⟨d,hd⟩:∃ d,r.Cells[k]? = some d:=⟨r.Cells[k],List.getElem?_eq_getElem hk⟩
  rw [a9m,a0m,hd,Option.bind_some,c3b,c3c k there rows (fun y hy => h y (by simp [hy]))]
  simp only [List.all_cons,hd]
  rcases Bool.eq_false_or_eq_true (d1i there d) with hz1 | hz1 <;> simp [hz1]
theorem c3d (s:a0b) (i:Nat) (x:x9) (rows:List o5) (t:x8) (ht:s.Tables[i]? = some t) (hlen:x.Tables.length = s.Tables.length) (hc:∀ c ∈ t.Columns,c2r s c = true) (h:∀ r ∈ rows,t.Columns.length ≤ r.Cells.length) (h6:t.Columns.length ≤ 6):∀ (n fuel k:Nat),n + k = t.Columns.length → n < fuel →
  a6x s i x rows fuel k = some (if a9x (e5j x s rows) (t.Columns.drop k) k = true then .go () else .ret false)
 | n,0,k,_,hf => by omega
 | n,fuel + 1,k,hn,hf => by
  rw [a6x,a0m,ht,Option.bind_some]
  cases n with
  | zero =>
   have:¬ k < t.Columns.length:=by omega
   rw [if_neg (by simpa using this),List.drop_of_length_le (by omega)]
   rfl
  | succ n =>
   have hk:k < t.Columns.length:=by omega
   obtain ⟨c,hcc⟩:∃ c,t.Columns[k]? = some c:=⟨t.Columns[k],List.getElem?_eq_getElem hk⟩
   have ed:t.Columns.drop k = c :: t.Columns.drop (k + 1):=by
    rw [List.drop_eq_getElem_cons hk]; congr 1; exact (List.getElem?_eq_some_iff.1 hcc).2
   have ew:w64 ((k:Int) + 1) = ((k + 1:Nat):Int):=by rw [a1d (by omega)]; omega
   rw [if_pos (by simpa using hk),Option.bind_some,a0m,hcc,Option.bind_some,ew,c3d s i x rows t ht hlen hc h h6 n fuel (k + 1) (by omega) (by omega),ed]
   by_cases q:c.Kind = 4
   ·rw [if_neg (by simp [q]),b9k,Option.bind_some]
    have hc0:=hc c (List.mem_of_getElem? hcc)
    unfold c2r at hc0
    cases hr:b5k s c.Ref with
    | none => simp [q,hr] at hc0
    | some j =>
     have hj':j < s.Tables.length:=by
      unfold b5k at hr
      exact (List.findIdx?_eq_some_iff_getElem.1 hr).1
     obtain ⟨there,hj⟩:∃ l,x.Tables[j]? = some l:=⟨x.Tables[j]'(by omega),List.getElem?_eq_getElem (by omega)⟩
     have ea:atI (some j) = (j:Int):=rfl
     rw [ea,a0m,hj,Option.bind_some,c3c k there rows (fun r hr => by have:=h r hr; omega)]
     simp only [a9x,e5j,hr,hj,q,bne_self_eq_false,Bool.false_or]
     rcases Bool.eq_false_or_eq_true ((rows.all fun r => match r.Cells[k]? with | some d => d1i there d | none => false)) with hz1 | hz1 <;> simp [hz1]
   ·have q':(c.Kind != 4) = true:=by simpa using q
    rw [if_pos q']
    simp only [a9x,e5j,q',Bool.true_or,Bool.true_and]
theorem c3e (s:a0b) (x:x9) (hlen:x.Tables.length = s.Tables.length) (h6:∀ t ∈ s.Tables,t.Columns.length ≤ 6):∀ (xs:List (List o5)) (i:Nat),x.Tables.drop i = xs → (∀ t ∈ s.Tables,∀ c ∈ t.Columns,c2r s c = true) → (∀ (q:Nat) (t:x8) (rows:List o5),s.Tables[q]? = some t → x.Tables[q]? = some rows → ∀ r ∈ rows,t.Columns.length ≤ r.Cells.length) →
  a9n s x xs i = some (if a9x (e8b x s) (s.Tables.drop i) i = true then .go () else .ret false)
 | [],i,hd,_,_ => by
  have:x.Tables.length ≤ i:=by simpa using hd
  rw [a9n,List.drop_of_length_le (by omega)]
  rfl
 | rows :: xs,i,hd,hc,h => by
  have hlt:=b4q hd
  have hi:x.Tables[i]? = some rows:=by have:=congrArg (·[0]?) hd; simpa using this
  obtain ⟨t,ht⟩:∃ t,s.Tables[i]? = some t:=⟨s.Tables[i]'(by omega),List.getElem?_eq_getElem (by omega)⟩
  have hf:=b2c
  have htm:=List.mem_of_getElem? ht
  have h6':=h6 t htm
  have ed:s.Tables.drop i = t :: s.Tables.drop (i + 1):=by
   rw [List.drop_eq_getElem_cons (by omega)]; congr 1; exact (List.getElem?_eq_some_iff.1 ht).2
  have e2:=c3d s i x rows t ht hlen (hc t htm) (h i t rows ht hi) h6' t.Columns.length FUEL 0 (by omega) (by omega)
  have e2':a6x s i x rows FUEL 0 = _:=e2
  rw [a9n,e2',c3e s x hlen h6 xs (i + 1) (a6u hd) hc h,ed]
  simp only [a9x,e8b,hi,List.drop_zero]
  rcases Bool.eq_false_or_eq_true (a9x (e5j x s rows) t.Columns 0) with hz1 | hz1 <;> simp [hz1]
def e0c (s:a0b) (x:x9):Bool:=a9x (e8b x s) s.Tables 0
theorem c8v (b:List o7):∀ (xs:List o7) (i:Nat),i + xs.length = b.length → a1v b xs i = some (if xs = b.drop i then .go () else .ret false)
 | [],i,h => by
  rw [a1v,List.drop_of_length_le (by simp at h; omega)]; rfl
 | x :: xs,i,h => by
  simp only [List.length_cons] at h
  obtain ⟨y,hy⟩:∃ y,b[i]? = some y:=⟨b[i]'(by omega),List.getElem?_eq_getElem (by omega)⟩
  have ed:b.drop i = y :: b.drop (i + 1):=by
   rw [List.drop_eq_getElem_cons (by omega)]; congr 1; exact (List.getElem?_eq_some_iff.1 hy).2
  rw [a1v,a0m,hy,Option.bind_some,d2u,c8v b xs (i + 1) (by omega),ed]
  by_cases e:x = y
  ·subst e; simp
  ·simp [e]
theorem e8c (a b:List o7):a1b a b = some (decide (a = b)):=by
 unfold a1b
 by_cases e:a.length = b.length
 ·rw [if_neg (by simp [e]),c8v b a 0 (by omega),List.drop_zero]
  by_cases q:a = b <;> simp [q]
 ·have:a ≠ b:=fun h => e (by rw [h])
  rw [if_pos (by simp; omega)]
  simp [this]
theorem c3f (b:List o7):∀ (xs:List o7) (i:Nat),i + xs.length = b.length → a9h b xs i = some (if xs = b.drop i then .go () else .ret false)
 | [],i,h => by
  rw [a9h,List.drop_of_length_le (by simp at h; omega)]; rfl
 | x :: xs,i,h => by
  simp only [List.length_cons] at h
  obtain ⟨y,hy⟩:∃ y,b[i]? = some y:=⟨b[i]'(by omega),List.getElem?_eq_getElem (by omega)⟩
  have ed:b.drop i = y :: b.drop (i + 1):=by
   rw [List.drop_eq_getElem_cons (by omega)]; congr 1; exact (List.getElem?_eq_some_iff.1 hy).2
  rw [a9h,a0m,hy,Option.bind_some,d2u,c3f b xs (i + 1) (by omega),ed]
  by_cases e:x = y
  ·subst e; simp
  ·simp [e]
theorem b9p (a b:List o7):a7f a b = some (decide (a = b)):=by
 unfold a7f
 by_cases e:a.length = b.length
 ·rw [if_neg (by simp [e]),c3f b a 0 (by omega),List.drop_zero]
  by_cases q:a = b <;> simp [q]
 ·have:a ≠ b:=fun h => e (by rw [h])
  rw [if_pos (by simp; omega)]
  simp [this]
def cellAt (r:o5) (k:Int):List o7:=(r.Cells[k.toNat]?).getD []
theorem d5v (r:o5) (k:Int) (h:0 ≤ k ∧ k < r.Cells.length):idx r.Cells k = some (cellAt r k):=by
 obtain ⟨n,rfl⟩:∃ n:Nat,k = n:=⟨k.toNat,by omega⟩
 rw [a0m]
 unfold cellAt
 simp only [Int.toNat_natCast]
 rw [List.getElem?_eq_getElem (by omega)]
 rfl
def c8w (u:List Int) (a b:o5):Bool:=u.all fun k => decide (cellAt a k = cellAt b k)
def inU (u:List Int) (r:o5):Prop:=∀ k ∈ u,0 ≤ k ∧ k < r.Cells.length
def d8n (t:x8) (rows:List o5) (i:Nat) (a:o5):Bool:=(rows.take i).all fun b => !c8w t.Unique a b
def e5k (t:x8) (rows:List o5):Bool:=decide (t.Unique = []) || a9x (d8n t rows) rows 0
def e8d (x:x9) (i:Nat) (t:x8):Bool:=match x.Tables[i]? with | none => false | some rows => e5k t rows
def e0d (s:a0b) (x:x9):Bool:=a9x (e8d x) s.Tables 0
structure d2x (s:a0b) (x:x9):Prop where
 len:x.Tables.length = s.Tables.length
 ris:f8g x
 ref:∀ t ∈ s.Tables,∀ c ∈ t.Columns,c2r s c = true
 cols:∀ t ∈ s.Tables,t.Columns.length ≤ 6
 uni:∀ t ∈ s.Tables,t.Unique.length ≤ 6 ∧ ∀ k ∈ t.Unique,0 ≤ k ∧ k < t.Columns.length
 cell:∀ (q:Nat) (t:x8) (rows:List o5),s.Tables[q]? = some t → x.Tables[q]? = some rows → ∀ r ∈ rows,r.Cells.length = t.Columns.length
theorem d8o {s:a0b} {x:x9} (h:d2x s x) {q:Nat} {t:x8} {rows:List o5} (ht:s.Tables[q]? = some t) (hr:x.Tables[q]? = some rows):∀ r ∈ rows,inU t.Unique r:=by
 intro r hm k hk
 have h1:=(h.uni t (List.mem_of_getElem? ht)).2 k hk
 have h2:=h.cell q t rows ht hr r hm
 omega
theorem b8r (rows:List o5) (k j:Nat) (a b:o5) (hk:rows[k]? = some a) (hj:rows[j]? = some b):∀ (u:List Int) (same:Bool),inU u a → inU u b → a3b rows (k:Int) (j:Int) u same = some (same && c8w u a b)
 | [],same,_,_ => by rw [a3b]; simp [c8w]
 | n :: u,same,ha,hb => by
  have ih:=fun same => b8r rows k j a b hk hj u same (fun z hz => ha z (by simp [hz])) (fun z hz => hb z (by simp [hz]))
  rw [a3b]
  cases same with
  | true =>
   rw [if_pos rfl,a0m,hk,Option.bind_some,d5v a n (ha n (by simp)),Option.bind_some,a0m,hj,Option.bind_some,d5v b n (hb n (by simp)),Option.bind_some,b9p,Option.bind_some,ih]
   simp [c8w]
  | false =>
   rw [if_neg (by simp),ih]
   simp
theorem b8s (rows:List o5) (t:x8) (k:Nat) (a:o5) (hk:rows[k]? = some a) (hr:∀ r ∈ rows,inU t.Unique r) (hl:rows.length ≤ 12):∀ (n fuel j:Nat),n + j = k → n < fuel → a3r (k:Int) rows t fuel (j:Int) = some (if (((rows.take k).drop j).all fun b => !c8w t.Unique a b) = true then .go () else .ret false)
 | n,0,j,_,hf => by omega
 | n,fuel + 1,j,hn,hf => by
  have hlt:=(List.getElem?_eq_some_iff.1 hk).1
  rw [a3r]
  cases n with
  | zero =>
   have:¬ ((j:Int) < (k:Int)):=by omega
   rw [if_neg (by simpa using this),List.drop_of_length_le (by simp; omega)]
   rfl
  | succ n =>
   have hj:j < k:=by omega
   obtain ⟨b,hb⟩:∃ b,rows[j]? = some b:=⟨rows[j]'(by omega),List.getElem?_eq_getElem (by omega)⟩
   have ed:(rows.take k).drop j = b :: (rows.take k).drop (j + 1):=by
    have:(rows.take k)[j]? = some b:=by rw [List.getElem?_take_of_lt hj]; exact hb
    obtain ⟨h1,h2⟩:=List.getElem?_eq_some_iff.1 this
    rw [List.drop_eq_getElem_cons h1,h2]
   have ew:w64 ((j:Int) + 1) = ((j + 1:Nat):Int):=by rw [a1d (by omega)]; omega
   rw [if_pos (by simpa using hj),b8r rows k j a b hk hb t.Unique true (hr a (List.mem_of_getElem? hk)) (hr b (List.mem_of_getElem? hb)),Option.bind_some,ew,b8s rows t k a hk hr hl n fuel (j + 1) (by omega) (by omega),ed]
   simp only [List.all_cons,Bool.true_and]
   rcases Bool.eq_false_or_eq_true (c8w t.Unique a b) with hz1 | hz1 <;> simp [hz1]
theorem b8t (rows:List o5) (t:x8) (hr:∀ r ∈ rows,inU t.Unique r) (hl:rows.length ≤ 12) (hu:t.Unique ≠ []):∀ (n fuel k:Nat),n + k = rows.length → n < fuel → a2p rows t fuel (k:Int) = some (if a9x (d8n t rows) (rows.drop k) k = true then .go () else .ret false)
 | n,0,k,_,hf => by omega
 | n,fuel + 1,k,hn,hf => by
  rw [a2p,Option.bind_some]
  have u1:decide ((t.Unique.length:Int) > 0) = true:=by
   have:t.Unique.length ≠ 0:=fun h => hu (List.length_eq_zero_iff.1 h)
   simp; omega
  cases n with
  | zero =>
   have:decide ((k:Int) < (rows.length:Int)) = false:=decide_eq_false (by omega)
   rw [this,List.drop_of_length_le (by omega)]
   rfl
  | succ n =>
   have hk:k < rows.length:=by omega
   have c1:decide ((k:Int) < (rows.length:Int)) = true:=decide_eq_true (by omega)
   obtain ⟨a,ha⟩:∃ a,rows[k]? = some a:=⟨rows[k],List.getElem?_eq_getElem hk⟩
   have ed:rows.drop k = a :: rows.drop (k + 1):=by
    rw [List.drop_eq_getElem_cons hk]; congr 1; exact (List.getElem?_eq_some_iff.1 ha).2
   have ew:w64 ((k:Int) + 1) = ((k + 1:Nat):Int):=by rw [a1d (by omega)]; omega
   have hf':=b2c
   have e3:=b8s rows t k a ha hr hl k FUEL 0 (by omega) (by omega)
   have e3':a3r (k:Int) rows t FUEL 0 = _:=e3
   rw [c1,u1,show (bif true then true else false) = true from rfl,if_pos rfl,e3',ew,b8t rows t hr hl hu n fuel (k + 1) (by omega) (by omega),ed,List.drop_zero]
   simp only [a9x,d8n]
   rcases Bool.eq_false_or_eq_true (((rows.take k).all fun b => !c8w t.Unique a b)) with hz1 | hz1 <;> simp [hz1]
theorem c5q (rows:List o5) (t:x8) (hr:∀ r ∈ rows,inU t.Unique r) (hl:rows.length ≤ 12):a2p rows t FUEL 0 = some (if e5k t rows = true then .go () else .ret false):=by
 have hf:=b2c
 by_cases hu:t.Unique = []
 ·obtain ⟨k,hk⟩:∃ k,FUEL = k + 1:=⟨FUEL - 1,by omega⟩
  rw [hk,a2p,Option.bind_some]
  unfold e5k
  rcases Bool.eq_false_or_eq_true (decide ((0:Int) < (rows.length:Int))) with hz1 | hz1 <;> simp [hz1,hu]
 ·have e:=b8t rows t hr hl hu rows.length FUEL 0 (by omega) (by omega)
  have e':a2p rows t FUEL 0 = _:=e
  rw [e']
  unfold e5k
  simp [hu]
theorem b8u {s:a0b} {x:x9} (h:d2x s x):∀ (xs:List (List o5)) (i:Nat),x.Tables.drop i = xs → a3s s xs i = some (if a9x (e8d x) (s.Tables.drop i) i = true then .go () else .ret false)
 | [],i,hd => by
  have:=h.len
  have:x.Tables.length ≤ i:=by simpa using hd
  rw [a3s,List.drop_of_length_le (by omega)]
  rfl
 | rows :: xs,i,hd => by
  have hlt:=b4q hd
  have hlen:=h.len
  have hi:x.Tables[i]? = some rows:=by have:=congrArg (·[0]?) hd; simpa using this
  obtain ⟨t,ht⟩:∃ t,s.Tables[i]? = some t:=⟨s.Tables[i]'(by omega),List.getElem?_eq_getElem (by omega)⟩
  have ed:s.Tables.drop i = t :: s.Tables.drop (i + 1):=by
   rw [List.drop_eq_getElem_cons (by omega)]; congr 1; exact (List.getElem?_eq_some_iff.1 ht).2
  rw [a3s,a0m,ht,Option.bind_some,c5q rows t (d8o h ht hi) (h.ris rows (List.mem_of_getElem? hi)).2,b8u h xs (i + 1) (a6u hd),ed]
  simp only [a9x,e8d,hi]
  rcases Bool.eq_false_or_eq_true (e5k t rows) with hz1 | hz1 <;> simp [hz1]
theorem d5w {s:a0b} {x:x9} (h:d2x s x):b0n s x = some (if e0c s x = false then 13 else if e0d s x = false then 12 else 0):=by
 unfold b0n b4s b2v
 rw [c3e s x h.len h.cols x.Tables 0 (by simp) h.ref (fun q t rows h1 h2 r hm => by rw [h.cell q t rows h1 h2 r hm]; omega),b8u h x.Tables 0 (by simp)]
 unfold e0c e0d
 simp only [List.drop_zero]
 rcases Bool.eq_false_or_eq_true (a9x (e8b x s) s.Tables 0) with hz1 | hz1 <;> rcases Bool.eq_false_or_eq_true (a9x (e8d x) s.Tables 0) with hz2 | hz2 <;> simp [hz1,hz2]
def smR (r:o5):Prop:=r.Cells.length ≤ 2 ^ 30 ∧ ∀ d ∈ r.Cells,d.length ≤ 2 ^ 30
def smL (l:List o5):Prop:=l.length ≤ 2 ^ 29 ∧ ∀ r ∈ l,smR r
def smS (x:x9):Prop:=x.Tables.length ≤ 2 ^ 29 ∧ ∀ l ∈ x.Tables,smL l
def b8v (l:List o5) (id:Int):o5:=(l.find? fun r => r.Id == id).getD ⟨0,[]⟩
def b2z (l:List o5) (id:Int):List o5:=l.filter fun r => !(r.Id == id)
def a8r:List o5 → o5 → List o5
 | [],r => [r]
 | x :: xs,r => if x.Id < r.Id then x :: a8r xs r else if x.Id = r.Id then r :: xs else r :: x :: xs
theorem c5g:∀ (xs out:List o5),out.length + xs.length ≤ 2 ^ 30 → (∀ r ∈ xs,smR r) → b0j xs out = some (out ++ xs)
 | [],out,_,_ => by rw [b0j]; simp
 | x :: xs,out,h,hd => by
  simp only [List.length_cons] at h
  have:=hd x (by simp)
  rw [b0j,b5v x this.1 this.2,Option.bind_some,if_pos (by simp; omega),c5g xs _ (by simp; omega) (fun y hy => hd y (by simp [hy]))]
  simp
theorem c5h:∀ (xs out:List (List o5)),out.length + xs.length ≤ 2 ^ 30 → (∀ l ∈ xs,smL l) → b0k xs out = some (out ++ xs)
 | [],out,_,_ => by rw [b0k]; simp
 | x :: xs,out,h,hd => by
  simp only [List.length_cons] at h
  have:=hd x (by simp)
  have h2:=this.1
  rw [b0k,c5g x [] (by simp; omega) this.2,Option.bind_some,if_pos (by simp; omega),c5h xs _ (by simp; omega) (fun y hy => hd y (by simp [hy]))]
  simp
theorem b8w (x:x9) (h:smS x):a5e x = some x:=by
 have:=h.1
 unfold a5e
 rw [c5h x.Tables [] (by simp; omega) h.2]
 cases x
 rfl
theorem c0i (l:List o5):∀ (xs:List o5) (k:Nat) (p:o5),l.length ≤ maxLen → l[k]? = some p → l.drop (k + 1) = xs → a4x l xs (k + 1) = some (if a4q (p :: xs) = true then .go () else .ret false)
 | [],k,p,_,_,_ => by rw [a4x]; rfl
 | x :: xs,k,p,hl,hp,hd => by
  have hlt:=b4q hd
  have e:w64 (((k + 1:Nat):Int) - 1) = (k:Int):=by rw [a1d (by unfold maxLen at hl; omega)]; omega
  have hx:l[k + 1]? = some x:=by have:=congrArg (·[0]?) hd; simpa using this
  rw [a4x,if_pos (by simp <;> omega),e,a0m,hp,Option.bind_some,Option.bind_some]
  by_cases c:p.Id < x.Id
  ·have c':¬ p.Id ≥ x.Id:=by omega
   rw [if_neg (by simpa using c'),c0i l xs (k + 1) x hl hx (a6u hd)]
   simp [a4q,c]
  ·rw [if_pos (by simp; omega)]
   simp [a4q,c]
theorem d2y (l:List o5) (hl:l.length ≤ maxLen):a4x l l 0 = some (if a4q l = true then .go () else .ret false):=by
 cases l with
 | nil => rfl
 | cons p xs =>
  rw [a4x,if_neg (by simp),Option.bind_some,if_neg (by simp)]
  exact c0i (p :: xs) xs 0 p hl rfl rfl
theorem c0j:∀ (xs:List (List o5)),(∀ l ∈ xs,l.length ≤ maxLen) → a8k xs = some (if xs.all a4q = true then .go () else .ret false)
 | [],_ => by rw [a8k]; rfl
 | l :: xs,h => by
  rw [a8k,d2y l (h l (by simp)),c0j xs (fun y hy => h y (by simp [hy]))]
  rcases Bool.eq_false_or_eq_true (a4q l) with hz1 | hz1 <;> simp [hz1]
theorem d8p (x:x9) (h:∀ l ∈ x.Tables,l.length ≤ maxLen):b1m x = some (x.Tables.all a4q):=by
 unfold b1m
 rw [c0j _ h]
 rcases Bool.eq_false_or_eq_true (x.Tables.all a4q) with hz1 | hz1 <;> simp [hz1]
theorem b0z (id:Int):∀ l:List o5,a4q l = true →
  (a1x l id = true ∧ ∃ A r B,l = A ++ r :: B ∧ r.Id = id ∧ (∀ x ∈ A,x.Id < id) ∧ ∀ x ∈ B,id < x.Id) ∨ (a1x l id = false ∧ ∃ A B,l = A ++ B ∧ (∀ x ∈ A,x.Id < id) ∧ ∀ x ∈ B,id < x.Id)
 | [],_ => .inr ⟨rfl,[],[],rfl,by simp,by simp⟩
 | a :: l,hs => by
  obtain ⟨h1,h2⟩:=b9m hs
  rcases Int.lt_trichotomy a.Id id with h | h | h
  ·have hn:a1x (a :: l) id = a1x l id:=by
    have:¬ a.Id = id:=by omega
    simp [a1x,this]
   rw [hn]
   rcases b0z id l h1 with ⟨e,A,r,B,rfl,hr,hA,hB⟩ | ⟨e,A,B,rfl,hA,hB⟩
   ·refine .inl ⟨e,a :: A,r,B,rfl,hr,fun x hx => ?_,hB⟩
    rcases List.mem_cons.1 hx with rfl | hx
    ·exact h
    ·exact hA x hx
   ·refine .inr ⟨e,a :: A,B,rfl,fun x hx => ?_,hB⟩
    rcases List.mem_cons.1 hx with rfl | hx
    ·exact h
    ·exact hA x hx
  ·refine .inl ⟨by simp [a1x,h],[],a,l,rfl,h,by simp,fun x hx => by have:=h2 x hx; omega⟩
  ·refine .inr ⟨?_,[],a :: l,rfl,by simp,fun x hx => ?_⟩
   ·unfold a1x
    rw [List.any_eq_false]
    intro x hx
    rcases List.mem_cons.1 hx with rfl | hx
    ·simp; omega
    ·have:=h2 x hx; simp; omega
   ·rcases List.mem_cons.1 hx with rfl | hx
    ·exact h
    ·have:=h2 x hx; omega
theorem at_eq {A B:List o5} {id:Int} {m:Nat} (hm:m ≤ (A ++ B).length) (hA:∀ x ∈ A,x.Id < id) (hB:∀ x ∈ B,id ≤ x.Id) (h2:∀ q r,q < m → (A ++ B)[q]? = some r → r.Id < id) (h3:∀ q r,m ≤ q → (A ++ B)[q]? = some r → id ≤ r.Id):m = A.length:=by
 rcases Nat.lt_trichotomy m A.length with h | h | h
 ·have:=h3 m A[m] (Nat.le_refl _) (by rw [List.getElem?_append_left h,List.getElem?_eq_getElem h])
  have:=hA A[m] (List.getElem_mem h)
  omega
 ·exact h
 ·have hb:A.length < (A ++ B).length:=by omega
  have e:(A ++ B)[A.length]? = some (A ++ B)[A.length]:=List.getElem?_eq_getElem hb
  have:=h2 A.length _ h e
  have hmem:(A ++ B)[A.length] ∈ B:=by
   rw [List.getElem_append_right (Nat.le_refl _)]
   exact List.getElem_mem _
  have:=hB _ hmem
  omega
theorem c0k {A B:List o5} {r:o5} {id:Int} (hA:∀ x ∈ A,x.Id < id) (hr:r.Id = id):(A ++ r :: B).findIdx? (fun r => r.Id == id) = some A.length:=by
 induction A with
 | nil => simp [List.findIdx?_cons,hr]
 | cons a A ih =>
  have h1:=hA a (by simp)
  rw [List.cons_append,List.findIdx?_cons,ih fun x hx => hA x (by simp [hx])]
  have:¬ a.Id = id:=by omega
  simp [this]
theorem c1j {A B:List o5} {r:o5} {id:Int} (hA:∀ x ∈ A,x.Id < id) (hr:r.Id = id) (hB:∀ x ∈ B,id < x.Id):b2z (A ++ r :: B) id = A ++ B:=by
 unfold b2z
 rw [List.filter_append,List.filter_cons,if_neg (by simp [hr]),List.filter_eq_self.2 (fun x hx => by have:=hA x hx; simp; omega),List.filter_eq_self.2 (fun x hx => by have:=hB x hx; simp; omega)]
theorem b4v {A B:List o5} {r x:o5} (hA:∀ y ∈ A,y.Id < x.Id) (hr:r.Id = x.Id):a8r (A ++ r :: B) x = A ++ x :: B:=by
 induction A with
 | nil => simp [a8r,hr]
 | cons a A ih =>
  have h1:=hA a (by simp)
  rw [List.cons_append,a8r,if_pos h1,ih fun y hy => hA y (by simp [hy])]; rfl
theorem c3g {A B:List o5} {x:o5} (hA:∀ y ∈ A,y.Id < x.Id) (hB:∀ y ∈ B,x.Id < y.Id):a8r (A ++ B) x = A ++ x :: B:=by
 induction A with
 | nil =>
  cases B with
  | nil => rfl
  | cons b B =>
   have:=hB b (by simp)
   rw [List.nil_append,a8r,if_neg (by omega),if_neg (by omega)]; rfl
 | cons a A ih =>
  have h1:=hA a (by simp)
  rw [List.cons_append,a8r,if_pos h1,ih fun y hy => hA y (by simp [hy])]; rfl
theorem c4l {A B:List o5} {r:o5}:idx (A ++ r :: B) (A.length:Int) = some r:=by rw [a0m]; simp
theorem b8x (l:List o5) (r:o5) (A B:List o5) (hl:l = A ++ B) (hA:∀ x ∈ A,x.Id < r.Id) (hB:∀ x ∈ B,r.Id ≤ x.Id) (hs:l.length ≤ 2 ^ 40):∀ (n f k:Nat),k + n = A.length → n < f → a6j l r f (k:Int) = some ((A.length:Nat):Int)
 | _,0,_,_,h => by omega
 | 0,f + 1,k,h,_ => by
  have hk:k = A.length:=by omega
  subst hk
  rw [a6j]
  cases B with
  | nil => rw [if_neg (by rw [hl]; simp),Option.bind_some,if_neg (by simp)]
  | cons b B =>
   have:=hB b (by simp)
   have hi:idx l (A.length:Int) = some b:=by rw [hl]; exact c4l
   rw [if_pos (by rw [hl]; simp <;> omega),hi,Option.bind_some,Option.bind_some,if_neg (by simp; omega)]
 | n + 1,f + 1,k,h,hf => by
  have hk:k < A.length:=by omega
  have hla:A.length ≤ l.length:=by rw [hl]; simp
  have hi:idx l (k:Int) = some A[k]:=by rw [a0m,hl,List.getElem?_append_left hk,List.getElem?_eq_getElem hk]
  have:=hA A[k] (List.getElem_mem hk)
  rw [a6j,if_pos (by simp; omega),hi,Option.bind_some,Option.bind_some,if_pos (by simpa using this),a1d (by omega)]
  exact b8x l r A B hl hA hB hs n f (k + 1) (by omega) (by omega)
theorem c3h (x:x9) (t:Nat) (l:List o5) (r:o5) (hx:smS x) (ht:x.Tables[t]? = some l) (hs:a4q l = true) (hr:smR r):a8v x (t:Int) r = some ⟨x.Tables.set t (a8r l r),x.Next⟩:=by
 have hl:=hx.2 l (List.mem_of_getElem? ht)
 have h0:=hl.1
 have hf:=b2c
 have htl:=(List.getElem?_eq_some_iff.1 ht).1
 unfold a8v
 rw [b8w x hx,Option.bind_some,if_pos (by omega),Nat.zero_add,Int.toNat_natCast,ht,Option.bind_some]
 rcases b0z r.Id l hs with ⟨hh,A,q,B,rfl,hq,hA,hB⟩ | ⟨hh,A,B,rfl,hA,hB⟩
 ·simp only [List.length_append,List.length_cons] at h0
  have hB':∀ y ∈ q :: B,r.Id ≤ y.Id:=by
   intro y hy
   rcases List.mem_cons.1 hy with rfl | hy
   ·omega
   ·have:=hB y hy; omega
  have e1:a6j (A ++ q :: B) r FUEL 0 = some ((A.length:Nat):Int):=b8x _ r A (q :: B) rfl hA hB' (by simp; omega) A.length FUEL 0 (by omega) (by omega)
  rw [e1,Option.bind_some,if_pos (by simp <;> omega),if_pos (by simp <;> omega),c4l,Option.bind_some,Option.bind_some,if_pos (by simp [hq]),a1d (by omega),if_pos (by simp <;> omega),Option.bind_some,
   if_pos (by simp <;> omega),if_pos (by simp; omega),b5v r hr.1 hr.2,Option.bind_some,if_pos (by simp <;> omega)]
  have e2:((A.length:Int) + 1).toNat = A.length + 1:=by omega
  rw [e2,if_pos (by simp <;> omega),if_pos (by omega),b4v hA hq,Int.toNat_natCast,List.take_left]
  have e3:(A ++ q :: B).drop (A.length + 1) = B:=by rw [← List.drop_drop,List.drop_left]; rfl
  rw [e3]
  simp
 ·simp only [List.length_append] at h0
  have e1:a6j (A ++ B) r FUEL 0 = some ((A.length:Nat):Int):=b8x _ r A B rfl hA (fun y hy => by have:=hB y hy; omega) (by simp; omega) A.length FUEL 0 (by omega) (by omega)
  rw [e1,Option.bind_some,if_pos (by simp <;> omega)]
  have e4:(if decide (((A.length:Nat):Int) < (((A ++ B).length:Nat):Int)) = true then (idx (A ++ B) ((A.length:Nat):Int)).bind fun x_80 => some (x_80.Id == r.Id) else some false:Option Bool) = some false:=by
   cases B with
   | nil => rw [if_neg (by simp)]
   | cons b B =>
    have:=hB b (by simp)
    rw [if_pos (by simp <;> omega),c4l,Option.bind_some]
    have:¬ b.Id = r.Id:=by omega
    simp [this]
  rw [e4,Option.bind_some,if_neg (by simp),Option.bind_some,if_pos (by simp <;> omega),if_pos (by simp; omega),b5v r hr.1 hr.2,Option.bind_some,if_pos (by simp <;> omega),if_pos (by simp <;> omega),if_pos (by omega),
   c3g hA hB,Int.toNat_natCast,List.take_left,List.drop_left]
  simp
theorem e0e {A B:List o5} {r:o5}:a4q A = true → a4q B = true → (∀ x ∈ A,x.Id < r.Id) → (∀ x ∈ B,r.Id < x.Id) → a4q (A ++ r :: B) = true:=by
 have hc:∀ (a:o5) (l:List o5),a4q l = true → (∀ x ∈ l,a.Id < x.Id) → a4q (a :: l) = true:=by
  intro a l h1 h2
  cases l with
  | nil => rfl
  | cons b l => simp only [a4q,Bool.and_eq_true,decide_eq_true_eq]; exact ⟨h2 b (by simp),h1⟩
 intro h1 h2 h3 h4
 induction A with
 | nil => exact hc r B h2 h4
 | cons a A ih =>
  have ha:=b9m h1
  have har:=h3 a (by simp)
  refine hc a (A ++ r :: B) (ih ha.1 (fun x hx => h3 x (by simp [hx]))) ?_
  intro x hx
  rcases List.mem_append.1 hx with h | h
  ·exact ha.2 x h
  ·rcases List.mem_cons.1 h with rfl | h
   ·exact har
   ·have:=h4 x h; omega
theorem c3i {A B:List o5} (h:List.Sublist A B) (hb:a4q B = true):a4q A = true:=by
 have hp:=(b9n hb).sublist h
 have:∀ l:List o5,l.Pairwise (fun a b => a.Id < b.Id) → a4q l = true:=by
  intro l
  induction l with
  | nil => intro _; rfl
  | cons a l ih =>
   intro h
   rw [List.pairwise_cons] at h
   cases l with
   | nil => rfl
   | cons b l => simp only [a4q,Bool.and_eq_true,decide_eq_true_eq]; exact ⟨h.1 b (by simp),ih h.2⟩
 exact this A hp
theorem d5x {l:List o5} (id:Int) (h:a4q l = true):a4q (b2z l id) = true:=c3i List.filter_sublist h
theorem e0f {l:List o5} (r:o5) (h:a4q l = true) (hl:l.length ≤ 2 ^ 30):a4q (a8r l r) = true:=by
 rcases b0z r.Id l h with ⟨hh,A,q,B,rfl,hq,hA,hB⟩ | ⟨hh,A,B,rfl,hA,hB⟩
 ·rw [b4v hA hq]
  exact e0e (c3i (List.sublist_append_left _ _) h) (c3i ((List.sublist_cons_self q B).trans (List.sublist_append_right _ _)) h) hA hB
 ·rw [c3g hA hB]
  exact e0e (c3i (List.sublist_append_left _ _) h) (c3i (List.sublist_append_right _ _) h) hA hB
theorem put_mem {l:List o5} {r x:o5} (h:x ∈ a8r l r):x = r ∨ x ∈ l:=by
 induction l with
 | nil => simp [a8r] at h; exact .inl h
 | cons y l ih =>
  rw [a8r] at h
  split at h
  ·rcases List.mem_cons.1 h with rfl | h
   ·exact .inr (by simp)
   ·rcases ih h with h | h
    ·exact .inl h
    ·exact .inr (by simp [h])
  ·split at h
   ·rcases List.mem_cons.1 h with rfl | h
    ·exact .inl rfl
    ·exact .inr (by simp [h])
   ·rcases List.mem_cons.1 h with rfl | h
    ·exact .inl rfl
    ·exact .inr h
theorem e0g (l:List o5) (r:o5):(a8r l r).length ≤ l.length + 1:=by
 induction l with
 | nil => simp [a8r]
 | cons y l ih =>
  rw [a8r]
  split
  ·simp only [List.length_cons]; omega
  ·split <;> simp
theorem d5y {l:List o5} {id:Int} {x:o5} (h:x ∈ b2z l id):x ∈ l:=(List.mem_filter.1 h).1
theorem d5z (l:List o5) (id:Int):(b2z l id).length ≤ l.length:=List.length_filter_le _ _
theorem c8x (i:Int) (c:List (List o7)) (id:Int):a6y i c id = some (if i < id then -1 else if i > id then 1 else 0):=by
 unfold a6y
 rw [d5m]
 rfl
theorem c4m (l:List o5) (id:Int) (hs:a4q l = true) (hl:l.length ≤ 2 ^ 30):∀ (k i j:Nat),i ≤ j → j ≤ l.length → j - i < k → (∀ q r,q < i → l[q]? = some r → r.Id < id) → (∀ q r,j ≤ q → l[q]? = some r → id ≤ r.Id) → ∃ m:Nat,a0a l id k i j = some (m:Int) ∧ m ≤ l.length ∧ (∀ q r,q < m → l[q]? = some r → r.Id < id) ∧ (∀ q r,m ≤ q → l[q]? = some r → id ≤ r.Id)
 | 0,i,j,_,_,h,_,_ => by omega
 | k + 1,i,j,hij,hj,hk,ha,hb => by
  rw [a0a]
  by_cases c:i < j
  ·rw [if_pos (by simpa using c),e5i (by omega) (by omega) (by omega)]
   have em:((i:Int) + j) / 2 = (((i + j) / 2:Nat):Int):=by omega
   rw [em,Nat.zero_add,Int.toNat_natCast]
   have hm:(i + j) / 2 < l.length:=by omega
   obtain ⟨r,hr⟩:∃ r,l[(i + j) / 2]? = some r:=⟨l[(i + j) / 2],List.getElem?_eq_getElem hm⟩
   rw [hr,Option.bind_some,if_pos (by omega),c8x,Option.bind_some]
   by_cases d:r.Id < id
   ·rw [if_pos (by simp [d]),a1d (by omega)]
    have:(((i + j) / 2:Nat):Int) + 1 = (((i + j) / 2 + 1:Nat):Int):=by omega
    rw [this]
    refine c4m l id hs hl k ((i + j) / 2 + 1) j (by omega) hj (by omega) (fun q r' hq hr' => ?_) hb
    by_cases e:q = (i + j) / 2
    ·subst e; rw [hr] at hr'; cases hr'; exact d
    ·have:=b9o hs hr' hr (by omega); omega
   ·rw [if_neg (by simp only [d,if_false]; split <;> simp)]
    refine c4m l id hs hl k i ((i + j) / 2) (by omega) (by omega) (by omega) ha (fun q r' hq hr' => ?_)
    by_cases e:q = (i + j) / 2
    ·subst e; rw [hr] at hr'; cases hr'; omega
    ·have:=b9o hs hr hr' (by omega); omega
  ·rw [if_neg (by simpa using c)]
   exact ⟨i,rfl,by omega,ha,fun q r hq => hb q r (by omega)⟩
theorem e5l (l:List o5) (id:Int) (hs:a4q l = true) (hl:l.length ≤ 2 ^ 30):∃ m:Nat,a9t l id = some ((m:Int),a1x l id) ∧ m ≤ l.length ∧ (∀ q r,q < m → l[q]? = some r → r.Id < id) ∧ (∀ q r,m ≤ q → l[q]? = some r → id ≤ r.Id):=by
 have hf:=b2c
 obtain ⟨m,e,h1,h2,h3⟩:=c4m l id hs hl FUEL 0 l.length (by omega) (by omega) (by omega) (fun q r h => by omega) (fun q r h hr => by have:=(List.getElem?_eq_some_iff.1 hr).1; omega)
 have e':a0a l id FUEL 0 (l.length:Int) = some (m:Int):=e
 refine ⟨m,?_,h1,h2,h3⟩
 unfold a9t a1j
 rw [e',Option.bind_some,Nat.zero_add,Int.toNat_natCast]
 by_cases c:m < l.length
 ·obtain ⟨r,hr⟩:∃ r,l[m]? = some r:=⟨l[m],List.getElem?_eq_getElem c⟩
  rw [hr]
  simp only [d9o]
  rw [if_pos (by simpa using c),if_pos (by omega),c8x,Option.bind_some,Option.bind_some]
  have hge:=h3 m r (Nat.le_refl _) hr
  by_cases d:r.Id = id
  ·have hh:a1x l id = true:=List.any_eq_true.2 ⟨r,List.mem_of_getElem? hr,by simp [d]⟩
   rw [hh]; simp [d]
  ·have hh:a1x l id = false:=by
    unfold a1x
    rw [List.any_eq_false]
    intro y hy
    obtain ⟨q,hq⟩:=List.mem_iff_getElem?.1 hy
    rcases Nat.lt_trichotomy q m with g | g | g
    ·have:=h2 q y g hq; simp; omega
    ·subst g; rw [hr] at hq; cases hq; simpa using d
    ·have:=b9o hs hr hq g; simp; omega
   have g1:¬ r.Id < id:=by omega
   have g2:r.Id > id:=by omega
   rw [hh]; simp [g1,g2]
 ·have hh:a1x l id = false:=by
   unfold a1x
   rw [List.any_eq_false]
   intro y hy
   obtain ⟨q,hq⟩:=List.mem_iff_getElem?.1 hy
   have:=(List.getElem?_eq_some_iff.1 hq).1
   have:=h2 q y (by omega) hq
   simp; omega
  rw [List.getElem?_eq_none (by omega)]
  simp only [d9o]
  rw [if_neg (by simpa using c),Option.bind_some,hh]
theorem e8g (l:List o5) (id:Int) (hs:a4q l = true) (hl:l.length ≤ 2 ^ 30):∃ m:Nat,a9t l id = some ((m:Int),a1x l id) ∧ m ≤ l.length ∧
    ((a1x l id = true ∧ ∃ A r B,l = A ++ r :: B ∧ A.length = m ∧ r.Id = id ∧ (∀ x ∈ A,x.Id < id) ∧ ∀ x ∈ B,id < x.Id) ∨
     (a1x l id = false ∧ ∃ A B,l = A ++ B ∧ A.length = m ∧ (∀ x ∈ A,x.Id < id) ∧ ∀ x ∈ B,id < x.Id)):=by
  obtain ⟨m,e,h1,h2,h3⟩:=e5l l id hs hl
  refine ⟨m,e,h1,?_⟩
  rcases b0z id l hs with ⟨hh,A,r,B,rfl,hr,hA,hB⟩ | ⟨hh,A,B,rfl,hA,hB⟩
  · exact .inl ⟨hh,A,r,B,rfl,(at_eq h1 hA (fun x hx => by rcases List.mem_cons.1 hx with rfl | hx; exact Int.le_of_eq hr.symm; exact Int.le_of_lt (hB x hx)) h2 h3).symm,hr,hA,hB⟩
  · exact .inr ⟨hh,A,B,rfl,(at_eq h1 hA (fun x hx => Int.le_of_lt (hB x hx)) h2 h3).symm,hA,hB⟩
theorem c0l:∀ (xs out:List o5),out.length + xs.length ≤ 2 ^ 30 → (∀ r ∈ xs,smR r) → a8i xs out = some (out ++ xs)
 | [],out,_,_ => by rw [a8i]; simp
 | x :: xs,out,h,hd => by
  simp only [List.length_cons] at h
  have:=hd x (by simp)
  rw [a8i,b9l x this.1 this.2,Option.bind_some,if_pos (by simp; omega),c0l xs _ (by simp; omega) (fun y hy => hd y (by simp [hy]))]
  simp
theorem d8q (l:List o5) (h:smL l):b1l l = some l:=by
 have:=h.1
 unfold b1l
 rw [c0l l [] (by simp; omega) h.2]; rfl
theorem b8y:∀ (xs out:List (List o5)),out.length + xs.length ≤ 2 ^ 30 → (∀ l ∈ xs,smL l) → a7o xs out = some (out ++ xs)
 | [],out,_,_ => by rw [a7o]; simp
 | x :: xs,out,h,hd => by
  simp only [List.length_cons] at h
  rw [a7o,d8q x (hd x (by simp)),Option.bind_some,if_pos (by simp; omega),b8y xs _ (by simp; omega) (fun y hy => hd y (by simp [hy]))]
  simp
theorem c5i (x:x9) (h:smS x):a8j x = some x:=by
 have:=h.1
 unfold a8j
 rw [b8y x.Tables [] (by simp; omega) h.2]
 cases x
 rfl
theorem e5m (l:List o5) (r:o5) (hs:a4q l = true) (hl:smL l):b3z l r.Id r.Cells = some (a8r l r):=by
 have:=hl.1
 unfold b3z
 obtain ⟨m,e,h1,⟨hh,A,q,B,rfl,rfl,hq,hA,hB⟩ | ⟨hh,A,B,rfl,rfl,hA,hB⟩⟩:=e8g l r.Id hs (by omega)
 ·have hq':(A ++ q :: B)[A.length]? = some q:=by simp
  rw [e,Option.bind_some,b4v hA hq]
  simp only [hh,if_true,Nat.zero_add,Int.toNat_natCast,hq',Option.bind_some]
  rw [if_pos (by simp <;> omega)]
  simp [List.set_append_right]
 ·rw [e,Option.bind_some,c3g hA hB]
  unfold a2s
  simp only [hh,Bool.false_eq_true,if_false]
  simp only [List.length_append] at this
  rw [if_pos (by simp only [List.length_append,List.length_cons,List.length_nil]; omega),Option.bind_some,Int.toNat_natCast,List.take_left,List.drop_left]
  simp
theorem d6a:∀ {a b c:Str},Op.bytesLess a b = true → Op.bytesLess b c = true → Op.bytesLess a c = true
 | _,[],_,h,_ => by cases ‹Str› <;> simp [Op.bytesLess] at h
 | _,_ :: _,[],_,h => by simp [Op.bytesLess] at h
 | [],_ :: _,_ :: _,_,_ => by simp [Op.bytesLess]
 | x :: a,y :: b,z :: c,h1,h2 => by
  simp only [Op.bytesLess,Bool.or_eq_true,Bool.and_eq_true,decide_eq_true_eq,beq_iff_eq] at *
  rcases h1 with h1 | ⟨rfl,h1⟩
  ·rcases h2 with h2 | ⟨rfl,h2⟩
   ·exact .inl (UInt8.lt_trans h1 h2)
   ·exact .inl h1
  ·rcases h2 with h2 | ⟨rfl,h2⟩
   ·exact .inl h2
   ·exact .inr ⟨rfl,d6a h1 h2⟩
theorem e5n (a:Str):Op.bytesLess a a = false:=by
 rw [c4f,(b6g a a).2 rfl]; rfl
theorem d6b {s:a0b} (h:b2b s = true):∀ (d i:Nat) (a b:x8),s.Tables[i]? = some a → s.Tables[i + d + 1]? = some b → Op.bytesLess a.Name b.Name = true:=by
 unfold b2b at h
 simp only [Bool.and_eq_true] at h
 have hst:∀ i a b,s.Tables[i]? = some a → s.Tables[i + 1]? = some b → Op.bytesLess a.Name b.Name = true:=by
  intro i a b ha hb
  have:=(b2x _ _ _).1 h.1.2 (i + 1) b hb
  simp only [d2t,Nat.zero_add,Nat.add_sub_cancel,ha,Bool.and_eq_true,Bool.or_eq_true] at this
  rcases this.2 with h | h
  ·simp at h
  ·exact h
 intro d
 induction d with
 | zero => exact hst
 | succ d ih =>
  intro i a b ha hb
  have hl:=(List.getElem?_eq_some_iff.1 hb).1
  obtain ⟨c,hc⟩:∃ c,s.Tables[i + d + 1]? = some c:=⟨s.Tables[i + d + 1]'(by omega),List.getElem?_eq_getElem (by omega)⟩
  exact d6a (ih i a c ha hc) (hst (i + d + 1) c b hc hb)
theorem e8h {s:a0b} (h:b2b s = true) {ref:Str} {j:Nat} (hj:b5k s ref = some j) {k:Nat} {tt:x8} (hk:s.Tables[k]? = some tt):(ref == tt.Name) = decide (j = k):=by
 unfold b5k at hj
 obtain ⟨h1,h2,-⟩:=List.findIdx?_eq_some_iff_getElem.1 hj
 have h2:s.Tables[j].Name = ref:=by simpa using h2
 have hjt:s.Tables[j]? = some s.Tables[j]:=List.getElem?_eq_getElem h1
 by_cases e:j = k
 ·subst e
  rw [hjt] at hk
  cases hk
  simp [h2]
 ·rw [decide_eq_false e]
  rw [beq_eq_false_iff_ne]
  intro hr
  have hn:s.Tables[j].Name = tt.Name:=h2.trans hr
  rcases Nat.lt_or_gt_of_ne e with hlt | hlt
  ·have:=d6b h (k - j - 1) j _ tt hjt (by rw [show j + (k - j - 1) + 1 = k by omega]; exact hk)
   rw [hn,e5n] at this; cases this
  ·have:=d6b h (j - k - 1) k tt _ hk (by rw [show k + (j - k - 1) + 1 = j by omega]; exact hjt)
   rw [hn,e5n] at this; cases this
theorem e0h {s:a0b} {ref:Str} {j:Nat} (hj:b5k s ref = some j):j < s.Tables.length:=by
 unfold b5k at hj
 exact (List.findIdx?_eq_some_iff_getElem.1 hj).1
theorem d6c {c:a0d} (h:e1u c = true) (hs:c.Strong = true):c.Kind = 4:=by
 unfold e1u at h
 simp only [Bool.and_eq_true,Bool.or_eq_true,decide_eq_true_eq,hs] at h
 simp at h
 exact h.2.1.1.1.1
def e2f (id:Int) (d:List o7):Int:=if (⟨4,id,[]⟩:o7) ∈ d then 1 else 0
def c4n (k:Nat) (id:Int):List o5 → Int
 | [] => 0
 | r :: l => (match r.Cells[k]? with | some d => e2f id d | none => 0) + c4n k id l
def e2g (s:a0b) (tab:Nat) (c:a0d):Bool:=c.Strong && decide (b5k s c.Ref = some tab)
def b9t (s:a0b) (tab:Nat) (id:Int) (rows:List o5):List a0d → Nat → Int
 | [],_ => 0
 | c :: cs,k => (if e2g s tab c = true then c4n k id rows else 0) + b9t s tab id rows cs (k + 1)
def c4o (s:a0b) (tab:Nat) (id:Int) (T:List (List o5)):List x8 → Nat → Int
 | [],_ => 0
 | t :: ts,i => b9t s tab id ((T[i]?).getD []) t.Columns 0 + c4o s tab id T ts (i + 1)
theorem e5o (id:Int) (d:List o7):0 ≤ e2f id d ∧ e2f id d ≤ 1:=by unfold e2f; split <;> omega
theorem d8r (k:Nat) (id:Int):∀ l:List o5,0 ≤ c4n k id l ∧ c4n k id l ≤ l.length
 | [] => by simp [c4n]
 | r :: l => by
  have:=d8r k id l
  simp only [c4n,List.length_cons]
  cases r.Cells[k]? with
  | none => simp only; omega
  | some d => have:=e5o id d; simp only; omega
theorem e5p (s:a0b) (tab:Nat) (id:Int) (rows:List o5):∀ (cs:List a0d) (k:Nat),0 ≤ b9t s tab id rows cs k ∧ b9t s tab id rows cs k ≤ (cs.length * rows.length:Nat)
 | [],k => by simp [b9t]
 | c :: cs,k => by
  have h1:=e5p s tab id rows cs (k + 1)
  have h2:=d8r k id rows
  have h3:(cs.length + 1) * rows.length = cs.length * rows.length + rows.length:=by rw [Nat.add_mul,Nat.one_mul]
  simp only [b9t,List.length_cons]
  rw [h3]
  split <;> omega
def e0i (s:a0b) (T:List (List o5)):Prop:=T.length = s.Tables.length ∧ ∀ (i:Nat) (t:x8) (l:List o5),s.Tables[i]? = some t → T[i]? = some l → a4q l = true ∧ l.length ≤ 12 ∧ ∀ r ∈ l,r.Cells.length = t.Columns.length ∧ ∀ d ∈ r.Cells,d.length ≤ 2 ^ 30
theorem b1a {s:a0b} (hs:b2b s = true) {t:x8} (ht:t ∈ s.Tables):t.Columns.length ≤ 6:=by
 have:=c2s hs ht
 unfold d8i at this
 simp only [Bool.and_eq_true,decide_eq_true_eq] at this
 omega
theorem b6i {s:a0b} (hs:b2b s = true):s.Tables.length ≤ 4:=by
 unfold b2b at hs
 simp only [Bool.and_eq_true,decide_eq_true_eq] at hs
 omega
theorem e5q {s:a0b} (hs:b2b s = true) {t:x8} (ht:t ∈ s.Tables) {l:List o5} (hl:l.length ≤ 12):t.Columns.length * l.length ≤ 72:=Nat.le_trans (Nat.mul_le_mul (b1a hs ht) hl) (by decide)
theorem f3x (b:Bool):a7b b = some (if b = true then 1 else 0):=by
 unfold a7b
 cases b <;> rfl
theorem c8y (k:Nat) (id:Int):∀ (rows:List o5) (n:Int),(∀ r ∈ rows,k < r.Cells.length) → 0 ≤ n → n + rows.length ≤ 2 ^ 30 → a7i (k:Int) id rows n = some (n + c4n k id rows)
 | [],n,_,_,_ => by rw [a7i]; simp [c4n]
 | r :: rows,n,h,h0,hn => by
  simp only [List.length_cons] at hn
  obtain ⟨d,hd⟩:∃ d,r.Cells[k]? = some d:=⟨r.Cells[k]'(h r (by simp)),List.getElem?_eq_getElem (h r (by simp))⟩
  have hb:=e5o id d
  have e:(if decide ((⟨4,id,[]⟩:o7) ∈ d) = true then (1:Int) else 0) = e2f id d:=by unfold e2f; simp
  rw [a7i,a0m,hd,Option.bind_some,e5c,Option.bind_some,f3x,Option.bind_some,e,a1d (by omega),c8y k id rows _ (fun y hy => h y (by simp [hy])) (by omega) (by omega)]
  simp only [c4n,hd,Int.add_assoc]
theorem b7c (s:a0b) (hs:b2b s = true) (i tab:Nat) (t tt:x8) (ht:s.Tables[i]? = some t) (htt:s.Tables[tab]? = some tt) (id:Int) (rows:List o5) (hl:rows.length ≤ 12) (h:∀ r ∈ rows,t.Columns.length ≤ r.Cells.length):∀ (m fuel k:Nat) (n:Int),m + k = t.Columns.length → m < fuel → 0 ≤ n → n + (m * rows.length:Nat) ≤ 2 ^ 29 →
  a7j s i (tab:Int) id rows fuel n (k:Int) = some (n + b9t s tab id rows (t.Columns.drop k) k)
 | m,0,k,n,_,hf,_,_ => by omega
 | m,fuel + 1,k,n,hm,hf,h0,hn => by
  have hmt:=List.mem_of_getElem? ht
  have h6:=b1a hs hmt
  rw [a7j,a0m,ht,Option.bind_some]
  cases m with
  | zero =>
   rw [if_neg (by simp; omega),List.drop_of_length_le (by omega)]
   simp [b9t]
  | succ m =>
   have h3:(m + 1) * rows.length = m * rows.length + rows.length:=by rw [Nat.add_mul,Nat.one_mul]
   rw [h3] at hn
   have hk:k < t.Columns.length:=by omega
   obtain ⟨c,hcc⟩:∃ c,t.Columns[k]? = some c:=⟨t.Columns[k],List.getElem?_eq_getElem hk⟩
   have ed:t.Columns.drop k = c :: t.Columns.drop (k + 1):=by
    rw [List.drop_eq_getElem_cons hk]; congr 1; exact (List.getElem?_eq_some_iff.1 hcc).2
   have ew:w64 ((k:Int) + 1) = ((k + 1:Nat):Int):=by rw [a1d (by omega)]; omega
   have hR:=d8r k id rows
   have hcol:=d1d (c2s hs hmt) c (List.mem_of_getElem? hcc)
   rw [if_pos (by simpa using hk),Option.bind_some,a0m,hcc,Option.bind_some,ew,ed]
   cases hst:c.Strong with
   | false =>
    simp only [Bool.not_false,if_true,Option.bind_some]
    rw [b7c s hs i tab t tt ht htt id rows hl h m fuel (k + 1) n (by omega) (by omega) h0 (by omega)]
    simp [b9t,e2g,hst]
   | true =>
    have h4:=d6c hcol hst
    have hro:c2r s c = true:=by
     unfold b2b at hs
     simp only [Bool.and_eq_true] at hs
     exact List.all_eq_true.1 (List.all_eq_true.1 hs.2 t hmt) c (List.mem_of_getElem? hcc)
    obtain ⟨j,hj⟩:∃ j,b5k s c.Ref = some j:=by
     unfold c2r at hro
     cases hr:b5k s c.Ref with
     | none => simp [h4,hr] at hro
     | some j => exact ⟨j,rfl⟩
    simp only [Bool.not_true,Bool.false_eq_true,if_false,a0m,htt,Option.bind_some,e8h hs hj htt]
    by_cases e:j = tab
    ·subst e
     simp only [decide_true,Bool.not_true,Bool.false_eq_true,if_false]
     rw [c8y k id rows n (fun r hr => by have:=h r hr; omega) h0 (by omega),Option.bind_some,b7c s hs i j t tt ht htt id rows hl h m fuel (k + 1) _ (by omega) (by omega) (by omega) (by omega)]
     simp [b9t,e2g,hst,hj,Int.add_assoc]
    ·simp only [decide_eq_false e,Bool.not_false,if_true]
     rw [b7c s hs i tab t tt ht htt id rows hl h m fuel (k + 1) n (by omega) (by omega) h0 (by omega)]
     simp [b9t,e2g,hst,hj,e]
theorem c9a (s:a0b) (hs:b2b s = true) (x:x9) (hx:e0i s x.Tables) (tab:Nat) (tt:x8) (htt:s.Tables[tab]? = some tt) (id:Int):∀ (xs:List (List o5)) (i:Nat) (n:Int),x.Tables.drop i = xs → 0 ≤ n → n + (xs.length * 72:Nat) ≤ 2 ^ 28 →
  a7k s (tab:Int) id xs n i = some (n + c4o s tab id x.Tables (s.Tables.drop i) i)
 | [],i,n,hd,_,_ => by
  have:x.Tables.length ≤ i:=by simpa using hd
  rw [a7k,List.drop_of_length_le (by rw [← hx.1]; exact this)]
  simp [c4o]
 | l :: xs,i,n,hd,h0,hn => by
  have hlt:=b4q hd
  have hl:x.Tables[i]? = some l:=by have:=congrArg (·[0]?) hd; simpa using this
  have hlt2:i < s.Tables.length:=by rw [← hx.1]; exact hlt
  obtain ⟨t,ht⟩:∃ t,s.Tables[i]? = some t:=⟨s.Tables[i],List.getElem?_eq_getElem hlt2⟩
  have ed:s.Tables.drop i = t :: s.Tables.drop (i + 1):=by
   rw [List.drop_eq_getElem_cons hlt2]; congr 1; exact (List.getElem?_eq_some_iff.1 ht).2
  obtain ⟨g1,g2,g3⟩:=hx.2 i t l ht hl
  have hm:=List.mem_of_getElem? ht
  have hb:=e5p s tab id l t.Columns 0
  have hcc:=e5q hs hm g2
  have hf:=b2c
  have h6:=b1a hs hm
  simp only [List.length_cons] at hn
  have e0:((0:Nat):Int) = 0:=rfl
  have:=b7c s hs i tab t tt ht htt id l g2 (fun r hr => by have:=(g3 r hr).1; omega) t.Columns.length FUEL 0 n (by omega) (by omega) h0 (by omega)
  rw [e0] at this
  rw [a7k,this,Option.bind_some,List.drop_zero,c9a s hs x hx tab tt htt id xs (i + 1) _ (a6u hd) (by omega) (by omega),ed]
  simp only [c4o,hl,Option.getD_some,Int.add_assoc]
theorem e2h (s:a0b) (hs:b2b s = true) (x:x9) (hx:e0i s x.Tables) (tab:Nat) (htab:tab < s.Tables.length) (id:Int):a6l s x (tab:Int) id = some (c4o s tab id x.Tables s.Tables 0):=by
 have:=b6i hs
 have h1:=hx.1
 unfold a6l
 rw [c9a s hs x hx tab _ (List.getElem?_eq_getElem htab) id x.Tables 0 0 rfl (by omega) (by omega)]
 simp
def gT (ts:List (List a1n)):List (List o5):=ts.map (List.map gRow)
theorem e8i (a:b1c):d1b (c5e a) = a:=rfl
theorem e8j (a:o7):c5e (d1b a) = a:=rfl
theorem f1i (r:a1n):b7m (gRow r) = r:=by
 unfold b7m gRow
 have:(List.map d1b ∘ List.map c5e) = id:=by funext l; simp [Function.comp_def,e8i]
 simp only [List.map_map,this,List.map_id]
theorem f1j (r:o5):gRow (b7m r) = r:=by
 unfold b7m gRow
 have:(List.map c5e ∘ List.map d1b) = id:=by funext l; simp [Function.comp_def,e8j]
 simp only [List.map_map,this,List.map_id]
theorem f8h (ts:List (List a1n)):(gT ts).map (List.map b7m) = ts:=by
 unfold gT
 have:(List.map b7m ∘ List.map gRow) = id:=by funext l; simp [Function.comp_def,f1i]
 simp only [List.map_map,this,List.map_id]
theorem f8i (T:List (List o5)):gT (T.map (List.map b7m)) = T:=by
 unfold gT
 have:(List.map gRow ∘ List.map b7m) = id:=by funext l; simp [Function.comp_def,f1j]
 simp only [List.map_map,this,List.map_id]
theorem c4p {ts:List (List a1n)} {i:Nat} {t:List a1n} (h:ts[i]? = some t):(gT ts)[i]? = some (t.map gRow):=by unfold gT; rw [List.getElem?_map,h]; rfl
def b8z (ts:List (List a1n)):Nat:=(ts.map List.length).sum
theorem d6d:∀ (ts:List (List a1n)) (i:Nat) (t t':List a1n),ts[i]? = some t → b8z (ts.set i t') + t.length = b8z ts + t'.length
 | [],i,t,t',h => by simp at h
 | x :: ts,0,t,t',h => by simp at h; subst h; simp only [List.set_cons_zero,b8z,List.map_cons,List.sum_cons]; omega
 | x :: ts,i + 1,t,t',h => by
  have:=d6d ts i t t' (by simpa using h)
  simp only [b8z,List.set_cons_succ,List.map_cons,List.sum_cons] at *; omega
theorem c5j:∀ {l:List o5},l.Pairwise (fun a b => a.Id < b.Id) → a4q l = true
 | [],_ => rfl
 | [_],_ => rfl
 | a :: b :: l,h => by
  obtain ⟨h1,h2⟩:=List.pairwise_cons.1 h
  simp only [a4q,Bool.and_eq_true,decide_eq_true_eq]
  exact ⟨h1 b (by simp),c5j h2⟩
theorem d6e:∀ {l l':List o5},l.map o5.Id = l'.map o5.Id → a4q l = a4q l'
 | [],[],_ => rfl
 | [_],[_],_ => rfl
 | a :: b :: l,c :: d :: l',h => by
  simp only [List.map_cons,List.cons.injEq] at h
  have:=d6e (l:=b :: l) (l':=d :: l') (by simp [h.2.1,h.2.2])
  simp only [a4q,h.1,h.2.1,this]
 | [],_ :: _,h => by simp at h
 | _ :: _,[],h => by simp at h
 | [_],_ :: _ :: _,h => by simp at h
 | _ :: _ :: _,[_],h => by simp at h
def cF1 (s:a0b) (n:Int) (ts:List (List a1n)) (i:Nat) (id:Int):Option Int:=a6l s ⟨ts.map (List.map gRow),n⟩ (i:Int) id
def d8s (n:Int) (ts:List (List a1n)):Option (List (List a1n)):=(a5e ⟨ts.map (List.map gRow),n⟩).bind fun y => if y.Next = n then some (y.Tables.map (List.map b7m)) else none
def cPl (rows:List a1n) (N:Int):Option Int:=a4h (rows.map gRow) N
theorem d2z (there:List a1n):∀ (xs acc:List b1c),acc.length + xs.length ≤ 2 ^ 30 → b6e (cPl there) xs acc = some (acc ++ xs.filter fun x => a1x (there.map gRow) x.2.1)
 | [],acc,_ => by simp [b6e]
 | x :: xs,acc,h => by
  simp only [List.length_cons] at h
  have hn:=c4k (there.map gRow) x.2.1
  have hp:cPl there x.2.1 = some (atI ((there.map gRow).findIdx? fun r => r.Id == x.2.1)):=b7b _ _
  simp only [b6e,hp,Option.bind_some]
  generalize atI ((there.map gRow).findIdx? fun r => r.Id == x.2.1) = o at hn
  cases hh:a1x (there.map gRow) x.2.1 with
  | true =>
   rw [hh] at hn
   have:o ≥ 0:=by simp at hn; omega
   rw [if_pos this,if_pos (by omega),d2z there xs (acc ++ [x]) (by rw [List.length_append]; simp; omega)]
   simp [List.filter_cons,hh]
  | false =>
   rw [hh] at hn
   have:¬ o ≥ 0:=by simp at hn; omega
   rw [if_neg this,d2z there xs acc (by omega)]
   simp [List.filter_cons,hh]
def e5r (c:a0d):d8c:=⟨c.Name,c.Kind,c.Min,c.Max,c.Low,c.High,c.Ref,c.Strong⟩
structure c9c (s:a0b) (Pr:Nat → o5 → Prop):Prop where
 cl:∀ i r,Pr i r → ∀ t,s.Tables[i]? = some t → r.Cells.length = t.Columns.length ∧ ∀ d ∈ r.Cells,d.length ≤ 2 ^ 30
 wk:∀ i r t c col d (p:o7 → Bool),Pr i r → s.Tables[i]? = some t → t.Columns[c]? = some col → col.Kind = 4 → col.Strong = false → r.Cells[c]? = some d → Pr i ⟨r.Id,r.Cells.set c (d.filter p)⟩
structure StQ (s:a0b) (Pr:Nat → o5 → Prop) (T:List (List o5)):Prop where
 len:T.length = s.Tables.length
 tab:∀ (i:Nat) (l:List o5),T[i]? = some l → a4q l = true ∧ l.length ≤ 12 ∧ ∀ r ∈ l,Pr i r
def Held (s:a0b) (T:List (List o5)):Prop:=∀ (i:Nat) (t:x8) (l:List o5),s.Tables[i]? = some t → t.Root = false → T[i]? = some l → ∀ r ∈ l,c4o s i r.Id T s.Tables 0 ≠ 0
theorem StQ.form {s:a0b} {Pr:Nat → o5 → Prop} {T:List (List o5)} (h:StQ s Pr T) (hP:c9c s Pr):e0i s T:=⟨h.len,fun i t l ht hl => by
 obtain ⟨a,b,c⟩:=h.tab i l hl
 exact ⟨a,b,fun r hr => hP.cl i r (c r hr) t ht⟩⟩
theorem b7d {s:a0b} {n:Int} {T:List (List o5)} (h:e0i s T) (hs:b2b s = true):smS ⟨T,n⟩:=by
 have h4:=b6i hs
 refine ⟨by have:=h.1; show T.length ≤ _; omega,fun l hl => ?_⟩
 obtain ⟨i,hi⟩:=List.mem_iff_getElem?.1 hl
 have hil:=(List.getElem?_eq_some_iff.1 hi).1
 obtain ⟨t,ht⟩:∃ t,s.Tables[i]? = some t:=⟨s.Tables[i]'(by rw [← h.1]; exact hil),List.getElem?_eq_getElem _⟩
 obtain ⟨g1,g2,g3⟩:=h.2 i t l ht hi
 have h6:=b1a hs (List.mem_of_getElem? ht)
 exact ⟨by omega,fun r hr => ⟨by rw [(g3 r hr).1]; omega,(g3 r hr).2⟩⟩
theorem StQ.set {s:a0b} {Pr:Nat → o5 → Prop} {T:List (List o5)} {i:Nat} {l l':List o5} (h:StQ s Pr T) (ht:T[i]? = some l) (hr:a4q l' = true) (hl:l'.length ≤ 12) (hp:∀ r ∈ l',Pr i r):StQ s Pr (T.set i l'):=by
 have hi:=(List.getElem?_eq_some_iff.1 ht).1
 refine ⟨by rw [List.length_set]; exact h.len,fun q m hm => ?_⟩
 by_cases e:i = q
 ·subst e
  rw [List.getElem?_set_self hi] at hm
  cases hm
  exact ⟨hr,hl,hp⟩
 ·rw [List.getElem?_set_ne e] at hm
  exact h.tab q m hm
theorem c1k (ts:List (List a1n)):(gT ts).length = ts.length:=List.length_map _
theorem e5s (ts:List (List a1n)) (i:Nat) (t:List a1n):gT (ts.set i t) = (gT ts).set i (t.map gRow):=List.map_set
theorem f4a {s:a0b} {Pr:Nat → o5 → Prop} {n:Int} {ts:List (List a1n)} (h:StQ s Pr (gT ts)) (hP:c9c s Pr) (hs:b2b s = true):d8s n ts = some ts:=by
 unfold d8s
 rw [show ts.map (List.map gRow) = gT ts from rfl,b8w _ (b7d (h.form hP) hs),Option.bind_some,if_pos rfl,f8h]
theorem f8j {s:a0b} {Pr:Nat → o5 → Prop} {n:Int} {ts:List (List a1n)} (h:StQ s Pr (gT ts)) (hP:c9c s Pr) (hs:b2b s = true) {i:Nat} (hi:i < s.Tables.length) (id:Int):cF1 s n ts i id = some (c4o s i id (gT ts) s.Tables 0):=e2h s hs ⟨gT ts,n⟩ (h.form hP) i hi id
theorem e0j {s:a0b} {Pr:Nat → o5 → Prop} {n:Int} (hs:b2b s = true) (hP:c9c s Pr) {i:Nat} {st:x8} (hst:s.Tables[i]? = some st):∀ (rest A:List a1n) (ts:List (List a1n)) (g:Bool) (fuel:Nat),StQ s Pr (gT ts) → ts[i]? = some (A ++ rest) → rest.length < fuel →
  ∃ r,b4g (s.Tables.map b9s) (cF1 s n) (d8s n) i fuel A.length ts g = some r ∧ StQ s Pr (gT r.1) ∧ b8z r.1 ≤ b8z ts ∧ (r.2 = true → g = true ∨ b8z r.1 < b8z ts) ∧ (r.2 = false → g = false ∧ r.1 = ts ∧ (st.Root = false → ∀ x ∈ rest,c4o s i x.1 (gT ts) s.Tables 0 ≠ 0))
 | _,_,_,_,0,_,_,hf => by omega
 | [],A,ts,g,fuel + 1,h,ht,hf => by
  refine ⟨(ts,g),?_,h,Nat.le_refl _,fun hg => .inl hg,fun hg => ⟨hg,rfl,fun _ x hx => by simp at hx⟩⟩
  rw [List.append_nil] at ht
  simp only [b4g,ht,Option.bind_some]
  rw [List.getElem?_eq_none (Nat.le_refl _)]
  simp
 | r :: rest,A,ts,g,fuel + 1,h,ht,hf => by
  simp only [List.length_cons] at hf
  have hi:=(List.getElem?_eq_some_iff.1 hst).1
  have hk:(A ++ r :: rest)[A.length]? = some r:=by rw [List.getElem?_append_right (Nat.le_refl _)]; simp
  have hss:(s.Tables.map b9s)[i]? = some (b9s st):=by rw [List.getElem?_map,hst]; rfl
  have hroot:(b9s st).root = st.Root:=rfl
  have ht':ts[i]? = some ((A ++ [r]) ++ rest):=by rw [ht]; simp
  have hlen:(A ++ [r]).length = A.length + 1:=by simp
  simp only [b4g,ht,Option.bind_some,hk,hss,hroot]
  by_cases hR:st.Root = true
  ·rw [if_pos hR,← hlen]
   obtain ⟨q,q1,q2,q3,q4,q5⟩:=e0j hs hP hst rest (A ++ [r]) ts g fuel h ht' (by omega)
   exact ⟨q,q1,q2,q3,q4,fun hq => ⟨(q5 hq).1,(q5 hq).2.1,fun hr => by rw [hR] at hr; cases hr⟩⟩
  ·rw [if_neg hR,f8j h hP hs hi,Option.bind_some]
   by_cases hc:c4o s i r.1 (gT ts) s.Tables 0 = 0
   ·rw [if_pos hc,f4a h hP hs,Option.bind_some,ht,Option.bind_some]
    obtain ⟨g1,g2,g3⟩:=h.tab i _ (c4p ht)
    have hsub:List.Sublist (A ++ rest) (A ++ r :: rest):=List.Sublist.append (List.Sublist.refl _) (List.sublist_cons_self ..)
    have k1:StQ s Pr (gT (ts.set i (A ++ rest))):=by
     rw [e5s]
     refine h.set (c4p ht) (c5j ((b9n g1).sublist (hsub.map _))) ?_ (fun x hx => g3 x ((hsub.map gRow).subset hx))
     have:=(hsub.map gRow).length_le
     omega
    rw [List.length_map] at g2
    have e1:(A ++ r :: rest).take A.length ++ (A ++ r :: rest).drop (A.length + 1) = A ++ rest:=by
     rw [List.take_left,← List.drop_drop,List.drop_left]; rfl
    have h4:=b6i hs
    rw [if_pos ⟨by simp,by omega,by omega⟩,e1]
    have hset:(ts.set i (A ++ rest))[i]? = some (A ++ rest):=List.getElem?_set_self (by rw [← c1k,h.len]; exact hi)
    obtain ⟨q,q1,q3,q4,q5,q6⟩:=e0j hs hP hst rest A (ts.set i (A ++ rest)) true fuel k1 hset (by omega)
    have ht2:=d6d ts i _ (A ++ rest) ht
    simp only [List.length_append,List.length_cons] at ht2
    exact ⟨q,q1,q3,by omega,fun _ => .inr (by omega),fun hq => by have:=(q6 hq).1; cases this⟩
   ·rw [if_neg hc,← hlen]
    obtain ⟨q,q1,q2,q3,q4,q5⟩:=e0j hs hP hst rest (A ++ [r]) ts g fuel h ht' (by omega)
    exact ⟨q,q1,q2,q3,q4,fun hq => ⟨(q5 hq).1,(q5 hq).2.1,fun hr x hx => by
     rcases List.mem_cons.1 hx with rfl | hx
     ·exact hc
     ·exact (q5 hq).2.2 hr x hx⟩⟩
theorem e9q {s:a0b} {Pr:Nat → o5 → Prop} {n:Int} (hs:b2b s = true) (hP:c9c s Pr):∀ (xs:List x8) (i:Nat) (ts:List (List a1n)) (g:Bool) (fuel:Nat),s.Tables.drop i = xs → StQ s Pr (gT ts) → xs.length < fuel →
  ∃ r,b6v (s.Tables.map b9s) (cF1 s n) (d8s n) fuel i ts g = some r ∧ StQ s Pr (gT r.1) ∧ b8z r.1 ≤ b8z ts ∧ (r.2 = true → g = true ∨ b8z r.1 < b8z ts) ∧ (r.2 = false → g = false ∧ r.1 = ts ∧ ∀ (j:Nat) (t:x8) (l:List a1n),i ≤ j → s.Tables[j]? = some t → t.Root = false → ts[j]? = some l → ∀ x ∈ l,c4o s j x.1 (gT ts) s.Tables 0 ≠ 0)
 | _,_,_,_,0,_,_,hf => by omega
 | [],i,ts,g,fuel + 1,hd,h,hf => by
  have hi:s.Tables.length ≤ i:=by simpa using hd
  refine ⟨(ts,g),?_,h,Nat.le_refl _,fun hg => .inl hg,fun hg => ⟨hg,rfl,fun j t l hj ht => by have:=(List.getElem?_eq_some_iff.1 ht).1; omega⟩⟩
  simp only [b6v]
  rw [if_neg (by rw [← c1k,h.len]; omega)]
 | t :: xs,i,ts,g,fuel + 1,hd,h,hf => by
  simp only [List.length_cons] at hf
  have hlt:=b4q hd
  have hst:s.Tables[i]? = some t:=by have:=congrArg (·[0]?) hd; simpa using this
  have hil:i < ts.length:=by rw [← c1k,h.len]; exact hlt
  obtain ⟨l,hl⟩:∃ l,ts[i]? = some l:=⟨ts[i],List.getElem?_eq_getElem _⟩
  obtain ⟨g1,g2,-⟩:=h.tab i _ (c4p hl)
  rw [List.length_map] at g2
  have hf40:=b2c
  obtain ⟨q,q1,q3,q4,q5,q6⟩:=e0j (n:=n) hs hP hst l [] ts g FUEL h (by simpa using hl) (by omega)
  have q1:b4g (s.Tables.map b9s) (cF1 s n) (d8s n) i FUEL 0 ts g = some q:=q1
  obtain ⟨z,z1,z3,z4,z5,z6⟩:=e9q hs hP xs (i + 1) q.1 q.2 fuel (a6u hd) q3 (by omega)
  refine ⟨z,?_,z3,by omega,fun hz => ?_,fun hz => ?_⟩
  ·simp only [b6v]
   rw [if_pos hil,q1,Option.bind_some,z1]
  ·rcases z5 hz with hq | hq
   ·rcases q5 hq with hg | hg
    ·exact .inl hg
    ·exact .inr (by omega)
   ·exact .inr (by omega)
  ·obtain ⟨y1,y2,y3⟩:=z6 hz
   obtain ⟨w1,w2,w3⟩:=q6 y1
   rw [w2] at y2 y3
   refine ⟨w1,y2,fun j t' l' hj ht' hr hl' x hx => ?_⟩
   by_cases e:i = j
   ·subst e
    rw [hst] at ht'; cases ht'
    rw [hl] at hl'; cases hl'
    exact w3 hr x hx
   ·exact y3 j t' l' (by omega) ht' hr hl' x hx
theorem f1k {ts:List (List a1n)} {i:Nat} {l:List o5} (h:(gT ts)[i]? = some l):∃ t,ts[i]? = some t ∧ l = t.map gRow:=by
 unfold gT at h
 rw [List.getElem?_map] at h
 cases e:ts[i]? with
 | none => rw [e] at h; cases h
 | some t => rw [e] at h; cases h; exact ⟨t,rfl,rfl⟩
theorem e9r {s:a0b} {Pr:Nat → o5 → Prop} {n:Int} (hs:b2b s = true) (hP:c9c s Pr):∀ (fuel:Nat) (ts:List (List a1n)) (g:Bool),StQ s Pr (gT ts) → 1 ≤ fuel → (g = true → b8z ts + 2 ≤ fuel) → (g = false → Held s (gT ts)) →
  ∃ r,b6w (s.Tables.map b9s) (cF1 s n) (d8s n) fuel ts g = some r ∧ StQ s Pr (gT r) ∧ Held s (gT r)
 | 0,_,_,_,hf,_,_ => by omega
 | fuel + 1,ts,g,h,hf,hg,hH => by
  simp only [b6w]
  by_cases c:g = true
  ·have hg:=hg c
   have h4:=b6i hs
   have hf40:=b2c
   obtain ⟨q,q1,q3,q4,q5,q6⟩:=e9q (n:=n) hs hP s.Tables 0 ts false FUEL rfl h (by omega)
   rw [if_pos c,q1,Option.bind_some]
   refine e9r hs hP fuel q.1 q.2 q3 (by omega) (fun hq => by rcases q5 hq with h | h; cases h; omega) (fun hq => ?_)
   obtain ⟨-,y2,y3⟩:=q6 hq
   rw [y2]
   intro i t l ht hr hl r hrm
   obtain ⟨l',hl',rfl⟩:=f1k hl
   obtain ⟨r',hr',rfl⟩:=List.mem_map.1 hrm
   exact y3 i t l' (Nat.zero_le _) ht hr hl' r' hr'
  ·rw [if_neg c]
   exact ⟨ts,rfl,h,hH (by simpa using c)⟩
theorem e0k {α:Type} {l:List α} {k:Nat} {x:α} (h:l[k]? = some x):l.set k x = l:=by
 obtain ⟨h1,h2⟩:=List.getElem?_eq_some_iff.1 h
 rw [← h2]; exact List.set_getElem_self h1
theorem d6f (q:Nat) (id:Int) (c:Nat) (d:List o7) (hq:q ≠ c):∀ (l:List o5) (k:Nat) (r:o5),l[k]? = some r → c4n q id (l.set k ⟨r.Id,r.Cells.set c d⟩) = c4n q id l
 | [],k,r,h => by simp at h
 | x :: l,0,r,h => by
  simp at h; subst h
  simp only [List.set_cons_zero,c4n]
  rw [List.getElem?_set_ne (fun e => hq e.symm)]
 | x :: l,k + 1,r,h => by
  simp only [List.set_cons_succ,c4n]
  rw [d6f q id c d hq l k r (by simpa using h)]
theorem d6g (s:a0b) (tab:Nat) (id:Int) (c:Nat) (d:List o7) (l:List o5) (k:Nat) (r:o5) (h:l[k]? = some r):∀ (cs:List a0d) (q:Nat),(∀ j col,cs[j]? = some col → q + j = c → col.Strong = false) → b9t s tab id (l.set k ⟨r.Id,r.Cells.set c d⟩) cs q = b9t s tab id l cs q
 | [],q,_ => rfl
 | col :: cs,q,hc => by
  simp only [b9t]
  rw [d6g s tab id c d l k r h cs (q + 1) (fun j col' hj e => hc (j + 1) col' (by simpa using hj) (by omega))]
  congr 1
  by_cases e:q = c
  ·have:e2g s tab col = false:=by unfold e2g; rw [hc 0 col rfl (by omega)]; rfl
   simp [this]
  ·rw [d6f q id c d e l k r h]
theorem d6h (s:a0b) (tab:Nat) (id:Int) (T:List (List o5)) (i:Nat) (l l':List o5) (hl:T[i]? = some l):∀ (ts:List x8) (q:Nat),(∀ j t,ts[j]? = some t → q + j = i → b9t s tab id l' t.Columns 0 = b9t s tab id l t.Columns 0) → c4o s tab id (T.set i l') ts q = c4o s tab id T ts q
 | [],q,_ => rfl
 | t :: ts,q,h => by
  simp only [c4o]
  rw [d6h s tab id T i l l' hl ts (q + 1) (fun j t' hj e => h (j + 1) t' (by simpa using hj) (by omega))]
  congr 1
  by_cases e:i = q
  ·subst e
   rw [List.getElem?_set_self (List.getElem?_eq_some_iff.1 hl).1,hl]
   exact h 0 t rfl rfl
  ·rw [List.getElem?_set_ne e]
theorem e5t {s:a0b} {T:List (List o5)} {i k c:Nat} {st:x8} {col:a0d} {l:List o5} {r:o5} {d:List o7} (hH:Held s T) (hst:s.Tables[i]? = some st) (hc:st.Columns[c]? = some col) (hw:col.Strong = false) (hl:T[i]? = some l) (hr:l[k]? = some r):Held s (T.set i (l.set k ⟨r.Id,r.Cells.set c d⟩)):=by
 intro j t l' ht hroot hl' r' hr'
 rw [d6h s j r'.Id T i l _ hl s.Tables 0 (fun q t' hq e => by
  have e:q = i:=by omega
  subst e
  rw [hst] at hq; cases hq
  exact d6g s j r'.Id c d l k r hr _ 0 (fun q' col' hq' e' => by
   have e':q' = c:=by omega
   subst e'
   rw [hc] at hq'; cases hq'; exact hw))]
 by_cases e:i = j
 ·subst e
  rw [List.getElem?_set_self (List.getElem?_eq_some_iff.1 hl).1] at hl'
  cases hl'
  rcases List.mem_or_eq_of_mem_set hr' with hm | rfl
  ·exact hH i t l ht hroot hl r' hm
  ·exact hH i t l ht hroot hl r (List.mem_of_getElem? hr)
 ·rw [List.getElem?_set_ne e] at hl'
  exact hH j t l' ht hroot hl' r' hr'
theorem e9s {s:a0b} {Pr:Nat → o5 → Prop} (hP:c9c s Pr) {i c j:Nat} {st:x8} {col:a0d} {rf:Str} (hst:s.Tables[i]? = some st) (hc:st.Columns[c]? = some col) (hkind:col.Kind = 4) (hw:col.Strong = false) (hj:b5k s rf = some j):∀ (m k:Nat) (ts:List (List a1n)) (t:List a1n),StQ s Pr (gT ts) → Held s (gT ts) → ts[i]? = some t → t.length = m + k →
  ∃ r,b5e cPl i c j m k ts = some r ∧ StQ s Pr (gT r) ∧ Held s (gT r)
 | 0,k,ts,t,h,hH,ht,hl => ⟨ts,rfl,h,hH⟩
 | m + 1,k,ts,t,h,hH,ht,hl => by
  obtain ⟨g1,g2,g3⟩:=h.tab i _ (c4p ht)
  have hcl':=(List.getElem?_eq_some_iff.1 hc).1
  have hkl:k < t.length:=by omega
  obtain ⟨rr,hrr⟩:∃ r,t[k]? = some r:=⟨t[k],List.getElem?_eq_getElem hkl⟩
  have hrm:gRow rr ∈ t.map gRow:=List.mem_map_of_mem (List.mem_of_getElem? hrr)
  obtain ⟨z1,z2⟩:=hP.cl i _ (g3 _ hrm) st hst
  have hcl:c < rr.2.length:=by
   have:(gRow rr).Cells.length = rr.2.length:=by unfold gRow; simp
   omega
  obtain ⟨d,hd⟩:∃ d,rr.2[c]? = some d:=⟨rr.2[c],List.getElem?_eq_getElem hcl⟩
  have hdg:(gRow rr).Cells[c]? = some (d.map c5e):=by unfold gRow; simp [hd]
  have hdl:=z2 _ (List.mem_of_getElem? hdg)
  rw [List.length_map] at hdl
  have hjl:=e0h hj
  obtain ⟨there,hth⟩:∃ l,ts[j]? = some l:=⟨ts[j]'(by rw [← c1k,h.len]; exact hjl),List.getElem?_eq_getElem _⟩
  have hkeep:=d2z there d [] (by simpa using hdl)
  rw [List.nil_append] at hkeep
  simp only [b5e,ht,hrr,hd,hth,Option.bind_some,hkeep]
  have em:gT (ts.set i (t.set k (rr.1,rr.2.set c (d.filter fun x => a1x (there.map gRow) x.2.1)))) = (gT ts).set i ((t.map gRow).set k ⟨(gRow rr).Id,(gRow rr).Cells.set c ((d.map c5e).filter fun x => a1x (there.map gRow) x.N)⟩):=by
   rw [e5s,List.map_set]
   congr 2
   unfold gRow
   simp only [List.map_set,o5.mk.injEq,true_and]
   congr 1
   rw [List.filter_map]; rfl
  have ek:(t.map gRow)[k]? = some (gRow rr):=by rw [List.getElem?_map,hrr]; rfl
  have hi:=(List.getElem?_eq_some_iff.1 ht).1
  refine e9s hP hst hc hkind hw hj m (k + 1) _ (t.set k (rr.1,rr.2.set c (d.filter fun x => a1x (there.map gRow) x.2.1))) ?_ ?_ (List.getElem?_set_self hi) (by rw [List.length_set]; omega)
  ·rw [em]
   refine h.set (c4p ht) ?_ (by rw [List.length_set]; exact g2) (fun r' hr' => ?_)
   ·rw [← g1]
    refine d6e ?_
    rw [List.map_set]
    exact e0k (by rw [List.getElem?_map,ek]; rfl)
   ·rcases List.mem_or_eq_of_mem_set hr' with hm | rfl
    ·exact g3 r' hm
    ·exact hP.wk i _ st c col _ _ (g3 _ hrm) hst hc hkind hw hdg
  ·rw [em]
   exact e5t hH hst hc hw (c4p ht) ek
theorem e5u {s:a0b} {Pr:Nat → o5 → Prop} (hs:b2b s = true) (hP:c9c s Pr) {i:Nat} {st:x8} (hst:s.Tables[i]? = some st):∀ (cs:List a0d) (c:Nat) (ts:List (List a1n)),st.Columns.drop c = cs → StQ s Pr (gT ts) → Held s (gT ts) →
  ∃ r,b5f (fun rf => a4k s rf) cPl i (cs.map e5r) c ts = some r ∧ StQ s Pr (gT r) ∧ Held s (gT r)
 | [],c,ts,_,h,hH => ⟨ts,rfl,h,hH⟩
 | col :: cs,c,ts,hd,h,hH => by
  have hi:=(List.getElem?_eq_some_iff.1 hst).1
  have hcol:st.Columns[c]? = some col:=by have:=congrArg (·[0]?) hd; simpa using this
  have e1:(e5r col).kd = col.Kind:=rfl
  have e2:(e5r col).st = col.Strong:=rfl
  have e3:(e5r col).rf = col.Ref:=rfl
  simp only [List.map_cons,b5f,e1,e2,e3]
  by_cases hsk:(decide (col.Kind ≠ 4) || col.Strong) = true
  ·rw [if_pos hsk]
   exact e5u hs hP hst cs (c + 1) ts (a6u hd) h hH
  ·rw [if_neg hsk]
   simp at hsk
   obtain ⟨j,hj⟩:∃ j,b5k s col.Ref = some j:=by
    have hro:c2r s col = true:=by
     unfold b2b at hs
     simp only [Bool.and_eq_true] at hs
     exact List.all_eq_true.1 (List.all_eq_true.1 hs.2 st (List.mem_of_getElem? hst)) col (List.mem_of_getElem? hcol)
    unfold c2r at hro
    cases hr:b5k s col.Ref with
    | none => simp [hsk.1,hr] at hro
    | some j => exact ⟨j,rfl⟩
   have hjl:=e0h hj
   obtain ⟨t,ht⟩:∃ t,ts[i]? = some t:=⟨ts[i]'(by rw [← c1k,h.len]; exact hi),List.getElem?_eq_getElem _⟩
   obtain ⟨q,q1,q3,q4⟩:=e9s hP hst hcol hsk.1 hsk.2 hj t.length 0 ts t h hH ht rfl
   have ea:atI (some j) = (j:Int):=rfl
   rw [b9k,hj,Option.bind_some,ea,if_pos ⟨by omega,by rw [← c1k,h.len]; omega⟩,ht,Option.bind_some,Int.toNat_natCast,q1,Option.bind_some]
   exact e5u hs hP hst cs (c + 1) q (a6u hd) q3 q4
theorem e9t {s:a0b} {Pr:Nat → o5 → Prop} (hs:b2b s = true) (hP:c9c s Pr):∀ (xs:List x8) (i:Nat) (ts:List (List a1n)),s.Tables.drop i = xs → StQ s Pr (gT ts) → Held s (gT ts) →
  ∃ r,b8j (fun rf => a4k s rf) cPl (s.Tables.map b9s) xs.length i ts = some r ∧ StQ s Pr (gT r) ∧ Held s (gT r)
 | [],i,ts,_,h,hH => ⟨ts,rfl,h,hH⟩
 | t :: xs,i,ts,hd,h,hH => by
  have hst:s.Tables[i]? = some t:=by have:=congrArg (·[0]?) hd; simpa using this
  have hss:(s.Tables.map b9s)[i]? = some (b9s t):=by rw [List.getElem?_map,hst]; rfl
  have ec:(b9s t).cols = t.Columns.map e5r:=rfl
  obtain ⟨q,q1,q3,q4⟩:=e5u hs hP hst t.Columns 0 ts rfl h hH
  simp only [List.length_cons,b8j,hss,Option.bind_some,ec,q1]
  exact e9t hs hP xs (i + 1) q (a6u hd) q3 q4
theorem e5v (s:a0b) {Pr:Nat → o5 → Prop} (hs:b2b s = true) (hP:c9c s Pr) (x:x9) (hx:StQ s Pr x.Tables):∃ o,b1j s x = some o ∧ o.Next = x.Next ∧ StQ s Pr o.Tables ∧ Held s o.Tables:=by
 have h0:StQ s Pr (gT (x.Tables.map (List.map b7m))):=by rw [f8i]; exact hx
 have h4:=b6i hs
 have ht:b8z (x.Tables.map (List.map b7m)) + 2 ≤ FUEL:=by
  have hf:=b2c
  have:∀ T:List (List o5),(∀ l ∈ T,l.length ≤ 12) → b8z (T.map (List.map b7m)) ≤ T.length * 12:=by
   intro T
   induction T with
   | nil => intro _; simp [b8z]
   | cons l T ih =>
    intro h
    have:=ih (fun y hy => h y (by simp [hy]))
    have:=h l (by simp)
    simp only [b8z,List.map_cons,List.sum_cons,List.length_cons,List.length_map] at *
    omega
  have:=this x.Tables (fun l hl => by
   obtain ⟨i,hi⟩:=List.mem_iff_getElem?.1 hl
   exact (hx.tab i l hi).2.1)
  have:=hx.len
  omega
 obtain ⟨q,q1,q3,q4⟩:=e9r (n:=x.Next) hs hP FUEL _ true h0 (by have:=b2c; omega) (fun _ => ht) (fun h => by cases h)
 obtain ⟨z,z1,z3,z4⟩:=e9t hs hP s.Tables 0 q rfl q3 q4
 refine ⟨⟨z.map (List.map gRow),x.Next⟩,?_,rfl,z3,z4⟩
 unfold b1j c2k
 have e1:=f4a (n:=x.Next) h0 hP hs
 unfold d8s at e1
 dsimp only
 rw [e1,Option.bind_some]
 have e2:b6w (s.Tables.map b9s) (fun ts i id => a6l s ⟨ts.map (List.map gRow),x.Next⟩ (i:Int) id) (fun ts => (a5e ⟨ts.map (List.map gRow),x.Next⟩).bind fun y => if y.Next = x.Next then some (y.Tables.map (List.map b7m)) else none) FUEL (x.Tables.map (List.map b7m)) true = some q:=q1
 have e3:b8j (fun rf => a4k s rf) (fun rows n => a4h (rows.map gRow) n) (s.Tables.map b9s) q.length 0 q = some z:=by rw [← c1k,q3.len]; exact z1
 rw [e2,Option.bind_some,e3]
 rfl
structure a9z (s:o8):Prop where
 code:∀ x ∈ s.Code,0 ≤ x ∧ x < 256
 len:(s.Code.length:Int) ≤ 1048576
 at0:0 ≤ s.At
 seed:0 ≤ s.Seed ∧ s.Seed < 2147483648
structure Nx (s s':o8) (k:Int):Prop where
 ok:a9z s'
 lo:s.At ≤ s'.At
 hi:s'.At ≤ s.At + k
 code:s'.Code = s.Code
theorem Nx.refl {s:o8} (h:a9z s):Nx s s 0:=⟨h,Int.le_refl _,by omega,rfl⟩
theorem Nx.mono {s s':o8} {k l:Int} (h:Nx s s' k) (hl:k ≤ l):Nx s s' l:=⟨h.ok,h.lo,by have:=h.hi; omega,h.code⟩
theorem Nx.trans {a b c:o8} {k l:Int} (h:Nx a b k) (g:Nx b c l):Nx a c (k + l):=⟨g.ok,by have:=h.lo; have:=g.lo; omega,by have:=h.hi; have:=g.hi; omega,g.code.trans h.code⟩
theorem b5w {a m:Int} (h:0 ≤ a) (hm:0 < m):0 ≤ a.tmod m ∧ a.tmod m < m:=⟨Int.tmod_nonneg _ h,Int.tmod_lt_of_pos _ hm⟩
theorem e0l {a m:Int} (h:0 ≤ a) (hm:0 < m):a.tdiv m = a / m:=by rw [Int.tdiv_eq_ediv_of_nonneg h]
theorem d6i (code:List Int) (hc:∀ x ∈ code,0 ≤ x ∧ x < 256) (hl:(code.length:Int) ≤ 1048576):∃ s,a7x code = some s ∧ a9z s ∧ s.At = 0 ∧ s.Code = code:=by
 refine ⟨_,rfl,⟨hc,hl,by simp,?_⟩,rfl,rfl⟩
 have:=b5w (a:=(code.length:Int)) (m:=1000) (by omega) (by omega)
 simp only; omega
theorem f1l (s:o8) (h:a9z s) (ha:s.At < 2 ^ 50):∃ b s',a2v s = some (b,s') ∧ 0 ≤ b ∧ b < 256 ∧ Nx s s' 1:=by
 obtain ⟨h1,h2,h3,h4,h5⟩:=h
 unfold a2v
 rw [a1d (n:=s.At + 1) (by omega)]
 by_cases c:s.At + 1 ≤ (s.Code.length:Int)
 ·rw [if_pos (by simpa using c)]
  obtain ⟨n,hn⟩:∃ n:Nat,s.At = (n:Int):=⟨s.At.toNat,by omega⟩
  have e1:w64 (s.At + 1 - 1) = (n:Int):=by rw [a1d (by omega)]; omega
  obtain ⟨x,hx⟩:∃ x,s.Code[n]? = some x:=⟨s.Code[n]'(by omega),List.getElem?_eq_getElem (by omega)⟩
  have hb:=h1 x (List.mem_of_getElem? hx)
  rw [e1,a0m,hx,Option.bind_some,Option.bind_some,a1d (n:=x) (by omega),a1d (n:=s.Seed * 31) (by omega),a1d (n:=s.Seed * 31 + x) (by omega),a1d (by omega)]
  have:=b5w (a:=s.Seed * 31 + x + 7) (m:=2147483648) (by omega) (by omega)
  exact ⟨x,_,rfl,hb.1,hb.2,⟨⟨h1,h2,by simp only; omega,this⟩,by simp only; omega,by simp only; omega,rfl⟩⟩
 ·rw [if_neg (by simpa using c)]
  by_cases c2:s.At + 1 > 3000
  ·rw [if_pos (by simpa using c2)]
   exact ⟨0,_,rfl,by omega,by omega,⟨⟨h1,h2,by simp only; omega,h4,h5⟩,by simp only; omega,by simp only; omega,rfl⟩⟩
  ·rw [if_neg (by simpa using c2),a1d (n:=s.Seed * 1103515245) (by omega),a1d (n:=s.Seed * 1103515245 + 12345) (by omega)]
   have hs:=b5w (a:=s.Seed * 1103515245 + 12345) (m:=2147483648) (by omega) (by omega)
   have hq:=e0l (a:=(s.Seed * 1103515245 + 12345).tmod 2147483648) (m:=65536) hs.1 (by omega)
   rw [hq]
   have:w64 ((s.Seed * 1103515245 + 12345).tmod 2147483648 / 65536) = (s.Seed * 1103515245 + 12345).tmod 2147483648 / 65536:=a1d (by omega)
   rw [this]
   have hb:=b5w (a:=(s.Seed * 1103515245 + 12345).tmod 2147483648 / 65536) (m:=256) (by omega) (by omega)
   exact ⟨_,_,rfl,hb.1,hb.2,⟨⟨h1,h2,by simp only; omega,hs⟩,by simp only; omega,by simp only; omega,rfl⟩⟩
theorem a6q (n:Int) (s:o8) (h:a9z s) (ha:s.At + 1 < 2 ^ 50) (h1:1 ≤ n) (h2:n ≤ 256):∃ v s',a1e n s = some (v,s') ∧ 0 ≤ v ∧ v < n ∧ Nx s s' 1:=by
 unfold a1e
 by_cases c:n ≤ 1
 ·rw [if_pos (by simpa using c)]
  exact ⟨0,s,rfl,by omega,by omega,(Nx.refl h).mono (by omega)⟩
 ·rw [if_neg (by simpa using c),if_pos (by simpa using h2)]
  obtain ⟨b,s',e,g1,g2,g3⟩:=f1l s h (by omega)
  rw [e,Option.bind_some,if_pos (by omega)]
  have:=b5w (a:=b) (m:=n) g1 (by omega)
  exact ⟨_,_,rfl,this.1,this.2,g3⟩
theorem a8p (n:Int) (s:o8) (h:a9z s) (ha:s.At + 1 < 2 ^ 50) (h1:1 ≤ n) (h2:n ≤ 256):∃ v s',a1g n s = some (v,s') ∧ Nx s s' 1:=by
 unfold a1g
 obtain ⟨v,s',e,_,_,g⟩:=a6q n s h ha h1 h2
 rw [e,Option.bind_some]
 exact ⟨_,_,rfl,g⟩
theorem b9q (l:List Str) (s:o8) (h:a9z s) (ha:s.At + 1 < 2 ^ 50) (h1:1 ≤ l.length) (h2:l.length ≤ 256):∃ t s',a3z l s = some (t,s') ∧ t ∈ l ∧ Nx s s' 1:=by
 unfold a3z
 rw [if_neg (by simp; intro hh; rw [hh] at h1; simp at h1)]
 obtain ⟨v,s',e,g1,g2,g⟩:=a6q l.length s h ha (by omega) (by omega)
 rw [e,Option.bind_some]
 obtain ⟨m,rfl⟩:∃ m:Nat,v = (m:Int):=⟨v.toNat,by omega⟩
 simp only
 obtain ⟨x,hx⟩:∃ x,l[m]? = some x:=⟨l[m]'(by omega),List.getElem?_eq_getElem (by omega)⟩
 rw [a0m,hx,Option.bind_some]
 exact ⟨x,s',rfl,List.mem_of_getElem? hx,g⟩
theorem e8k (s:o8):a2x s = a2v s:=by
 first
 | rfl
 | (unfold a2x a2v; rfl)
theorem b3a (n:Int) (s:o8):a0c n s = a1e n s:=by
 first
 | rfl
 | (unfold a0c a1e; simp only [e8k])
theorem c6h (l:List Str) (s:o8):a2y l s = a3z l s:=by
 first
 | rfl
 | (unfold a2y a3z; simp only [b3a])
theorem e2i (c:List Int):a5m c = a7x c:=by
 first
 | rfl
 | (unfold a5m a7x; rfl)
theorem c4q (kind:Int) (s:o8) (hk:1 ≤ kind ∧ kind ≤ 4) (h:a9z s) (ha:s.At + 1 < 2 ^ 50):∃ a s',a1a kind s = some (a,s') ∧ b1o a = true ∧ a.Kind = kind ∧ Nx s s' 1:=by
 unfold a1a
 try simp only [b3a,c6h]
 by_cases k1:kind = 1
 ·subst k1
  obtain ⟨v,s',e,g1,g2,g⟩:=a6q 12 s h ha (by omega) (by omega)
  rw [if_pos (by simp),e,Option.bind_some]
  refine ⟨_,s',rfl,?_,rfl,g⟩
  have:w64 (v - 4) = v - 4:=a1d (by omega)
  rw [this]
  have:-1000000000 ≤ v - 4 ∧ v - 4 ≤ 1000000000:=by omega
  simp [b1o,this]
 rw [if_neg (by simpa using k1)]
 by_cases k2:kind = 2
 ·subst k2
  obtain ⟨t,s',e,ht,g⟩:=b9q [[],[97],[98],[99],[110,101,116]] s h ha (by simp) (by simp)
  rw [if_pos (by simp),e,Option.bind_some]
  refine ⟨_,s',rfl,?_,rfl,g⟩
  have:e4z t = true:=List.all_eq_true.1 (show ([[],[97],[98],[99],[110,101,116]]:List Str).all e4z = true by decide) t ht
  simp [b1o,this]
 rw [if_neg (by simpa using k2)]
 by_cases k3:kind = 3
 ·subst k3
  obtain ⟨v,s',e,g1,g2,g⟩:=a6q 2 s h ha (by omega) (by omega)
  rw [if_pos (by simp),e,Option.bind_some]
  refine ⟨_,s',rfl,?_,rfl,g⟩
  have:0 ≤ v ∧ v ≤ 1:=by omega
  simp [b1o,this]
 rw [if_neg (by simpa using k3)]
 have k4:kind = 4:=by omega
 subst k4
 obtain ⟨v,s',e,g1,g2,g⟩:=a6q 6 s h ha (by omega) (by omega)
 rw [e,Option.bind_some]
 refine ⟨_,s',rfl,?_,rfl,g⟩
 have:w64 (1 + v) = 1 + v:=a1d (by omega)
 rw [this]
 have:1 ≤ 1 + v ∧ 1 + v ≤ 1000000:=by omega
 simp [b1o,this]
theorem c9d (kind:Int) (hk:1 ≤ kind ∧ kind ≤ 4):∀ (i k:Nat) (s:o8) (out:List o7),i < k → a6d kind out → out.length + i ≤ 100 → a9z s → s.At + i < 2 ^ 50 →
  ∃ s' d,a4b kind k out i s.Code s.At s.Seed = some (d,s'.Code,s'.At,s'.Seed) ∧ a6d kind d ∧ d.length ≤ out.length + i ∧ Nx s s' i
 | _,0,_,_,h,_,_,_,_ => by omega
 | 0,k + 1,s,out,h,hs,hl,ho,ha => by
  refine ⟨s,out,?_,hs,by omega,Nx.refl ho⟩
  rw [a4b,if_neg (by simp)]
 | i + 1,k + 1,s,out,h,hs,hl,ho,ha => by
  rw [a4b,if_pos (by simp)]
  obtain ⟨a,s1,e,g1,g2,g3⟩:=c4q kind s hk ho (by omega)
  have e':a1a kind (⟨s.Code,s.At,s.Seed⟩:o8) = some (a,s1):=e
  obtain ⟨d,f,f1,f2,f3⟩:=e0a kind out a hs g1 g2 (by omega)
  have ew:w64 (((i + 1:Nat):Int) - 1) = (i:Int):=by rw [a1d (by omega)]; omega
  have:=g3.hi
  obtain ⟨s2,d2,q,q1,q2,q3⟩:=c9d kind hk i k s1 d (by omega) f1 (by omega) g3.ok (by omega)
  rw [e',Option.bind_some,f,Option.bind_some,ew,q]
  exact ⟨s2,d2,rfl,q1,by omega,(g3.trans q3).mono (by omega)⟩
theorem d3a (kind:Int) (s:o8) (hk:1 ≤ kind ∧ kind ≤ 4) (h:a9z s) (ha:s.At + 5 < 2 ^ 50):∃ d s',a2r kind s = some (d,s') ∧ a6d kind d ∧ d.length ≤ 4 ∧ Nx s s' 5:=by
 have hf:2 ^ 40 < FUEL:=by unfold FUEL; decide
 unfold a2r
 try rw [b3a]
 obtain ⟨v,s1,e,g1,g2,g⟩:=a6q 5 s h (by omega) (by omega) (by omega)
 obtain ⟨i,rfl⟩:∃ i:Nat,v = (i:Int):=⟨v.toNat,by omega⟩
 have:=g.hi
 obtain ⟨s2,d,e2,q1,q2,q3⟩:=c9d kind hk i FUEL s1 [] (by omega) ⟨by simp,by simp⟩ (by simp; omega) g.ok (by omega)
 rw [e,Option.bind_some,e2,Option.bind_some]
 simp only [List.length_nil] at q2
 exact ⟨d,s2,rfl,q1,by omega,(g.trans q3).mono (by omega)⟩
theorem f8k (more:List Int) (n:Int) (hc:∀ x ∈ more,0 ≤ x ∧ x < 256) (hl:(more.length:Int) ≤ 1048576) (hn:1 ≤ n ∧ n ≤ 1000000) (i:Int) (hi:0 ≤ i ∧ i ≤ 1000):∃ v,c2l more i n = some v ∧ 0 ≤ v ∧ v < n:=by
 unfold c2l
 by_cases h1:n ≤ 1
 ·rw [if_pos (by simpa using h1)]; exact ⟨0,rfl,by omega,by omega⟩
 rw [if_neg (by simpa using h1)]
 by_cases h2:more.length = 0
 ·rw [if_pos (by simpa using h2),if_pos (by omega)]
  have e:w64 (i * 7) = i * 7:=a1d (by omega)
  have:=b5w (a:=i * 7) (m:=n) (by omega) (by omega)
  rw [e]
  exact ⟨_,rfl,this⟩
 rw [if_neg (by simpa using h2),if_pos (by omega)]
 have get:∀ j:Int,0 ≤ j → ∃ x,idx more (j.tmod (more.length:Int)) = some x ∧ 0 ≤ x ∧ x < 256:=by
  intro j hj
  have hb:=b5w (a:=j) (m:=(more.length:Int)) hj (by omega)
  obtain ⟨q,hq⟩:∃ q:Nat,j.tmod (more.length:Int) = (q:Int):=⟨(j.tmod (more.length:Int)).toNat,by omega⟩
  rw [hq] at hb ⊢
  obtain ⟨x,hx⟩:∃ x,more[q]? = some x:=⟨more[q]'(by omega),List.getElem?_eq_getElem (by omega)⟩
  rw [a0m,hx]
  exact ⟨x,rfl,hc x (List.mem_of_getElem? hx)⟩
 obtain ⟨x,ex,x1,x2⟩:=get i hi.1
 have ew:w64 (i + 1) = i + 1:=a1d (by omega)
 obtain ⟨y,ey,y1,y2⟩:=get (i + 1) (by omega)
 rw [ex,Option.bind_some,if_pos (by omega),ew,ey,Option.bind_some,if_pos (by omega),if_pos (by omega)]
 have hq:0 ≤ i.tdiv (more.length:Int) ∧ i.tdiv (more.length:Int) ≤ i:=by
  rw [e0l hi.1 (by omega)]
  exact ⟨Int.ediv_nonneg hi.1 (by omega),Int.ediv_le_self _ hi.1⟩
 rw [a1d (n:=x) (by omega),a1d (n:=x * 31) (by omega),a1d (n:=y) (by omega),a1d (n:=x * 31 + y) (by omega),a1d (n:=i.tdiv (more.length:Int)) (by omega),a1d (by omega)]
 have:=b5w (a:=x * 31 + y + i.tdiv (more.length:Int)) (m:=n) (by omega) (by omega)
 exact ⟨_,rfl,this⟩
theorem b3j (n:Int) (s:o8):a0r n s = a1g n s:=by
 first
 | rfl
 | (unfold a0r a1g; simp only [b3a])
theorem a6b (s:o8):(⟨s.Code,s.At,s.Seed⟩:o8) = s:=rfl
def e2j (c:a0d):Bool:=decide (1 ≤ c.Kind ∧ c.Kind ≤ 4) && a6a c.Name
theorem d3b {t:x8} (h:t = nt0 ∨ t = nt1 ∨ t = nt2):t.Columns.all e2j = true:=by rcases h with rfl | rfl | rfl <;> decide
theorem d3c {t:x8} (h:t = nt0 ∨ t = nt1 ∨ t = nt2):2 ≤ t.Columns.length:=by rcases h with rfl | rfl | rfl <;> decide
theorem f4b {k:Int} {a:o7} (h1:b1o a = true) (h2:a.Kind = k):a6d k [a]:=⟨fun x hx => by simp at hx; subst hx; exact ⟨h1,h2⟩,fun i x y hx hy => by simp at hy⟩
theorem d6j:b2j [] = true:=rfl
theorem b9a {a:o7} (h:b1o a = true):b2j [a] = true:=b7a (f4b h rfl) (by simp)
theorem b3p {α:Type} {p:α → Bool} {l:List α} {x:α} (h:l.all p = true) (hx:p x = true):(l ++ [x]).all p = true:=by
 rw [List.all_append,h]; simp [hx]
theorem d3d {t:x8} (ht:t = nt0 ∨ t = nt1 ∨ t = nt2) (v:Int) (h:0 ≤ v ∧ v < (t.Columns.length:Int)):∃ c,idx t.Columns v = some c ∧ c ∈ t.Columns ∧ 1 ≤ c.Kind ∧ c.Kind ≤ 4 ∧ a6a c.Name = true:=by
 obtain ⟨m,rfl⟩:∃ m:Nat,v = (m:Int):=⟨v.toNat,by omega⟩
 obtain ⟨c,hc⟩:∃ c,t.Columns[m]? = some c:=⟨t.Columns[m]'(by omega),List.getElem?_eq_getElem (by omega)⟩
 have hm:=List.mem_of_getElem? hc
 have:=List.all_eq_true.1 (d3b ht) c hm
 simp only [e2j,Bool.and_eq_true,decide_eq_true_eq] at this
 exact ⟨c,by rw [a0m,hc],hm,this.1.1,this.1.2,this.2⟩
theorem e9u (q:Int) (h:0 ≤ q ∧ q < 4):∃ f,[(1:Int),(2:Int),(7:Int),(8:Int)][(0 + q.toNat)]? = some f ∧ 1 ≤ f ∧ f ≤ 8:=by
 have:q = 0 ∨ q = 1 ∨ q = 2 ∨ q = 3:=by omega
 rcases this with rfl | rfl | rfl | rfl
 ·exact ⟨1,rfl,by omega⟩
 ·exact ⟨2,rfl,by omega⟩
 ·exact ⟨7,rfl,by omega⟩
 ·exact ⟨8,rfl,by omega⟩
theorem c9e:∀ (xs:List a0d) (i:Nat) (s:o8) (out:List a2c),xs.all e2j = true → out.all setB = true → out.length + xs.length ≤ 1000 → a9z s → s.At + 20 * xs.length < 2 ^ 49 →
  ∃ s' l,a2i xs i s.Code s.At s.Seed out = some (s'.Code,s'.At,s'.Seed,l) ∧ l.all setB = true ∧ l.length ≤ out.length + xs.length ∧ out.length ≤ l.length ∧ (i = 0 → xs ≠ [] → out.length < l.length) ∧ Nx s s' (20 * xs.length)
 | [],i,s,out,_,hv,_,ho,_ => ⟨s,out,by rw [a2i],hv,by simp,by omega,by simp,(Nx.refl ho).mono (by simp)⟩
 | c :: xs,i,s,out,hk,hv,hl,ho,ha => by
  simp only [List.length_cons] at hl ha
  simp only [List.all_cons,Bool.and_eq_true] at hk
  obtain ⟨hkc,hks⟩:=hk
  simp only [e2j,Bool.and_eq_true,decide_eq_true_eq] at hkc
  obtain ⟨hk1,hk2⟩:=hkc
  rw [a2i]
  simp only [b3j,c6h]
  obtain ⟨b1,s1,e1,n1⟩:=a8p 2 s ho (by omega) (by omega) (by omega)
  have h1:=n1.hi
  rw [a6b,e1,Option.bind_some]
  have skip:∀ s':o8,Nx s s' 20 → ∀ out':List a2c,out'.all setB = true → out'.length ≤ out.length + 1 → out.length ≤ out'.length → (i = 0 → out.length < out'.length) → ∃ s'' l,a2i xs (i + 1) s'.Code s'.At s'.Seed out' = some (s''.Code,s''.At,s''.Seed,l) ∧ l.all setB = true ∧ l.length ≤ out.length + (xs.length + 1) ∧ out.length ≤ l.length ∧ (i = 0 → c :: xs ≠ [] → out.length < l.length) ∧ Nx s s'' (20 * ((xs.length + 1:Nat):Int)):=by
   intro s' n out' hv' hl' hl2 hl3
   have h2:=n.hi
   obtain ⟨s'',l,q1,q2,q3,q4,_,q6⟩:=c9e xs (i + 1) s' out' hks hv' (by omega) n.ok (by omega)
   exact ⟨s'',l,q1,q2,by omega,by omega,fun hi _ => by have:=hl3 hi; omega,(n.trans q6).mono (by omega)⟩
  have go:∃ s'' l,((((a1a c.Kind s1).bind fun r_214 =>
  some (r_214.2.Code,r_214.2.At,r_214.2.Seed,[r_214.1]):Option ((List Int) × Int × Int × (List o7)))).bind fun p213 =>
  (match p213 with
  | (x_209,x_210,x_211,x_212) =>
  ((if (c.Kind == 4) then
  (a1g 2 (⟨x_209,x_210,x_211⟩:o8)).bind fun r_234 =>
  if r_234.1 then
  (a3z [[112],[113]] r_234.2).bind fun r_237 =>
  some (r_237.2.Code,r_237.2.At,r_237.2.Seed,[],[r_237.1])
  else
  (a1g 2 r_234.2).bind fun r_239 =>
  if r_239.1 then
  (a2r 4 r_239.2).bind fun r_242 =>
  some (r_242.2.Code,r_242.2.At,r_242.2.Seed,r_242.1,[])
  else
  some (r_239.2.Code,r_239.2.At,r_239.2.Seed,[],[])
  else
  some (x_209,x_210,x_211,x_212,[]):Option ((List Int) × Int × Int × (List o7) × (List Str)))).bind fun p232 =>
  (match p232 with
  | (x_227,x_228,x_229,x_230,x_231) =>
  if (out ++ [(⟨c.Name,x_230,x_231⟩:a2c)]).length ≤ 2 ^ 30 then
  a2i xs (i + 1) x_227 x_228 x_229 (out ++ [(⟨c.Name,x_230,x_231⟩:a2c)])
  else none))) = some (s''.Code,s''.At,s''.Seed,l) ∧ l.all setB = true ∧ l.length ≤ out.length + (xs.length + 1) ∧ out.length ≤ l.length ∧ (i = 0 → c :: xs ≠ [] → out.length < l.length) ∧ Nx s s'' (20 * ((xs.length + 1:Nat):Int)):=by
   obtain ⟨a,s2,e2,a1,_,n2⟩:=c4q c.Kind s1 hk1 n1.ok (by omega)
   have h2:=n2.hi
   rw [e2,Option.bind_some,Option.bind_some]
   simp only
   by_cases k4:c.Kind = 4
   ·rw [if_pos (by simpa using k4)]
    obtain ⟨b3,s3,e3,n3⟩:=a8p 2 s2 n2.ok (by omega) (by omega) (by omega)
    have h3:=n3.hi
    rw [a6b,e3,Option.bind_some]
    cases b3 with
    | true =>
     obtain ⟨t,s4,e4,ht,n4⟩:=b9q [[112],[113]] s3 n3.ok (by omega) (by simp) (by simp)
     have h4:=n4.hi
     have hn:b5g t = true:=List.all_eq_true.1 (show ([[112],[113]]:List Str).all b5g = true by decide) t ht
     rw [if_pos rfl,e4,Option.bind_some,Option.bind_some]
     simp only
     rw [if_pos (by simp <;> omega)]
     exact skip s4 ((((n1.trans n2).trans n3).trans n4).mono (by omega)) _ (b3p hv (by unfold setB; simp [hk2,d6j,hn])) (by simp) (by simp) (by simp)
    | false =>
     obtain ⟨b5,s5,e5,n5⟩:=a8p 2 s3 n3.ok (by omega) (by omega) (by omega)
     have h5:=n5.hi
     rw [if_neg (by simp),e5,Option.bind_some]
     cases b5 with
     | true =>
      obtain ⟨d,s6,e6,hs6,hd,n6⟩:=d3a 4 s5 (by omega) n5.ok (by omega)
      have h6:=n6.hi
      have hdb:=b7a hs6 (by omega)
      rw [if_pos rfl,e6,Option.bind_some,Option.bind_some]
      simp only
      rw [if_pos (by simp <;> omega)]
      exact skip s6 (((((n1.trans n2).trans n3).trans n5).trans n6).mono (by omega)) _ (b3p hv (by unfold setB; simp [hk2,hdb])) (by simp) (by simp) (by simp)
     | false =>
      rw [if_neg (by simp),Option.bind_some]
      simp only
      rw [if_pos (by simp <;> omega)]
      exact skip s5 ((((n1.trans n2).trans n3).trans n5).mono (by omega)) _ (b3p hv (by unfold setB; simp [hk2,d6j])) (by simp) (by simp) (by simp)
   ·rw [if_neg (by simpa using k4),Option.bind_some]
    simp only
    rw [if_pos (by simp <;> omega)]
    exact skip s2 ((n1.trans n2).mono (by omega)) _ (b3p hv (by unfold setB; simp [hk2,b9a a1])) (by simp) (by simp) (by simp)
  cases b1 with
  | true =>
   rw [if_neg (by simp),Option.bind_some]
   simp only
   rw [if_neg (by simp)]
   exact go
  | false =>
   rw [if_pos (by simp),Option.bind_some]
   simp only
   by_cases h0:(i:Int) > 0
   ·rw [if_pos (by simpa using h0)]
    exact skip s1 (n1.mono (by omega)) out hv (by omega) (by omega) (by omega)
   ·rw [if_neg (by simpa using h0)]
    exact go
theorem c3j (v:Int) (hv:0 ≤ v ∧ v < 3) (s:o8) (ho:a9z s) (ha:s.At + 60 < 2 ^ 48):∃ l s',a1z v s = some (l,s') ∧ l.all setB = true ∧ 1 ≤ l.length ∧ l.length ≤ 3 ∧ Nx s s' 60:=by
 obtain ⟨t,_,e3,ht⟩:=b6h v hv
 have hlen:=c8s ht
 have hlen1:=d3c ht
 obtain ⟨s',l,q1,q2,q3,q4,q5,q6⟩:=c9e t.Columns 0 s [] (d3b ht) rfl (by simp; omega) ho (by omega)
 have e3':b1d.Tables[0 + v.toNat]? = some t:=by simpa using e3
 have hlp:(b1d.Tables.length:Int) = 3:=rfl
 have hne:t.Columns ≠ []:=by intro h; rw [h] at hlen1; simp at hlen1
 have q5:=q5 rfl hne
 simp only [List.length_nil] at q3 q5
 unfold a1z
 rw [b5h,Option.bind_some,if_pos (by rw [hlp]; exact hv),e3',Option.bind_some,q1,Option.bind_some]
 exact ⟨l,s',rfl,q2,by omega,by omega,q6.mono (by omega)⟩
theorem e8l (v:Int) (hv:0 ≤ v ∧ v < 3) (s:o8) (ho:a9z s) (ha:s.At + 40 < 2 ^ 48):∃ c s',a5x v s = some (c,s') ∧ b5u c = true ∧ Nx s s' 30:=by
 obtain ⟨t,e3,_,ht⟩:=b6h v hv
 have hlen:=c8s ht
 have hlen1:=d3c ht
 unfold a5x
 simp only [b3a,b3j]
 rw [b5h,Option.bind_some,e3,Option.bind_some]
 obtain ⟨b1,s1,e1,n1⟩:=a8p 8 s ho (by omega) (by omega) (by omega)
 have h1:=n1.hi
 rw [e1,Option.bind_some]
 cases b1 with
 | true =>
  obtain ⟨q,s2,e2,q1,q2,n2⟩:=a6q 4 s1 n1.ok (by omega) (by omega) (by omega)
  have h2:=n2.hi
  obtain ⟨a,s3,e4,a1,_,n3⟩:=c4q 4 s2 (by omega) n2.ok (by omega)
  obtain ⟨f,ef,f1⟩:=e9u q ⟨q1,q2⟩
  rw [if_pos rfl,e2,Option.bind_some,if_pos ⟨q1,q2⟩,ef,Option.bind_some,e4,Option.bind_some]
  refine ⟨_,s3,rfl,?_,((n1.trans n2).trans n3).mono (by omega)⟩
  unfold b5u
  rw [decide_eq_true f1,b9a a1]
  rfl
 | false =>
  obtain ⟨q,s2,e2,q1,q2,n2⟩:=a6q t.Columns.length s1 n1.ok (by omega) (by omega) (by omega)
  have h2:=n2.hi
  obtain ⟨c,ec,_,c1,c2,c3⟩:=d3d ht q ⟨q1,q2⟩
  rw [if_neg (by simp),e2,Option.bind_some,ec,Option.bind_some,Option.bind_some]
  simp only [a6b]
  obtain ⟨p,s3,e4,p1,p2,n3⟩:=a6q 4 s2 n2.ok (by omega) (by omega) (by omega)
  have h3:=n3.hi
  obtain ⟨f,ef,f1⟩:=e9u p ⟨p1,p2⟩
  obtain ⟨d,s4,e5,d1,d2,n4⟩:=d3a c.Kind s3 ⟨c1,c2⟩ n3.ok (by omega)
  have h4:=n4.hi
  rw [e4,Option.bind_some,if_pos ⟨p1,p2⟩,ef,Option.bind_some,e5,Option.bind_some,Option.bind_some]
  simp only [a6b]
  -- the function
  have hfun:∃ s5 g,((((if (c.Kind == 1) then
  (a1g 2 s4).bind fun r_87 =>
  some (r_87.1,r_87.2.Code,r_87.2.At,r_87.2.Seed)
  else
  some (false,s4.Code,s4.At,s4.Seed):Option (Bool × (List Int) × Int × Int))).bind fun p85 =>
  (match p85 with
  | (s51_81,x_82,x_83,x_84) =>
  if s51_81 then
  (a1e 4 (⟨x_82,x_83,x_84⟩:o8)).bind fun r_90 =>
  some (r_90.2.Code,r_90.2.At,r_90.2.Seed,w64 (3 + r_90.1))
  else
  some (x_82,x_83,x_84,f)):Option ((List Int) × Int × Int × Int))) = some (s5.Code,s5.At,s5.Seed,g) ∧ 1 ≤ g ∧ g ≤ 8 ∧ Nx s4 s5 2:=by
   by_cases k:c.Kind = 1
   ·rw [if_pos (by simpa using k)]
    obtain ⟨b5,s5,e6,n5⟩:=a8p 2 s4 n4.ok (by omega) (by omega) (by omega)
    have h5:=n5.hi
    rw [e6,Option.bind_some,Option.bind_some]
    simp only [a6b]
    cases b5 with
    | true =>
     obtain ⟨y,s6,e7,y1,y2,n6⟩:=a6q 4 s5 n5.ok (by omega) (by omega) (by omega)
     rw [if_pos rfl,e7,Option.bind_some,a1d (n:=3 + y) (by omega)]
     exact ⟨s6,3 + y,rfl,by omega,by omega,(n5.trans n6).mono (by omega)⟩
    | false =>
     rw [if_neg (by simp)]
     exact ⟨s5,f,rfl,f1.1,f1.2,n5.mono (by omega)⟩
   ·rw [if_neg (by simpa using k),Option.bind_some]
    simp only
    rw [if_neg (by simp)]
    exact ⟨s4,f,rfl,f1.1,f1.2,(Nx.refl n4.ok).mono (by omega)⟩
  obtain ⟨s5,g,e6,g1,g2,n5⟩:=hfun
  have h5:=n5.hi
  rw [e6,Option.bind_some]
  simp only [a6b]
  obtain ⟨b6,s6,e7,n6⟩:=a8p 2 s5 n5.ok (by omega) (by omega) (by omega)
  have h6:=n6.hi
  have hval:∃ s7 d',((a1g 2 s5).bind fun r_102 =>
  if r_102.1 then
  (a1a c.Kind r_102.2).bind fun r_105 =>
  some (r_105.2.Code,r_105.2.At,r_105.2.Seed,[r_105.1])
  else
  some (r_102.2.Code,r_102.2.At,r_102.2.Seed,d):Option ((List Int) × Int × Int × (List o7))) = some (s7.Code,s7.At,s7.Seed,d') ∧ b2j d' = true ∧ Nx s5 s7 2:=by
   rw [e7,Option.bind_some]
   cases b6 with
   | true =>
    obtain ⟨a,s7,e8,a1,_,n7⟩:=c4q c.Kind s6 ⟨c1,c2⟩ n6.ok (by omega)
    rw [if_pos rfl,e8,Option.bind_some]
    exact ⟨s7,[a],rfl,b9a a1,(n6.trans n7).mono (by omega)⟩
   | false =>
    rw [if_neg (by simp)]
    exact ⟨s6,d,rfl,b7a d1 (by omega),n6.mono (by omega)⟩
  obtain ⟨s7,d',e8,hd',n7⟩:=hval
  have h7:=n7.hi
  rw [e8,Option.bind_some]
  simp only [a6b]
  rw [c9x,Option.bind_some]
  have nn:=((((n1.trans n2).trans n3).trans n4).trans n5).trans n7
  have last:∀ b:Bool,∃ c' s',(if b = true then (a1a c.Kind s7).bind fun r_118 => some ((⟨c.Name,g,[r_118.1]⟩:a3k),r_118.2) else some ((⟨c.Name,g,d'⟩:a3k),s7)) = some (c',s') ∧ b5u c' = true ∧ Nx s s' 30:=by
   intro b
   cases b with
   | true =>
    obtain ⟨a,s8,e9,a1,_,n8⟩:=c4q c.Kind s7 ⟨c1,c2⟩ n7.ok (by omega)
    rw [if_pos rfl,e9,Option.bind_some]
    refine ⟨_,s8,rfl,?_,(nn.trans n8).mono (by omega)⟩
    unfold b5u
    rw [decide_eq_true ⟨g1,g2⟩,b9a a1,c3]
    rfl
   | false =>
    rw [if_neg (by simp)]
    refine ⟨_,s7,rfl,?_,nn.mono (by omega)⟩
    unfold b5u
    rw [decide_eq_true ⟨g1,g2⟩,hd',c3]
    rfl
  by_cases hr:3 ≤ g ∧ g ≤ 6
  ·rw [decide_eq_true hr,if_pos rfl,Option.bind_some]
   exact last _
  ·rw [decide_eq_false hr,if_neg (by simp),Option.bind_some]
   exact last _
theorem c5k (v:Int) (hv:0 ≤ v ∧ v < 3):∀ (i k:Nat) (s:o8) (out:List a3k),i < k → out.all b5u = true → out.length + i ≤ 100 → a9z s → s.At + 30 * i + 60 < 2 ^ 48 →
  ∃ s' l,a4c v k (i:Int) s.Code s.At s.Seed out = some (s'.Code,s'.At,s'.Seed,l) ∧ l.all b5u = true ∧ l.length ≤ out.length + i ∧ Nx s s' (30 * i)
 | _,0,_,_,h,_,_,_,_ => by omega
 | 0,k + 1,s,out,h,hv,_,ho,_ => ⟨s,out,by rw [a4c,if_neg (by simp)],hv,by omega,(Nx.refl ho).mono (by simp)⟩
 | i + 1,k + 1,s,out,h,ha,hl,ho,hb => by
  rw [a4c,if_pos (by simp),a6b]
  obtain ⟨c,s1,e1,c1,n1⟩:=e8l v hv s ho (by omega)
  have h1:=n1.hi
  have ew:w64 (((i + 1:Nat):Int) - 1) = (i:Int):=by rw [a1d (by omega)]; omega
  rw [e1,Option.bind_some,if_pos (by simp; omega),ew]
  obtain ⟨s2,l,e2,l1,l2,n2⟩:=c5k v hv i k s1 (out ++ [c]) (by omega) (b3p ha c1) (by simp; omega) n1.ok (by omega)
  simp only [List.length_append,List.length_cons,List.length_nil] at l2
  exact ⟨s2,l,e2,l1,by omega,(n1.trans n2).mono (by omega)⟩
theorem e5w:2 ^ 40 < FUEL:=by unfold FUEL; decide
theorem e5x (v:Int) (hv:0 ≤ v ∧ v < 3) (s:o8) (ho:a9z s) (ha:s.At + 200 < 2 ^ 48):∃ l s',a4d v s = some (l,s') ∧ l.all b5u = true ∧ l.length ≤ 2 ∧ Nx s s' 61:=by
 have hf:=e5w
 unfold a4d
 rw [b3a]
 obtain ⟨q,s1,e1,q1,q2,n1⟩:=a6q 3 s ho (by omega) (by omega) (by omega)
 obtain ⟨i,rfl⟩:∃ i:Nat,q = (i:Int):=⟨q.toNat,by omega⟩
 have h1:=n1.hi
 obtain ⟨s2,l,e2,l1,l2,n2⟩:=c5k v hv i FUEL s1 [] (by omega) rfl (by simp; omega) n1.ok (by omega)
 rw [e1,Option.bind_some,e2,Option.bind_some]
 simp only [List.length_nil] at l2
 exact ⟨l,s2,rfl,l1,by omega,(n1.trans n2).mono (by omega)⟩
theorem f1m (v:Int) (hv:0 ≤ v ∧ v < 3) (s:o8) (ho:a9z s) (ha:s.At + 60 < 2 ^ 48):∃ c s',a6m v s = some (c,s') ∧ c1g c = true ∧ Nx s s' 30:=by
 obtain ⟨t,e3,_,ht⟩:=b6h v hv
 have hlen:=c8s ht
 have hlen1:=d3c ht
 unfold a6m
 simp only [b3a,b3j]
 rw [b5h,Option.bind_some,e3,Option.bind_some]
 obtain ⟨q,s2,e2,q1,q2,n2⟩:=a6q t.Columns.length s ho (by omega) (by omega) (by omega)
 have h2:=n2.hi
 obtain ⟨c0,ec0,_,c01,c02,c03⟩:=d3d ht q ⟨q1,q2⟩
 rw [e2,Option.bind_some,ec0,Option.bind_some,Option.bind_some]
 simp only [a6b]
 obtain ⟨b1,s3,e4,n3⟩:=a8p 2 s2 n2.ok (by omega) (by omega) (by omega)
 have h3:=n3.hi
 have hcol:∃ (s4:o8) (c:a0d),((a1g 2 s2).bind fun r_49 =>
  if r_49.1 then
  (a1e 2 r_49.2).bind fun r_53 =>
  (idx t.Columns (w64 ((w64 ((t.Columns.length:Int) - 1)) - r_53.1))).bind fun x_55 =>
  some (r_53.2.Code,r_53.2.At,r_53.2.Seed,x_55.Name,x_55.Kind,x_55.Min,x_55.Max,x_55.Low,x_55.High,x_55.Ref,x_55.Strong)
  else
  some (r_49.2.Code,r_49.2.At,r_49.2.Seed,c0.Name,c0.Kind,c0.Min,c0.Max,c0.Low,c0.High,c0.Ref,c0.Strong):Option ((List Int) × Int × Int × Str × Int × Int × Int × Int × Int × Str × Bool)) = some (s4.Code,s4.At,s4.Seed,c.Name,c.Kind,c.Min,c.Max,c.Low,c.High,c.Ref,c.Strong) ∧ (1 ≤ c.Kind ∧ c.Kind ≤ 4) ∧ a6a c.Name = true ∧ Nx s2 s4 2:=by
  rw [e4,Option.bind_some]
  cases b1 with
  | true =>
   obtain ⟨y,s4,e5,y1,y2,n4⟩:=a6q 2 s3 n3.ok (by omega) (by omega) (by omega)
   have ew:w64 (w64 ((t.Columns.length:Int) - 1) - y) = (t.Columns.length:Int) - 1 - y:=by rw [a1d (n:=(t.Columns.length:Int) - 1) (by omega),a1d (by omega)]
   obtain ⟨c,ec,_,c1,c2,c3⟩:=d3d ht ((t.Columns.length:Int) - 1 - y) (by omega)
   rw [if_pos rfl,e5,Option.bind_some,ew,ec,Option.bind_some]
   exact ⟨s4,c,rfl,⟨c1,c2⟩,c3,(n3.trans n4).mono (by omega)⟩
  | false =>
   rw [if_neg (by simp)]
   exact ⟨s3,c0,rfl,⟨c01,c02⟩,c03,n3.mono (by omega)⟩
 obtain ⟨s4,c,e5,c1,c3,n4⟩:=hcol
 have h4:=n4.hi
 rw [e5,Option.bind_some]
 simp only [a6b]
 obtain ⟨y,s5,e6,y1,y2,n5⟩:=a6q 2 s4 n4.ok (by omega) (by omega) (by omega)
 have h5:=n5.hi
 obtain ⟨d,s6,e7,d1,d2,n6⟩:=d3a c.Kind s5 c1 n5.ok (by omega)
 have h6:=n6.hi
 rw [e6,Option.bind_some,e7,Option.bind_some,Option.bind_some]
 simp only [a6b]
 have ey:w64 (6 + y) = 6 + y:=a1d (by omega)
 rw [ey]
 have nn:=((n2.trans n4).trans n5).trans n6
 have last:∀ (b:Bool) (s7:o8),Nx s6 s7 1 → ∃ c' s',(if b = true then (a1e 5 s7).bind fun r_83 => (a1e 9 r_83.2).bind fun r_85 => some ((⟨c.Name,w64 (1 + r_83.1),[(⟨1,w64 (r_85.1 - 3),[]⟩:o7)]⟩:b0b),r_85.2) else some ((⟨c.Name,6 + y,d⟩:b0b),s7)) = some (c',s') ∧ c1g c' = true ∧ Nx s s' 30:=by
  intro b s7 n7
  have h7:=n7.hi
  cases b with
  | true =>
   obtain ⟨u,s8,e8,u1,u2,n8⟩:=a6q 5 s7 n7.ok (by omega) (by omega) (by omega)
   have h8:=n8.hi
   obtain ⟨z,s9,e9,z1,z2,n9⟩:=a6q 9 s8 n8.ok (by omega) (by omega) (by omega)
   rw [if_pos rfl,e8,Option.bind_some,e9,Option.bind_some,a1d (n:=1 + u) (by omega),a1d (n:=z - 3) (by omega)]
   refine ⟨_,s9,rfl,?_,(((nn.trans n7).trans n8).trans n9).mono (by omega)⟩
   unfold c1g
   have hat:b1o (⟨1,z - 3,[]⟩:o7) = true:=by
    have:-1000000000 ≤ z - 3 ∧ z - 3 ≤ 1000000000:=by omega
    simp [b1o,this]
   rw [decide_eq_true (show 1 ≤ 1 + u ∧ 1 + u ≤ 7 by omega),b9a hat,c3]
   rfl
  | false =>
   rw [if_neg (by simp)]
   refine ⟨_,s7,rfl,?_,(nn.trans n7).mono (by omega)⟩
   unfold c1g
   rw [decide_eq_true (show 1 ≤ 6 + y ∧ 6 + y ≤ 7 by omega),b7a d1 (by omega),c3]
   rfl
 by_cases k:c.Kind = 1
 ·rw [if_pos (by simpa using k)]
  obtain ⟨b6,s7,e8,n7⟩:=a8p 4 s6 n6.ok (by omega) (by omega) (by omega)
  rw [e8,Option.bind_some,Option.bind_some]
  simp only [a6b]
  exact last _ s7 n7
 ·rw [if_neg (by simpa using k),Option.bind_some]
  simp only [a6b]
  exact last false s6 ((Nx.refl n6.ok).mono (by omega))
theorem c9f (r:Int × o8) (hv:0 ≤ r.1 ∧ r.1 < 3):∀ (i k:Nat) (s:o8) (out:List b0b),i < k → out.all c1g = true → out.length + i ≤ 100 → a9z s → s.At + 30 * i + 60 < 2 ^ 48 →
  ∃ s' l,a5f r k (i:Int) s.Code s.At s.Seed out = some (s'.Code,s'.At,s'.Seed,l) ∧ l.all c1g = true ∧ l.length ≤ out.length + i ∧ Nx s s' (30 * i)
 | _,0,_,_,h,_,_,_,_ => by omega
 | 0,k + 1,s,out,h,hv,_,ho,_ => ⟨s,out,by rw [a5f,if_neg (by simp)],hv,by omega,(Nx.refl ho).mono (by simp)⟩
 | i + 1,k + 1,s,out,h,ha,hl,ho,hb => by
  rw [a5f,if_pos (by simp),a6b]
  obtain ⟨c,s1,e1,c1,n1⟩:=f1m r.1 hv s ho (by omega)
  have h1:=n1.hi
  have ew:w64 (((i + 1:Nat):Int) - 1) = (i:Int):=by rw [a1d (by omega)]; omega
  rw [e1,Option.bind_some,if_pos (by simp; omega),ew]
  obtain ⟨s2,l,e2,l1,l2,n2⟩:=c9f r hv i k s1 (out ++ [c]) (by omega) (b3p ha c1) (by simp; omega) n1.ok (by omega)
  simp only [List.length_append,List.length_cons,List.length_nil] at l2
  exact ⟨s2,l,e2,l1,by omega,(n1.trans n2).mono (by omega)⟩
theorem c1l:∀ (xs:List a0d) (s:o8) (out:List Str),xs.all e2j = true → out.all a6a = true → out.length + xs.length ≤ 1000 → a9z s → s.At + xs.length < 2 ^ 49 →
  ∃ s' l,a2j xs s.Code s.At s.Seed out = some (s'.Code,s'.At,s'.Seed,l) ∧ l.all a6a = true ∧ l.length ≤ out.length + xs.length ∧ Nx s s' xs.length
 | [],s,out,_,hv,_,ho,_ => ⟨s,out,by rw [a2j],hv,by simp,(Nx.refl ho).mono (by simp)⟩
 | c :: xs,s,out,hk,hv,hl,ho,ha => by
  simp only [List.length_cons] at hl ha
  simp only [List.all_cons,Bool.and_eq_true] at hk
  obtain ⟨hkc,hks⟩:=hk
  simp only [e2j,Bool.and_eq_true,decide_eq_true_eq] at hkc
  rw [a2j,a6b,b3j]
  obtain ⟨b1,s1,e1,n1⟩:=a8p 2 s ho (by omega) (by omega) (by omega)
  have h1:=n1.hi
  rw [e1,Option.bind_some]
  cases b1 with
  | true =>
   obtain ⟨s2,l,e2,l1,l2,n2⟩:=c1l xs s1 (out ++ [c.Name]) hks (b3p hv hkc.2) (by simp; omega) n1.ok (by omega)
   simp only [List.length_append,List.length_cons,List.length_nil] at l2
   rw [if_pos rfl,if_pos (by simp; omega)]
   exact ⟨s2,l,e2,l1,by simp only [List.length_cons]; omega,(n1.trans n2).mono (by simp only [List.length_cons]; omega)⟩
  | false =>
   obtain ⟨s2,l,e2,l1,l2,n2⟩:=c1l xs s1 out hks hv (by omega) n1.ok (by omega)
   rw [if_neg (by simp)]
   exact ⟨s2,l,e2,l1,by simp only [List.length_cons]; omega,(n1.trans n2).mono (by simp only [List.length_cons]; omega)⟩
theorem e8m (v:Int) (hv:0 ≤ v ∧ v < 3) (s:o8) (ho:a9z s) (ha:s.At + 60 < 2 ^ 48):∃ l s',a3u v s = some (l,s') ∧ l.all a6a = true ∧ l.length ≤ 4 ∧ Nx s s' 4:=by
 obtain ⟨t,_,e3,ht⟩:=b6h v hv
 have hlen:=c8s ht
 obtain ⟨s1,l,q1,q2,q3,n1⟩:=c1l t.Columns s [] (d3b ht) rfl (by simp; omega) ho (by omega)
 have e3':b1d.Tables[0 + v.toNat]? = some t:=by simpa using e3
 have hlp:(b1d.Tables.length:Int) = 3:=rfl
 simp only [List.length_nil] at q3
 have h1:=n1.hi
 unfold a3u
 simp only [b3j]
 rw [b5h,Option.bind_some,if_pos (by rw [hlp]; exact hv),e3',Option.bind_some,q1,Option.bind_some]
 simp only [a6b]
 obtain ⟨b1,s2,e1,n2⟩:=a8p 3 s1 n1.ok (by omega) (by omega) (by omega)
 rw [e1,Option.bind_some]
 cases b1 with
 | true =>
  rw [if_pos rfl,if_pos (by simp; omega)]
  exact ⟨_,s2,rfl,b3p q2 (by decide),by simp; omega,(n1.trans n2).mono (by omega)⟩
 | false =>
  rw [if_neg (by simp)]
  exact ⟨_,s2,rfl,q2,by omega,(n1.trans n2).mono (by omega)⟩
theorem b6a {o:GOp} (h1:c1h o = true) (h2:a6a o.Table = true) (h3:a6a o.Name = true) (h4:o.Columns.length ≤ 6) (h5:o.Columns.all a6a = true) (h6:o.Where.all b5u = true) (h7:o.Where.length ≤ 8) (h8:o.Muts.all c1g = true) (h9:o.Muts.length ≤ 8) (h10:o.Row.all setB = true) (h11:o.Row.length ≤ 6):opB o = true:=by
 unfold opB
 rw [h1,h2,h3,decide_eq_true (show (o.Columns.length:Int) ≤ 6 by omega),h5,h6,decide_eq_true (show (o.Where.length:Int) ≤ 8 by omega),h8,decide_eq_true (show (o.Muts.length:Int) ≤ 8 by omega),h10,decide_eq_true (show (o.Row.length:Int) ≤ 6 by omega)]
 rfl
theorem f4c (q x:Int) (h:0 ≤ q ∧ q < 7) (hx:1 ≤ x ∧ x ≤ 10):∃ f,[(1:Int),(1:Int),(3:Int),(4:Int),(2:Int),(5:Int),x][(0 + q.toNat)]? = some f ∧ 1 ≤ f ∧ f ≤ 10:=by
 have:q = 0 ∨ q = 1 ∨ q = 2 ∨ q = 3 ∨ q = 4 ∨ q = 5 ∨ q = 6:=by omega
 rcases this with rfl | rfl | rfl | rfl | rfl | rfl | rfl
 ·exact ⟨1,rfl,by omega⟩
 ·exact ⟨1,rfl,by omega⟩
 ·exact ⟨3,rfl,by omega⟩
 ·exact ⟨4,rfl,by omega⟩
 ·exact ⟨2,rfl,by omega⟩
 ·exact ⟨5,rfl,by omega⟩
 ·exact ⟨x,rfl,hx⟩
theorem f8l (q:Int) (h:0 ≤ q ∧ q < 3):∃ f:Str,[[110,111,116,101],[112,111,114,116],[115,119,105,116,99,104]][(0 + q.toNat)]? = some f ∧ a6a f = true:=by
 have:q = 0 ∨ q = 1 ∨ q = 2:=by omega
 rcases this with rfl | rfl | rfl
 ·exact ⟨_,rfl,by decide⟩
 ·exact ⟨_,rfl,by decide⟩
 ·exact ⟨_,rfl,by decide⟩
set_option maxHeartbeats 4000000 in
theorem f4d (s:o8) (ho:a9z s) (ha:s.At + 400 < 2 ^ 47):∃ o s',a7l s = some (o,s') ∧ opB o = true ∧ Nx s s' 200:=by
 have hf:=e5w
 unfold a7l
 simp only [b3a,b3j,c6h]
 obtain ⟨t,s1,e1,t1,t2,n1⟩:=a6q 3 s ho (by omega) (by omega) (by omega)
 have h1:=n1.hi
 obtain ⟨u,s2,e2,u1,u2,n2⟩:=a6q 10 s1 n1.ok (by omega) (by omega) (by omega)
 have h2:=n2.hi
 obtain ⟨q,s3,e3,q1,q2,n3⟩:=a6q 7 s2 n2.ok (by omega) (by omega) (by omega)
 have h3:=n3.hi
 rw [e1,Option.bind_some,e2,Option.bind_some,e3,Option.bind_some,a1d (n:=1 + u) (by omega)]
 simp only
 rw [if_pos ⟨q1,q2⟩]
 obtain ⟨k,ek,k1,k2⟩:=f4c q (1 + u) ⟨q1,q2⟩ (by omega)
 rw [ek,Option.bind_some,c9x,Option.bind_some]
 obtain ⟨tn,et,tn1⟩:=f8l t ⟨t1,t2⟩
 have htab:∃ x:Str,((if decide (1 ≤ k ∧ k ≤ 6) = true then
  if (0:Int) ≤ t ∧ t < (3:Int) then
  ([[110,111,116,101],[112,111,114,116],[115,119,105,116,99,104]][(0 + t.toNat)]?).bind fun x_23 =>
  some x_23
  else none
  else
  some []:Option Str)) = some x ∧ a6a x = true ∧ (¬ (1 ≤ k ∧ k ≤ 6) → x = []):=by
  by_cases h:1 ≤ k ∧ k ≤ 6
  ·rw [if_pos (decide_eq_true h),if_pos ⟨t1,t2⟩,et,Option.bind_some]
   exact ⟨tn,rfl,tn1,fun hh => absurd h hh⟩
  ·rw [if_neg (by simpa using h)]
   exact ⟨[],rfl,rfl,fun _ => rfl⟩
 obtain ⟨tb,etb,tb1,tb2⟩:=htab
 rw [etb,Option.bind_some,c9x,Option.bind_some]
 have hwh:∃ (s4:o8) (w:List a3k),((if decide (2 ≤ k ∧ k ≤ 6) = true then
  (a4d t s3).bind fun r_38 =>
  some (r_38.2.Code,r_38.2.At,r_38.2.Seed,r_38.1)
  else
  some (s3.Code,s3.At,s3.Seed,[]):Option ((List Int) × Int × Int × (List a3k)))) = some (s4.Code,s4.At,s4.Seed,w) ∧ w.all b5u = true ∧ w.length ≤ 2 ∧ (¬ (2 ≤ k ∧ k ≤ 6) → w = []) ∧ Nx s3 s4 61:=by
  by_cases h:2 ≤ k ∧ k ≤ 6
  ·obtain ⟨l,s4,e4,l1,l2,n4⟩:=e5x t ⟨t1,t2⟩ s3 n3.ok (by omega)
   rw [if_pos (decide_eq_true h),e4,Option.bind_some]
   exact ⟨s4,l,rfl,l1,l2,fun hh => absurd h hh,n4⟩
  ·rw [if_neg (by simpa using h)]
   exact ⟨s3,[],rfl,rfl,by simp,fun _ => rfl,(Nx.refl n3.ok).mono (by omega)⟩
 obtain ⟨s4,w,e4,w1,w2,w3,n4⟩:=hwh
 have h4:=n4.hi
 rw [e4,Option.bind_some]
 simp only [a6b]
 have nn:=((n1.trans n2).trans n3).trans n4
 by_cases c1:k = 1
 ·subst c1
  obtain ⟨l,s5,e5,l1,_,l2,n5⟩:=c3j t ⟨t1,t2⟩ s4 n4.ok (by omega)
  have h5:=n5.hi
  obtain ⟨nm,s6,e6,hnm,n6⟩:=b9q [[],[112],[113]] s5 n5.ok (by omega) (by simp) (by simp)
  have hs:a6a nm = true:=List.all_eq_true.1 (show ([[],[112],[113]]:List Str).all a6a = true by decide) nm hnm
  rw [if_pos (by simp),e5,Option.bind_some,e6,Option.bind_some]
  refine ⟨_,s6,rfl,b6a ?_ tb1 hs (by simp) rfl w1 (by simp only; omega) rfl (by simp) l1 (by simp only; omega),((nn.trans n5).trans n6).mono (by omega)⟩
  have hw:=w3 (by omega)
  subst hw
  simp [c1h]
 rw [if_neg (by simpa using c1)]
 by_cases c3:k = 3
 ·subst c3
  obtain ⟨l,s5,e5,l1,_,l2,n5⟩:=c3j t ⟨t1,t2⟩ s4 n4.ok (by omega)
  rw [if_pos (by simp),Option.bind_some,if_pos rfl,e5,Option.bind_some,if_neg (by simp)]
  refine ⟨_,s5,rfl,b6a (by simp [c1h]) tb1 rfl (by simp) rfl w1 (by simp only; omega) rfl (by simp) l1 (by simp only; omega),(nn.trans n5).mono (by omega)⟩
 rw [if_neg (by simpa using c3),Option.bind_some]
 by_cases c6:k = 6
 ·subst c6
  obtain ⟨l,s5,e5,l1,_,l2,n5⟩:=c3j t ⟨t1,t2⟩ s4 n4.ok (by omega)
  have h5:=n5.hi
  obtain ⟨b,s6,e6,n6⟩:=a8p 2 s5 n5.ok (by omega) (by omega) (by omega)
  rw [if_pos (by simp),e5,Option.bind_some,if_pos (by simp),e6,Option.bind_some]
  refine ⟨_,s6,rfl,b6a (by simp [c1h]) tb1 rfl (by simp) rfl w1 (by simp only; omega) rfl (by simp) l1 (by simp only; omega),((nn.trans n5).trans n6).mono (by omega)⟩
 rw [if_neg (by simpa using c6)]
 by_cases c4:k = 4
 ·subst c4
  obtain ⟨y,s5,e5,y1,y2,n5⟩:=a6q 2 s4 n4.ok (by omega) (by omega) (by omega)
  have h5:=n5.hi
  obtain ⟨i,rfl⟩:∃ i:Nat,y = (i:Int):=⟨y.toNat,by omega⟩
  have ei:w64 (1 + (i:Int)) = ((i + 1:Nat):Int):=by rw [a1d (by omega)]; omega
  obtain ⟨s6,l,e6,l1,l2,n6⟩:=c9f (t,s1) ⟨t1,t2⟩ (i + 1) FUEL s5 [] (by omega) rfl (by simp; omega) n5.ok (by omega)
  simp only [List.length_nil] at l2
  rw [if_pos (by simp),e5,Option.bind_some,ei,e6,Option.bind_some]
  refine ⟨_,s6,rfl,b6a (by simp [c1h]) tb1 rfl (by simp) rfl w1 (by simp only; omega) l1 (by simp only; omega) rfl (by simp),((nn.trans n5).trans n6).mono (by omega)⟩
 rw [if_neg (by simpa using c4)]
 by_cases c2:k = 2
 ·subst c2
  obtain ⟨l,s5,e5,l1,l2,n5⟩:=e8m t ⟨t1,t2⟩ s4 n4.ok (by omega)
  rw [if_pos (by simp),e5,Option.bind_some]
  refine ⟨_,s5,rfl,b6a (by simp [c1h]) tb1 rfl (by simp only; omega) l1 w1 (by simp only; omega) rfl (by simp) rfl (by simp),(nn.trans n5).mono (by omega)⟩
 rw [if_neg (by simpa using c2)]
 by_cases c9:k = 9
 ·subst c9
  have ht:=tb2 (by omega)
  have hw:=w3 (by omega)
  subst ht hw
  rw [if_pos (by simp)]
  exact ⟨_,s4,rfl,b6a (by simp [c1h]) rfl (by decide) (by simp) rfl rfl (by simp) rfl (by simp) rfl (by simp),nn.mono (by omega)⟩
 rw [if_neg (by simpa using c9)]
 by_cases c10:k = 10
 ·subst c10
  have ht:=tb2 (by omega)
  have hw:=w3 (by omega)
  subst ht hw
  obtain ⟨nm,s6,e6,hnm,n6⟩:=b9q [[108,111,99,107],[111,116,104,101,114]] s4 n4.ok (by omega) (by simp) (by simp)
  have hs:a6a nm = true:=List.all_eq_true.1 (show ([[108,111,99,107],[111,116,104,101,114]]:List Str).all a6a = true by decide) nm hnm
  rw [if_pos (by simp),e6,Option.bind_some]
  exact ⟨_,s6,rfl,b6a (by simp [c1h]) rfl hs (by simp) rfl rfl (by simp) rfl (by simp) rfl (by simp),(nn.trans n6).mono (by omega)⟩
 rw [if_neg (by simpa using c10)]
 refine ⟨_,s4,rfl,b6a ?_ tb1 rfl (by simp) rfl w1 (by simp only; omega) rfl (by simp) rfl (by simp),nn.mono (by omega)⟩
 have hk:k = 5 ∨ k = 7 ∨ k = 8:=by omega
 rcases hk with rfl | rfl | rfl
 ·simp [c1h]
 ·have ht:=tb2 (by omega)
  have hw:=w3 (by omega)
  subst ht hw
  simp [c1h]
 ·have ht:=tb2 (by omega)
  have hw:=w3 (by omega)
  subst ht hw
  simp [c1h]
theorem d1j:∀ (i k:Nat) (s:o8) (out:List GOp),i < k → out.all opB = true → out.length + i ≤ 100 → a9z s → s.At + 200 * i + 500 < 2 ^ 46 →
  ∃ s' l,a2k k (i:Int) s.Code s.At s.Seed out = some (s'.Code,s'.At,s'.Seed,l) ∧ l.all opB = true ∧ l.length ≤ out.length + i ∧ Nx s s' (200 * i)
 | _,0,_,_,h,_,_,_,_ => by omega
 | 0,k + 1,s,out,h,hv,_,ho,_ => ⟨s,out,by rw [a2k,if_neg (by simp)],hv,by omega,(Nx.refl ho).mono (by simp)⟩
 | i + 1,k + 1,s,out,h,ha,hl,ho,hb => by
  rw [a2k,if_pos (by simp),a6b]
  obtain ⟨c,s1,e1,c1,n1⟩:=f4d s ho (by omega)
  have h1:=n1.hi
  have ew:w64 (((i + 1:Nat):Int) - 1) = (i:Int):=by rw [a1d (by omega)]; omega
  rw [e1,Option.bind_some,if_pos (by simp; omega),ew]
  obtain ⟨s2,l,e2,l1,l2,n2⟩:=d1j i k s1 (out ++ [c]) (by omega) (b3p ha c1) (by simp; omega) n1.ok (by omega)
  simp only [List.length_append,List.length_cons,List.length_nil] at l2
  exact ⟨s2,l,e2,l1,by omega,(n1.trans n2).mono (by omega)⟩
set_option maxHeartbeats 4000000 in
theorem f1n (s:o8) (ho:a9z s) (ha:s.At + 2000 < 2 ^ 45):∃ l s',a6n s = some (l,s') ∧ l.all opB = true ∧ l.length ≤ 5 ∧ Nx s s' 800:=by
 have hf:=e5w
 unfold a6n
 simp only [b3a,b3j]
 have hfirst:∃ (s1:o8) (out:List GOp),(((a1g 2 s).bind fun r_18 =>
  if r_18.1 then
  (a1z 1 r_18.2).bind fun r_21 =>
  if ([] ++ [(⟨1,[112,111,114,116],[112],[],r_21.1,[],[],false⟩:GOp)]).length ≤ 2 ^ 30 then
  (a1z 2 r_21.2).bind fun r_24 =>
  if (0:Int) ≤ 1 ∧ 1 ≤ (r_24.1.length:Int) then
  if ((r_24.1.take 1) ++ [(⟨[112,111,114,116,115],[],[[112]]⟩:a2c)]).length ≤ 2 ^ 30 then
  if (([] ++ [(⟨1,[112,111,114,116],[112],[],r_21.1,[],[],false⟩:GOp)]) ++ [(⟨1,[115,119,105,116,99,104],[],[],(r_24.1.take 1) ++ [(⟨[112,111,114,116,115],[],[[112]]⟩:a2c)],[],[],false⟩:GOp)]).length ≤ 2 ^ 30 then
  some (r_24.2.Code,r_24.2.At,r_24.2.Seed,([] ++ [(⟨1,[112,111,114,116],[112],[],r_21.1,[],[],false⟩:GOp)]) ++ [(⟨1,[115,119,105,116,99,104],[],[],(r_24.1.take 1) ++ [(⟨[112,111,114,116,115],[],[[112]]⟩:a2c)],[],[],false⟩:GOp)])
  else none
  else none
  else none
  else none
  else
  some (r_18.2.Code,r_18.2.At,r_18.2.Seed,[]):Option ((List Int) × Int × Int × (List GOp)))) = some (s1.Code,s1.At,s1.Seed,out) ∧ out.all opB = true ∧ out.length ≤ 2 ∧ Nx s s1 121:=by
  obtain ⟨b,s1,e1,n1⟩:=a8p 2 s ho (by omega) (by omega) (by omega)
  have h1:=n1.hi
  rw [e1,Option.bind_some]
  cases b with
  | false => rw [if_neg (by simp)]; exact ⟨s1,[],rfl,rfl,by simp,n1.mono (by omega)⟩
  | true =>
   obtain ⟨l,s2,e2,l1,_,l2,n2⟩:=c3j 1 (by omega) s1 n1.ok (by omega)
   have h2:=n2.hi
   obtain ⟨m,s3,e3,m1,m2,m3,n3⟩:=c3j 2 (by omega) s2 n2.ok (by omega)
   rw [if_pos rfl,e2,Option.bind_some,if_pos (by simp),e3,Option.bind_some,if_pos ⟨by omega,by show (1:Int) ≤ (m.length:Int); omega⟩,if_pos (by simp; omega),if_pos (by simp)]
   refine ⟨s3,_,rfl,?_,by simp,((n1.trans n2).trans n3).mono (by omega)⟩
   have o1:opB (⟨1,[112,111,114,116],[112],[],l,[],[],false⟩:GOp) = true:=b6a (by simp [c1h]) (by show a6a [112,111,114,116] = true; decide) (by show a6a [112] = true; decide) (by simp) rfl rfl (by simp) rfl (by simp) l1 (by simp only; omega)
   have hm:(m.take 1 ++ [(⟨[112,111,114,116,115],[],[[112]]⟩:a2c)]).all setB = true:=b3p (List.all_eq_true.2 fun x hx => List.all_eq_true.1 m1 x (List.mem_of_mem_take hx)) (by decide)
   have o2:opB (⟨1,[115,119,105,116,99,104],[],[],m.take 1 ++ [(⟨[112,111,114,116,115],[],[[112]]⟩:a2c)],[],[],false⟩:GOp) = true:=b6a (by simp [c1h]) (by show a6a [115,119,105,116,99,104] = true; decide) rfl (by simp) rfl rfl (by simp) rfl (by simp) hm (by simp; omega)
   simp [o1,o2]
 obtain ⟨s1,out,e1,o1,o2,n1⟩:=hfirst
 have h1:=n1.hi
 rw [e1,Option.bind_some]
 simp only [a6b]
 obtain ⟨q,s2,e2,q1,q2,n2⟩:=a6q 4 s1 n1.ok (by omega) (by omega) (by omega)
 have h2:=n2.hi
 obtain ⟨i,rfl⟩:∃ i:Nat,q = (i:Int):=⟨q.toNat,by omega⟩
 obtain ⟨s3,l,e3,l1,l2,n3⟩:=d1j i FUEL s2 out (by omega) o1 (by omega) n2.ok (by omega)
 rw [e2,Option.bind_some,e3,Option.bind_some]
 exact ⟨l,s3,rfl,l1,by omega,((n1.trans n2).trans n3).mono (by omega)⟩
theorem e8n (l:List o5) (id:Int) (hs:a4q l = true) (hl:l.length ≤ 2 ^ 30):∃ m:Nat,b1y l id = some ((m:Int),a1x l id) ∧ m ≤ l.length ∧
    ((a1x l id = true ∧ ∃ A r B,l = A ++ r :: B ∧ A.length = m ∧ r.Id = id ∧ (∀ x ∈ A,x.Id < id) ∧ ∀ x ∈ B,id < x.Id) ∨
     (a1x l id = false ∧ ∃ A B,l = A ++ B ∧ A.length = m ∧ (∀ x ∈ A,x.Id < id) ∧ ∀ x ∈ B,id < x.Id)):=by
  obtain ⟨m,e,h1,h2,h3⟩:=e0b l id hs hl
  refine ⟨m,e,h1,?_⟩
  rcases b0z id l hs with ⟨hh,A,r,B,rfl,hr,hA,hB⟩ | ⟨hh,A,B,rfl,hA,hB⟩
  · exact .inl ⟨hh,A,r,B,rfl,(at_eq h1 hA (fun x hx => by rcases List.mem_cons.1 hx with rfl | hx; exact Int.le_of_eq hr.symm; exact Int.le_of_lt (hB x hx)) h2 h3).symm,hr,hA,hB⟩
  · exact .inr ⟨hh,A,B,rfl,(at_eq h1 hA (fun x hx => Int.le_of_lt (hB x hx)) h2 h3).symm,hA,hB⟩
def PrS (s:a0b) (S:Nat → Int → Prop) (i:Nat) (r:o5):Prop:=∃ t,s.Tables[i]? = some t ∧ a4n t r = true ∧ S i r.Id
theorem b0r {t:x8} {r:o5}:a4n t r = true ↔ (1 ≤ r.Id ∧ r.Id ≤ 1000000) ∧ r.Cells.length = t.Columns.length ∧ a9x (b7i t) r.Cells 0 = true:=by
 unfold a4n
 simp only [Bool.and_eq_true,decide_eq_true_eq,and_assoc]
theorem b6j {t:x8} {k:Nat} {d:List o7}:b7i t k d = true ↔ b2j d = true ∧ ∃ c,t.Columns[k]? = some c ∧ b3d c d = 0:=by
 unfold b7i
 cases h:t.Columns[k]? with
 | none => simp
 | some c => simp
theorem d6k {k:Int} {d:List o7} (h:a6d k d) (p:o7 → Bool):a6d k (d.filter p):=a6d.of (fun x hx => h.atom x (List.mem_filter.1 hx).1) (h.strict.filter _)
theorem e5y (c:a0d) (d:List o7):b3d c d = if a8o d c.Kind = true then 9 else if ¬ (c.Min ≤ d.length ∧ (d.length:Int) ≤ c.Max) then 6 else if (c.Kind == 1 && d.any (d8h c)) = true then 4 else 0:=rfl
theorem d8t {k:Int} {d:List o7} (h:a6d k d):a8o d k = false:=by
 unfold a8o
 cases d with
 | nil => rfl
 | cons x xs => have:=(h.atom x (by simp)).2; simp [this]
theorem d6l {c:a0d} {d:List o7} (hc:e1u c = true) (hk:c.Kind = 4) (h:b2j d = true) (hf:b3d c d = 0) (p:o7 → Bool):b2j (d.filter p) = true ∧ b3d c (d.filter p) = 0:=by
 obtain ⟨f1,f2⟩:=c4i hf
 have hs:=d6k (d8m h f1) p
 have hl:=List.length_filter_le p d
 have h8:=b2y h
 refine ⟨b7a hs (by omega),?_⟩
 have hm:c.Min = 0:=by
  unfold e1u at hc
  simp [hk] at hc
  exact hc.2.2
 rw [e5y,d8t hs,if_neg (by simp),if_neg (by rw [hm]; simp; omega),if_neg (by simp [hk])]
theorem e5z {t:x8} {r:o5} {k:Nat} {c:a0d} {d:List o7} (h:a4n t r = true) (hc:t.Columns[k]? = some c) (hd:r.Cells[k]? = some d):b2j d = true ∧ b3d c d = 0:=by
 have:=(b2x _ _ _).1 (b0r.1 h).2.2 k d hd
 rw [Nat.zero_add] at this
 obtain ⟨h1,c',h2,h3⟩:=b6j.1 this
 rw [hc] at h2; cases h2
 exact ⟨h1,h3⟩
theorem e8o {t:x8} {r:o5} {k:Nat} {c:a0d} {d:List o7} (h:a4n t r = true) (hc:t.Columns[k]? = some c) (hd:b2j d = true) (hf:b3d c d = 0):a4n t ⟨r.Id,r.Cells.set k d⟩ = true:=by
 obtain ⟨h1,h2,h3⟩:=b0r.1 h
 exact b0r.2 ⟨h1,by simpa using h2,c8t _ _ _ _ h3 (b6j.2 ⟨hd,c,hc,hf⟩)⟩
theorem d3e {s:a0b} (hs:b2b s = true) (S:Nat → Int → Prop):c9c s (PrS s S):=by
 constructor
 ·rintro i r ⟨t,ht,hr,-⟩ t' ht'
  rw [ht] at ht'; cases ht'
  exact ⟨b0q hr,fun d hd => by have:=b2y (b5t hr hd); omega⟩
 ·rintro i r t c col d p ⟨t',ht',hr,hS⟩ ht hc hk hw hd
  rw [ht] at ht'; cases ht'
  have hcol:=d1d (c2s hs (List.mem_of_getElem? ht)) col (List.mem_of_getElem? hc)
  obtain ⟨g1,g2⟩:=e5z hr hc hd
  obtain ⟨g3,g4⟩:=d6l hcol hk g1 g2 p
  exact ⟨t,ht,e8o hr hc g3 g4,hS⟩
theorem d6m (m:b0b) (b:o7) (hv:m.Value = [b]) (hb:-1000000000 ≤ b.N ∧ b.N ≤ 1000000000) (hf:1 ≤ m.Func ∧ m.Func ≤ 5):∀ (xs o:List o7),(∀ x ∈ xs,b1o x = true ∧ x.Kind = 1) → a6d 1 o → o.length + xs.length ≤ 100 →
  a5l m xs o = some (.ret ([],4)) ∨ ∃ o',a5l m xs o = some (.go o') ∧ a6d 1 o'
 | [],o,_,hs,_ => .inr ⟨o,by rw [a5l],hs⟩
 | x :: xs,o,hx,hs,hl => by
  simp only [List.length_cons] at hl
  obtain ⟨x1,x2⟩:=hx x (by simp)
  obtain ⟨n1,n2,_⟩:=e9p x1 x2
  have ei:idx m.Value 0 = some b:=by rw [hv]; rfl
  rw [a5l,ei,Option.bind_some,e2d _ _ _ hf ⟨n1,n2⟩ hb,Option.bind_some]
  cases hc:e5g m.Func x.N b.N with
  | none => exact .inl (by simp)
  | some n =>
   simp only
   cases hn:e5h n with
   | false => exact .inl (by simp)
   | true =>
    have hn':-1000000000 ≤ n ∧ n ≤ 1000000000:=by simpa [e5h] using hn
    obtain ⟨d,e,h1,h2,h3⟩:=e0a 1 o ⟨1,n,[]⟩ hs (e5f n hn') rfl (by omega)
    rw [if_neg (by simp),e5d o _ (by omega),e,Option.bind_some]
    exact d6m m b hv hb hf xs d (fun y hy => hx y (by simp [hy])) h1 (by omega)
theorem f1o (c:a0d) (d:List o7) (m:b0b) (hd:a6d c.Kind d) (ld:d.length ≤ 8) (hc:c.Max ≤ 8) (hm:c1g m = true) (ht:a8o m.Value c.Kind = false) (hf:m.Func ≤ 5 → c.Kind = 1 ∧ m.Value.length = 1) :
  ∃ d' e,b0m c d m = some (d',e) ∧ (e = 0 → b2j d' = true ∧ b3d c d' = 0):=by
 have hm':=hm
 unfold c1g at hm'
 simp only [Bool.and_eq_true,decide_eq_true_eq] at hm'
 obtain ⟨⟨⟨f1,f2⟩,hdv⟩,_⟩:=hm'
 have hv:a6d c.Kind m.Value:=d8m hdv ht
 have lv:=b2y hdv
 have fin:∀ x:List o7,a6d c.Kind x → ∃ d' e,((a8z c x).bind fun r_128 => if (r_128 != 0) then some (([]:List o7),r_128) else some (x,0)) = some (d',e) ∧ (e = 0 → b2j d' = true ∧ b3d c d' = 0):=by
  intro x hx
  rw [d9x,Option.bind_some]
  by_cases q:b3d c x = 0
  ·rw [if_neg (by simpa using q)]
   exact ⟨x,0,rfl,fun _ => ⟨b7a hx (by have:=(c4i q).2; omega),q⟩⟩
  ·rw [if_pos (by simpa using q)]
   exact ⟨[],_,rfl,fun h => absurd h q⟩
 unfold b0m
 by_cases e6:m.Func = 6
 ·obtain ⟨s2,g,g1,g2,g3⟩:=c2u c.Kind m.Value d hd hv.atom (by omega)
  unfold b4r
  rw [if_pos (by simp [e6]),if_pos (by simp; omega),List.nil_append,g,Option.bind_some,Option.bind_some,Option.bind_some]
  exact fin s2 g1
 by_cases e7:m.Func = 7
 ·rw [if_neg (by simp [e7]),if_pos (by simp [e7]),d2w d m.Value (by omega),Option.bind_some,Option.bind_some]
  exact fin _ (e1x hd m.Value)
 have f5:m.Func ≤ 5:=by omega
 obtain ⟨k1,l1⟩:=hf f5
 obtain ⟨b,eb⟩:∃ b,m.Value = [b]:=by
  cases hvv:m.Value with
  | nil => rw [hvv] at l1; simp at l1
  | cons b bs =>
   rw [hvv] at l1
   simp at l1
   exact ⟨b,by rw [l1]⟩
 have hb:=hv.atom b (by rw [eb]; simp)
 obtain ⟨b1,b2,_⟩:=e9p hb.1 (by rw [hb.2,k1])
 rw [k1] at hd
 rw [if_neg (by simp [e6]),if_neg (by simp [e7])]
 rcases d6m m b eb ⟨b1,b2⟩ ⟨f1,f5⟩ d [] hd.atom ⟨by simp,by simp⟩ (by simp; omega) with h2 | ⟨oS,h2,h3⟩
 ·rw [h2]
  exact ⟨[],4,rfl,fun h => by omega⟩
 ·rw [← k1] at h3
  rw [h2,Option.bind_some]
  exact fin oS h3
theorem d6n (t:x8) (hmax:∀ c ∈ t.Columns,c.Max ≤ 8):∀ (l:List b0b) (cs:List (List o7)),(∀ m ∈ l,c1g m = true ∧ c2w t m = 0) → a9x (b7i t) cs 0 = true → cs.length = t.Columns.length →
  (∃ e,a8h t l cs = some (.ret (⟨0,[]⟩,e)) ∧ e ≠ 0) ∨ (∃ cs',a8h t l cs = some (.go cs') ∧ a9x (b7i t) cs' 0 = true ∧ cs'.length = t.Columns.length)
 | [],cs,_,h,hl => .inr ⟨cs,by rw [a8h],h,hl⟩
 | m :: l,cs,hm,h,hl => by
  obtain ⟨m1,m3⟩:=hm m (by simp)
  obtain ⟨k,hk,hk2⟩:=e2e m3
  obtain ⟨c,e1,e2⟩:=b4c hk
  obtain ⟨t1,t2⟩:=hk2 c e2
  have hlt:k < t.Columns.length:=(List.getElem?_eq_some_iff.1 e2).1
  obtain ⟨d,hd⟩:∃ d,cs[k]? = some d:=⟨cs[k]'(by omega),List.getElem?_eq_getElem (by omega)⟩
  have hcell:=(b2x _ _ _).1 h k d hd
  rw [Nat.zero_add] at hcell
  obtain ⟨c1,c',c2,c3⟩:=b6j.1 hcell
  rw [e2] at c2; cases c2
  have hsd:a6d c.Kind d:=d8m c1 (c4i c3).1
  obtain ⟨d',e,g2,g3⟩:=f1o c d m hsd (b2y c1) (hmax c (List.mem_of_getElem? e2)) m1 t1 t2
  have hb:(0:Int) ≤ (k:Int) ∧ (k:Int) < (cs.length:Int):=by omega
  have hd':cs[(0 + ((k:Int)).toNat)]? = some d:=by simpa using hd
  have hcol2:a2e t m.Column = some (k:Int):=by rw [a8w,hk]; rfl
  rw [a8h,hcol2,Option.bind_some,e1,Option.bind_some,if_pos hb,hd',Option.bind_some,g2,Option.bind_some]
  by_cases q:e = 0
  ·subst q
   obtain ⟨g4,g5⟩:=g3 rfl
   simp only [bne_self_eq_false,Bool.false_eq_true,if_false]
   rw [if_pos hb]
   have ek:0 + ((k:Int)).toNat = k:=by simp
   rw [ek]
   exact d6n t hmax l (cs.set k d') (fun x hx => hm x (by simp [hx])) (c8t _ cs k _ h (b6j.2 ⟨g4,c,e2,g5⟩)) (by simpa using hl)
  ·rw [if_pos (by simpa using q)]
   exact .inl ⟨e,rfl,q⟩
theorem e9v {t:x8} {r:o5} (h:a4n t r = true) (h6:t.Columns.length ≤ 6):a4l r = some r:=b5v r (by rw [b0q h]; omega) (fun d hd => by have:=b2y (b5t h hd); omega)
theorem f1p {t:x8} (h6:t.Columns.length ≤ 6) (hmax:∀ c ∈ t.Columns,c.Max ≤ 8) {r:o5} (h:a4n t r = true) (l:List b0b) (hm:∀ m ∈ l,c1g m = true ∧ c2w t m = 0):∃ r' e,b3y t r l = some (r',e) ∧ (e = 0 → a4n t r' = true ∧ r'.Id = r.Id):=by
 obtain ⟨h1,h2,h3⟩:=b0r.1 h
 unfold b3y
 rw [e9v h h6,Option.bind_some]
 rcases d6n t hmax l r.Cells hm h3 h2 with ⟨e,q,he⟩ | ⟨cs,q,q1,q2⟩
 ·rw [q]; exact ⟨_,e,rfl,fun h => absurd h he⟩
 ·rw [q]; exact ⟨_,0,rfl,fun _ => ⟨b0r.2 ⟨h1,q2,q1⟩,rfl⟩⟩
theorem d1k (t:x8):∀ {xs:List a2c} {cs cs':List (List o7)},d5q t xs cs = .go cs' → a9x (b7i t) cs 0 = true → (∀ x ∈ xs,(b2a t x.Column).isSome = true ∧ b2j x.Value = true) → a9x (b7i t) cs' 0 = true ∧ cs'.length = cs.length
 | [],cs,cs',h,ha,_ => by cases h; exact ⟨ha,rfl⟩
 | x :: xs,cs,cs',h,ha,hx => by
  obtain ⟨k,hk⟩:=Option.isSome_iff_exists.1 (hx x (by simp)).1
  obtain ⟨c,e1,e2⟩:=b4c hk
  rw [d5q,hk] at h
  simp only [e2] at h
  by_cases q:b3d c x.Value = 0
  ·rw [if_pos q] at h
   have:=d1k t h (c8t _ cs k _ ha (b6j.2 ⟨(hx x (by simp)).2,c,e2,q⟩)) (fun y hy => hx y (by simp [hy]))
   exact ⟨this.1,by rw [this.2]; simp⟩
  ·rw [if_neg q] at h; cases h
theorem e6a {t:x8} (h6:t.Columns.length ≤ 6) {r:o5} (h:a4n t r = true) (l:List a2c) (hx:∀ x ∈ l,(b2a t x.Column).isSome = true ∧ b2j x.Value = true):∃ r' e,a8e t r l = some (r',e) ∧ (e = 0 → a4n t r' = true ∧ r'.Id = r.Id):=by
 obtain ⟨h1,h2,h3⟩:=b0r.1 h
 unfold a8e
 rw [e9v h h6,Option.bind_some,b8o t l r.Cells h2 (fun x y => ⟨(hx x y).1,b2y (hx x y).2⟩),Option.bind_some]
 cases q:d5q t l r.Cells with
 | ret v => exact ⟨v.1,v.2,rfl,fun h => absurd h (d5r t q).2⟩
 | go cs => exact ⟨_,0,rfl,fun _ => by
   obtain ⟨q1,q2⟩:=d1k t q h3 hx
   exact ⟨b0r.2 ⟨h1,by rw [q2]; exact h2,q1⟩,rfl⟩⟩
theorem e2k {t:x8} {c:a3k} (h:b7j t c = 0) (hf:3 ≤ c.Func ∧ c.Func ≤ 6):c.Value.length = 1:=by
 unfold b7j at h
 cases hn:c1e t c.Column with
 | none => rw [hn] at h; simp at h
 | some x =>
  rw [hn] at h
  simp only at h
  split at h
  ·cases h
  ·split at h
   ·cases h
   ·rename_i h2
    simp only [hf,decide_true,Bool.true_and,Bool.or_eq_true,not_or,bne_iff_ne,ne_eq,Decidable.not_not,and_self] at h2
    omega
theorem e6b {t:x8} {r:o5} (h:a4n t r = true) {c:a3k} (hc:b5u c = true) (hi:b7j t c = 0):∃ b,a9i t r c = some b:=by
 unfold b5u at hc
 simp only [Bool.and_eq_true,decide_eq_true_eq] at hc
 obtain ⟨⟨⟨f1,f2⟩,hd⟩,_⟩:=hc
 have hv:=b2y hd
 unfold a9i
 rw [d1e (b0q h),Option.bind_some]
 by_cases e1:c.Func = 1
 ·rw [if_pos (by simp [e1]),b9p]; exact ⟨_,rfl⟩
 rw [if_neg (by simpa using e1)]
 by_cases e2:c.Func = 2
 ·rw [if_pos (by simp [e2]),b9p]; exact ⟨_,rfl⟩
 rw [if_neg (by simpa using e2)]
 by_cases e7:c.Func = 7
 ·rw [if_pos (by simp [e7]),d2w _ _ (by omega)]; exact ⟨_,rfl⟩
 rw [if_neg (by simpa using e7)]
 by_cases e8:c.Func = 8
 ·rw [if_pos (by simp [e8]),d2w _ _ (by omega)]; exact ⟨_,rfl⟩
 rw [if_neg (by simpa using e8)]
 have h1:=e2k hi ⟨by omega,by omega⟩
 cases hr:c0c t r c.Column with
 | nil => exact ⟨false,by simp⟩
 | cons x xs =>
  cases hvv:c.Value with
  | nil => rw [hvv] at h1; simp at h1
  | cons y ys =>
   rw [if_neg (by simp; omega),show idx (x :: xs) 0 = some x from rfl,show idx (y :: ys) 0 = some y from rfl,Option.bind_some,Option.bind_some]
   split
   ·exact ⟨_,rfl⟩
   ·split
    ·exact ⟨_,rfl⟩
    ·split <;> exact ⟨_,rfl⟩
def b7e (t:x8) (l:List a3k):Prop:=∀ c ∈ l,b5u c = true ∧ b7j t c = 0
theorem d8u {t:x8} {r:o5} (h:a4n t r = true):∀ {l:List a3k},b7e t l → ∃ b,a7g t r l = some b:=by
 have:∀ l:List a3k,b7e t l → (a8f t r l = some (.go ()) ∨ a8f t r l = some (.ret false)):=by
  intro l
  induction l with
  | nil => intro _; exact .inl (by rw [a8f])
  | cons c l ih =>
   intro hl
   obtain ⟨b,e⟩:=e6b h (hl c (by simp)).1 (hl c (by simp)).2
   rw [a8f,e,Option.bind_some]
   cases b with
   | true => exact ih (fun x hx => hl x (by simp [hx]))
   | false => exact .inr (by simp)
 intro l hl
 unfold a7g
 rcases this l hl with e | e <;> rw [e]
 ·exact ⟨true,rfl⟩
 ·exact ⟨false,rfl⟩
theorem f1q {t:x8} {cs:List a3k} (hc:b7e t cs):∀ (xs:List o5) (out:List Int),(∀ r ∈ xs,a4n t r = true) → out.length + xs.length ≤ 1000 → ∃ q:o5 → Bool,a5k t cs xs out = some (out ++ (xs.filter q).map o5.Id):=by
 intro xs
 have hp:∃ q:o5 → Bool,∀ r,a4n t r = true → a7g t r cs = some (q r):=⟨fun r => (a7g t r cs).getD false,fun r hr => by obtain ⟨b,e⟩:=d8u hr hc; simp [e]⟩
 obtain ⟨q,hq⟩:=hp
 intro out h hl
 refine ⟨q,?_⟩
 induction xs generalizing out with
 | nil => rw [a5k]; simp
 | cons r xs ih =>
  simp only [List.length_cons] at hl
  rw [a5k,hq r (h r (by simp)),Option.bind_some]
  cases e:q r with
  | true => rw [if_pos rfl,if_pos (by simp; omega),ih _ (fun y hy => h y (by simp [hy])) (by simp; omega)]; simp [List.filter_cons,e]
  | false => rw [if_neg (by simp),ih _ (fun y hy => h y (by simp [hy])) (by omega)]; simp [List.filter_cons,e]
theorem f1r (t:Str) (w:a0g) (hl:w.Ids.length = w.Ops.length):∃ n,a5c t w = some (n,w) ∧ (n = 0 ∨ n ∈ w.Ids):=by
 have:∀ (xs:List GOp) (i:Nat),w.Ops.drop i = xs → (∃ n,a3f t w xs i = some (.ret (n,w)) ∧ n ∈ w.Ids) ∨ a3f t w xs i = some (.go ()):=by
  intro xs
  induction xs with
  | nil => intro i _; exact .inr (by rw [a3f])
  | cons x xs ih =>
   intro i hd
   have hi:=b4q hd
   obtain ⟨n,hn⟩:∃ n,w.Ids[i]? = some n:=⟨w.Ids[i]'(by omega),List.getElem?_eq_getElem _⟩
   rw [a3f]
   cases hc:(if (x.Kind == 1) = true then some (x.Name == t) else some false:Option Bool) with
   | none => exfalso; split at hc <;> cases hc
   | some b =>
    rw [Option.bind_some]
    cases b with
    | true => rw [if_pos rfl,a0m,hn,Option.bind_some]; exact .inl ⟨n,rfl,List.mem_of_getElem? hn⟩
    | false => rw [if_neg (by simp)]; exact ih (i + 1) (a6u hd)
 unfold a5c
 rcases this w.Ops 0 rfl with ⟨n,e,hn⟩ | e <;> rw [e]
 ·exact ⟨n,rfl,.inr hn⟩
 ·exact ⟨0,rfl,.inl rfl⟩
def d6o (l:List Int):Prop:=∀ n ∈ l,0 ≤ n ∧ n ≤ 1000000
theorem e8p {n:Int} (h:0 ≤ n ∧ n ≤ 1000000) (h0:n ≠ 0):b1o ⟨4,n,[]⟩ = true:=by
 unfold b1o
 have:1 ≤ n ∧ n ≤ 1000000:=by omega
 simp [this]
theorem d1l (out:List a2c) (w:a0g) (hl:w.Ids.length = w.Ops.length) (hid:d6o w.Ids):∀ (xs:List Str) (d:List o7),a6d 4 d → d.length + xs.length ≤ 100 →
  a1r out xs w.S.Tables w.X.Tables w.X.Next w.Ops w.Ids w.Owned d = some (.ret (out,13,w)) ∨ ∃ d',a1r out xs w.S.Tables w.X.Tables w.X.Next w.Ops w.Ids w.Owned d = some (.go (w.S.Tables,w.X.Tables,w.X.Next,w.Ops,w.Ids,w.Owned,d')) ∧ a6d 4 d' ∧ d'.length ≤ d.length + xs.length
 | [],d,hs,_ => .inr ⟨d,by rw [a1r],hs,by simp⟩
 | x :: xs,d,hs,hn => by
  simp only [List.length_cons] at hn
  obtain ⟨n,e,he⟩:=f1r x w hl
  have ew:(⟨⟨w.S.Tables⟩,⟨w.X.Tables,w.X.Next⟩,w.Ops,w.Ids,w.Owned⟩:a0g) = w:=rfl
  rw [a1r,ew,e,Option.bind_some]
  by_cases h0:n = 0
  ·rw [if_pos (by simp [h0])]; exact .inl rfl
  ·rw [if_neg (by simpa using h0)]
   have hb:0 ≤ n ∧ n ≤ 1000000:=by rcases he with h | h; exact absurd h h0; exact hid n h
   obtain ⟨d',e',h1,h2,h3⟩:=e0a 4 d ⟨4,n,[]⟩ hs (e8p hb h0) rfl (by omega)
   rw [e',Option.bind_some]
   rcases d1l out w hl hid xs d' h1 (by omega) with q | ⟨d2,q,q1,q2⟩
   ·exact .inl q
   ·exact .inr ⟨d2,q,q1,by simp only [List.length_cons]; omega⟩
theorem d1m (w:a0g) (hl:w.Ids.length = w.Ops.length) (hid:d6o w.Ids):∀ (xs out:List a2c),(∀ x ∈ xs,setB x = true) → out.length + xs.length ≤ 1000 →
  (∃ l,a3g xs w.S.Tables w.X.Tables w.X.Next w.Ops w.Ids w.Owned out = some (.ret (l,13,w))) ∨ ∃ l,a3g xs w.S.Tables w.X.Tables w.X.Next w.Ops w.Ids w.Owned out = some (.go (w.S.Tables,w.X.Tables,w.X.Next,w.Ops,w.Ids,w.Owned,out ++ l)) ∧ ∀ y ∈ l,b2j y.Value = true ∧ ∃ x ∈ xs,y.Column = x.Column
 | [],out,_,_ => .inr ⟨[],by rw [a3g,List.append_nil],fun y hy => by simp at hy⟩
 | x :: xs,out,h,hn => by
  simp only [List.length_cons] at hn
  have hx:=h x (by simp)
  unfold setB at hx
  simp only [Bool.and_eq_true,Bool.or_eq_true,decide_eq_true_eq] at hx
  obtain ⟨⟨⟨_,hd⟩,_,hnl⟩,hor⟩:=hx
  have step:(∃ l,a1r out x.Names w.S.Tables w.X.Tables w.X.Next w.Ops w.Ids w.Owned x.Value = some (.ret (l,13,w))) ∨ ∃ d',a1r out x.Names w.S.Tables w.X.Tables w.X.Next w.Ops w.Ids w.Owned x.Value = some (.go (w.S.Tables,w.X.Tables,w.X.Next,w.Ops,w.Ids,w.Owned,d')) ∧ b2j d' = true:=by
   rcases hor with hor | hor
   ·rw [hor]
    exact .inr ⟨x.Value,by rw [a1r],hd⟩
   ·rw [hor]
    rcases d1l out w hl hid x.Names [] ⟨by simp,by simp⟩ (by simp; omega) with q | ⟨d2,q,q1,q2⟩
    ·exact .inl ⟨out,q⟩
    ·exact .inr ⟨d2,q,b7a q1 (by simp at q2; omega)⟩
  rw [a3g]
  rcases step with ⟨l,q⟩ | ⟨d',q,q1⟩
  ·rw [q]; exact .inl ⟨l,rfl⟩
  ·rw [q,Option.bind_some]
   simp only
   rw [if_pos (by simp; omega)]
   rcases d1m w hl hid xs (out ++ [⟨x.Column,d',[]⟩]) (fun y hy => h y (by simp [hy])) (by simp; omega) with ⟨l,z⟩ | ⟨l,z,z1⟩
   ·exact .inl ⟨l,z⟩
   ·refine .inr ⟨⟨x.Column,d',[]⟩ :: l,by rw [z]; simp,fun y hy => ?_⟩
    rcases List.mem_cons.1 hy with rfl | hy
    ·exact ⟨q1,x,by simp,rfl⟩
    ·obtain ⟨k1,x',k2,k3⟩:=z1 y hy
     exact ⟨k1,x',by simp [k2],k3⟩
theorem f1s (w:a0g) (hl:w.Ids.length = w.Ops.length) (hid:d6o w.Ids) (list:List a2c) (h:∀ x ∈ list,setB x = true) (hn:list.length ≤ 100):∃ l e,a5d list w = some (l,e,w) ∧ (e = 0 → ∀ y ∈ l,b2j y.Value = true ∧ ∃ x ∈ list,y.Column = x.Column):=by
 unfold a5d
 rcases d1m w hl hid list [] h (by simp; omega) with ⟨l,z⟩ | ⟨l,z,z1⟩ <;> rw [z]
 ·exact ⟨l,13,rfl,fun h => by omega⟩
 ·exact ⟨[] ++ l,0,rfl,fun _ => by simpa using z1⟩
def f1t (s:a0b) (o:GOp):Prop:=6 < o.Kind ∨ ∃ k t,b5k s o.Table = some k ∧ s.Tables[k]? = some t ∧ a5z (c8r t) o.Columns = 0 ∧ b7e t o.Where ∧ (∀ x ∈ o.Row,(b2a t x.Column).isSome = true) ∧ ∀ m ∈ o.Muts,c1g m = true ∧ c2w t m = 0
theorem e8q (s:a0b) (o:GOp) (ho:opB o = true):∃ e,b2r s o = some e ∧ (e = 0 → f1t s o):=by
 have ho':=ho
 simp only [opB,Bool.and_eq_true,decide_eq_true_eq,List.all_eq_true] at ho'
 obtain ⟨⟨⟨_,hcond,_⟩,hmut,_⟩,hset,hrow⟩:=ho'
 unfold b2r
 simp only [d2s,Option.bind_some,b9k,b9j]
 by_cases hk:o.Kind > 6
 ·rw [if_pos (by simpa using hk)]
  split
  ·cases b5g o.Name
   ·exact ⟨3,rfl,fun h => by omega⟩
   ·exact ⟨0,rfl,fun _ => .inl hk⟩
  ·exact ⟨0,rfl,fun _ => .inl hk⟩
 ·rw [if_neg (by simpa using hk)]
  cases ht:b5k s o.Table with
  | none => exact ⟨10,rfl,fun h => by omega⟩
  | some k =>
   obtain ⟨t,e1,e2⟩:=e5a ht
   simp only [Option.isNone_some,Bool.false_eq_true,if_false,atI,e1,Option.bind_some,c2z,d8k,e2c t o.Row (by omega),d8l]
   cases hc:((if (bif (o.Kind == 1) then (!(o.Name == [])) else false) = true then some (!b5g o.Name) else some false:Option Bool)) with
   | none => exfalso; split at hc <;> cases hc
   | some b =>
    rw [Option.bind_some]
    cases b with
    | true => exact ⟨3,rfl,fun h => by omega⟩
    | false =>
     simp only [Bool.false_eq_true,if_false]
     by_cases h1:a5z (c8r t) o.Columns = 0
     ·rw [if_pos h1]
      simp only
      by_cases h2:a5z (b7j t) o.Where = 0
      ·rw [if_neg (by simpa using h2)]
       by_cases h3:b8n t o.Row o.Row 0 = 0
       ·rw [if_neg (by simpa using h3)]
        refine ⟨_,rfl,fun h4 => .inr ⟨k,t,ht,?_,h1,fun c hc => ⟨hcond c hc,c1f h2 c hc⟩,d1g t o.Row h3,fun m hm => ⟨hmut m hm,c1f h4 m hm⟩⟩⟩
        rw [a0m] at e1; exact e1
       ·rw [if_pos (by simpa using h3)]; exact ⟨_,rfl,fun h => absurd h h3⟩
      ·rw [if_pos (by simpa using h2)]; exact ⟨_,rfl,fun h => absurd h h2⟩
     ·rw [if_neg h1]; exact ⟨11,rfl,fun h => by omega⟩
def mkW (s:a0b) (nx:Int) (ops:List GOp) (ids:List Int) (ow:List Str) (T:List (List o5)):a0g:=⟨s,⟨T,nx⟩,ops,ids,ow⟩
def e0m (s:a0b) (S:Nat → Int → Prop) (ops:List GOp) (ids:List Int):Prop:=ids.length = ops.length ∧ d6o ids ∧ ∀ (k:Nat) (o:GOp) (t:Nat) (n:Int),ops[k]? = some o → o.Kind = 1 → b5k s o.Table = some t → ids[k]? = some n → 1 ≤ n ∧ S t n
theorem e8r {A B:List o5} {r r':o5} {id:Int} (h:r'.Id = r.Id) (hh:a1x (A ++ r :: B) id = true):a1x (A ++ r' :: B) id = true:=by
 unfold a1x at *
 simpa [List.any_append,h] using hh
theorem StQ.put {s:a0b} {S:Nat → Int → Prop} {T:List (List o5)} {t:Nat} {l:List o5} {r:o5} (h:StQ s (PrS s S) T) (hl:T[t]? = some l) (hr:PrS s S t r) (h12:l.length < 12 ∨ a1x l r.Id = true):StQ s (PrS s S) (T.set t (a8r l r)):=by
 obtain ⟨g1,g2,g3⟩:=h.tab t l hl
 refine h.set hl (e0f r g1 (by omega)) ?_ (fun x hx => by rcases put_mem hx with rfl | hx; exact hr; exact g3 x hx)
 rcases h12 with h12 | hh
 ·have:=e0g l r; omega
 ·rcases b0z r.Id l g1 with ⟨_,A,q,B,rfl,hq,hA,hB⟩ | ⟨hn,_⟩
  ·rw [b4v hA hq]
   simpa using g2
  ·rw [hh] at hn; cases hn
theorem e8s (x:x9) (t:Nat) (l:List o5) (id:Int) (hx:smS x) (ht:x.Tables[t]? = some l) (hs:a4q l = true) (hh:a1x l id = true):b2u x (t:Int) (atI (l.findIdx? (fun r => r.Id == id))) = some ⟨x.Tables.set t (b2z l id),x.Next⟩:=by
 have hl:=(hx.2 l (List.mem_of_getElem? ht)).1
 have h0:=hx.1
 have htl:=(List.getElem?_eq_some_iff.1 ht).1
 unfold b2u
 rw [b8w x hx,Option.bind_some,a0m,ht,Option.bind_some]
 rcases b0z id l hs with ⟨_,A,q,B,rfl,hq,hA,hB⟩ | ⟨h,_⟩
 ·have ea:atI (some A.length) = (A.length:Int):=rfl
  simp only [List.length_append,List.length_cons] at hl
  rw [c0k hA hq,c1j hA hq hB,ea,if_pos ⟨⟨by omega,by simp; omega⟩,by simp; omega,by omega⟩]
  simp
 ·rw [hh] at h; cases h
theorem e6c {s:a0b} (hs:b2b s = true) {S:Nat → Int → Prop} {t:Nat} {r:o5} (h:PrS s S t r):smR r:=by
 obtain ⟨tb,h1,h2,-⟩:=h
 have h6:=b1a hs (List.mem_of_getElem? h1)
 exact ⟨by rw [b0q h2]; omega,fun d hd => by have:=b2y (b5t h2 hd); omega⟩
theorem d6p (c:a0d):a6w c = some (b4h c):=by
 unfold a6w b4h
 by_cases h:c.Min = 0
 ·simp [h]
 ·by_cases k:c.Kind = 1 <;> simp [h,k]
theorem e6d (t:x8) (h:t.Columns.length ≤ 6) (id:Int):b1i t id = some ⟨id,t.Columns.map b4h⟩:=by
 have:∀ (cs:List a0d) (out:List (List o7)),out.length + cs.length ≤ 1000 → a8d cs out = some (out ++ cs.map b4h):=by
  intro cs
  induction cs with
  | nil => intro out _; rw [a8d]; simp
  | cons c cs ih =>
   intro out h
   simp only [List.length_cons] at h
   rw [a8d,d6p,Option.bind_some,if_pos (by simp <;> omega),ih _ (by simp <;> omega)]
   simp
 unfold b1i
 rw [this _ _ (by simp; omega)]
 simp
section
variable {s:a0b} {S:Nat → Int → Prop} {nx:Int} {ops:List GOp} {ids:List Int} {ow:List Str}
theorem d6q (i:Nat) (o:GOp) (w:a0g) (hi:i < w.Ops.length) (hb:w.Ops.length ≤ 1000):∀ (n k fuel:Nat),n + k = i → n < fuel → (∃ r,a4m (i:Int) o w fuel (k:Int) = some (.ret (r,w))) ∨ a4m (i:Int) o w fuel (k:Int) = some (.go ())
 | n,k,0,_,h => by omega
 | n,k,fuel + 1,hn,hf => by
  rw [a4m]
  cases n with
  | zero => exact .inr (by rw [if_neg (by simp; omega)]; simp)
  | succ n =>
   obtain ⟨p,hp⟩:∃ p,w.Ops[k]? = some p:=⟨w.Ops[k]'(by omega),List.getElem?_eq_getElem _⟩
   rw [if_pos (by simp; omega),Option.bind_some]
   have ew:w64 ((k:Int) + 1) = ((k + 1:Nat):Int):=by rw [a1d (by omega)]; omega
   cases hnm:(!(o.Name == [])) with
   | false => exact .inr (by simp)
   | true =>
    simp only [if_true,a0m,hp,Option.bind_some]
    cases hc:(if (p.Kind == 1) = true then some (p.Name == o.Name) else some false:Option Bool) with
    | none => exfalso; split at hc <;> cases hc
    | some b =>
     rw [Option.bind_some]
     cases b with
     | true => exact .inl ⟨_,by rw [if_pos rfl]⟩
     | false =>
      rw [if_neg (by simp),ew]
      exact d6q i o w hi hb n (k + 1) fuel (by omega) (by omega)
theorem e6e (hs:b2b s = true) (hfr:∀ t ∈ s.Tables,a9x (b7i t) (t.Columns.map b4h) 0 = true) {T:List (List o5)} (hT:StQ s (PrS s S) T) (hN:e0m s S ops ids) (hlen:ops.length ≤ 1000) {i t:Nat} {o:GOp} {tb:x8} (ho:ops[i]? = some o) (hk:o.Kind = 1) (htab:b5k s o.Table = some t) (htb:s.Tables[t]? = some tb) (list:List a2c) (hx:∀ x ∈ list,(b2a tb x.Column).isSome = true ∧ b2j x.Value = true) :
  ∃ r T',a5u (i:Int) (t:Int) list (mkW s nx ops ids ow T) = some (r,mkW s nx ops ids ow T') ∧ StQ s (PrS s S) T':=by
 have hi:=(List.getElem?_eq_some_iff.1 ho).1
 have htl:=(List.getElem?_eq_some_iff.1 htb).1
 have h6:=b1a hs (List.mem_of_getElem? htb)
 obtain ⟨l,hl⟩:∃ l,T[t]? = some l:=⟨T[t]'(by rw [hT.len]; exact htl),List.getElem?_eq_getElem _⟩
 obtain ⟨n,hn⟩:∃ n,ids[i]? = some n:=⟨ids[i]'(by rw [hN.1]; exact hi),List.getElem?_eq_getElem _⟩
 obtain ⟨n1,n2⟩:=hN.2.2 i o t n ho hk htab hn
 have n3:=hN.2.1 n (List.mem_of_getElem? hn)
 obtain ⟨g1,g2,g3⟩:=hT.tab t l hl
 have hf:=b2c
 unfold a5u
 have eo:(mkW s nx ops ids ow T).Ops = ops:=rfl
 have ei:(mkW s nx ops ids ow T).Ids = ids:=rfl
 have es:(mkW s nx ops ids ow T).S = s:=rfl
 have ex:(mkW s nx ops ids ow T).X = ⟨T,nx⟩:=rfl
 rw [eo,a0m,ho,Option.bind_some]
 rcases d6q i o (mkW s nx ops ids ow T) hi hlen i 0 FUEL rfl (by omega) with ⟨r,e⟩ | e
 ·rw [show ((0:Nat):Int) = 0 from rfl] at e
  rw [e]; exact ⟨r,T,rfl,hT⟩
 ·rw [show ((0:Nat):Int) = 0 from rfl] at e
  rw [e,Option.bind_some]
  simp only [ex,es,ei,a0m,hl,htb,hn,Option.bind_some]
  by_cases h12:l.length = 12
  ·rw [if_pos (by simp [h12])]; exact ⟨_,T,rfl,hT⟩
  ·rw [if_neg (by simp; omega),e6d tb h6,Option.bind_some]
   have hrow:a4n tb ⟨n,tb.Columns.map b4h⟩ = true:=b0r.2 ⟨⟨n1,n3.2⟩,by simp,hfr tb (List.mem_of_getElem? htb)⟩
   obtain ⟨r',e',q,q2⟩:=e6a h6 hrow list hx
   rw [q,Option.bind_some,Option.bind_some]
   simp only
   by_cases h0:e' = 0
   ·obtain ⟨k1,k2⟩:=q2 h0
    have hp:PrS s S t r':=⟨tb,htb,k1,by rw [k2]; exact n2⟩
    rw [if_neg (by simpa using h0),show (⟨r'.Id,r'.Cells⟩:o5) = r' from rfl,c3h ⟨T,nx⟩ t l r' (b7d (hT.form (d3e hs S)) hs) hl g1 (e6c hs hp),Option.bind_some]
    exact ⟨_,_,rfl,hT.put hl hp (.inl (by omega))⟩
   ·rw [if_pos (by simpa using h0)]; exact ⟨_,T,rfl,hT⟩
theorem c9g (hs:b2b s = true) (hmax:∀ t ∈ s.Tables,∀ c ∈ t.Columns,c.Max ≤ 8) {T0:List (List o5)} {t:Nat} {tb:x8} (htb:s.Tables[t]? = some tb) (o:GOp) (hm:∀ m ∈ o.Muts,c1g m = true ∧ c2w tb m = 0) (list:List a2c) (hx:∀ x ∈ list,(b2a tb x.Column).isSome = true ∧ b2j x.Value = true) (rl:List Int):∀ (xs:List Int) (i:Nat) (T:List (List o5)),StQ s (PrS s S) T → (∀ l,T[t]? = some l → ∀ id ∈ xs,a1x l id = true) → xs.Pairwise (· < ·) → i + xs.length = rl.length →
  (∃ r T',a2h (t:Int) rl o (mkW s nx ops ids ow T0) list xs i T nx = some (.ret (r,mkW s nx ops ids ow T')) ∧ StQ s (PrS s S) T') ∨ ∃ T',a2h (t:Int) rl o (mkW s nx ops ids ow T0) list xs i T nx = some (.go (T',nx)) ∧ StQ s (PrS s S) T'
 | [],i,T,hT,_,_,_ => .inr ⟨T,by rw [a2h],hT⟩
 | id :: xs,i,T,hT,hh,hp,hi => by
  simp only [List.length_cons] at hi
  obtain ⟨p1,p2⟩:=List.pairwise_cons.1 hp
  have htl:=(List.getElem?_eq_some_iff.1 htb).1
  have h6:=b1a hs (List.mem_of_getElem? htb)
  obtain ⟨l,hl⟩:∃ l,T[t]? = some l:=⟨T[t]'(by rw [hT.len]; exact htl),List.getElem?_eq_getElem _⟩
  obtain ⟨g1,g2,g3⟩:=hT.tab t l hl
  have hid:=hh l hl id (by simp)
  have hsm:=b7d (n:=nx) (hT.form (d3e hs S)) hs
  have hTl:t < T.length:=by rw [hT.len]; exact htl
  rw [a2h,a0m,hl,Option.bind_some,if_pos (by omega),b7b,Option.bind_some]
  have es:(mkW s nx ops ids ow T0).S = s:=rfl
  by_cases h5:o.Kind = 5
  ·rw [if_pos (by simp [h5]),e8s ⟨T,nx⟩ t l id hsm hl g1 hid,Option.bind_some]
   refine c9g hs hmax htb o hm list hx rl xs (i + 1) _ (hT.set hl (d5x id g1) (Nat.le_trans (d5z l id) g2) (fun r hr => g3 r (d5y hr))) (fun l' hl' id' hid' => ?_) p2 (by omega)
   rw [List.getElem?_set_self hTl] at hl'
   cases hl'
   have h1:=hh l hl id' (by simp [hid'])
   have h2:=p1 id' hid'
   unfold a1x at h1 ⊢
   obtain ⟨r,r1,r2⟩:=List.any_eq_true.1 h1
   refine List.any_eq_true.2 ⟨r,List.mem_filter.2 ⟨r1,?_⟩,r2⟩
   simp at r2 ⊢
   omega
  ·rw [if_neg (by simpa using h5)]
   rcases b0z id l g1 with ⟨_,A,r,B,rfl,hr,hA,hB⟩ | ⟨hn,_⟩
   ·rw [c0k hA hr]
    have ea:atI (some A.length) = (A.length:Int):=rfl
    have er:(A ++ r :: B)[A.length]? = some r:=by simp
    obtain ⟨tb',q1,q2,q3⟩:=g3 r (by simp)
    rw [htb] at q1; cases q1
    obtain ⟨r1,e1,z1,z2⟩:=e6a h6 q2 list hx
    obtain ⟨r2,e2,y1,y2⟩:=f1p h6 (hmax tb (List.mem_of_getElem? htb)) q2 o.Muts hm
    simp only [ea,es,a0m,htb,hl,er,Option.bind_some,z1,y1]
    have fin:∀ (e:Int) (r':o5),(e = 0 → a4n tb r' = true ∧ r'.Id = r.Id) → ∀ K:Option (Fl (a1m × a0g) ((List (List o5)) × Int)),(K = if (e != 0) = true then some (.ret ((⟨e,0,0,[],[]⟩:a1m),(⟨s,(⟨T,nx⟩:x9),ops,ids,ow⟩:a0g))) else (a8v (⟨T,nx⟩:x9) (t:Int) (⟨r'.Id,r'.Cells⟩:o5)).bind fun r_252 => a2h (t:Int) rl o (mkW s nx ops ids ow T0) list xs (i + 1) r_252.Tables r_252.Next) →
      (∃ r T',K = some (.ret (r,mkW s nx ops ids ow T')) ∧ StQ s (PrS s S) T') ∨ ∃ T',K = some (.go (T',nx)) ∧ StQ s (PrS s S) T':=by
     intro e r' he K hK
     subst hK
     by_cases h0:e = 0
     ·obtain ⟨k1,k2⟩:=he h0
      have hp':PrS s S t r':=⟨tb,htb,k1,by rw [k2]; exact q3⟩
      rw [if_neg (by simpa using h0),show (⟨r'.Id,r'.Cells⟩:o5) = r' from rfl,c3h ⟨T,nx⟩ t _ r' hsm hl g1 (e6c hs hp'),Option.bind_some]
      refine c9g hs hmax htb o hm list hx rl xs (i + 1) _ (hT.put hl hp' (.inr ?_)) (fun l' hl' id' hid' => ?_) p2 (by omega)
      ·rw [k2,hr]; exact hid
      ·rw [List.getElem?_set_self hTl] at hl'
       cases hl'
       have hA':∀ x ∈ A,x.Id < r'.Id:=by rw [k2,hr]; exact hA
       rw [b4v hA' k2.symm]
       exact e8r k2 (hh _ hl id' (by simp [hid']))
     ·rw [if_pos (by simpa using h0)]
      exact .inl ⟨_,T,rfl,hT⟩
    by_cases h4:o.Kind = 4
    ·refine fin e2 r2 y2 _ ?_
     rw [if_pos (by simp [h4])]; rfl
    ·refine fin e1 r1 z2 _ ?_
     rw [if_neg (by simpa using h4)]; rfl
   ·rw [hid] at hn; cases hn
theorem e6f (hs:b2b s = true) (hmax:∀ t ∈ s.Tables,∀ c ∈ t.Columns,c.Max ≤ 8) {T:List (List o5)} (hT:StQ s (PrS s S) T) {t:Nat} {tb:x8} (htb:s.Tables[t]? = some tb) (o:GOp) (hc:b7e tb o.Where) (hm:∀ m ∈ o.Muts,c1g m = true ∧ c2w tb m = 0) (list:List a2c) (hx:∀ x ∈ list,(b2a tb x.Column).isSome = true ∧ b2j x.Value = true) :
  ∃ r T',a5v o (t:Int) list (mkW s nx ops ids ow T) = some (r,mkW s nx ops ids ow T') ∧ StQ s (PrS s S) T':=by
 have htl:=(List.getElem?_eq_some_iff.1 htb).1
 obtain ⟨l,hl⟩:∃ l,T[t]? = some l:=⟨T[t]'(by rw [hT.len]; exact htl),List.getElem?_eq_getElem _⟩
 obtain ⟨g1,g2,g3⟩:=hT.tab t l hl
 have hrow:∀ r ∈ l,a4n tb r = true:=fun r hr => by obtain ⟨tb',q1,q2,q3⟩:=g3 r hr; rw [htb] at q1; cases q1; exact q2
 obtain ⟨q,e⟩:=f1q hc l [] hrow (by simp; omega)
 rw [List.nil_append] at e
 unfold a5v b2t
 have es:(mkW s nx ops ids ow T).S = s:=rfl
 have ex:(mkW s nx ops ids ow T).X = ⟨T,nx⟩:=rfl
 simp only [es,ex,a0m,htb,hl,Option.bind_some,e]
 have hhas:∀ l',T[t]? = some l' → ∀ id ∈ (l.filter q).map o5.Id,a1x l' id = true:=by
  intro l' hl' id hid
  rw [hl] at hl'; cases hl'
  obtain ⟨r,r1,r2⟩:=List.mem_map.1 hid
  exact List.any_eq_true.2 ⟨r,(List.mem_filter.1 r1).1,by simp [r2]⟩
 rcases c9g (nx:=nx) (ops:=ops) (ids:=ids) (ow:=ow) (T0:=T) hs hmax htb o hm list hx ((l.filter q).map o5.Id) ((l.filter q).map o5.Id) 0 T hT hhas (List.pairwise_map.2 ((b9n g1).filter _)) (by simp) with ⟨r,T',z,z1⟩ | ⟨T',z,z1⟩
 ·rw [z]; exact ⟨r,T',rfl,z1⟩
 ·rw [z]; exact ⟨_,T',rfl,z1⟩
end
theorem f4e:2 ^ 40 < FUEL:=b2c
section
variable {s:a0b} {S:Nat → Int → Prop} {nx:Int} {ops:List GOp} {ids:List Int} {ow:List Str}
theorem e6g {w:a0g} {t:Nat} {tb:x8} {l:List o5} (htb:w.S.Tables[t]? = some tb) (hl:w.X.Tables[t]? = some l) (h6:tb.Columns.length ≤ 6) (h12:l.length ≤ 12) (hrow:∀ r ∈ l,a4n tb r = true) {o:GOp} (hc:b7e tb o.Where) (hcol:o.Columns.length ≤ 6):∃ r,a4a o (t:Int) w = some (r,w):=by
 have hf:=f4e
 have c1:∀ (n i fuel:Nat) (out:List Str),n + i = tb.Columns.length → n < fuel → out.length + n ≤ 1000 → ∃ q,a2n w (t:Int) fuel (i:Int) out = some q ∧ q.length ≤ out.length + n:=by
  intro n
  induction n with
  | zero =>
   intro i fuel out hn hfu _
   obtain ⟨k,rfl⟩:∃ k,fuel = k + 1:=⟨fuel - 1,by omega⟩
   rw [a2n,a0m,htb,Option.bind_some,if_neg (by simp; omega)]
   exact ⟨out,rfl,by omega⟩
  | succ n ih =>
   intro i fuel out hn hfu ho
   obtain ⟨k,rfl⟩:∃ k,fuel = k + 1:=⟨fuel - 1,by omega⟩
   obtain ⟨c,hcc⟩:∃ c,tb.Columns[i]? = some c:=⟨tb.Columns[i]'(by omega),List.getElem?_eq_getElem _⟩
   have ew:w64 ((i:Int) + 1) = ((i + 1:Nat):Int):=by rw [a1d (by omega)]; omega
   rw [a2n,a0m,htb,Option.bind_some,if_pos (by simp; omega),Option.bind_some,a0m,hcc,Option.bind_some,if_pos (by simp; omega),ew]
   obtain ⟨q,q1,q2⟩:=ih (i + 1) k (out ++ [c.Name]) (by omega) (by omega) (by simp; omega)
   exact ⟨q,q1,by simp at q2; omega⟩
 have c2:∀ (cols:List Str),cols.length ≤ 4096 → ∀ (n i fuel:Nat) (out:List o5),n + i = l.length → n < fuel → out.length + n ≤ 1000 → ∃ q,a2o w (t:Int) o cols fuel (i:Int) out = some q:=by
  intro cols hcl n
  induction n with
  | zero =>
   intro i fuel out hn hfu _
   obtain ⟨k,rfl⟩:∃ k,fuel = k + 1:=⟨fuel - 1,by omega⟩
   rw [a2o,a0m,hl,Option.bind_some,if_neg (by simp; omega)]
   exact ⟨out,rfl⟩
  | succ n ih =>
   intro i fuel out hn hfu ho
   obtain ⟨k,rfl⟩:∃ k,fuel = k + 1:=⟨fuel - 1,by omega⟩
   obtain ⟨r,hr⟩:∃ r,l[i]? = some r:=⟨l[i]'(by omega),List.getElem?_eq_getElem _⟩
   have ew:w64 ((i:Int) + 1) = ((i + 1:Nat):Int):=by rw [a1d (by omega)]; omega
   have hrr:=hrow r (List.mem_of_getElem? hr)
   obtain ⟨b,hb⟩:=d8u hrr hc
   rw [a2o,a0m,hl,Option.bind_some,if_pos (by simp; omega),Option.bind_some,a0m,hr,Option.bind_some,a0m,htb,Option.bind_some,hb,Option.bind_some,ew]
   cases b with
   | true =>
    rw [if_pos rfl,Option.bind_some,e1w hrr cols hcl,Option.bind_some,if_pos (by simp; omega)]
    exact ih (i + 1) k _ (by omega) (by omega) (by simp; omega)
   | false => rw [if_neg (by simp)]; exact ih (i + 1) k _ (by omega) (by omega) (by omega)
 have e0:((0:Nat):Int) = 0:=rfl
 unfold a4a
 rw [List.nil_append,if_pos (by omega)]
 obtain ⟨q,q1,q2⟩:∃ q,(if ((o.Columns.length:Int) == 0) = true then a2n w (t:Int) FUEL 0 o.Columns else some o.Columns:Option (List Str)) = some q ∧ q.length ≤ 4096:=by
  split
  ·obtain ⟨q,q1,q2⟩:=c1 tb.Columns.length 0 FUEL o.Columns (by omega) (by omega) (by omega)
   exact ⟨q,q1,by omega⟩
  ·exact ⟨_,rfl,by omega⟩
 rw [q1,Option.bind_some]
 obtain ⟨z,z1⟩:=c2 q q2 l.length 0 FUEL [] (by omega) (by omega) (by simp; omega)
 rw [e0] at z1
 rw [z1]
 exact ⟨_,rfl⟩
theorem f1u {w:a0g} {t:Nat} {tb:x8} {l:List o5} (htb:w.S.Tables[t]? = some tb) (hl:w.X.Tables[t]? = some l) (h12:l.length ≤ 12) (hrow:∀ r ∈ l,a4n tb r = true) {o:GOp} (hc:b7e tb o.Where) {list:List a2c} (hx:∀ x ∈ list,(b2a tb x.Column).isSome = true):∃ r,a7h o (t:Int) list w = some (r,w):=by
 have hf:=b2c
 have c2:∀ r,a4n tb r = true → ∀ (xs:List a2c) (b:Bool),(∀ x ∈ xs,(b2a tb x.Column).isSome = true) → ∃ b',a2f w (t:Int) r xs b = some b':=by
  intro r hr xs
  induction xs with
  | nil => intro b _; exact ⟨b,by rw [a2f]⟩
  | cons x xs ih =>
   intro b h
   obtain ⟨k,hk⟩:=Option.isSome_iff_exists.1 (h x (by simp))
   have hcl:a2e tb x.Column = some (k:Int):=by rw [a8w,hk]; rfl
   rw [a2f]
   cases b with
   | true =>
    rw [if_pos rfl,a0m,htb,Option.bind_some,hcl,Option.bind_some,(c1d (b0q hr) hk).1,Option.bind_some,b9p,Option.bind_some]
    exact ih _ (fun y hy => h y (by simp [hy]))
   | false => rw [if_neg (by simp)]; exact ih _ (fun y hy => h y (by simp [hy]))
 have c1:∀ (n i fuel:Nat) (c:Int) (b:Bool),n + i = l.length → n < fuel → ∃ q,a2g w (t:Int) o list fuel c b (i:Int) = some q:=by
  intro n
  induction n with
  | zero =>
   intro i fuel c b hn hfu
   obtain ⟨k,rfl⟩:∃ k,fuel = k + 1:=⟨fuel - 1,by omega⟩
   rw [a2g,a0m,hl,Option.bind_some,if_neg (by simp; omega)]
   exact ⟨_,rfl⟩
  | succ n ih =>
   intro i fuel c b hn hfu
   obtain ⟨k,rfl⟩:∃ k,fuel = k + 1:=⟨fuel - 1,by omega⟩
   obtain ⟨r,hr⟩:∃ r,l[i]? = some r:=⟨l[i]'(by omega),List.getElem?_eq_getElem _⟩
   have ew:w64 ((i:Int) + 1) = ((i + 1:Nat):Int):=by rw [a1d (by omega)]; omega
   have hrr:=hrow r (List.mem_of_getElem? hr)
   obtain ⟨b2,hb⟩:=d8u hrr hc
   rw [a2g,a0m,hl,Option.bind_some,if_pos (by simp; omega),Option.bind_some,a0m,hr,Option.bind_some,a0m,htb,Option.bind_some,hb,Option.bind_some,ew]
   cases b2 with
   | true =>
    rw [if_neg (by simp)]
    obtain ⟨b3,e3⟩:=c2 r hrr list b hx
    rw [e3,Option.bind_some]
    exact ih (i + 1) k _ _ (by omega) (by omega)
   | false => rw [if_pos (by simp)]; exact ih (i + 1) k _ _ (by omega) (by omega)
 obtain ⟨⟨c,b⟩,q⟩:=c1 l.length 0 FUEL 0 true (by omega) (by omega)
 rw [show ((0:Nat):Int) = 0 from rfl] at q
 unfold a7h
 rw [q,Option.bind_some]
 simp only
 split
 ·rw [Option.bind_some]; split <;> exact ⟨_,rfl⟩
 ·rw [Option.bind_some]; split <;> exact ⟨_,rfl⟩
structure e0n (s:a0b):Prop where
 ok:b2b s = true
 max:∀ t ∈ s.Tables,∀ c ∈ t.Columns,c.Max ≤ 8
 fresh:∀ t ∈ s.Tables,a9x (b7i t) (t.Columns.map b4h) 0 = true
theorem f8m (hs:e0n s) {T:List (List o5)} (hT:StQ s (PrS s S) T) (hN:e0m s S ops ids) (hlen:ops.length ≤ 1000) (hops:∀ o ∈ ops,opB o = true) {i:Nat} (hi:i < ops.length) :
  ∃ r T',a6k (i:Int) (mkW s nx ops ids ow T) = some (r,mkW s nx ops ids ow T') ∧ StQ s (PrS s S) T':=by
 obtain ⟨o,ho⟩:∃ o,ops[i]? = some o:=⟨ops[i],List.getElem?_eq_getElem hi⟩
 have hob:=hops o (List.mem_of_getElem? ho)
 obtain ⟨e,e1,e2⟩:=e8q s o hob
 have es:(mkW s nx ops ids ow T).S = s:=rfl
 have eo:(mkW s nx ops ids ow T).Ops = ops:=rfl
 have ew:(mkW s nx ops ids ow T).Owned = ow:=rfl
 unfold a6k
 rw [eo,a0m,ho,Option.bind_some,es,e1,Option.bind_some]
 by_cases h0:e = 0
 ·rw [if_neg (by simpa using h0)]
  have hcode:=e2 h0
  cases hc:(if (o.Kind == 7) = true then some true else some (o.Kind == 9):Option Bool) with
  | none => exfalso; split at hc <;> cases hc
  | some b =>
   rw [Option.bind_some]
   cases b with
   | true => exact ⟨_,T,rfl,hT⟩
   | false =>
    rw [if_neg (by simp)]
    by_cases h8:o.Kind = 8
    ·rw [if_pos (by simp [h8])]; exact ⟨_,T,rfl,hT⟩
    rw [if_neg (by simpa using h8)]
    by_cases h10:o.Kind = 10
    ·rw [if_pos (by simp [h10])]
     have:∀ xs:List Str,(∃ r,a3t o (mkW s nx ops ids ow T) xs = some (.ret (r,mkW s nx ops ids ow T))) ∨ a3t o (mkW s nx ops ids ow T) xs = some (.go ()):=by
      intro xs
      induction xs with
      | nil => exact .inr (by rw [a3t])
      | cons x xs ih =>
       rw [a3t]
       split
       ·exact .inl ⟨_,rfl⟩
       ·exact ih
     rw [ew]
     rcases this ow with ⟨r,z⟩ | z <;> rw [z] <;> exact ⟨_,T,rfl,hT⟩
    rw [if_neg (by simpa using h10)]
    have hob':=hob
    simp only [opB,c1h,Bool.and_eq_true,decide_eq_true_eq,List.all_eq_true] at hob'
    have hkk:o.Kind ≠ 7 ∧ o.Kind ≠ 9:=by
     by_cases h7:o.Kind = 7
     ·rw [if_pos (by simp [h7])] at hc; cases hc
     ·rw [if_neg (by simpa using h7)] at hc
      exact ⟨h7,by simpa using hc⟩
    rcases hcode with hk | ⟨t,tb,k1,k2,k3,k4,k5,k6⟩
    ·have:=hob'.1.1.1.1.1.1.1.1.1.1.1.1.1
     omega
    have htl:=(List.getElem?_eq_some_iff.1 k2).1
    have h6:=b1a hs.ok (List.mem_of_getElem? k2)
    obtain ⟨l,hl⟩:∃ l,T[t]? = some l:=⟨T[t]'(by rw [hT.len]; exact htl),List.getElem?_eq_getElem _⟩
    obtain ⟨g1,g2,g3⟩:=hT.tab t l hl
    have hrow:∀ r ∈ l,a4n tb r = true:=fun r hr => by obtain ⟨tb',q1,q2,q3⟩:=g3 r hr; rw [k2] at q1; cases q1; exact q2
    obtain ⟨list,e',z,z2⟩:=f1s (mkW s nx ops ids ow T) hN.1 hN.2.1 o.Row hob'.2.1 (by omega)
    have ea:atI (some t) = (t:Int):=rfl
    rw [b9k,k1,ea,Option.bind_some,z,Option.bind_some]
    by_cases h0':e' = 0
    ·simp only [h0',bne_self_eq_false,Bool.false_eq_true,if_false]
     have hx:∀ x ∈ list,(b2a tb x.Column).isSome = true ∧ b2j x.Value = true:=fun x hx => by
      obtain ⟨q1,y,q2,q3⟩:=z2 h0' x hx
      exact ⟨by rw [q3]; exact k5 y q2,q1⟩
     by_cases h1:o.Kind = 1
     ·rw [if_pos (by simp [h1])]
      obtain ⟨r,T',y1,y2⟩:=e6e (nx:=nx) (ow:=ow) hs.ok hs.fresh hT hN hlen ho h1 k1 k2 list hx
      rw [y1]; exact ⟨r,T',rfl,y2⟩
     rw [if_neg (by simpa using h1)]
     by_cases h2:o.Kind = 2
     ·rw [if_pos (by simp [h2])]
      obtain ⟨r,y1⟩:=e6g (w:=mkW s nx ops ids ow T) k2 hl h6 g2 hrow k4 (by omega)
      rw [y1]; exact ⟨r,T,rfl,hT⟩
     rw [if_neg (by simpa using h2)]
     by_cases h6':o.Kind = 6
     ·rw [if_pos (by simp [h6'])]
      obtain ⟨r,y1⟩:=f1u (w:=mkW s nx ops ids ow T) k2 hl g2 hrow k4 (fun x h => (hx x h).1)
      rw [y1]; exact ⟨r,T,rfl,hT⟩
     rw [if_neg (by simpa using h6')]
     obtain ⟨r,T',y1,y2⟩:=e6f (nx:=nx) (ops:=ops) (ids:=ids) (ow:=ow) hs.ok hs.max hT k2 o k4 k6 list hx
     rw [y1]; exact ⟨r,T',rfl,y2⟩
    ·rw [if_pos (by simpa using h0')]; exact ⟨_,T,rfl,hT⟩
 ·rw [if_pos (by simpa using h0)]; exact ⟨_,T,rfl,hT⟩
theorem StQ.P (hs:b2b s = true) {x:x9} (h:StQ s (PrS s S) x.Tables):d2x s x:=by
 have tab:∀ t ∈ s.Tables,d8i t = true:=fun t ht => c2s hs ht
 refine ⟨h.len,fun l hl => ?_,?_,fun t ht => b1a hs ht,fun t ht => ?_,fun q t rows ht hr r hm => ?_⟩
 ·obtain ⟨q,hq⟩:=List.mem_iff_getElem?.1 hl
  exact ⟨(h.tab q l hq).1,(h.tab q l hq).2.1⟩
 ·unfold b2b at hs
  simp only [Bool.and_eq_true] at hs
  intro t ht c hc
  exact List.all_eq_true.1 (List.all_eq_true.1 hs.2 t ht) c hc
 ·have:=tab t ht
  unfold d8i at this
  simp only [Bool.and_eq_true,decide_eq_true_eq] at this
  have hu:=e7z t this.2
  refine ⟨by omega,fun k hk => ?_⟩
  obtain ⟨q,hq⟩:=c2o this.2 hk
  unfold b6z at hq
  simp only [Bool.and_eq_true,decide_eq_true_eq] at hq
  omega
 ·obtain ⟨t',ht',g,_⟩:=(h.tab q rows hr).2.2 r hm
  rw [ht] at ht'; cases ht'
  exact b0q g
theorem c9h:∀ (l:List GOp) (n:Int),1 ≤ n → n + l.length ≤ 1000000 → ∀ (k:Nat) m,(c1i l n)[k]? = some m → (m = 0 ∨ (n ≤ m ∧ m < n + l.length)) ∧ ∀ o,l[k]? = some o → o.Kind = 1 → n ≤ m
 | [],n,_,_,k,m,h => by simp [c1i] at h
 | o :: l,n,h1,h2,k,m,h => by
  simp only [List.length_cons] at h2 ⊢
  rw [c1i] at h
  have ew:w64 (n + 1) = n + 1:=a1d (by omega)
  split at h
  ·rename_i hk
   cases k with
   | zero => simp at h; subst h; exact ⟨.inr ⟨by omega,by omega⟩,fun o' _ _ => by omega⟩
   | succ k =>
    rw [List.getElem?_cons_succ,ew] at h
    obtain ⟨q1,q2⟩:=c9h l (n + 1) (by omega) (by omega) k m h
    exact ⟨by omega,fun o' ho hk' => by have:=q2 o' (by simpa using ho) hk'; omega⟩
  ·rename_i hk
   cases k with
   | zero => simp at h; subst h; exact ⟨.inl rfl,fun o' ho hk' => by simp at ho; subst ho; exact absurd hk' hk⟩
   | succ k =>
    rw [List.getElem?_cons_succ] at h
    obtain ⟨q1,q2⟩:=c9h l n (by omega) (by omega) k m h
    exact ⟨by omega,fun o' ho hk' => q2 o' (by simpa using ho) hk'⟩
theorem e0o:∀ (l:List Int) (m:Int),(∀ n ∈ l,0 ≤ n ∧ n ≤ 1000000) → ∃ v,a5w l m = some v ∧ m ≤ v ∧ (∀ n ∈ l,n < v) ∧ (v = m ∨ ∃ n ∈ l,v = n + 1)
 | [],m,_ => ⟨m,by rw [a5w],by omega,by simp,.inl rfl⟩
 | n :: l,m,h => by
  have hn:=h n (by simp)
  have ew:w64 (n + 1) = n + 1:=a1d (by omega)
  rw [a5w,ew]
  obtain ⟨v,v1,v2,v3,v4⟩:=e0o l (if n + 1 > m then n + 1 else m) (fun y hy => h y (by simp [hy]))
  refine ⟨v,v1,by split at v2 <;> omega,fun y hy => ?_,?_⟩
  ·rcases List.mem_cons.1 hy with rfl | hy
   ·split at v2 <;> omega
   ·exact v3 y hy
  ·rcases v4 with v4 | ⟨y,y1,y2⟩
   ·split at v4
    ·exact .inr ⟨n,by simp,v4⟩
    ·exact .inl v4
   ·exact .inr ⟨y,by simp [y1],y2⟩
theorem e0p (hs:e0n s) (x:x9) (hN:e0m s S ops ids) (hlen:ops.length ≤ 1000) (hops:∀ o ∈ ops,opB o = true):∀ (xs:List GOp) (i:Nat) (T:List (List o5)) (out:List a1m),ops.drop i = xs → StQ s (PrS s S) T → out.length + xs.length ≤ 2000 →
  (∃ res,a4p x xs i s.Tables T nx ops ids ow out = some (.ret (x,res,false))) ∨ ∃ T' res,a4p x xs i s.Tables T nx ops ids ow out = some (.go (s.Tables,T',nx,ops,ids,ow,res)) ∧ StQ s (PrS s S) T' ∧ res.length ≤ 2000
 | [],i,T,out,_,hT,hn => .inr ⟨T,out,by rw [a4p],hT,by simpa using hn⟩
 | o :: xs,i,T,out,hd,hT,hn => by
  simp only [List.length_cons] at hn
  obtain ⟨r,T',e,hT'⟩:=f8m (nx:=nx) (ow:=ow) hs hT hN hlen hops (b4q hd)
  have ew:(⟨⟨s.Tables⟩,⟨T,nx⟩,ops,ids,ow⟩:a0g) = mkW s nx ops ids ow T:=rfl
  rw [a4p,ew,e,Option.bind_some,if_pos (by simp; omega)]
  split
  ·exact .inl ⟨_,rfl⟩
  ·exact e0p hs x hN hlen hops xs (i + 1) T' _ (a6u hd) hT' (by simp; omega)
theorem d8v (hs:e0n s) {x:x9} (hT:StQ s (PrS s S) x.Tables) (hlen:ops.length ≤ 100) (hops:∀ o ∈ ops,opB o = true) (hnx:1 ≤ x.Next ∧ x.Next + 100 ≤ 1000000) (hS:∀ (k:Nat) (o:GOp) (t:Nat) (n:Int),ops[k]? = some o → o.Kind = 1 → b5k s o.Table = some t → (c1i ops x.Next)[k]? = some n → S t n) :
  ∃ y res b,a6g s x ops ow = some (y,res,b) ∧ (y = x ∨ (StQ s (PrS s S) y.Tables ∧ Held s y.Tables ∧ e0c s y = true ∧ e0d s y = true ∧ x.Next ≤ y.Next ∧ y.Next ≤ x.Next + ops.length ∧ ∀ n ∈ c1i ops x.Next,n < y.Next)):=by
 have hid:d6o (c1i ops x.Next):=fun n hn => by
  obtain ⟨k,hk⟩:=List.mem_iff_getElem?.1 hn
  have:=(c9h ops x.Next hnx.1 (by omega) k n hk).1
  omega
 have hN:e0m s S ops (c1i ops x.Next):=⟨d5s _ _,hid,fun k o t n h1 h2 h3 h4 => ⟨by have:=(c9h ops x.Next hnx.1 (by omega) k n h4).2 o h1 h2; omega,hS k o t n h1 h2 h3 h4⟩⟩
 unfold a6g b5q
 rw [c4j ops x.Next [] (by simp; omega),Option.bind_some,Option.bind_some,List.nil_append]
 rcases e0p (nx:=x.Next) (ow:=ow) hs x hN (by omega) hops ops 0 x.Tables [] rfl hT (by simp; omega) with ⟨res,e⟩ | ⟨T',res,e,hT',hres⟩
 ·rw [e]; exact ⟨x,res,false,rfl,.inl rfl⟩
 ·rw [e,Option.bind_some]
  simp only
  obtain ⟨o,o1,o2,o3,o4⟩:=e5v s hs.ok (d3e hs.ok S) ⟨T',x.Next⟩ hT'
  obtain ⟨v,v1,v2,v3,v4⟩:=e0o (c1i ops x.Next) x.Next hid
  have o2:o.Next = x.Next:=o2
  rw [o1,Option.bind_some,Option.bind_some]
  simp only
  rw [o2,v1,Option.bind_some,d5w (StQ.P (x:=⟨o.Tables,v⟩) hs.ok o3),Option.bind_some]
  cases hr:e0c s ⟨o.Tables,v⟩ with
  | false =>
   simp only [if_true]
   rw [if_pos (by decide),if_pos (by simp; omega)]
   exact ⟨x,_,false,rfl,.inl rfl⟩
  | true =>
   cases hu:e0d s ⟨o.Tables,v⟩ with
   | false =>
    simp only [if_true,Bool.true_eq_false,if_false]
    rw [if_pos (by decide),if_pos (by simp; omega)]
    exact ⟨x,_,false,rfl,.inl rfl⟩
   | true =>
    simp only [Bool.true_eq_false,if_false]
    rw [if_neg (by decide)]
    refine ⟨_,_,true,rfl,.inr ⟨o3,o4,hr,hu,v2,?_,v3⟩⟩
    rcases v4 with v4 | ⟨n,n1,n2⟩
    ·show v ≤ _; omega
    ·obtain ⟨k,hk⟩:=List.mem_iff_getElem?.1 n1
     have:=(c9h ops x.Next hnx.1 (by omega) k n hk).1
     show v ≤ _; omega
end
theorem c9i:e0n b1d:=by
 refine ⟨by decide,?_,?_⟩
 ·intro t ht
  have:t = nt0 ∨ t = nt1 ∨ t = nt2:=by simpa [b1d] using ht
  rcases this with rfl | rfl | rfl <;> decide
 ·intro t ht
  exact e5e (by simpa [b1d] using ht)
theorem e8t (n:Int) (s:o8):a0c n s = a1e n s:=b3a n s
structure e6h (J:x9 → Prop):Prop where
 new:J ⟨[[],[],[]],1⟩
 sm:∀ x,J x → smS x
 tr:∀ x ops,J x → 1 ≤ x.Next → x.Next ≤ 1000 → (∀ o ∈ ops,opB o = true) → ops.length ≤ 5 → ∃ y res b,a6g b1d x ops [] = some (y,res,b) ∧ J y ∧ x.Next ≤ y.Next ∧ y.Next ≤ x.Next + 5
theorem c9j {J:x9 → Prop} (hJ:e6h J):∀ (i k:Nat) (s:o8) (x:x9),i < k → J x → 1 ≤ x.Next → x.Next + 5 * i ≤ 1000 → a9z s → s.At + 800 * i + 2000 < 2 ^ 45 → ∃ (s':o8) (y:x9),a4e k i s.Code s.At s.Seed x.Tables x.Next = some (s'.Code,s'.At,s'.Seed,y.Tables,y.Next) ∧ J y ∧ 1 ≤ y.Next ∧ y.Next ≤ 1000
 | _,0,_,_,h,_,_,_,_,_ => by omega
 | 0,k + 1,s,x,h,hx,h1,h2,ho,ha => by
  refine ⟨s,x,?_,hx,h1,by omega⟩
  rw [a4e,if_neg (by simp)]
 | i + 1,k + 1,s,x,h,hx,h1,h2,ho,ha => by
  rw [a4e,if_pos (by simp),b5h,Option.bind_some]
  obtain ⟨l,s1,e,l1,l2,n1⟩:=f1n s ho (by omega)
  obtain ⟨y,res,b,t1,t2,t3,t4⟩:=hJ.tr x l hx h1 (by omega) (List.all_eq_true.1 l1) l2
  have es:(⟨s.Code,s.At,s.Seed⟩:o8) = s:=rfl
  have ex:(⟨x.Tables,x.Next⟩:x9) = x:=rfl
  have ew:w64 (((i + 1:Nat):Int) - 1) = (i:Int):=by rw [a1d (by omega)]; omega
  have:=n1.hi
  obtain ⟨s2,z,q1,q2,q3,q4⟩:=c9j hJ i k s1 y (by omega) t2 (by omega) (by omega) n1.ok (by omega)
  rw [es,e,Option.bind_some,ex,t1,Option.bind_some,ew]
  exact ⟨s2,z,q1,q2,q3,q4⟩
theorem e2l {J:x9 → Prop} (hJ:e6h J) (code:List Int) (hc:∀ x ∈ code,0 ≤ x ∧ x < 256) (hl:(code.length:Int) ≤ 1048576):∃ x,b2w code = some x ∧ J x ∧ 1 ≤ x.Next ∧ x.Next ≤ 1000:=by
 have hf:=b2c
 obtain ⟨s,e1,g1,g2,_⟩:=d6i code hc hl
 have e1':a5m code = some s:=by rw [e2i]; exact e1
 unfold b2w
 rw [e1',Option.bind_some]
 unfold a7m a7v
 have hnew:b5p b1d = some ⟨[[],[],[]],1⟩:=rfl
 have hsz:w64 (1 + (w64 ((s.Code.length:Int).tdiv 12))) = 1 + (s.Code.length:Int) / 12:=by
  have h1:=g1.len
  have e0:w64 ((s.Code.length:Int) / 12) = (s.Code.length:Int) / 12:=a1d (by omega)
  rw [Int.tdiv_eq_ediv_of_nonneg (by omega),e0,a1d (by omega)]
 obtain ⟨m,hm,hm1,hm2⟩:∃ m:Int,(if (8:Int) < w64 (1 + (w64 ((s.Code.length:Int).tdiv 12))) then 8 else w64 (1 + (w64 ((s.Code.length:Int).tdiv 12)))) = m ∧ 1 ≤ m ∧ m ≤ 8:=by
  refine ⟨_,rfl,?_,?_⟩ <;> rw [hsz] <;> split <;> omega
 rw [b5h,Option.bind_some,hnew,Option.bind_some,Option.bind_some]
 simp only [hm]
 rw [a1d (by omega),e8t]
 obtain ⟨v,s1,e2,v1,v2,n1⟩:=a6q (m + 5) s g1 (by rw [g2]; decide) (by omega) (by omega)
 obtain ⟨i,rfl⟩:∃ i:Nat,v = (i:Int):=⟨v.toNat,by omega⟩
 have:=n1.hi
 obtain ⟨s2,x,e3,x1,x2,x3⟩:=c9j hJ i FUEL s1 ⟨[[],[],[]],1⟩ (by omega) hJ.new (by simp) (by simp; omega) n1.ok (by omega)
 rw [e2,Option.bind_some]
 simp only
 rw [e3,Option.bind_some]
 simp only
 rw [b8w ⟨x.Tables,x.Next⟩ (hJ.sm x x1),Option.bind_some,Option.bind_some]
 exact ⟨x,rfl,x1,x2,x3⟩
theorem e8u (k:Int) (s:o8):a1a k s = a6e k s:=by
 unfold a1a a6e
 simp only [b3a,c6h]
theorem d1n:∀ (cs:List a0d) (s:o8) (out:List (List o7)),(∀ c ∈ cs,1 ≤ c.Kind ∧ c.Kind ≤ 4) → a9z s → s.At + 2 * cs.length < 2 ^ 40 → out.length + cs.length ≤ 100 → (∀ d ∈ out,d.length ≤ 1) → ∃ (s':o8) (q:List (List o7)),a6o cs s.Code s.At s.Seed out = some (s'.Code,s'.At,s'.Seed,q) ∧ q.length ≤ 100 ∧ ∀ d ∈ q,d.length ≤ 1
 | [],s,out,_,_,_,hn,hd => ⟨s,out,by rw [a6o],by simp at hn; omega,hd⟩
 | c :: cs,s,out,hk,ho,ha,hn,hd => by
  simp only [List.length_cons] at hn ha
  have es:(⟨s.Code,s.At,s.Seed⟩:o8) = s:=rfl
  obtain ⟨b,s1,e1,n1⟩:=a8p 2 s ho (by omega) (by omega) (by omega)
  have h1:=n1.hi
  have hst:(b4h c).length ≤ 1:=by unfold b4h; split <;> simp
  have hcol:∃ (d:List o7) (s':o8),((a1g 2 s).bind fun r_125 => if r_125.1 then (a6e c.Kind r_125.2).bind fun r_128 => some (r_128.2.Code,r_128.2.At,r_128.2.Seed,[r_128.1]) else some (r_125.2.Code,r_125.2.At,r_125.2.Seed,b4h c):Option ((List Int) × Int × Int × (List o7))) = some (s'.Code,s'.At,s'.Seed,d) ∧ d.length ≤ 1 ∧ Nx s s' 2:=by
   rw [e1,Option.bind_some]
   cases b with
   | false => exact ⟨b4h c,s1,rfl,hst,n1.mono (by omega)⟩
   | true =>
    obtain ⟨a,s2,e2,g1,g2,n2⟩:=c4q c.Kind s1 (hk c (by simp)) n1.ok (by omega)
    rw [e8u] at e2
    simp only [if_true]
    rw [e2,Option.bind_some]
    exact ⟨[a],s2,rfl,by simp,(n1.trans n2).mono (by omega)⟩
  obtain ⟨d,s',q1,q2,n⟩:=hcol
  have h2:=n.hi
  rw [a6o,d6p,Option.bind_some,es,q1,Option.bind_some]
  simp only
  rw [if_pos (by simp; omega)]
  exact d1n cs s' (out ++ [d]) (fun y hy => hk y (by simp [hy])) n.ok (by omega) (by simp; omega) (fun y hy => by rcases List.mem_append.1 hy with h | h; exact hd y h; simp at h; subst h; exact q2)
theorem d8w (more:List Int) (v:Int) (hv:0 ≤ v ∧ v < 3) (hc:∀ x ∈ more,0 ≤ x ∧ x < 256) (hl:(more.length:Int) ≤ 1048576):∃ r,b1k more v = some r ∧ smR r:=by
 unfold b1k
 obtain ⟨s,e1,g1,g2,_⟩:=d6i more hc hl
 rw [e1,Option.bind_some]
 unfold b1t
 obtain ⟨t,et,et2,ht⟩:=b6h v hv
 have hlp:(b1d.Tables.length:Int) = 3:=rfl
 have et3:b1d.Tables[0 + v.toNat]? = some t:=by simpa using et2
 obtain ⟨u,s1,e2,v1,v2,n1⟩:=a6q 9 s g1 (by rw [g2]; decide) (by omega) (by omega)
 have h1:=n1.hi
 have hn:=c8s ht
 obtain ⟨s2,q,e3,q1,q2⟩:=d1n t.Columns s1 [] (e8a ht) n1.ok (by omega) (by simp; omega) (by simp)
 rw [b5h,Option.bind_some,if_pos (by rw [hlp]; exact hv),et3,Option.bind_some,e2,Option.bind_some,e3,Option.bind_some]
 refine ⟨_,rfl,?_,fun d hd => ?_⟩
 ·show q.length ≤ _; omega
 ·have:=q2 d hd; omega
theorem e6i {n:Int}:okI .u8 n ↔ 0 ≤ n ∧ n < 256:=by
 unfold okI Lit.wf
 simp only [Bool.and_eq_true,decide_eq_true_eq,show IntKind.min .u8 = 0 from rfl,show IntKind.max .u8 = 255 from rfl]
 omega
theorem eqL {α:Type} [DecidableEq α] (F:List α → Nat → Option (Fl Bool Unit)) (b:List α) (h0:∀ i,F [] i = some (.go ())) (h1:∀ x xs i y,b[i]? = some y → F (x :: xs) i = if x = y then F xs (i + 1) else some (.ret false)):∀ (xs:List α) (i:Nat),i + xs.length = b.length → F xs i = some (if xs = b.drop i then .go () else .ret false)
 | [],i,h => by rw [h0,List.drop_of_length_le (by simp at h; omega)]; simp
 | x :: xs,i,h => by
  simp only [List.length_cons] at h
  have hi:i < b.length:=by omega
  have ed:=List.drop_eq_getElem_cons hi
  rw [h1 x xs i b[i] (List.getElem?_eq_getElem hi)]
  by_cases e:x = b[i]
  ·rw [if_pos e,eqL F b h0 h1 xs (i + 1) (by omega),ed,e]; simp only [List.cons.injEq,true_and]
  ·rw [if_neg e,ed,if_neg (fun h => e (List.cons.inj h).1)]
theorem eqW {α:Type} [DecidableEq α] (F:List α → Nat → Option (Fl Bool Unit)) (a b:List α) (h0:∀ i,F [] i = some (.go ())) (h1:∀ x xs i y,b[i]? = some y → F (x :: xs) i = if x = y then F xs (i + 1) else some (.ret false)):(if ((a.length:Int) != (b.length:Int)) = true then some false else (F a 0).bind fun q => (match q with | .ret r => some r | .go _ => some true)) = some (decide (a = b)):=by
 by_cases h:a.length = b.length
 ·rw [if_neg (by simp [h]),eqL F b h0 h1 a 0 (by omega),List.drop_zero]
  by_cases e:a = b <;> simp [e]
 ·rw [if_pos (by simp; omega)]
  have:a ≠ b:=fun e => h (by rw [e])
  simp [this]
theorem f4f (a b:List (List o7)):a0p a b a1b = some (decide (a = b)):=by
 unfold a0p
 exact eqW (fun xs i => a0k b a1b xs i) a b (fun i => by simp only [a0k]) (fun x xs i y h => by
  simp only [a0k,a0m,h,Option.bind_some,e8c]
  by_cases e:x = y <;> simp [e])
theorem e2m (a b:o5):a7r a b = some (decide (a = b)):=by
 unfold a7r
 rw [f4f]
 cases a; cases b
 simp only [o5.mk.injEq,Option.bind_some,beq_iff_eq]
 split <;> simp [*]
theorem f4g (a b:List o5):a0o a b a7r = some (decide (a = b)):=by
 unfold a0o
 exact eqW (fun xs i => a0j b a7r xs i) a b (fun i => by simp only [a0j]) (fun x xs i y h => by
  simp only [a0j,a0m,h,Option.bind_some,e2m]
  by_cases e:x = y <;> simp [e])
theorem d8x (a b:List o5):a6c a b = some (decide (a = b)):=by
 unfold a6c
 rw [f4g]; rfl
theorem f4h (a b:List (List o5)):a0v a b a6c = some (decide (a = b)):=by
 unfold a0v
 exact eqW (fun xs i => a0q b a6c xs i) a b (fun i => by simp only [a0q]) (fun x xs i y h => by
  simp only [a0q,a0m,h,Option.bind_some,d8x]
  by_cases e:x = y <;> simp [e])
theorem c5l (a b:x9):a8n a b = some (decide (a = b)):=by
 unfold a8n
 rw [f4h]
 cases a; cases b
 simp only [x9.mk.injEq,Option.bind_some,beq_iff_eq]
 split <;> simp [*]
theorem e8v (a b:List o7):b0p a b = some (decide (a = b)):=by
 unfold b0p
 exact eqW (fun xs i => a7q b xs i) a b (fun i => by simp only [a7q]) (fun x xs i y h => by
  simp only [a7q,a0m,h,Option.bind_some,d2u]
  by_cases e:x = y <;> simp [e])
theorem e9w (a b:o5):b0w a b = some (decide (a = b)):=by
 unfold b0w
 have:=eqW (fun xs i => a9p b xs i) a.Cells b.Cells (fun i => by simp only [a9p]) (fun x xs i y h => by
  simp only [a9p,a0m,h,Option.bind_some,e8v]
  by_cases e:x = y <;> simp [e])
 rw [Option.bind_some]
 by_cases h:a.Id = b.Id
 ·have hb:(bif (a.Id != b.Id) then true else ((a.Cells.length:Int) != (b.Cells.length:Int))) = ((a.Cells.length:Int) != (b.Cells.length:Int)):=by simp [h]
  rw [hb]
  refine this.trans ?_
  cases a; cases b
  simp_all
 ·have hb:(bif (a.Id != b.Id) then true else ((a.Cells.length:Int) != (b.Cells.length:Int))) = true:=by simp [h]
  rw [hb,if_pos rfl]
  have:a ≠ b:=fun e => h (by rw [e])
  simp [this]
theorem f1w (a b:List o5):b1n a b = some (decide (a = b)):=by
 unfold b1n
 exact eqW (fun xs i => a8l b xs i) a b (fun i => by simp only [a8l]) (fun x xs i y h => by
  simp only [a8l,a0m,h,Option.bind_some,e9w]
  by_cases e:x = y <;> simp [e])
theorem f1x (a b:x9):a9q a b = some (decide (a.Tables = b.Tables)):=by
 unfold a9q
 exact eqW (fun xs i => a6p b xs i) a.Tables b.Tables (fun i => by simp only [a6p]) (fun x xs i y h => by
  simp only [a6p,a0m,h,Option.bind_some,f1w]
  by_cases e:x = y <;> simp [e])
theorem e0q (a b:x9):a8m a b = some (decide (a = b)):=by
 unfold a8m
 rw [f1x]
 cases a; cases b
 simp only [x9.mk.injEq,Option.bind_some,beq_iff_eq]
 split <;> simp [*]
structure RX (x:x9):Prop where
 sm:smS x
 ris:∀ l ∈ x.Tables,a4q l = true
theorem d8y {x:x9} (h:RX x) {t:Nat} {l:List o5} (hl:x.Tables[t]? = some l):a3j x (t:Int) = some 0:=by
 have htl:=(List.getElem?_eq_some_iff.1 hl).1
 have h0:=h.sm.1
 unfold a3j b5r
 rw [a9w a3m (fun l => !a4q l) x.Tables (fun l hl => by
  unfold a3m
  have:=(h.sm.2 l hl).1
  rw [d5t l (by unfold maxLen; omega)]; rfl),Option.bind_some]
 have e:x.Tables.any (fun l => !a4q l) = false:=by
  rw [List.any_eq_false]; intro l hl; simp [h.ris l hl]
 rw [e,a1d (by omega),if_neg (by simp),if_pos (by simp),Option.bind_some]
 have:(decide ((t:Int) ≤ (x.Tables.length:Int) - 1)) = true:=by simp; omega
 rw [this]
 rfl
theorem e6j {x:x9} (h:RX x) {t:Nat} {l:List o5} (hl:x.Tables[t]? = some l) (r:o5) (hr:smR r):b4a x (t:Int) r = some (if a1x l r.Id = false ∧ 12 ≤ l.length then (x,7) else (⟨x.Tables.set t (a8r l r),x.Next⟩,0)):=by
 have htl:=(List.getElem?_eq_some_iff.1 hl).1
 have hm:=List.mem_of_getElem? hl
 have h30:=(h.sm.2 l hm).1
 unfold b4a
 rw [d8y h hl,Option.bind_some,if_neg (by simp),c5i x h.sm,Option.bind_some,d5u x t l r.Id hl (h.ris l hm) (by omega),Option.bind_some,a0m,hl]
 cases hh:a1x l r.Id with
 | true =>
  simp only [Bool.not_true,Bool.false_eq_true,if_false,Option.bind_some,Bool.true_eq_false,false_and]
  rw [show 0 + ((t:Int)).toNat = t by simp,hl,Option.bind_some,if_pos ⟨by omega,by omega⟩,b9l r hr.1 hr.2,Option.bind_some,e5m l r (h.ris l hm) (h.sm.2 l hm),Option.bind_some,if_pos ⟨by omega,by omega⟩]
 | false =>
  simp only [Bool.not_false,if_true,Option.bind_some,true_and]
  by_cases h12:12 ≤ l.length
  ·rw [if_pos (by simp; omega),if_pos h12]
  ·rw [if_neg (by simp; omega),if_neg h12,show 0 + ((t:Int)).toNat = t by simp,hl,Option.bind_some,if_pos ⟨by omega,by omega⟩,b9l r hr.1 hr.2,Option.bind_some,e5m l r (h.ris l hm) (h.sm.2 l hm),Option.bind_some,if_pos ⟨by omega,by omega⟩]
theorem e2n {x:x9} (h:RX x) {t:Nat} {l:List o5} (hl:x.Tables[t]? = some l) (r:o5) (hr:smR r):b4b x (t:Int) r = some (if a1x l r.Id = false ∧ 12 ≤ l.length then (x,7) else (⟨x.Tables.set t (a8r l r),x.Next⟩,0)):=by
 have htl:=(List.getElem?_eq_some_iff.1 hl).1
 have hm:=List.mem_of_getElem? hl
 have h0:=h.sm.1
 unfold b4b
 have e:x.Tables.all a4q = true:=List.all_eq_true.2 h.ris
 rw [d8p x (fun l hl => by have:=(h.sm.2 l hl).1; unfold maxLen; omega),Option.bind_some,e,c9x,a1d (by omega),Option.bind_some]
 have hd:(decide (0 ≤ (t:Int) ∧ (t:Int) ≤ (x.Tables.length:Int) - 1)) = true:=by simp; omega
 rw [hd,a0m,hl,Option.bind_some,b7b,Option.bind_some,c4k]
 simp only [Bool.not_true,Bool.false_eq_true,if_false]
 cases hh:a1x l r.Id with
 | true =>
  simp only [Bool.not_true,Bool.false_eq_true,if_false,Option.bind_some,Bool.true_eq_false,false_and]
  rw [c3h x t l r h.sm hl (h.ris l hm) hr]; rfl
 | false =>
  simp only [Bool.not_false,if_true,Option.bind_some,true_and]
  by_cases h12:12 ≤ l.length
  ·rw [if_pos (by simp; omega),if_pos h12,b8w x h.sm]; rfl
  ·rw [if_neg (by simp; omega),if_neg h12,c3h x t l r h.sm hl (h.ris l hm) hr]; rfl
theorem d3f {x:x9} (h:RX x) {t:Nat} {l:List o5} (hl:x.Tables[t]? = some l) (id:Int):b1z x (t:Int) id = some (if a1x l id = true then (b8v l id,0) else (⟨0,[]⟩,5)):=by
 have hm:=List.mem_of_getElem? hl
 have hsl:=h.sm.2 l hm
 unfold b1z
 obtain ⟨m,e,e1,e2⟩:=e8n l id (h.ris l hm) (by have:=hsl.1; omega)
 rw [d8y h hl,Option.bind_some,if_neg (by simp),a0m,hl,Option.bind_some,e,Option.bind_some]
 rcases e2 with ⟨hh,A,r,B,rfl,hA,hr,hA1,hB⟩ | ⟨hh,-⟩
 ·simp only [hh,Bool.not_true,Bool.false_eq_true,if_false,Option.bind_some,if_true]
  have em:idx (A ++ r :: B) ((m:Nat):Int) = some r:=by rw [a0m,← hA]; simp
  have hrs:=hsl.2 r (by simp)
  have ef:b8v (A ++ r :: B) id = r:=by
   unfold b8v
   rw [List.find?_append,List.find?_eq_none.2 (fun y hy => by have:=hA1 y hy; simp; omega)]
   simp [hr]
  rw [em,Option.bind_some,b9l r hrs.1 hrs.2,ef]; rfl
 ·simp only [hh,Bool.not_false,if_true,Bool.false_eq_true,if_false]
theorem d1o {x:x9} (h:RX x) {t:Nat} {l:List o5} (hl:x.Tables[t]? = some l) (id:Int):b0x x (t:Int) id = some (if a1x l id = true then (⟨x.Tables.set t (b2z l id),x.Next⟩,0) else (x,5)):=by
 have htl:=(List.getElem?_eq_some_iff.1 hl).1
 have hm:=List.mem_of_getElem? hl
 have h30:=(h.sm.2 l hm).1
 unfold b0x
 rw [d8y h hl,Option.bind_some,if_neg (by simp),c5i x h.sm,Option.bind_some,d5u x t l id hl (h.ris l hm) (by omega),Option.bind_some]
 cases hh:a1x l id with
 | true =>
  rw [if_neg (by simp),show 0 + ((t:Int)).toNat = t by simp,hl,Option.bind_some,if_pos ⟨by omega,by omega⟩]
  unfold b4t
  rw [Option.bind_some,if_pos ⟨by omega,by omega⟩]; rfl
 | false => rw [if_pos (by simp)]; rfl
theorem RX.set {x:x9} (h:RX x) {t:Nat} {l:List o5} (h1:smL l) (h2:a4q l = true):RX ⟨x.Tables.set t l,x.Next⟩:=by
 refine ⟨⟨by simp; exact h.sm.1,fun m hm => ?_⟩,fun m hm => ?_⟩
 ·rcases List.mem_or_eq_of_mem_set hm with hm | rfl
  ·exact h.sm.2 m hm
  ·exact h1
 ·rcases List.mem_or_eq_of_mem_set hm with hm | rfl
  ·exact h.ris m hm
  ·exact h2
theorem d8z {x:x9} (h:RX x) {t:Nat} {l:List o5} (hl:x.Tables[t]? = some l) (h12:l.length ≤ 12) (r:o5) (hr:smR r) {y:x9} (hy:y = ⟨x.Tables.set t (a8r l r),x.Next⟩) (hf:¬ (a1x l r.Id = false ∧ 12 ≤ l.length)):RX y ∧ y.Tables[t]? = some (a8r l r) ∧ a1x (a8r l r) r.Id = true ∧ b8v (a8r l r) r.Id = r ∧ a1x (b2z (a8r l r) r.Id) r.Id = false ∧ smL (b2z (a8r l r) r.Id) ∧ (a1x l r.Id = false → b2z (a8r l r) r.Id = l) ∧ (a1x l r.Id = true → (b2z (a8r l r) r.Id).length + 1 = l.length) ∧ (a1x l r.Id = false → a8r l r ≠ l):=by
 have htl:=(List.getElem?_eq_some_iff.1 hl).1
 have hm:=List.mem_of_getElem? hl
 have hsl:=h.sm.2 l hm
 have hpl:=e0g l r
 have hps:smL (a8r l r):=⟨by omega,fun q hq => by rcases put_mem hq with rfl | hq; exact hr; exact hsl.2 q hq⟩
 have hpr:=e0f r (h.ris l hm) (by omega)
 have hdl:=d5z (a8r l r) r.Id
 have hds:smL (b2z (a8r l r) r.Id):=⟨by omega,fun q hq => hps.2 q (d5y hq)⟩
 have hdn:a1x (b2z (a8r l r) r.Id) r.Id = false:=by
  unfold a1x b2z
  rw [List.any_eq_false]
  intro q hq
  have:=(List.mem_filter.1 hq).2
  simpa using this
 subst hy
 refine ⟨h.set hps hpr,List.getElem?_set_self htl,?_⟩
 rcases b0z r.Id l (h.ris l hm) with ⟨hh,A,q,B,rfl,hq,hA,hB⟩ | ⟨hh,A,B,rfl,hA,hB⟩
 ·have ep:=b4v (B:=B) hA hq
  have er:b8v (A ++ r :: B) r.Id = r:=by
   unfold b8v
   rw [List.find?_append,List.find?_eq_none.2 (fun y hy => by have:=hA y hy; simp; omega)]
   simp
  have ed:=c1j (A:=A) (B:=B) (r:=r) hA rfl hB
  rw [ep,ed] at hdn hds ⊢
  refine ⟨by simp [a1x],er,hdn,hds,(fun h => by rw [hh] at h; cases h),(fun _ => by simp; omega),(fun h => by rw [hh] at h; cases h)⟩
 ·have ep:=c3g hA hB
  have er:b8v (A ++ r :: B) r.Id = r:=by
   unfold b8v
   rw [List.find?_append,List.find?_eq_none.2 (fun y hy => by have:=hA y hy; simp; omega)]
   simp
  have ed:=c1j (A:=A) (B:=B) (r:=r) hA rfl hB
  rw [ep,ed] at hdn hds ⊢
  refine ⟨by simp [a1x],er,hdn,hds,fun _ => rfl,(fun h => by rw [hh] at h; cases h),fun _ e => ?_⟩
  have:=congrArg List.length e
  simp at this
theorem c9k:e6h fun x => StQ b1d (PrS b1d fun _ _ => True) x.Tables:=by
 refine ⟨⟨rfl,fun i l hl => ?_⟩,fun x hx => b7d (hx.form (d3e c9i.ok _)) c9i.ok,fun x ops hx h1 h2 ho hl => ?_⟩
 ·have:l ∈ [([]:List o5),[],[]]:=List.mem_of_getElem? hl
  have:l = []:=by simpa using this
  subst this
  exact ⟨rfl,by simp,by simp⟩
 ·obtain ⟨y,res,b,e,he⟩:=d8v (ow:=[]) c9i hx (by omega) ho ⟨h1,by omega⟩ (fun _ _ _ _ _ _ _ _ => trivial)
  rcases he with rfl | ⟨g1,-,-,-,g2,g3,-⟩
  ·exact ⟨y,res,b,e,hx,by omega,by omega⟩
  ·exact ⟨y,res,b,e,g1,g2,by omega⟩
theorem d9a (code more:List Int) (h1:okL (okI .u8) code) (h2:okL (okI .u8) more):b5s code more = some true:=by
 unfold b5s
 by_cases c1:(code.length:Int) > 1048576
 ·rw [if_pos (by simpa using c1)]; rfl
 rw [if_neg (by simpa using c1),Option.bind_some]
 by_cases c2:(more.length:Int) > 1048576
 ·rw [if_pos (by simpa using c2)]
 rw [if_neg (by simpa using c2)]
 have hc:∀ z ∈ code,0 ≤ z ∧ z < 256:=fun z hz => by have:=e6i.1 (h1.2 z hz); omega
 have hmr:∀ z ∈ more,0 ≤ z ∧ z < 256:=fun z hz => by have:=e6i.1 (h2.2 z hz); omega
 obtain ⟨x,e1,hx,-,-⟩:=e2l c9k code hc (by omega)
 obtain ⟨v,e2,v1,v2⟩:=f8k more 3 hmr (by omega) (by omega) 0 (by omega)
 obtain ⟨r,e3,hr⟩:=d8w more v ⟨v1,v2⟩ hmr (by omega)
 obtain ⟨t,rfl⟩:∃ t:Nat,v = (t:Int):=⟨v.toNat,by omega⟩
 have hsm:=c9k.sm x hx
 have hlen:x.Tables.length = 3:=hx.len
 obtain ⟨l,hl⟩:∃ l,x.Tables[t]? = some l:=⟨x.Tables[t]'(by omega),List.getElem?_eq_getElem _⟩
 have hX:RX x:=⟨hsm,fun m hm => by obtain ⟨i,hi⟩:=List.mem_iff_getElem?.1 hm; exact (hx.tab i m hi).1⟩
 have h12:=(hx.tab t l hl).2.1
 rw [e1,Option.bind_some,e2,Option.bind_some,e3,Option.bind_some,e6j hX hl r hr,e2n hX hl r hr,Option.bind_some,Option.bind_some,bne_self_eq_false,if_neg (by simp),e0q,Option.bind_some,Option.bind_some]
 simp only [decide_true,Bool.not_true,Bool.false_eq_true,if_false]
 by_cases hf:a1x l r.Id = false ∧ 12 ≤ l.length
 ·rw [if_pos hf]; rfl
 ·rw [if_neg hf]
  obtain ⟨g1,g2,g3,g4,g5,g6,g7,g8,g9⟩:=d8z hX hl h12 r hr rfl hf
  have gz:=g1.set (t:=t) g6 (d5x r.Id (g1.ris _ (List.mem_of_getElem? g2)))
  have htl:t < x.Tables.length:=by omega
  have gz2:((x.Tables.set t (a8r l r)).set t (b2z (a8r l r) r.Id))[t]? = some (b2z (a8r l r) r.Id):=List.getElem?_set_self (by simpa using htl)
  simp only [bne_self_eq_false,Bool.false_eq_true,if_false]
  rw [d3f g1 g2,d1o g1 g2,Option.bind_some,Option.bind_some,if_pos g3,if_pos g3]
  simp only
  rw [d3f gz gz2,d1o gz gz2,Option.bind_some,Option.bind_some,if_neg (show ¬ a1x (b2z (a8r l r) r.Id) r.Id = true by rw [g5]; simp),if_neg (show ¬ a1x (b2z (a8r l r) r.Id) r.Id = true by rw [g5]; simp)]
  simp only [bne_self_eq_false,Bool.false_eq_true,if_false]
  rw [e9w,g4,Option.bind_some]
  simp only [decide_true,Bool.not_true,cond_false,bne_self_eq_false,Bool.false_eq_true,if_false]
  rw [c5l,Option.bind_some,Option.bind_some]
  simp only [decide_true,Bool.not_true,Bool.false_eq_true,if_false]
  rw [d3f hX hl,Option.bind_some]
  cases hh:a1x l r.Id with
  | false =>
   have e4:(⟨(x.Tables.set t (a8r l r)).set t (b2z (a8r l r) r.Id),x.Next⟩:x9) = x:=by
    rw [g7 hh,List.set_set,e0k hl]
   simp only [Bool.false_eq_true,if_false]
   rw [if_pos (by simp),e0q,e4,Option.bind_some]
   simp only [decide_true,if_true]
   rw [c5l,Option.bind_some]
   have:x ≠ ⟨x.Tables.set t (a8r l r),x.Next⟩:=by
    intro e
    have e5:=congrArg (fun z => z.Tables[t]?) e
    simp only [hl,List.getElem?_set_self htl,Option.some.injEq] at e5
    exact g9 hh e5.symm
   simp [this]
  | true =>
   simp only [if_true]
   rw [if_neg (by simp),if_pos (by simp),a0m,a0m,gz2,hl,Option.bind_some,Option.bind_some]
   have:=g8 hh
   rw [a1d (by omega)]
   simp; omega
end Go.R
end
