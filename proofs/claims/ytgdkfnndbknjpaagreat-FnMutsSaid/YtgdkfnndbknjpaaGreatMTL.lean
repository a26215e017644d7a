/- Plain laws of what this statement reaches. -/
import Derived.Test.YtgdkfnndbknjpaaGreatMTH
import Derived.Test.YtgdkfnndbknjpaaGreatP0
set_option linter.all false
namespace Go.R
open Go
set_option linter.all false
theorem a5i (f:a0m → Option Bool) (p:a0m → Bool):∀ (xs:List a0m) (i:Nat),(∀ x ∈ xs,f x = some (p x)) → a0y f xs i = some (match xs.findIdx? p with | some k => .ret ((i + k:Nat):Int) | none => .go ())
  | [],i,_ => by rw [a0y]; rfl
  | x :: xs,i,h => by
    rw [a0y,h x (by simp),Option.bind_some,a5i f p xs (i + 1) (fun y hy => h y (by simp [hy])),List.findIdx?_cons]
    cases hp:p x with
    | true => simp
    | false =>
      cases hq:xs.findIdx? p with
      | none => simp
      | some k => simp; omega
theorem a7y (f:a0m → Option Bool) (p:a0m → Bool) (xs:List a0m) (h:∀ x ∈ xs,f x = some (p x)):a2e xs f = some (match xs.findIdx? p with | some k => (k:Int) | none => -1):=by
  unfold a2e
  rw [a5i f p xs 0 h]
  cases hq:xs.findIdx? p with
  | none => rfl
  | some k => simp
theorem a6d (f:a2w → Option Bool) (p:a2w → Bool):∀ (xs:List a2w) (i:Nat),(∀ x ∈ xs,f x = some (p x)) → a1d f xs i = some (match xs.findIdx? p with | some k => .ret ((i + k:Nat):Int) | none => .go ())
  | [],i,_ => by rw [a1d]; rfl
  | x :: xs,i,h => by
    rw [a1d,h x (by simp),Option.bind_some,a6d f p xs (i + 1) (fun y hy => h y (by simp [hy])),List.findIdx?_cons]
    cases hp:p x with
    | true => simp
    | false =>
      cases hq:xs.findIdx? p with
      | none => simp
      | some k => simp; omega
theorem a9u (f:a2w → Option Bool) (p:a2w → Bool) (xs:List a2w) (h:∀ x ∈ xs,f x = some (p x)):a2z xs f = some (match xs.findIdx? p with | some k => (k:Int) | none => -1):=by
  unfold a2z
  rw [a6d f p xs 0 h]
  cases hq:xs.findIdx? p with
  | none => rfl
  | some k => simp
theorem a6q (f:Str → Option Bool) (p:Str → Bool):∀ (xs:List Str) (i:Nat),(∀ x ∈ xs,f x = some (p x)) → a1l f xs i = some (match xs.findIdx? p with | some k => .ret ((i + k:Nat):Int) | none => .go ())
  | [],i,_ => by rw [a1l]; rfl
  | x :: xs,i,h => by
    rw [a1l,h x (by simp),Option.bind_some,a6q f p xs (i + 1) (fun y hy => h y (by simp [hy])),List.findIdx?_cons]
    cases hp:p x with
    | true => simp
    | false =>
      cases hq:xs.findIdx? p with
      | none => simp
      | some k => simp; omega
theorem b1s (f:Str → Option Bool) (p:Str → Bool) (xs:List Str) (h:∀ x ∈ xs,f x = some (p x)):a3q xs f = some (match xs.findIdx? p with | some k => (k:Int) | none => -1):=by
  unfold a3q
  rw [a6q f p xs 0 h]
  cases hq:xs.findIdx? p with
  | none => rfl
  | some k => simp
theorem a8q (f:a2w → Option Bool) (p:a2w → Bool) (xs:List a2w) (h:∀ x ∈ xs,f x = some (p x)):a2o xs f = some (xs.any p):=by
  unfold a2o
  rw [a9u f p xs h,Option.bind_some]
  cases hq:xs.findIdx? p with
  | none =>
    have:xs.any p = false:=by
      rw [List.any_eq_false]
      intro x hx
      have:=List.findIdx?_eq_none_iff.1 hq x hx
      simp [this]
    rw [this]; rfl
  | some k =>
    have:xs.any p = true:=by
      obtain ⟨x,hx,hp⟩:∃ x,x ∈ xs ∧ p x = true:=by
        have:=List.findIdx?_eq_some_iff_getElem.1 hq
        obtain ⟨hk,h1,_⟩:=this
        exact ⟨xs[k],List.getElem_mem _,h1⟩
      exact List.any_eq_true.2 ⟨x,hx,hp⟩
    rw [this]
    simp
theorem b0f (f:Str → Option Bool) (p:Str → Bool) (xs:List Str) (h:∀ x ∈ xs,f x = some (p x)):a3e xs f = some (xs.any p):=by
  unfold a3e
  rw [b1s f p xs h,Option.bind_some]
  cases hq:xs.findIdx? p with
  | none =>
    have:xs.any p = false:=by
      rw [List.any_eq_false]
      intro x hx
      have:=List.findIdx?_eq_none_iff.1 hq x hx
      simp [this]
    rw [this]; rfl
  | some k =>
    have:xs.any p = true:=by
      obtain ⟨x,hx,hp⟩:∃ x,x ∈ xs ∧ p x = true:=by
        have:=List.findIdx?_eq_some_iff_getElem.1 hq
        obtain ⟨hk,h1,_⟩:=this
        exact ⟨xs[k],List.getElem_mem _,h1⟩
      exact List.any_eq_true.2 ⟨x,hx,hp⟩
    rw [this]
    simp
def b6m (c:UInt8):Bool:=!(decide ((c.toNat:Int) < 32) || decide ((c.toNat:Int) > 126))
def c4r (t:Str):Bool:=t.all b6m && decide ((t.length:Int) ≤ 200)
theorem c4s:∀ t:Str,a4v t = some (if t.all b6m = true then .go () else .ret false)
  | [] => by rw [a4v]; simp
  | x :: xs => by
    rw [a4v,c4s xs]
    by_cases h1:(x.toNat:Int) < 32
    · simp [h1,b6m]
    · by_cases h2:(x.toNat:Int) > 126
      · simp [h1,h2,b6m]
      · simp [h1,h2,b6m]
theorem d9j (t:Str):b1h t = some (c4r t):=by
  unfold b1h c4r
  rw [c4s]
  by_cases h:t.all b6m = true
  · simp only [h,if_pos,Option.bind_some,Bool.true_and]
  · simp only [h,Bool.not_eq_true] at h ⊢
    simp [h]
theorem a8c (n a b:Int):a3v n a b = some (decide (a ≤ n ∧ n ≤ b)):=by
  unfold a3v
  by_cases h:a ≤ n <;> simp [h]
theorem c6z:∀ t:Str,a5c t = some (if t.all b6m = true then .go () else .ret false)
  | [] => by rw [a5c]; simp
  | x :: xs => by
    rw [a5c,c6z xs]
    by_cases h1:(x.toNat:Int) < 32
    · simp [h1,b6m]
    · by_cases h2:(x.toNat:Int) > 126
      · simp [h1,h2,b6m]
      · simp [h1,h2,b6m]
theorem e0u (t:Str):b1o t = some (c4r t):=by
  unfold b1o c4r
  rw [c6z]
  by_cases h:t.all b6m = true
  · simp only [h,if_pos,Option.bind_some,Bool.true_and]
  · simp only [h,Bool.not_eq_true] at h ⊢
    simp [h]
theorem c5x (n a b:Int):a3r n a b = some (decide (a ≤ n ∧ n ≤ b)):=by
  unfold a3r
  by_cases h:a ≤ n <;> simp [h]
theorem c4t:∀ a b:Str,Lib.compareBytes a b = -1 ∨ Lib.compareBytes a b = 0 ∨ Lib.compareBytes a b = 1
  | [],[] => by simp [Lib.compareBytes]
  | [],_ :: _ => by simp [Lib.compareBytes]
  | _ :: _,[] => by simp [Lib.compareBytes]
  | a :: xs,b :: ys => by
    have:=c4t xs ys
    unfold Lib.compareBytes
    split
    · simp
    · split
      · simp
      · exact this
theorem c0u (a b:UInt8):a < b ∨ a = b ∨ b < a:=by
  simp only [UInt8.lt_iff_toNat_lt,← UInt8.toNat_inj]
  omega
theorem b5k {a b:UInt8} (h:a < b):¬ b < a:=by
  simp only [UInt8.lt_iff_toNat_lt] at *
  omega
theorem c7a:∀ a b:Str,Lib.compareBytes b a = - Lib.compareBytes a b
  | [],[] => by simp [Lib.compareBytes]
  | [],_ :: _ => by simp [Lib.compareBytes]
  | _ :: _,[] => by simp [Lib.compareBytes]
  | a :: xs,b :: ys => by
    have ih:=c7a xs ys
    unfold Lib.compareBytes
    rcases c0u a b with h | h | h
    · simp [h,b5k h]
    · subst h; simp [UInt8.lt_irrefl,ih]
    · simp [h,b5k h]
theorem b7b:∀ a b:Str,Lib.compareBytes a b = 0 ↔ a = b
  | [],[] => by simp [Lib.compareBytes]
  | [],_ :: _ => by simp [Lib.compareBytes]
  | _ :: _,[] => by simp [Lib.compareBytes]
  | a :: xs,b :: ys => by
    have ih:=b7b xs ys
    unfold Lib.compareBytes
    rcases c0u a b with h | h | h
    · have hne:a ≠ b:=by rintro rfl; exact UInt8.lt_irrefl _ h
      simp [h,hne]
    · subst h; simp [UInt8.lt_irrefl,ih]
    · have hne:a ≠ b:=by rintro rfl; exact UInt8.lt_irrefl _ h
      simp [h,b5k h,hne]
theorem c7b:∀ a b:Str,Op.bytesLess a b = decide (Lib.compareBytes a b < 0)
  | [],[] => by simp [Lib.compareBytes,Op.bytesLess]
  | [],_ :: _ => by simp [Lib.compareBytes,Op.bytesLess]
  | _ :: _,[] => by simp [Lib.compareBytes,Op.bytesLess]
  | a :: xs,b :: ys => by
    have ih:=c7b xs ys
    unfold Lib.compareBytes Op.bytesLess
    rcases c0u a b with h | h | h
    · simp [h]
    · subst h; simp [UInt8.lt_irrefl,ih]
    · have hne:¬ a = b:=by rintro rfl; exact UInt8.lt_irrefl _ h
      simp [h,b5k h,hne]
def a7k (a b:o8):Int:=if a.Kind ≠ b.Kind then (if a.Kind < b.Kind then -1 else 1) else if a.N ≠ b.N then (if a.N < b.N then -1 else 1) else Lib.compareBytes a.T b.T
theorem b3h (a b:o8):a7k a b = 0 ↔ a = b:=by
  unfold a7k
  cases a with | mk k n t =>
  cases b with | mk k' n' t' =>
  simp only [o8.mk.injEq]
  by_cases h1:k = k'
  · subst h1
    by_cases h2:n = n'
    · subst h2; simp [b7b]
    · simp [h2]; split <;> omega
  · simp [h1]; split <;> omega
theorem c7c (a b:o8):a7k b a = - a7k a b:=by
  unfold a7k
  cases a with | mk k n t =>
  cases b with | mk k' n' t' =>
  by_cases h1:k = k'
  · subst h1
    by_cases h2:n = n'
    · subst h2; simp [c7a t t']
    · have h3:¬ n' = n:=fun h => h2 h.symm
      simp [h2,h3]; split <;> split <;> omega
  · have h3:¬ k' = k:=fun h => h1 h.symm
    simp [h1,h3]; split <;> split <;> omega
theorem d7p (x y:Int):cmp_Compare_int x y = some (if x < y then -1 else if x > y then 1 else 0):=by
  unfold cmp_Compare_int cmp_isNaN_int
  by_cases h1:x < y <;> by_cases h2:x > y <;> simp [h1,h2]
theorem b6n (a b:o8):a5u a b = some (a7k a b):=by
  unfold a5u strings_Compare a4k b5g
  simp only [d7p,Option.bind_some]
  unfold a7k
  by_cases h1:a.Kind = b.Kind
  · by_cases h2:a.N = b.N
    · have e1:(if a.Kind < b.Kind then (-1:Int) else if a.Kind > b.Kind then 1 else 0) = 0:=by rw [h1]; simp
      have e2:(if a.N < b.N then (-1:Int) else if a.N > b.N then 1 else 0) = 0:=by rw [h2]; simp
      rw [e1,e2]
      simp only [a4s,h1,h2]
      by_cases h3:Lib.compareBytes a.T b.T = 0
      · simp [h3]
      · simp [h3]
    · have e1:(if a.Kind < b.Kind then (-1:Int) else if a.Kind > b.Kind then 1 else 0) = 0:=by rw [h1]; simp
      rw [e1]
      rcases Int.lt_or_gt_of_ne h2 with h3 | h3
      · simp [a4s,h1,h2,h3]
      · have h4:¬ a.N < b.N:=by omega
        simp [a4s,h1,h2,h3,h4]
  · rcases Int.lt_or_gt_of_ne h1 with h3 | h3
    · simp [a4s,h1,h3]
    · have h4:¬ a.Kind < b.Kind:=by omega
      simp [a4s,h1,h3,h4]
theorem d3l (a b:o8):a6p a b = some (a7k a b):=by
  unfold a6p b0r a7k
  have w0:w64 (1 - w64 0) = 1:=by decide
  have w1:w64 (1 - w64 2) = -1:=by decide
  by_cases h1:a.Kind = b.Kind
  · by_cases h2:a.N = b.N
    · simp only [h1,h2,bne_self_eq_false,Bool.false_eq_true,if_false,ne_eq,not_true_eq_false,c7b]
      by_cases h3:a.T = b.T
      · simp [h3,(b7b b.T b.T).2 rfl]
      · have hne:Lib.compareBytes a.T b.T ≠ 0:=fun h => h3 ((b7b _ _).1 h)
        rcases c4t a.T b.T with h | h | h
        · simp [h3,h,w1]
        · exact absurd h hne
        · simp [h3,h,w0]
    · by_cases h3:a.N < b.N <;> simp [h1,h2,h3,w0,w1]
  · by_cases h3:a.Kind < b.Kind <;> simp [h1,h3,w0,w1]
def a7r (a:o8):Bool :=
  (decide (a.Kind = 1) && decide (-1000000000 ≤ a.N ∧ a.N ≤ 1000000000) && decide (a.T = [])) ||
  (decide (a.Kind = 2) && decide (a.N = 0) && c4r a.T) ||
  (decide (a.Kind = 3) && decide (0 ≤ a.N ∧ a.N ≤ 1) && decide (a.T = [])) ||
  (decide (a.Kind = 4) && decide (1 ≤ a.N ∧ a.N ≤ 1000000) && decide (a.T = []))
theorem d7q (a:o8):b0t a = some (a7r a):=by
  unfold b0t a6f b3g a7r
  simp only [a8c,d9j,Option.bind_some]
  by_cases h1:a.Kind = 1
  · simp only [h1]
    by_cases c:(-1000000000 ≤ a.N ∧ a.N ≤ 1000000000) <;> by_cases d:a.T = [] <;> simp [c,d]
  by_cases h2:a.Kind = 2
  · simp only [h2]
    by_cases c:a.N = 0 <;> simp [c]
  by_cases h3:a.Kind = 3
  · simp only [h3]
    by_cases c:(0 ≤ a.N ∧ a.N ≤ 1) <;> by_cases d:a.T = [] <;> simp [c,d]
  by_cases h4:a.Kind = 4
  · simp only [h4]
    by_cases c:(1 ≤ a.N ∧ a.N ≤ 1000000) <;> by_cases d:a.T = [] <;> simp [c,d]
  · simp [h1,h2,h3,h4]
def b9j (d:List o8) (q:Nat) (x:o8):Bool :=
  a7r x && (match d[0]? with | some h => x.Kind == h.Kind | none => false) && (q == 0 || match d[q - 1]? with | some y => decide (a7k y x < 0) | none => false)
def allS (d:List o8):List o8 → Nat → Bool
  | [],_ => true
  | x :: xs,i => b9j d i x && allS d xs (i + 1)
def b4s (d:List o8):Bool:=allS d d 0 && decide ((d.length:Int) ≤ 8)
theorem c4u (d:List o8):∀ (xs:List o8) (i:Nat),allS d xs i = true ↔ ∀ q x,xs[q]? = some x → b9j d (i + q) x = true
  | [],i => by simp [allS]
  | x :: xs,i => by
    simp only [allS,Bool.and_eq_true,c4u d xs (i + 1)]
    constructor
    · rintro ⟨h1,h2⟩ q y hq
      cases q with
      | zero => simp at hq; subst hq; simpa using h1
      | succ q => have:=h2 q y (by simpa using hq); rw [show i + (q + 1) = i + 1 + q from by omega]; exact this
    · intro h
      refine ⟨by simpa using h 0 x (by simp),fun q y hq => ?_⟩
      have:=h (q + 1) y (by simpa using hq)
      rw [show i + 1 + q = i + (q + 1) from by omega]; exact this
theorem d7r (d:List o8) (i:Nat) (x:o8) (hi:i < d.length) (hl:d.length ≤ maxLen) (A:o8 → Option Bool) (hA:∀ a,A a = some (a7r a)) (O:o8 → o8 → Option Int) (hO:∀ a b,O a b = some (a7k a b)) :
    ((A x).bind fun r_110 =>
    if (!r_110) then
    some true
    else
    (idx d 0).bind fun x_113 =>
    if (x.Kind != x_113.Kind) then
    some true
    else
    if (decide ((i:Int) > 0)) then
    (idx d (w64 ((i:Int) - 1))).bind fun x_117 =>
    (O x_117 x).bind fun r_119 =>
    some (decide (r_119 ≥ 0))
    else
    some false:Option Bool) = some (!b9j d i x):=by
  simp only [maxLen] at hl
  obtain ⟨h,hh⟩:∃ h,d[0]? = some h:=⟨d[0],List.getElem?_eq_getElem (by omega)⟩
  have e0:idx d 0 = some h:=by rw [show (0:Int) = ((0:Nat):Int) from rfl,a7t,hh]
  rw [hA,Option.bind_some,e0]
  unfold b9j
  rw [hh]
  by_cases ha:a7r x = true
  · by_cases hk:x.Kind = h.Kind
    · by_cases h0:i = 0
      · subst h0; simp [ha,hk]
      · obtain ⟨y,hy⟩:∃ y,d[i - 1]? = some y:=⟨d[i - 1],List.getElem?_eq_getElem (by omega)⟩
        have e1:w64 ((i:Int) - 1) = ((i - 1:Nat):Int):=by rw [a2v (by omega)]; omega
        rw [e1,a7t,hy]
        have hp:0 < i:=by omega
        simp [ha,hk,h0,hO,hp]
        by_cases hc:a7k y x < 0
        · have:¬ 0 ≤ a7k y x:=by omega
          simp [hc,this,h0]
        · have:0 ≤ a7k y x:=by omega
          simp [hc,this,h0]
    · simp [ha,hk]
  · simp only [Bool.not_eq_true] at ha
    simp [ha]
theorem b9k (d:List o8) (hl:d.length ≤ maxLen):∀ (xs:List o8) (i:Nat),d.drop i = xs → a4w d xs i = some (if allS d xs i = true then .go () else .ret false)
  | [],i,h => by rw [a4w]; simp [allS]
  | x :: xs,i,h => by
    rw [a4w,d7r d i x (b8z h) hl b0t d7q a5u b6n,Option.bind_some,b9k d hl xs (i + 1) (b0q h)]
    cases hs:b9j d i x <;> simp [allS,hs]
theorem c7d (d:List o8) (hl:d.length ≤ maxLen):a9i d = some (b4s d):=by
  unfold a9i b4s
  rw [b9k d hl d 0 (by simp)]
  cases allS d d 0 <;> simp
structure a7j (k:Int) (d:List o8):Prop where
  atom:∀ x ∈ d,a7r x = true ∧ x.Kind = k
  ord:∀ i x y,d[i]? = some x → d[i + 1]? = some y → a7k x y < 0
theorem a7j.allS {k:Int} {d:List o8} (h:a7j k d):allS d d 0 = true:=by
  rw [c4u]
  intro q x hq
  obtain ⟨h1,h2⟩:=h.atom x (List.mem_of_getElem? hq)
  have hlt:=(List.getElem?_eq_some_iff.1 hq).1
  obtain ⟨z,hz⟩:∃ z,d[0]? = some z:=⟨d[0],List.getElem?_eq_getElem (by omega)⟩
  obtain ⟨_,g2⟩:=h.atom z (List.mem_of_getElem? hz)
  unfold b9j
  simp only [Nat.zero_add,h1,hz,h2,g2,Bool.true_and,beq_self_eq_true]
  by_cases h0:q = 0
  · simp [h0]
  · obtain ⟨y,hy⟩:∃ y,d[q - 1]? = some y:=⟨d[q - 1],List.getElem?_eq_getElem (by omega)⟩
    have:=h.ord (q - 1) y x hy (by rw [show q - 1 + 1 = q from by omega]; exact hq)
    simp [hy,this]
theorem d4z (a:o8):b0v a = some (a7r a):=by
  unfold b0v a7r
  simp only [c5x,e0u,Option.bind_some]
  by_cases h1:a.Kind = 1
  · simp only [h1]
    by_cases c:(-1000000000 ≤ a.N ∧ a.N ≤ 1000000000) <;> by_cases d:a.T = [] <;> simp [c,d]
  by_cases h2:a.Kind = 2
  · simp only [h2]
    by_cases c:a.N = 0 <;> simp [c]
  by_cases h3:a.Kind = 3
  · simp only [h3]
    by_cases c:(0 ≤ a.N ∧ a.N ≤ 1) <;> by_cases d:a.T = [] <;> simp [c,d]
  by_cases h4:a.Kind = 4
  · simp only [h4]
    by_cases c:(1 ≤ a.N ∧ a.N ≤ 1000000) <;> by_cases d:a.T = [] <;> simp [c,d]
  · simp [h1,h2,h3,h4]
theorem b7n (d:List o8) (hl:d.length ≤ maxLen):∀ (xs:List o8) (i:Nat),d.drop i = xs → a5d d xs i = some (if allS d xs i = true then .go () else .ret false)
  | [],i,h => by rw [a5d]; simp [allS]
  | x :: xs,i,h => by
    rw [a5d,d7r d i x (b8z h) hl b0v d4z a6p d3l,Option.bind_some,b7n d hl xs (i + 1) (b0q h)]
    cases hs:b9j d i x <;> simp [allS,hs]
theorem c4v (d:List o8):a9m d = some (b4s d):=by
  unfold a9m b4s
  by_cases h:(d.length:Int) > 4096
  · rw [if_pos (by simpa using h)]
    have:¬ (d.length:Int) ≤ 8:=by omega
    simp [this]
  · rw [if_neg (by simpa using h),b7n d (by simp only [maxLen]; omega) d 0 (by simp)]
    cases allS d d 0 <;> simp
def isLet (c:Int):Bool:=(decide (97 ≤ c) && decide (c ≤ 122)) || (decide (65 ≤ c) && decide (c ≤ 90)) || c == 95
def c1j (c:Int):Bool:=decide (48 ≤ c) && decide (c ≤ 57)
theorem c1k (c:Int):a7p c = some (isLet c):=by
  unfold a7p isLet
  by_cases h1:97 ≤ c <;> by_cases h2:c ≤ 122 <;> by_cases h3:65 ≤ c <;> by_cases h4:c ≤ 90 <;> by_cases h5:c = 95 <;> simp [h1,h2,h3,h4,h5]
theorem d2a (c:Int):b0b c = some (c1j c):=by
  unfold b0b c1j
  by_cases h1:48 ≤ c <;> simp [h1]
theorem d5a (c:Int):b1f c = some (c1j c):=by
  unfold b1f c1j
  by_cases h1:48 ≤ c <;> simp [h1]
def b5l (b:UInt8):Bool:=isLet b.toNat || c1j b.toNat
def a8i (t:Str):Bool:=decide (1 ≤ t.length) && decide (t.length ≤ 40) && isLet (t.headD 0).toNat && (t.drop 1).all b5l
theorem b9l:∀ (t:Str),a5b t = some (if t.all b5l then .go () else .ret false)
  | [] => by rw [a5b]; rfl
  | c :: t => by
    rw [a5b,c1k,Option.bind_some,d2a,b9l t]
    cases h1:isLet (c.toNat:Int) <;> cases h2:c1j (c.toNat:Int) <;> simp [b5l,h1,h2]
theorem d5b (t:Str):b1n t = some (a8i t):=by
  unfold b1n a8i
  cases t with
  | nil => rfl
  | cons c t =>
    have e:idx (c :: t) 0 = some c:=rfl
    rw [e,Option.bind_some,c1k,Option.bind_some,b9l]
    have e1:decide (((c :: t).length:Int) < 1) = false:=decide_eq_false (by simp only [List.length_cons]; omega)
    have e2:decide (1 ≤ (c :: t).length) = true:=decide_eq_true (by simp only [List.length_cons]; omega)
    rw [e1,e2]
    by_cases h:(c :: t).length ≤ 40
    · have e3:decide (((c :: t).length:Int) > 40) = false:=decide_eq_false (by omega)
      have e4:decide ((c :: t).length ≤ 40) = true:=decide_eq_true h
      rw [e3,e4]
      cases h1:isLet (c.toNat:Int) <;> cases h3:t.all b5l <;> simp [h1,h3]
    · have e3:decide (((c :: t).length:Int) > 40) = true:=decide_eq_true (by omega)
      have e4:decide ((c :: t).length ≤ 40) = false:=decide_eq_false h
      rw [e3,e4]
      simp
theorem b9m (t:Str):a8z t = some (a8i t):=by
  unfold a8z
  rw [d5b]; rfl
def d0h (p:UInt8 × Nat):Bool:=isLet p.1.toNat || (p.2 != 0 && c1j p.1.toNat)
theorem c1l:∀ (t:Str) (i:Nat),a5r t i = some (if (t.zipIdx i).all d0h then .go () else .ret false)
  | [],i => by rw [a5r]; rfl
  | c :: t,i => by
    have e0:((i:Int) == 0) = (i == 0):=by cases i <;> simp; omega
    rw [a5r,c1l t (i + 1),List.zipIdx_cons,List.all_cons,d5a,e0]
    unfold d0h isLet
    generalize (List.zipIdx t (i + 1)).all _ = A
    generalize c1j (c.toNat:Int) = D
    generalize (c.toNat:Int) = n
    by_cases h1:97 ≤ n <;> by_cases h2:n ≤ 122 <;> by_cases h3:65 ≤ n <;> by_cases h4:n ≤ 90 <;> by_cases h5:n = 95 <;> cases D <;> by_cases h0:i = 0 <;> simp [h1,h2,h3,h4,h5,h0]
theorem d0i (t:Str):a8t t = some (a8i t):=by
  unfold a8t a8i
  rw [c1l,Option.bind_some]
  have hz:∀ (r:Str) (k:Nat),(r.zipIdx (k + 1)).all d0h = r.all b5l:=by
    intro r
    induction r with
    | nil => intro k; rfl
    | cons c r ih => intro k; simp only [List.zipIdx_cons,List.all_cons,ih (k + 1)]; rfl
  cases t with
  | nil => simp [a8c]
  | cons c t =>
    rw [List.zipIdx_cons,List.all_cons,hz t 0]
    have hl:decide (1 ≤ (c :: t).length) = true:=decide_eq_true (by simp)
    have e:d0h (c,0) = isLet (c.toNat:Int):=by simp [d0h]
    rw [e,hl,a8c,Bool.decide_and]
    have e2:decide ((1:Int) ≤ ((c :: t).length:Int)) = true:=decide_eq_true (by simp only [List.length_cons]; omega)
    have e3:decide (((c :: t).length:Int) ≤ 40) = decide ((c :: t).length ≤ 40):=by rw [decide_eq_decide]; omega
    rw [e2,e3]
    show _ = some ((true && _ && isLet (c.toNat:Int)) && t.all b5l)
    cases isLet (c.toNat:Int) <;> cases t.all b5l <;> simp
def b6o (t:Str):Bool:=decide ((t.length:Int) ≤ 40)
theorem d2b (l:List Str):a9x l = some (l.all b6o):=by
  unfold a9x
  rw [b0f _ (fun t => !b6o t) l (fun x _ => by unfold b0h b6o; congr 1; rw [Bool.eq_iff_iff]; simp),Option.bind_some,List.not_any_eq_all_not]
  simp
def b2q (c:a2w):Bool:=decide (1 ≤ c.Func ∧ c.Func ≤ 7) && b4s c.Value && b6o c.Column
theorem d3m (c:a2w) (h:c.Value.length ≤ maxLen):b1w c = some (b2q c):=by
  unfold b1w b2q
  rw [a8c,Option.bind_some,c7d _ h,Option.bind_some,d2b,Option.bind_some]
  by_cases h1:(1 ≤ c.Func ∧ c.Func ≤ 7) <;> cases h2:b4s c.Value <;> simp [h1]
theorem d3n (c:a2w):b1z c = some (b2q c):=by
  unfold b1z b2q b6o
  rw [c5x,Option.bind_some,c4v,Option.bind_some]
  by_cases h1:(1 ≤ c.Func ∧ c.Func ≤ 7) <;> cases h2:b4s c.Value <;> simp [h1]
theorem b9n:∀ l:List a2w,a5f l = some (if l.all b2q = true then .go () else .ret false)
  | [] => by rw [a5f]; simp
  | x :: xs => by
    rw [a5f,d3n,Option.bind_some,b9n xs]
    cases h:b2q x <;> simp [h]
theorem d5c (l:List a2w):a9o l = some (l.all b2q && decide ((l.length:Int) ≤ 8)):=by
  unfold a9o
  rw [b9n]
  cases l.all b2q <;> simp
theorem d7s (l:List a2w) (h:∀ c ∈ l,c.Value.length ≤ maxLen):b0u l = some (l.all b2q && decide ((l.length:Int) ≤ 8)):=by
  unfold b0u
  rw [a8q _ (fun t => !b2q t) l (fun x hx => by unfold b2f; rw [d3m x (h x hx)]; rfl),Option.bind_some,List.not_any_eq_all_not]
  have e2:(l.all fun a => !!b2q a) = l.all b2q:=by simp
  rw [e2]
  by_cases c:(l.length:Int) ≤ 8 <;> simp [c]
theorem e7q {α:Type} [BEq α] [LawfulBEq α] [DecidableEq α] (a b:α):(a == b) = decide (a = b):=by by_cases h:a = b <;> simp [h]
def a7l {α:Type} (f:Nat → α → Bool):List α → Nat → Bool
  | [],_ => true
  | x :: xs,i => f i x && a7l f xs (i + 1)
theorem b3u {α:Type} (f:Nat → α → Bool):∀ (xs:List α) (i:Nat),a7l f xs i = true ↔ ∀ q x,xs[q]? = some x → f (i + q) x = true
  | [],i => by simp [a7l]
  | x :: xs,i => by
    simp only [a7l,Bool.and_eq_true,b3u f xs (i + 1)]
    constructor
    · rintro ⟨h1,h2⟩ q y hq
      cases q with
      | zero => simp at hq; subst hq; simpa using h1
      | succ q => have:=h2 q y (by simpa using hq); rw [show i + (q + 1) = i + 1 + q from by omega]; exact this
    · intro h
      refine ⟨by simpa using h 0 x (by simp),fun q y hq => ?_⟩
      have:=h (q + 1) y (by simpa using hq)
      rw [show i + 1 + q = i + (q + 1) from by omega]; exact this
theorem d7t {α:Type} {f:Nat → α → Bool} {xs:List α} {i:Nat} (h:a7l f xs i = true) {x:α} (hx:x ∈ xs):∃ q,f q x = true:=by
  obtain ⟨q,hq⟩:=List.mem_iff_getElem?.1 hx
  exact ⟨_,(b3u f xs i).1 h q x hq⟩
def atI (o:Option Nat):Int:=match o with | some k => (k:Int) | none => -1
theorem d3o {o:Option Nat}:decide (atI o < 0) = o.isNone:=by
  cases o with
  | none => rfl
  | some k => exact decide_eq_false (show ¬ ((k:Nat):Int) < 0 by omega)
def c0w (t:a0w) (name:Str):Option Nat:=t.Columns.findIdx? (fun c => c.Name == name)
theorem c4w {t:a0w} {name:Str} {k:Nat} (h:c0w t name = some k):∃ x,idx t.Columns (k:Int) = some x ∧ t.Columns[k]? = some x:=by
  obtain ⟨h1,h2,_⟩:=List.findIdx?_eq_some_iff_getElem.1 h
  exact ⟨t.Columns[k],by rw [a7t]; simp [h1],by simp [h1]⟩
theorem b6p (name:Str):∀ (xs:List a0m) (i:Nat),a4d name xs i = some (match xs.findIdx? (fun c => c.Name == name) with | some k => .ret ((i + k:Nat):Int) | none => .go ())
  | [],i => by rw [a4d]; rfl
  | x :: xs,i => by
    rw [a4d,b6p name xs (i + 1),List.findIdx?_cons]
    cases hp:(x.Name == name) with
    | true => simp
    | false =>
      cases hq:xs.findIdx? (fun c => c.Name == name) with
      | none => simp
      | some k => simp; omega
theorem c1m (t:a0w) (name:Str):a6v t name = some (atI (c0w t name)):=by
  unfold a6v c0w atI
  rw [b6p]
  cases hq:t.Columns.findIdx? (fun c => c.Name == name) <;> simp
theorem b8h (t:a0w) (name:Str):a4b t name = some (atI (c0w t name)):=by
  unfold a4b
  rw [a7y _ (fun c => c.Name == name) t.Columns (fun x _ => by unfold a6y; rfl)]
  rfl
def c5y (c:a0m):Bool :=
  a8i c.Name && decide (0 ≤ c.Min ∧ c.Min ≤ 1) && decide (1 ≤ c.Max ∧ c.Max ≤ 8) &&
  ((decide (c.Kind = 1) && decide (-1000000000 ≤ c.Low ∧ c.Low ≤ c.High ∧ c.High ≤ 1000000000) && decide (c.Ref = []) && !c.Strong) ||
   ((decide (c.Kind = 2) || decide (c.Kind = 3)) && decide (c.Low = 0) && decide (c.High = 0) && decide (c.Ref = []) && !c.Strong) ||
   (decide (c.Kind = 4) && decide (c.Low = 0) && decide (c.High = 0) && a8i c.Ref && decide (c.Min = 0)))
theorem c4x (c:a0m):a8e c = some (c5y c):=by
  unfold a8e a6f c5y
  simp only [d0i,a8c,Option.bind_some,e7q]
  by_cases h1:0 ≤ c.Min ∧ c.Min ≤ 1
  · by_cases h2:1 ≤ c.Max ∧ c.Max ≤ 8
    · cases hn:a8i c.Name with
      | false => simp
      | true =>
        simp only [h1,h2,and_self,decide_true,Bool.not_true,Bool.false_eq_true,if_false,Option.bind_some,Bool.true_and]
        by_cases k1:c.Kind = 1
        · simp only [k1]
          by_cases a1:-1000000000 ≤ c.Low ∧ c.Low ≤ c.High ∧ c.High ≤ 1000000000
          · have e1:-1000000000 ≤ c.Low ∧ c.Low ≤ 1000000000:=by omega
            have e2:-1000000000 ≤ c.High ∧ c.High ≤ 1000000000:=by omega
            simp [a1,e1,e2]
          · by_cases e1:-1000000000 ≤ c.Low ∧ c.Low ≤ 1000000000
            · by_cases e2:-1000000000 ≤ c.High ∧ c.High ≤ 1000000000
              · have e3:¬ c.Low ≤ c.High:=by omega
                simp [a1,e1,e2,e3]
              · have a1':¬ (c.Low ≤ c.High ∧ c.High ≤ 1000000000):=by omega
                simp [e1,e2]
                intro p q; exact absurd ⟨p,q⟩ a1'
            · have a2:(-1000000000 ≤ c.Low ∧ c.Low ≤ c.High ∧ c.High ≤ 1000000000) = False:=eq_false a1
              simp only [e1,a2]; simp
        · by_cases k2:c.Kind = 2
          · simp [k2]
          · by_cases k3:c.Kind = 3
            · simp [k3]
            · by_cases k4:c.Kind = 4
              · simp only [k4]
                by_cases a1:c.Low = 0 <;> by_cases a2:c.High = 0 <;> cases a3:a8i c.Ref <;> simp [a1,a2]
              · simp [k1,k2,k3,k4]
    · cases hn:a8i c.Name <;> simp [h1,h2]
  · cases hn:a8i c.Name <;> simp [h1]
theorem d0j (c:a0m):b0c c = some (c5y c):=by
  unfold b0c c5y
  simp only [b9m,c5x,Option.bind_some,e7q,bne]
  by_cases h1:0 ≤ c.Min ∧ c.Min ≤ 1
  · by_cases h2:1 ≤ c.Max ∧ c.Max ≤ 8
    · cases hn:a8i c.Name with
      | false => simp
      | true =>
        by_cases hk:1 ≤ c.Kind ∧ c.Kind ≤ 4
        · simp only [h1,h2,hk,and_self,decide_true,Bool.not_true,Bool.false_eq_true,if_false,Option.bind_some,Bool.true_and]
          by_cases k1:c.Kind = 1
          · simp only [k1]
            by_cases a1:-1000000000 ≤ c.Low ∧ c.Low ≤ c.High ∧ c.High ≤ 1000000000
            · have e1:-1000000000 ≤ c.Low ∧ c.Low ≤ c.High:=by omega
              have e2:c.Low ≤ c.High ∧ c.High ≤ 1000000000:=by omega
              simp [a1,e1,e2]
            · by_cases e1:-1000000000 ≤ c.Low ∧ c.Low ≤ c.High
              · have e2:¬ (c.Low ≤ c.High ∧ c.High ≤ 1000000000):=by omega
                simp [a1,e1,e2]
              · simp [a1,e1]
          · by_cases a1:c.Low = 0
            · by_cases a2:c.High = 0
              · by_cases k4:c.Kind = 4
                · cases a3:a8i c.Ref <;> simp [k4,a1,a2]
                · have:c.Kind = 2 ∨ c.Kind = 3:=by omega
                  by_cases a4:c.Ref = [] <;> rcases this with k | k <;> simp [k,a1,a2,a4]
              · simp [k1,a1,a2]
            · simp [k1,a1]
        · have k1:¬ c.Kind = 1:=by omega
          have k2:¬ c.Kind = 2:=by omega
          have k3:¬ c.Kind = 3:=by omega
          have k4:¬ c.Kind = 4:=by omega
          simp [hk,k1,k2,k3,k4]
    · cases hn:a8i c.Name <;> by_cases hk:1 ≤ c.Kind ∧ c.Kind ≤ 4 <;> simp [h1,h2,hk]
  · cases hn:a8i c.Name <;> by_cases hk:1 ≤ c.Kind ∧ c.Kind ≤ 4 <;> simp [h1,hk]
def b5m (t:a0w) (i:Nat) (x:a0m):Bool:=c5y x && !(t.Columns.take i).any (fun c => c.Name == x.Name)
theorem d5d {t:a0w} {i:Nat} {x:a0m} (hx:t.Columns[i]? = some x):(atI (c0w t x.Name) != (i:Int)) = (t.Columns.take i).any (fun c => c.Name == x.Name):=by
  have hi:=(List.getElem?_eq_some_iff.1 hx).1
  have hxe:=(List.getElem?_eq_some_iff.1 hx).2
  by_cases ha:(t.Columns.take i).any (fun c => c.Name == x.Name) = true
  · rw [ha]
    obtain ⟨c,hc,hn⟩:=List.any_eq_true.1 ha
    obtain ⟨j,hj⟩:=List.mem_iff_getElem?.1 hc
    have hji:j < i:=by have:=(List.getElem?_eq_some_iff.1 hj).1; simp at this; omega
    rw [List.getElem?_take_of_lt hji] at hj
    have hne:c0w t x.Name ≠ some i:=by
      intro he
      obtain ⟨_,_,h3⟩:=List.findIdx?_eq_some_iff_getElem.1 he
      have:=h3 j hji
      rw [(List.getElem?_eq_some_iff.1 hj).2] at this
      exact this hn
    cases hk:c0w t x.Name with
    | none => simp [atI]
    | some k =>
      have:k ≠ i:=fun h => hne (by rw [hk,h])
      simp [atI]; omega
  · simp only [Bool.not_eq_true] at ha
    rw [ha]
    have:c0w t x.Name = some i:=by
      refine List.findIdx?_eq_some_iff_getElem.2 ⟨hi,by simp [hxe],fun j hj => ?_⟩
      have hm:t.Columns[j]'(by omega) ∈ t.Columns.take i:=by
        rw [List.mem_iff_getElem?]
        exact ⟨j,by rw [List.getElem?_take_of_lt hj]; simp⟩
      have:=List.any_eq_false.1 ha _ hm
      simpa using this
    rw [this]
    simp [atI]
theorem b9o (t:a0w):∀ (xs:List a0m) (i:Nat),t.Columns.drop i = xs → a4x t xs i = some (if a7l (b5m t) xs i = true then .go () else .ret false)
  | [],i,_ => by rw [a4x]; simp [a7l]
  | x :: xs,i,h => by
    have hx:t.Columns[i]? = some x:=by rw [← a7t]; exact c4c h
    rw [a4x,c4x,Option.bind_some,b8h,Option.bind_some,d5d hx,b9o t xs (i + 1) (b0q h)]
    cases h1:c5y x <;> cases h2:(t.Columns.take i).any (fun c => c.Name == x.Name) <;> simp [a7l,b5m,h1,h2]
theorem b7o (t:a0w) (x:a0m) (i:Nat) (hi:i ≤ t.Columns.length) (hl:t.Columns.length ≤ 6):∀ (n k fuel:Nat),n + k = i → n < fuel → a3z i t x fuel k = some (if ((t.Columns.take i).drop k).any (fun c => c.Name == x.Name) = true then .ret false else .go ())
  | _,_,0,_,h => by omega
  | 0,k,fuel + 1,hk,_ => by
    rw [a3z,if_neg (by simp; omega),List.drop_of_length_le (by simp; omega)]; simp
  | n + 1,k,fuel + 1,hk,hf => by
    obtain ⟨y,hy⟩:∃ y,t.Columns[k]? = some y:=⟨t.Columns[k]'(by omega),List.getElem?_eq_getElem (by omega)⟩
    have hd:(t.Columns.take i).drop k = y :: (t.Columns.take i).drop (k + 1):=by
      have hk2:k < (t.Columns.take i).length:=by simp; omega
      rw [List.drop_eq_getElem_cons hk2]
      congr 1
      rw [List.getElem_take]
      exact (List.getElem?_eq_some_iff.1 hy).2
    have ew:w64 ((k:Int) + 1) = ((k + 1:Nat):Int):=by rw [a2v (by omega)]; omega
    rw [a3z,if_pos (by simp; omega),a7t,hy,Option.bind_some,ew,b7o t x i hi hl n (k + 1) fuel (by omega) (by omega),hd]
    cases hn:(y.Name == x.Name) <;> simp [hn]
theorem b7p (t:a0w) (hl:t.Columns.length ≤ 6):∀ (xs:List a0m) (i:Nat),t.Columns.drop i = xs → a4m t xs i = some (if a7l (b5m t) xs i = true then .go () else .ret false)
  | [],i,_ => by rw [a4m]; simp [a7l]
  | x :: xs,i,h => by
    have hi:=b8z h
    have hf:2 ^ 40 < FUEL:=by unfold FUEL; decide
    have e:=b7o t x i (by omega) hl i 0 FUEL (by omega) (by omega)
    rw [List.drop_zero] at e
    have e':a3z i t x FUEL 0 = _:=e
    rw [a4m,d0j,Option.bind_some,e',b7p t hl xs (i + 1) (b0q h)]
    cases h1:c5y x <;> cases h2:(t.Columns.take i).any (fun c => c.Name == x.Name) <;> simp [a7l,b5m,h1,h2]
def a6z (t:a0w) (i:Nat) (x:Int):Bool:=decide (0 ≤ x ∧ x ≤ (t.Columns.length:Int) - 1) && (i == 0 || match t.Unique[i - 1]? with | some y => decide (y < x) | none => false)
theorem e0g (t:a0w) (i:Nat) (x:Int) (hi:i < t.Unique.length) (hl:t.Unique.length ≤ 6) (hc:t.Columns.length ≤ 6) (W:Int → Int → Int → Option Bool) (hW:∀ n a b,W n a b = some (decide (a ≤ n ∧ n ≤ b))) :
    ((W x 0 (w64 ((t.Columns.length:Int) - 1))).bind fun r_176 =>
    if (!r_176) then
    some true
    else
    if (decide ((i:Int) > 0)) then
    (idx t.Unique (w64 ((i:Int) - 1))).bind fun x_180 =>
    some (decide (x_180 ≥ x))
    else
    some false:Option Bool) = some (!a6z t i x):=by
  rw [hW,Option.bind_some,a2v (n:=(t.Columns.length:Int) - 1) (by omega)]
  unfold a6z
  by_cases h:0 ≤ x ∧ x ≤ (t.Columns.length:Int) - 1
  · by_cases h0:i = 0
    · subst h0; simp [h]
    · obtain ⟨y,hy⟩:∃ y,t.Unique[i - 1]? = some y:=⟨t.Unique[i - 1],List.getElem?_eq_getElem (by omega)⟩
      have e1:w64 ((i:Int) - 1) = ((i - 1:Nat):Int):=by rw [a2v (by omega)]; omega
      rw [e1,a7t,hy]
      have hp:0 < i:=by omega
      by_cases hc:y < x
      · have:¬ x ≤ y:=by omega
        simp [h,h0,hp,hc,this]
      · have:x ≤ y:=by omega
        simp [h,h0,hp,hc,this]
  · simp [h]
theorem b9p (t:a0w) (hl:t.Unique.length ≤ 6) (hc:t.Columns.length ≤ 6):∀ (xs:List Int) (i:Nat),t.Unique.drop i = xs → a4y t xs i = some (if a7l (a6z t) xs i = true then .go () else .ret false)
  | [],i,_ => by rw [a4y]; simp [a7l]
  | x :: xs,i,h => by
    rw [a4y,e0g t i x (b8z h) hl hc a3v a8c,Option.bind_some,b9p t hl hc xs (i + 1) (b0q h)]
    cases h1:a6z t i x <;> simp [a7l,h1]
theorem b7q (t:a0w) (hl:t.Unique.length ≤ 6) (hc:t.Columns.length ≤ 6):∀ (xs:List Int) (i:Nat),t.Unique.drop i = xs → a4n t xs i = some (if a7l (a6z t) xs i = true then .go () else .ret false)
  | [],i,_ => by rw [a4n]; simp [a7l]
  | x :: xs,i,h => by
    rw [a4n,e0g t i x (b8z h) hl hc a3r c5x,Option.bind_some,b7q t hl hc xs (i + 1) (b0q h)]
    cases h1:a6z t i x <;> simp [a7l,h1]
theorem d7u (t:a0w) (h:a7l (a6z t) t.Unique 0 = true):∀ (i:Nat) x,t.Unique[i]? = some x → (i:Int) ≤ x
  | 0,x,hx => by
    have:=(b3u _ _ _).1 h 0 x hx
    simp only [a6z,Bool.and_eq_true,decide_eq_true_eq] at this
    exact this.1.1
  | i + 1,x,hx => by
    have hl:=(List.getElem?_eq_some_iff.1 hx).1
    obtain ⟨y,hy⟩:∃ y,t.Unique[i]? = some y:=⟨t.Unique[i],List.getElem?_eq_getElem (by omega)⟩
    have h1:=d7u t h i y hy
    have:=(b3u _ _ _).1 h (i + 1) x hx
    simp only [a6z,Bool.and_eq_true,decide_eq_true_eq,Bool.or_eq_true,Nat.zero_add,Nat.add_sub_cancel,hy] at this
    rcases this.2 with h2 | h2
    · simp at h2
    · omega
theorem d3p (t:a0w) (h:a7l (a6z t) t.Unique 0 = true):t.Unique.length ≤ t.Columns.length:=by
  rcases Nat.eq_zero_or_pos t.Unique.length with h0 | h0
  · omega
  · obtain ⟨x,hx⟩:∃ x,t.Unique[t.Unique.length - 1]? = some x:=⟨t.Unique[t.Unique.length - 1],List.getElem?_eq_getElem (by omega)⟩
    have h1:=d7u t h _ x hx
    have:=(b3u _ _ _).1 h _ x hx
    simp only [a6z,Bool.and_eq_true,decide_eq_true_eq] at this
    have:=this.1.2
    omega
def c4y (t:a0w):Bool:=a8i t.Name && decide (1 ≤ (t.Columns.length:Int) ∧ (t.Columns.length:Int) ≤ 6) && a7l (b5m t) t.Columns 0 && a7l (a6z t) t.Unique 0
theorem c7e (t:a0w):a9j t = some (c4y t):=by
  unfold a9j c4y
  rw [d0i,Option.bind_some,a8c,Option.bind_some]
  cases hn:a8i t.Name with
  | false => simp
  | true =>
    by_cases hc:1 ≤ (t.Columns.length:Int) ∧ (t.Columns.length:Int) ≤ 6
    · by_cases hu:(t.Unique.length:Int) > (t.Columns.length:Int)
      · have:a7l (a6z t) t.Unique 0 = false:=by
          cases hh:a7l (a6z t) t.Unique 0 with
          | false => rfl
          | true => have:=d3p t hh; omega
        simp [hc,hu,this]
      · rw [b9o t t.Columns 0 (by simp),b9p t (by omega) (by omega) t.Unique 0 (by simp)]
        cases h1:a7l (b5m t) t.Columns 0 <;> cases h2:a7l (a6z t) t.Unique 0 <;> simp [hc,hu]
    · simp [hc]
theorem c4z (t:a0w):a8f t = some (c4y t):=by
  unfold a8f c4y
  rw [b9m,Option.bind_some,c5x,Option.bind_some]
  cases hn:a8i t.Name with
  | false => simp
  | true =>
    by_cases hc:1 ≤ (t.Columns.length:Int) ∧ (t.Columns.length:Int) ≤ 6
    · by_cases hu:(t.Unique.length:Int) > 6
      · have:a7l (a6z t) t.Unique 0 = false:=by
          cases hh:a7l (a6z t) t.Unique 0 with
          | false => rfl
          | true => have:=d3p t hh; omega
        simp [hc,hu,this]
      · rw [b7p t (by omega) t.Columns 0 (by simp),b7q t (by omega) (by omega) t.Unique 0 (by simp)]
        cases h1:a7l (b5m t) t.Columns 0 <;> cases h2:a7l (a6z t) t.Unique 0 <;> simp [hc,hu]
    · simp [hc]
def b3v (v:List o8) (k:Int):Bool:=match v[0]? with | some x => x.Kind != k | none => false
theorem d3q (v:List o8) (k:Int):((if (decide ((v.length:Int) > 0)) then (idx v 0).bind fun x => some (x.Kind != k) else some false:Option Bool)) = some (b3v v k):=by
  cases v with
  | nil => rfl
  | cons x xs => rw [if_pos (by simp)]; rfl
def a9v {α:Type} (f:α → Int):List α → Int
  | [] => 0
  | x :: xs => if f x = 0 then a9v f xs else f x
theorem c5a {α:Type} {f:α → Int}:∀ {l:List α},a9v f l = 0 → ∀ x ∈ l,f x = 0
  | [],_,x,hx => by simp at hx
  | y :: ys,h,x,hx => by
    simp only [a9v] at h
    split at h
    · rename_i h0
      rcases List.mem_cons.1 hx with rfl | hx
      · exact h0
      · exact c5a h x hx
    · rename_i h0; exact absurd h h0
def b4t (t:a0w) (m:a2w):Int:=match c0w t m.Column with
  | none => 11
  | some k => match t.Columns[k]? with
    | none => 0
    | some x => if b3v m.Value x.Kind = true then 9 else if (decide (m.Func ≤ 5) && (x.Kind != 1 || (m.Value.length:Int) != 1)) = true then 9 else 0
theorem c7f (t:a0w) (m:a2w):a9k t m = some (b4t t m):=by
  unfold a9k a8l b4t
  rw [b8h,Option.bind_some,d3o]
  cases hk:c0w t m.Column with
  | none => simp
  | some k =>
    obtain ⟨x,e1,e2⟩:=c4w hk
    simp only [Option.isNone_some,Bool.false_eq_true,if_false,atI]
    rw [e1,Option.bind_some,e2]
    simp only [d3q,Option.bind_some]
    cases b3v m.Value x.Kind with
    | true => simp
    | false =>
      by_cases hf:m.Func ≤ 5 <;> cases h1:(x.Kind != 1) <;> cases h3:((m.Value.length:Int) != 1) <;> simp [hf]
theorem c7g (t:a0w) (m:a2w):a9p t m = some (b4t t m):=by
  unfold a9p b4t
  rw [c1m,Option.bind_some,d3o]
  cases hk:c0w t m.Column with
  | none => simp
  | some k =>
    obtain ⟨x,e1,e2⟩:=c4w hk
    simp only [Option.isNone_some,Bool.false_eq_true,if_false,atI]
    rw [e1,Option.bind_some,e2]
    simp only [d3q,Option.bind_some]
    cases b3v m.Value x.Kind with
    | true => simp
    | false =>
      by_cases hf:m.Func ≤ 5 <;> cases h1:(x.Kind != 1) <;> cases h3:((m.Value.length:Int) != 1) <;> simp [hf]
theorem b7r (t:a0w):∀ l:List a2w,a4l t l = some (if a9v (b4t t) l = 0 then .go () else .ret (a9v (b4t t) l))
  | [] => by rw [a4l]; simp [a9v]
  | x :: xs => by
    rw [a4l,c7f,Option.bind_some,b7r t xs]
    by_cases h:b4t t x = 0 <;> simp [a9v,h]
theorem d2c (t:a0w) (l:List a2w):a9y t l = some (a9v (b4t t) l):=by
  unfold a9y
  rw [b7r]
  by_cases h:a9v (b4t t) l = 0 <;> simp [h]
theorem b7s (t:a0w):∀ l:List a2w,a4o t l = some (if a9v (b4t t) l = 0 then .go () else .ret (a9v (b4t t) l))
  | [] => by rw [a4o]; simp [a9v]
  | x :: xs => by
    rw [a4o,c7g,Option.bind_some,b7s t xs]
    by_cases h:b4t t x = 0 <;> simp [a9v,h]
theorem d2d (t:a0w) (l:List a2w):b0d t l = some (a9v (b4t t) l):=by
  unfold b0d
  rw [b7s]
  by_cases h:a9v (b4t t) l = 0 <;> simp [h]
structure b5t (s:a1j):Prop where
  code:∀ x ∈ s.Code,0 ≤ x ∧ x < 256
  len:(s.Code.length:Int) ≤ 1048576
  at0:0 ≤ s.At
  seed:0 ≤ s.Seed ∧ s.Seed < 2147483648
structure Nx (s s':a1j) (k:Int):Prop where
  ok:b5t s'
  lo:s.At ≤ s'.At
  hi:s'.At ≤ s.At + k
  code:s'.Code = s.Code
theorem Nx.refl {s:a1j} (h:b5t s):Nx s s 0:=⟨h,Int.le_refl _,by omega,rfl⟩
theorem Nx.mono {s s':a1j} {k l:Int} (h:Nx s s' k) (hl:k ≤ l):Nx s s' l:=⟨h.ok,h.lo,by have:=h.hi; omega,h.code⟩
theorem Nx.trans {a b c:a1j} {k l:Int} (h:Nx a b k) (g:Nx b c l):Nx a c (k + l):=⟨g.ok,by have:=h.lo; have:=g.lo; omega,by have:=h.hi; have:=g.hi; omega,g.code.trans h.code⟩
theorem b4c {a m:Int} (h:0 ≤ a) (hm:0 < m):0 ≤ a.tmod m ∧ a.tmod m < m:=⟨Int.tmod_nonneg _ h,Int.tmod_lt_of_pos _ hm⟩
theorem d3r {a m:Int} (h:0 ≤ a) (hm:0 < m):a.tdiv m = a / m:=by rw [Int.tdiv_eq_ediv_of_nonneg h]
theorem d7v (code:List Int) (hc:∀ x ∈ code,0 ≤ x ∧ x < 256) (hl:(code.length:Int) ≤ 1048576):∃ s,b1g code = some s ∧ b5t s ∧ s.At = 0 ∧ s.Code = code:=by
  refine ⟨_,rfl,⟨hc,hl,by simp,?_⟩,rfl,rfl⟩
  have:=b4c (a:=(code.length:Int)) (m:=1000) (by omega) (by omega)
  simp only; omega
theorem e0v (s:a1j) (h:b5t s) (ha:s.At < 2 ^ 50):∃ b s',a3i s = some (b,s') ∧ 0 ≤ b ∧ b < 256 ∧ Nx s s' 1:=by
  obtain ⟨h1,h2,h3,h4,h5⟩:=h
  unfold a3i
  rw [a2v (n:=s.At + 1) (by omega)]
  by_cases c:s.At + 1 ≤ (s.Code.length:Int)
  · rw [if_pos (by simpa using c)]
    obtain ⟨n,hn⟩:∃ n:Nat,s.At = (n:Int):=⟨s.At.toNat,by omega⟩
    have e1:w64 (s.At + 1 - 1) = (n:Int):=by rw [a2v (by omega)]; omega
    obtain ⟨x,hx⟩:∃ x,s.Code[n]? = some x:=⟨s.Code[n]'(by omega),List.getElem?_eq_getElem (by omega)⟩
    have hb:=h1 x (List.mem_of_getElem? hx)
    rw [e1,a7t,hx,Option.bind_some,Option.bind_some,a2v (n:=x) (by omega),a2v (n:=s.Seed * 31) (by omega),a2v (n:=s.Seed * 31 + x) (by omega),a2v (by omega)]
    have:=b4c (a:=s.Seed * 31 + x + 7) (m:=2147483648) (by omega) (by omega)
    exact ⟨x,_,rfl,hb.1,hb.2,⟨⟨h1,h2,by simp only; omega,this⟩,by simp only; omega,by simp only; omega,rfl⟩⟩
  · rw [if_neg (by simpa using c)]
    by_cases c2:s.At + 1 > 3000
    · rw [if_pos (by simpa using c2)]
      exact ⟨0,_,rfl,by omega,by omega,⟨⟨h1,h2,by simp only; omega,h4,h5⟩,by simp only; omega,by simp only; omega,rfl⟩⟩
    · rw [if_neg (by simpa using c2),a2v (n:=s.Seed * 1103515245) (by omega),a2v (n:=s.Seed * 1103515245 + 12345) (by omega)]
      have hs:=b4c (a:=s.Seed * 1103515245 + 12345) (m:=2147483648) (by omega) (by omega)
      have hq:=d3r (a:=(s.Seed * 1103515245 + 12345).tmod 2147483648) (m:=65536) hs.1 (by omega)
      rw [hq]
      have:w64 ((s.Seed * 1103515245 + 12345).tmod 2147483648 / 65536) = (s.Seed * 1103515245 + 12345).tmod 2147483648 / 65536:=a2v (by omega)
      rw [this]
      have hb:=b4c (a:=(s.Seed * 1103515245 + 12345).tmod 2147483648 / 65536) (m:=256) (by omega) (by omega)
      exact ⟨_,_,rfl,hb.1,hb.2,⟨⟨h1,h2,by simp only; omega,hs⟩,by simp only; omega,by simp only; omega,rfl⟩⟩
theorem b2x (n:Int) (s:a1j) (h:b5t s) (ha:s.At + 1 < 2 ^ 50) (h1:1 ≤ n) (h2:n ≤ 256):∃ v s',a1i n s = some (v,s') ∧ 0 ≤ v ∧ v < n ∧ Nx s s' 1:=by
  unfold a1i
  by_cases c:n ≤ 1
  · rw [if_pos (by simpa using c)]
    exact ⟨0,s,rfl,by omega,by omega,(Nx.refl h).mono (by omega)⟩
  · rw [if_neg (by simpa using c),if_pos (by simpa using h2)]
    obtain ⟨b,s',e,g1,g2,g3⟩:=e0v s h (by omega)
    rw [e,Option.bind_some,if_pos (by omega)]
    have:=b4c (a:=b) (m:=n) g1 (by omega)
    exact ⟨_,_,rfl,this.1,this.2,g3⟩
theorem d0k (n:Int) (s:a1j) (h:b5t s) (ha:s.At + 1 < 2 ^ 50) (h1:1 ≤ n) (h2:n ≤ 256):∃ v s',a5k n s = some (v,s') ∧ Nx s s' 1:=by
  unfold a5k
  obtain ⟨v,s',e,_,_,g⟩:=b2x n s h ha h1 h2
  rw [e,Option.bind_some]
  exact ⟨_,_,rfl,g⟩
theorem d5e (l:List Str) (s:a1j) (h:b5t s) (ha:s.At + 1 < 2 ^ 50) (h1:1 ≤ l.length) (h2:l.length ≤ 256):∃ t s',a4j l s = some (t,s') ∧ t ∈ l ∧ Nx s s' 1:=by
  unfold a4j
  rw [if_neg (by simp; intro hh; rw [hh] at h1; simp at h1)]
  obtain ⟨v,s',e,g1,g2,g⟩:=b2x l.length s h ha (by omega) (by omega)
  rw [e,Option.bind_some]
  obtain ⟨m,rfl⟩:∃ m:Nat,v = (m:Int):=⟨v.toNat,by omega⟩
  simp only
  obtain ⟨x,hx⟩:∃ x,l[m]? = some x:=⟨l[m]'(by omega),List.getElem?_eq_getElem (by omega)⟩
  rw [a7t,hx,Option.bind_some]
  exact ⟨x,s',rfl,List.mem_of_getElem? hx,g⟩
theorem c5b (x y:o8):(x.Kind == y.Kind && (x.N == y.N && (x.T == y.T && true))) = decide (x = y):=by
  cases x; cases y
  rw [Bool.eq_iff_iff]
  simp
theorem d0l (a:o8):∀ d:List o8,a5s a d = some (if a ∈ d then .ret true else .go ())
  | [] => by rw [a5s]; simp
  | x :: xs => by
    rw [a5s,c5b,d0l a xs]
    by_cases h:x = a
    · subst h; simp
    · simp [h,Ne.symm h]
theorem e0h (d:List o8) (a:o8):a8v d a = some (decide (a ∈ d)):=by
  unfold a8v
  rw [d0l]
  by_cases h:a ∈ d <;> simp [h]
theorem d0m (d:List o8) (a:o8):∀ (n k:Nat),n < k → n ≤ d.length → d.length ≤ 2 ^ 29 → ∃ m:Nat,a3p d a k n = some (m:Int) ∧ m ≤ n ∧ (∀ x,0 < m → d[m - 1]? = some x → a7k x a ≤ 0) ∧ (∀ j x,m ≤ j → j < n → d[j]? = some x → 0 < a7k x a)
  | _,0,h,_,_ => by omega
  | 0,k + 1,_,_,_ => by
    refine ⟨0,?_,by omega,by omega,by omega⟩
    rw [a3p,if_neg (by simp),Option.bind_some,if_neg (by simp)]
  | n + 1,k + 1,h,hn,hl => by
    obtain ⟨y,hy⟩:∃ y,d[n]? = some y:=⟨d[n],List.getElem?_eq_getElem (by omega)⟩
    have ew:w64 (((n + 1:Nat):Int) - 1) = (n:Int):=by rw [a2v (by omega)]; omega
    rw [a3p,if_pos (by simp),ew,a7t,hy,Option.bind_some,d3l,Option.bind_some,Option.bind_some]
    by_cases hc:a7k y a > 0
    · rw [if_pos (by simpa using hc)]
      obtain ⟨m,e,h1,h2,h3⟩:=d0m d a n k (by omega) (by omega) hl
      refine ⟨m,e,by omega,h2,fun j x hj1 hj2 hx => ?_⟩
      by_cases hjn:j = n
      · subst hjn; rw [hy] at hx; rw [← Option.some.inj hx]; exact hc
      · exact h3 j x hj1 (by omega) hx
    · rw [if_neg (by simpa using hc)]
      refine ⟨n + 1,rfl,by omega,fun x _ hx => ?_,by omega⟩
      rw [show n + 1 - 1 = n from by omega,hy] at hx
      rw [← Option.some.inj hx]; omega
theorem d3s (d:List o8) (a:o8) (k i:Nat) (hk:k ≤ d.length):(d.take k ++ a :: d.drop k)[i]? = if i < k then d[i]? else if i = k then some a else d[i - 1]?:=by
  by_cases h1:i < k
  · rw [if_pos h1,List.getElem?_append_left (by simp; omega),List.getElem?_take_of_lt h1]
  · rw [if_neg h1,List.getElem?_append_right (by simp; omega)]
    have hl:(d.take k).length = k:=by simp; omega
    rw [hl]
    by_cases h2:i = k
    · subst h2; simp
    · rw [if_neg h2,show i - k = (i - k - 1) + 1 from by omega,List.getElem?_cons_succ,List.getElem?_drop]
      congr 1; omega
theorem d7w (k:Int) (d:List o8) (a:o8) (hs:a7j k d) (ha:a7r a = true) (hk:a.Kind = k) (hl:d.length < 2 ^ 29):∃ d',b0s d a = some d' ∧ a7j k d' ∧ (∀ x,x ∈ d' ↔ x = a ∨ x ∈ d) ∧ d'.length ≤ d.length + 1:=by
  have hf:2 ^ 40 < FUEL:=by unfold FUEL; decide
  unfold b0s
  rw [e0h,Option.bind_some]
  by_cases hm:a ∈ d
  · rw [if_pos (by simpa using hm)]
    exact ⟨d,rfl,hs,fun x => ⟨.inr,fun h => h.elim (fun h => h ▸ hm) id⟩,by omega⟩
  · rw [if_neg (by simpa using hm)]
    obtain ⟨m,e,h1,h2,h3⟩:=d0m d a d.length FUEL (by omega) (by omega) (by omega)
    rw [e,Option.bind_some,if_pos (by omega),if_pos (by omega),if_pos (by simp; omega),if_pos (by simp; omega),if_pos (by simp; omega)]
    simp only [List.nil_append,Int.toNat_natCast,List.append_assoc,List.cons_append,List.nil_append]
    refine ⟨_,rfl,⟨?_,?_⟩,?_,by simp; omega⟩
    · intro x hx
      simp only [List.mem_append,List.mem_cons] at hx
      rcases hx with hx | rfl | hx
      · exact hs.atom x (List.mem_of_mem_take hx)
      · exact ⟨ha,hk⟩
      · exact hs.atom x (List.mem_of_mem_drop hx)
    · intro i x y hx hy
      rw [d3s d a m i h1] at hx
      rw [d3s d a m (i + 1) h1] at hy
      by_cases c1:i + 1 < m
      · rw [if_pos (by omega)] at hx
        rw [if_pos c1] at hy
        exact hs.ord i x y hx hy
      · rw [if_neg c1] at hy
        by_cases c2:i + 1 = m
        · rw [if_pos c2] at hy
          rw [if_pos (by omega)] at hx
          have e1:=Option.some.inj hy
          subst e1
          have:=h2 x (by omega) (by rw [show m - 1 = i from by omega]; exact hx)
          have hne:a7k x a ≠ 0:=fun h => hm (by rw [← (b3h x a).1 h]; exact List.mem_of_getElem? hx)
          omega
        · rw [if_neg c2] at hy
          rw [if_neg (by omega)] at hx
          by_cases c3:i = m
          · rw [if_pos c3] at hx
            have e1:=Option.some.inj hx
            subst e1
            rw [show i + 1 - 1 = i from by omega] at hy
            have:=h3 i y (by omega) (List.getElem?_eq_some_iff.1 hy).1 hy
            have:=c7c y a
            omega
          · rw [if_neg c3] at hx
            exact hs.ord (i - 1) x y hx (by rw [show i - 1 + 1 = i + 1 - 1 from by omega]; exact hy)
    · intro x
      have:x ∈ d ↔ x ∈ d.take m ∨ x ∈ d.drop m:=by rw [← List.mem_append,List.take_append_drop]
      simp only [List.mem_append,List.mem_cons,this]
      constructor
      · rintro (h | h | h)
        · exact .inr (.inl h)
        · exact .inl h
        · exact .inr (.inr h)
      · rintro (h | h | h)
        · exact .inr (.inl h)
        · exact .inl h
        · exact .inr (.inr h)
theorem e0w {α:Type} (l:List α) (i:Int) (h:0 ≤ i):idx l i = l[0 + i.toNat]?:=by
  obtain ⟨n,rfl⟩:∃ n:Nat,i = n:=⟨i.toNat,by omega⟩
  rw [a7t]; simp
theorem c7h (d:List o8) (a:o8) (hl:d.length ≤ 2 ^ 29):∀ (k n:Nat),n ≤ d.length → a3s d a k (n:Int) = a3p d a k (n:Int)
  | 0,n,_ => by rw [a3s,a3p]
  | k + 1,0,_ => by
    rw [a3s,a3p,if_neg (by simp),if_neg (by simp)]
    simp
  | k + 1,n + 1,h => by
    have ew:w64 (((n + 1:Nat):Int) - 1) = (n:Int):=by rw [a2v (by omega)]; omega
    rw [a3s,a3p,ew,c7h d a hl k n (by omega)]
    simp only [e0w d n (by omega)]
    rw [if_pos (show (0:Int) ≤ (n:Int) ∧ (n:Int) < (d.length:Int) by omega)]
theorem d2e (d:List o8) (a:o8) (hl:d.length ≤ 2 ^ 29):a6h d a = b0s d a:=by
  have e:∀ k:Nat,(d.drop k).take (d.length - k) = d.drop k:=fun k => List.take_of_length_le (by simp)
  unfold a6h b0s
  rw [c7h d a hl FUEL d.length (Nat.le_refl _)]
  simp only [e]
theorem e0x (k:Int) (d:List o8) (a:o8) (hs:a7j k d) (ha:a7r a = true) (hk:a.Kind = k) (hl:d.length < 2 ^ 29):∃ d',a6h d a = some d' ∧ a7j k d' ∧ (∀ x,x ∈ d' ↔ x = a ∨ x ∈ d) ∧ d'.length ≤ d.length + 1:=by
  rw [d2e d a (by omega)]
  exact d7w k d a hs ha hk hl
def c2c (c:a0m) (x:o8):Bool:=!decide (c.Low ≤ x.N ∧ x.N ≤ c.High)
theorem d0n (c:a0m):∀ (xs:List o8) (i:Nat),a0j (fun a => a4i a c) xs i = some (.go ()) ∧ xs.any (c2c c) = false ∨ ∃ j:Nat,a0j (fun a => a4i a c) xs i = some (.ret (j:Int)) ∧ xs.any (c2c c) = true
  | [],i => .inl ⟨by rw [a0j],rfl⟩
  | x :: xs,i => by
    rw [a0j]
    have e:a4i x c = some (c2c c x):=by unfold a4i; rw [a8c,Option.bind_some]; rfl
    rw [e,Option.bind_some]
    cases h:c2c c x with
    | true => rw [if_pos rfl]; exact .inr ⟨i,rfl,by simp [h]⟩
    | false =>
      rw [if_neg (by simp)]
      rcases d0n c xs (i + 1) with ⟨h1,h2⟩ | ⟨j,h1,h2⟩
      · exact .inl ⟨h1,by simp [h,h2]⟩
      · exact .inr ⟨j,h1,by simp [h,h2]⟩
theorem d2f (c:a0m) (d:List o8):a2k d (fun a => a4i a c) = some (d.any (c2c c)):=by
  unfold a2k a2b
  rcases d0n c d 0 with ⟨h1,h2⟩ | ⟨j,h1,h2⟩
  · rw [h1,h2]; rfl
  · rw [h1,h2]; simp
theorem c5c (c:a0m):∀ (xs:List o8),a5e c xs = some (if (c.Kind == 1 && xs.any (c2c c)) = true then .ret 4 else .go ())
  | [] => by rw [a5e]; simp
  | x :: xs => by
    rw [a5e,c5c c xs]
    by_cases k:c.Kind = 1
    · rw [if_pos (by simpa using k),c5x,Option.bind_some,Option.bind_some]
      have e:(!decide (c.Low ≤ x.N ∧ x.N ≤ c.High)) = c2c c x:=rfl
      rw [e]
      cases h:c2c c x <;> simp [k,h]
    · rw [if_neg (by simpa using k),Option.bind_some,if_neg (by simp)]
      simp [k]
def b0w (c:a0m) (d:List o8):Int :=
  if (match d[0]? with | some x => x.Kind != c.Kind | none => false) = true then 9 else if ¬ (c.Min ≤ d.length ∧ (d.length:Int) ≤ c.Max) then 6 else if (c.Kind == 1 && d.any (c2c c)) = true then 4 else 0
theorem d7x (c:a0m) (d:List o8):((if (decide ((d.length:Int) > 0)) then (idx d 0).bind fun x_11 => some (x_11.Kind != c.Kind) else some false:Option Bool)) = some (match d[0]? with | some x => x.Kind != c.Kind | none => false):=by
  cases d with
  | nil => rfl
  | cons x xs =>
    rw [if_pos (by simp)]
    rfl
theorem c8l (c:a0m) (d:List o8):a6t c d = some (b0w c d):=by
  unfold a6t b0w
  rw [d7x,Option.bind_some]
  generalize (match d[0]? with | some x => x.Kind != c.Kind | none => false) = b
  cases b with
  | true => simp
  | false =>
    simp only [Bool.false_eq_true,if_false]
    rw [a8c,Option.bind_some]
    by_cases h:c.Min ≤ d.length ∧ (d.length:Int) ≤ c.Max
    · rw [decide_eq_true h,if_neg (not_not_intro h)]
      simp only [Bool.not_true,Bool.false_eq_true,if_false]
      by_cases k:c.Kind = 1
      · rw [if_pos (by simpa using k),d2f,Option.bind_some]
        cases hh:d.any (c2c c) <;> simp [k]
      · rw [if_neg (by simpa using k)]
        simp [k]
    · rw [decide_eq_false h,if_pos h]
      simp
theorem c2l (c:a0m) (d:List o8):a9n c d = some (b0w c d):=by
  unfold a9n b0w
  rw [d7x,Option.bind_some]
  generalize (match d[0]? with | some x => x.Kind != c.Kind | none => false) = b
  cases b with
  | true => simp
  | false =>
    simp only [Bool.false_eq_true,if_false]
    rw [c5x,Option.bind_some]
    by_cases h:c.Min ≤ d.length ∧ (d.length:Int) ≤ c.Max
    · rw [decide_eq_true h,if_neg (not_not_intro h)]
      simp only [Bool.not_true,Bool.false_eq_true,if_false]
      rw [c5c]
      cases hh:(c.Kind == 1 && d.any (c2c c)) <;> simp
    · rw [decide_eq_false h,if_pos h]
      simp
theorem c7i (b:List o8):∀ (xs:List o8) (i:Nat),b.drop i = xs → a4f b xs i = some (.go ())
  | [],i,_ => by rw [a4f]
  | x :: xs,i,h => by
    rw [a4f,c4c h,Option.bind_some,c5b,if_neg (by simp),c7i b xs (i + 1) (b0q h)]
theorem e0y (d:List o8):a9d d d = some true:=by
  unfold a9d
  rw [if_neg (by simp),c7i d d 0 (by simp)]
  rfl
theorem d7y {n:Int}:okI .u8 n ↔ 0 ≤ n ∧ n ≤ 255:=by
  have h1:IntKind.u8.min = 0:=by decide
  have h2:IntKind.u8.max = 255:=by decide
  simp [okI,Lit.wf,h1,h2]
theorem d9k (s:a1j):a3i s = a3i s:=by
  first
  | rfl
  | (unfold a3i a3i; rfl)
theorem c8m (n:Int) (s:a1j):a1i n s = a1i n s:=by
  first
  | rfl
  | (unfold a1i a1i; simp only [d9k])
theorem d9l (l:List Str) (s:a1j):a4j l s = a4j l s:=by
  first
  | rfl
  | (unfold a4j a4j; simp only [c8m])
theorem e0z (kind:Int) (s:a1j) (hk:1 ≤ kind ∧ kind ≤ 4) (h:b5t s) (ha:s.At + 1 < 2 ^ 50):∃ a s',a6s kind s = some (a,s') ∧ a7r a = true ∧ a.Kind = kind ∧ Nx s s' 1:=by
  unfold a6s
  try simp only [c8m,d9l]
  by_cases k1:kind = 1
  · subst k1
    obtain ⟨v,s',e,g1,g2,g⟩:=b2x 12 s h ha (by omega) (by omega)
    rw [if_pos (by simp),e,Option.bind_some]
    refine ⟨_,s',rfl,?_,rfl,g⟩
    have:w64 (v - 4) = v - 4:=a2v (by omega)
    rw [this]
    have:-1000000000 ≤ v - 4 ∧ v - 4 ≤ 1000000000:=by omega
    simp [a7r,this]
  rw [if_neg (by simpa using k1)]
  by_cases k2:kind = 2
  · subst k2
    obtain ⟨t,s',e,ht,g⟩:=d5e [[],[97],[98],[99],[110,101,116]] s h ha (by simp) (by simp)
    rw [if_pos (by simp),e,Option.bind_some]
    refine ⟨_,s',rfl,?_,rfl,g⟩
    have:c4r t = true:=List.all_eq_true.1 (show ([[],[97],[98],[99],[110,101,116]]:List Str).all c4r = true by decide) t ht
    simp [a7r,this]
  rw [if_neg (by simpa using k2)]
  by_cases k3:kind = 3
  · subst k3
    obtain ⟨v,s',e,g1,g2,g⟩:=b2x 2 s h ha (by omega) (by omega)
    rw [if_pos (by simp),e,Option.bind_some]
    refine ⟨_,s',rfl,?_,rfl,g⟩
    have:0 ≤ v ∧ v ≤ 1:=by omega
    simp [a7r,this]
  rw [if_neg (by simpa using k3)]
  have k4:kind = 4:=by omega
  subst k4
  obtain ⟨v,s',e,g1,g2,g⟩:=b2x 6 s h ha (by omega) (by omega)
  rw [e,Option.bind_some]
  refine ⟨_,s',rfl,?_,rfl,g⟩
  have:w64 (1 + v) = 1 + v:=a2v (by omega)
  rw [this]
  have:1 ≤ 1 + v ∧ 1 + v ≤ 1000000:=by omega
  simp [a7r,this]
theorem c5d (kind:Int) (hk:1 ≤ kind ∧ kind ≤ 4):∀ (i k:Nat) (s:a1j) (out:List o8),i < k → a7j kind out → out.length + i ≤ 100 → b5t s → s.At + i < 2 ^ 50 →
    ∃ s' d,a3k kind k i s.Code s.At s.Seed out = some (s'.Code,s'.At,s'.Seed,d) ∧ a7j kind d ∧ d.length ≤ out.length + i ∧ Nx s s' i
  | _,0,_,_,h,_,_,_,_ => by omega
  | 0,k + 1,s,out,h,hs,hl,ho,ha => by
    refine ⟨s,out,?_,hs,by omega,Nx.refl ho⟩
    rw [a3k,if_neg (by simp)]
  | i + 1,k + 1,s,out,h,hs,hl,ho,ha => by
    rw [a3k,if_pos (by simp)]
    obtain ⟨a,s1,e,g1,g2,g3⟩:=e0z kind s hk ho (by omega)
    have e':a6s kind (⟨s.Code,s.At,s.Seed⟩:a1j) = some (a,s1):=e
    obtain ⟨d,f,f1,f2,f3⟩:=e0x kind out a hs g1 g2 (by omega)
    have ew:w64 (((i + 1:Nat):Int) - 1) = (i:Int):=by rw [a2v (by omega)]; omega
    have:=g3.hi
    obtain ⟨s2,d2,q,q1,q2,q3⟩:=c5d kind hk i k s1 d (by omega) f1 (by omega) g3.ok (by omega)
    rw [e',Option.bind_some,f,Option.bind_some,ew,q]
    exact ⟨s2,d2,rfl,q1,by omega,(g3.trans q3).mono (by omega)⟩
theorem d9m (kind:Int) (s:a1j) (hk:1 ≤ kind ∧ kind ≤ 4) (h:b5t s) (ha:s.At + 5 < 2 ^ 50):∃ d s',a7f kind s = some (d,s') ∧ a7j kind d ∧ d.length ≤ 4 ∧ Nx s s' 5:=by
  have hf:2 ^ 40 < FUEL:=by unfold FUEL; decide
  unfold a7f
  try rw [c8m]
  obtain ⟨v,s1,e,g1,g2,g⟩:=b2x 5 s h (by omega) (by omega) (by omega)
  obtain ⟨i,rfl⟩:∃ i:Nat,v = (i:Int):=⟨v.toNat,by omega⟩
  have:=g.hi
  obtain ⟨s2,d,e2,q1,q2,q3⟩:=c5d kind hk i FUEL s1 [] (by omega) ⟨by simp,by simp⟩ (by simp; omega) g.ok (by omega)
  rw [e,Option.bind_some,e2,Option.bind_some]
  simp only [List.length_nil] at q2
  exact ⟨d,s2,rfl,q1,by omega,(g.trans q3).mono (by omega)⟩
theorem e8o (more:List Int) (n:Int) (hc:∀ x ∈ more,0 ≤ x ∧ x < 256) (hl:(more.length:Int) ≤ 1048576) (hn:1 ≤ n ∧ n ≤ 1000000) (i:Int) (hi:0 ≤ i ∧ i ≤ 1000):∃ v,b9a more i n = some v ∧ 0 ≤ v ∧ v < n:=by
  unfold b9a
  by_cases h1:n ≤ 1
  · rw [if_pos (by simpa using h1)]; exact ⟨0,rfl,by omega,by omega⟩
  rw [if_neg (by simpa using h1)]
  by_cases h2:more.length = 0
  · rw [if_pos (by simpa using h2),if_pos (by omega)]
    have e:w64 (i * 7) = i * 7:=a2v (by omega)
    have:=b4c (a:=i * 7) (m:=n) (by omega) (by omega)
    rw [e]
    exact ⟨_,rfl,this⟩
  rw [if_neg (by simpa using h2),if_pos (by omega)]
  have get:∀ j:Int,0 ≤ j → ∃ x,idx more (j.tmod (more.length:Int)) = some x ∧ 0 ≤ x ∧ x < 256:=by
    intro j hj
    have hb:=b4c (a:=j) (m:=(more.length:Int)) hj (by omega)
    obtain ⟨q,hq⟩:∃ q:Nat,j.tmod (more.length:Int) = (q:Int):=⟨(j.tmod (more.length:Int)).toNat,by omega⟩
    rw [hq] at hb ⊢
    obtain ⟨x,hx⟩:∃ x,more[q]? = some x:=⟨more[q]'(by omega),List.getElem?_eq_getElem (by omega)⟩
    rw [a7t,hx]
    exact ⟨x,rfl,hc x (List.mem_of_getElem? hx)⟩
  obtain ⟨x,ex,x1,x2⟩:=get i hi.1
  have ew:w64 (i + 1) = i + 1:=a2v (by omega)
  obtain ⟨y,ey,y1,y2⟩:=get (i + 1) (by omega)
  rw [ex,Option.bind_some,if_pos (by omega),ew,ey,Option.bind_some,if_pos (by omega),if_pos (by omega)]
  have hq:0 ≤ i.tdiv (more.length:Int) ∧ i.tdiv (more.length:Int) ≤ i:=by
    rw [d3r hi.1 (by omega)]
    exact ⟨Int.ediv_nonneg hi.1 (by omega),Int.ediv_le_self _ hi.1⟩
  rw [a2v (n:=x) (by omega),a2v (n:=x * 31) (by omega),a2v (n:=y) (by omega),a2v (n:=x * 31 + y) (by omega),a2v (n:=i.tdiv (more.length:Int)) (by omega),a2v (by omega)]
  have:=b4c (a:=x * 31 + y + i.tdiv (more.length:Int)) (m:=n) (by omega) (by omega)
  exact ⟨_,rfl,this⟩
theorem c5e:∀ a b c:Str,Lib.compareBytes a b < 0 → Lib.compareBytes b c < 0 → Lib.compareBytes a c < 0
  | [],[],c => by intro h; simp [Lib.compareBytes] at h
  | [],_ :: _,[] => by intro _ h; simp [Lib.compareBytes] at h
  | [],_ :: _,_ :: _ => by intro _ _; simp [Lib.compareBytes]
  | _ :: _,[],c => by intro h; simp [Lib.compareBytes] at h
  | _ :: _,_ :: _,[] => by intro _ h; simp [Lib.compareBytes] at h
  | a :: xs,b :: ys,c :: zs => by
    have ih:=c5e xs ys zs
    unfold Lib.compareBytes
    rcases c0u a b with h | h | h
    · rcases c0u b c with g | g | g
      · have:a < c:=by simp only [UInt8.lt_iff_toNat_lt] at *; omega
        simp [this]
      · subst g; simp [h]
      · simp [h,g,b5k g]
    · subst h
      rcases c0u a c with g | g | g
      · simp [g]
      · subst g; simp only [UInt8.lt_irrefl,if_false]; exact ih
      · simp [g,b5k g]
    · simp [h,b5k h]
theorem b5n {a b c:o8} (h:a7k a b < 0) (g:a7k b c < 0):a7k a c < 0:=by
  unfold a7k at *
  by_cases k1:a.Kind = b.Kind
  · by_cases k2:b.Kind = c.Kind
    · have k3:a.Kind = c.Kind:=k1.trans k2
      simp only [k1,k2,k3,ne_eq,not_true_eq_false,if_false] at *
      by_cases n1:a.N = b.N
      · by_cases n2:b.N = c.N
        · have n3:a.N = c.N:=n1.trans n2
          simp only [n1,n2,n3,ne_eq,not_true_eq_false,if_false] at *
          exact c5e _ _ _ h g
        · have n3:¬ a.N = c.N:=fun e => n2 (n1.symm.trans e)
          simp only [n1,n2,ne_eq,not_true_eq_false,not_false_eq_true,if_false,if_true] at *
          split at g <;> simp_all
      · by_cases n2:b.N = c.N
        · have n3:¬ a.N = c.N:=fun e => n1 (e.trans n2.symm)
          simp only [n1,n2,n3,ne_eq,not_true_eq_false,not_false_eq_true,if_false,if_true] at *
          split at h <;> simp_all
        · simp only [n1,n2,ne_eq,not_false_eq_true,if_true] at h g
          have h':a.N < b.N:=by split at h <;> first | assumption | omega
          have g':b.N < c.N:=by split at g <;> first | assumption | omega
          have n3:¬ a.N = c.N:=by omega
          have n4:a.N < c.N:=by omega
          simp [n3,n4]
    · have k3:¬ a.Kind = c.Kind:=fun e => k2 (k1.symm.trans e)
      simp only [k2,ne_eq,not_false_eq_true,if_true] at g
      have g':b.Kind < c.Kind:=by split at g <;> first | assumption | omega
      have:a.Kind < c.Kind:=by omega
      simp [k3,this]
  · simp only [k1,ne_eq,not_false_eq_true,if_true] at h
    have h':a.Kind < b.Kind:=by split at h <;> first | assumption | omega
    by_cases k2:b.Kind = c.Kind
    · have k3:¬ a.Kind = c.Kind:=fun e => k1 (e.trans k2.symm)
      have:a.Kind < c.Kind:=by omega
      simp [k3,this]
    · simp only [k2,ne_eq,not_false_eq_true,if_true] at g
      have g':b.Kind < c.Kind:=by split at g <;> first | assumption | omega
      have k3:¬ a.Kind = c.Kind:=by omega
      have:a.Kind < c.Kind:=by omega
      simp [k3,this]
theorem b6q (a:o8):¬ a7k a a < 0:=by have:=(b3h a a).2 rfl; omega
def a9e (d:List o8):Prop:=d.Pairwise fun a b => a7k a b < 0
theorem b7t:∀ (d:List o8),(∀ i x y,d[i]? = some x → d[i + 1]? = some y → a7k x y < 0) → a9e d
  | [],_ => .nil
  | [a],_ => List.pairwise_singleton _ _
  | a :: b :: l,h => by
    have ih:a9e (b :: l):=b7t (b :: l) (fun i x y hx hy => h (i + 1) x y (by simpa using hx) (by simpa using hy))
    have hab:a7k a b < 0:=h 0 a b rfl rfl
    refine List.pairwise_cons.2 ⟨fun c hc => ?_,ih⟩
    rcases List.mem_cons.1 hc with rfl | hc
    · exact hab
    · exact b5n hab ((List.pairwise_cons.1 ih).1 c hc)
theorem a9e.adj {d:List o8} (h:a9e d):∀ i x y,d[i]? = some x → d[i + 1]? = some y → a7k x y < 0:=by
  intro i x y hx hy
  obtain ⟨hi,rfl⟩:=List.getElem?_eq_some_iff.1 hx
  obtain ⟨hj,rfl⟩:=List.getElem?_eq_some_iff.1 hy
  exact List.pairwise_iff_getElem.1 h i (i + 1) hi hj (by omega)
theorem a9e.ext:∀ {a b:List o8},a9e a → a9e b → (∀ x,x ∈ a ↔ x ∈ b) → a = b
  | [],[],_,_,_ => rfl
  | [],y :: _,_,_,h => absurd ((h y).2 (by simp)) (by simp)
  | x :: _,[],_,_,h => absurd ((h x).1 (by simp)) (by simp)
  | x :: xs,y :: ys,ha,hb,h => by
    obtain ⟨ha1,ha2⟩:=List.pairwise_cons.1 ha
    obtain ⟨hb1,hb2⟩:=List.pairwise_cons.1 hb
    have hxy:x = y:=by
      rcases List.mem_cons.1 ((h x).1 (by simp)) with e | e
      · exact e
      · rcases List.mem_cons.1 ((h y).2 (by simp)) with e' | e'
        · exact e'.symm
        · exact absurd (b5n (ha1 y e') (hb1 x e)) (b6q _)
    subst hxy
    refine congrArg (x :: ·) (a9e.ext ha2 hb2 (fun z => ?_))
    have hz:=h z
    simp only [List.mem_cons] at hz
    constructor
    · intro q
      rcases hz.1 (.inr q) with e | e
      · subst e; exact absurd (ha1 z q) (b6q _)
      · exact e
    · intro q
      rcases hz.2 (.inr q) with e | e
      · subst e; exact absurd (hb1 z q) (b6q _)
      · exact e
theorem a7j.strict {k:Int} {d:List o8} (h:a7j k d):a9e d:=b7t d h.ord
theorem a7j.of {k:Int} {d:List o8} (h1:∀ x ∈ d,a7r x = true ∧ x.Kind = k) (h2:a9e d):a7j k d:=⟨h1,h2.adj⟩
theorem a9e.filter {d:List o8} (h:a9e d) (p:o8 → Bool):a9e (d.filter p):=List.Pairwise.filter p h
def d0o (d:List o8):Prop:=d.Pairwise fun a b => a7k a b ≤ 0
theorem c5z {a b c:o8} (h:a7k a b ≤ 0) (g:a7k b c ≤ 0):a7k a c ≤ 0:=by
  by_cases h0:a7k a b = 0
  · rw [(b3h a b).1 h0]; exact g
  · by_cases g0:a7k b c = 0
    · rw [← (b3h b c).1 g0]; exact h
    · have:=b5n (a:=a) (b:=b) (c:=c) (by omega) (by omega); omega
def dd:o8 → List o8 → List o8
  | _,[] => []
  | a,z :: t => if z = a then dd a t else z :: dd z t
theorem c8n (x:o8):∀ (t:List o8) (a:o8),x ∈ a :: dd a t ↔ x ∈ a :: t
  | [],a => by simp [dd]
  | z :: t,a => by
    unfold dd
    by_cases e:z = a
    · subst e; rw [if_pos rfl,c8n x t z]; simp
    · rw [if_neg e,List.mem_cons,c8n x t z,List.mem_cons (a:=x) (b:=a)]
theorem c5f:∀ (t:List o8) (a:o8),(dd a t).length ≤ t.length
  | [],a => by simp [dd]
  | z :: t,a => by
    unfold dd
    have h1:=c5f t a
    have h2:=c5f t z
    by_cases e:z = a
    · rw [if_pos e]; simp only [List.length_cons]; omega
    · rw [if_neg e]; simp only [List.length_cons]; omega
theorem c0x:∀ (t:List o8) (a:o8),d0o (a :: t) → a9e (a :: dd a t)
  | [],a,_ => List.pairwise_singleton _ _
  | z :: t,a,h => by
    obtain ⟨h1,h2⟩:=List.pairwise_cons.1 h
    unfold dd
    by_cases e:z = a
    · subst e; rw [if_pos rfl]; exact c0x t z h2
    · rw [if_neg e]
      have haz:a7k a z < 0:=by
        have:=h1 z (by simp)
        have h0:a7k a z ≠ 0:=fun q => e ((b3h a z).1 q).symm
        omega
      refine List.pairwise_cons.2 ⟨fun c hc => ?_,c0x t z h2⟩
      have hc':=(c8n c t z).1 hc
      rcases List.mem_cons.1 hc' with rfl | hc'
      · exact haz
      · have hzc:=(List.pairwise_cons.1 h2).1 c hc'
        by_cases hz:a7k z c = 0
        · rw [← (b3h z c).1 hz]; exact haz
        · exact b5n haz (by omega)
theorem d5f:∀ n:Fin 13,(b0a (IntKind.u64.wrap ((n.val:Nat):Int))).isSome = true:=by decide +kernel
theorem b4d {α:Type} (p s:List α) (x:α):(p ++ x :: s)[p.length]? = some x:=by simp
theorem b5o {α:Type} (p s:List α) (x y:α):(p ++ x :: s).set p.length y = p ++ y :: s:=by
  rw [List.set_append_right _ _ (Nat.le_refl _),Nat.sub_self,List.set_cons_zero]
theorem c2n:2 ^ 40 < FUEL:=by unfold FUEL; decide
theorem d0p:∀ (pr:List o8) (k:Nat) (x:o8) (s:List o8),pr.length < k → pr.length + s.length + 1 ≤ 2 ^ 20 → d0o pr.reverse → ∃ p1 p2:List o8,pr.reverse = p1 ++ p2 ∧ a0z 0 k (pr.length:Int) (pr.reverse ++ x :: s) = some (p1 ++ x :: (p2 ++ s)) ∧ (∀ y ∈ p2,a7k x y < 0) ∧ (∀ y ∈ p1,a7k y x ≤ 0)
  | _,0,_,_,h,_,_ => by omega
  | [],k + 1,x,s,_,hl,_ => by
    refine ⟨[],[],rfl,?_,by simp,by simp⟩
    rw [a0z]
    rfl
  | y :: pr,k + 1,x,s,hk,hl,hw => by
    simp only [List.length_cons] at hk hl
    have er:(y :: pr).reverse = pr.reverse ++ [y]:=by simp
    rw [er] at hw
    have hw':d0o pr.reverse:=(List.pairwise_append.1 hw).1
    have hy:∀ z ∈ pr.reverse,a7k z y ≤ 0:=fun z hz => (List.pairwise_append.1 hw).2.2 z hz y (by simp)
    have el:(pr.reverse ++ [y]).length = pr.length + 1:=by simp
    have ed:(pr.reverse ++ [y] ++ x :: s) = pr.reverse ++ y :: x :: s:=by simp
    have e1:decide (((y :: pr).length:Int) > 0) = true:=decide_eq_true (by simp only [List.length_cons]; omega)
    have e2:w64 (((y :: pr).length:Int) - 1) = ((pr.length:Nat):Int):=by rw [a2v (by simp only [List.length_cons]; omega)]; simp only [List.length_cons]; omega
    have g1:(pr.reverse ++ y :: x :: s)[0 + (((y :: pr).length:Nat):Int).toNat]? = some x:=by
      have:=b4d (pr.reverse ++ [y]) s x
      rw [el,ed] at this
      simpa using this
    have g2:(pr.reverse ++ y :: x :: s)[0 + ((pr.length:Nat):Int).toNat]? = some y:=by
      have:=b4d pr.reverse (x :: s) y
      rw [List.length_reverse] at this
      simpa using this
    have b1:0 ≤ (((y :: pr).length:Nat):Int) ∧ (((y :: pr).length:Nat):Int) < ((pr.reverse ++ y :: x :: s).length:Int):=by simp; omega
    have b2:0 ≤ ((pr.length:Nat):Int) ∧ ((pr.length:Nat):Int) < ((pr.reverse ++ y :: x :: s).length:Int):=by simp; omega
    have ss:(pr.reverse ++ y :: x :: s).set (0 + (((y :: pr).length:Nat):Int).toNat) y = pr.reverse ++ y :: y :: s:=by
      have:=b5o (pr.reverse ++ [y]) s x y
      rw [el] at this
      simpa using this
    have s2:(pr.reverse ++ y :: y :: s).set (0 + ((pr.length:Nat):Int).toNat) x = pr.reverse ++ x :: y :: s:=by
      have:=b5o pr.reverse (y :: s) y x
      rw [List.length_reverse] at this
      simpa using this
    have g3:(pr.reverse ++ y :: y :: s)[0 + ((pr.length:Nat):Int).toNat]? = some y:=by
      have:=b4d pr.reverse (y :: s) y
      rw [List.length_reverse] at this
      simpa using this
    rw [a0z,er,ed,if_pos e1,if_pos b1,g1,Option.bind_some,e2,if_pos b2,g2,Option.bind_some,b6n,Option.bind_some,Option.bind_some]
    by_cases c:a7k x y < 0
    · rw [if_pos (by simpa using c),if_pos b2,Option.bind_some,if_pos b1,Option.bind_some,if_pos b1,if_pos b2,ss,g3,Option.bind_some,s2]
      obtain ⟨p1,p2,h1,h2,h3,h4⟩:=d0p pr k x (y :: s) (by omega) (by simp only [List.length_cons]; omega) hw'
      refine ⟨p1,p2 ++ [y],by rw [h1,List.append_assoc],by rw [h2]; simp,fun z hz => ?_,h4⟩
      rcases List.mem_append.1 hz with hz | hz
      · exact h3 z hz
      · simp only [List.mem_singleton] at hz; subst hz; exact c
    · rw [if_neg (by simpa using c)]
      refine ⟨pr.reverse ++ [y],[],by simp,by simp,by simp,fun z hz => ?_⟩
      have hyx:a7k y x ≤ 0:=by have:=c7c x y; omega
      rcases List.mem_append.1 hz with hz | hz
      · exact c5z (hy z hz) hyx
      · simp only [List.mem_singleton] at hz; subst hz; exact hyx
theorem d0q:∀ (s pre:List o8) (k:Nat),s.length < k → pre.length + s.length ≤ 2 ^ 19 → d0o pre → ∃ d,a0s (((pre ++ s).length:Nat):Int) 0 k (pre.length:Int) (pre ++ s) = some d ∧ d0o d ∧ d.Perm (pre ++ s)
  | _,_,0,h,_,_ => by omega
  | [],pre,k + 1,_,_,hw => by
    refine ⟨pre,?_,hw,by simp⟩
    rw [a0s,if_neg (by simp)]
    simp
  | x :: s,pre,k + 1,hk,hl,hw => by
    simp only [List.length_cons] at hk hl
    have hf:=c2n
    rw [a0s,if_pos (by simp; omega)]
    obtain ⟨p1,p2,h1,h2,h3,h4⟩:=d0p pre.reverse FUEL x s (by simp; omega) (by simp; omega) (by simpa using hw)
    rw [List.reverse_reverse] at h1 h2
    rw [List.length_reverse] at h2
    rw [h2,Option.bind_some]
    have hw1:d0o (p1 ++ x :: p2):=by
      rw [h1] at hw
      obtain ⟨a1,a2,a3⟩:=List.pairwise_append.1 hw
      refine List.pairwise_append.2 ⟨a1,List.pairwise_cons.2 ⟨fun z hz => ?_,a2⟩,fun z hz w hw' => ?_⟩
      · have:=h3 z hz; omega
      · rcases List.mem_cons.1 hw' with rfl | hw'
        · exact h4 z hz
        · exact a3 z hz w hw'
    have el:(p1 ++ x :: p2).length = pre.length + 1:=by rw [h1]; simp; omega
    have e1:w64 ((pre.length:Int) + 1) = (((p1 ++ x :: p2).length:Nat):Int):=by rw [a2v (by omega),el]; omega
    have e2:p1 ++ x :: (p2 ++ s) = (p1 ++ x :: p2) ++ s:=by simp
    have e3:(pre ++ x :: s).length = ((p1 ++ x :: p2) ++ s).length:=by rw [show ((p1 ++ x :: p2) ++ s).length = (p1 ++ x :: p2).length + s.length from List.length_append,el]; simp; omega
    obtain ⟨d,g1,g2,g3⟩:=d0q s (p1 ++ x :: p2) k (by omega) (by omega) hw1
    refine ⟨d,?_,g2,g3.trans ?_⟩
    · rw [e1,e2,e3]; exact g1
    · rw [h1,List.append_assoc,List.append_assoc]
      refine List.Perm.append_left p1 ?_
      rw [List.cons_append]
      exact (List.perm_middle (a:=x) (l₁:=p2) (l₂:=s)).symm
theorem e7r (l:List o8) (h:l.length ≤ 2 ^ 19):∃ d,a2f l 0 (l.length:Int) = some d ∧ d0o d ∧ d.Perm l:=by
  have hf:=c2n
  unfold a2f
  cases l with
  | nil =>
    refine ⟨[],?_,.nil,List.Perm.refl _⟩
    obtain ⟨k,hk⟩:∃ k,FUEL = k + 1:=⟨FUEL - 1,by omega⟩
    rw [hk,a0s]
    rfl
  | cons x s =>
    simp only [List.length_cons] at h
    have:=d0q s [x] FUEL (by omega) (by simp; omega) (List.pairwise_singleton _ _)
    have ew:w64 (0 + 1) = 1:=by decide
    rw [ew]
    simpa using this
theorem d2g (l:List o8) (h:l.length ≤ 12):∃ d,a2m l = some d ∧ d0o d ∧ d.Perm l:=by
  have hf:=c2n
  obtain ⟨d,e,h1,h2⟩:=e7r l (by omega)
  refine ⟨d,?_,h1,h2⟩
  have hb:=d5f ⟨l.length,by omega⟩
  unfold a2m
  obtain ⟨n,hn⟩:=Option.isSome_iff_exists.1 hb
  have hn':b0a (IntKind.u64.wrap (l.length:Int)) = some n:=hn
  obtain ⟨k,hk⟩:∃ k,FUEL = k + 1:=⟨FUEL - 1,by omega⟩
  have e2:a1v FUEL l 0 (l.length:Int) n = some d:=by
    rw [hk,a1v]
    unfold a3n
    rw [hk,a1u,if_pos (by rw [a2v (by omega)]; simp; omega),e,Option.bind_some]
  rw [hn',Option.bind_some,e2,Option.bind_some]
theorem b9q (s0:List o8) (k0:Nat):∀ (t c g:List o8) (y:o8) (k k2:Nat),t.length < k → (c ++ (g ++ y :: t)).length = s0.length → c.length + g.length + 1 = k0 + k2 → s0.length ≤ 2 ^ 20 → 1 ≤ k2 → ∃ R,a0q s0 k0 k (c.length:Int) (k2:Int) (c ++ (g ++ y :: t)) = some ((((c ++ dd y t).length:Nat):Int),R) ∧ R.length = s0.length ∧ R.take (c ++ dd y t).length = c ++ dd y t
  | _,_,_,_,0,_,h,_,_,_,_ => by omega
  | [],c,g,y,k + 1,k2,_,hn,hp,hl,h2 => by
    refine ⟨c ++ (g ++ [y]),?_,hn,by simp [dd]⟩
    simp only [List.length_append,List.length_cons,List.length_nil] at hn
    rw [a0q,if_neg (by simp; omega)]
    simp [dd]
  | z :: t,c,g,y,k + 1,k2,hk,hn,hp,hl,h2 => by
    have hn0:=hn
    simp only [List.length_append,List.length_cons] at hn hk
    have e1:decide ((k2:Int) < (((s0.length - k0):Nat):Int)) = true:=decide_eq_true (by omega)
    have b1:0 ≤ (k2:Int) ∧ (k2:Int) < (((s0.length - k0):Nat):Int):=by omega
    have e2:w64 ((k2:Int) - 1) = ((k2 - 1:Nat):Int):=by rw [a2v (by omega)]; omega
    have b2:0 ≤ ((k2 - 1:Nat):Int) ∧ ((k2 - 1:Nat):Int) < (((s0.length - k0):Nat):Int):=by omega
    have g1:(c ++ (g ++ y :: z :: t))[k0 + ((k2:Nat):Int).toNat]? = some z:=by
      have:=b4d (c ++ g ++ [y]) t z
      have el:(c ++ g ++ [y]).length = k0 + k2:=by simp; omega
      rw [el] at this
      simpa using this
    have g2:(c ++ (g ++ y :: z :: t))[k0 + ((k2 - 1:Nat):Int).toNat]? = some y:=by
      have:=b4d (c ++ g) (z :: t) y
      have el:(c ++ g).length = k0 + (k2 - 1):=by simp; omega
      rw [el] at this
      simpa using this
    have e3:w64 ((k2:Int) + 1) = ((k2 + 1:Nat):Int):=by rw [a2v (by omega)]; omega
    rw [a0q,if_pos e1,if_pos b1,g1,Option.bind_some,e2,if_pos b2,g2,Option.bind_some,c5b,e3]
    by_cases e:z = y
    · subst e
      rw [if_neg (by simp)]
      have ed:dd z (z :: t) = dd z t:=by rw [dd,if_pos rfl]
      have ec:c ++ (g ++ z :: z :: t) = c ++ ((g ++ [z]) ++ z :: t):=by simp
      rw [ed,ec]
      exact b9q s0 k0 t c (g ++ [z]) z k (k2 + 1) (by omega) (by rw [← ec]; exact hn0) (by simp; omega) hl (by omega)
    · have ed:dd y (z :: t) = z :: dd z t:=by rw [dd,if_neg e]
      have b3:0 ≤ (c.length:Int) ∧ (c.length:Int) < ((c ++ (g ++ y :: z :: t)).length:Int):=by simp; omega
      have g3:∃ w,(c ++ (g ++ y :: z :: t))[0 + ((c.length:Nat):Int).toNat]? = some w:=⟨_,List.getElem?_eq_getElem (by simp; omega)⟩
      obtain ⟨w,hw⟩:=g3
      have e4:w64 ((c.length:Int) + 1) = (((c ++ [z]).length:Nat):Int):=by rw [a2v (by omega)]; simp
      rw [if_pos (by simp [e]),if_pos b1,if_pos b3,hw,Option.bind_some,e4,ed]
      have ex:c ++ z :: dd z t = (c ++ [z]) ++ dd z t:=by simp
      rw [ex]
      cases g with
      | nil =>
        have es:(c ++ ([] ++ y :: z :: t)).set (0 + ((c.length:Nat):Int).toNat) z = (c ++ [z]) ++ ([] ++ z :: t):=by
          have:=b5o c (z :: t) y z
          simpa using this
        rw [es]
        exact b9q s0 k0 t (c ++ [z]) [] z k (k2 + 1) (by omega) (by simp at hn ⊢; omega) (by simp at hp ⊢; omega) hl (by omega)
      | cons g0 g' =>
        have es:(c ++ (g0 :: g' ++ y :: z :: t)).set (0 + ((c.length:Nat):Int).toNat) z = (c ++ [z]) ++ ((g' ++ [y]) ++ z :: t):=by
          have:=b5o c (g' ++ y :: z :: t) g0 z
          simpa using this
        rw [es]
        exact b9q s0 k0 t (c ++ [z]) (g' ++ [y]) z k (k2 + 1) (by omega) (by simp at hn ⊢; omega) (by simp at hp ⊢; omega) hl (by omega)
theorem d0r (s:List o8) (hl:s.length ≤ 2 ^ 20):∀ (xs pre:List o8) (y:o8),s = pre ++ y :: xs → a0x s xs (pre.length + 1) = some (if dd y xs = xs then .go () else .ret (pre ++ y :: dd y xs))
  | [],pre,y,_ => by rw [a0x]; simp [dd]
  | x :: xs,pre,y,hs => by
    have hn:s.length = pre.length + 1 + 1 + xs.length:=by rw [hs]; simp; omega
    have e1:w64 ((((pre.length + 1:Nat)):Int) - 1) = ((pre.length:Nat):Int):=by rw [a2v (by omega)]; omega
    have g1:s[0 + ((pre.length:Nat):Int).toNat]? = some y:=by
      have:=b4d pre (x :: xs) y
      rw [← hs] at this
      simpa using this
    have es:s = (pre ++ [y]) ++ x :: xs:=by rw [hs]; simp
    rw [a0x,if_pos (by omega),e1,if_pos (by omega),g1,Option.bind_some,c5b]
    by_cases e:x = y
    · subst e
      have ed:dd x (x :: xs) = dd x xs:=by rw [dd,if_pos rfl]
      have hne:¬ dd x (x :: xs) = x :: xs:=by
        rw [ed]; intro h
        have:=c5f xs x
        rw [h] at this
        simp only [List.length_cons] at this
        omega
      have hf:=c2n
      rw [if_pos (by simp),if_pos (by omega),if_neg hne,ed]
      obtain ⟨R,h1,h2,h3⟩:=b9q s (pre.length + 1) xs (pre ++ [x]) [] x FUEL 1 (by omega) (by rw [es]; simp) (by simp) hl (by omega)
      have ec:((pre ++ [x]) ++ ([] ++ x :: xs)) = s:=by rw [es]; simp
      have el:(((pre ++ [x]).length:Nat):Int) = ((pre.length + 1:Nat):Int):=by simp
      have h1':a0q s (pre.length + 1) FUEL ((pre.length + 1:Nat):Int) 1 s = some ((((pre ++ [x] ++ dd x xs).length:Nat):Int),R):=by
        rw [ec,el] at h1; exact h1
      rw [h1',Option.bind_some]
      have hle:(pre ++ [x] ++ dd x xs).length ≤ R.length:=by have:=c5f xs x; rw [h2,hn]; simp; omega
      simp only
      rw [if_pos (by omega),if_pos (by omega)]
      have et:(R.take (((pre ++ [x] ++ dd x xs).length:Nat):Int).toNat) = pre ++ x :: dd x xs:=by
        rw [Int.toNat_natCast,h3]; simp
      rw [et]
      have el2:(((pre ++ [x] ++ dd x xs).length:Nat):Int).toNat = (pre ++ x :: dd x xs).length:=by rw [Int.toNat_natCast]; simp
      rw [el2,List.append_assoc,List.take_left']
      rfl
    · have ed:dd y (x :: xs) = x :: dd x xs:=by rw [dd,if_neg e]
      have e2:pre.length + 1 + 1 = (pre ++ [y]).length + 1:=by simp
      rw [if_neg (by simp [e]),e2,d0r s hl xs (pre ++ [y]) x es,ed]
      by_cases q:dd x xs = xs
      · rw [if_pos q,if_pos (by rw [q])]
      · rw [if_neg q,if_neg (by simpa using q)]
        simp
def c7j:List o8 → List o8
  | [] => []
  | a :: t => a :: dd a t
theorem d5g (s:List o8) (hl:s.length ≤ 2 ^ 20):a2p s = some (c7j s):=by
  unfold a2p
  cases s with
  | nil => rfl
  | cons a t =>
    cases t with
    | nil => rfl
    | cons b t =>
      rw [if_neg (by simp; omega)]
      have:=d0r (a :: b :: t) hl (b :: t) [] a rfl
      have e:a0x (a :: b :: t) ((a :: b :: t).drop 1) 1 = _:=this
      rw [e]
      by_cases q:dd a (b :: t) = b :: t
      · rw [if_pos q,c7j,q]; rfl
      · rw [if_neg q,c7j]; rfl
theorem d3t (l:List o8) (h:l.length ≤ 12):∃ d,b1x l = some d ∧ a9e d ∧ (∀ x,x ∈ d ↔ x ∈ l) ∧ d.length ≤ l.length:=by
  obtain ⟨s,e,h1,h2⟩:=d2g l h
  have hlen:=h2.length_eq
  refine ⟨c7j s,?_,?_,?_,?_⟩
  · unfold b1x a1s
    rw [if_pos (by simp; omega),Option.bind_some,List.nil_append,e,Option.bind_some,d5g s (by omega),Option.bind_some]
  · cases s with
    | nil => exact .nil
    | cons a t => exact c0x t a h1
  · intro x
    rw [← h2.mem_iff]
    cases s with
    | nil => rfl
    | cons a t => exact c8n x t a
  · rw [← hlen]
    cases s with
    | nil => simp [c7j]
    | cons a t => have:=c5f t a; simp only [c7j,List.length_cons]; omega
theorem c8o {k:Int} {d:List o8} (h:a7j k d) (hl:d.length ≤ 8):b4s d = true:=by
  unfold b4s
  rw [a7j.allS h,decide_eq_true (by omega)]
  rfl
theorem b6r (v:o8):∀ (xs:List o8) (i:Nat),v ∈ xs ∧ (∃ n:Nat,a1a v xs i = some (.ret (n:Int))) ∨ v ∉ xs ∧ a1a v xs i = some (.go ())
  | [],i => .inr ⟨by simp,by rw [a1a]⟩
  | x :: xs,i => by
    rw [a1a,c5b]
    by_cases e:v = x
    · rw [if_pos (by simpa using e)]
      exact .inl ⟨by simp [e],i,rfl⟩
    · rw [if_neg (by simpa using e)]
      rcases b6r v xs (i + 1) with ⟨h,n,hn⟩ | ⟨h,hn⟩
      · exact .inl ⟨by simp [h],n,hn⟩
      · exact .inr ⟨by simp [e,h],hn⟩
theorem d0s (d:List o8) (v:o8):a2x d v = some (decide (v ∈ d)):=by
  unfold a2x a4c
  rcases b6r v d 0 with ⟨h,n,hn⟩ | ⟨h,hn⟩
  · rw [hn]; simp [h]
  · rw [hn]; simp [h]
theorem d5h (a b:List o8) (h:a.length + b.length ≤ 2 ^ 29):a3f [a,b] = some (a ++ b):=by
  have e1:w64 (0 + (a.length:Int)) = (a.length:Int):=by rw [a2v (by omega)]; omega
  have e2:w64 ((a.length:Int) + (b.length:Int)) = (a.length:Int) + (b.length:Int):=a2v (by omega)
  unfold a3f
  rw [a1f,e1,if_neg (by simp <;> omega),a1f,e2,if_neg (by simp <;> omega),a1f,Option.bind_some]
  have eg:a3a ((a.length:Int) + (b.length:Int)) = some []:=by
    have e0:w64 (0 - 0) = 0:=by decide
    have e3:w64 ((a.length:Int) + (b.length:Int) - 0) = (a.length:Int) + (b.length:Int):=by rw [a2v (by omega)]; omega
    unfold a3a
    rw [if_neg (by simp <;> omega),Option.bind_some,e0,e3]
    by_cases c:(a.length:Int) + (b.length:Int) > 0
    · rw [if_pos (by simpa using c),if_pos (by omega),if_pos (by omega)]
      simp
    · rw [if_neg (by simpa using c)]
  rw [eg,Option.bind_some,a1g,if_pos (by simp <;> omega),a1g,if_pos (by simp <;> omega),a1g]
  simp
theorem b9r (k:Int):∀ (xs out:List o8),a7j k out → (∀ x ∈ xs,a7r x = true ∧ x.Kind = k) → out.length + xs.length ≤ 100 → ∃ d,a5g xs out = some d ∧ a7j k d ∧ (∀ x,x ∈ d ↔ x ∈ out ∨ x ∈ xs) ∧ d.length ≤ out.length + xs.length
  | [],out,h,_,_ => ⟨out,by rw [a5g],h,by simp,by simp⟩
  | x :: xs,out,h,hx,hl => by
    simp only [List.length_cons] at hl
    obtain ⟨d,e,h1,h2,h3⟩:=d7w k out x h (hx x (by simp)).1 (hx x (by simp)).2 (by omega)
    obtain ⟨d2,e2,g1,g2,g3⟩:=b9r k xs d h1 (fun y hy => hx y (by simp [hy])) (by omega)
    refine ⟨d2,?_,g1,fun y => ?_,by simp only [List.length_cons]; omega⟩
    · rw [a5g,d2e out x (by omega),e,Option.bind_some,e2]
    · rw [g2,h2,List.mem_cons]
      constructor
      · rintro ((h | h) | h)
        · exact .inr (.inl h)
        · exact .inl h
        · exact .inr (.inr h)
      · rintro (h | h | h)
        · exact .inl (.inr h)
        · exact .inl (.inl h)
        · exact .inr h
theorem d0t (x:o8) (c:List o8):a7q x c = some (decide (x ∈ c)):=by
  unfold a7q
  rw [d0s]
  rfl
def keepA (c:List o8) (l:List o8):List o8:=l.filter fun x => !decide (x ∈ c)
theorem b9s (b:List o8):∀ (t c g:List o8) (g0:o8) (k:Nat),t.length < k → c.length + (g0 :: g).length + t.length ≤ 2 ^ 20 → ∃ R,a0t b k (c.length:Int) ((c.length + (g0 :: g).length:Nat):Int) (c ++ (g0 :: g ++ t)) = some ((((c ++ keepA b t).length:Nat):Int),R) ∧ R.length = (c ++ (g0 :: g ++ t)).length ∧ R.take (c ++ keepA b t).length = c ++ keepA b t
  | _,_,_,_,0,h,_ => by omega
  | [],c,g,g0,k + 1,_,hl => by
    refine ⟨c ++ (g0 :: g ++ []),?_,rfl,by simp [keepA]⟩
    rw [a0t,if_neg (by simp)]
    simp [keepA]
  | z :: t,c,g,g0,k + 1,hk,hl => by
    simp only [List.length_cons] at hk hl
    have b1:(0:Int) ≤ ((c.length + (g0 :: g).length:Nat):Int) ∧ ((c.length + (g0 :: g).length:Nat):Int) < ((c ++ (g0 :: g ++ z :: t)).length:Int):=by simp <;> omega
    have g1:(c ++ (g0 :: g ++ z :: t))[0 + ((c.length + (g0 :: g).length:Nat):Int).toNat]? = some z:=by
      have:=b4d (c ++ g0 :: g) t z
      rw [List.length_append] at this
      have ec:c ++ g0 :: g ++ z :: t = c ++ (g0 :: g ++ z :: t):=by simp
      rw [ec] at this
      rw [Int.toNat_natCast,Nat.zero_add]
      exact this
    have e3:w64 (((c.length + (g0 :: g).length:Nat):Int) + 1) = ((c.length + (g0 :: g).length + 1:Nat):Int):=by rw [a2v (by simp only [List.length_cons]; omega)]; omega
    rw [a0t,if_pos (decide_eq_true b1.2),if_pos b1,g1,Option.bind_some,d0t,Option.bind_some,e3]
    by_cases e:z ∈ b
    · have ek:keepA b (z :: t) = keepA b t:=by simp [keepA,e]
      have ec:c ++ (g0 :: g ++ z :: t) = c ++ (g0 :: (g ++ [z]) ++ t):=by simp
      rw [if_neg (by simp [e]),ek,ec]
      have:=b9s b t c (g ++ [z]) g0 k (by omega) (by simp <;> omega)
      have el:c.length + (g0 :: (g ++ [z])).length = c.length + (g0 :: g).length + 1:=by simp <;> omega
      rw [el] at this
      exact this
    · have ek:keepA b (z :: t) = z :: keepA b t:=by simp [keepA,e]
      have b2:(0:Int) ≤ (c.length:Int) ∧ (c.length:Int) < ((c ++ (g0 :: g ++ z :: t)).length:Int):=by simp <;> omega
      obtain ⟨w,hw⟩:∃ w,(c ++ (g0 :: g ++ z :: t))[0 + ((c.length:Nat):Int).toNat]? = some w:=⟨_,List.getElem?_eq_getElem (by simp)⟩
      have e4:w64 ((c.length:Int) + 1) = (((c ++ [z]).length:Nat):Int):=by rw [a2v (by omega)]; simp
      have ex:c ++ z :: keepA b t = (c ++ [z]) ++ keepA b t:=by simp
      rw [if_pos (by simp [e]),if_pos b2,hw,Option.bind_some,e4,ek,ex]
      cases g with
      | nil =>
        have es:(c ++ ([g0] ++ z :: t)).set (0 + ((c.length:Nat):Int).toNat) z = (c ++ [z]) ++ ([z] ++ t):=by
          have:=b5o c (z :: t) g0 z
          simpa using this
        have:=b9s b t (c ++ [z]) [] z k (by omega) (by simp at hl ⊢; omega)
        have el:(c ++ [z]).length + [z].length = c.length + [g0].length + 1:=by simp
        have el2:((c ++ [z]) ++ ([z] ++ t)).length = (c ++ ([g0] ++ z :: t)).length:=by simp
        rw [el,el2] at this
        rw [es]
        exact this
      | cons g1' g' =>
        have es:(c ++ (g0 :: g1' :: g' ++ z :: t)).set (0 + ((c.length:Nat):Int).toNat) z = (c ++ [z]) ++ (g1' :: (g' ++ [z]) ++ t):=by
          have:=b5o c (g1' :: g' ++ z :: t) g0 z
          simpa using this
        have:=b9s b t (c ++ [z]) (g' ++ [z]) g1' k (by omega) (by simp at hl ⊢; omega)
        have el:(c ++ [z]).length + (g1' :: (g' ++ [z])).length = c.length + (g0 :: g1' :: g').length + 1:=by simp <;> omega
        have el2:((c ++ [z]) ++ (g1' :: (g' ++ [z]) ++ t)).length = (c ++ (g0 :: g1' :: g' ++ z :: t)).length:=by simp <;> omega
        rw [el,el2] at this
        rw [es]
        exact this
theorem c7k (b:List o8):∀ (xs:List o8) (i:Nat),a0j (fun a0 => a7q a0 b) xs i = some (.go ()) ∧ keepA b xs = xs ∨ ∃ (p:List o8) (x:o8) (t:List o8),xs = p ++ x :: t ∧ a0j (fun a0 => a7q a0 b) xs i = some (.ret ((i + p.length:Nat):Int)) ∧ keepA b xs = p ++ keepA b t
  | [],i => .inl ⟨by rw [a0j],rfl⟩
  | y :: ys,i => by
    rw [a0j,d0t,Option.bind_some]
    by_cases e:y ∈ b
    · rw [if_pos (by simpa using e)]
      exact .inr ⟨[],y,ys,rfl,by simp,by simp [keepA,e]⟩
    · rw [if_neg (by simpa using e)]
      rcases c7k b ys (i + 1) with ⟨h1,h2⟩ | ⟨p,x,t,h1,h2,h3⟩
      · refine .inl ⟨h1,?_⟩
        have:keepA b (y :: ys) = y :: keepA b ys:=by simp [keepA,e]
        rw [this,h2]
      · refine .inr ⟨y :: p,x,t,by rw [h1]; rfl,?_,?_⟩
        · rw [h2]; simp; omega
        · have:keepA b (y :: ys) = y :: keepA b ys:=by simp [keepA,e]
          rw [this,h3]; rfl
theorem e1a (a b:List o8) (hl:a.length ≤ 2 ^ 20):b4q a b = some (keepA b a):=by
  have hf:2 ^ 40 < FUEL:=by unfold FUEL; decide
  unfold b4q a1s
  rw [if_pos (by simp <;> omega),Option.bind_some,List.nil_append]
  have e:a2g a b = some (keepA b a,b):=by
    unfold a2g a2b
    rcases c7k b a 0 with ⟨h1,h2⟩ | ⟨p,x,t,h1,h2,h3⟩
    · rw [h1,h2]; rfl
    · rw [h2]
      simp only [Option.bind_some,Nat.zero_add]
      have hla:a.length = p.length + 1 + t.length:=by rw [h1]; simp; omega
      have e0:(((p.length:Nat):Int) == (-1)) = false:=by simp <;> omega
      have ew:w64 ((p.length:Int) + 1) = ((p.length + [x].length:Nat):Int):=by rw [a2v (by omega)]; simp
      obtain ⟨R,g1,g2,g3⟩:=b9s b t p [] x FUEL (by omega) (by simp <;> omega)
      have ea:p ++ ([x] ++ t) = a:=by rw [h1]; simp
      rw [ea] at g1 g2
      rw [e0,if_neg (by simp),ew,g1,Option.bind_some]
      have hle:(p ++ keepA b t).length ≤ R.length:=by
        have:(keepA b t).length ≤ t.length:=List.length_filter_le _ _
        rw [g2,hla]; simp; omega
      simp only
      rw [if_pos (by omega),if_pos (by omega),Int.toNat_natCast,g3,h3,List.append_assoc,List.take_left']
      rfl
  rw [e,Option.bind_some]
theorem d5i {k:Int} {a:List o8} (h:a7j k a) (b:List o8):a7j k (keepA b a):=a7j.of (fun x hx => h.atom x (List.mem_filter.1 hx).1) (h.strict.filter _)
def b4e (t:a0w) (i:Nat) (d:List o8):Bool:=b4s d && match t.Columns[i]? with | some c => b0w c d == 0 | none => false
def b3w (t:a0w) (r:a4p):Bool:=decide (1 ≤ r.Id ∧ r.Id ≤ 1000000) && decide (r.Cells.length = t.Columns.length) && a7l (b4e t) r.Cells 0
theorem b9t (t:a0w):∀ (xs:List (List o8)) (i:Nat),i + xs.length ≤ t.Columns.length → (∀ d ∈ xs,d.length ≤ maxLen) → a4z t xs i = some (if a7l (b4e t) xs i = true then .go () else .ret false)
  | [],i,_,_ => by rw [a4z]; rfl
  | d :: xs,i,h,hd => by
    simp only [List.length_cons] at h
    obtain ⟨c,hc⟩:∃ c,t.Columns[i]? = some c:=⟨t.Columns[i]'(by omega),List.getElem?_eq_getElem (by omega)⟩
    rw [a4z,c7d d (hd d (by simp)),Option.bind_some,a7t,hc,b9t t xs (i + 1) (by omega) (fun x hx => hd x (by simp [hx]))]
    simp only [a7l,b4e,hc,Option.bind_some,c8l]
    cases b4s d <;> by_cases q:b0w c d = 0 <;> simp [q]
theorem c1n (t:a0w):∀ (xs:List (List o8)) (i:Nat),i + xs.length ≤ t.Columns.length → a5v t xs i = some (if a7l (b4e t) xs i = true then .go () else .ret false)
  | [],i,_ => by rw [a5v]; rfl
  | d :: xs,i,h => by
    simp only [List.length_cons] at h
    obtain ⟨c,hc⟩:∃ c,t.Columns[i]? = some c:=⟨t.Columns[i]'(by omega),List.getElem?_eq_getElem (by omega)⟩
    rw [a5v,c4v d,Option.bind_some,a7t,hc,c1n t xs (i + 1) (by omega)]
    simp only [a7l,b4e,hc,Option.bind_some,c2l]
    cases b4s d <;> by_cases q:b0w c d = 0 <;> simp [q]
theorem d5j (t:a0w) (r:a4p) (h:∀ d ∈ r.Cells,d.length ≤ maxLen):b1k t r = some (decide (r.Cells.length = t.Columns.length) && a7l (b4e t) r.Cells 0):=by
  unfold b1k
  by_cases e:r.Cells.length = t.Columns.length
  · have e':((r.Cells.length:Int) != (t.Columns.length:Int)) = false:=by simp [e]
    rw [e',b9t t r.Cells 0 (by omega) h]
    cases a7l (b4e t) r.Cells 0 <;> simp [e]
  · have e':((r.Cells.length:Int) != (t.Columns.length:Int)) = true:=by simp; omega
    rw [e']
    simp [e]
theorem d7z (t:a0w) (r:a4p):b2p t r = some (b3w t r):=by
  unfold b2p b3w
  rw [c5x,Option.bind_some]
  by_cases e:r.Cells.length = t.Columns.length
  · have e':((r.Cells.length:Int) != (t.Columns.length:Int)) = false:=by simp [e]
    rw [e',c1n t r.Cells 0 (by omega)]
    cases decide (1 ≤ r.Id ∧ r.Id ≤ 1000000) <;> cases a7l (b4e t) r.Cells 0 <;> simp [e]
  · have e':((r.Cells.length:Int) != (t.Columns.length:Int)) = true:=by simp; omega
    rw [e']
    cases decide (1 ≤ r.Id ∧ r.Id ≤ 1000000) <;> simp [e]
theorem d3u (t:a0w) (r:a4p) (h:∀ d ∈ r.Cells,d.length ≤ maxLen):b0l t r = some (c4y t && b3w t r):=by
  unfold b0l b3g b3w
  rw [c7e,a8c,d5j t r h]
  cases c4y t <;> cases decide (1 ≤ r.Id ∧ r.Id ≤ 1000000) <;> simp
theorem d8a (t:a0w) (r:a4p):b3t t r = some (c4y t && b3w t r):=by
  unfold b3t
  rw [c4z,d7z]
  cases c4y t <;> simp
theorem b6s {t:a0w} {r:a4p} (h:b3w t r = true) {d:List o8} (hd:d ∈ r.Cells):b4s d = true:=by
  unfold b3w at h
  simp only [Bool.and_eq_true] at h
  obtain ⟨q,hq⟩:=d7t h.2 hd
  unfold b4e at hq
  simp only [Bool.and_eq_true] at hq
  exact hq.1
theorem b9u {d:List o8} (h:b4s d = true):d.length ≤ 8:=by
  unfold b4s at h
  simp only [Bool.and_eq_true,decide_eq_true_eq] at h
  omega
theorem b9v:∀ (xs out:List (List o8)),out.length + xs.length ≤ 2 ^ 30 → (∀ d ∈ xs,d.length ≤ 2 ^ 30) → a5a xs out = some (out ++ xs)
  | [],out,_,_ => by rw [a5a]; simp
  | x :: xs,out,h,hd => by
    simp only [List.length_cons] at h
    have:=hd x (by simp)
    rw [a5a]
    unfold a1s
    rw [if_pos (by simp; omega),Option.bind_some,if_pos (by simp; omega),b9v xs _ (by simp; omega) (fun y hy => hd y (by simp [hy]))]
    simp
theorem d5k (r:a4p) (h:r.Cells.length ≤ 2 ^ 30) (hd:∀ d ∈ r.Cells,d.length ≤ 2 ^ 30):b1l r = some r:=by
  unfold b1l
  rw [b9v r.Cells [] (by simp; omega) hd,Option.bind_some]
  cases r with
  | mk i c =>
    cases c with
    | nil => rfl
    | cons a c => rw [if_pos (by simp)]; simp
theorem b6t:∀ (xs out:List (List o8)),out.length + xs.length ≤ 2 ^ 30 → (∀ d ∈ xs,d.length ≤ 2 ^ 30) → a4e xs out = some (out ++ xs)
  | [],out,_,_ => by rw [a4e]; simp
  | x :: xs,out,h,hd => by
    simp only [List.length_cons] at h
    have:=hd x (by simp)
    rw [a4e,if_pos (by simp; omega),if_pos (by simp; omega),b6t xs _ (by simp; omega) (fun y hy => hd y (by simp [hy]))]
    simp
theorem d0u (r:a4p) (h:r.Cells.length ≤ 2 ^ 30) (hd:∀ d ∈ r.Cells,d.length ≤ 2 ^ 30):a9a r = some r:=by
  unfold a9a
  rw [b6t r.Cells [] (by simp; omega) hd,Option.bind_some]
  cases r
  simp
def nt0:a0w:=⟨[110,111,116,101],[(⟨[110,97,109,101],2,1,1,0,0,[],false⟩:a0m),(⟨[97,98,111,117,116],4,0,4,0,0,[112,111,114,116],false⟩:a0m)],[],true⟩
def nt1:a0w:=⟨[112,111,114,116],[(⟨[110,97,109,101],2,1,1,0,0,[],false⟩:a0m),(⟨[116,97,103],1,0,1,0,99,[],false⟩:a0m),(⟨[117,112],3,1,1,0,0,[],false⟩:a0m)],[(0:Int)],false⟩
def nt2:a0w:=⟨[115,119,105,116,99,104],[(⟨[110,97,109,101],2,1,1,0,0,[],false⟩:a0m),(⟨[99,111,117,110,116],1,1,1,(-1000),1000,[],false⟩:a0m),(⟨[112,111,114,116,115],4,0,8,0,0,[112,111,114,116],true⟩:a0m)],[(0:Int)],true⟩
def c5g:b7a:=⟨[nt0,nt1,nt2]⟩
theorem d0v:a7o = some c5g:=rfl
theorem c7l (v:Int) (h:0 ≤ v ∧ v < 3):∃ t,idx c5g.Tables v = some t ∧ c5g.Tables[v.toNat]? = some t ∧ (t = nt0 ∨ t = nt1 ∨ t = nt2):=by
  have:v = 0 ∨ v = 1 ∨ v = 2:=by omega
  rcases this with rfl | rfl | rfl
  · exact ⟨nt0,rfl,rfl,.inl rfl⟩
  · exact ⟨nt1,rfl,rfl,.inr (.inl rfl)⟩
  · exact ⟨nt2,rfl,rfl,.inr (.inr rfl)⟩
def a8j (c:a0m):List o8:=if c.Min = 0 then [] else [⟨c.Kind,if c.Kind = 1 then (if (if 0 < c.High then 0 else c.High) > c.Low then (if 0 < c.High then 0 else c.High) else c.Low) else 0,[]⟩]
theorem d8b (c:a0m):a7e c = some (a8j c):=by
  unfold a7e a8j
  by_cases h:c.Min = 0
  · simp [h]
  · by_cases k:c.Kind = 1 <;> simp [h,k]
theorem c8p {t:a0w} (h:t = nt0 ∨ t = nt1 ∨ t = nt2):c4y t = true:=by rcases h with rfl | rfl | rfl <;> decide
theorem d0w {t:a0w} (h:t = nt0 ∨ t = nt1 ∨ t = nt2):a7l (b4e t) (t.Columns.map a8j) 0 = true:=by rcases h with rfl | rfl | rfl <;> decide
theorem d8c {t:a0w} (h:t = nt0 ∨ t = nt1 ∨ t = nt2):t.Columns.length ≤ 3:=by rcases h with rfl | rfl | rfl <;> decide
theorem d8d {t:a0w} (h:t = nt0 ∨ t = nt1 ∨ t = nt2) (id:Int) (hi:1 ≤ id ∧ id ≤ 1000000):b3w t ⟨id,t.Columns.map a8j⟩ = true:=by
  unfold b3w
  simp only [hi,and_self,decide_true,List.length_map,d0w h,Bool.and_self]
theorem b9w (b:a4p):∀ (xs:List (List o8)) (i:Nat),b.Cells.drop i = xs → a5h b xs i = some (.go ())
  | [],i,_ => by rw [a5h]
  | x :: xs,i,h => by
    rw [a5h,c4c h,Option.bind_some,e0y,Option.bind_some,if_neg (by simp),b9w b xs (i + 1) (b0q h)]
theorem d5l (r:a4p):b1p r r = some true:=by
  unfold b1p
  rw [Option.bind_some,if_neg (by simp),b9w r r.Cells 0 (by simp)]
  rfl
theorem d8e {α:Type} (f:Nat → α → Bool) (xs:List α) (k:Nat) (y:α) (h:a7l f xs 0 = true) (hy:f k y = true):a7l f (xs.set k y) 0 = true:=by
  rw [b3u] at h ⊢
  intro q x hq
  rw [Nat.zero_add]
  rw [List.getElem?_set] at hq
  by_cases e:k = q
  · subst e
    rw [if_pos rfl] at hq
    split at hq
    · cases hq; exact hy
    · cases hq
  · rw [if_neg e] at hq
    have:=h q x hq
    rwa [Nat.zero_add] at this
theorem b7c (s:a1j):(⟨s.Code,s.At,s.Seed⟩:a1j) = s:=rfl
def e7s (c:a0m):Bool:=decide (1 ≤ c.Kind ∧ c.Kind ≤ 4) && b6o c.Name
theorem d9n {t:a0w} (h:t = nt0 ∨ t = nt1 ∨ t = nt2):t.Columns.all e7s = true:=by rcases h with rfl | rfl | rfl <;> decide
theorem d9o {t:a0w} (h:t = nt0 ∨ t = nt1 ∨ t = nt2):2 ≤ t.Columns.length:=by rcases h with rfl | rfl | rfl <;> decide
theorem e7t {k:Int} {a:o8} (h1:a7r a = true) (h2:a.Kind = k):a7j k [a]:=⟨fun x hx => by simp at hx; subst hx; exact ⟨h1,h2⟩,fun i x y hx hy => by simp at hy⟩
theorem d8f {a:o8} (h:a7r a = true):b4s [a] = true:=c8o (e7t h rfl) (by simp)
theorem d3v {t:a0w} (ht:t = nt0 ∨ t = nt1 ∨ t = nt2) (v:Int) (h:0 ≤ v ∧ v < (t.Columns.length:Int)):∃ c,idx t.Columns v = some c ∧ c ∈ t.Columns ∧ 1 ≤ c.Kind ∧ c.Kind ≤ 4 ∧ b6o c.Name = true:=by
  obtain ⟨m,rfl⟩:∃ m:Nat,v = (m:Int):=⟨v.toNat,by omega⟩
  obtain ⟨c,hc⟩:∃ c,t.Columns[m]? = some c:=⟨t.Columns[m]'(by omega),List.getElem?_eq_getElem (by omega)⟩
  have hm:=List.mem_of_getElem? hc
  have:=List.all_eq_true.1 (d9n ht) c hm
  simp only [e7s,Bool.and_eq_true,decide_eq_true_eq] at this
  exact ⟨c,by rw [a7t,hc],hm,this.1.1,this.1.2,this.2⟩
theorem d8g (n:Int) (h:-1000000000 ≤ n ∧ n ≤ 1000000000):a7r ⟨1,n,[]⟩ = true:=by
  unfold a7r
  simp [h]
theorem e1b (v:Int) (hv:0 ≤ v ∧ v < 3) (s:a1j) (ho:b5t s) (ha:s.At + 60 < 2 ^ 48):∃ c s',a8a v s = some (c,s') ∧ (b2q c = true ∧ c.Value.length ≤ 4) ∧ Nx s s' 30:=by
  obtain ⟨t,_,e30,ht⟩:=c7l v hv
  have e3:c5g.Tables[0 + v.toNat]? = some t:=by simpa using e30
  have hlp:(c5g.Tables.length:Int) = 3:=rfl
  have hlen:=d8c ht
  have hlen1:=d9o ht
  unfold a8a
  rw [d0v,Option.bind_some,if_pos (by rw [hlp]; exact hv),e3,Option.bind_some]
  obtain ⟨q,s2,e2,q1,q2,n2⟩:=b2x t.Columns.length s ho (by omega) (by omega) (by omega)
  have h2:=n2.hi
  obtain ⟨c0,ec0,_,c01,c02,c03⟩:=d3v ht q ⟨q1,q2⟩
  rw [e2,Option.bind_some,ec0,Option.bind_some,Option.bind_some]
  simp only [b7c]
  obtain ⟨b1,s3,e4,n3⟩:=d0k 2 s2 n2.ok (by omega) (by omega) (by omega)
  have h3:=n3.hi
  have hcol:∃ (s4:a1j) (c:a0m),((a5k 2 s2).bind fun r_49 =>
    if r_49.1 then
    (a1i 2 r_49.2).bind fun r_53 =>
    (idx t.Columns (w64 ((w64 ((t.Columns.length:Int) - 1)) - r_53.1))).bind fun x_55 =>
    some (r_53.2.Code,r_53.2.At,r_53.2.Seed,x_55.Name,x_55.Kind,x_55.Min,x_55.Max,x_55.Low,x_55.High,x_55.Ref,x_55.Strong)
    else
    some (r_49.2.Code,r_49.2.At,r_49.2.Seed,c0.Name,c0.Kind,c0.Min,c0.Max,c0.Low,c0.High,c0.Ref,c0.Strong):Option ((List Int) × Int × Int × Str × Int × Int × Int × Int × Int × Str × Bool)) = some (s4.Code,s4.At,s4.Seed,c.Name,c.Kind,c.Min,c.Max,c.Low,c.High,c.Ref,c.Strong) ∧ (1 ≤ c.Kind ∧ c.Kind ≤ 4) ∧ b6o c.Name = true ∧ Nx s2 s4 2:=by
    rw [e4,Option.bind_some]
    cases b1 with
    | true =>
      obtain ⟨y,s4,e5,y1,y2,n4⟩:=b2x 2 s3 n3.ok (by omega) (by omega) (by omega)
      have ew:w64 (w64 ((t.Columns.length:Int) - 1) - y) = (t.Columns.length:Int) - 1 - y:=by rw [a2v (n:=(t.Columns.length:Int) - 1) (by omega),a2v (by omega)]
      obtain ⟨c,ec,_,c1,c2,c3⟩:=d3v ht ((t.Columns.length:Int) - 1 - y) (by omega)
      rw [if_pos rfl,e5,Option.bind_some,ew,ec,Option.bind_some]
      exact ⟨s4,c,rfl,⟨c1,c2⟩,c3,(n3.trans n4).mono (by omega)⟩
    | false =>
      rw [if_neg (by simp)]
      exact ⟨s3,c0,rfl,⟨c01,c02⟩,c03,n3.mono (by omega)⟩
  obtain ⟨s4,c,e5,c1,c3,n4⟩:=hcol
  have h4:=n4.hi
  rw [e5,Option.bind_some]
  simp only [b7c]
  obtain ⟨y,s5,e6,y1,y2,n5⟩:=b2x 2 s4 n4.ok (by omega) (by omega) (by omega)
  have h5:=n5.hi
  obtain ⟨d,s6,e7,d1,d2,n6⟩:=d9m c.Kind s5 c1 n5.ok (by omega)
  have h6:=n6.hi
  rw [e6,Option.bind_some,e7,Option.bind_some,Option.bind_some]
  simp only [b7c]
  have ey:w64 (6 + y) = 6 + y:=a2v (by omega)
  rw [ey]
  have nn:=((n2.trans n4).trans n5).trans n6
  have last:∀ (b:Bool) (s7:a1j),Nx s6 s7 1 → ∃ c' s',(if b = true then (a1i 5 s7).bind fun r_83 => (a1i 9 r_83.2).bind fun r_85 => some ((⟨c.Name,w64 (1 + r_83.1),[(⟨1,w64 (r_85.1 - 3),[]⟩:o8)]⟩:a2w),r_85.2) else some ((⟨c.Name,6 + y,d⟩:a2w),s7)) = some (c',s') ∧ (b2q c' = true ∧ c'.Value.length ≤ 4) ∧ Nx s s' 30:=by
    intro b s7 n7
    have h7:=n7.hi
    cases b with
    | true =>
      obtain ⟨u,s8,e8,u1,u2,n8⟩:=b2x 5 s7 n7.ok (by omega) (by omega) (by omega)
      have h8:=n8.hi
      obtain ⟨z,s9,e9,z1,z2,n9⟩:=b2x 9 s8 n8.ok (by omega) (by omega) (by omega)
      rw [if_pos rfl,e8,Option.bind_some,e9,Option.bind_some,a2v (n:=1 + u) (by omega),a2v (n:=z - 3) (by omega)]
      refine ⟨_,s9,rfl,⟨?_,by simp⟩,(((nn.trans n7).trans n8).trans n9).mono (by omega)⟩
      unfold b2q
      have hat:a7r (⟨1,z - 3,[]⟩:o8) = true:=by
        have:-1000000000 ≤ z - 3 ∧ z - 3 ≤ 1000000000:=by omega
        simp [a7r,this]
      rw [decide_eq_true (show 1 ≤ 1 + u ∧ 1 + u ≤ 7 by omega),d8f hat,c3]
      rfl
    | false =>
      rw [if_neg (by simp)]
      refine ⟨_,s7,rfl,⟨?_,d2⟩,(nn.trans n7).mono (by omega)⟩
      unfold b2q
      rw [decide_eq_true (show 1 ≤ 6 + y ∧ 6 + y ≤ 7 by omega),c8o d1 (by omega),c3]
      rfl
  by_cases k:c.Kind = 1
  · rw [if_pos (by simpa using k)]
    obtain ⟨b6,s7,e8,n7⟩:=d0k 4 s6 n6.ok (by omega) (by omega) (by omega)
    rw [e8,Option.bind_some,Option.bind_some]
    simp only [b7c]
    exact last _ s7 n7
  · rw [if_neg (by simpa using k),Option.bind_some]
    simp only [b7c]
    exact last false s6 ((Nx.refl n6.ok).mono (by omega))
theorem c1o (v:Int) (hv:0 ≤ v ∧ v < 3):∀ (i k:Nat) (s:a1j) (out:List a2w),i < k → (∀ m ∈ out,b2q m = true ∧ m.Value.length ≤ 4) → out.length + i ≤ 100 → b5t s → s.At + 30 * i + 60 < 2 ^ 48 →
    ∃ l,a5t v k (i:Int) s.Code s.At s.Seed out = some l ∧ (∀ m ∈ l,b2q m = true ∧ m.Value.length ≤ 4) ∧ l.length ≤ out.length + i
  | _,0,_,_,h,_,_,_,_ => by omega
  | 0,k + 1,s,out,h,hv,_,ho,_ => ⟨out,by rw [a5t,if_neg (by simp)],hv,by omega⟩
  | i + 1,k + 1,s,out,h,ha,hl,ho,hb => by
    rw [a5t,if_pos (by simp),b7c]
    obtain ⟨c,s1,e1,c1,n1⟩:=e1b v hv s ho (by omega)
    have h1:=n1.hi
    have ew:w64 (((i + 1:Nat):Int) - 1) = (i:Int):=by rw [a2v (by omega)]; omega
    rw [e1,Option.bind_some,if_pos (by simp; omega),ew]
    obtain ⟨l,e2,l1,l2⟩:=c1o v hv i k s1 (out ++ [c]) (by omega) (fun m hm => by
      rcases List.mem_append.1 hm with hm | hm
      · exact ha m hm
      · simp at hm; subst hm; exact c1) (by simp; omega) n1.ok (by omega)
    simp only [List.length_append,List.length_cons,List.length_nil] at l2
    exact ⟨l,e2,l1,by omega⟩
theorem d8h (code:List Int) (v:Int) (hv:0 ≤ v ∧ v < 3) (hc:∀ x ∈ code,0 ≤ x ∧ x < 256) (hl:(code.length:Int) ≤ 1048576):∃ l,b2n code v = some l ∧ (∀ m ∈ l,b2q m = true ∧ m.Value.length ≤ 4) ∧ l.length ≤ 3:=by
  have hf:2 ^ 40 < FUEL:=by unfold FUEL; decide
  obtain ⟨s,e,ho,ha,_⟩:=d7v code hc hl
  obtain ⟨q,s1,e1,q1,q2,n1⟩:=b2x 4 s ho (by omega) (by omega) (by omega)
  obtain ⟨i,rfl⟩:∃ i:Nat,q = (i:Int):=⟨q.toNat,by omega⟩
  have h1:=n1.hi
  obtain ⟨l,e2,l1,l2⟩:=c1o v hv i FUEL s1 [] (by omega) (fun m hm => by simp at hm) (by simp; omega) n1.ok (by omega)
  simp only [List.length_nil] at l2
  unfold b2n
  rw [e,Option.bind_some,e1,Option.bind_some,e2,Option.bind_some]
  exact ⟨l,rfl,l1,by omega⟩
def d0x (f a b:Int):Option Int:=if f = 1 then some (a + b) else if f = 2 then some (a - b) else if f = 3 then some (a * b) else if b = 0 then none else if f = 5 then some (a.tmod b) else some (a.tdiv b)
def d0y (n:Int):Bool:=decide (-1000000000 ≤ n ∧ n ≤ 1000000000)
theorem d8i (a b:Int) (ha:-1000000000 ≤ a ∧ a ≤ 1000000000) (hb:-1000000000 ≤ b ∧ b ≤ 1000000000):-1000000000000000000 ≤ a * b ∧ a * b ≤ 1000000000000000000:=by
  have h:=Int.natAbs_mul a b
  have h2:a.natAbs * b.natAbs ≤ 1000000000 * 1000000000:=Nat.mul_le_mul (by omega) (by omega)
  omega
theorem e0i (a b:Int) (h:-1000000000 ≤ a ∧ a ≤ 1000000000):-1000000000 ≤ a.tdiv b ∧ a.tdiv b ≤ 1000000000:=by
  have h1:(a.tdiv b).natAbs ≤ a.natAbs:=by rw [Int.natAbs_tdiv]; exact Nat.div_le_self _ _
  omega
theorem d5m (f a b:Int) (hf:1 ≤ f ∧ f ≤ 5) (ha:-1000000000 ≤ a ∧ a ≤ 1000000000) (hb:-1000000000 ≤ b ∧ b ≤ 1000000000):b2o f a b = some (match d0x f a b with | some n => if d0y n = true then (n,0) else (0,4) | none => (0,4)):=by
  have hm:=d8i a b ha hb
  have hd:=e0i a b ha
  unfold b2o a6f d0x
  have c:f = 1 ∨ f = 2 ∨ f = 3 ∨ f = 4 ∨ f = 5:=by omega
  by_cases hz:b = 0
  · subst hz
    rcases c with rfl | rfl | rfl | rfl | rfl
    all_goals simp [a8c,d0y]
    all_goals (try rw [a2v (by omega)])
    all_goals (split <;> simp_all)
    all_goals (try omega)
  · have hb0:(b == 0) = false:=by simpa using hz
    rcases c with rfl | rfl | rfl | rfl | rfl
    all_goals simp [hz,a8c,d0y]
    all_goals (try rw [a2v (by omega)])
    all_goals (split <;> simp_all)
    all_goals (try omega)
theorem d5n (f a b:Int) (hf:1 ≤ f ∧ f ≤ 5) (ha:-1000000000 ≤ a ∧ a ≤ 1000000000) (hb:-1000000000 ≤ b ∧ b ≤ 1000000000):a9b f a b = some (match d0x f a b with | some n => (n,d0y n) | none => (0,false)):=by
  have hm:=d8i a b ha hb
  have hd:=e0i a b ha
  unfold a9b d0x
  have c:f = 1 ∨ f = 2 ∨ f = 3 ∨ f = 4 ∨ f = 5:=by omega
  by_cases hz:b = 0
  · subst hz
    rcases c with rfl | rfl | rfl | rfl | rfl
    all_goals simp [c5x,d0y]
    all_goals (try rw [a2v (by omega)])
    all_goals (try simp)
  · rcases c with rfl | rfl | rfl | rfl | rfl
    all_goals simp [hz,c5x,d0y]
    all_goals (try rw [a2v (by omega)])
    all_goals (try simp)
theorem e0j {x:o8} (h:a7r x = true) (hk:x.Kind = 1):-1000000000 ≤ x.N ∧ x.N ≤ 1000000000 ∧ x.T = []:=by
  unfold a7r at h
  simp [hk] at h
  exact ⟨h.1.1,h.1.2,h.2⟩
theorem d3w (m:a2w) (b:o8) (hv:m.Value = [b]) (hb:-1000000000 ≤ b.N ∧ b.N ≤ 1000000000) (hf:1 ≤ m.Func ∧ m.Func ≤ 5):∀ (xs o oS:List o8),(∀ x ∈ xs,a7r x = true ∧ x.Kind = 1) → a7j 1 oS → (∀ x,x ∈ oS ↔ x ∈ o) → o.length + xs.length ≤ 8 → oS.length ≤ o.length →
    (a4t m xs o = some (.ret ([],4)) ∧ a3u m xs oS = some (.ret ([],4))) ∨ (∃ o' oS',a4t m xs o = some (.go o') ∧ a3u m xs oS = some (.go oS') ∧ a7j 1 oS' ∧ (∀ x,x ∈ oS' ↔ x ∈ o') ∧ o'.length ≤ 8)
  | [],o,oS,_,hs,hm,hl,_ => .inr ⟨o,oS,by rw [a4t],by rw [a3u],hs,hm,by simpa using hl⟩
  | x :: xs,o,oS,hx,hs,hm,hl,hl2 => by
    simp only [List.length_cons] at hl
    obtain ⟨x1,x2⟩:=hx x (by simp)
    obtain ⟨n1,n2,_⟩:=e0j x1 x2
    have ei:idx m.Value 0 = some b:=by rw [hv]; rfl
    rw [a4t,a3u,ei,Option.bind_some,Option.bind_some,d5m _ _ _ hf ⟨n1,n2⟩ hb,d5n _ _ _ hf ⟨n1,n2⟩ hb,Option.bind_some,Option.bind_some]
    cases hc:d0x m.Func x.N b.N with
    | none => exact .inl ⟨by simp,by simp⟩
    | some n =>
      simp only
      cases hn:d0y n with
      | false => exact .inl ⟨by simp,by simp⟩
      | true =>
        have hn':-1000000000 ≤ n ∧ n ≤ 1000000000:=by simpa [d0y] using hn
        obtain ⟨d,e,h1,h2,h3⟩:=d7w 1 oS ⟨1,n,[]⟩ hs (d8g n hn') rfl (by omega)
        rw [if_pos rfl,if_neg (by simp),if_pos (by simp; omega),if_neg (by simp),d2e oS _ (by omega),e,Option.bind_some]
        exact d3w m b hv hb hf xs (o ++ [⟨1,n,[]⟩]) d (fun y hy => hx y (by simp [hy])) h1 (fun y => by rw [h2,List.mem_append,hm]; simp [or_comm]) (by simp; omega) (by simp; omega)
theorem c0y (b:List o8):∀ (xs out:List o8),out.length + xs.length ≤ 2 ^ 29 → a4a b xs out = some (out ++ keepA b xs)
  | [],out,_ => by rw [a4a]; simp [keepA]
  | x :: xs,out,h => by
    simp only [List.length_cons] at h
    rw [a4a,e0h,Option.bind_some]
    by_cases e:x ∈ b
    · rw [if_neg (by simp [e]),c0y b xs out (by omega)]
      simp [keepA,e]
    · rw [if_pos (by simp [e]),if_pos (by simp; omega),c0y b xs _ (by simp; omega)]
      simp [keepA,e]
theorem d9p (a b:List o8) (h:a.length ≤ 2 ^ 28):b0e a b = some (keepA b a):=by
  unfold b0e
  rw [c0y b a [] (by simp; omega)]
  rfl
theorem d8j {d:List o8} {k:Int} (h:b4s d = true) (hk:b3v d k = false):a7j k d:=by
  unfold b4s at h
  simp only [Bool.and_eq_true] at h
  have hs:=(c4u d d 0).1 h.1
  constructor
  · intro x hx
    obtain ⟨q,hq⟩:=List.mem_iff_getElem?.1 hx
    have:=hs q x hq
    have hlt:=(List.getElem?_eq_some_iff.1 hq).1
    obtain ⟨z,hz⟩:∃ z,d[0]? = some z:=⟨d[0],List.getElem?_eq_getElem (by omega)⟩
    unfold b9j at this
    unfold b3v at hk
    simp only [hz,Bool.and_eq_true,Bool.or_eq_true] at this hk
    refine ⟨this.1.1,?_⟩
    have e1:x.Kind = z.Kind:=by simpa using this.1.2
    have e2:z.Kind = k:=by simpa using hk
    rw [e1,e2]
  · intro i x y hx hy
    have:=hs (i + 1) y hy
    unfold b9j at this
    simp only [Bool.and_eq_true,Bool.or_eq_true] at this
    have h2:=this.2
    have ei:0 + (i + 1) - 1 = i:=by omega
    rw [ei,hx] at h2
    simpa using h2
theorem c7m {c:a0m} {d:List o8} (h:b0w c d = 0):b3v d c.Kind = false ∧ (d.length:Int) ≤ c.Max:=by
  have e:b0w c d = if b3v d c.Kind = true then 9 else if ¬ (c.Min ≤ d.length ∧ (d.length:Int) ≤ c.Max) then 6 else if (c.Kind == 1 && d.any (c2c c)) = true then 4 else 0:=rfl
  rw [e] at h
  cases g:b3v d c.Kind with
  | true => rw [g] at h; simp at h
  | false =>
    refine ⟨rfl,?_⟩
    by_cases g2:c.Min ≤ d.length ∧ (d.length:Int) ≤ c.Max
    · exact g2.2
    · rw [g,if_neg (by simp),if_pos g2] at h
      omega
theorem d9q (c:a0m) (d:List o8) (m:a2w) (hd:a7j c.Kind d) (ld:d.length ≤ 8) (hc:c.Max ≤ 8) (hm:b2q m = true) (lv:m.Value.length ≤ 4) (ht:b3v m.Value c.Kind = false) (hf:m.Func ≤ 5 → c.Kind = 1 ∧ m.Value.length = 1) :
    ∃ d' e,a8x c d m = some (d',e) ∧ a6w c d m = some (d',e) ∧ (e = 0 → b4s d' = true ∧ b0w c d' = 0):=by
  have hm':=hm
  unfold b2q at hm'
  simp only [Bool.and_eq_true,decide_eq_true_eq] at hm'
  obtain ⟨⟨⟨f1,f2⟩,hdv⟩,_⟩:=hm'
  have hv:a7j c.Kind m.Value:=d8j hdv ht
  have fin:∀ x:List o8,a7j c.Kind x → ∃ d' e,(if b0w c x ≠ 0 then some (([]:List o8),b0w c x) else some (x,0)) = some (d',e) ∧ (e = 0 → b4s d' = true ∧ b0w c d' = 0):=by
    intro x hx
    by_cases q:b0w c x = 0
    · rw [if_neg (by simpa using q)]
      exact ⟨x,0,rfl,fun _ => ⟨c8o hx (by have:=(c7m q).2; omega),q⟩⟩
    · rw [if_pos q]
      exact ⟨[],_,rfl,fun h => absurd h q⟩
  by_cases e6:m.Func = 6
  · obtain ⟨s,e,h1,h2,h3⟩:=d3t (d ++ m.Value) (by simp; omega)
    obtain ⟨s2,g,g1,g2,g3⟩:=b9r c.Kind m.Value d hd hv.atom (by omega)
    have es:s = s2:=a9e.ext h1 g1.strict (fun y => by rw [h2,g2]; simp)
    subst es
    obtain ⟨d',e',q1,q2⟩:=fin s g1
    refine ⟨d',e',?_,?_,q2⟩
    · unfold a8x
      rw [if_pos (by simp [e6]),d5h d m.Value (by omega),Option.bind_some,e,Option.bind_some,Option.bind_some]
      simp only
      rw [c8l,Option.bind_some,← q1]
      by_cases q:b0w c s = 0 <;> simp [q]
    · unfold a6w b3d
      rw [if_pos (by simp [e6]),if_pos (by simp; omega),List.nil_append,g,Option.bind_some,Option.bind_some,Option.bind_some]
      simp only
      rw [c2l,Option.bind_some,← q1]
      by_cases q:b0w c s = 0 <;> simp [q]
  by_cases e7:m.Func = 7
  · obtain ⟨d',e',q1,q2⟩:=fin _ (d5i hd m.Value)
    refine ⟨d',e',?_,?_,q2⟩
    · unfold a8x
      rw [if_neg (by simp [e7]),if_pos (by simp [e7]),e1a d m.Value (by omega),Option.bind_some,Option.bind_some]
      simp only
      rw [c8l,Option.bind_some,← q1]
      by_cases q:b0w c (keepA m.Value d) = 0 <;> simp [q]
    · unfold a6w
      rw [if_neg (by simp [e7]),if_pos (by simp [e7]),d9p d m.Value (by omega),Option.bind_some,Option.bind_some]
      simp only
      rw [c2l,Option.bind_some,← q1]
      by_cases q:b0w c (keepA m.Value d) = 0 <;> simp [q]
  have f5:m.Func ≤ 5:=by omega
  obtain ⟨k1,l1⟩:=hf f5
  obtain ⟨b,eb⟩:∃ b,m.Value = [b]:=by
    cases hvv:m.Value with
    | nil => rw [hvv] at l1; simp at l1
    | cons b bs =>
      rw [hvv] at l1
      simp at l1
      exact ⟨b,by rw [l1]⟩
  have hb:=hv.atom b (by rw [eb]; simp)
  obtain ⟨b1,b2,_⟩:=e0j hb.1 (by rw [hb.2,k1])
  rw [k1] at hd
  unfold a8x a6w
  rw [if_neg (by simp [e6]),if_neg (by simp [e7]),if_neg (by simp [e6]),if_neg (by simp [e7])]
  rcases d3w m b eb ⟨b1,b2⟩ ⟨f1,f5⟩ d [] [] hd.atom ⟨by simp,by simp⟩ (by simp) (by simpa using ld) (by simp) with ⟨h1,h2⟩ | ⟨o,oS,h1,h2,h3,h4,h5⟩
  · rw [h1,h2]
    exact ⟨[],4,rfl,rfl,fun h => by omega⟩
  · obtain ⟨s,e,g1,g2,g3⟩:=d3t o (by omega)
    have es:s = oS:=a9e.ext g1 h3.strict (fun y => by rw [g2,h4])
    subst es
    rw [← k1] at h3
    obtain ⟨d',e',q1,q2⟩:=fin s h3
    refine ⟨d',e',?_,?_,q2⟩
    · rw [h1,Option.bind_some]
      simp only
      rw [e,Option.bind_some,Option.bind_some]
      simp only
      rw [c8l,Option.bind_some,← q1]
      by_cases q:b0w c s = 0 <;> simp [q]
    · rw [h2,Option.bind_some]
      simp only
      rw [c2l,Option.bind_some,← q1]
      by_cases q:b0w c s = 0 <;> simp [q]
theorem d5o {t:a0w} {m:a2w} (h:b4t t m = 0):∃ k,c0w t m.Column = some k ∧ ∀ c,t.Columns[k]? = some c → b3v m.Value c.Kind = false ∧ (m.Func ≤ 5 → c.Kind = 1 ∧ m.Value.length = 1):=by
  unfold b4t at h
  cases hk:c0w t m.Column with
  | none => rw [hk] at h; simp at h
  | some k =>
    refine ⟨k,rfl,fun c hc => ?_⟩
    rw [hk] at h
    simp only [hc] at h
    split at h
    · omega
    · rename_i g
      split at h
      · omega
      · rename_i g2
        refine ⟨by simpa using g,fun hf => ?_⟩
        simp [hf] at g2
        omega
theorem d3x (t:a0w) (hmax:∀ c ∈ t.Columns,c.Max ≤ 8):∀ (l:List a2w) (cs:List (List o8)),(∀ m ∈ l,b2q m = true ∧ m.Value.length ≤ 4 ∧ b4t t m = 0) → a7l (b4e t) cs 0 = true → cs.length = t.Columns.length →
    (∃ e,a3t t l cs = some (.ret (⟨0,[]⟩,e)) ∧ a4u t l cs = some (.ret (⟨0,[]⟩,e)) ∧ e ≠ 0) ∨ (∃ cs',a3t t l cs = some (.go cs') ∧ a4u t l cs = some (.go cs') ∧ a7l (b4e t) cs' 0 = true ∧ cs'.length = t.Columns.length)
  | [],cs,_,h,hl => .inr ⟨cs,by rw [a3t],by rw [a4u],h,hl⟩
  | m :: l,cs,hm,h,hl => by
    obtain ⟨m1,m2,m3⟩:=hm m (by simp)
    obtain ⟨k,hk,hk2⟩:=d5o m3
    obtain ⟨c,e1,e2⟩:=c4w hk
    obtain ⟨t1,t2⟩:=hk2 c e2
    have hlt:k < t.Columns.length:=(List.getElem?_eq_some_iff.1 e2).1
    obtain ⟨d,hd⟩:∃ d,cs[k]? = some d:=⟨cs[k]'(by omega),List.getElem?_eq_getElem (by omega)⟩
    have hcell:=(b3u _ _ _).1 h k d hd
    rw [Nat.zero_add] at hcell
    unfold b4e at hcell
    simp only [e2,Bool.and_eq_true,beq_iff_eq] at hcell
    have hsd:a7j c.Kind d:=d8j hcell.1 (c7m hcell.2).1
    obtain ⟨d',e,g1,g2,g3⟩:=d9q c d m hsd (b9u hcell.1) (hmax c (List.mem_of_getElem? e2)) m1 m2 t1 t2
    have hb:(0:Int) ≤ (k:Int) ∧ (k:Int) < (cs.length:Int):=by omega
    have hd':cs[(0 + ((k:Int)).toNat)]? = some d:=by simpa using hd
    have hcol:a4b t m.Column = some (k:Int):=by rw [b8h,hk]; rfl
    have hcol2:a6v t m.Column = some (k:Int):=by rw [c1m,hk]; rfl
    rw [a3t,a4u,hcol,hcol2,Option.bind_some,Option.bind_some,e1,Option.bind_some,Option.bind_some,if_pos hb,if_pos hb,hd',Option.bind_some,Option.bind_some,g1,g2,Option.bind_some,Option.bind_some]
    by_cases q:e = 0
    · subst q
      obtain ⟨g4,g5⟩:=g3 rfl
      simp only [bne_self_eq_false,Bool.false_eq_true,if_false]
      rw [if_pos hb,if_pos hb]
      have ek:0 + ((k:Int)).toNat = k:=by simp
      rw [ek]
      refine d3x t hmax l (cs.set k d') (fun x hx => hm x (by simp [hx])) (d8e _ cs k _ h ?_) (by simpa using hl)
      unfold b4e
      simp [e2,g4,g5]
    · rw [if_pos (by simpa using q),if_pos (by simpa using q)]
      exact .inl ⟨e,rfl,rfl,q⟩
theorem d0z (c:a0m) (h:c5y c = true):a8u c = some (a8j c,0):=by
  unfold a8u
  rw [c4x,h,Option.bind_some,if_neg (by simp),d8b,Option.bind_some]
theorem d8k:∀ (xs:List a0m) (pre rest:List (List o8)),xs.all c5y = true → rest.length = xs.length → a5w xs pre.length (pre ++ rest) = some (.go (pre ++ xs.map a8j))
  | [],pre,rest,_,hl => by
    have:rest = []:=List.eq_nil_of_length_eq_zero hl
    rw [a5w,this]; rfl
  | x :: xs,pre,[],_,hl => by simp at hl
  | x :: xs,pre,r :: rs,h,hl => by
    simp only [List.all_cons,Bool.and_eq_true] at h
    simp only [List.length_cons,Nat.add_right_cancel_iff] at hl
    have e1:(pre ++ r :: rs).set pre.length (a8j x) = (pre ++ [a8j x]) ++ rs:=by rw [b5o]; simp
    have:=d8k xs (pre ++ [a8j x]) rs h.2 hl
    rw [List.length_append,List.length_singleton] at this
    rw [a5w,d0z x h.1,Option.bind_some,if_neg (by simp),if_pos (by simp),b4d,Option.bind_some,e1,this]
    simp
theorem d9r {t:a0w} (h:t = nt0 ∨ t = nt1 ∨ t = nt2):t.Columns.all c5y = true:=by rcases h with rfl | rfl | rfl <;> decide
theorem e1c {t:a0w} (h:t = nt0 ∨ t = nt1 ∨ t = nt2):∀ c ∈ t.Columns,c.Max ≤ 8:=by rcases h with rfl | rfl | rfl <;> decide
theorem e1d (f:Int) (h:1 ≤ f ∧ f ≤ 7):∃ w,b3e f = some w ∧ b5j w = some f:=by
  have:f = 1 ∨ f = 2 ∨ f = 3 ∨ f = 4 ∨ f = 5 ∨ f = 6 ∨ f = 7:=by omega
  rcases this with rfl | rfl | rfl | rfl | rfl | rfl | rfl <;> exact ⟨_,rfl,rfl⟩
theorem d2h (t:a0w) (m:a2w) (ht:c4y t = true) (hm:b2q m = true) (hl:m.Value.length ≤ 8):b1q t m = some (b4t t m,0) ∧ b1r t m = some (b4t t m,0):=by
  constructor
  · unfold b1q
    rw [c7e,ht,Option.bind_some,if_neg (by simp),d3m m (by unfold maxLen; omega),hm,Option.bind_some,Option.bind_some,if_neg (by simp),c7f]
    rfl
  · unfold b1r
    rw [c4z,ht,Option.bind_some,if_neg (by simp),d3n,hm,Option.bind_some,Option.bind_some,if_neg (by simp),c7g]
    rfl
theorem c7n (t:a0w) (ht:c4y t = true):∀ l:List a2w,(∀ m ∈ l,b2q m = true ∧ m.Value.length ≤ 4) → a5x t l = some (.go ())
  | [],_ => by rw [a5x]
  | m :: l,h => by
    obtain ⟨h1,h2⟩:=h m (by simp)
    obtain ⟨e1,e2⟩:=d2h t m ht h1 (by omega)
    have hf:1 ≤ m.Func ∧ m.Func ≤ 7:=by
      unfold b2q at h1
      simp only [Bool.and_eq_true,decide_eq_true_eq] at h1
      exact h1.1.1
    obtain ⟨w,g1,g2⟩:=e1d m.Func hf
    rw [a5x,e1,e2,Option.bind_some,Option.bind_some,if_neg (by simp),g1,Option.bind_some,g2,Option.bind_some,Option.bind_some,if_neg (by simp),c7n t ht l (fun x hx => h x (by simp [hx]))]
theorem d2i (code more:List Int) (h1:okL (okI .u8) code) (h2:okL (okI .u8) more):b4b code more = some true:=by
  unfold b4b
  by_cases c1:(code.length:Int) > 1048576
  · rw [if_pos (by simpa using c1)]; rfl
  by_cases c2:(more.length:Int) > 1048576
  · rw [if_neg (by simpa using c1),Option.bind_some,if_pos (by simpa using c2)]
  rw [if_neg (by simpa using c1),Option.bind_some,if_neg (by simpa using c2)]
  have b1:∀ z ∈ code,0 ≤ z ∧ z < 256:=fun z hz => by have:=d7y.1 (h1.2 z hz); omega
  have b2:∀ z ∈ more,0 ≤ z ∧ z < 256:=fun z hz => by have:=d7y.1 (h2.2 z hz); omega
  obtain ⟨v,ev,v1,v2⟩:=e8o more 3 b2 (by omega) (by omega) 0 (by omega)
  obtain ⟨t,et,_,ht⟩:=c7l v ⟨v1,v2⟩
  obtain ⟨l,el,hl,ll⟩:=d8h code v ⟨v1,v2⟩ b1 (by omega)
  have hlen:=d8c ht
  have hrow:=d8d ht 5 (by omega)
  have hsm:∀ d ∈ (⟨5,t.Columns.map a8j⟩:a4p).Cells,d.length ≤ maxLen:=fun d hd => by have:=b9u (b6s hrow hd); unfold maxLen; omega
  have hdefs:=d8k t.Columns [] (List.replicate t.Columns.length []) (d9r ht) (by simp)
  simp only [List.length_nil,List.nil_append] at hdefs
  have hok:=d3u t ⟨5,t.Columns.map a8j⟩ hsm
  rw [c8p ht,hrow] at hok
  have hoks:=d8a t ⟨5,t.Columns.map a8j⟩
  rw [c8p ht,hrow] at hoks
  have hallm:l.all b2q = true:=List.all_eq_true.2 fun m hm => (hl m hm).1
  have em:b0u l = some true:=by
    have:=d7s l (fun m hm => by have:=(hl m hm).2; unfold maxLen; omega)
    rw [this,hallm]
    have:decide ((l.length:Int) ≤ 8) = true:=decide_eq_true (by omega)
    simp [this]
  have em2:a9o l = some true:=by
    rw [d5c,hallm]
    have:decide ((l.length:Int) ≤ 8) = true:=decide_eq_true (by omega)
    simp [this]
  have hL2:=c7n t (c8p ht) l hl
  have key:∃ x e,a8y t ⟨5,t.Columns.map a8j⟩ l = some (x,e) ∧ a9c t ⟨5,t.Columns.map a8j⟩ l = some (x,e) ∧ (e = 0 → x.Id = 5 ∧ b3w t x = true):=by
    unfold a8y a9c a7g
    have n1:decide ((l.length:Int) ≤ 4096) = true:=decide_eq_true (by omega)
    have n2:decide ((l.length:Int) > 4096) = false:=decide_eq_false (by omega)
    rw [n1,n2,Option.bind_some,if_neg (by simp),em,Option.bind_some,if_neg (by simp),hok,hoks,d2c,d2d]
    simp only [Option.bind_some,Bool.and_self,Bool.not_true,Bool.false_eq_true,if_false,em2]
    by_cases q:a9v (b4t t) l = 0
    · rw [if_neg (by simpa using q),if_neg (by simpa using q)]
      have hmi:=c5a q
      have hcl:∀ d ∈ t.Columns.map a8j,d.length ≤ 2 ^ 30:=fun d hd => by have:=b9u (b6s hrow hd); omega
      unfold b1m b4a
      rw [d5k ⟨5,t.Columns.map a8j⟩ (by simp; omega) hcl,d0u ⟨5,t.Columns.map a8j⟩ (by simp; omega) hcl,Option.bind_some,Option.bind_some]
      simp only
      rcases d3x t (e1c ht) l (t.Columns.map a8j) (fun m hm => ⟨(hl m hm).1,(hl m hm).2,hmi m hm⟩) (d0w ht) (by simp) with ⟨e,g1,g2,g3⟩ | ⟨cs,g1,g2,g3,g4⟩
      · rw [g1,g2]
        exact ⟨⟨0,[]⟩,e,rfl,rfl,fun h => absurd h g3⟩
      · rw [g1,g2]
        refine ⟨⟨5,cs⟩,0,rfl,rfl,fun _ => ⟨rfl,?_⟩⟩
        unfold b3w
        simp [g3,g4]
    · rw [if_pos (by simpa using q),if_pos (by simpa using q)]
      exact ⟨⟨0,[]⟩,_,rfl,rfl,fun h => absurd h q⟩
  obtain ⟨x,e,k1,k2,k3⟩:=key
  rw [ev,Option.bind_some,d0v,Option.bind_some,et,Option.bind_some,if_pos (by omega),hdefs,Option.bind_some]
  simp only
  rw [el,Option.bind_some,k1,k2,Option.bind_some,Option.bind_some]
  simp only [bne_self_eq_false,Bool.false_eq_true,if_false,d5l,Option.bind_some,Bool.not_true,hok,Bool.and_self]
  rw [hL2,Option.bind_some]
  simp only
  by_cases q:e = 0
  · obtain ⟨r1,r2⟩:=k3 q
    have hsx:∀ d ∈ x.Cells,d.length ≤ maxLen:=fun d hd => by have:=b9u (b6s r2 hd); unfold maxLen; omega
    rw [if_neg (by simpa using q),d3u t x hsx,c8p ht,r2]
    simp [r1]
  · rw [if_pos (by simpa using q)]
end Go.R
