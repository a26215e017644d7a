/- Plain laws of what this statement reaches. -/
import Derived.Test.YtldahjcikmpifaaGreatROJH
import Derived.Test.YtldahjcikmpifaaGreatP0
set_option linter.all false
namespace Go.R
open Go
set_option linter.all false
theorem a4v (f:(List a0a) → Option Bool) (p:(List a0a) → Bool):∀ (xs:List (List a0a)) (i:Nat),(∀ x ∈ xs,f x = some (p x)) → a0p f xs i = some (match xs.findIdx? p with | some k => .ret ((i + k:Nat):Int) | none => .go ())
  | [],i,_ => by rw [a0p]; rfl
  | x :: xs,i,h => by
    rw [a0p,h x (by simp),Option.bind_some,a4v f p xs (i + 1) (fun y hy => h y (by simp [hy])),List.findIdx?_cons]
    cases hp:p x with
    | true => simp
    | false =>
      cases hq:xs.findIdx? p with
      | none => simp
      | some k => simp; omega
theorem a7p (f:(List a0a) → Option Bool) (p:(List a0a) → Bool) (xs:List (List a0a)) (h:∀ x ∈ xs,f x = some (p x)):a1t xs f = some (match xs.findIdx? p with | some k => (k:Int) | none => -1):=by
  unfold a1t
  rw [a4v f p xs 0 h]
  cases hq:xs.findIdx? p with
  | none => rfl
  | some k => simp
theorem a5u (f:Str → Option Bool) (p:Str → Bool):∀ (xs:List Str) (i:Nat),(∀ x ∈ xs,f x = some (p x)) → a0x f xs i = some (match xs.findIdx? p with | some k => .ret ((i + k:Nat):Int) | none => .go ())
  | [],i,_ => by rw [a0x]; rfl
  | x :: xs,i,h => by
    rw [a0x,h x (by simp),Option.bind_some,a5u f p xs (i + 1) (fun y hy => h y (by simp [hy])),List.findIdx?_cons]
    cases hp:p x with
    | true => simp
    | false =>
      cases hq:xs.findIdx? p with
      | none => simp
      | some k => simp; omega
theorem b0u (f:Str → Option Bool) (p:Str → Bool) (xs:List Str) (h:∀ x ∈ xs,f x = some (p x)):a2q xs f = some (match xs.findIdx? p with | some k => (k:Int) | none => -1):=by
  unfold a2q
  rw [a5u f p xs 0 h]
  cases hq:xs.findIdx? p with
  | none => rfl
  | some k => simp
theorem a7c (f:(List a0a) → Option Bool) (p:(List a0a) → Bool) (xs:List (List a0a)) (h:∀ x ∈ xs,f x = some (p x)):a1o xs f = some (xs.any p):=by
  unfold a1o
  rw [a7p f p xs h,Option.bind_some]
  cases hq:xs.findIdx? p with
  | none =>
    have:xs.any p = false:=by
      rw [List.any_eq_false]
      intro x hx
      have:=List.findIdx?_eq_none_iff.1 hq x hx
      simp [this]
    rw [this]; rfl
  | some k =>
    have:xs.any p = true:=by
      obtain ⟨x,hx,hp⟩:∃ x,x ∈ xs ∧ p x = true:=by
        have:=List.findIdx?_eq_some_iff_getElem.1 hq
        obtain ⟨hk,h1,_⟩:=this
        exact ⟨xs[k],List.getElem_mem _,h1⟩
      exact List.any_eq_true.2 ⟨x,hx,hp⟩
    rw [this]
    simp
theorem a9d (f:Str → Option Bool) (p:Str → Bool) (xs:List Str) (h:∀ x ∈ xs,f x = some (p x)):a2e xs f = some (xs.any p):=by
  unfold a2e
  rw [b0u f p xs h,Option.bind_some]
  cases hq:xs.findIdx? p with
  | none =>
    have:xs.any p = false:=by
      rw [List.any_eq_false]
      intro x hx
      have:=List.findIdx?_eq_none_iff.1 hq x hx
      simp [this]
    rw [this]; rfl
  | some k =>
    have:xs.any p = true:=by
      obtain ⟨x,hx,hp⟩:∃ x,x ∈ xs ∧ p x = true:=by
        have:=List.findIdx?_eq_some_iff_getElem.1 hq
        obtain ⟨hk,h1,_⟩:=this
        exact ⟨xs[k],List.getElem_mem _,h1⟩
      exact List.any_eq_true.2 ⟨x,hx,hp⟩
    rw [this]
    simp
def b6m (c:UInt8):Bool:=!(decide ((c.toNat:Int) < 32) || decide ((c.toNat:Int) > 126))
def d1q (t:Str):Bool:=t.all b6m && decide ((t.length:Int) ≤ 200)
theorem c5g:∀ t:Str,a4e t = some (if t.all b6m = true then .go () else .ret false)
  | [] => by rw [a4e]; simp
  | x :: xs => by
    rw [a4e,c5g xs]
    by_cases h1:(x.toNat:Int) < 32
    · simp [h1,b6m]
    · by_cases h2:(x.toNat:Int) > 126
      · simp [h1,h2,b6m]
      · simp [h1,h2,b6m]
theorem d9v (t:Str):b0i t = some (d1q t):=by
  unfold b0i d1q
  rw [c5g]
  by_cases h:t.all b6m = true
  · simp only [h,if_pos,Option.bind_some,Bool.true_and]
  · simp only [h,Bool.not_eq_true] at h ⊢
    simp [h]
theorem c5h (n a b:Int):a6y n a b = some (decide (a ≤ n ∧ n ≤ b)):=by
  unfold a6y
  by_cases h:a ≤ n <;> simp [h]
theorem c7n:∀ t:Str,a4c t = some (if t.all b6m = true then .go () else .ret false)
  | [] => by rw [a4c]; simp
  | x :: xs => by
    rw [a4c,c7n xs]
    by_cases h1:(x.toNat:Int) < 32
    · simp [h1,b6m]
    · by_cases h2:(x.toNat:Int) > 126
      · simp [h1,h2,b6m]
      · simp [h1,h2,b6m]
theorem e0v (t:Str):b0a t = some (d1q t):=by
  unfold b0a d1q
  rw [c7n]
  by_cases h:t.all b6m = true
  · simp only [h,if_pos,Option.bind_some,Bool.true_and]
  · simp only [h,Bool.not_eq_true] at h ⊢
    simp [h]
theorem e6q (n a b:Int):a9h n a b = some (decide (a ≤ n ∧ n ≤ b)):=by
  unfold a9h
  by_cases h:a ≤ n <;> simp [h]
theorem c5i:∀ a b:Str,Lib.compareBytes a b = -1 ∨ Lib.compareBytes a b = 0 ∨ Lib.compareBytes a b = 1
  | [],[] => by simp [Lib.compareBytes]
  | [],_ :: _ => by simp [Lib.compareBytes]
  | _ :: _,[] => by simp [Lib.compareBytes]
  | a :: xs,b :: ys => by
    have:=c5i xs ys
    unfold Lib.compareBytes
    split
    · simp
    · split
      · simp
      · exact this
theorem c1c (a b:UInt8):a < b ∨ a = b ∨ b < a:=by
  simp only [UInt8.lt_iff_toNat_lt,← UInt8.toNat_inj]
  omega
theorem b5c {a b:UInt8} (h:a < b):¬ b < a:=by
  simp only [UInt8.lt_iff_toNat_lt] at *
  omega
theorem c7o:∀ a b:Str,Lib.compareBytes b a = - Lib.compareBytes a b
  | [],[] => by simp [Lib.compareBytes]
  | [],_ :: _ => by simp [Lib.compareBytes]
  | _ :: _,[] => by simp [Lib.compareBytes]
  | a :: xs,b :: ys => by
    have ih:=c7o xs ys
    unfold Lib.compareBytes
    rcases c1c a b with h | h | h
    · simp [h,b5c h]
    · subst h; simp [UInt8.lt_irrefl,ih]
    · simp [h,b5c h]
theorem b6x:∀ a b:Str,Lib.compareBytes a b = 0 ↔ a = b
  | [],[] => by simp [Lib.compareBytes]
  | [],_ :: _ => by simp [Lib.compareBytes]
  | _ :: _,[] => by simp [Lib.compareBytes]
  | a :: xs,b :: ys => by
    have ih:=b6x xs ys
    unfold Lib.compareBytes
    rcases c1c a b with h | h | h
    · have hne:a ≠ b:=by rintro rfl; exact UInt8.lt_irrefl _ h
      simp [h,hne]
    · subst h; simp [UInt8.lt_irrefl,ih]
    · have hne:a ≠ b:=by rintro rfl; exact UInt8.lt_irrefl _ h
      simp [h,b5c h,hne]
theorem c1d:∀ a b:Str,Op.bytesLess a b = decide (Lib.compareBytes a b < 0)
  | [],[] => by simp [Lib.compareBytes,Op.bytesLess]
  | [],_ :: _ => by simp [Lib.compareBytes,Op.bytesLess]
  | _ :: _,[] => by simp [Lib.compareBytes,Op.bytesLess]
  | a :: xs,b :: ys => by
    have ih:=c1d xs ys
    unfold Lib.compareBytes Op.bytesLess
    rcases c1c a b with h | h | h
    · simp [h]
    · subst h; simp [UInt8.lt_irrefl,ih]
    · have hne:¬ a = b:=by rintro rfl; exact UInt8.lt_irrefl _ h
      simp [h,b5c h,hne]
def c9l (a b:a0a):Int:=if a.Kind ≠ b.Kind then (if a.Kind < b.Kind then -1 else 1) else if a.N ≠ b.N then (if a.N < b.N then -1 else 1) else Lib.compareBytes a.T b.T
theorem d8f (x y:Int):cmp_Compare_int x y = some (if x < y then -1 else if x > y then 1 else 0):=by
  unfold cmp_Compare_int cmp_isNaN_int
  by_cases h1:x < y <;> by_cases h2:x > y <;> simp [h1,h2]
theorem c5j (a b:a0a):a5o a b = some (c9l a b):=by
  unfold a5o strings_Compare a3o b4w
  simp only [d8f,Option.bind_some]
  unfold c9l
  by_cases h1:a.Kind = b.Kind
  · by_cases h2:a.N = b.N
    · have e1:(if a.Kind < b.Kind then (-1:Int) else if a.Kind > b.Kind then 1 else 0) = 0:=by rw [h1]; simp
      have e2:(if a.N < b.N then (-1:Int) else if a.N > b.N then 1 else 0) = 0:=by rw [h2]; simp
      rw [e1,e2]
      simp only [a3w,h1,h2]
      by_cases h3:Lib.compareBytes a.T b.T = 0
      · simp [h3]
      · simp [h3]
    · have e1:(if a.Kind < b.Kind then (-1:Int) else if a.Kind > b.Kind then 1 else 0) = 0:=by rw [h1]; simp
      rw [e1]
      rcases Int.lt_or_gt_of_ne h2 with h3 | h3
      · simp [a3w,h1,h2,h3]
      · have h4:¬ a.N < b.N:=by omega
        simp [a3w,h1,h2,h3,h4]
  · rcases Int.lt_or_gt_of_ne h1 with h3 | h3
    · simp [a3w,h1,h3]
    · have h4:¬ a.Kind < b.Kind:=by omega
      simp [a3w,h1,h3,h4]
theorem d9w (a b:a0a):a7g a b = some (c9l a b):=by
  unfold a7g a7y c9l
  have w0:w64 (1 - w64 0) = 1:=by decide
  have w1:w64 (1 - w64 2) = -1:=by decide
  by_cases h1:a.Kind = b.Kind
  · by_cases h2:a.N = b.N
    · simp only [h1,h2,bne_self_eq_false,Bool.false_eq_true,if_false,ne_eq,not_true_eq_false,c1d]
      by_cases h3:a.T = b.T
      · simp [h3,(b6x b.T b.T).2 rfl]
      · have hne:Lib.compareBytes a.T b.T ≠ 0:=fun h => h3 ((b6x _ _).1 h)
        rcases c5i a.T b.T with h | h | h
        · simp [h3,h,w1]
        · exact absurd h hne
        · simp [h3,h,w0]
    · by_cases h3:a.N < b.N <;> simp [h1,h2,h3,w0,w1]
  · by_cases h3:a.Kind < b.Kind <;> simp [h1,h3,w0,w1]
def c5k (a:a0a):Bool :=
  (decide (a.Kind = 1) && decide (-1000000000 ≤ a.N ∧ a.N ≤ 1000000000) && decide (a.T = [])) ||
  (decide (a.Kind = 2) && decide (a.N = 0) && d1q a.T) ||
  (decide (a.Kind = 3) && decide (0 ≤ a.N ∧ a.N ≤ 1) && decide (a.T = [])) ||
  (decide (a.Kind = 4) && decide (1 ≤ a.N ∧ a.N ≤ 1000000) && decide (a.T = []))
theorem d8g (a:a0a):a9q a = some (c5k a):=by
  unfold a9q b1h b6w c5k
  simp only [c5h,d9v,Option.bind_some]
  by_cases h1:a.Kind = 1
  · simp only [h1]
    by_cases c:(-1000000000 ≤ a.N ∧ a.N ≤ 1000000000) <;> by_cases d:a.T = [] <;> simp [c,d]
  by_cases h2:a.Kind = 2
  · simp only [h2]
    by_cases c:a.N = 0 <;> simp [c]
  by_cases h3:a.Kind = 3
  · simp only [h3]
    by_cases c:(0 ≤ a.N ∧ a.N ≤ 1) <;> by_cases d:a.T = [] <;> simp [c,d]
  by_cases h4:a.Kind = 4
  · simp only [h4]
    by_cases c:(1 ≤ a.N ∧ a.N ≤ 1000000) <;> by_cases d:a.T = [] <;> simp [c,d]
  · simp [h1,h2,h3,h4]
def d1r (d:List a0a) (q:Nat) (x:a0a):Bool :=
  c5k x && (match d[0]? with | some h => x.Kind == h.Kind | none => false) && (q == 0 || match d[q - 1]? with | some y => decide (c9l y x < 0) | none => false)
def c6l (d:List a0a):List a0a → Nat → Bool
  | [],_ => true
  | x :: xs,i => d1r d i x && c6l d xs (i + 1)
def c9m (d:List a0a):Bool:=c6l d d 0 && decide ((d.length:Int) ≤ 8)
theorem d8h (d:List a0a) (i:Nat) (x:a0a) (hi:i < d.length) (hl:d.length ≤ maxLen) (A:a0a → Option Bool) (hA:∀ a,A a = some (c5k a)) (O:a0a → a0a → Option Int) (hO:∀ a b,O a b = some (c9l a b)) :
    ((A x).bind fun r_110 =>
    if (!r_110) then
    some true
    else
    (idx d 0).bind fun x_113 =>
    if (x.Kind != x_113.Kind) then
    some true
    else
    if (decide ((i:Int) > 0)) then
    (idx d (w64 ((i:Int) - 1))).bind fun x_117 =>
    (O x_117 x).bind fun r_119 =>
    some (decide (r_119 ≥ 0))
    else
    some false:Option Bool) = some (!d1r d i x):=by
  simp only [maxLen] at hl
  obtain ⟨h,hh⟩:∃ h,d[0]? = some h:=⟨d[0],List.getElem?_eq_getElem (by omega)⟩
  have e0:idx d 0 = some h:=by rw [show (0:Int) = ((0:Nat):Int) from rfl,b4v,hh]
  rw [hA,Option.bind_some,e0]
  unfold d1r
  rw [hh]
  by_cases ha:c5k x = true
  · by_cases hk:x.Kind = h.Kind
    · by_cases h0:i = 0
      · subst h0; simp [ha,hk]
      · obtain ⟨y,hy⟩:∃ y,d[i - 1]? = some y:=⟨d[i - 1],List.getElem?_eq_getElem (by omega)⟩
        have e1:w64 ((i:Int) - 1) = ((i - 1:Nat):Int):=by rw [a4o (by omega)]; omega
        rw [e1,b4v,hy]
        have hp:0 < i:=by omega
        simp [ha,hk,h0,hO,hp]
        by_cases hc:c9l y x < 0
        · have:¬ 0 ≤ c9l y x:=by omega
          simp [hc,this,h0]
        · have:0 ≤ c9l y x:=by omega
          simp [hc,this,h0]
    · simp [ha,hk]
  · simp only [Bool.not_eq_true] at ha
    simp [ha]
theorem b9v (d:List a0a) (hl:d.length ≤ maxLen):∀ (xs:List a0a) (i:Nat),d.drop i = xs → a4f d xs i = some (if c6l d xs i = true then .go () else .ret false)
  | [],i,h => by rw [a4f]; simp [c6l]
  | x :: xs,i,h => by
    rw [a4f,d8h d i x (d3u h) hl a9q d8g a5o c5j,Option.bind_some,b9v d hl xs (i + 1) (b2q h)]
    cases hs:d1r d i x <;> simp [c6l,hs]
theorem d5i (d:List a0a) (hl:d.length ≤ maxLen):b0k d = some (c9m d):=by
  unfold b0k c9m
  rw [b9v d hl d 0 (by simp)]
  cases c6l d d 0 <;> simp
theorem d5j (a:a0a):a9o a = some (c5k a):=by
  unfold a9o c5k
  simp only [e6q,e0v,Option.bind_some]
  by_cases h1:a.Kind = 1
  · simp only [h1]
    by_cases c:(-1000000000 ≤ a.N ∧ a.N ≤ 1000000000) <;> by_cases d:a.T = [] <;> simp [c,d]
  by_cases h2:a.Kind = 2
  · simp only [h2]
    by_cases c:a.N = 0 <;> simp [c]
  by_cases h3:a.Kind = 3
  · simp only [h3]
    by_cases c:(0 ≤ a.N ∧ a.N ≤ 1) <;> by_cases d:a.T = [] <;> simp [c,d]
  by_cases h4:a.Kind = 4
  · simp only [h4]
    by_cases c:(1 ≤ a.N ∧ a.N ≤ 1000000) <;> by_cases d:a.T = [] <;> simp [c,d]
  · simp [h1,h2,h3,h4]
theorem b7q (d:List a0a) (hl:d.length ≤ maxLen):∀ (xs:List a0a) (i:Nat),d.drop i = xs → a4d d xs i = some (if c6l d xs i = true then .go () else .ret false)
  | [],i,h => by rw [a4d]; simp [c6l]
  | x :: xs,i,h => by
    rw [a4d,d8h d i x (d3u h) hl a9o d5j a7g d9w,Option.bind_some,b7q d hl xs (i + 1) (b2q h)]
    cases hs:d1r d i x <;> simp [c6l,hs]
theorem d3a (d:List a0a):b0b d = some (c9m d):=by
  unfold b0b c9m
  by_cases h:(d.length:Int) > 4096
  · rw [if_pos (by simpa using h)]
    have:¬ (d.length:Int) ≤ 8:=by omega
    simp [this]
  · rw [if_neg (by simpa using h),b7q d (by simp only [maxLen]; omega) d 0 (by simp)]
    cases c6l d d 0 <;> simp
def isLet (c:Int):Bool:=(decide (97 ≤ c) && decide (c ≤ 122)) || (decide (65 ≤ c) && decide (c ≤ 90)) || c == 95
def c1y (c:Int):Bool:=decide (48 ≤ c) && decide (c ≤ 57)
theorem c1z (c:Int):a6t c = some (isLet c):=by
  unfold a6t isLet
  by_cases h1:97 ≤ c <;> by_cases h2:c ≤ 122 <;> by_cases h3:65 ≤ c <;> by_cases h4:c ≤ 90 <;> by_cases h5:c = 95 <;> simp [h1,h2,h3,h4,h5]
theorem d3b (c:Int):a8s c = some (c1y c):=by
  unfold a8s c1y
  by_cases h1:48 ≤ c <;> simp [h1]
theorem d5k (c:Int):b0g c = some (c1y c):=by
  unfold b0g c1y
  by_cases h1:48 ≤ c <;> simp [h1]
def b5d (b:UInt8):Bool:=isLet b.toNat || c1y b.toNat
def b0z (t:Str):Bool:=decide (1 ≤ t.length) && decide (t.length ≤ 40) && isLet (t.headD 0).toNat && (t.drop 1).all b5d
theorem b9w:∀ (t:Str),a4b t = some (if t.all b5d then .go () else .ret false)
  | [] => by rw [a4b]; rfl
  | c :: t => by
    rw [a4b,c1z,Option.bind_some,d3b,b9w t]
    cases h1:isLet (c.toNat:Int) <;> cases h2:c1y (c.toNat:Int) <;> simp [b5d,h1,h2]
theorem d5l (t:Str):a9z t = some (b0z t):=by
  unfold a9z b0z
  cases t with
  | nil => rfl
  | cons c t =>
    have e:idx (c :: t) 0 = some c:=rfl
    rw [e,Option.bind_some,c1z,Option.bind_some,b9w]
    have e1:decide (((c :: t).length:Int) < 1) = false:=decide_eq_false (by simp only [List.length_cons]; omega)
    have e2:decide (1 ≤ (c :: t).length) = true:=decide_eq_true (by simp only [List.length_cons]; omega)
    rw [e1,e2]
    by_cases h:(c :: t).length ≤ 40
    · have e3:decide (((c :: t).length:Int) > 40) = false:=decide_eq_false (by omega)
      have e4:decide ((c :: t).length ≤ 40) = true:=decide_eq_true h
      rw [e3,e4]
      cases h1:isLet (c.toNat:Int) <;> cases h3:t.all b5d <;> simp [h1,h3]
    · have e3:decide (((c :: t).length:Int) > 40) = true:=decide_eq_true (by omega)
      have e4:decide ((c :: t).length ≤ 40) = false:=decide_eq_false h
      rw [e3,e4]
      simp
theorem b9x (t:Str):b1r t = some (b0z t):=by
  unfold b1r
  rw [d5l]; rfl
def d1s (p:UInt8 × Nat):Bool:=isLet p.1.toNat || (p.2 != 0 && c1y p.1.toNat)
theorem c2a:∀ (t:Str) (i:Nat),a4r t i = some (if (t.zipIdx i).all d1s then .go () else .ret false)
  | [],i => by rw [a4r]; rfl
  | c :: t,i => by
    have e0:((i:Int) == 0) = (i == 0):=by cases i <;> simp; omega
    rw [a4r,c2a t (i + 1),List.zipIdx_cons,List.all_cons,d5k,e0]
    unfold d1s isLet
    generalize (List.zipIdx t (i + 1)).all _ = A
    generalize c1y (c.toNat:Int) = D
    generalize (c.toNat:Int) = n
    by_cases h1:97 ≤ n <;> by_cases h2:n ≤ 122 <;> by_cases h3:65 ≤ n <;> by_cases h4:n ≤ 90 <;> by_cases h5:n = 95 <;> cases D <;> by_cases h0:i = 0 <;> simp [h1,h2,h3,h4,h5,h0]
theorem d8i (t:Str):b1s t = some (b0z t):=by
  unfold b1s b0z
  rw [c2a,Option.bind_some]
  have hz:∀ (r:Str) (k:Nat),(r.zipIdx (k + 1)).all d1s = r.all b5d:=by
    intro r
    induction r with
    | nil => intro k; rfl
    | cons c r ih => intro k; simp only [List.zipIdx_cons,List.all_cons,ih (k + 1)]; rfl
  cases t with
  | nil => simp [c5h]
  | cons c t =>
    rw [List.zipIdx_cons,List.all_cons,hz t 0]
    have hl:decide (1 ≤ (c :: t).length) = true:=decide_eq_true (by simp)
    have e:d1s (c,0) = isLet (c.toNat:Int):=by simp [d1s]
    rw [e,hl,c5h,Bool.decide_and]
    have e2:decide ((1:Int) ≤ ((c :: t).length:Int)) = true:=decide_eq_true (by simp only [List.length_cons]; omega)
    have e3:decide (((c :: t).length:Int) ≤ 40) = decide ((c :: t).length ≤ 40):=by rw [decide_eq_decide]; omega
    rw [e2,e3]
    show _ = some ((true && _ && isLet (c.toNat:Int)) && t.all b5d)
    cases isLet (c.toNat:Int) <;> cases t.all b5d <;> simp
theorem c5l {α:Type} (p:α → Bool):∀ l:List α,(l.any fun x => !p x) = !l.all p
  | [] => rfl
  | x :: l => by simp only [List.any_cons,List.all_cons,c5l p l,Bool.not_and]
def rowB (n:Nat) (r:a3r):Bool:=decide (r.Cells.length = n) && r.Cells.all c9m
def d3c (r:a3r):Prop:=∀ d ∈ r.Cells,d.length ≤ maxLen
theorem d5m (r:a3r) (n:Nat) (h:d3c r):b0m r n = some (rowB n r):=by
  unfold b0m rowB
  by_cases e:r.Cells.length = n
  · have e':((r.Cells.length:Int) == (n:Int)) = true:=by simp [e]
    rw [e',if_pos rfl,a7c _ (fun d => !c9m d) r.Cells (fun d hd => by unfold b0l; rw [d5i d (h d hd)]; rfl),c5l]
    simp [e]
  · have e':((r.Cells.length:Int) == (n:Int)) = false:=by simp; omega
    rw [e',if_neg (by simp)]
    simp [e]
theorem c5m:∀ a b c:Str,Lib.compareBytes a b < 0 → Lib.compareBytes b c < 0 → Lib.compareBytes a c < 0
  | [],[],c => by intro h; simp [Lib.compareBytes] at h
  | [],_ :: _,[] => by intro _ h; simp [Lib.compareBytes] at h
  | [],_ :: _,_ :: _ => by intro _ _; simp [Lib.compareBytes]
  | _ :: _,[],c => by intro h; simp [Lib.compareBytes] at h
  | _ :: _,_ :: _,[] => by intro _ h; simp [Lib.compareBytes] at h
  | a :: xs,b :: ys,c :: zs => by
    have ih:=c5m xs ys zs
    unfold Lib.compareBytes
    rcases c1c a b with h | h | h
    · rcases c1c b c with g | g | g
      · have:a < c:=by simp only [UInt8.lt_iff_toNat_lt] at *; omega
        simp [this]
      · subst g; simp [h]
      · simp [h,g,b5c g]
    · subst h
      rcases c1c a c with g | g | g
      · simp [g]
      · subst g; simp only [UInt8.lt_irrefl,if_false]; exact ih
      · simp [g,b5c g]
    · simp [h,b5c h]
theorem d5n:∀ n:Fin 13,(a8w (IntKind.u64.wrap ((n.val:Nat):Int))).isSome = true:=by decide +kernel
theorem b5e {α:Type} (p s:List α) (x:α):(p ++ x :: s)[p.length]? = some x:=by simp
theorem c3g {α:Type} (p s:List α) (x y:α):(p ++ x :: s).set p.length y = p ++ y :: s:=by
  rw [List.set_append_right _ _ (Nat.le_refl _),Nat.sub_self,List.set_cons_zero]
theorem b9y:2 ^ 40 < FUEL:=by unfold FUEL; decide
def a9j (a b:Str):Int:=Lib.compareBytes a b
theorem b2s (a b:Str):a9j a b = 0 ↔ a = b:=b6x a b
theorem c7p (a b:Str):a9j b a = - a9j a b:=c7o a b
theorem b5f {a b c:Str} (h:a9j a b < 0) (g:a9j b c < 0):a9j a c < 0:=c5m a b c h g
theorem b1x (a:Str):¬ a9j a a < 0:=by have:=(b2s a a).2 rfl; omega
theorem c7q (a b:Str):Op.bytesLess a b = decide (a9j a b < 0):=c1d a b
theorem d9x (a b:Str):cmp_Less_string a b = some (decide (a9j a b < 0)):=by
  unfold cmp_Less_string cmp_isNaN_string
  simp [c7q]
def a7l (d:List Str):Prop:=d.Pairwise fun a b => a9j a b < 0
theorem a7l.ext:∀ {a b:List Str},a7l a → a7l b → (∀ x,x ∈ a ↔ x ∈ b) → a = b
  | [],[],_,_,_ => rfl
  | [],y :: _,_,_,h => absurd ((h y).2 (by simp)) (by simp)
  | x :: _,[],_,_,h => absurd ((h x).1 (by simp)) (by simp)
  | x :: xs,y :: ys,ha,hb,h => by
    obtain ⟨ha1,ha2⟩:=List.pairwise_cons.1 ha
    obtain ⟨hb1,hb2⟩:=List.pairwise_cons.1 hb
    have hxy:x = y:=by
      rcases List.mem_cons.1 ((h x).1 (by simp)) with e | e
      · exact e
      · rcases List.mem_cons.1 ((h y).2 (by simp)) with e' | e'
        · exact e'.symm
        · exact absurd (b5f (ha1 y e') (hb1 x e)) (b1x _)
    subst hxy
    refine congrArg (x :: ·) (a7l.ext ha2 hb2 (fun z => ?_))
    have hz:=h z
    simp only [List.mem_cons] at hz
    constructor
    · intro q
      rcases hz.1 (.inr q) with e | e
      · subst e; exact absurd (ha1 z q) (b1x _)
      · exact e
    · intro q
      rcases hz.2 (.inr q) with e | e
      · subst e; exact absurd (hb1 z q) (b1x _)
      · exact e
def c2b (d:List Str):Prop:=d.Pairwise fun a b => a9j a b ≤ 0
theorem c6m {a b c:Str} (h:a9j a b ≤ 0) (g:a9j b c ≤ 0):a9j a c ≤ 0:=by
  by_cases h0:a9j a b = 0
  · rw [(b2s a b).1 h0]; exact g
  · by_cases g0:a9j b c = 0
    · rw [← (b2s b c).1 g0]; exact h
    · have:=b5f (a:=a) (b:=b) (c:=c) (by omega) (by omega); omega
def ddT:Str → List Str → List Str
  | _,[] => []
  | a,z :: t => if z = a then ddT a t else z :: ddT z t
theorem c3h (x:Str):∀ (t:List Str) (a:Str),x ∈ a :: ddT a t ↔ x ∈ a :: t
  | [],a => by simp [ddT]
  | z :: t,a => by
    unfold ddT
    by_cases e:z = a
    · subst e; rw [if_pos rfl,c3h x t z]; simp
    · rw [if_neg e,List.mem_cons,c3h x t z,List.mem_cons (a:=x) (b:=a)]
theorem c3i:∀ (t:List Str) (a:Str),(ddT a t).length ≤ t.length
  | [],a => by simp [ddT]
  | z :: t,a => by
    unfold ddT
    have h1:=c3i t a
    have h2:=c3i t z
    by_cases e:z = a
    · rw [if_pos e]; simp only [List.length_cons]; omega
    · rw [if_neg e]; simp only [List.length_cons]; omega
theorem b8j:∀ (t:List Str) (a:Str),c2b (a :: t) → a7l (a :: ddT a t)
  | [],a,_ => List.pairwise_singleton _ _
  | z :: t,a,h => by
    obtain ⟨h1,h2⟩:=List.pairwise_cons.1 h
    unfold ddT
    by_cases e:z = a
    · subst e; rw [if_pos rfl]; exact b8j t z h2
    · rw [if_neg e]
      have haz:a9j a z < 0:=by
        have:=h1 z (by simp)
        have h0:a9j a z ≠ 0:=fun q => e ((b2s a z).1 q).symm
        omega
      refine List.pairwise_cons.2 ⟨fun c hc => ?_,b8j t z h2⟩
      have hc':=(c3h c t z).1 hc
      rcases List.mem_cons.1 hc' with rfl | hc'
      · exact haz
      · have hzc:=(List.pairwise_cons.1 h2).1 c hc'
        by_cases hz:a9j z c = 0
        · rw [← (b2s z c).1 hz]; exact haz
        · exact b5f haz (by omega)
theorem c7r:∀ (pr:List Str) (k:Nat) (x:Str) (s:List Str),pr.length < k → pr.length + s.length + 1 ≤ 2 ^ 20 → c2b pr.reverse → ∃ p1 p2:List Str,pr.reverse = p1 ++ p2 ∧ a0q 0 k (pr.length:Int) (pr.reverse ++ x :: s) = some (p1 ++ x :: (p2 ++ s)) ∧ (∀ y ∈ p2,a9j x y < 0) ∧ (∀ y ∈ p1,a9j y x ≤ 0)
  | _,0,_,_,h,_,_ => by omega
  | [],k + 1,x,s,_,hl,_ => by
    refine ⟨[],[],rfl,?_,by simp,by simp⟩
    rw [a0q]
    rfl
  | y :: pr,k + 1,x,s,hk,hl,hw => by
    simp only [List.length_cons] at hk hl
    have er:(y :: pr).reverse = pr.reverse ++ [y]:=by simp
    rw [er] at hw
    have hw':c2b pr.reverse:=(List.pairwise_append.1 hw).1
    have hy:∀ z ∈ pr.reverse,a9j z y ≤ 0:=fun z hz => (List.pairwise_append.1 hw).2.2 z hz y (by simp)
    have el:(pr.reverse ++ [y]).length = pr.length + 1:=by simp
    have ed:(pr.reverse ++ [y] ++ x :: s) = pr.reverse ++ y :: x :: s:=by simp
    have e1:decide (((y :: pr).length:Int) > 0) = true:=decide_eq_true (by simp only [List.length_cons]; omega)
    have e2:w64 (((y :: pr).length:Int) - 1) = ((pr.length:Nat):Int):=by rw [a4o (by simp only [List.length_cons]; omega)]; simp only [List.length_cons]; omega
    have g1:(pr.reverse ++ y :: x :: s)[0 + (((y :: pr).length:Nat):Int).toNat]? = some x:=by
      have:=b5e (pr.reverse ++ [y]) s x
      rw [el,ed] at this
      simpa using this
    have g2:(pr.reverse ++ y :: x :: s)[0 + ((pr.length:Nat):Int).toNat]? = some y:=by
      have:=b5e pr.reverse (x :: s) y
      rw [List.length_reverse] at this
      simpa using this
    have b1:0 ≤ (((y :: pr).length:Nat):Int) ∧ (((y :: pr).length:Nat):Int) < ((pr.reverse ++ y :: x :: s).length:Int):=by simp; omega
    have b2:0 ≤ ((pr.length:Nat):Int) ∧ ((pr.length:Nat):Int) < ((pr.reverse ++ y :: x :: s).length:Int):=by simp; omega
    have ss:(pr.reverse ++ y :: x :: s).set (0 + (((y :: pr).length:Nat):Int).toNat) y = pr.reverse ++ y :: y :: s:=by
      have:=c3g (pr.reverse ++ [y]) s x y
      rw [el] at this
      simpa using this
    have s2:(pr.reverse ++ y :: y :: s).set (0 + ((pr.length:Nat):Int).toNat) x = pr.reverse ++ x :: y :: s:=by
      have:=c3g pr.reverse (y :: s) y x
      rw [List.length_reverse] at this
      simpa using this
    have g3:(pr.reverse ++ y :: y :: s)[0 + ((pr.length:Nat):Int).toNat]? = some y:=by
      have:=b5e pr.reverse (y :: s) y
      rw [List.length_reverse] at this
      simpa using this
    rw [a0q,er,ed,if_pos e1,if_pos b1,g1,Option.bind_some,e2,if_pos b2,g2,Option.bind_some,d9x,Option.bind_some,Option.bind_some]
    by_cases c:a9j x y < 0
    · rw [if_pos (by simpa using c),if_pos b2,Option.bind_some,if_pos b1,Option.bind_some,if_pos b1,if_pos b2,ss,g3,Option.bind_some,s2]
      obtain ⟨p1,p2,h1,h2,h3,h4⟩:=c7r pr k x (y :: s) (by omega) (by simp only [List.length_cons]; omega) hw'
      refine ⟨p1,p2 ++ [y],by rw [h1,List.append_assoc],by rw [h2]; simp,fun z hz => ?_,h4⟩
      rcases List.mem_append.1 hz with hz | hz
      · exact h3 z hz
      · simp only [List.mem_singleton] at hz; subst hz; exact c
    · rw [if_neg (by simpa using c)]
      refine ⟨pr.reverse ++ [y],[],by simp,by simp,by simp,fun z hz => ?_⟩
      have hyx:a9j y x ≤ 0:=by have:=c7p x y; omega
      rcases List.mem_append.1 hz with hz | hz
      · exact c6m (hy z hz) hyx
      · simp only [List.mem_singleton] at hz; subst hz; exact hyx
theorem c7s:∀ (s pre:List Str) (k:Nat),s.length < k → pre.length + s.length ≤ 2 ^ 19 → c2b pre → ∃ d,a0l (((pre ++ s).length:Nat):Int) 0 k (pre.length:Int) (pre ++ s) = some d ∧ c2b d ∧ d.Perm (pre ++ s)
  | _,_,0,h,_,_ => by omega
  | [],pre,k + 1,_,_,hw => by
    refine ⟨pre,?_,hw,by simp⟩
    rw [a0l,if_neg (by simp)]
    simp
  | x :: s,pre,k + 1,hk,hl,hw => by
    simp only [List.length_cons] at hk hl
    have hf:=b9y
    rw [a0l,if_pos (by simp; omega)]
    obtain ⟨p1,p2,h1,h2,h3,h4⟩:=c7r pre.reverse FUEL x s (by simp; omega) (by simp; omega) (by simpa using hw)
    rw [List.reverse_reverse] at h1 h2
    rw [List.length_reverse] at h2
    rw [h2,Option.bind_some]
    have hw1:c2b (p1 ++ x :: p2):=by
      rw [h1] at hw
      obtain ⟨a1,a2,a3⟩:=List.pairwise_append.1 hw
      refine List.pairwise_append.2 ⟨a1,List.pairwise_cons.2 ⟨fun z hz => ?_,a2⟩,fun z hz w hw' => ?_⟩
      · have:=h3 z hz; omega
      · rcases List.mem_cons.1 hw' with rfl | hw'
        · exact h4 z hz
        · exact a3 z hz w hw'
    have el:(p1 ++ x :: p2).length = pre.length + 1:=by rw [h1]; simp; omega
    have e1:w64 ((pre.length:Int) + 1) = (((p1 ++ x :: p2).length:Nat):Int):=by rw [a4o (by omega),el]; omega
    have e2:p1 ++ x :: (p2 ++ s) = (p1 ++ x :: p2) ++ s:=by simp
    have e3:(pre ++ x :: s).length = ((p1 ++ x :: p2) ++ s).length:=by rw [show ((p1 ++ x :: p2) ++ s).length = (p1 ++ x :: p2).length + s.length from List.length_append,el]; simp; omega
    obtain ⟨d,g1,g2,g3⟩:=c7s s (p1 ++ x :: p2) k (by omega) (by omega) hw1
    refine ⟨d,?_,g2,g3.trans ?_⟩
    · rw [e1,e2,e3]; exact g1
    · rw [h1,List.append_assoc,List.append_assoc]
      refine List.Perm.append_left p1 ?_
      rw [List.cons_append]
      exact (List.perm_middle (a:=x) (l₁:=p2) (l₂:=s)).symm
theorem e0w (l:List Str) (h:l.length ≤ 2 ^ 19):∃ d,a1u l 0 (l.length:Int) = some d ∧ c2b d ∧ d.Perm l:=by
  have hf:=b9y
  unfold a1u
  cases l with
  | nil =>
    refine ⟨[],?_,.nil,List.Perm.refl _⟩
    obtain ⟨k,hk⟩:∃ k,FUEL = k + 1:=⟨FUEL - 1,by omega⟩
    rw [hk,a0l]
    rfl
  | cons x s =>
    simp only [List.length_cons] at h
    have:=c7s s [x] FUEL (by omega) (by simp; omega) (List.pairwise_singleton _ _)
    have ew:w64 (0 + 1) = 1:=by decide
    rw [ew]
    simpa using this
theorem d9y (l:List Str) (h:l.length ≤ 12):∃ d,a2y l = some d ∧ c2b d ∧ d.Perm l:=by
  have hf:=b9y
  obtain ⟨d,e,h1,h2⟩:=e0w l (by omega)
  refine ⟨d,?_,h1,h2⟩
  have hb:=d5n ⟨l.length,by omega⟩
  unfold a2y
  obtain ⟨n,hn⟩:=Option.isSome_iff_exists.1 hb
  have hn':a8w (IntKind.u64.wrap (l.length:Int)) = some n:=hn
  obtain ⟨k,hk⟩:∃ k,FUEL = k + 1:=⟨FUEL - 1,by omega⟩
  have e2:a1l FUEL l 0 (l.length:Int) n = some d:=by
    rw [hk,a1l]
    unfold a2z
    rw [hk,a1h,if_pos (by rw [a4o (by omega)]; simp; omega),e,Option.bind_some]
  rw [hn',Option.bind_some,e2,Option.bind_some]
theorem b6y (s0:List Str) (k0:Nat):∀ (t c g:List Str) (y:Str) (k k2:Nat),t.length < k → (c ++ (g ++ y :: t)).length = s0.length → c.length + g.length + 1 = k0 + k2 → s0.length ≤ 2 ^ 20 → 1 ≤ k2 → ∃ R,a0o s0 k0 k (c.length:Int) (k2:Int) (c ++ (g ++ y :: t)) = some ((((c ++ ddT y t).length:Nat):Int),R) ∧ R.length = s0.length ∧ R.take (c ++ ddT y t).length = c ++ ddT y t
  | _,_,_,_,0,_,h,_,_,_,_ => by omega
  | [],c,g,y,k + 1,k2,_,hn,hp,hl,h2 => by
    refine ⟨c ++ (g ++ [y]),?_,hn,by simp [ddT]⟩
    simp only [List.length_append,List.length_cons,List.length_nil] at hn
    rw [a0o,if_neg (by simp; omega)]
    simp [ddT]
  | z :: t,c,g,y,k + 1,k2,hk,hn,hp,hl,h2 => by
    have hn0:=hn
    simp only [List.length_append,List.length_cons] at hn hk
    have e1:decide ((k2:Int) < (((s0.length - k0):Nat):Int)) = true:=decide_eq_true (by omega)
    have b1:0 ≤ (k2:Int) ∧ (k2:Int) < (((s0.length - k0):Nat):Int):=by omega
    have e2:w64 ((k2:Int) - 1) = ((k2 - 1:Nat):Int):=by rw [a4o (by omega)]; omega
    have b2:0 ≤ ((k2 - 1:Nat):Int) ∧ ((k2 - 1:Nat):Int) < (((s0.length - k0):Nat):Int):=by omega
    have g1:(c ++ (g ++ y :: z :: t))[k0 + ((k2:Nat):Int).toNat]? = some z:=by
      have:=b5e (c ++ g ++ [y]) t z
      have el:(c ++ g ++ [y]).length = k0 + k2:=by simp; omega
      rw [el] at this
      simpa using this
    have g2:(c ++ (g ++ y :: z :: t))[k0 + ((k2 - 1:Nat):Int).toNat]? = some y:=by
      have:=b5e (c ++ g) (z :: t) y
      have el:(c ++ g).length = k0 + (k2 - 1):=by simp; omega
      rw [el] at this
      simpa using this
    have e3:w64 ((k2:Int) + 1) = ((k2 + 1:Nat):Int):=by rw [a4o (by omega)]; omega
    rw [a0o,if_pos e1,if_pos b1,g1,Option.bind_some,e2,if_pos b2,g2,Option.bind_some,e3]
    by_cases e:z = y
    · subst e
      rw [if_neg (by simp)]
      have ed:ddT z (z :: t) = ddT z t:=by rw [ddT,if_pos rfl]
      have ec:c ++ (g ++ z :: z :: t) = c ++ ((g ++ [z]) ++ z :: t):=by simp
      rw [ed,ec]
      exact b6y s0 k0 t c (g ++ [z]) z k (k2 + 1) (by omega) (by rw [← ec]; exact hn0) (by simp; omega) hl (by omega)
    · have ed:ddT y (z :: t) = z :: ddT z t:=by rw [ddT,if_neg e]
      have b3:0 ≤ (c.length:Int) ∧ (c.length:Int) < ((c ++ (g ++ y :: z :: t)).length:Int):=by simp; omega
      have g3:∃ w,(c ++ (g ++ y :: z :: t))[0 + ((c.length:Nat):Int).toNat]? = some w:=⟨_,List.getElem?_eq_getElem (by simp; omega)⟩
      obtain ⟨w,hw⟩:=g3
      have e4:w64 ((c.length:Int) + 1) = (((c ++ [z]).length:Nat):Int):=by rw [a4o (by omega)]; simp
      rw [if_pos (by simp [e]),if_pos b1,if_pos b3,hw,Option.bind_some,e4,ed]
      have ex:c ++ z :: ddT z t = (c ++ [z]) ++ ddT z t:=by simp
      rw [ex]
      cases g with
      | nil =>
        have es:(c ++ ([] ++ y :: z :: t)).set (0 + ((c.length:Nat):Int).toNat) z = (c ++ [z]) ++ ([] ++ z :: t):=by
          have:=c3g c (z :: t) y z
          simpa using this
        rw [es]
        exact b6y s0 k0 t (c ++ [z]) [] z k (k2 + 1) (by omega) (by simp at hn ⊢; omega) (by simp at hp ⊢; omega) hl (by omega)
      | cons g0 g' =>
        have es:(c ++ (g0 :: g' ++ y :: z :: t)).set (0 + ((c.length:Nat):Int).toNat) z = (c ++ [z]) ++ ((g' ++ [y]) ++ z :: t):=by
          have:=c3g c (g' ++ y :: z :: t) g0 z
          simpa using this
        rw [es]
        exact b6y s0 k0 t (c ++ [z]) (g' ++ [y]) z k (k2 + 1) (by omega) (by simp at hn ⊢; omega) (by simp at hp ⊢; omega) hl (by omega)
theorem c7t (s:List Str) (hl:s.length ≤ 2 ^ 20):∀ (xs pre:List Str) (y:Str),s = pre ++ y :: xs → a0u s xs (pre.length + 1) = some (if ddT y xs = xs then .go () else .ret (pre ++ y :: ddT y xs))
  | [],pre,y,_ => by rw [a0u]; simp [ddT]
  | x :: xs,pre,y,hs => by
    have hn:s.length = pre.length + 1 + 1 + xs.length:=by rw [hs]; simp; omega
    have e1:w64 ((((pre.length + 1:Nat)):Int) - 1) = ((pre.length:Nat):Int):=by rw [a4o (by omega)]; omega
    have g1:s[0 + ((pre.length:Nat):Int).toNat]? = some y:=by
      have:=b5e pre (x :: xs) y
      rw [← hs] at this
      simpa using this
    have es:s = (pre ++ [y]) ++ x :: xs:=by rw [hs]; simp
    rw [a0u,if_pos (by omega),e1,if_pos (by omega),g1,Option.bind_some]
    by_cases e:x = y
    · subst e
      have ed:ddT x (x :: xs) = ddT x xs:=by rw [ddT,if_pos rfl]
      have hne:¬ ddT x (x :: xs) = x :: xs:=by
        rw [ed]; intro h
        have:=c3i xs x
        rw [h] at this
        simp only [List.length_cons] at this
        omega
      have hf:=b9y
      rw [if_pos (by simp),if_pos (by omega),if_neg hne,ed]
      obtain ⟨R,h1,h2,h3⟩:=b6y s (pre.length + 1) xs (pre ++ [x]) [] x FUEL 1 (by omega) (by rw [es]; simp) (by simp) hl (by omega)
      have ec:((pre ++ [x]) ++ ([] ++ x :: xs)) = s:=by rw [es]; simp
      have el:(((pre ++ [x]).length:Nat):Int) = ((pre.length + 1:Nat):Int):=by simp
      have h1':a0o s (pre.length + 1) FUEL ((pre.length + 1:Nat):Int) 1 s = some ((((pre ++ [x] ++ ddT x xs).length:Nat):Int),R):=by
        rw [ec,el] at h1; exact h1
      rw [h1',Option.bind_some]
      have hle:(pre ++ [x] ++ ddT x xs).length ≤ R.length:=by have:=c3i xs x; rw [h2,hn]; simp; omega
      simp only
      rw [if_pos (by omega),if_pos (by omega)]
      have et:(R.take (((pre ++ [x] ++ ddT x xs).length:Nat):Int).toNat) = pre ++ x :: ddT x xs:=by
        rw [Int.toNat_natCast,h3]; simp
      rw [et]
      have el2:(((pre ++ [x] ++ ddT x xs).length:Nat):Int).toNat = (pre ++ x :: ddT x xs).length:=by rw [Int.toNat_natCast]; simp
      rw [el2,List.append_assoc,List.take_left']
      rfl
    · have ed:ddT y (x :: xs) = x :: ddT x xs:=by rw [ddT,if_neg e]
      have e2:pre.length + 1 + 1 = (pre ++ [y]).length + 1:=by simp
      rw [if_neg (by simp [e]),e2,c7t s hl xs (pre ++ [y]) x es,ed]
      by_cases q:ddT x xs = xs
      · rw [if_pos q,if_pos (by rw [q])]
      · rw [if_neg q,if_neg (by simpa using q)]
        simp
def c1e:List Str → List Str
  | [] => []
  | a :: t => a :: ddT a t
theorem d3d (s:List Str) (hl:s.length ≤ 2 ^ 20):a2j s = some (c1e s):=by
  unfold a2j
  cases s with
  | nil => rfl
  | cons a t =>
    cases t with
    | nil => rfl
    | cons b t =>
      rw [if_neg (by simp; omega)]
      have:=c7t (a :: b :: t) hl (b :: t) [] a rfl
      have e:a0u (a :: b :: t) ((a :: b :: t).drop 1) 1 = _:=this
      rw [e]
      by_cases q:ddT a (b :: t) = b :: t
      · rw [if_pos q,c1e,q]; rfl
      · rw [if_neg q,c1e]; rfl
theorem c2c (rec:o8 → Option o8):∀ (xs out:List o8),(∀ x ∈ xs,rec x = some x) → out.length + xs.length ≤ 2 ^ 30 → a3n rec xs out = some (out ++ xs)
  | [],out,_,_ => by rw [a3n]; simp
  | x :: xs,out,hr,h => by
    simp only [List.length_cons] at h
    rw [a3n,hr x (by simp),Option.bind_some,if_pos (by simp; omega),c2c rec xs _ (fun y hy => hr y (by simp [hy])) (by simp; omega)]
    simp
theorem c5n:∀ (k:Nat) (j:o8),a5a j < k → a5a j ≤ 2 ^ 30 → a6h k j = some j
  | 0,j,h,_ => by omega
  | k + 1,j,h,h2 => by
    rw [c7m] at h h2
    have hl:=b3m j.Items
    have hk:j.Keys.length ≤ a2h j.Keys:=by unfold a2h; omega
    rw [a6h]
    unfold b1g
    rw [if_pos (by simp; omega),Option.bind_some,c2c (a6h k) j.Items [] (fun y hy => by have:=b3n hy; exact c5n k y (by omega) (by omega)) (by simp; omega)]
    cases j
    simp
theorem d8j (j:o8) (h:a5a j ≤ 2 ^ 30):a6h FUEL j = some j:=c5n FUEL j (fuel_lt (by omega)) h
theorem c5o (a:a0a):∃ j,a6k a = some j ∧ a5a j ≤ a.T.length + 20:=by
  unfold a6k
  by_cases k1:(a.Kind == 1) = true
  · rw [if_pos k1]
    exact ⟨_,rfl,by simp [a5a,a2h,a3v,a2v]⟩
  rw [if_neg k1]
  by_cases k2:(a.Kind == 2) = true
  · rw [if_pos k2]
    exact ⟨_,rfl,by simp [a5a,a2h,a3v,a2v]⟩
  rw [if_neg k2]
  by_cases k3:(a.Kind == 3) = true
  · rw [if_pos k3]
    unfold b1u
    split
    · exact ⟨_,rfl,by simp [a5a,a2h,a3v,a2v]⟩
    · exact ⟨_,rfl,by simp [a5a,a2h,a3v,a2v]⟩
  rw [if_neg k3]
  refine ⟨_,rfl,?_⟩
  simp [a5a,a2h,a3v,a2v]
theorem c7u (a:a0a):a8h a = a6k a:=by
  unfold a8h a6k
  have h:∀ b,b6v b = b1u b:=fun b => by cases b <;> rfl
  have h2:∀ x y:o8,a6g [x,y] = a7z [x,y]:=fun x y => by
    unfold a6g a7z
    rw [if_pos (by simp)]
    rfl
  simp only [h,h2]
  rfl
theorem c7v:∀ (xs:List a0a) (out:List o8),out.length + xs.length ≤ 2 ^ 30 → ∃ js,a2g xs out = some (out ++ js) ∧ a3m xs out = some (out ++ js) ∧ js.length = xs.length ∧ a2v js ≤ b0t xs + 21 * xs.length
  | [],out,_ => ⟨[],by rw [a2g]; simp,by rw [a3m]; simp,rfl,by simp [a2v]⟩
  | x :: xs,out,h => by
    simp only [List.length_cons] at h
    obtain ⟨j,e,hj⟩:=c5o x
    obtain ⟨js,e1,e2,e3,e4⟩:=c7v xs (out ++ [j]) (by simp; omega)
    refine ⟨j :: js,?_,?_,by simp [e3],?_⟩
    · rw [a2g,e,Option.bind_some,if_pos (by simp; omega),e1]; simp
    · rw [a3m,c7u,e,Option.bind_some,if_pos (by simp; omega),e2]; simp
    · simp only [a2v,b0t,b3t,List.length_cons]; omega
theorem e0x (d:List a0a) (h:a5k d ≤ 2 ^ 20):∃ j,a5m d = some j ∧ a7h d = some j ∧ a5a j ≤ 2 ^ 25:=by
  unfold a5k at h
  unfold a5m a7h
  obtain ⟨js,e1,e2,e3,e4⟩:=c7v d [] (by simp; omega)
  rw [e1]
  simp only [Option.bind_some,List.nil_append,e3]
  by_cases h1:d.length = 1
  · have h1':((d.length:Int) == 1) = true:=by simp [h1]
    rw [if_pos h1',if_pos h1']
    obtain ⟨x,rfl⟩:∃ x,d = [x]:=by
      match d,h1 with
      | [x],_ => exact ⟨x,rfl⟩
    rw [a2g] at e1
    obtain ⟨j,e,hj⟩:=c5o x
    rw [e,Option.bind_some,if_pos (by simp),a2g] at e1
    simp only [List.nil_append,Option.some.injEq] at e1
    subst e1
    refine ⟨j,by simp,?_,?_⟩
    · simp [idx,c7u,e]
    · simp only [b0t,b3t,List.length_cons] at h; omega
  · have h1':((d.length:Int) == 1) = false:=by simp; omega
    rw [if_neg (by simp [h1']),if_neg (by simp [h1'])]
    refine ⟨⟨4,0,[],[],[⟨3,0,[115,101,116],[],[]⟩,⟨4,0,[],[],js⟩]⟩,rfl,?_,?_⟩
    · have q1:b0c = some ⟨4,0,[],[],[]⟩:=by unfold b0c; simp
      have q2:b2r [115,101,116] = some ⟨3,0,[115,101,116],[],[]⟩:=rfl
      have q3:∀ x y:o8,a6g [x,y] = some ⟨4,0,[],[],[x,y]⟩:=fun x y => by unfold a6g; simp
      rw [q1,Option.bind_some,e2,Option.bind_some,q2,Option.bind_some,q3]
      rfl
    · simp only [a5a,a2v,a2h,a3v,List.length_cons,List.length_nil]; omega
def a9k {α:Type}:List (Str × α) → Str → α → List (Str × α)
  | [],k,v => [(k,v)]
  | (k',v') :: r,k,v => if a9j k' k < 0 then (k',v') :: a9k r k v else if k' = k then (k,v) :: r else (k,v) :: (k',v') :: r
theorem c5p {α:Type} (k:Str) (v:α):∀ kv:List (Str × α),(a9k kv k v).length ≤ kv.length + 1
  | [] => by simp [a9k]
  | (k',v') :: r => by
    have:=c5p k v r
    unfold a9k
    split
    · simp only [List.length_cons]; omega
    · split <;> simp
theorem c7w {α:Type} (k:Str) (v:α) (q:Str):∀ kv:List (Str × α),a5d (a9k kv k v) q = if k = q then some v else a5d kv q
  | [] => by simp [a9k,a5d]
  | (k',v') :: r => by
    unfold a9k
    split
    · rename_i h
      simp only [a5d]
      rw [c7w k v q r]
      by_cases e1:k' = q
      · by_cases e2:k = q
        · subst e1; subst e2; exact absurd h (b1x _)
        · simp [e1,e2]
      · simp [e1]
    · split
      · rename_i e; subst e
        simp only [a5d]
        by_cases e2:k' = q <;> simp [e2]
      · simp only [a5d]
theorem c5q {α:Type} (k:Str) (v:α) (q:Str):∀ kv:List (Str × α),q ∈ (a9k kv k v).map Prod.fst ↔ q = k ∨ q ∈ kv.map Prod.fst
  | [] => by simp [a9k]
  | (k',v') :: r => by
    unfold a9k
    split
    · simp only [List.map_cons,List.mem_cons,c5q k v q r]
      constructor
      · rintro (h | h | h)
        · exact .inr (.inl h)
        · exact .inl h
        · exact .inr (.inr h)
      · rintro (h | h | h)
        · exact .inr (.inl h)
        · exact .inl h
        · exact .inr (.inr h)
    · split
      · rename_i e; subst e
        simp only [List.map_cons,List.mem_cons]
        constructor
        · rintro (h | h)
          · exact .inl h
          · exact .inr (.inr h)
        · rintro (h | h | h)
          · exact .inl h
          · exact .inl h
          · exact .inr h
      · simp only [List.map_cons,List.mem_cons]
theorem c2d {α:Type} (k:Str) (v:α):∀ kv:List (Str × α),a7l (kv.map Prod.fst) → a7l ((a9k kv k v).map Prod.fst)
  | [],_ => List.pairwise_singleton _ _
  | (k',v') :: r,h => by
    have h0:=h
    obtain ⟨h1,h2⟩:=List.pairwise_cons.1 h
    unfold a9k
    split
    · rename_i c
      refine List.pairwise_cons.2 ⟨fun q hq => ?_,c2d k v r h2⟩
      rcases (c5q k v q r).1 hq with rfl | hq
      · exact c
      · exact h1 q hq
    · rename_i c
      split
      · rename_i e; subst e; exact h0
      · rename_i e
        have hk:a9j k k' < 0:=by
          have a1:=c7p k' k
          have a2:a9j k' k ≠ 0:=fun z => e ((b2s _ _).1 z)
          omega
        refine List.pairwise_cons.2 ⟨fun q hq => ?_,h0⟩
        rcases List.mem_cons.1 hq with rfl | hq
        · exact hk
        · exact b5f hk (h1 q hq)
def b4k {α:Type} (kv l:List (Str × α)):List (Str × α):=l.foldl (fun kv p => a9k kv p.1 p.2) kv
def c9n {α:Type} (m l:List (Str × α)):List (Str × α):=l.foldl (fun m p => b2c m p.1 p.2) m
theorem c1f {α:Type} (k:Str) (v:α) (q:Str):∀ m:List (Str × α),a5d (b2c m k v) q = if k = q then some v else a5d m q
  | [] => by simp [b2c,a5d]
  | (k',v') :: r => by
    unfold b2c
    split
    · rename_i e; subst e
      simp only [a5d]
      by_cases e2:k' = q <;> simp [e2]
    · rename_i h
      simp only [a5d]
      rw [c1f k v q r]
      by_cases e1:k' = q
      · by_cases e2:k = q
        · subst e1; subst e2; exact absurd rfl h
        · simp [e1,e2]
      · simp [e1]
theorem c5r {α:Type} (q:Str):∀ (l kv:List (Str × α)),q ∈ (b4k kv l).map Prod.fst ↔ q ∈ l.map Prod.fst ∨ q ∈ kv.map Prod.fst
  | [],kv => by simp [b4k]
  | p :: l,kv => by
    have:=c5r q l (a9k kv p.1 p.2)
    simp only [b4k,List.foldl_cons] at this ⊢
    rw [this,c5q]
    simp only [List.map_cons,List.mem_cons]
    constructor
    · rintro (h | h | h)
      · exact .inl (.inr h)
      · exact .inl (.inl h)
      · exact .inr h
    · rintro ((h | h) | h)
      · exact .inr (.inl h)
      · exact .inl h
      · exact .inr (.inr h)
theorem b6n {α:Type}:∀ (l kv:List (Str × α)),a7l (kv.map Prod.fst) → a7l ((b4k kv l).map Prod.fst)
  | [],kv,h => h
  | p :: l,kv,h => by
    have:=b6n l (a9k kv p.1 p.2) (c2d _ _ _ h)
    simpa only [b4k,List.foldl_cons] using this
theorem c7x {α β:Type} (f:α → β):∀ (l m:List (Str × α)) (kv:List (Str × β)),(∀ q,a5d kv q = (a5d m q).map f) → ∀ q,a5d (b4k kv (l.map fun p => (p.1,f p.2))) q = (a5d (c9n m l) q).map f
  | [],m,kv,h,q => h q
  | p :: l,m,kv,h,q => by
    have:=c7x f l (b2c m p.1 p.2) (a9k kv p.1 (f p.2)) (fun q => by
      rw [c7w,c1f]
      by_cases e:p.1 = q
      · simp [e]
      · simp [e,h q]) q
    simpa only [b4k,c9n,List.map_cons,List.foldl_cons] using this
theorem d1t {α:Type} (q:Str) (d:α):∀ (l m:List (Str × α)),a5d (c9n m l) q = some d → d ∈ l.map Prod.snd ∨ a5d m q = some d
  | [],m,h => .inr h
  | p :: l,m,h => by
    have h':a5d (c9n (b2c m p.1 p.2) l) q = some d:=by simpa only [c9n,List.foldl_cons] using h
    rcases d1t q d l _ h' with h1 | h1
    · exact .inl (by simp only [List.map_cons,List.mem_cons]; exact .inr h1)
    · rw [c1f] at h1
      by_cases e:p.1 = q
      · rw [if_pos e] at h1; cases h1
        exact .inl (by simp)
      · rw [if_neg e] at h1; exact .inr h1
theorem c2e {α:Type}:∀ (kv:List (Str × α)),a7l (kv.map Prod.fst) → ∀ p ∈ kv,a5d kv p.1 = some p.2
  | [],_,p,hp => by simp at hp
  | (k,v) :: r,h,p,hp => by
    obtain ⟨h1,h2⟩:=List.pairwise_cons.1 h
    rcases List.mem_cons.1 hp with rfl | hp
    · simp [a5d]
    · have hne:¬ k = p.1:=fun e => b1x k (by
        have:=h1 p.1 (List.mem_map.2 ⟨p,hp,rfl⟩)
        rwa [← e] at this)
      simp only [a5d,hne,if_false]
      exact c2e r h2 p hp
/-! the reference's order of keys -/
theorem d8k (x:Str):∀ (suf pre:List Str) (f:Nat),suf.length < f → (pre ++ suf).length ≤ 2 ^ 20 → a5i (pre ++ suf) x f ((pre.length:Nat):Int) = some (((pre.length + (suf.takeWhile fun y => Op.bytesLess y x).length:Nat)):Int)
  | _,_,0,h,_ => by omega
  | [],pre,f + 1,_,_ => by
    rw [a5i,if_neg (by simp)]
    simp
  | y :: suf,pre,f + 1,h,hl => by
    simp only [List.length_append,List.length_cons] at h hl
    have e1:decide (((pre.length:Nat):Int) < ((pre ++ y :: suf).length:Int)) = true:=decide_eq_true (by simp; omega)
    have b1:0 ≤ ((pre.length:Nat):Int) ∧ ((pre.length:Nat):Int) < ((pre ++ y :: suf).length:Int):=by simp; omega
    have g1:(pre ++ y :: suf)[0 + ((pre.length:Nat):Int).toNat]? = some y:=by
      have:=b5e pre suf y
      simpa using this
    rw [a5i,if_pos e1,if_pos b1,g1,Option.bind_some,Option.bind_some]
    cases hb:Op.bytesLess y x with
    | false => simp [hb]
    | true =>
      have e2:w64 (((pre.length:Nat):Int) + 1) = (((pre ++ [y]).length:Nat):Int):=by rw [a4o (by omega)]; simp
      have e3:pre ++ y :: suf = (pre ++ [y]) ++ suf:=by simp
      rw [if_pos rfl,e2,e3,d8k x suf (pre ++ [y]) f (by omega) (by simp; omega),List.takeWhile_cons,hb]
      simp; omega
def a3y {α:Type} (kv:List (Str × α)) (x:Str):Nat:=((kv.map Prod.fst).takeWhile fun y => Op.bytesLess y x).length
theorem d9z {α:Type} (kv:List (Str × α)) (x:Str):a3y kv x ≤ kv.length:=by
  unfold a3y
  have:=List.Sublist.length_le (List.takeWhile_sublist (fun y => Op.bytesLess y x) (l:=kv.map Prod.fst))
  simpa using this
theorem c7y {α:Type} (k:Str) (v:α) (r:List (Str × α)) (x:Str):a3y ((k,v) :: r) x = if a9j k x < 0 then a3y r x + 1 else 0:=by
  unfold a3y
  rw [List.map_cons,List.takeWhile_cons]
  simp only [c7q]
  by_cases c:a9j k x < 0
  · simp [c]
  · simp [c]
theorem d1v {α:Type} (x:Str) (v:α):∀ kv:List (Str × α),(kv.map Prod.fst)[a3y kv x]? = some x → a9k kv x v = kv.set (a3y kv x) (x,v)
  | [],h => by simp at h
  | (k,w) :: r,h => by
    rw [c7y] at h ⊢
    unfold a9k
    by_cases c:a9j k x < 0
    · rw [if_pos c] at h ⊢
      rw [if_pos c,List.set_cons_succ,d1v x v r (by simpa using h)]
    · rw [if_neg c] at h ⊢
      have:k = x:=by simpa using h
      rw [if_neg c,if_pos this,List.set_cons_zero]
theorem c1g {α:Type} (x:Str) (v:α):∀ kv:List (Str × α),¬ (kv.map Prod.fst)[a3y kv x]? = some x → a9k kv x v = kv.take (a3y kv x) ++ (x,v) :: kv.drop (a3y kv x)
  | [],h => by simp [a9k,a3y]
  | (k,w) :: r,h => by
    rw [c7y] at h ⊢
    unfold a9k
    by_cases c:a9j k x < 0
    · rw [if_pos c] at h ⊢
      rw [if_pos c,c1g x v r (by simpa using h)]
      simp
    · rw [if_neg c] at h ⊢
      have:¬ k = x:=by simpa using h
      rw [if_neg c,if_neg this]
      simp
theorem d8l (items:List o8):∀ (xs:List Str) (i:Nat) (kv:List (Str × o8)),i + xs.length = items.length → kv.length + xs.length ≤ 2 ^ 19 → a5j items xs i (kv.map Prod.fst) (kv.map Prod.snd) = some ((b4k kv (xs.zip (items.drop i))).map Prod.fst,(b4k kv (xs.zip (items.drop i))).map Prod.snd)
  | [],i,kv,_,_ => by rw [a5j]; simp [b4k]
  | x :: xs,i,kv,hi,hl => by
    simp only [List.length_cons] at hi hl
    obtain ⟨v,hv⟩:∃ v,items[i]? = some v:=⟨_,List.getElem?_eq_getElem (by omega)⟩
    obtain ⟨_,hv'⟩:=List.getElem?_eq_some_iff.1 hv
    have ed:items.drop i = v :: items.drop (i + 1):=by rw [List.drop_eq_getElem_cons (by omega),hv']
    have hix:idx items (i:Int) = some v:=by rw [b4v,hv]
    have e0:=d8k x (kv.map Prod.fst) [] FUEL (by have:=b9y; simp; omega) (by simp; omega)
    simp only [List.nil_append,List.length_nil,Nat.zero_add] at e0
    have e0:a5i (kv.map Prod.fst) x FUEL 0 = some ((a3y kv x:Nat):Int):=e0
    have hp:=d9z kv x
    have hkl:=c5p x v kv
    have ih:=d8l items xs (i + 1) (a9k kv x v) (by omega) (by omega)
    have ek:b4k kv ((x :: xs).zip (items.drop i)) = b4k (a9k kv x v) (xs.zip (items.drop (i + 1))):=by rw [ed]; rfl
    rw [ek,a5j,e0,Option.bind_some]
    have l1:(kv.map Prod.fst).length = kv.length:=by simp
    have l2:(kv.map Prod.snd).length = kv.length:=by simp
    by_cases hlt:a3y kv x < kv.length
    · have d1:decide (((a3y kv x:Nat):Int) < ((kv.map Prod.fst).length:Int)) = true:=decide_eq_true (by rw [l1]; omega)
      obtain ⟨y,hy⟩:∃ y,(kv.map Prod.fst)[a3y kv x]? = some y:=⟨_,List.getElem?_eq_getElem (by rw [l1]; exact hlt)⟩
      have hy0:(kv.map Prod.fst)[0 + ((a3y kv x:Nat):Int).toNat]? = some y:=by simpa using hy
      obtain ⟨z,hz⟩:∃ z,(kv.map Prod.snd)[0 + ((a3y kv x:Nat):Int).toNat]? = some z:=⟨_,List.getElem?_eq_getElem (by rw [l2]; simpa using hlt)⟩
      rw [if_pos d1,if_pos (by rw [l1]; omega),hy0,Option.bind_some,Option.bind_some]
      by_cases e:y = x
      · subst e
        have hs:=d1v y v kv hy
        rw [if_pos (by simp),hix,Option.bind_some,if_pos (by rw [l2]; omega),hz,Option.bind_some]
        have m1:(a9k kv y v).map Prod.fst = kv.map Prod.fst:=by
          rw [hs,List.map_set]
          apply List.ext_getElem?
          intro j
          rw [List.getElem?_set]
          by_cases q:a3y kv y = j
          · subst q; rw [if_pos rfl,if_pos (by rw [l1]; exact hlt),hy]
          · simp [q]
        have m2:(a9k kv y v).map Prod.snd = (kv.map Prod.snd).set (0 + ((a3y kv y:Nat):Int).toNat) v:=by
          rw [hs,List.map_set]; simp
        rw [← m1,← m2]
        exact ih
      · have hs:=c1g x v kv (by rw [hy]; simpa using e)
        rw [if_neg (by simpa using e)]
        have c1:(0:Int) ≤ ((a3y kv x:Nat):Int) ∧ ((a3y kv x:Nat):Int) ≤ ((kv.map Prod.fst).length:Int):=by rw [l1]; omega
        have c2:(0:Int) ≤ ((a3y kv x:Nat):Int) ∧ ((a3y kv x:Nat):Int) ≤ ((kv.map Prod.snd).length:Int):=by rw [l2]; omega
        have b1:([] ++ ((kv.map Prod.fst).take ((a3y kv x:Nat):Int).toNat)).length ≤ 2 ^ 30:=by simp; omega
        have b2:(([] ++ ((kv.map Prod.fst).take ((a3y kv x:Nat):Int).toNat)) ++ [x]).length ≤ 2 ^ 30:=by simp; omega
        have b3:((([] ++ ((kv.map Prod.fst).take ((a3y kv x:Nat):Int).toNat)) ++ [x]) ++ (((kv.map Prod.fst).drop ((a3y kv x:Nat):Int).toNat).take ((kv.map Prod.fst).length - ((a3y kv x:Nat):Int).toNat))).length ≤ 2 ^ 30:=by simp; omega
        have b4:([] ++ ((kv.map Prod.snd).take ((a3y kv x:Nat):Int).toNat)).length ≤ 2 ^ 30:=by simp; omega
        have b5:(([] ++ ((kv.map Prod.snd).take ((a3y kv x:Nat):Int).toNat)) ++ [v]).length ≤ 2 ^ 30:=by simp; omega
        have b6:((([] ++ ((kv.map Prod.snd).take ((a3y kv x:Nat):Int).toNat)) ++ [v]) ++ (((kv.map Prod.snd).drop ((a3y kv x:Nat):Int).toNat).take ((kv.map Prod.snd).length - ((a3y kv x:Nat):Int).toNat))).length ≤ 2 ^ 30:=by simp; omega
        rw [if_pos c1,if_pos c1,if_pos b1,if_pos b2,if_pos b3,Option.bind_some,if_pos c2,hix,Option.bind_some,if_pos c2,if_pos b4,if_pos b5,if_pos b6]
        have m1:((([] ++ ((kv.map Prod.fst).take ((a3y kv x:Nat):Int).toNat)) ++ [x]) ++ (((kv.map Prod.fst).drop ((a3y kv x:Nat):Int).toNat).take ((kv.map Prod.fst).length - ((a3y kv x:Nat):Int).toNat))) = (a9k kv x v).map Prod.fst:=by
          rw [hs,List.take_of_length_le (l:=(kv.map Prod.fst).drop ((a3y kv x:Nat):Int).toNat) (by simp)]; simp
        have m2:((([] ++ ((kv.map Prod.snd).take ((a3y kv x:Nat):Int).toNat)) ++ [v]) ++ (((kv.map Prod.snd).drop ((a3y kv x:Nat):Int).toNat).take ((kv.map Prod.snd).length - ((a3y kv x:Nat):Int).toNat))) = (a9k kv x v).map Prod.snd:=by
          rw [hs,List.take_of_length_le (l:=(kv.map Prod.snd).drop ((a3y kv x:Nat):Int).toNat) (by simp)]; simp
        rw [m1,m2]
        exact ih
    · have hpe:a3y kv x = kv.length:=by omega
      have d1:decide (((a3y kv x:Nat):Int) < ((kv.map Prod.fst).length:Int)) = false:=decide_eq_false (by rw [l1]; omega)
      have hs:=c1g x v kv (by rw [List.getElem?_eq_none (by rw [l1]; omega)]; simp)
      rw [d1,if_neg (by simp),Option.bind_some,if_neg (by simp)]
      have c1:(0:Int) ≤ ((a3y kv x:Nat):Int) ∧ ((a3y kv x:Nat):Int) ≤ ((kv.map Prod.fst).length:Int):=by rw [l1]; omega
      have c2:(0:Int) ≤ ((a3y kv x:Nat):Int) ∧ ((a3y kv x:Nat):Int) ≤ ((kv.map Prod.snd).length:Int):=by rw [l2]; omega
      have b1:([] ++ ((kv.map Prod.fst).take ((a3y kv x:Nat):Int).toNat)).length ≤ 2 ^ 30:=by simp; omega
      have b2:(([] ++ ((kv.map Prod.fst).take ((a3y kv x:Nat):Int).toNat)) ++ [x]).length ≤ 2 ^ 30:=by simp; omega
      have b3:((([] ++ ((kv.map Prod.fst).take ((a3y kv x:Nat):Int).toNat)) ++ [x]) ++ (((kv.map Prod.fst).drop ((a3y kv x:Nat):Int).toNat).take ((kv.map Prod.fst).length - ((a3y kv x:Nat):Int).toNat))).length ≤ 2 ^ 30:=by simp; omega
      have b4:([] ++ ((kv.map Prod.snd).take ((a3y kv x:Nat):Int).toNat)).length ≤ 2 ^ 30:=by simp; omega
      have b5:(([] ++ ((kv.map Prod.snd).take ((a3y kv x:Nat):Int).toNat)) ++ [v]).length ≤ 2 ^ 30:=by simp; omega
      have b6:((([] ++ ((kv.map Prod.snd).take ((a3y kv x:Nat):Int).toNat)) ++ [v]) ++ (((kv.map Prod.snd).drop ((a3y kv x:Nat):Int).toNat).take ((kv.map Prod.snd).length - ((a3y kv x:Nat):Int).toNat))).length ≤ 2 ^ 30:=by simp; omega
      rw [if_pos c1,if_pos c1,if_pos b1,if_pos b2,if_pos b3,Option.bind_some,if_pos c2,hix,Option.bind_some,if_pos c2,if_pos b4,if_pos b5,if_pos b6]
      have m1:((([] ++ ((kv.map Prod.fst).take ((a3y kv x:Nat):Int).toNat)) ++ [x]) ++ (((kv.map Prod.fst).drop ((a3y kv x:Nat):Int).toNat).take ((kv.map Prod.fst).length - ((a3y kv x:Nat):Int).toNat))) = (a9k kv x v).map Prod.fst:=by
        rw [hs,List.take_of_length_le (l:=(kv.map Prod.fst).drop ((a3y kv x:Nat):Int).toNat) (by simp)]; simp
      have m2:((([] ++ ((kv.map Prod.snd).take ((a3y kv x:Nat):Int).toNat)) ++ [v]) ++ (((kv.map Prod.snd).drop ((a3y kv x:Nat):Int).toNat).take ((kv.map Prod.snd).length - ((a3y kv x:Nat):Int).toNat))) = (a9k kv x v).map Prod.snd:=by
        rw [hs,List.take_of_length_le (l:=(kv.map Prod.snd).drop ((a3y kv x:Nat):Int).toNat) (by simp)]; simp
      rw [m1,m2]
      exact ih
theorem p_O (keys:List Str) (items:List o8) (h:keys.length = items.length) (hl:keys.length ≤ 2 ^ 19):b4b keys items = some ⟨5,0,[],(b4k [] (keys.zip items)).map Prod.fst,(b4k [] (keys.zip items)).map Prod.snd⟩:=by
  unfold b4b
  have:=d8l items keys 0 [] (by omega) (by simpa using hl)
  simp only [List.map_nil,List.drop_zero] at this
  rw [this,Option.bind_some]
/-! a row -/
def dj (d:List a0a):o8:=(a5m d).getD ⟨0,0,[],[],[]⟩
theorem e0y (d:List a0a) (h:a5k d ≤ 2 ^ 20):a5m d = some (dj d) ∧ a7h d = some (dj d) ∧ a5a (dj d) ≤ 2 ^ 25:=by
  obtain ⟨j,e1,e2,e3⟩:=e0x d h
  have:dj d = j:=by unfold dj; rw [e1]; rfl
  rw [this]
  exact ⟨e1,e2,e3⟩
theorem c7z (r:a3r) (hw:∀ d ∈ r.Cells,a5k d ≤ 2 ^ 20):∀ (xs:List Str) (i:Nat) (out:List o8),i + xs.length = r.Cells.length → out.length + xs.length ≤ 2 ^ 20 → a4q r xs i out = some (out ++ (r.Cells.drop i).map dj)
  | [],i,out,hi,_ => by
    rw [a4q,List.drop_of_length_le (by simp only [List.length_nil] at hi; omega)]; simp
  | x :: xs,i,out,hi,hl => by
    simp only [List.length_cons] at hi hl
    obtain ⟨v,hv⟩:∃ v,r.Cells[i]? = some v:=⟨_,List.getElem?_eq_getElem (by omega)⟩
    obtain ⟨_,hv'⟩:=List.getElem?_eq_some_iff.1 hv
    have ed:r.Cells.drop i = v :: r.Cells.drop (i + 1):=by rw [List.drop_eq_getElem_cons (by omega),hv']
    rw [a4q,b4v,hv,Option.bind_some,(e0y v (hw v (List.mem_of_getElem? hv))).2.1,Option.bind_some,if_pos (by simp; omega),c7z r hw xs (i + 1) _ (by omega) (by simp; omega),ed]
    simp
theorem c8a (r:a3r):∀ (xs:List Str) (i:Nat) (m:List (Str × List a0a)),i + xs.length = r.Cells.length → a4g r xs i m = some (c9n m (xs.zip (r.Cells.drop i)))
  | [],i,m,hi => by rw [a4g]; simp [c9n]
  | x :: xs,i,m,hi => by
    simp only [List.length_cons] at hi
    obtain ⟨v,hv⟩:∃ v,r.Cells[i]? = some v:=⟨_,List.getElem?_eq_getElem (by omega)⟩
    obtain ⟨_,hv'⟩:=List.getElem?_eq_some_iff.1 hv
    have ed:r.Cells.drop i = v :: r.Cells.drop (i + 1):=by rw [List.drop_eq_getElem_cons (by omega),hv']
    rw [a4g,b4v,hv,Option.bind_some,c8a r xs (i + 1) _ (by omega),ed]
    rfl
theorem c8b (rr:List Str) (m:List (Str × List a0a)):∀ (kv:List (Str × o8)) (i:Nat) (out:List o8),(∀ p ∈ kv,∃ d,a5d m p.1 = some d ∧ a5m d = some p.2) → i + kv.length ≤ rr.length → out.length + kv.length ≤ 2 ^ 20 → a4h rr m (kv.map Prod.fst) i out = some (out ++ kv.map Prod.snd)
  | [],i,out,_,_,_ => by rw [List.map_nil,a4h]; simp
  | p :: kv,i,out,h,hi,hl => by
    simp only [List.length_cons] at hi hl
    obtain ⟨d,h1,h2⟩:=h p (by simp)
    rw [List.map_cons,a4h,if_pos (by omega),h1,Option.bind_some,h2,Option.bind_some,if_pos (by simp; omega),c8b rr m kv (i + 1) _ (fun q hq => h q (by simp [hq])) (by omega) (by simp; omega)]
    simp
def a9r (columns:List Str) (r:a3r):List (Str × o8):=b4k [] ((columns.zip r.Cells).map fun p => (p.1,dj p.2))
theorem c5s {α:Type}:∀ (l kv:List (Str × α)),(b4k kv l).length ≤ kv.length + l.length
  | [],kv => by simp [b4k]
  | p :: l,kv => by
    have h1:=c5s l (a9k kv p.1 p.2)
    have h2:=c5p p.1 p.2 kv
    have e:b4k kv (p :: l) = b4k (a9k kv p.1 p.2) l:=rfl
    rw [e]; simp only [List.length_cons]; omega
theorem b8k (columns:List Str) (r:a3r):∀ p ∈ a9r columns r,p.1 ∈ columns ∧ ∃ d ∈ r.Cells,p.2 = dj d ∧ a5d (c9n [] (columns.zip r.Cells)) p.1 = some d:=by
  intro p hp
  have hs:a7l ((a9r columns r).map Prod.fst):=b6n _ _ .nil
  have hl:=c2e _ hs p hp
  have hk:=c7x dj (columns.zip r.Cells) [] [] (fun q => rfl) p.1
  have hk:a5d (a9r columns r) p.1 = (a5d (c9n [] (columns.zip r.Cells)) p.1).map dj:=hk
  rw [hl] at hk
  obtain ⟨d,h1,h2⟩:=Option.map_eq_some_iff.1 hk.symm
  refine ⟨?_,d,?_,h2.symm,h1⟩
  · have hpm:p.1 ∈ (b4k [] ((columns.zip r.Cells).map fun p => (p.1,dj p.2))).map Prod.fst:=List.mem_map.2 ⟨p,hp,rfl⟩
    have:=(c5r p.1 ((columns.zip r.Cells).map fun p => (p.1,dj p.2)) []).1 hpm
    rcases this with h | h
    · simp only [List.map_map,List.mem_map,Function.comp] at h
      obtain ⟨q,hq,e⟩:=h
      rw [← e]; exact (List.of_mem_zip hq).1
    · simp at h
  · rcases d1t p.1 d _ _ h1 with h | h
    · obtain ⟨q,hq,e⟩:=List.mem_map.1 h
      rw [← e]; exact (List.of_mem_zip hq).2
    · simp [a5d] at h
theorem d5o (columns:List Str) (r:a3r) (hn:r.Cells.length = columns.length) (hl:columns.length ≤ 12) (hw:∀ d ∈ r.Cells,a5k d ≤ 2 ^ 20):a9p columns r = some ⟨5,0,[],(a9r columns r).map Prod.fst,(a9r columns r).map Prod.snd⟩:=by
  unfold a9p
  rw [c7z r hw columns 0 [] (by omega) (by simp; omega),Option.bind_some]
  simp only [List.nil_append,List.drop_zero]
  rw [p_O columns _ (by simp; omega) (by omega),Option.bind_some]
  unfold a9r
  rw [List.zip_map_right]
  rfl
theorem d3e (columns:List Str) (r:a3r) (hn:r.Cells.length = columns.length) (hl:columns.length ≤ 12) (hw:∀ d ∈ r.Cells,a5k d ≤ 2 ^ 20):a8i columns r = some ⟨5,0,[],(a9r columns r).map Prod.fst,(a9r columns r).map Prod.snd⟩:=by
  unfold a8i a4s
  rw [c8a r columns 0 [] (by omega),Option.bind_some,if_pos (by simp; omega),Option.bind_some,List.nil_append,List.drop_zero]
  obtain ⟨s,e,h1,h2⟩:=d9y columns hl
  have hlen:=h2.length_eq
  rw [e,Option.bind_some,d3d s (by omega),Option.bind_some]
  have hst:a7l (c1e s):=by
    cases s with
    | nil => exact .nil
    | cons a t => exact b8j t a h1
  have hm:∀ x,x ∈ c1e s ↔ x ∈ columns:=by
    intro x
    rw [← h2.mem_iff]
    cases s with
    | nil => rfl
    | cons a t => exact c3h x t a
  have hs:a7l ((a9r columns r).map Prod.fst):=b6n _ _ .nil
  have hk:c1e s = (a9r columns r).map Prod.fst:=by
    refine a7l.ext hst hs (fun x => ?_)
    rw [hm]
    unfold a9r
    rw [c5r]
    simp only [List.map_map,List.map_nil,List.not_mem_nil,or_false]
    have e2:(columns.zip r.Cells).map (Prod.fst ∘ fun p:Str × List a0a => (p.1,dj p.2)) = columns:=by
      have:(Prod.fst ∘ fun p:Str × List a0a => (p.1,dj p.2)) = Prod.fst:=rfl
      rw [this,List.map_fst_zip (by omega)]
    rw [e2]
  have hlk:(a9r columns r).length ≤ 12:=by
    have:=c5s ((columns.zip r.Cells).map fun p => (p.1,dj p.2)) []
    simp only [List.length_map,List.length_zip,List.length_nil] at this
    unfold a9r; omega
  rw [hk,c8b _ _ (a9r columns r) 0 [] (fun p hp => by
    obtain ⟨_,d,q1,q2,q3⟩:=b8k columns r p hp
    exact ⟨d,q3,by rw [(e0y d (hw d q1)).1,q2]⟩) (by simp) (by simp; omega),Option.bind_some,List.nil_append]
  rfl
theorem b3v:∀ {l:List (List a0a)} {d:List a0a},d ∈ l → a5k d ≤ a8d l
  | x :: l,d,h => by
    rcases List.mem_cons.1 h with rfl | h
    · simp only [a8d]; omega
    · have:=b3v h; simp only [a8d]; omega
theorem c5t (b:Nat):∀ l:List o8,(∀ x ∈ l,a5a x ≤ b) → a2v l ≤ l.length * (b + 1)
  | [],_ => by simp [a2v]
  | x :: l,h => by
    have h1:=h x (by simp)
    have h2:=c5t b l (fun y hy => h y (by simp [hy]))
    simp only [a2v,List.length_cons,Nat.add_mul,Nat.one_mul]
    omega
theorem b9z (b:Nat):∀ l:List Str,(∀ x ∈ l,x.length ≤ b) → a3v l ≤ l.length * b
  | [],_ => by simp [a3v]
  | x :: l,h => by
    have h1:=h x (by simp)
    have h2:=b9z b l (fun y hy => h y (by simp [hy]))
    simp only [a3v,List.length_cons,Nat.add_mul,Nat.one_mul]
    omega
theorem e0z (columns:List Str) (r:a3r) (hn:r.Cells.length = columns.length) (hl:columns.length ≤ 12) (hw:b4j r ≤ 2 ^ 20) (hc:a2h columns ≤ 2 ^ 20):∃ j,a8i columns r = some j ∧ a9p columns r = some j ∧ a5a j ≤ 2 ^ 29:=by
  have hd:∀ d ∈ r.Cells,a5k d ≤ 2 ^ 20:=fun d hd => by
    have:=b3v hd
    unfold b4j a7f at hw; omega
  refine ⟨_,d3e columns r hn hl hd,d5o columns r hn hl hd,?_⟩
  have hlk:(a9r columns r).length ≤ 12:=by
    have:=c5s ((columns.zip r.Cells).map fun p => (p.1,dj p.2)) []
    simp only [List.length_map,List.length_zip,List.length_nil] at this
    unfold a9r; omega
  have h1:=c5t (2 ^ 25) ((a9r columns r).map Prod.snd) (fun x hx => by
    obtain ⟨p,hp,rfl⟩:=List.mem_map.1 hx
    obtain ⟨_,d,q1,q2,_⟩:=b8k columns r p hp
    rw [q2]; exact (e0y d (hd d q1)).2.2)
  have h2:=b9z (2 ^ 20) ((a9r columns r).map Prod.fst) (fun x hx => by
    obtain ⟨p,hp,rfl⟩:=List.mem_map.1 hx
    obtain ⟨q,_⟩:=b8k columns r p hp
    have:=b7m q
    unfold a2h at hc; omega)
  rw [List.length_map] at h1 h2
  have h3:(a9r columns r).length * (2 ^ 25 + 1) ≤ 12 * (2 ^ 25 + 1):=Nat.mul_le_mul_right _ hlk
  have h4:(a9r columns r).length * 2 ^ 20 ≤ 12 * 2 ^ 20:=Nat.mul_le_mul_right _ hlk
  simp only [a5a,a2h,List.length_map,List.length_nil]
  omega
def rfB (columns:List Str) (r:a3r):Bool:=decide (columns.length ≤ 6) && columns.all b0z && rowB columns.length r
theorem d5p (columns:List Str) (r:a3r) (h:d3c r):b0n columns r = some (rfB columns r):=by
  unfold b0n rfB
  by_cases c:columns.length ≤ 6
  · have e1:decide ((columns.length:Int) ≤ 6) = true:=decide_eq_true (by omega)
    rw [e1,if_pos rfl,a9d _ (fun t => !b0z t) columns (fun t _ => by unfold b0h; rw [d8i]; rfl),c5l,Option.bind_some,Bool.not_not]
    cases hb:columns.all b0z with
    | false => simp
    | true => rw [if_pos rfl,d5m r _ h,Option.bind_some]; simp [c]
  · have e1:decide ((columns.length:Int) ≤ 6) = false:=decide_eq_false (by omega)
    rw [e1]; simp [c]
theorem c2f (r:a3r) (columns:List Str) (hn:r.Cells.length = columns.length):∀ (xs:List Str) (i:Nat),i + xs.length = columns.length → a2p r columns xs i = some (if (xs.all b0z && (r.Cells.drop i).all c9m) = true then .go () else .ret false)
  | [],i,hi => by
    rw [a2p,List.drop_of_length_le (by simp only [List.length_nil] at hi; omega)]; rfl
  | x :: xs,i,hi => by
    simp only [List.length_cons] at hi
    obtain ⟨v,hv⟩:∃ v,r.Cells[i]? = some v:=⟨_,List.getElem?_eq_getElem (by omega)⟩
    obtain ⟨_,hv'⟩:=List.getElem?_eq_some_iff.1 hv
    have ed:r.Cells.drop i = v :: r.Cells.drop (i + 1):=by rw [List.drop_eq_getElem_cons (by omega),hv']
    have en:((r.Cells.length:Int) != (columns.length:Int)) = false:=by simp [hn]
    rw [a2p,b9x,Option.bind_some,en,ed,c2f r columns hn xs (i + 1) (by omega),b4v,hv,Option.bind_some,d3a,Option.bind_some]
    simp only [List.all_cons]
    rcases Bool.eq_false_or_eq_true (b0z x) with a | a <;> rcases Bool.eq_false_or_eq_true (c9m v) with b | b <;> rcases Bool.eq_false_or_eq_true (xs.all b0z) with c | c <;> simp [a,b,c]
theorem d8m (columns:List Str) (r:a3r):a8t columns r = some (rfB columns r):=by
  unfold a8t rfB rowB
  by_cases hn:r.Cells.length = columns.length
  · rw [c2f r columns hn columns 0 (by omega),List.drop_zero]
    have e1:((r.Cells.length:Int) == (columns.length:Int)) = true:=by simp [hn]
    have e2:decide ((columns.length:Int) ≤ 6) = decide (columns.length ≤ 6):=by rw [decide_eq_decide]; omega
    simp only [e1,e2,hn,decide_true,if_true]
    have e5:((columns.length:Int) == (columns.length:Int)) = true:=by simp
    rw [e5]
    generalize columns.all b0z = A
    generalize r.Cells.all c9m = B
    generalize decide (columns.length ≤ 6) = D
    cases A <;> cases B <;> cases D <;> rfl
  · have e1:((r.Cells.length:Int) == (columns.length:Int)) = false:=by simp; omega
    have e3:((r.Cells.length:Int) != (columns.length:Int)) = true:=by simp; omega
    have e4:decide (r.Cells.length = columns.length) = false:=decide_eq_false hn
    rw [e4]
    cases columns with
    | nil => rw [a2p]; simp only [Option.bind_some,e1]; simp
    | cons x xs =>
      rw [a2p,b9x,Option.bind_some,e3]
      cases b0z x <;> simp
theorem d5q (columns:List Str) (r:a3r) (hw:b4j r ≤ 2 ^ 20) (hc:a2h columns ≤ 2 ^ 20):∃ j c,a8j columns r = some (j,c) ∧ b0d columns r = some (j,c) ∧ a5a j ≤ 2 ^ 29:=by
  have hs:d3c r:=fun d hd => by
    have:=b3v hd
    unfold b4j a7f at hw
    unfold a5k at this
    simp only [maxLen]; omega
  unfold a8j b0d a7a
  have wz:a5a ⟨0,0,[],[],[]⟩ ≤ 2 ^ 29:=by simp [a5a,a2v,a2h,a3v]
  rw [Option.bind_some,d5p columns r hs,d8m]
  by_cases h1:(columns.length:Int) ≤ 4096
  · have e1:decide ((columns.length:Int) ≤ 4096) = true:=decide_eq_true h1
    have e2:decide ((columns.length:Int) > 4096) = false:=decide_eq_false (by omega)
    rw [e1,e2]
    cases hb:rfB columns r with
    | false => exact ⟨_,_,rfl,rfl,wz⟩
    | true =>
      simp only [rfB,rowB,Bool.and_eq_true,decide_eq_true_eq] at hb
      obtain ⟨j,q1,q2,q3⟩:=e0z columns r hb.2.1 (by omega) hw hc
      have q4:=d8j j (by omega)
      exact ⟨j,0,by simp [q1],by simp [q2,q4],q3⟩
  · have e1:decide ((columns.length:Int) ≤ 4096) = false:=decide_eq_false h1
    have e2:decide ((columns.length:Int) > 4096) = true:=decide_eq_true (by omega)
    rw [e1,e2]
    exact ⟨_,_,rfl,rfl,wz⟩
theorem b8l (cs:List Str) (x:a3r) (h1:okL (okS) cs) (h2:c9e x):a6o cs x = some true:=by
  unfold a6o
  obtain ⟨r,e,hr⟩:=d1n cs 1048576 (by omega) (by omega) h1
  rw [e,Option.bind_some]
  split
  · rfl
  · rename_i hn
    simp only [decide_eq_true_eq] at hn
    obtain ⟨g1,g2⟩:=hr.resolve_left hn
    obtain ⟨r',e',hr'⟩:=d9t x r g1 (by omega) h2
    rw [e',Option.bind_some]
    split
    · rfl
    · rename_i hn'
      simp only [decide_eq_true_eq] at hn'
      obtain ⟨g3,g4⟩:=hr'.resolve_left hn'
      have hwc:a2h cs ≤ 1048576:=by omega
      have hwr:b4j x ≤ 1048576:=by omega
      have et1:=d1o cs (by omega)
      have et2:=d9u x (by omega)
      obtain ⟨j,c,e1,e2,k1⟩:=d5q cs x (by omega) (by omega)
      have q1:=b3u cs
      have m1:=b3s cs 1 (b7p cs (by omega)) (by omega) (by omega)
      have q2:=d5g x
      have m2:=d5c x (1 + (a1b cs:Nat)) (d5h x (by omega)) (by omega) (by omega)
      have q3:=c5f j
      have m3:=d2u j 1 (b8i j (by omega)) (by omega) (by omega)
      have m4:=d2v j 1 (b8i j (by omega)) (by omega) (by omega)
      have eq1:=c1t cs
      have eq2:=d9s x
      have eq3:=d1m j (by omega)
      have em:(⟨j.Kind,j.N,j.T,(b4x j 1).Keys,(b4x j 1).Items⟩:o8) = b4x j 1:=by rw [b4i]
      have ej:(⟨j.Kind,j.N,j.T,j.Keys,j.Items⟩:o8) = j:=by cases j; rfl
      have n1:decide ((1:Int) + (a1b cs:Nat) + (c1b x:Nat) < 0) = false:=decide_eq_false (by omega)
      have n2:decide ((1:Int) + (b0s j:Nat) < 0) = false:=decide_eq_false (by omega)
      simp only [et1,et2,Option.bind_some,e1,e2,eq1,eq2,eq3,m1,m2,m3,em,m4,n1,n2,ej,Bool.not_true,Bool.false_eq_true,if_false,bne_self_eq_false,cond_false]
end Go.R
