/- Plain laws of what this statement reaches. -/
import Derived.Test.YtldahjcikmpifaaGreatWIRH
import Derived.Test.YtldahjcikmpifaaGreatP0
set_option linter.all false
namespace Go.R
open Go
set_option linter.all false
theorem a5h (f:(List x8) → Option Bool) (p:(List x8) → Bool):∀ (xs:List (List x8)) (i:Nat),(∀ x ∈ xs,f x = some (p x)) → a0x f xs i = some (match xs.findIdx? p with | some k => .ret ((i + k:Nat):Int) | none => .go ())
  | [],i,_ => by rw [a0x]; rfl
  | x :: xs,i,h => by
    rw [a0x,h x (by simp),Option.bind_some,a5h f p xs (i + 1) (fun y hy => h y (by simp [hy])),List.findIdx?_cons]
    cases hp:p x with
    | true => simp
    | false =>
      cases hq:xs.findIdx? p with
      | none => simp
      | some k => simp; omega
theorem a8k (f:(List x8) → Option Bool) (p:(List x8) → Bool) (xs:List (List x8)) (h:∀ x ∈ xs,f x = some (p x)):a2g xs f = some (match xs.findIdx? p with | some k => (k:Int) | none => -1):=by
  unfold a2g
  rw [a5h f p xs 0 h]
  cases hq:xs.findIdx? p with
  | none => rfl
  | some k => simp
theorem a6e (f:Str → Option Bool) (p:Str → Bool):∀ (xs:List Str) (i:Nat),(∀ x ∈ xs,f x = some (p x)) → a1e f xs i = some (match xs.findIdx? p with | some k => .ret ((i + k:Nat):Int) | none => .go ())
  | [],i,_ => by rw [a1e]; rfl
  | x :: xs,i,h => by
    rw [a1e,h x (by simp),Option.bind_some,a6e f p xs (i + 1) (fun y hy => h y (by simp [hy])),List.findIdx?_cons]
    cases hp:p x with
    | true => simp
    | false =>
      cases hq:xs.findIdx? p with
      | none => simp
      | some k => simp; omega
theorem b0x (f:Str → Option Bool) (p:Str → Bool) (xs:List Str) (h:∀ x ∈ xs,f x = some (p x)):a3i xs f = some (match xs.findIdx? p with | some k => (k:Int) | none => -1):=by
  unfold a3i
  rw [a6e f p xs 0 h]
  cases hq:xs.findIdx? p with
  | none => rfl
  | some k => simp
theorem a7w (f:(List x8) → Option Bool) (p:(List x8) → Bool) (xs:List (List x8)) (h:∀ x ∈ xs,f x = some (p x)):a1x xs f = some (xs.any p):=by
  unfold a1x
  rw [a8k f p xs h,Option.bind_some]
  cases hq:xs.findIdx? p with
  | none =>
    have:xs.any p = false:=by
      rw [List.any_eq_false]
      intro x hx
      have:=List.findIdx?_eq_none_iff.1 hq x hx
      simp [this]
    rw [this]; rfl
  | some k =>
    have:xs.any p = true:=by
      obtain ⟨x,hx,hp⟩:∃ x,x ∈ xs ∧ p x = true:=by
        have:=List.findIdx?_eq_some_iff_getElem.1 hq
        obtain ⟨hk,h1,_⟩:=this
        exact ⟨xs[k],List.getElem_mem _,h1⟩
      exact List.any_eq_true.2 ⟨x,hx,hp⟩
    rw [this]
    simp
theorem a9j (f:Str → Option Bool) (p:Str → Bool) (xs:List Str) (h:∀ x ∈ xs,f x = some (p x)):a2q xs f = some (xs.any p):=by
  unfold a2q
  rw [b0x f p xs h,Option.bind_some]
  cases hq:xs.findIdx? p with
  | none =>
    have:xs.any p = false:=by
      rw [List.any_eq_false]
      intro x hx
      have:=List.findIdx?_eq_none_iff.1 hq x hx
      simp [this]
    rw [this]; rfl
  | some k =>
    have:xs.any p = true:=by
      obtain ⟨x,hx,hp⟩:∃ x,x ∈ xs ∧ p x = true:=by
        have:=List.findIdx?_eq_some_iff_getElem.1 hq
        obtain ⟨hk,h1,_⟩:=this
        exact ⟨xs[k],List.getElem_mem _,h1⟩
      exact List.any_eq_true.2 ⟨x,hx,hp⟩
    rw [this]
    simp
def b6j (c:UInt8):Bool:=!(decide ((c.toNat:Int) < 32) || decide ((c.toNat:Int) > 126))
def b3m (t:Str):Bool:=t.all b6j && decide ((t.length:Int) ≤ 200)
theorem c4w:∀ t:Str,a4n t = some (if t.all b6j = true then .go () else .ret false)
  | [] => by rw [a4n]; simp
  | x :: xs => by
    rw [a4n,c4w xs]
    by_cases h1:(x.toNat:Int) < 32
    · simp [h1,b6j]
    · by_cases h2:(x.toNat:Int) > 126
      · simp [h1,h2,b6j]
      · simp [h1,h2,b6j]
theorem c8y (t:Str):a7s t = some (b3m t):=by
  unfold a7s b3m
  rw [c4w]
  by_cases h:t.all b6j = true
  · simp only [h,if_pos,Option.bind_some,Bool.true_and]
  · simp only [h,Bool.not_eq_true] at h ⊢
    simp [h]
theorem b9r (n a b:Int):a6s n a b = some (decide (a ≤ n ∧ n ≤ b)):=by
  unfold a6s
  by_cases h:a ≤ n <;> simp [h]
theorem c7f:∀ t:Str,a4p t = some (if t.all b6j = true then .go () else .ret false)
  | [] => by rw [a4p]; simp
  | x :: xs => by
    rw [a4p,c7f xs]
    by_cases h1:(x.toNat:Int) < 32
    · simp [h1,b6j]
    · by_cases h2:(x.toNat:Int) > 126
      · simp [h1,h2,b6j]
      · simp [h1,h2,b6j]
theorem e1b (t:Str):b0k t = some (b3m t):=by
  unfold b0k b3m
  rw [c7f]
  by_cases h:t.all b6j = true
  · simp only [h,if_pos,Option.bind_some,Bool.true_and]
  · simp only [h,Bool.not_eq_true] at h ⊢
    simp [h]
theorem e7d (n a b:Int):a9u n a b = some (decide (a ≤ n ∧ n ≤ b)):=by
  unfold a9u
  by_cases h:a ≤ n <;> simp [h]
theorem c4x:∀ a b:Str,Lib.compareBytes a b = -1 ∨ Lib.compareBytes a b = 0 ∨ Lib.compareBytes a b = 1
  | [],[] => by simp [Lib.compareBytes]
  | [],_ :: _ => by simp [Lib.compareBytes]
  | _ :: _,[] => by simp [Lib.compareBytes]
  | a :: xs,b :: ys => by
    have:=c4x xs ys
    unfold Lib.compareBytes
    split
    · simp
    · split
      · simp
      · exact this
theorem c1g (a b:UInt8):a < b ∨ a = b ∨ b < a:=by
  simp only [UInt8.lt_iff_toNat_lt,← UInt8.toNat_inj]
  omega
theorem b4v {a b:UInt8} (h:a < b):¬ b < a:=by
  simp only [UInt8.lt_iff_toNat_lt] at *
  omega
theorem c1h:∀ a b:Str,Lib.compareBytes b a = - Lib.compareBytes a b
  | [],[] => by simp [Lib.compareBytes]
  | [],_ :: _ => by simp [Lib.compareBytes]
  | _ :: _,[] => by simp [Lib.compareBytes]
  | a :: xs,b :: ys => by
    have ih:=c1h xs ys
    unfold Lib.compareBytes
    rcases c1g a b with h | h | h
    · simp [h,b4v h]
    · subst h; simp [UInt8.lt_irrefl,ih]
    · simp [h,b4v h]
theorem b4i:∀ a b:Str,Lib.compareBytes a b = 0 ↔ a = b
  | [],[] => by simp [Lib.compareBytes]
  | [],_ :: _ => by simp [Lib.compareBytes]
  | _ :: _,[] => by simp [Lib.compareBytes]
  | a :: xs,b :: ys => by
    have ih:=b4i xs ys
    unfold Lib.compareBytes
    rcases c1g a b with h | h | h
    · have hne:a ≠ b:=by rintro rfl; exact UInt8.lt_irrefl _ h
      simp [h,hne]
    · subst h; simp [UInt8.lt_irrefl,ih]
    · have hne:a ≠ b:=by rintro rfl; exact UInt8.lt_irrefl _ h
      simp [h,b4v h,hne]
theorem c1i:∀ a b:Str,Op.bytesLess a b = decide (Lib.compareBytes a b < 0)
  | [],[] => by simp [Lib.compareBytes,Op.bytesLess]
  | [],_ :: _ => by simp [Lib.compareBytes,Op.bytesLess]
  | _ :: _,[] => by simp [Lib.compareBytes,Op.bytesLess]
  | a :: xs,b :: ys => by
    have ih:=c1i xs ys
    unfold Lib.compareBytes Op.bytesLess
    rcases c1g a b with h | h | h
    · simp [h]
    · subst h; simp [UInt8.lt_irrefl,ih]
    · have hne:¬ a = b:=by rintro rfl; exact UInt8.lt_irrefl _ h
      simp [h,b4v h,hne]
def a7c (a b:x8):Int:=if a.Kind ≠ b.Kind then (if a.Kind < b.Kind then -1 else 1) else if a.N ≠ b.N then (if a.N < b.N then -1 else 1) else Lib.compareBytes a.T b.T
theorem b2q (a b:x8):a7c a b = 0 ↔ a = b:=by
  unfold a7c
  cases a with | mk k n t =>
  cases b with | mk k' n' t' =>
  simp only [x8.mk.injEq]
  by_cases h1:k = k'
  · subst h1
    by_cases h2:n = n'
    · subst h2; simp [b4i]
    · simp [h2]; split <;> omega
  · simp [h1]; split <;> omega
theorem c7g (a b:x8):a7c b a = - a7c a b:=by
  unfold a7c
  cases a with | mk k n t =>
  cases b with | mk k' n' t' =>
  by_cases h1:k = k'
  · subst h1
    by_cases h2:n = n'
    · subst h2; simp [c1h t t']
    · have h3:¬ n' = n:=fun h => h2 h.symm
      simp [h2,h3]; split <;> split <;> omega
  · have h3:¬ k' = k:=fun h => h1 h.symm
    simp [h1,h3]; split <;> split <;> omega
theorem d8m (x y:Int):cmp_Compare_int x y = some (if x < y then -1 else if x > y then 1 else 0):=by
  unfold cmp_Compare_int cmp_isNaN_int
  by_cases h1:x < y <;> by_cases h2:x > y <;> simp [h1,h2]
theorem b6k (a b:x8):a5c a b = some (a7c a b):=by
  unfold a5c strings_Compare a4f b4u
  simp only [d8m,Option.bind_some]
  unfold a7c
  by_cases h1:a.Kind = b.Kind
  · by_cases h2:a.N = b.N
    · have e1:(if a.Kind < b.Kind then (-1:Int) else if a.Kind > b.Kind then 1 else 0) = 0:=by rw [h1]; simp
      have e2:(if a.N < b.N then (-1:Int) else if a.N > b.N then 1 else 0) = 0:=by rw [h2]; simp
      rw [e1,e2]
      simp only [a4m,h1,h2]
      by_cases h3:Lib.compareBytes a.T b.T = 0
      · simp [h3]
      · simp [h3]
    · have e1:(if a.Kind < b.Kind then (-1:Int) else if a.Kind > b.Kind then 1 else 0) = 0:=by rw [h1]; simp
      rw [e1]
      rcases Int.lt_or_gt_of_ne h2 with h3 | h3
      · simp [a4m,h1,h2,h3]
      · have h4:¬ a.N < b.N:=by omega
        simp [a4m,h1,h2,h3,h4]
  · rcases Int.lt_or_gt_of_ne h1 with h3 | h3
    · simp [a4m,h1,h3]
    · have h4:¬ a.Kind < b.Kind:=by omega
      simp [a4m,h1,h3,h4]
theorem d4m (a b:x8):a6x a b = some (a7c a b):=by
  unfold a6x a8n a7c
  have w0:w64 (1 - w64 0) = 1:=by decide
  have w1:w64 (1 - w64 2) = -1:=by decide
  by_cases h1:a.Kind = b.Kind
  · by_cases h2:a.N = b.N
    · simp only [h1,h2,bne_self_eq_false,Bool.false_eq_true,if_false,ne_eq,not_true_eq_false,c1i]
      by_cases h3:a.T = b.T
      · simp [h3,(b4i b.T b.T).2 rfl]
      · have hne:Lib.compareBytes a.T b.T ≠ 0:=fun h => h3 ((b4i _ _).1 h)
        rcases c4x a.T b.T with h | h | h
        · simp [h3,h,w1]
        · exact absurd h hne
        · simp [h3,h,w0]
    · by_cases h3:a.N < b.N <;> simp [h1,h2,h3,w0,w1]
  · by_cases h3:a.Kind < b.Kind <;> simp [h1,h3,w0,w1]
def a9k (a:x8):Bool :=
  (decide (a.Kind = 1) && decide (-1000000000 ≤ a.N ∧ a.N ≤ 1000000000) && decide (a.T = [])) ||
  (decide (a.Kind = 2) && decide (a.N = 0) && b3m a.T) ||
  (decide (a.Kind = 3) && decide (0 ≤ a.N ∧ a.N ≤ 1) && decide (a.T = [])) ||
  (decide (a.Kind = 4) && decide (1 ≤ a.N ∧ a.N ≤ 1000000) && decide (a.T = []))
theorem b3e (a:x8):a6t a = some (a9k a):=by
  unfold a6t a8d b6x a9k
  simp only [b9r,c8y,Option.bind_some]
  by_cases h1:a.Kind = 1
  · simp only [h1]
    by_cases c:(-1000000000 ≤ a.N ∧ a.N ≤ 1000000000) <;> by_cases d:a.T = [] <;> simp [c,d]
  by_cases h2:a.Kind = 2
  · simp only [h2]
    by_cases c:a.N = 0 <;> simp [c]
  by_cases h3:a.Kind = 3
  · simp only [h3]
    by_cases c:(0 ≤ a.N ∧ a.N ≤ 1) <;> by_cases d:a.T = [] <;> simp [c,d]
  by_cases h4:a.Kind = 4
  · simp only [h4]
    by_cases c:(1 ≤ a.N ∧ a.N ≤ 1000000) <;> by_cases d:a.T = [] <;> simp [c,d]
  · simp [h1,h2,h3,h4]
def c4y (d:List x8) (q:Nat) (x:x8):Bool :=
  a9k x && (match d[0]? with | some h => x.Kind == h.Kind | none => false) && (q == 0 || match d[q - 1]? with | some y => decide (a7c y x < 0) | none => false)
def allS (d:List x8):List x8 → Nat → Bool
  | [],_ => true
  | x :: xs,i => c4y d i x && allS d xs (i + 1)
def d1a (d:List x8):Bool:=allS d d 0 && decide ((d.length:Int) ≤ 8)
theorem d1b (d:List x8):∀ (xs:List x8) (i:Nat),allS d xs i = true ↔ ∀ q x,xs[q]? = some x → c4y d (i + q) x = true
  | [],i => by simp [allS]
  | x :: xs,i => by
    simp only [allS,Bool.and_eq_true,d1b d xs (i + 1)]
    constructor
    · rintro ⟨h1,h2⟩ q y hq
      cases q with
      | zero => simp at hq; subst hq; simpa using h1
      | succ q => have:=h2 q y (by simpa using hq); rw [show i + (q + 1) = i + 1 + q from by omega]; exact this
    · intro h
      refine ⟨by simpa using h 0 x (by simp),fun q y hq => ?_⟩
      have:=h (q + 1) y (by simpa using hq)
      rw [show i + 1 + q = i + (q + 1) from by omega]; exact this
theorem d8n (d:List x8) (i:Nat) (x:x8) (hi:i < d.length) (hl:d.length ≤ maxLen) (A:x8 → Option Bool) (hA:∀ a,A a = some (a9k a)) (O:x8 → x8 → Option Int) (hO:∀ a b,O a b = some (a7c a b)) :
    ((A x).bind fun r_110 =>
    if (!r_110) then
    some true
    else
    (idx d 0).bind fun x_113 =>
    if (x.Kind != x_113.Kind) then
    some true
    else
    if (decide ((i:Int) > 0)) then
    (idx d (w64 ((i:Int) - 1))).bind fun x_117 =>
    (O x_117 x).bind fun r_119 =>
    some (decide (r_119 ≥ 0))
    else
    some false:Option Bool) = some (!c4y d i x):=by
  simp only [maxLen] at hl
  obtain ⟨h,hh⟩:∃ h,d[0]? = some h:=⟨d[0],List.getElem?_eq_getElem (by omega)⟩
  have e0:idx d 0 = some h:=by rw [show (0:Int) = ((0:Nat):Int) from rfl,b1h,hh]
  rw [hA,Option.bind_some,e0]
  unfold c4y
  rw [hh]
  by_cases ha:a9k x = true
  · by_cases hk:x.Kind = h.Kind
    · by_cases h0:i = 0
      · subst h0; simp [ha,hk]
      · obtain ⟨y,hy⟩:∃ y,d[i - 1]? = some y:=⟨d[i - 1],List.getElem?_eq_getElem (by omega)⟩
        have e1:w64 ((i:Int) - 1) = ((i - 1:Nat):Int):=by rw [a3k (by omega)]; omega
        rw [e1,b1h,hy]
        have hp:0 < i:=by omega
        simp [ha,hk,h0,hO,hp]
        by_cases hc:a7c y x < 0
        · have:¬ 0 ≤ a7c y x:=by omega
          simp [hc,this,h0]
        · have:0 ≤ a7c y x:=by omega
          simp [hc,this,h0]
    · simp [ha,hk]
  · simp only [Bool.not_eq_true] at ha
    simp [ha]
theorem b9s (d:List x8) (hl:d.length ≤ maxLen):∀ (xs:List x8) (i:Nat),d.drop i = xs → a4o d xs i = some (if allS d xs i = true then .go () else .ret false)
  | [],i,h => by rw [a4o]; simp [allS]
  | x :: xs,i,h => by
    rw [a4o,d8n d i x (c8v h) hl a6t b3e a5c b6k,Option.bind_some,b9s d hl xs (i + 1) (b2o h)]
    cases hs:c4y d i x <;> simp [allS,hs]
theorem c7h (d:List x8) (hl:d.length ≤ maxLen):a8x d = some (d1a d):=by
  unfold a8x d1a
  rw [b9s d hl d 0 (by simp)]
  cases allS d d 0 <;> simp
structure a6k (k:Int) (d:List x8):Prop where
  atom:∀ x ∈ d,a9k x = true ∧ x.Kind = k
  ord:∀ i x y,d[i]? = some x → d[i + 1]? = some y → a7c x y < 0
theorem a6k.allS {k:Int} {d:List x8} (h:a6k k d):allS d d 0 = true:=by
  rw [d1b]
  intro q x hq
  obtain ⟨h1,h2⟩:=h.atom x (List.mem_of_getElem? hq)
  have hlt:=(List.getElem?_eq_some_iff.1 hq).1
  obtain ⟨z,hz⟩:∃ z,d[0]? = some z:=⟨d[0],List.getElem?_eq_getElem (by omega)⟩
  obtain ⟨_,g2⟩:=h.atom z (List.mem_of_getElem? hz)
  unfold c4y
  simp only [Nat.zero_add,h1,hz,h2,g2,Bool.true_and,beq_self_eq_true]
  by_cases h0:q = 0
  · simp [h0]
  · obtain ⟨y,hy⟩:∃ y,d[q - 1]? = some y:=⟨d[q - 1],List.getElem?_eq_getElem (by omega)⟩
    have:=h.ord (q - 1) y x hy (by rw [show q - 1 + 1 = q from by omega]; exact hq)
    simp [hy,this]
theorem d5l (a:x8):a9y a = some (a9k a):=by
  unfold a9y a9k
  simp only [e7d,e1b,Option.bind_some]
  by_cases h1:a.Kind = 1
  · simp only [h1]
    by_cases c:(-1000000000 ≤ a.N ∧ a.N ≤ 1000000000) <;> by_cases d:a.T = [] <;> simp [c,d]
  by_cases h2:a.Kind = 2
  · simp only [h2]
    by_cases c:a.N = 0 <;> simp [c]
  by_cases h3:a.Kind = 3
  · simp only [h3]
    by_cases c:(0 ≤ a.N ∧ a.N ≤ 1) <;> by_cases d:a.T = [] <;> simp [c,d]
  by_cases h4:a.Kind = 4
  · simp only [h4]
    by_cases c:(1 ≤ a.N ∧ a.N ≤ 1000000) <;> by_cases d:a.T = [] <;> simp [c,d]
  · simp [h1,h2,h3,h4]
theorem b7j (d:List x8) (hl:d.length ≤ maxLen):∀ (xs:List x8) (i:Nat),d.drop i = xs → a4q d xs i = some (if allS d xs i = true then .go () else .ret false)
  | [],i,h => by rw [a4q]; simp [allS]
  | x :: xs,i,h => by
    rw [a4q,d8n d i x (c8v h) hl a9y d5l a6x d4m,Option.bind_some,b7j d hl xs (i + 1) (b2o h)]
    cases hs:c4y d i x <;> simp [allS,hs]
theorem d2q (d:List x8):b0l d = some (d1a d):=by
  unfold b0l d1a
  by_cases h:(d.length:Int) > 4096
  · rw [if_pos (by simpa using h)]
    have:¬ (d.length:Int) ≤ 8:=by omega
    simp [this]
  · rw [if_neg (by simpa using h),b7j d (by simp only [maxLen]; omega) d 0 (by simp)]
    cases allS d d 0 <;> simp
def isLet (c:Int):Bool:=(decide (97 ≤ c) && decide (c ≤ 122)) || (decide (65 ≤ c) && decide (c ≤ 90)) || c == 95
def d1c (c:Int):Bool:=decide (48 ≤ c) && decide (c ≤ 57)
theorem d5m (c:Int):b0p c = some (d1c c):=by
  unfold b0p d1c
  by_cases h1:48 ≤ c <;> simp [h1]
def c2z (b:UInt8):Bool:=isLet b.toNat || d1c b.toNat
def c1j (t:Str):Bool:=decide (1 ≤ t.length) && decide (t.length ≤ 40) && isLet (t.headD 0).toNat && (t.drop 1).all c2z
def d1d (p:UInt8 × Nat):Bool:=isLet p.1.toNat || (p.2 != 0 && d1c p.1.toNat)
theorem c2b:∀ (t:Str) (i:Nat),a5e t i = some (if (t.zipIdx i).all d1d then .go () else .ret false)
  | [],i => by rw [a5e]; rfl
  | c :: t,i => by
    have e0:((i:Int) == 0) = (i == 0):=by cases i <;> simp; omega
    rw [a5e,c2b t (i + 1),List.zipIdx_cons,List.all_cons,d5m,e0]
    unfold d1d isLet
    generalize (List.zipIdx t (i + 1)).all _ = A
    generalize d1c (c.toNat:Int) = D
    generalize (c.toNat:Int) = n
    by_cases h1:97 ≤ n <;> by_cases h2:n ≤ 122 <;> by_cases h3:65 ≤ n <;> by_cases h4:n ≤ 90 <;> by_cases h5:n = 95 <;> cases D <;> by_cases h0:i = 0 <;> simp [h1,h2,h3,h4,h5,h0]
theorem d8o (t:Str):b1v t = some (c1j t):=by
  unfold b1v c1j
  rw [c2b,Option.bind_some]
  have hz:∀ (r:Str) (k:Nat),(r.zipIdx (k + 1)).all d1d = r.all c2z:=by
    intro r
    induction r with
    | nil => intro k; rfl
    | cons c r ih => intro k; simp only [List.zipIdx_cons,List.all_cons,ih (k + 1)]; rfl
  cases t with
  | nil => simp [b9r]
  | cons c t =>
    rw [List.zipIdx_cons,List.all_cons,hz t 0]
    have hl:decide (1 ≤ (c :: t).length) = true:=decide_eq_true (by simp)
    have e:d1d (c,0) = isLet (c.toNat:Int):=by simp [d1d]
    rw [e,hl,b9r,Bool.decide_and]
    have e2:decide ((1:Int) ≤ ((c :: t).length:Int)) = true:=decide_eq_true (by simp only [List.length_cons]; omega)
    have e3:decide (((c :: t).length:Int) ≤ 40) = decide ((c :: t).length ≤ 40):=by rw [decide_eq_decide]; omega
    rw [e2,e3]
    show _ = some ((true && _ && isLet (c.toNat:Int)) && t.all c2z)
    cases isLet (c.toNat:Int) <;> cases t.all c2z <;> simp
theorem c4z {α:Type} (p:α → Bool):∀ l:List α,(l.any fun x => !p x) = !l.all p
  | [] => rfl
  | x :: l => by simp only [List.any_cons,List.all_cons,c4z p l,Bool.not_and]
def rowB (n:Nat) (r:b1r):Bool:=decide (r.Cells.length = n) && r.Cells.all d1a
def d2r (r:b1r):Prop:=∀ d ∈ r.Cells,d.length ≤ maxLen
theorem d5n (r:b1r) (n:Nat) (h:d2r r):b0s r n = some (rowB n r):=by
  unfold b0s rowB
  by_cases e:r.Cells.length = n
  · have e':((r.Cells.length:Int) == (n:Int)) = true:=by simp [e]
    rw [e',if_pos rfl,a7w _ (fun d => !d1a d) r.Cells (fun d hd => by unfold b0r; rw [c7h d (h d hd)]; rfl),c4z]
    simp [e]
  · have e':((r.Cells.length:Int) == (n:Int)) = false:=by simp; omega
    rw [e',if_neg (by simp)]
    simp [e]
structure b5l (s:a1h):Prop where
  code:∀ x ∈ s.Code,0 ≤ x ∧ x < 256
  len:(s.Code.length:Int) ≤ 1048576
  at0:0 ≤ s.At
  seed:0 ≤ s.Seed ∧ s.Seed < 2147483648
structure Nx (s s':a1h) (k:Int):Prop where
  ok:b5l s'
  lo:s.At ≤ s'.At
  hi:s'.At ≤ s.At + k
  code:s'.Code = s.Code
theorem Nx.refl {s:a1h} (h:b5l s):Nx s s 0:=⟨h,Int.le_refl _,by omega,rfl⟩
theorem Nx.mono {s s':a1h} {k l:Int} (h:Nx s s' k) (hl:k ≤ l):Nx s s' l:=⟨h.ok,h.lo,by have:=h.hi; omega,h.code⟩
theorem Nx.trans {a b c:a1h} {k l:Int} (h:Nx a b k) (g:Nx b c l):Nx a c (k + l):=⟨g.ok,by have:=h.lo; have:=g.lo; omega,by have:=h.hi; have:=g.hi; omega,g.code.trans h.code⟩
theorem b3n {a m:Int} (h:0 ≤ a) (hm:0 < m):0 ≤ a.tmod m ∧ a.tmod m < m:=⟨Int.tmod_nonneg _ h,Int.tmod_lt_of_pos _ hm⟩
theorem d4n {a m:Int} (h:0 ≤ a) (hm:0 < m):a.tdiv m = a / m:=by rw [Int.tdiv_eq_ediv_of_nonneg h]
theorem d1e (code:List Int) (hc:∀ x ∈ code,0 ≤ x ∧ x < 256) (hl:(code.length:Int) ≤ 1048576):∃ s,a4l code = some s ∧ b5l s ∧ s.At = 0 ∧ s.Code = code:=by
  refine ⟨_,rfl,⟨hc,hl,by simp,?_⟩,rfl,rfl⟩
  have:=b3n (a:=(code.length:Int)) (m:=1000) (by omega) (by omega)
  simp only; omega
theorem e1c (s:a1h) (h:b5l s) (ha:s.At < 2 ^ 50):∃ b s',a2t s = some (b,s') ∧ 0 ≤ b ∧ b < 256 ∧ Nx s s' 1:=by
  obtain ⟨h1,h2,h3,h4,h5⟩:=h
  unfold a2t
  rw [a3k (n:=s.At + 1) (by omega)]
  by_cases c:s.At + 1 ≤ (s.Code.length:Int)
  · rw [if_pos (by simpa using c)]
    obtain ⟨n,hn⟩:∃ n:Nat,s.At = (n:Int):=⟨s.At.toNat,by omega⟩
    have e1:w64 (s.At + 1 - 1) = (n:Int):=by rw [a3k (by omega)]; omega
    obtain ⟨x,hx⟩:∃ x,s.Code[n]? = some x:=⟨s.Code[n]'(by omega),List.getElem?_eq_getElem (by omega)⟩
    have hb:=h1 x (List.mem_of_getElem? hx)
    rw [e1,b1h,hx,Option.bind_some,Option.bind_some,a3k (n:=x) (by omega),a3k (n:=s.Seed * 31) (by omega),a3k (n:=s.Seed * 31 + x) (by omega),a3k (by omega)]
    have:=b3n (a:=s.Seed * 31 + x + 7) (m:=2147483648) (by omega) (by omega)
    exact ⟨x,_,rfl,hb.1,hb.2,⟨⟨h1,h2,by simp only; omega,this⟩,by simp only; omega,by simp only; omega,rfl⟩⟩
  · rw [if_neg (by simpa using c)]
    by_cases c2:s.At + 1 > 3000
    · rw [if_pos (by simpa using c2)]
      exact ⟨0,_,rfl,by omega,by omega,⟨⟨h1,h2,by simp only; omega,h4,h5⟩,by simp only; omega,by simp only; omega,rfl⟩⟩
    · rw [if_neg (by simpa using c2),a3k (n:=s.Seed * 1103515245) (by omega),a3k (n:=s.Seed * 1103515245 + 12345) (by omega)]
      have hs:=b3n (a:=s.Seed * 1103515245 + 12345) (m:=2147483648) (by omega) (by omega)
      have hq:=d4n (a:=(s.Seed * 1103515245 + 12345).tmod 2147483648) (m:=65536) hs.1 (by omega)
      rw [hq]
      have:w64 ((s.Seed * 1103515245 + 12345).tmod 2147483648 / 65536) = (s.Seed * 1103515245 + 12345).tmod 2147483648 / 65536:=a3k (by omega)
      rw [this]
      have hb:=b3n (a:=(s.Seed * 1103515245 + 12345).tmod 2147483648 / 65536) (m:=256) (by omega) (by omega)
      exact ⟨_,_,rfl,hb.1,hb.2,⟨⟨h1,h2,by simp only; omega,hs⟩,by simp only; omega,by simp only; omega,rfl⟩⟩
theorem b8d (n:Int) (s:a1h) (h:b5l s) (ha:s.At + 1 < 2 ^ 50) (h1:1 ≤ n) (h2:n ≤ 256):∃ v s',a1z n s = some (v,s') ∧ 0 ≤ v ∧ v < n ∧ Nx s s' 1:=by
  unfold a1z
  by_cases c:n ≤ 1
  · rw [if_pos (by simpa using c)]
    exact ⟨0,s,rfl,by omega,by omega,(Nx.refl h).mono (by omega)⟩
  · rw [if_neg (by simpa using c),if_pos (by simpa using h2)]
    obtain ⟨b,s',e,g1,g2,g3⟩:=e1c s h (by omega)
    rw [e,Option.bind_some,if_pos (by omega)]
    have:=b3n (a:=b) (m:=n) g1 (by omega)
    exact ⟨_,_,rfl,this.1,this.2,g3⟩
theorem d8p (n:Int) (s:a1h) (h:b5l s) (ha:s.At + 1 < 2 ^ 50) (h1:1 ≤ n) (h2:n ≤ 256):∃ v s',a5p n s = some (v,s') ∧ Nx s s' 1:=by
  unfold a5p
  obtain ⟨v,s',e,_,_,g⟩:=b8d n s h ha h1 h2
  rw [e,Option.bind_some]
  exact ⟨_,_,rfl,g⟩
theorem d5o (l:List Str) (s:a1h) (h:b5l s) (ha:s.At + 1 < 2 ^ 50) (h1:1 ≤ l.length) (h2:l.length ≤ 256):∃ t s',a4e l s = some (t,s') ∧ t ∈ l ∧ Nx s s' 1:=by
  unfold a4e
  rw [if_neg (by simp; intro hh; rw [hh] at h1; simp at h1)]
  obtain ⟨v,s',e,g1,g2,g⟩:=b8d l.length s h ha (by omega) (by omega)
  rw [e,Option.bind_some]
  obtain ⟨m,rfl⟩:∃ m:Nat,v = (m:Int):=⟨v.toNat,by omega⟩
  simp only
  obtain ⟨x,hx⟩:∃ x,l[m]? = some x:=⟨l[m]'(by omega),List.getElem?_eq_getElem (by omega)⟩
  rw [b1h,hx,Option.bind_some]
  exact ⟨x,s',rfl,List.mem_of_getElem? hx,g⟩
theorem c5a (x y:x8):(x.Kind == y.Kind && (x.N == y.N && (x.T == y.T && true))) = decide (x = y):=by
  cases x; cases y
  rw [Bool.eq_iff_iff]
  simp
theorem d1f (a:x8):∀ d:List x8,a5b a d = some (if a ∈ d then .ret true else .go ())
  | [] => by rw [a5b]; simp
  | x :: xs => by
    rw [a5b,c5a,d1f a xs]
    by_cases h:x = a
    · subst h; simp
    · simp [h,Ne.symm h]
theorem e5v (d:List x8) (a:x8):b1s d a = some (decide (a ∈ d)):=by
  unfold b1s
  rw [d1f]
  by_cases h:a ∈ d <;> simp [h]
theorem c7i (d:List x8) (a:x8):∀ (n k:Nat),n < k → n ≤ d.length → d.length ≤ 2 ^ 29 → ∃ m:Nat,a3t d a k n = some (m:Int) ∧ m ≤ n ∧ (∀ x,0 < m → d[m - 1]? = some x → a7c x a ≤ 0) ∧ (∀ j x,m ≤ j → j < n → d[j]? = some x → 0 < a7c x a)
  | _,0,h,_,_ => by omega
  | 0,k + 1,_,_,_ => by
    refine ⟨0,?_,by omega,by omega,by omega⟩
    rw [a3t,if_neg (by simp),Option.bind_some,if_neg (by simp)]
  | n + 1,k + 1,h,hn,hl => by
    obtain ⟨y,hy⟩:∃ y,d[n]? = some y:=⟨d[n],List.getElem?_eq_getElem (by omega)⟩
    have ew:w64 (((n + 1:Nat):Int) - 1) = (n:Int):=by rw [a3k (by omega)]; omega
    rw [a3t,if_pos (by simp),ew,if_pos (show (0:Int) ≤ (n:Int) ∧ (n:Int) < (d.length:Int) by omega),show 0 + (n:Int).toNat = n by omega,hy,Option.bind_some,d4m,Option.bind_some,Option.bind_some]
    by_cases hc:a7c y a > 0
    · rw [if_pos (by simpa using hc)]
      obtain ⟨m,e,h1,h2,h3⟩:=c7i d a n k (by omega) (by omega) hl
      refine ⟨m,e,by omega,h2,fun j x hj1 hj2 hx => ?_⟩
      by_cases hjn:j = n
      · subst hjn; rw [hy] at hx; rw [← Option.some.inj hx]; exact hc
      · exact h3 j x hj1 (by omega) hx
    · rw [if_neg (by simpa using hc)]
      refine ⟨n + 1,rfl,by omega,fun x _ hx => ?_,by omega⟩
      rw [show n + 1 - 1 = n from by omega,hy] at hx
      rw [← Option.some.inj hx]; omega
theorem d4o (d:List x8) (a:x8) (k i:Nat) (hk:k ≤ d.length):(d.take k ++ a :: d.drop k)[i]? = if i < k then d[i]? else if i = k then some a else d[i - 1]?:=by
  by_cases h1:i < k
  · rw [if_pos h1,List.getElem?_append_left (by simp; omega),List.getElem?_take_of_lt h1]
  · rw [if_neg h1,List.getElem?_append_right (by simp; omega)]
    have hl:(d.take k).length = k:=by simp; omega
    rw [hl]
    by_cases h2:i = k
    · subst h2; simp
    · rw [if_neg h2,show i - k = (i - k - 1) + 1 from by omega,List.getElem?_cons_succ,List.getElem?_drop]
      congr 1; omega
theorem e1d (k:Int) (d:List x8) (a:x8) (hs:a6k k d) (ha:a9k a = true) (hk:a.Kind = k) (hl:d.length < 2 ^ 29):∃ d',a8o d a = some d' ∧ a6k k d' ∧ (∀ x,x ∈ d' ↔ x = a ∨ x ∈ d) ∧ d'.length ≤ d.length + 1:=by
  have hf:2 ^ 40 < FUEL:=by unfold FUEL; decide
  unfold a8o
  rw [e5v,Option.bind_some]
  by_cases hm:a ∈ d
  · rw [if_pos (by simpa using hm)]
    exact ⟨d,rfl,hs,fun x => ⟨.inr,fun h => h.elim (fun h => h ▸ hm) id⟩,by omega⟩
  · rw [if_neg (by simpa using hm)]
    obtain ⟨m,e,h1,h2,h3⟩:=c7i d a d.length FUEL (by omega) (by omega) (by omega)
    have et:(d.drop (m:Int).toNat).take (d.length - (m:Int).toNat) = d.drop (m:Int).toNat:=List.take_of_length_le (by simp)
    rw [e,Option.bind_some,et,if_pos (by omega),if_pos (by omega),if_pos (by simp; omega),if_pos (by simp; omega),if_pos (by simp; omega)]
    simp only [List.nil_append,Int.toNat_natCast,List.append_assoc,List.cons_append,List.nil_append]
    refine ⟨_,rfl,⟨?_,?_⟩,?_,by simp; omega⟩
    · intro x hx
      simp only [List.mem_append,List.mem_cons] at hx
      rcases hx with hx | rfl | hx
      · exact hs.atom x (List.mem_of_mem_take hx)
      · exact ⟨ha,hk⟩
      · exact hs.atom x (List.mem_of_mem_drop hx)
    · intro i x y hx hy
      rw [d4o d a m i h1] at hx
      rw [d4o d a m (i + 1) h1] at hy
      by_cases c1:i + 1 < m
      · rw [if_pos (by omega)] at hx
        rw [if_pos c1] at hy
        exact hs.ord i x y hx hy
      · rw [if_neg c1] at hy
        by_cases c2:i + 1 = m
        · rw [if_pos c2] at hy
          rw [if_pos (by omega)] at hx
          have e1:=Option.some.inj hy
          subst e1
          have:=h2 x (by omega) (by rw [show m - 1 = i from by omega]; exact hx)
          have hne:a7c x a ≠ 0:=fun h => hm (by rw [← (b2q x a).1 h]; exact List.mem_of_getElem? hx)
          omega
        · rw [if_neg c2] at hy
          rw [if_neg (by omega)] at hx
          by_cases c3:i = m
          · rw [if_pos c3] at hx
            have e1:=Option.some.inj hx
            subst e1
            rw [show i + 1 - 1 = i from by omega] at hy
            have:=h3 i y (by omega) (List.getElem?_eq_some_iff.1 hy).1 hy
            have:=c7g y a
            omega
          · rw [if_neg c3] at hx
            exact hs.ord (i - 1) x y hx (by rw [show i - 1 + 1 = i + 1 - 1 from by omega]; exact hy)
    · intro x
      have:x ∈ d ↔ x ∈ d.take m ∨ x ∈ d.drop m:=by rw [← List.mem_append,List.take_append_drop]
      simp only [List.mem_append,List.mem_cons,this]
      constructor
      · rintro (h | h | h)
        · exact .inr (.inl h)
        · exact .inl h
        · exact .inr (.inr h)
      · rintro (h | h | h)
        · exact .inr (.inl h)
        · exact .inl h
        · exact .inr (.inr h)
theorem c7j (b:List x8):∀ (xs:List x8) (i:Nat),b.drop i = xs → a3x b xs i = some (.go ())
  | [],i,_ => by rw [a3x]
  | x :: xs,i,h => by
    rw [a3x,b9f h,Option.bind_some,c5a,if_neg (by simp),c7j b xs (i + 1) (b2o h)]
theorem d8q (d:List x8):a7o d d = some true:=by
  unfold a7o
  rw [if_neg (by simp),c7j d d 0 (by simp)]
  rfl
theorem d8r {n:Int}:okI .u8 n ↔ 0 ≤ n ∧ n ≤ 255:=by
  have h1:IntKind.u8.min = 0:=by decide
  have h2:IntKind.u8.max = 255:=by decide
  simp [okI,Lit.wf,h1,h2]
theorem b8e:∀ a b c:Str,Lib.compareBytes a b < 0 → Lib.compareBytes b c < 0 → Lib.compareBytes a c < 0
  | [],[],c => by intro h; simp [Lib.compareBytes] at h
  | [],_ :: _,[] => by intro _ h; simp [Lib.compareBytes] at h
  | [],_ :: _,_ :: _ => by intro _ _; simp [Lib.compareBytes]
  | _ :: _,[],c => by intro h; simp [Lib.compareBytes] at h
  | _ :: _,_ :: _,[] => by intro _ h; simp [Lib.compareBytes] at h
  | a :: xs,b :: ys,c :: zs => by
    have ih:=b8e xs ys zs
    unfold Lib.compareBytes
    rcases c1g a b with h | h | h
    · rcases c1g b c with g | g | g
      · have:a < c:=by simp only [UInt8.lt_iff_toNat_lt] at *; omega
        simp [this]
      · subst g; simp [h]
      · simp [h,g,b4v g]
    · subst h
      rcases c1g a c with g | g | g
      · simp [g]
      · subst g; simp only [UInt8.lt_irrefl,if_false]; exact ih
      · simp [g,b4v g]
    · simp [h,b4v h]
theorem b4w {a b c:x8} (h:a7c a b < 0) (g:a7c b c < 0):a7c a c < 0:=by
  unfold a7c at *
  by_cases k1:a.Kind = b.Kind
  · by_cases k2:b.Kind = c.Kind
    · have k3:a.Kind = c.Kind:=k1.trans k2
      simp only [k1,k2,k3,ne_eq,not_true_eq_false,if_false] at *
      by_cases n1:a.N = b.N
      · by_cases n2:b.N = c.N
        · have n3:a.N = c.N:=n1.trans n2
          simp only [n1,n2,n3,ne_eq,not_true_eq_false,if_false] at *
          exact b8e _ _ _ h g
        · have n3:¬ a.N = c.N:=fun e => n2 (n1.symm.trans e)
          simp only [n1,n2,ne_eq,not_true_eq_false,not_false_eq_true,if_false,if_true] at *
          split at g <;> simp_all
      · by_cases n2:b.N = c.N
        · have n3:¬ a.N = c.N:=fun e => n1 (e.trans n2.symm)
          simp only [n1,n2,n3,ne_eq,not_true_eq_false,not_false_eq_true,if_false,if_true] at *
          split at h <;> simp_all
        · simp only [n1,n2,ne_eq,not_false_eq_true,if_true] at h g
          have h':a.N < b.N:=by split at h <;> first | assumption | omega
          have g':b.N < c.N:=by split at g <;> first | assumption | omega
          have n3:¬ a.N = c.N:=by omega
          have n4:a.N < c.N:=by omega
          simp [n3,n4]
    · have k3:¬ a.Kind = c.Kind:=fun e => k2 (k1.symm.trans e)
      simp only [k2,ne_eq,not_false_eq_true,if_true] at g
      have g':b.Kind < c.Kind:=by split at g <;> first | assumption | omega
      have:a.Kind < c.Kind:=by omega
      simp [k3,this]
  · simp only [k1,ne_eq,not_false_eq_true,if_true] at h
    have h':a.Kind < b.Kind:=by split at h <;> first | assumption | omega
    by_cases k2:b.Kind = c.Kind
    · have k3:¬ a.Kind = c.Kind:=fun e => k1 (e.trans k2.symm)
      have:a.Kind < c.Kind:=by omega
      simp [k3,this]
    · simp only [k2,ne_eq,not_false_eq_true,if_true] at g
      have g':b.Kind < c.Kind:=by split at g <;> first | assumption | omega
      have k3:¬ a.Kind = c.Kind:=by omega
      have:a.Kind < c.Kind:=by omega
      simp [k3,this]
theorem b6l (a:x8):¬ a7c a a < 0:=by have:=(b2q a a).2 rfl; omega
def b0y (d:List x8):Prop:=d.Pairwise fun a b => a7c a b < 0
theorem b7k:∀ (d:List x8),(∀ i x y,d[i]? = some x → d[i + 1]? = some y → a7c x y < 0) → b0y d
  | [],_ => .nil
  | [a],_ => List.pairwise_singleton _ _
  | a :: b :: l,h => by
    have ih:b0y (b :: l):=b7k (b :: l) (fun i x y hx hy => h (i + 1) x y (by simpa using hx) (by simpa using hy))
    have hab:a7c a b < 0:=h 0 a b rfl rfl
    refine List.pairwise_cons.2 ⟨fun c hc => ?_,ih⟩
    rcases List.mem_cons.1 hc with rfl | hc
    · exact hab
    · exact b4w hab ((List.pairwise_cons.1 ih).1 c hc)
theorem b0y.adj {d:List x8} (h:b0y d):∀ i x y,d[i]? = some x → d[i + 1]? = some y → a7c x y < 0:=by
  intro i x y hx hy
  obtain ⟨hi,rfl⟩:=List.getElem?_eq_some_iff.1 hx
  obtain ⟨hj,rfl⟩:=List.getElem?_eq_some_iff.1 hy
  exact List.pairwise_iff_getElem.1 h i (i + 1) hi hj (by omega)
theorem b0y.ext:∀ {a b:List x8},b0y a → b0y b → (∀ x,x ∈ a ↔ x ∈ b) → a = b
  | [],[],_,_,_ => rfl
  | [],y :: _,_,_,h => absurd ((h y).2 (by simp)) (by simp)
  | x :: _,[],_,_,h => absurd ((h x).1 (by simp)) (by simp)
  | x :: xs,y :: ys,ha,hb,h => by
    obtain ⟨ha1,ha2⟩:=List.pairwise_cons.1 ha
    obtain ⟨hb1,hb2⟩:=List.pairwise_cons.1 hb
    have hxy:x = y:=by
      rcases List.mem_cons.1 ((h x).1 (by simp)) with e | e
      · exact e
      · rcases List.mem_cons.1 ((h y).2 (by simp)) with e' | e'
        · exact e'.symm
        · exact absurd (b4w (ha1 y e') (hb1 x e)) (b6l _)
    subst hxy
    refine congrArg (x :: ·) (b0y.ext ha2 hb2 (fun z => ?_))
    have hz:=h z
    simp only [List.mem_cons] at hz
    constructor
    · intro q
      rcases hz.1 (.inr q) with e | e
      · subst e; exact absurd (ha1 z q) (b6l _)
      · exact e
    · intro q
      rcases hz.2 (.inr q) with e | e
      · subst e; exact absurd (hb1 z q) (b6l _)
      · exact e
theorem a6k.strict {k:Int} {d:List x8} (h:a6k k d):b0y d:=b7k d h.ord
theorem a6k.of {k:Int} {d:List x8} (h1:∀ x ∈ d,a9k x = true ∧ x.Kind = k) (h2:b0y d):a6k k d:=⟨h1,h2.adj⟩
def d1g (d:List x8):Prop:=d.Pairwise fun a b => a7c a b ≤ 0
theorem c6a {a b c:x8} (h:a7c a b ≤ 0) (g:a7c b c ≤ 0):a7c a c ≤ 0:=by
  by_cases h0:a7c a b = 0
  · rw [(b2q a b).1 h0]; exact g
  · by_cases g0:a7c b c = 0
    · rw [← (b2q b c).1 g0]; exact h
    · have:=b4w (a:=a) (b:=b) (c:=c) (by omega) (by omega); omega
def dd:x8 → List x8 → List x8
  | _,[] => []
  | a,z :: t => if z = a then dd a t else z :: dd z t
theorem c9a (x:x8):∀ (t:List x8) (a:x8),x ∈ a :: dd a t ↔ x ∈ a :: t
  | [],a => by simp [dd]
  | z :: t,a => by
    unfold dd
    by_cases e:z = a
    · subst e; rw [if_pos rfl,c9a x t z]; simp
    · rw [if_neg e,List.mem_cons,c9a x t z,List.mem_cons (a:=x) (b:=a)]
theorem c5b:∀ (t:List x8) (a:x8),(dd a t).length ≤ t.length
  | [],a => by simp [dd]
  | z :: t,a => by
    unfold dd
    have h1:=c5b t a
    have h2:=c5b t z
    by_cases e:z = a
    · rw [if_pos e]; simp only [List.length_cons]; omega
    · rw [if_neg e]; simp only [List.length_cons]; omega
theorem c1k:∀ (t:List x8) (a:x8),d1g (a :: t) → b0y (a :: dd a t)
  | [],a,_ => List.pairwise_singleton _ _
  | z :: t,a,h => by
    obtain ⟨h1,h2⟩:=List.pairwise_cons.1 h
    unfold dd
    by_cases e:z = a
    · subst e; rw [if_pos rfl]; exact c1k t z h2
    · rw [if_neg e]
      have haz:a7c a z < 0:=by
        have:=h1 z (by simp)
        have h0:a7c a z ≠ 0:=fun q => e ((b2q a z).1 q).symm
        omega
      refine List.pairwise_cons.2 ⟨fun c hc => ?_,c1k t z h2⟩
      have hc':=(c9a c t z).1 hc
      rcases List.mem_cons.1 hc' with rfl | hc'
      · exact haz
      · have hzc:=(List.pairwise_cons.1 h2).1 c hc'
        by_cases hz:a7c z c = 0
        · rw [← (b2q z c).1 hz]; exact haz
        · exact b4w haz (by omega)
theorem c7k:∀ n:Fin 13,(a6z (IntKind.u64.wrap ((n.val:Nat):Int))).isSome = true:=by decide +kernel
theorem a9q {α:Type} (p s:List α) (x:α):(p ++ x :: s)[p.length]? = some x:=by simp
theorem b3o {α:Type} (p s:List α) (x y:α):(p ++ x :: s).set p.length y = p ++ y :: s:=by
  rw [List.set_append_right _ _ (Nat.le_refl _),Nat.sub_self,List.set_cons_zero]
theorem b3p:2 ^ 40 < FUEL:=by unfold FUEL; decide
theorem d1h:∀ (pr:List x8) (k:Nat) (x:x8) (s:List x8),pr.length < k → pr.length + s.length + 1 ≤ 2 ^ 20 → d1g pr.reverse → ∃ p1 p2:List x8,pr.reverse = p1 ++ p2 ∧ a0v 0 k (pr.length:Int) (pr.reverse ++ x :: s) = some (p1 ++ x :: (p2 ++ s)) ∧ (∀ y ∈ p2,a7c x y < 0) ∧ (∀ y ∈ p1,a7c y x ≤ 0)
  | _,0,_,_,h,_,_ => by omega
  | [],k + 1,x,s,_,hl,_ => by
    refine ⟨[],[],rfl,?_,by simp,by simp⟩
    rw [a0v]
    rfl
  | y :: pr,k + 1,x,s,hk,hl,hw => by
    simp only [List.length_cons] at hk hl
    have er:(y :: pr).reverse = pr.reverse ++ [y]:=by simp
    rw [er] at hw
    have hw':d1g pr.reverse:=(List.pairwise_append.1 hw).1
    have hy:∀ z ∈ pr.reverse,a7c z y ≤ 0:=fun z hz => (List.pairwise_append.1 hw).2.2 z hz y (by simp)
    have el:(pr.reverse ++ [y]).length = pr.length + 1:=by simp
    have ed:(pr.reverse ++ [y] ++ x :: s) = pr.reverse ++ y :: x :: s:=by simp
    have e1:decide (((y :: pr).length:Int) > 0) = true:=decide_eq_true (by simp only [List.length_cons]; omega)
    have e2:w64 (((y :: pr).length:Int) - 1) = ((pr.length:Nat):Int):=by rw [a3k (by simp only [List.length_cons]; omega)]; simp only [List.length_cons]; omega
    have g1:(pr.reverse ++ y :: x :: s)[0 + (((y :: pr).length:Nat):Int).toNat]? = some x:=by
      have:=a9q (pr.reverse ++ [y]) s x
      rw [el,ed] at this
      simpa using this
    have g2:(pr.reverse ++ y :: x :: s)[0 + ((pr.length:Nat):Int).toNat]? = some y:=by
      have:=a9q pr.reverse (x :: s) y
      rw [List.length_reverse] at this
      simpa using this
    have b1:0 ≤ (((y :: pr).length:Nat):Int) ∧ (((y :: pr).length:Nat):Int) < ((pr.reverse ++ y :: x :: s).length:Int):=by simp; omega
    have b2:0 ≤ ((pr.length:Nat):Int) ∧ ((pr.length:Nat):Int) < ((pr.reverse ++ y :: x :: s).length:Int):=by simp; omega
    have ss:(pr.reverse ++ y :: x :: s).set (0 + (((y :: pr).length:Nat):Int).toNat) y = pr.reverse ++ y :: y :: s:=by
      have:=b3o (pr.reverse ++ [y]) s x y
      rw [el] at this
      simpa using this
    have s2:(pr.reverse ++ y :: y :: s).set (0 + ((pr.length:Nat):Int).toNat) x = pr.reverse ++ x :: y :: s:=by
      have:=b3o pr.reverse (y :: s) y x
      rw [List.length_reverse] at this
      simpa using this
    have g3:(pr.reverse ++ y :: y :: s)[0 + ((pr.length:Nat):Int).toNat]? = some y:=by
      have:=a9q pr.reverse (y :: s) y
      rw [List.length_reverse] at this
      simpa using this
    rw [a0v,er,ed,if_pos e1,if_pos b1,g1,Option.bind_some,e2,if_pos b2,g2,Option.bind_some,b6k,Option.bind_some,Option.bind_some]
    by_cases c:a7c x y < 0
    · rw [if_pos (by simpa using c),if_pos b2,Option.bind_some,if_pos b1,Option.bind_some,if_pos b1,if_pos b2,ss,g3,Option.bind_some,s2]
      obtain ⟨p1,p2,h1,h2,h3,h4⟩:=d1h pr k x (y :: s) (by omega) (by simp only [List.length_cons]; omega) hw'
      refine ⟨p1,p2 ++ [y],by rw [h1,List.append_assoc],by rw [h2]; simp,fun z hz => ?_,h4⟩
      rcases List.mem_append.1 hz with hz | hz
      · exact h3 z hz
      · simp only [List.mem_singleton] at hz; subst hz; exact c
    · rw [if_neg (by simpa using c)]
      refine ⟨pr.reverse ++ [y],[],by simp,by simp,by simp,fun z hz => ?_⟩
      have hyx:a7c y x ≤ 0:=by have:=c7g x y; omega
      rcases List.mem_append.1 hz with hz | hz
      · exact c6a (hy z hz) hyx
      · simp only [List.mem_singleton] at hz; subst hz; exact hyx
theorem d1i:∀ (s pre:List x8) (k:Nat),s.length < k → pre.length + s.length ≤ 2 ^ 19 → d1g pre → ∃ d,a0o (((pre ++ s).length:Nat):Int) 0 k (pre.length:Int) (pre ++ s) = some d ∧ d1g d ∧ d.Perm (pre ++ s)
  | _,_,0,h,_,_ => by omega
  | [],pre,k + 1,_,_,hw => by
    refine ⟨pre,?_,hw,by simp⟩
    rw [a0o,if_neg (by simp)]
    simp
  | x :: s,pre,k + 1,hk,hl,hw => by
    simp only [List.length_cons] at hk hl
    have hf:=b3p
    rw [a0o,if_pos (by simp; omega)]
    obtain ⟨p1,p2,h1,h2,h3,h4⟩:=d1h pre.reverse FUEL x s (by simp; omega) (by simp; omega) (by simpa using hw)
    rw [List.reverse_reverse] at h1 h2
    rw [List.length_reverse] at h2
    rw [h2,Option.bind_some]
    have hw1:d1g (p1 ++ x :: p2):=by
      rw [h1] at hw
      obtain ⟨a1,a2,a3⟩:=List.pairwise_append.1 hw
      refine List.pairwise_append.2 ⟨a1,List.pairwise_cons.2 ⟨fun z hz => ?_,a2⟩,fun z hz w hw' => ?_⟩
      · have:=h3 z hz; omega
      · rcases List.mem_cons.1 hw' with rfl | hw'
        · exact h4 z hz
        · exact a3 z hz w hw'
    have el:(p1 ++ x :: p2).length = pre.length + 1:=by rw [h1]; simp; omega
    have e1:w64 ((pre.length:Int) + 1) = (((p1 ++ x :: p2).length:Nat):Int):=by rw [a3k (by omega),el]; omega
    have e2:p1 ++ x :: (p2 ++ s) = (p1 ++ x :: p2) ++ s:=by simp
    have e3:(pre ++ x :: s).length = ((p1 ++ x :: p2) ++ s).length:=by rw [show ((p1 ++ x :: p2) ++ s).length = (p1 ++ x :: p2).length + s.length from List.length_append,el]; simp; omega
    obtain ⟨d,g1,g2,g3⟩:=d1i s (p1 ++ x :: p2) k (by omega) (by omega) hw1
    refine ⟨d,?_,g2,g3.trans ?_⟩
    · rw [e1,e2,e3]; exact g1
    · rw [h1,List.append_assoc,List.append_assoc]
      refine List.Perm.append_left p1 ?_
      rw [List.cons_append]
      exact (List.perm_middle (a:=x) (l₁:=p2) (l₂:=s)).symm
theorem e5w (l:List x8) (h:l.length ≤ 2 ^ 19):∃ d,a1w l 0 (l.length:Int) = some d ∧ d1g d ∧ d.Perm l:=by
  have hf:=b3p
  unfold a1w
  cases l with
  | nil =>
    refine ⟨[],?_,.nil,List.Perm.refl _⟩
    obtain ⟨k,hk⟩:∃ k,FUEL = k + 1:=⟨FUEL - 1,by omega⟩
    rw [hk,a0o]
    rfl
  | cons x s =>
    simp only [List.length_cons] at h
    have:=d1i s [x] FUEL (by omega) (by simp; omega) (List.pairwise_singleton _ _)
    have ew:w64 (0 + 1) = 1:=by decide
    rw [ew]
    simpa using this
theorem d2s (l:List x8) (h:l.length ≤ 12):∃ d,a2d l = some d ∧ d1g d ∧ d.Perm l:=by
  have hf:=b3p
  obtain ⟨d,e,h1,h2⟩:=e5w l (by omega)
  refine ⟨d,?_,h1,h2⟩
  have hb:=c7k ⟨l.length,by omega⟩
  unfold a2d
  obtain ⟨n,hn⟩:=Option.isSome_iff_exists.1 hb
  have hn':a6z (IntKind.u64.wrap (l.length:Int)) = some n:=hn
  obtain ⟨k,hk⟩:∃ k,FUEL = k + 1:=⟨FUEL - 1,by omega⟩
  have e2:a1p FUEL l 0 (l.length:Int) n = some d:=by
    rw [hk,a1p]
    unfold a3g
    rw [hk,a1m,if_pos (by rw [a3k (by omega)]; simp; omega),e,Option.bind_some]
  rw [hn',Option.bind_some,e2,Option.bind_some]
theorem b9t (s0:List x8) (k0:Nat):∀ (t c g:List x8) (y:x8) (k k2:Nat),t.length < k → (c ++ (g ++ y :: t)).length = s0.length → c.length + g.length + 1 = k0 + k2 → s0.length ≤ 2 ^ 20 → 1 ≤ k2 → ∃ R,a0n s0 k0 k (c.length:Int) (k2:Int) (c ++ (g ++ y :: t)) = some ((((c ++ dd y t).length:Nat):Int),R) ∧ R.length = s0.length ∧ R.take (c ++ dd y t).length = c ++ dd y t
  | _,_,_,_,0,_,h,_,_,_,_ => by omega
  | [],c,g,y,k + 1,k2,_,hn,hp,hl,h2 => by
    refine ⟨c ++ (g ++ [y]),?_,hn,by simp [dd]⟩
    simp only [List.length_append,List.length_cons,List.length_nil] at hn
    rw [a0n,if_neg (by simp; omega)]
    simp [dd]
  | z :: t,c,g,y,k + 1,k2,hk,hn,hp,hl,h2 => by
    have hn0:=hn
    simp only [List.length_append,List.length_cons] at hn hk
    have e1:decide ((k2:Int) < (((s0.length - k0):Nat):Int)) = true:=decide_eq_true (by omega)
    have b1:0 ≤ (k2:Int) ∧ (k2:Int) < (((s0.length - k0):Nat):Int):=by omega
    have e2:w64 ((k2:Int) - 1) = ((k2 - 1:Nat):Int):=by rw [a3k (by omega)]; omega
    have b2:0 ≤ ((k2 - 1:Nat):Int) ∧ ((k2 - 1:Nat):Int) < (((s0.length - k0):Nat):Int):=by omega
    have g1:(c ++ (g ++ y :: z :: t))[k0 + ((k2:Nat):Int).toNat]? = some z:=by
      have:=a9q (c ++ g ++ [y]) t z
      have el:(c ++ g ++ [y]).length = k0 + k2:=by simp; omega
      rw [el] at this
      simpa using this
    have g2:(c ++ (g ++ y :: z :: t))[k0 + ((k2 - 1:Nat):Int).toNat]? = some y:=by
      have:=a9q (c ++ g) (z :: t) y
      have el:(c ++ g).length = k0 + (k2 - 1):=by simp; omega
      rw [el] at this
      simpa using this
    have e3:w64 ((k2:Int) + 1) = ((k2 + 1:Nat):Int):=by rw [a3k (by omega)]; omega
    rw [a0n,if_pos e1,if_pos b1,g1,Option.bind_some,e2,if_pos b2,g2,Option.bind_some,c5a,e3]
    by_cases e:z = y
    · subst e
      rw [if_neg (by simp)]
      have ed:dd z (z :: t) = dd z t:=by rw [dd,if_pos rfl]
      have ec:c ++ (g ++ z :: z :: t) = c ++ ((g ++ [z]) ++ z :: t):=by simp
      rw [ed,ec]
      exact b9t s0 k0 t c (g ++ [z]) z k (k2 + 1) (by omega) (by rw [← ec]; exact hn0) (by simp; omega) hl (by omega)
    · have ed:dd y (z :: t) = z :: dd z t:=by rw [dd,if_neg e]
      have b3:0 ≤ (c.length:Int) ∧ (c.length:Int) < ((c ++ (g ++ y :: z :: t)).length:Int):=by simp; omega
      have g3:∃ w,(c ++ (g ++ y :: z :: t))[0 + ((c.length:Nat):Int).toNat]? = some w:=⟨_,List.getElem?_eq_getElem (by simp; omega)⟩
      obtain ⟨w,hw⟩:=g3
      have e4:w64 ((c.length:Int) + 1) = (((c ++ [z]).length:Nat):Int):=by rw [a3k (by omega)]; simp
      rw [if_pos (by simp [e]),if_pos b1,if_pos b3,hw,Option.bind_some,e4,ed]
      have ex:c ++ z :: dd z t = (c ++ [z]) ++ dd z t:=by simp
      rw [ex]
      cases g with
      | nil =>
        have es:(c ++ ([] ++ y :: z :: t)).set (0 + ((c.length:Nat):Int).toNat) z = (c ++ [z]) ++ ([] ++ z :: t):=by
          have:=b3o c (z :: t) y z
          simpa using this
        rw [es]
        exact b9t s0 k0 t (c ++ [z]) [] z k (k2 + 1) (by omega) (by simp at hn ⊢; omega) (by simp at hp ⊢; omega) hl (by omega)
      | cons g0 g' =>
        have es:(c ++ (g0 :: g' ++ y :: z :: t)).set (0 + ((c.length:Nat):Int).toNat) z = (c ++ [z]) ++ ((g' ++ [y]) ++ z :: t):=by
          have:=b3o c (g' ++ y :: z :: t) g0 z
          simpa using this
        rw [es]
        exact b9t s0 k0 t (c ++ [z]) (g' ++ [y]) z k (k2 + 1) (by omega) (by simp at hn ⊢; omega) (by simp at hp ⊢; omega) hl (by omega)
theorem d1j (s:List x8) (hl:s.length ≤ 2 ^ 20):∀ (xs pre:List x8) (y:x8),s = pre ++ y :: xs → a0t s xs (pre.length + 1) = some (if dd y xs = xs then .go () else .ret (pre ++ y :: dd y xs))
  | [],pre,y,_ => by rw [a0t]; simp [dd]
  | x :: xs,pre,y,hs => by
    have hn:s.length = pre.length + 1 + 1 + xs.length:=by rw [hs]; simp; omega
    have e1:w64 ((((pre.length + 1:Nat)):Int) - 1) = ((pre.length:Nat):Int):=by rw [a3k (by omega)]; omega
    have g1:s[0 + ((pre.length:Nat):Int).toNat]? = some y:=by
      have:=a9q pre (x :: xs) y
      rw [← hs] at this
      simpa using this
    have es:s = (pre ++ [y]) ++ x :: xs:=by rw [hs]; simp
    rw [a0t,if_pos (by omega),e1,if_pos (by omega),g1,Option.bind_some,c5a]
    by_cases e:x = y
    · subst e
      have ed:dd x (x :: xs) = dd x xs:=by rw [dd,if_pos rfl]
      have hne:¬ dd x (x :: xs) = x :: xs:=by
        rw [ed]; intro h
        have:=c5b xs x
        rw [h] at this
        simp only [List.length_cons] at this
        omega
      have hf:=b3p
      rw [if_pos (by simp),if_pos (by omega),if_neg hne,ed]
      obtain ⟨R,h1,h2,h3⟩:=b9t s (pre.length + 1) xs (pre ++ [x]) [] x FUEL 1 (by omega) (by rw [es]; simp) (by simp) hl (by omega)
      have ec:((pre ++ [x]) ++ ([] ++ x :: xs)) = s:=by rw [es]; simp
      have el:(((pre ++ [x]).length:Nat):Int) = ((pre.length + 1:Nat):Int):=by simp
      have h1':a0n s (pre.length + 1) FUEL ((pre.length + 1:Nat):Int) 1 s = some ((((pre ++ [x] ++ dd x xs).length:Nat):Int),R):=by
        rw [ec,el] at h1; exact h1
      rw [h1',Option.bind_some]
      have hle:(pre ++ [x] ++ dd x xs).length ≤ R.length:=by have:=c5b xs x; rw [h2,hn]; simp; omega
      simp only
      rw [if_pos (by omega),if_pos (by omega)]
      have et:(R.take (((pre ++ [x] ++ dd x xs).length:Nat):Int).toNat) = pre ++ x :: dd x xs:=by
        rw [Int.toNat_natCast,h3]; simp
      rw [et]
      have el2:(((pre ++ [x] ++ dd x xs).length:Nat):Int).toNat = (pre ++ x :: dd x xs).length:=by rw [Int.toNat_natCast]; simp
      rw [el2,List.append_assoc,List.take_left']
      rfl
    · have ed:dd y (x :: xs) = x :: dd x xs:=by rw [dd,if_neg e]
      have e2:pre.length + 1 + 1 = (pre ++ [y]).length + 1:=by simp
      rw [if_neg (by simp [e]),e2,d1j s hl xs (pre ++ [y]) x es,ed]
      by_cases q:dd x xs = xs
      · rw [if_pos q,if_pos (by rw [q])]
      · rw [if_neg q,if_neg (by simpa using q)]
        simp
def c7l:List x8 → List x8
  | [] => []
  | a :: t => a :: dd a t
theorem d5p (s:List x8) (hl:s.length ≤ 2 ^ 20):a2f s = some (c7l s):=by
  unfold a2f
  cases s with
  | nil => rfl
  | cons a t =>
    cases t with
    | nil => rfl
    | cons b t =>
      rw [if_neg (by simp; omega)]
      have:=d1j (a :: b :: t) hl (b :: t) [] a rfl
      have e:a0t (a :: b :: t) ((a :: b :: t).drop 1) 1 = _:=this
      rw [e]
      by_cases q:dd a (b :: t) = b :: t
      · rw [if_pos q,c7l,q]; rfl
      · rw [if_neg q,c7l]; rfl
theorem d9y (l:List x8) (h:l.length ≤ 12):∃ d,b3c l = some d ∧ b0y d ∧ (∀ x,x ∈ d ↔ x ∈ l) ∧ d.length ≤ l.length:=by
  obtain ⟨s,e,h1,h2⟩:=d2s l h
  have hlen:=h2.length_eq
  refine ⟨c7l s,?_,?_,?_,?_⟩
  · unfold b3c a3u
    rw [if_pos (by simp; omega),Option.bind_some,List.nil_append,e,Option.bind_some,d5p s (by omega),Option.bind_some]
  · cases s with
    | nil => exact .nil
    | cons a t => exact c1k t a h1
  · intro x
    rw [← h2.mem_iff]
    cases s with
    | nil => rfl
    | cons a t => exact c9a x t a
  · rw [← hlen]
    cases s with
    | nil => simp [c7l]
    | cons a t => have:=c5b t a; simp only [c7l,List.length_cons]; omega
def AtK (kind:Int) (l:List x8):Prop:=∀ x ∈ l,a9k x = true ∧ x.Kind = kind
theorem b9u (kind:Int) (list:List x8) (h0:AtK kind list):∀ xs:List x8,(∀ x ∈ xs,x ∈ list) → a4r list xs = some (.go ())
  | [],_ => by rw [a4r]
  | x :: xs,h => by
    have hx:=h x (by simp)
    obtain ⟨a1,a2⟩:=h0 x hx
    obtain ⟨z,hz⟩:∃ z,list[0]? = some z:=by
      cases list with
      | nil => simp at hx
      | cons z l => exact ⟨z,rfl⟩
    have hz':=(h0 z (List.mem_of_getElem? hz)).2
    have e0:idx list 0 = some z:=by rw [show (0:Int) = ((0:Nat):Int) from rfl,b1h,hz]
    rw [a4r,b3e,Option.bind_some,a1,if_neg (by simp),e0,Option.bind_some,if_neg (by simp [a2,hz']),b9u kind list h0 xs (fun y hy => h y (by simp [hy]))]
theorem d5q (kind:Int) (list:List x8) (h0:AtK kind list) (hl:list.length ≤ 12):∃ d,a9a list = some (if (d.length:Int) > 8 then ([],6) else (d,0)) ∧ b0y d ∧ (∀ x,x ∈ d ↔ x ∈ list) ∧ d.length ≤ list.length ∧ a6k kind d:=by
  obtain ⟨d,e,h1,h2,h3⟩:=d9y list hl
  refine ⟨d,?_,h1,h2,h3,a6k.of (fun x hx => h0 x ((h2 x).1 hx)) h1⟩
  unfold a9a
  rw [b9u kind list h0 list (fun x hx => hx)]
  simp only [Option.bind_some,e]
  by_cases c:(d.length:Int) > 8
  · rw [if_pos (decide_eq_true c),if_pos c]
  · rw [if_neg (by simpa using c),if_neg c]
theorem c3a {k:Int} {d:List x8} (h:a6k k d) (hl:d.length ≤ 8):d1a d = true:=by
  unfold d1a
  rw [a6k.allS h,decide_eq_true (by omega)]
  rfl
theorem d9z (s:a1h):a2t s = a2t s:=by
  first
  | rfl
  | (unfold a2t a2t; rfl)
theorem c9c (n:Int) (s:a1h):a1z n s = a1z n s:=by
  first
  | rfl
  | (unfold a1z a1z; simp only [d9z])
theorem e0a (l:List Str) (s:a1h):a4e l s = a4e l s:=by
  first
  | rfl
  | (unfold a4e a4e; simp only [c9c])
theorem d5r (c:List Int):a4l c = a4l c:=by
  first
  | rfl
  | (unfold a4l a4l; rfl)
theorem d8s (kind:Int) (s:a1h) (hk:1 ≤ kind ∧ kind ≤ 4) (h:b5l s) (ha:s.At + 1 < 2 ^ 50):∃ a s',a4x kind s = some (a,s') ∧ a9k a = true ∧ a.Kind = kind ∧ Nx s s' 1:=by
  unfold a4x
  try simp only [c9c,e0a]
  by_cases k1:kind = 1
  · subst k1
    obtain ⟨v,s',e,g1,g2,g⟩:=b8d 12 s h ha (by omega) (by omega)
    rw [if_pos (by simp),e,Option.bind_some]
    refine ⟨_,s',rfl,?_,rfl,g⟩
    have:w64 (v - 4) = v - 4:=a3k (by omega)
    rw [this]
    have:-1000000000 ≤ v - 4 ∧ v - 4 ≤ 1000000000:=by omega
    simp [a9k,this]
  rw [if_neg (by simpa using k1)]
  by_cases k2:kind = 2
  · subst k2
    obtain ⟨t,s',e,ht,g⟩:=d5o [[],[97],[98],[99],[110,101,116]] s h ha (by simp) (by simp)
    rw [if_pos (by simp),e,Option.bind_some]
    refine ⟨_,s',rfl,?_,rfl,g⟩
    have:b3m t = true:=List.all_eq_true.1 (show ([[],[97],[98],[99],[110,101,116]]:List Str).all b3m = true by decide) t ht
    simp [a9k,this]
  rw [if_neg (by simpa using k2)]
  by_cases k3:kind = 3
  · subst k3
    obtain ⟨v,s',e,g1,g2,g⟩:=b8d 2 s h ha (by omega) (by omega)
    rw [if_pos (by simp),e,Option.bind_some]
    refine ⟨_,s',rfl,?_,rfl,g⟩
    have:0 ≤ v ∧ v ≤ 1:=by omega
    simp [a9k,this]
  rw [if_neg (by simpa using k3)]
  have k4:kind = 4:=by omega
  subst k4
  obtain ⟨v,s',e,g1,g2,g⟩:=b8d 6 s h ha (by omega) (by omega)
  rw [e,Option.bind_some]
  refine ⟨_,s',rfl,?_,rfl,g⟩
  have:w64 (1 + v) = 1 + v:=a3k (by omega)
  rw [this]
  have:1 ≤ 1 + v ∧ 1 + v ≤ 1000000:=by omega
  simp [a9k,this]
theorem c5c (kind:Int) (hk:1 ≤ kind ∧ kind ≤ 4):∀ (i k:Nat) (s:a1h) (out:List x8),i < k → a6k kind out → out.length + i ≤ 100 → b5l s → s.At + i < 2 ^ 50 →
    ∃ s' d,a2x kind k i s.Code s.At s.Seed out = some (s'.Code,s'.At,s'.Seed,d) ∧ a6k kind d ∧ d.length ≤ out.length + i ∧ Nx s s' i
  | _,0,_,_,h,_,_,_,_ => by omega
  | 0,k + 1,s,out,h,hs,hl,ho,ha => by
    refine ⟨s,out,?_,hs,by omega,Nx.refl ho⟩
    rw [a2x,if_neg (by simp)]
  | i + 1,k + 1,s,out,h,hs,hl,ho,ha => by
    rw [a2x,if_pos (by simp)]
    obtain ⟨a,s1,e,g1,g2,g3⟩:=d8s kind s hk ho (by omega)
    have e':a4x kind (⟨s.Code,s.At,s.Seed⟩:a1h) = some (a,s1):=e
    obtain ⟨d,f,f1,f2,f3⟩:=e1d kind out a hs g1 g2 (by omega)
    have ew:w64 (((i + 1:Nat):Int) - 1) = (i:Int):=by rw [a3k (by omega)]; omega
    have:=g3.hi
    obtain ⟨s2,d2,q,q1,q2,q3⟩:=c5c kind hk i k s1 d (by omega) f1 (by omega) g3.ok (by omega)
    rw [e',Option.bind_some,f,Option.bind_some,ew,q]
    exact ⟨s2,d2,rfl,q1,by omega,(g3.trans q3).mono (by omega)⟩
theorem e0b (kind:Int) (s:a1h) (hk:1 ≤ kind ∧ kind ≤ 4) (h:b5l s) (ha:s.At + 5 < 2 ^ 50):∃ d s',a6r kind s = some (d,s') ∧ a6k kind d ∧ d.length ≤ 4 ∧ Nx s s' 5:=by
  have hf:2 ^ 40 < FUEL:=by unfold FUEL; decide
  unfold a6r
  try rw [c9c]
  obtain ⟨v,s1,e,g1,g2,g⟩:=b8d 5 s h (by omega) (by omega) (by omega)
  obtain ⟨i,rfl⟩:∃ i:Nat,v = (i:Int):=⟨v.toNat,by omega⟩
  have:=g.hi
  obtain ⟨s2,d,e2,q1,q2,q3⟩:=c5c kind hk i FUEL s1 [] (by omega) ⟨by simp,by simp⟩ (by simp; omega) g.ok (by omega)
  rw [e,Option.bind_some,e2,Option.bind_some]
  simp only [List.length_nil] at q2
  exact ⟨d,s2,rfl,q1,by omega,(g.trans q3).mono (by omega)⟩
theorem c9d (code:List Int) (kind:Int) (hc:∀ x ∈ code,0 ≤ x ∧ x < 256) (hl:(code.length:Int) ≤ 1048576) (hk:1 ≤ kind ∧ kind ≤ 4):∃ d,a7x code kind = some d ∧ a6k kind d ∧ d.length ≤ 4:=by
  unfold a7x
  obtain ⟨s,e1,g1,g2,_⟩:=d1e code hc hl
  obtain ⟨d,s',e2,h1,h2,_⟩:=e0b kind s hk g1 (by rw [g2]; decide)
  have e1':a4l code = some s:=by rw [d5r]; exact e1
  first
  | rw [e1',Option.bind_some,e2,Option.bind_some]
  | rw [e1,Option.bind_some,e2,Option.bind_some]
  exact ⟨d,rfl,h1,h2⟩
theorem e7e (more:List Int) (n:Int) (hc:∀ x ∈ more,0 ≤ x ∧ x < 256) (hl:(more.length:Int) ≤ 1048576) (hn:1 ≤ n ∧ n ≤ 1000000) (i:Int) (hi:0 ≤ i ∧ i ≤ 1000):∃ v,b9h more i n = some v ∧ 0 ≤ v ∧ v < n:=by
  unfold b9h
  by_cases h1:n ≤ 1
  · rw [if_pos (by simpa using h1)]; exact ⟨0,rfl,by omega,by omega⟩
  rw [if_neg (by simpa using h1)]
  by_cases h2:more.length = 0
  · rw [if_pos (by simpa using h2),if_pos (by omega)]
    have e:w64 (i * 7) = i * 7:=a3k (by omega)
    have:=b3n (a:=i * 7) (m:=n) (by omega) (by omega)
    rw [e]
    exact ⟨_,rfl,this⟩
  rw [if_neg (by simpa using h2),if_pos (by omega)]
  have get:∀ j:Int,0 ≤ j → ∃ x,idx more (j.tmod (more.length:Int)) = some x ∧ 0 ≤ x ∧ x < 256:=by
    intro j hj
    have hb:=b3n (a:=j) (m:=(more.length:Int)) hj (by omega)
    obtain ⟨q,hq⟩:∃ q:Nat,j.tmod (more.length:Int) = (q:Int):=⟨(j.tmod (more.length:Int)).toNat,by omega⟩
    rw [hq] at hb ⊢
    obtain ⟨x,hx⟩:∃ x,more[q]? = some x:=⟨more[q]'(by omega),List.getElem?_eq_getElem (by omega)⟩
    rw [b1h,hx]
    exact ⟨x,rfl,hc x (List.mem_of_getElem? hx)⟩
  obtain ⟨x,ex,x1,x2⟩:=get i hi.1
  have ew:w64 (i + 1) = i + 1:=a3k (by omega)
  obtain ⟨y,ey,y1,y2⟩:=get (i + 1) (by omega)
  rw [ex,Option.bind_some,if_pos (by omega),ew,ey,Option.bind_some,if_pos (by omega),if_pos (by omega)]
  have hq:0 ≤ i.tdiv (more.length:Int) ∧ i.tdiv (more.length:Int) ≤ i:=by
    rw [d4n hi.1 (by omega)]
    exact ⟨Int.ediv_nonneg hi.1 (by omega),Int.ediv_le_self _ hi.1⟩
  rw [a3k (n:=x) (by omega),a3k (n:=x * 31) (by omega),a3k (n:=y) (by omega),a3k (n:=x * 31 + y) (by omega),a3k (n:=i.tdiv (more.length:Int)) (by omega),a3k (by omega)]
  have:=b3n (a:=x * 31 + y + i.tdiv (more.length:Int)) (m:=n) (by omega) (by omega)
  exact ⟨_,rfl,this⟩
def a9z:List Str → Nat
  | [] => 0
  | x :: xs => x.length + a9z xs
def a6n (l:List Str):Nat:=l.length + a9z l
def c9e (x:x8):Nat:=x.T.length
def b3q:List x8 → Nat
  | [] => 0
  | x :: xs => c9e x + b3q xs
def b3r (l:List x8):Nat:=l.length + b3q l
theorem fuel_lt {n:Nat} (h:n < 2 ^ 90):n < FUEL:=by unfold FUEL; omega
theorem a6q.parts {x:y7} (h:a6q x):okS x.T ∧ okL okS x.Keys ∧ x.Items.length ≤ maxLen ∧ ∀ y ∈ x.Items,a6q y:=by
  cases h with
  | mk h0 h1 h2 h3 h4 h5 => exact ⟨h2,h3,h4,h5⟩
theorem e7f {α:Type} (a b:Bool) (x y:α):(if (bif a then true else b) = true then x else y) = (if a = true then x else if b = true then x else y):=by cases a <;> simp
def keyAt (ks:List Str) (i:Nat):Bool:=match ks[i]? with
  | some x => b3m x && (decide (i = 0) || match ks[i - 1]? with | some y => Op.bytesLess y x | none => false)
  | none => false
theorem b9v (ks:List Str) (hl:ks.length ≤ maxLen):∀ (xs:List Str) (i:Nat),ks.drop i = xs →
    a4c ks xs i = some (.go ()) ∧ (∀ q,i ≤ q → q < ks.length → keyAt ks q = true) ∨ a4c ks xs i = some (.ret false) ∧ ∃ q,i ≤ q ∧ q < ks.length ∧ keyAt ks q = false
  | [],i,h => by
    refine .inl ⟨by rw [a4c],fun q h1 h2 => ?_⟩
    have:=List.drop_eq_nil_iff.1 h
    omega
  | x :: xs,i,h => by
    have hi:=c8v h
    have hx:ks[i]? = some x:=by rw [← b1h]; exact b9f h
    rw [a4c,c8y,Option.bind_some]
    have hnext:=b9v ks hl xs (i + 1) (b2o h)
    simp only [maxLen] at hl
    by_cases ht:b3m x = true
    · rw [if_neg (by simp [ht])]
      by_cases h0:i = 0
      · subst h0
        rw [if_neg (by simp),Option.bind_some,if_neg (by simp)]
        have hk:keyAt ks 0 = true:=by unfold keyAt; simp [hx,ht]
        rcases hnext with ⟨e,hq⟩ | ⟨e,q,q1,q2,q3⟩
        · refine .inl ⟨e,fun q h1 h2 => ?_⟩
          by_cases hq0:q = 0
          · rw [hq0]; exact hk
          · exact hq q (by omega) h2
        · exact .inr ⟨e,q,by omega,q2,q3⟩
      · rw [if_pos (by simp; omega),a3k (by omega)]
        obtain ⟨y,hy⟩:∃ y,ks[i - 1]? = some y:=⟨ks[i - 1],List.getElem?_eq_getElem (by omega)⟩
        have e1:(i:Int) - 1 = ((i - 1:Nat):Int):=by omega
        rw [e1,b1h,hy,Option.bind_some,Option.bind_some]
        have hk:keyAt ks i = Op.bytesLess y x:=by unfold keyAt; simp [hx,ht,h0,hy]
        by_cases hb:Op.bytesLess y x = true
        · rw [if_neg (by simp [hb])]
          rcases hnext with ⟨e,hq⟩ | ⟨e,q,q1,q2,q3⟩
          · refine .inl ⟨e,fun q h1 h2 => ?_⟩
            by_cases hq0:q = i
            · rw [hq0,hk]; exact hb
            · exact hq q (by omega) h2
          · exact .inr ⟨e,q,by omega,q2,q3⟩
        · simp only [Bool.not_eq_true] at hb
          rw [if_pos (by simp [hb])]
          exact .inr ⟨rfl,i,Nat.le_refl _,hi,by rw [hk,hb]⟩
    · simp only [Bool.not_eq_true] at ht
      rw [if_pos (by simp [ht]),Option.bind_some,if_pos rfl]
      exact .inr ⟨rfl,i,Nat.le_refl _,hi,by unfold keyAt; simp [hx,ht]⟩
theorem d5s (ks:List Str) (hl:ks.length ≤ maxLen):∃ b,b0n ks = some b ∧ (b = true ↔ ∀ q,q < ks.length → keyAt ks q = true):=by
  unfold b0n
  rcases b9v ks hl ks 0 (by simp) with ⟨e,hq⟩ | ⟨e,q,q1,q2,q3⟩
  · rw [e]; exact ⟨true,rfl,by simp; exact fun q h => hq q (by omega) h⟩
  · rw [e]; refine ⟨false,rfl,?_⟩
    simp only [Bool.false_eq_true,false_iff]
    intro h
    rw [h q q2] at q3
    cases q3
def d8t (j:y7):Prop :=
  (j.Kind = 0 ∧ j.N = 0 ∧ j.T = [] ∧ j.Keys = [] ∧ j.Items = []) ∨
  (j.Kind = 1 ∧ (0 ≤ j.N ∧ j.N ≤ 1) ∧ j.T = [] ∧ j.Keys = [] ∧ j.Items = []) ∨
  (j.Kind = 2 ∧ (-1000000000 ≤ j.N ∧ j.N ≤ 1000000000) ∧ j.T = [] ∧ j.Keys = [] ∧ j.Items = []) ∨
  (j.Kind = 3 ∧ j.N = 0 ∧ b3m j.T = true ∧ j.Keys = [] ∧ j.Items = []) ∨
  (j.Kind = 4 ∧ j.N = 0 ∧ j.T = [] ∧ j.Keys = []) ∨
  (j.Kind = 5 ∧ j.N = 0 ∧ j.T = [] ∧ j.Keys.length = j.Items.length ∧ ∀ q,q < j.Keys.length → keyAt j.Keys q = true)
theorem d8u (j:y7) (hl:j.Keys.length ≤ maxLen):∃ b,a7k j = some b ∧ (b = true ↔ d8t j):=by
  obtain ⟨kb,ek,hk⟩:=d5s j.Keys hl
  unfold a7k a8d d8t
  simp only [b9r,c8y,ek,Option.bind_some]
  by_cases h0:j.Kind = 0
  · simp only [h0]
    by_cases h1:j.N = 0 <;> by_cases h2:j.T = [] <;> by_cases h3:j.Keys = [] <;> by_cases h4:j.Items = [] <;> simp_all
  by_cases h1:j.Kind = 1
  · simp only [h1]
    by_cases c:(0 ≤ j.N ∧ j.N ≤ 1) <;> by_cases h2:j.T = [] <;> by_cases h3:j.Keys = [] <;> by_cases h4:j.Items = [] <;> simp_all
  by_cases h2:j.Kind = 2
  · simp only [h2]
    by_cases c:(-1000000000 ≤ j.N ∧ j.N ≤ 1000000000) <;> by_cases h2:j.T = [] <;> by_cases h3:j.Keys = [] <;> by_cases h4:j.Items = [] <;> simp_all
  by_cases h3:j.Kind = 3
  · simp only [h3]
    by_cases h1:j.N = 0 <;> by_cases h2:b3m j.T = true <;> by_cases h3:j.Keys = [] <;> by_cases h4:j.Items = [] <;> simp_all
  by_cases h4:j.Kind = 4
  · simp only [h4]
    by_cases h1:j.N = 0 <;> by_cases h2:j.T = [] <;> by_cases h3:j.Keys = [] <;> simp_all
  by_cases h5:j.Kind = 5
  · simp only [h5]
    by_cases h1:j.N = 0 <;> by_cases h2:j.T = [] <;> by_cases h3:j.Keys.length = j.Items.length <;> simp_all <;> omega
  refine ⟨false,?_,?_⟩
  · simp [h0,h1,h2,h3,h4,h5]
  · simp [h0,h1,h2,h3,h4,h5]
def OkD:Nat → y7 → Prop
  | 0,_ => False
  | d + 1,j => d8t j ∧ ∀ y ∈ j.Items,OkD d y
def a7a:Nat → y7 → Int
  | 0,_ => 0
  | d + 1,j => 1 + (j.Items.map (a7a d)).sum
theorem c5d {α:Type} (f:α → Int) (hf:∀ x,0 ≤ f x):∀ l:List α,0 ≤ (l.map f).sum
  | [] => by simp
  | x :: xs => by simp only [List.map_cons,List.sum_cons]; have:=hf x; have:=c5d f hf xs; omega
theorem b9w:∀ (d:Nat) (j:y7),0 ≤ a7a d j
  | 0,j => by simp [a7a]
  | d + 1,j => by simp only [a7a]; have:=c5d (a7a d) (b9w d) j.Items; omega
theorem d1k (R:y7 → Int → Int → Option (Bool × Int)) (d:Nat) (deep:Int):∀ (xs:List y7) (s8:Nat) (room:Int),0 ≤ room → room ≤ 400 →
    (∀ y ∈ xs,∀ room,0 ≤ room → room ≤ 400 → ∃ b room',R y (w64 (deep + 1)) room = some (b,room') ∧ room' ≤ room ∧ (b = true ↔ OkD d y ∧ a7a d y ≤ room) ∧ (b = true → room' = room - a7a d y)) →
    (a0r R xs s8 deep room = some (.go (deep,room - (xs.map (a7a d)).sum)) ∧ (∀ y ∈ xs,OkD d y) ∧ (xs.map (a7a d)).sum ≤ room) ∨
    (∃ (i:Nat) (r':Int),a0r R xs s8 deep room = some (.ret ((i:Int),deep,r')) ∧ r' ≤ room ∧ ¬ ((∀ y ∈ xs,OkD d y) ∧ (xs.map (a7a d)).sum ≤ room))
  | [],s8,room,h0,h1,hR => .inl ⟨by rw [a0r]; simp,by simp,by simpa using h0⟩
  | x :: xs,s8,room,h0,h1,hR => by
    rw [a0r]
    unfold a6d
    obtain ⟨b,r1,e,g1,g2,g3⟩:=hR x (by simp) room h0 h1
    rw [e]
    simp only [Option.bind_some]
    have hs:=c5d (a7a d) (b9w d) xs
    have hx:=b9w d x
    cases b with
    | true =>
      obtain ⟨k1,k2⟩:=g2.1 rfl
      have k3:=g3 rfl
      rw [if_neg (by simp)]
      rcases d1k R d deep xs (s8 + 1) r1 (by omega) (by omega) (fun y hy => hR y (by simp [hy])) with ⟨e2,q1,q2⟩ | ⟨i,r',e2,q1,q2⟩
      · refine .inl ⟨?_,?_,?_⟩
        · rw [e2]; simp only [List.map_cons,List.sum_cons]; congr 3; omega
        · intro y hy
          rcases List.mem_cons.1 hy with rfl | hy
          · exact k1
          · exact q1 y hy
        · simp only [List.map_cons,List.sum_cons]; omega
      · refine .inr ⟨i,r',e2,by omega,fun ⟨f1,f2⟩ => q2 ⟨fun y hy => f1 y (by simp [hy]),?_⟩⟩
        simp only [List.map_cons,List.sum_cons] at f2
        omega
    | false =>
      rw [if_pos (by simp)]
      refine .inr ⟨s8,r1,rfl,g1,fun ⟨f1,f2⟩ => ?_⟩
      simp only [List.map_cons,List.sum_cons] at f2
      have:=g2.2 ⟨f1 x (by simp),by omega⟩
      cases this
theorem c7m:∀ (k d:Nat) (j:y7) (room:Int),d ≤ 12 → d < k → 0 ≤ room → room ≤ 400 → a6q j →
    ∃ b room',a4j k j (12 - d) room = some (b,room') ∧ room' ≤ room ∧ (b = true ↔ OkD d j ∧ a7a d j ≤ room) ∧ (b = true → room' = room - a7a d j)
  | 0,d,j,room,_,hk,_,_,_ => by omega
  | k + 1,d,j,room,hd,hk,h0,h1,ok => by
    obtain ⟨o1,o2,o3,o4⟩:=ok.parts
    rw [a4j]
    unfold a7d
    rw [a3k (by omega)]
    simp only [e7f]
    by_cases c1:room - 1 < 0
    · rw [if_pos (by simpa using c1),Option.bind_some,if_pos rfl]
      refine ⟨false,room - 1,rfl,by omega,?_,by simp⟩
      simp only [Bool.false_eq_true,false_iff,not_and]
      intro ho
      cases d with
      | zero => exact ho.elim
      | succ d => simp only [a7a]; have:=c5d (a7a d) (b9w d) j.Items; omega
    rw [if_neg (by simpa using c1)]
    cases d with
    | zero =>
      rw [if_pos (by simp),Option.bind_some,if_pos rfl]
      exact ⟨false,room - 1,rfl,by omega,by simp [OkD],by simp⟩
    | succ d =>
      rw [if_neg (by simp; omega)]
      obtain ⟨pb,ep,hp⟩:=d8u j o2.1
      rw [ep,Option.bind_some,Option.bind_some]
      cases pb with
      | false =>
        rw [if_pos (by simp)]
        refine ⟨false,room - 1,rfl,by omega,?_,by simp⟩
        simp only [Bool.false_eq_true,false_iff,not_and,OkD]
        intro ⟨hn,_⟩
        have:=hp.2 hn
        cases this
      | true =>
        rw [if_neg (by simp)]
        have hdeep:w64 (12 - ((d + 1:Nat):Int) + 1) = 12 - (d:Int):=by rw [a3k (by omega)]; omega
        have hloop:=d1k (a4j k) d (12 - ((d + 1:Nat):Int)) j.Items 0 (room - 1) (by omega) (by omega) (fun y hy rm a1 a2 => by
          rw [hdeep]
          exact c7m k d y rm (by omega) (by omega) a1 a2 (o4 y hy))
        unfold a2m a2r
        rcases hloop with ⟨e2,q1,q2⟩ | ⟨i,r',e2,q1,q2⟩
        · rw [e2]
          refine ⟨true,room - 1 - (j.Items.map (a7a d)).sum,by simp,?_,?_,?_⟩
          · have:=c5d (a7a d) (b9w d) j.Items; omega
          · simp only [true_iff,OkD,a7a]; exact ⟨⟨hp.1 rfl,q1⟩,by omega⟩
          · intro _; simp only [a7a]; omega
        · rw [e2]
          refine ⟨false,r',by simp,by omega,?_,by simp⟩
          simp only [Bool.false_eq_true,false_iff,OkD,a7a]
          rintro ⟨⟨_,f1⟩,f2⟩
          exact q2 ⟨f1,by omega⟩
mutual
def a6l:y7 → Nat
  | ⟨_,_,t,ks,is⟩ => t.length + a6n ks + a7e is
def a7e:List y7 → Nat
  | [] => 0
  | x :: xs => 1 + a6l x + a7e xs
end
theorem c1l (x:y7):a6l x = x.T.length + a6n x.Keys + a7e x.Items:=by cases x; simp only [a6l]
theorem b6m:∀ l:List y7,l.length ≤ a7e l
  | [] => by simp
  | x :: l => by have:=b6m l; simp only [a7e,List.length_cons]; omega
theorem b3s:∀ {l:List y7} {x:y7},x ∈ l → a6l x < a7e l
  | [],_,h => by simp at h
  | y :: l,x,h => by
    rw [a7e]
    rcases List.mem_cons.1 h with rfl | h
    · omega
    · have:=b3s h; omega
theorem c2c (rec:y7 → Option y7):∀ (xs out:List y7),(∀ x ∈ xs,rec x = some x) → out.length + xs.length ≤ 2 ^ 30 → a4h rec xs out = some (out ++ xs)
  | [],out,_,_ => by rw [a4h]; simp
  | x :: xs,out,hr,h => by
    simp only [List.length_cons] at h
    rw [a4h,hr x (by simp),Option.bind_some,if_pos (by simp; omega),c2c rec xs _ (fun y hy => hr y (by simp [hy])) (by simp; omega)]
    simp
theorem c5e:∀ (k:Nat) (j:y7),a6l j < k → a6l j ≤ 2 ^ 30 → a6v k j = some j
  | 0,j,h,_ => by omega
  | k + 1,j,h,h2 => by
    rw [c1l] at h h2
    have hl:=b6m j.Items
    have hk:j.Keys.length ≤ a6n j.Keys:=by unfold a6n; omega
    rw [a6v]
    unfold b1m
    rw [if_pos (by simp; omega),Option.bind_some,c2c (a6v k) j.Items [] (fun y hy => by have:=b3s hy; exact c5e k y (by omega) (by omega)) (by simp; omega)]
    cases j
    simp
theorem d8v (j:y7) (h:a6l j ≤ 2 ^ 30):a6v FUEL j = some j:=c5e FUEL j (fuel_lt (by omega)) h
theorem d8w (l:List Str) (h:l.length ≤ 2 ^ 30):a2o l = some l:=by
  unfold a2o
  rw [if_pos (by simpa using h)]
  simp
theorem b7l (rec:y7 → Option y7):∀ (xs out:List y7),(∀ x ∈ xs,rec x = some x) → out.length + xs.length ≤ 2 ^ 30 → a3n rec xs out = some (out ++ xs)
  | [],out,_,_ => by rw [a3n]; simp
  | x :: xs,out,hr,h => by
    simp only [List.length_cons] at h
    rw [a3n,hr x (by simp),Option.bind_some,if_pos (by simp; omega),b7l rec xs _ (fun y hy => hr y (by simp [hy])) (by simp; omega)]
    simp
theorem b9x:∀ (k:Nat) (j:y7),a6l j < k → a6l j ≤ 2 ^ 30 → a5u k j = some j
  | 0,j,h,_ => by omega
  | k + 1,j,h,h2 => by
    rw [c1l] at h h2
    have hl:=b6m j.Items
    have hk:j.Keys.length ≤ a6n j.Keys:=by unfold a6n; omega
    rw [a5u]
    unfold a9p
    rw [d8w _ (by omega),Option.bind_some,b7l (a5u k) j.Items [] (fun y hy => by have:=b3s hy; exact b9x k y (by omega) (by omega)) (by simp; omega),Option.bind_some]
    split
    · cases j; simp
    · rename_i c
      have:j.Items = []:=by
        cases hj:j.Items with
        | nil => rfl
        | cons a l => simp [hj] at c; try omega
      cases j
      simp_all
theorem d2t (j:y7) (h:a6l j ≤ 2 ^ 30):a5u FUEL j = some j:=b9x FUEL j (fuel_lt (by omega)) h
theorem c5f (a:x8):∃ j,a5r a = some j ∧ a6l j ≤ a.T.length + 20:=by
  unfold a5r
  by_cases k1:(a.Kind == 1) = true
  · rw [if_pos k1]
    exact ⟨_,rfl,by simp [a6l,a6n,a9z,a7e]⟩
  rw [if_neg k1]
  by_cases k2:(a.Kind == 2) = true
  · rw [if_pos k2]
    exact ⟨_,rfl,by simp [a6l,a6n,a9z,a7e]⟩
  rw [if_neg k2]
  by_cases k3:(a.Kind == 3) = true
  · rw [if_pos k3]
    unfold b1u
    split
    · exact ⟨_,rfl,by simp [a6l,a6n,a9z,a7e]⟩
    · exact ⟨_,rfl,by simp [a6l,a6n,a9z,a7e]⟩
  rw [if_neg k3]
  refine ⟨_,rfl,?_⟩
  simp [a6l,a6n,a9z,a7e]
theorem c7n (a:x8):a8z a = a5r a:=by
  unfold a8z a5r
  have h:∀ b,b6z b = b1u b:=fun b => by cases b <;> rfl
  have h2:∀ x y:y7,a6u [x,y] = a8p [x,y]:=fun x y => by
    unfold a6u a8p
    rw [if_pos (by simp)]
    rfl
  simp only [h,h2]
  rfl
theorem c7o:∀ (xs:List x8) (out:List y7),out.length + xs.length ≤ 2 ^ 30 → ∃ js,a1y xs out = some (out ++ js) ∧ a4g xs out = some (out ++ js) ∧ js.length = xs.length ∧ a7e js ≤ b3q xs + 21 * xs.length
  | [],out,_ => ⟨[],by rw [a1y]; simp,by rw [a4g]; simp,rfl,by simp [a7e]⟩
  | x :: xs,out,h => by
    simp only [List.length_cons] at h
    obtain ⟨j,e,hj⟩:=c5f x
    obtain ⟨js,e1,e2,e3,e4⟩:=c7o xs (out ++ [j]) (by simp; omega)
    refine ⟨j :: js,?_,?_,by simp [e3],?_⟩
    · rw [a1y,e,Option.bind_some,if_pos (by simp; omega),e1]; simp
    · rw [a4g,c7n,e,Option.bind_some,if_pos (by simp; omega),e2]; simp
    · simp only [a7e,b3q,c9e,List.length_cons]; omega
theorem e1e (d:List x8) (h:b3r d ≤ 2 ^ 20):∃ j,a2y d = some j ∧ a6y d = some j ∧ a6l j ≤ 2 ^ 25:=by
  unfold b3r at h
  unfold a2y a6y
  obtain ⟨js,e1,e2,e3,e4⟩:=c7o d [] (by simp; omega)
  rw [e1]
  simp only [Option.bind_some,List.nil_append,e3]
  by_cases h1:d.length = 1
  · have h1':((d.length:Int) == 1) = true:=by simp [h1]
    rw [if_pos h1',if_pos h1']
    obtain ⟨x,rfl⟩:∃ x,d = [x]:=by
      match d,h1 with
      | [x],_ => exact ⟨x,rfl⟩
    rw [a1y] at e1
    obtain ⟨j,e,hj⟩:=c5f x
    rw [e,Option.bind_some,if_pos (by simp),a1y] at e1
    simp only [List.nil_append,Option.some.injEq] at e1
    subst e1
    refine ⟨j,by simp,?_,?_⟩
    · simp [idx,c7n,e]
    · simp only [b3q,c9e,List.length_cons] at h; omega
  · have h1':((d.length:Int) == 1) = false:=by simp; omega
    rw [if_neg (by simp [h1']),if_neg (by simp [h1'])]
    refine ⟨⟨4,0,[],[],[⟨3,0,[115,101,116],[],[]⟩,⟨4,0,[],[],js⟩]⟩,rfl,?_,?_⟩
    · have q1:b0m = some ⟨4,0,[],[],[]⟩:=by unfold b0m; simp
      have q2:b2p [115,101,116] = some ⟨3,0,[115,101,116],[],[]⟩:=rfl
      have q3:∀ x y:y7,a6u [x,y] = some ⟨4,0,[],[],[x,y]⟩:=fun x y => by unfold a6u; simp
      rw [q1,Option.bind_some,e2,Option.bind_some,q2,Option.bind_some,q3]
      rfl
    · simp only [a6l,a7e,a6n,a9z,List.length_cons,List.length_nil]; omega
theorem b2m {n:Int}:okI .i64 n ↔ -(2 ^ 63) ≤ n ∧ n ≤ 2 ^ 63 - 1:=by
  have h1:IntKind.i64.min = -(2 ^ 63):=by decide
  have h2:IntKind.i64.max = 2 ^ 63 - 1:=by decide
  simp [okI,Lit.wf,h1,h2]
def b0b (a b:Str):Int:=Lib.compareBytes a b
theorem b2r (a b:Str):b0b a b = 0 ↔ a = b:=b4i a b
theorem c7p (a b:Str):b0b b a = - b0b a b:=c1h a b
theorem b4x {a b c:Str} (h:b0b a b < 0) (g:b0b b c < 0):b0b a c < 0:=b8e a b c h g
theorem b1w (a:Str):¬ b0b a a < 0:=by have:=(b2r a a).2 rfl; omega
theorem d5t (a b:Str):Op.bytesLess a b = decide (b0b a b < 0):=c1i a b
theorem e0c (a b:Str):cmp_Less_string a b = some (decide (b0b a b < 0)):=by
  unfold cmp_Less_string cmp_isNaN_string
  simp [d5t]
def a8f (d:List Str):Prop:=d.Pairwise fun a b => b0b a b < 0
theorem a8f.ext:∀ {a b:List Str},a8f a → a8f b → (∀ x,x ∈ a ↔ x ∈ b) → a = b
  | [],[],_,_,_ => rfl
  | [],y :: _,_,_,h => absurd ((h y).2 (by simp)) (by simp)
  | x :: _,[],_,_,h => absurd ((h x).1 (by simp)) (by simp)
  | x :: xs,y :: ys,ha,hb,h => by
    obtain ⟨ha1,ha2⟩:=List.pairwise_cons.1 ha
    obtain ⟨hb1,hb2⟩:=List.pairwise_cons.1 hb
    have hxy:x = y:=by
      rcases List.mem_cons.1 ((h x).1 (by simp)) with e | e
      · exact e
      · rcases List.mem_cons.1 ((h y).2 (by simp)) with e' | e'
        · exact e'.symm
        · exact absurd (b4x (ha1 y e') (hb1 x e)) (b1w _)
    subst hxy
    refine congrArg (x :: ·) (a8f.ext ha2 hb2 (fun z => ?_))
    have hz:=h z
    simp only [List.mem_cons] at hz
    constructor
    · intro q
      rcases hz.1 (.inr q) with e | e
      · subst e; exact absurd (ha1 z q) (b1w _)
      · exact e
    · intro q
      rcases hz.2 (.inr q) with e | e
      · subst e; exact absurd (hb1 z q) (b1w _)
      · exact e
def c2d (d:List Str):Prop:=d.Pairwise fun a b => b0b a b ≤ 0
theorem c6b {a b c:Str} (h:b0b a b ≤ 0) (g:b0b b c ≤ 0):b0b a c ≤ 0:=by
  by_cases h0:b0b a b = 0
  · rw [(b2r a b).1 h0]; exact g
  · by_cases g0:b0b b c = 0
    · rw [← (b2r b c).1 g0]; exact h
    · have:=b4x (a:=a) (b:=b) (c:=c) (by omega) (by omega); omega
def ddT:Str → List Str → List Str
  | _,[] => []
  | a,z :: t => if z = a then ddT a t else z :: ddT z t
theorem c3b (x:Str):∀ (t:List Str) (a:Str),x ∈ a :: ddT a t ↔ x ∈ a :: t
  | [],a => by simp [ddT]
  | z :: t,a => by
    unfold ddT
    by_cases e:z = a
    · subst e; rw [if_pos rfl,c3b x t z]; simp
    · rw [if_neg e,List.mem_cons,c3b x t z,List.mem_cons (a:=x) (b:=a)]
theorem c3c:∀ (t:List Str) (a:Str),(ddT a t).length ≤ t.length
  | [],a => by simp [ddT]
  | z :: t,a => by
    unfold ddT
    have h1:=c3c t a
    have h2:=c3c t z
    by_cases e:z = a
    · rw [if_pos e]; simp only [List.length_cons]; omega
    · rw [if_neg e]; simp only [List.length_cons]; omega
theorem b8f:∀ (t:List Str) (a:Str),c2d (a :: t) → a8f (a :: ddT a t)
  | [],a,_ => List.pairwise_singleton _ _
  | z :: t,a,h => by
    obtain ⟨h1,h2⟩:=List.pairwise_cons.1 h
    unfold ddT
    by_cases e:z = a
    · subst e; rw [if_pos rfl]; exact b8f t z h2
    · rw [if_neg e]
      have haz:b0b a z < 0:=by
        have:=h1 z (by simp)
        have h0:b0b a z ≠ 0:=fun q => e ((b2r a z).1 q).symm
        omega
      refine List.pairwise_cons.2 ⟨fun c hc => ?_,b8f t z h2⟩
      have hc':=(c3b c t z).1 hc
      rcases List.mem_cons.1 hc' with rfl | hc'
      · exact haz
      · have hzc:=(List.pairwise_cons.1 h2).1 c hc'
        by_cases hz:b0b z c = 0
        · rw [← (b2r z c).1 hz]; exact haz
        · exact b4x haz (by omega)
theorem c7q:∀ (pr:List Str) (k:Nat) (x:Str) (s:List Str),pr.length < k → pr.length + s.length + 1 ≤ 2 ^ 20 → c2d pr.reverse → ∃ p1 p2:List Str,pr.reverse = p1 ++ p2 ∧ a0y 0 k (pr.length:Int) (pr.reverse ++ x :: s) = some (p1 ++ x :: (p2 ++ s)) ∧ (∀ y ∈ p2,b0b x y < 0) ∧ (∀ y ∈ p1,b0b y x ≤ 0)
  | _,0,_,_,h,_,_ => by omega
  | [],k + 1,x,s,_,hl,_ => by
    refine ⟨[],[],rfl,?_,by simp,by simp⟩
    rw [a0y]
    rfl
  | y :: pr,k + 1,x,s,hk,hl,hw => by
    simp only [List.length_cons] at hk hl
    have er:(y :: pr).reverse = pr.reverse ++ [y]:=by simp
    rw [er] at hw
    have hw':c2d pr.reverse:=(List.pairwise_append.1 hw).1
    have hy:∀ z ∈ pr.reverse,b0b z y ≤ 0:=fun z hz => (List.pairwise_append.1 hw).2.2 z hz y (by simp)
    have el:(pr.reverse ++ [y]).length = pr.length + 1:=by simp
    have ed:(pr.reverse ++ [y] ++ x :: s) = pr.reverse ++ y :: x :: s:=by simp
    have e1:decide (((y :: pr).length:Int) > 0) = true:=decide_eq_true (by simp only [List.length_cons]; omega)
    have e2:w64 (((y :: pr).length:Int) - 1) = ((pr.length:Nat):Int):=by rw [a3k (by simp only [List.length_cons]; omega)]; simp only [List.length_cons]; omega
    have g1:(pr.reverse ++ y :: x :: s)[0 + (((y :: pr).length:Nat):Int).toNat]? = some x:=by
      have:=a9q (pr.reverse ++ [y]) s x
      rw [el,ed] at this
      simpa using this
    have g2:(pr.reverse ++ y :: x :: s)[0 + ((pr.length:Nat):Int).toNat]? = some y:=by
      have:=a9q pr.reverse (x :: s) y
      rw [List.length_reverse] at this
      simpa using this
    have b1:0 ≤ (((y :: pr).length:Nat):Int) ∧ (((y :: pr).length:Nat):Int) < ((pr.reverse ++ y :: x :: s).length:Int):=by simp; omega
    have b2:0 ≤ ((pr.length:Nat):Int) ∧ ((pr.length:Nat):Int) < ((pr.reverse ++ y :: x :: s).length:Int):=by simp; omega
    have ss:(pr.reverse ++ y :: x :: s).set (0 + (((y :: pr).length:Nat):Int).toNat) y = pr.reverse ++ y :: y :: s:=by
      have:=b3o (pr.reverse ++ [y]) s x y
      rw [el] at this
      simpa using this
    have s2:(pr.reverse ++ y :: y :: s).set (0 + ((pr.length:Nat):Int).toNat) x = pr.reverse ++ x :: y :: s:=by
      have:=b3o pr.reverse (y :: s) y x
      rw [List.length_reverse] at this
      simpa using this
    have g3:(pr.reverse ++ y :: y :: s)[0 + ((pr.length:Nat):Int).toNat]? = some y:=by
      have:=a9q pr.reverse (y :: s) y
      rw [List.length_reverse] at this
      simpa using this
    rw [a0y,er,ed,if_pos e1,if_pos b1,g1,Option.bind_some,e2,if_pos b2,g2,Option.bind_some,e0c,Option.bind_some,Option.bind_some]
    by_cases c:b0b x y < 0
    · rw [if_pos (by simpa using c),if_pos b2,Option.bind_some,if_pos b1,Option.bind_some,if_pos b1,if_pos b2,ss,g3,Option.bind_some,s2]
      obtain ⟨p1,p2,h1,h2,h3,h4⟩:=c7q pr k x (y :: s) (by omega) (by simp only [List.length_cons]; omega) hw'
      refine ⟨p1,p2 ++ [y],by rw [h1,List.append_assoc],by rw [h2]; simp,fun z hz => ?_,h4⟩
      rcases List.mem_append.1 hz with hz | hz
      · exact h3 z hz
      · simp only [List.mem_singleton] at hz; subst hz; exact c
    · rw [if_neg (by simpa using c)]
      refine ⟨pr.reverse ++ [y],[],by simp,by simp,by simp,fun z hz => ?_⟩
      have hyx:b0b y x ≤ 0:=by have:=c7p x y; omega
      rcases List.mem_append.1 hz with hz | hz
      · exact c6b (hy z hz) hyx
      · simp only [List.mem_singleton] at hz; subst hz; exact hyx
theorem c7r:∀ (s pre:List Str) (k:Nat),s.length < k → pre.length + s.length ≤ 2 ^ 19 → c2d pre → ∃ d,a0u (((pre ++ s).length:Nat):Int) 0 k (pre.length:Int) (pre ++ s) = some d ∧ c2d d ∧ d.Perm (pre ++ s)
  | _,_,0,h,_,_ => by omega
  | [],pre,k + 1,_,_,hw => by
    refine ⟨pre,?_,hw,by simp⟩
    rw [a0u,if_neg (by simp)]
    simp
  | x :: s,pre,k + 1,hk,hl,hw => by
    simp only [List.length_cons] at hk hl
    have hf:=b3p
    rw [a0u,if_pos (by simp; omega)]
    obtain ⟨p1,p2,h1,h2,h3,h4⟩:=c7q pre.reverse FUEL x s (by simp; omega) (by simp; omega) (by simpa using hw)
    rw [List.reverse_reverse] at h1 h2
    rw [List.length_reverse] at h2
    rw [h2,Option.bind_some]
    have hw1:c2d (p1 ++ x :: p2):=by
      rw [h1] at hw
      obtain ⟨a1,a2,a3⟩:=List.pairwise_append.1 hw
      refine List.pairwise_append.2 ⟨a1,List.pairwise_cons.2 ⟨fun z hz => ?_,a2⟩,fun z hz w hw' => ?_⟩
      · have:=h3 z hz; omega
      · rcases List.mem_cons.1 hw' with rfl | hw'
        · exact h4 z hz
        · exact a3 z hz w hw'
    have el:(p1 ++ x :: p2).length = pre.length + 1:=by rw [h1]; simp; omega
    have e1:w64 ((pre.length:Int) + 1) = (((p1 ++ x :: p2).length:Nat):Int):=by rw [a3k (by omega),el]; omega
    have e2:p1 ++ x :: (p2 ++ s) = (p1 ++ x :: p2) ++ s:=by simp
    have e3:(pre ++ x :: s).length = ((p1 ++ x :: p2) ++ s).length:=by rw [show ((p1 ++ x :: p2) ++ s).length = (p1 ++ x :: p2).length + s.length from List.length_append,el]; simp; omega
    obtain ⟨d,g1,g2,g3⟩:=c7r s (p1 ++ x :: p2) k (by omega) (by omega) hw1
    refine ⟨d,?_,g2,g3.trans ?_⟩
    · rw [e1,e2,e3]; exact g1
    · rw [h1,List.append_assoc,List.append_assoc]
      refine List.Perm.append_left p1 ?_
      rw [List.cons_append]
      exact (List.perm_middle (a:=x) (l₁:=p2) (l₂:=s)).symm
theorem e1f (l:List Str) (h:l.length ≤ 2 ^ 19):∃ d,a2h l 0 (l.length:Int) = some d ∧ c2d d ∧ d.Perm l:=by
  have hf:=b3p
  unfold a2h
  cases l with
  | nil =>
    refine ⟨[],?_,.nil,List.Perm.refl _⟩
    obtain ⟨k,hk⟩:∃ k,FUEL = k + 1:=⟨FUEL - 1,by omega⟩
    rw [hk,a0u]
    rfl
  | cons x s =>
    simp only [List.length_cons] at h
    have:=c7r s [x] FUEL (by omega) (by simp; omega) (List.pairwise_singleton _ _)
    have ew:w64 (0 + 1) = 1:=by decide
    rw [ew]
    simpa using this
theorem e0d (l:List Str) (h:l.length ≤ 12):∃ d,a3p l = some d ∧ c2d d ∧ d.Perm l:=by
  have hf:=b3p
  obtain ⟨d,e,h1,h2⟩:=e1f l (by omega)
  refine ⟨d,?_,h1,h2⟩
  have hb:=c7k ⟨l.length,by omega⟩
  unfold a3p
  obtain ⟨n,hn⟩:=Option.isSome_iff_exists.1 hb
  have hn':a6z (IntKind.u64.wrap (l.length:Int)) = some n:=hn
  obtain ⟨k,hk⟩:∃ k,FUEL = k + 1:=⟨FUEL - 1,by omega⟩
  have e2:a1u FUEL l 0 (l.length:Int) n = some d:=by
    rw [hk,a1u]
    unfold a3q
    rw [hk,a1s,if_pos (by rw [a3k (by omega)]; simp; omega),e,Option.bind_some]
  rw [hn',Option.bind_some,e2,Option.bind_some]
theorem b7a (s0:List Str) (k0:Nat):∀ (t c g:List Str) (y:Str) (k k2:Nat),t.length < k → (c ++ (g ++ y :: t)).length = s0.length → c.length + g.length + 1 = k0 + k2 → s0.length ≤ 2 ^ 20 → 1 ≤ k2 → ∃ R,a0w s0 k0 k (c.length:Int) (k2:Int) (c ++ (g ++ y :: t)) = some ((((c ++ ddT y t).length:Nat):Int),R) ∧ R.length = s0.length ∧ R.take (c ++ ddT y t).length = c ++ ddT y t
  | _,_,_,_,0,_,h,_,_,_,_ => by omega
  | [],c,g,y,k + 1,k2,_,hn,hp,hl,h2 => by
    refine ⟨c ++ (g ++ [y]),?_,hn,by simp [ddT]⟩
    simp only [List.length_append,List.length_cons,List.length_nil] at hn
    rw [a0w,if_neg (by simp; omega)]
    simp [ddT]
  | z :: t,c,g,y,k + 1,k2,hk,hn,hp,hl,h2 => by
    have hn0:=hn
    simp only [List.length_append,List.length_cons] at hn hk
    have e1:decide ((k2:Int) < (((s0.length - k0):Nat):Int)) = true:=decide_eq_true (by omega)
    have b1:0 ≤ (k2:Int) ∧ (k2:Int) < (((s0.length - k0):Nat):Int):=by omega
    have e2:w64 ((k2:Int) - 1) = ((k2 - 1:Nat):Int):=by rw [a3k (by omega)]; omega
    have b2:0 ≤ ((k2 - 1:Nat):Int) ∧ ((k2 - 1:Nat):Int) < (((s0.length - k0):Nat):Int):=by omega
    have g1:(c ++ (g ++ y :: z :: t))[k0 + ((k2:Nat):Int).toNat]? = some z:=by
      have:=a9q (c ++ g ++ [y]) t z
      have el:(c ++ g ++ [y]).length = k0 + k2:=by simp; omega
      rw [el] at this
      simpa using this
    have g2:(c ++ (g ++ y :: z :: t))[k0 + ((k2 - 1:Nat):Int).toNat]? = some y:=by
      have:=a9q (c ++ g) (z :: t) y
      have el:(c ++ g).length = k0 + (k2 - 1):=by simp; omega
      rw [el] at this
      simpa using this
    have e3:w64 ((k2:Int) + 1) = ((k2 + 1:Nat):Int):=by rw [a3k (by omega)]; omega
    rw [a0w,if_pos e1,if_pos b1,g1,Option.bind_some,e2,if_pos b2,g2,Option.bind_some,e3]
    by_cases e:z = y
    · subst e
      rw [if_neg (by simp)]
      have ed:ddT z (z :: t) = ddT z t:=by rw [ddT,if_pos rfl]
      have ec:c ++ (g ++ z :: z :: t) = c ++ ((g ++ [z]) ++ z :: t):=by simp
      rw [ed,ec]
      exact b7a s0 k0 t c (g ++ [z]) z k (k2 + 1) (by omega) (by rw [← ec]; exact hn0) (by simp; omega) hl (by omega)
    · have ed:ddT y (z :: t) = z :: ddT z t:=by rw [ddT,if_neg e]
      have b3:0 ≤ (c.length:Int) ∧ (c.length:Int) < ((c ++ (g ++ y :: z :: t)).length:Int):=by simp; omega
      have g3:∃ w,(c ++ (g ++ y :: z :: t))[0 + ((c.length:Nat):Int).toNat]? = some w:=⟨_,List.getElem?_eq_getElem (by simp; omega)⟩
      obtain ⟨w,hw⟩:=g3
      have e4:w64 ((c.length:Int) + 1) = (((c ++ [z]).length:Nat):Int):=by rw [a3k (by omega)]; simp
      rw [if_pos (by simp [e]),if_pos b1,if_pos b3,hw,Option.bind_some,e4,ed]
      have ex:c ++ z :: ddT z t = (c ++ [z]) ++ ddT z t:=by simp
      rw [ex]
      cases g with
      | nil =>
        have es:(c ++ ([] ++ y :: z :: t)).set (0 + ((c.length:Nat):Int).toNat) z = (c ++ [z]) ++ ([] ++ z :: t):=by
          have:=b3o c (z :: t) y z
          simpa using this
        rw [es]
        exact b7a s0 k0 t (c ++ [z]) [] z k (k2 + 1) (by omega) (by simp at hn ⊢; omega) (by simp at hp ⊢; omega) hl (by omega)
      | cons g0 g' =>
        have es:(c ++ (g0 :: g' ++ y :: z :: t)).set (0 + ((c.length:Nat):Int).toNat) z = (c ++ [z]) ++ ((g' ++ [y]) ++ z :: t):=by
          have:=b3o c (g' ++ y :: z :: t) g0 z
          simpa using this
        rw [es]
        exact b7a s0 k0 t (c ++ [z]) (g' ++ [y]) z k (k2 + 1) (by omega) (by simp at hn ⊢; omega) (by simp at hp ⊢; omega) hl (by omega)
theorem c7s (s:List Str) (hl:s.length ≤ 2 ^ 20):∀ (xs pre:List Str) (y:Str),s = pre ++ y :: xs → a1a s xs (pre.length + 1) = some (if ddT y xs = xs then .go () else .ret (pre ++ y :: ddT y xs))
  | [],pre,y,_ => by rw [a1a]; simp [ddT]
  | x :: xs,pre,y,hs => by
    have hn:s.length = pre.length + 1 + 1 + xs.length:=by rw [hs]; simp; omega
    have e1:w64 ((((pre.length + 1:Nat)):Int) - 1) = ((pre.length:Nat):Int):=by rw [a3k (by omega)]; omega
    have g1:s[0 + ((pre.length:Nat):Int).toNat]? = some y:=by
      have:=a9q pre (x :: xs) y
      rw [← hs] at this
      simpa using this
    have es:s = (pre ++ [y]) ++ x :: xs:=by rw [hs]; simp
    rw [a1a,if_pos (by omega),e1,if_pos (by omega),g1,Option.bind_some]
    by_cases e:x = y
    · subst e
      have ed:ddT x (x :: xs) = ddT x xs:=by rw [ddT,if_pos rfl]
      have hne:¬ ddT x (x :: xs) = x :: xs:=by
        rw [ed]; intro h
        have:=c3c xs x
        rw [h] at this
        simp only [List.length_cons] at this
        omega
      have hf:=b3p
      rw [if_pos (by simp),if_pos (by omega),if_neg hne,ed]
      obtain ⟨R,h1,h2,h3⟩:=b7a s (pre.length + 1) xs (pre ++ [x]) [] x FUEL 1 (by omega) (by rw [es]; simp) (by simp) hl (by omega)
      have ec:((pre ++ [x]) ++ ([] ++ x :: xs)) = s:=by rw [es]; simp
      have el:(((pre ++ [x]).length:Nat):Int) = ((pre.length + 1:Nat):Int):=by simp
      have h1':a0w s (pre.length + 1) FUEL ((pre.length + 1:Nat):Int) 1 s = some ((((pre ++ [x] ++ ddT x xs).length:Nat):Int),R):=by
        rw [ec,el] at h1; exact h1
      rw [h1',Option.bind_some]
      have hle:(pre ++ [x] ++ ddT x xs).length ≤ R.length:=by have:=c3c xs x; rw [h2,hn]; simp; omega
      simp only
      rw [if_pos (by omega),if_pos (by omega)]
      have et:(R.take (((pre ++ [x] ++ ddT x xs).length:Nat):Int).toNat) = pre ++ x :: ddT x xs:=by
        rw [Int.toNat_natCast,h3]; simp
      rw [et]
      have el2:(((pre ++ [x] ++ ddT x xs).length:Nat):Int).toNat = (pre ++ x :: ddT x xs).length:=by rw [Int.toNat_natCast]; simp
      rw [el2,List.append_assoc,List.take_left']
      rfl
    · have ed:ddT y (x :: xs) = x :: ddT x xs:=by rw [ddT,if_neg e]
      have e2:pre.length + 1 + 1 = (pre ++ [y]).length + 1:=by simp
      rw [if_neg (by simp [e]),e2,c7s s hl xs (pre ++ [y]) x es,ed]
      by_cases q:ddT x xs = xs
      · rw [if_pos q,if_pos (by rw [q])]
      · rw [if_neg q,if_neg (by simpa using q)]
        simp
def c1m:List Str → List Str
  | [] => []
  | a :: t => a :: ddT a t
theorem d2u (s:List Str) (hl:s.length ≤ 2 ^ 20):a3c s = some (c1m s):=by
  unfold a3c
  cases s with
  | nil => rfl
  | cons a t =>
    cases t with
    | nil => rfl
    | cons b t =>
      rw [if_neg (by simp; omega)]
      have:=c7s (a :: b :: t) hl (b :: t) [] a rfl
      have e:a1a (a :: b :: t) ((a :: b :: t).drop 1) 1 = _:=this
      rw [e]
      by_cases q:ddT a (b :: t) = b :: t
      · rw [if_pos q,c1m,q]; rfl
      · rw [if_neg q,c1m]; rfl
def b4y {α:Type}:List (Str × α) → Str → α → List (Str × α)
  | [],k,v => [(k,v)]
  | (k',v') :: r,k,v => if b0b k' k < 0 then (k',v') :: b4y r k v else if k' = k then (k,v) :: r else (k,v) :: (k',v') :: r
theorem d1l {α:Type} (k:Str) (v:α):∀ kv:List (Str × α),(b4y kv k v).length ≤ kv.length + 1
  | [] => by simp [b4y]
  | (k',v') :: r => by
    have:=d1l k v r
    unfold b4y
    split
    · simp only [List.length_cons]; omega
    · split <;> simp
theorem c7t {α:Type} (k:Str) (v:α) (q:Str):∀ kv:List (Str × α),a5m (b4y kv k v) q = if k = q then some v else a5m kv q
  | [] => by simp [b4y,a5m]
  | (k',v') :: r => by
    unfold b4y
    split
    · rename_i h
      simp only [a5m]
      rw [c7t k v q r]
      by_cases e1:k' = q
      · by_cases e2:k = q
        · subst e1; subst e2; exact absurd h (b1w _)
        · simp [e1,e2]
      · simp [e1]
    · split
      · rename_i e; subst e
        simp only [a5m]
        by_cases e2:k' = q <;> simp [e2]
      · simp only [a5m]
theorem c5g {α:Type} (k:Str) (v:α) (q:Str):∀ kv:List (Str × α),q ∈ (b4y kv k v).map Prod.fst ↔ q = k ∨ q ∈ kv.map Prod.fst
  | [] => by simp [b4y]
  | (k',v') :: r => by
    unfold b4y
    split
    · simp only [List.map_cons,List.mem_cons,c5g k v q r]
      constructor
      · rintro (h | h | h)
        · exact .inr (.inl h)
        · exact .inl h
        · exact .inr (.inr h)
      · rintro (h | h | h)
        · exact .inr (.inl h)
        · exact .inl h
        · exact .inr (.inr h)
    · split
      · rename_i e; subst e
        simp only [List.map_cons,List.mem_cons]
        constructor
        · rintro (h | h)
          · exact .inl h
          · exact .inr (.inr h)
        · rintro (h | h | h)
          · exact .inl h
          · exact .inl h
          · exact .inr h
      · simp only [List.map_cons,List.mem_cons]
theorem c2e {α:Type} (k:Str) (v:α):∀ kv:List (Str × α),a8f (kv.map Prod.fst) → a8f ((b4y kv k v).map Prod.fst)
  | [],_ => List.pairwise_singleton _ _
  | (k',v') :: r,h => by
    have h0:=h
    obtain ⟨h1,h2⟩:=List.pairwise_cons.1 h
    unfold b4y
    split
    · rename_i c
      refine List.pairwise_cons.2 ⟨fun q hq => ?_,c2e k v r h2⟩
      rcases (c5g k v q r).1 hq with rfl | hq
      · exact c
      · exact h1 q hq
    · rename_i c
      split
      · rename_i e; subst e; exact h0
      · rename_i e
        have hk:b0b k k' < 0:=by
          have a1:=c7p k' k
          have a2:b0b k' k ≠ 0:=fun z => e ((b2r _ _).1 z)
          omega
        refine List.pairwise_cons.2 ⟨fun q hq => ?_,h0⟩
        rcases List.mem_cons.1 hq with rfl | hq
        · exact hk
        · exact b4x hk (h1 q hq)
def b9y {α:Type} (kv l:List (Str × α)):List (Str × α):=l.foldl (fun kv p => b4y kv p.1 p.2) kv
def c9f {α:Type} (m l:List (Str × α)):List (Str × α):=l.foldl (fun m p => b2a m p.1 p.2) m
theorem c1n {α:Type} (k:Str) (v:α) (q:Str):∀ m:List (Str × α),a5m (b2a m k v) q = if k = q then some v else a5m m q
  | [] => by simp [b2a,a5m]
  | (k',v') :: r => by
    unfold b2a
    split
    · rename_i e; subst e
      simp only [a5m]
      by_cases e2:k' = q <;> simp [e2]
    · rename_i h
      simp only [a5m]
      rw [c1n k v q r]
      by_cases e1:k' = q
      · by_cases e2:k = q
        · subst e1; subst e2; exact absurd rfl h
        · simp [e1,e2]
      · simp [e1]
theorem c5h {α:Type} (q:Str):∀ (l kv:List (Str × α)),q ∈ (b9y kv l).map Prod.fst ↔ q ∈ l.map Prod.fst ∨ q ∈ kv.map Prod.fst
  | [],kv => by simp [b9y]
  | p :: l,kv => by
    have:=c5h q l (b4y kv p.1 p.2)
    simp only [b9y,List.foldl_cons] at this ⊢
    rw [this,c5g]
    simp only [List.map_cons,List.mem_cons]
    constructor
    · rintro (h | h | h)
      · exact .inl (.inr h)
      · exact .inl (.inl h)
      · exact .inr h
    · rintro ((h | h) | h)
      · exact .inr (.inl h)
      · exact .inl h
      · exact .inr (.inr h)
theorem b6n {α:Type}:∀ (l kv:List (Str × α)),a8f (kv.map Prod.fst) → a8f ((b9y kv l).map Prod.fst)
  | [],kv,h => h
  | p :: l,kv,h => by
    have:=b6n l (b4y kv p.1 p.2) (c2e _ _ _ h)
    simpa only [b9y,List.foldl_cons] using this
theorem c7u {α β:Type} (f:α → β):∀ (l m:List (Str × α)) (kv:List (Str × β)),(∀ q,a5m kv q = (a5m m q).map f) → ∀ q,a5m (b9y kv (l.map fun p => (p.1,f p.2))) q = (a5m (c9f m l) q).map f
  | [],m,kv,h,q => h q
  | p :: l,m,kv,h,q => by
    have:=c7u f l (b2a m p.1 p.2) (b4y kv p.1 (f p.2)) (fun q => by
      rw [c7t,c1n]
      by_cases e:p.1 = q
      · simp [e]
      · simp [e,h q]) q
    simpa only [b9y,c9f,List.map_cons,List.foldl_cons] using this
theorem d1m {α:Type} (q:Str) (d:α):∀ (l m:List (Str × α)),a5m (c9f m l) q = some d → d ∈ l.map Prod.snd ∨ a5m m q = some d
  | [],m,h => .inr h
  | p :: l,m,h => by
    have h':a5m (c9f (b2a m p.1 p.2) l) q = some d:=by simpa only [c9f,List.foldl_cons] using h
    rcases d1m q d l _ h' with h1 | h1
    · exact .inl (by simp only [List.map_cons,List.mem_cons]; exact .inr h1)
    · rw [c1n] at h1
      by_cases e:p.1 = q
      · rw [if_pos e] at h1; cases h1
        exact .inl (by simp)
      · rw [if_neg e] at h1; exact .inr h1
theorem c2f {α:Type}:∀ (kv:List (Str × α)),a8f (kv.map Prod.fst) → ∀ p ∈ kv,a5m kv p.1 = some p.2
  | [],_,p,hp => by simp at hp
  | (k,v) :: r,h,p,hp => by
    obtain ⟨h1,h2⟩:=List.pairwise_cons.1 h
    rcases List.mem_cons.1 hp with rfl | hp
    · simp [a5m]
    · have hne:¬ k = p.1:=fun e => b1w k (by
        have:=h1 p.1 (List.mem_map.2 ⟨p,hp,rfl⟩)
        rwa [← e] at this)
      simp only [a5m,hne,if_false]
      exact c2f r h2 p hp
/-! the reference's order of keys -/
def dj (d:List x8):y7:=(a2y d).getD ⟨0,0,[],[],[]⟩
theorem e5x (d:List x8) (h:b3r d ≤ 2 ^ 20):a2y d = some (dj d) ∧ a6y d = some (dj d) ∧ a6l (dj d) ≤ 2 ^ 25:=by
  obtain ⟨j,e1,e2,e3⟩:=e1e d h
  have:dj d = j:=by unfold dj; rw [e1]; rfl
  rw [this]
  exact ⟨e1,e2,e3⟩
theorem c7v (r:b1r):∀ (xs:List Str) (i:Nat) (m:List (Str × List x8)),i + xs.length = r.Cells.length → a4s r xs i m = some (c9f m (xs.zip (r.Cells.drop i)))
  | [],i,m,hi => by rw [a4s]; simp [c9f]
  | x :: xs,i,m,hi => by
    simp only [List.length_cons] at hi
    obtain ⟨v,hv⟩:∃ v,r.Cells[i]? = some v:=⟨_,List.getElem?_eq_getElem (by omega)⟩
    obtain ⟨_,hv'⟩:=List.getElem?_eq_some_iff.1 hv
    have ed:r.Cells.drop i = v :: r.Cells.drop (i + 1):=by rw [List.drop_eq_getElem_cons (by omega),hv']
    rw [a4s,b1h,hv,Option.bind_some,c7v r xs (i + 1) _ (by omega),ed]
    rfl
theorem c7w (rr:List Str) (m:List (Str × List x8)):∀ (kv:List (Str × y7)) (i:Nat) (out:List y7),(∀ p ∈ kv,∃ d,a5m m p.1 = some d ∧ a2y d = some p.2) → i + kv.length ≤ rr.length → out.length + kv.length ≤ 2 ^ 20 → a4t rr m (kv.map Prod.fst) i out = some (out ++ kv.map Prod.snd)
  | [],i,out,_,_,_ => by rw [List.map_nil,a4t]; simp
  | p :: kv,i,out,h,hi,hl => by
    simp only [List.length_cons] at hi hl
    obtain ⟨d,h1,h2⟩:=h p (by simp)
    rw [List.map_cons,a4t,if_pos (by omega),h1,Option.bind_some,h2,Option.bind_some,if_pos (by simp; omega),c7w rr m kv (i + 1) _ (fun q hq => h q (by simp [hq])) (by omega) (by simp; omega)]
    simp
def b4j (columns:List Str) (r:b1r):List (Str × y7):=b9y [] ((columns.zip r.Cells).map fun p => (p.1,dj p.2))
theorem d1n {α:Type}:∀ (l kv:List (Str × α)),(b9y kv l).length ≤ kv.length + l.length
  | [],kv => by simp [b9y]
  | p :: l,kv => by
    have h1:=d1n l (b4y kv p.1 p.2)
    have h2:=d1l p.1 p.2 kv
    have e:b9y kv (p :: l) = b9y (b4y kv p.1 p.2) l:=rfl
    rw [e]; simp only [List.length_cons]; omega
theorem d2v (columns:List Str) (r:b1r):∀ p ∈ b4j columns r,p.1 ∈ columns ∧ ∃ d ∈ r.Cells,p.2 = dj d ∧ a5m (c9f [] (columns.zip r.Cells)) p.1 = some d:=by
  intro p hp
  have hs:a8f ((b4j columns r).map Prod.fst):=b6n _ _ .nil
  have hl:=c2f _ hs p hp
  have hk:=c7u dj (columns.zip r.Cells) [] [] (fun q => rfl) p.1
  have hk:a5m (b4j columns r) p.1 = (a5m (c9f [] (columns.zip r.Cells)) p.1).map dj:=hk
  rw [hl] at hk
  obtain ⟨d,h1,h2⟩:=Option.map_eq_some_iff.1 hk.symm
  refine ⟨?_,d,?_,h2.symm,h1⟩
  · have hpm:p.1 ∈ (b9y [] ((columns.zip r.Cells).map fun p => (p.1,dj p.2))).map Prod.fst:=List.mem_map.2 ⟨p,hp,rfl⟩
    have:=(c5h p.1 ((columns.zip r.Cells).map fun p => (p.1,dj p.2)) []).1 hpm
    rcases this with h | h
    · simp only [List.map_map,List.mem_map,Function.comp] at h
      obtain ⟨q,hq,e⟩:=h
      rw [← e]; exact (List.of_mem_zip hq).1
    · simp at h
  · rcases d1m p.1 d _ _ h1 with h | h
    · obtain ⟨q,hq,e⟩:=List.mem_map.1 h
      rw [← e]; exact (List.of_mem_zip hq).2
    · simp [a5m] at h
theorem d2w (columns:List Str) (r:b1r) (hn:r.Cells.length = columns.length) (hl:columns.length ≤ 12) (hw:∀ d ∈ r.Cells,b3r d ≤ 2 ^ 20):b0u columns r = some ⟨5,0,[],(b4j columns r).map Prod.fst,(b4j columns r).map Prod.snd⟩:=by
  unfold b0u a2o
  rw [c7v r columns 0 [] (by omega),Option.bind_some,if_pos (by simp; omega),Option.bind_some,List.nil_append,List.drop_zero]
  obtain ⟨s,e,h1,h2⟩:=e0d columns hl
  have hlen:=h2.length_eq
  rw [e,Option.bind_some,d2u s (by omega),Option.bind_some]
  have hst:a8f (c1m s):=by
    cases s with
    | nil => exact .nil
    | cons a t => exact b8f t a h1
  have hm:∀ x,x ∈ c1m s ↔ x ∈ columns:=by
    intro x
    rw [← h2.mem_iff]
    cases s with
    | nil => rfl
    | cons a t => exact c3b x t a
  have hs:a8f ((b4j columns r).map Prod.fst):=b6n _ _ .nil
  have hk:c1m s = (b4j columns r).map Prod.fst:=by
    refine a8f.ext hst hs (fun x => ?_)
    rw [hm]
    unfold b4j
    rw [c5h]
    simp only [List.map_map,List.map_nil,List.not_mem_nil,or_false]
    have e2:(columns.zip r.Cells).map (Prod.fst ∘ fun p:Str × List x8 => (p.1,dj p.2)) = columns:=by
      have:(Prod.fst ∘ fun p:Str × List x8 => (p.1,dj p.2)) = Prod.fst:=rfl
      rw [this,List.map_fst_zip (by omega)]
    rw [e2]
  have hlk:(b4j columns r).length ≤ 12:=by
    have:=d1n ((columns.zip r.Cells).map fun p => (p.1,dj p.2)) []
    simp only [List.length_map,List.length_zip,List.length_nil] at this
    unfold b4j; omega
  rw [hk,c7w _ _ (b4j columns r) 0 [] (fun p hp => by
    obtain ⟨_,d,q1,q2,q3⟩:=d2v columns r p hp
    exact ⟨d,q3,by rw [(e5x d (hw d q1)).1,q2]⟩) (by simp) (by simp; omega),Option.bind_some,List.nil_append]
  rfl
def rfB (columns:List Str) (r:b1r):Bool:=decide (columns.length ≤ 6) && columns.all c1j && rowB columns.length r
theorem d5u (columns:List Str) (r:b1r) (h:d2r r):b0t columns r = some (rfB columns r):=by
  unfold b0t rfB
  by_cases c:columns.length ≤ 6
  · have e1:decide ((columns.length:Int) ≤ 6) = true:=decide_eq_true (by omega)
    rw [e1,if_pos rfl,a9j _ (fun t => !c1j t) columns (fun t _ => by unfold b0q; rw [d8o]; rfl),c4z,Option.bind_some,Bool.not_not]
    cases hb:columns.all c1j with
    | false => simp
    | true => rw [if_pos rfl,d5n r _ h,Option.bind_some]; simp [c]
  · have e1:decide ((columns.length:Int) ≤ 6) = false:=decide_eq_false (by omega)
    rw [e1]; simp [c]
theorem e1g:okI .i64 0:=b2m.2 (by omega)
theorem d8x {n:Int} (h:okI .i64 n):a6q ⟨2,n,[],[],[]⟩:=.mk (b2m.2 (by simp only; omega)) h (by simp [okS]) ⟨by simp,by simp⟩ (by simp) (by simp)
theorem d2x {t:Str} (h:okS t):a6q ⟨3,0,t,[],[]⟩:=.mk (b2m.2 (by simp only; omega)) e1g h ⟨by simp,by simp⟩ (by simp) (by simp)
theorem e1h {k n:Int} (hk:0 ≤ k ∧ k ≤ 5) (h:0 ≤ n ∧ n ≤ 1):a6q ⟨k,n,[],[],[]⟩:=.mk (b2m.2 (by simp only; omega)) (b2m.2 (by simp only; omega)) (by simp [okS]) ⟨by simp,by simp⟩ (by simp) (by simp)
theorem d2y {l:List y7} (hl:l.length ≤ maxLen) (h:∀ y ∈ l,a6q y):a6q ⟨4,0,[],[],l⟩:=.mk (b2m.2 (by simp only; omega)) e1g (by simp [okS]) ⟨by simp,by simp⟩ hl h
theorem e1i {ks:List Str} {l:List y7} (hk:okL (okS) ks) (hl:l.length ≤ maxLen) (h:∀ y ∈ l,a6q y):a6q ⟨5,0,[],ks,l⟩:=.mk (b2m.2 (by simp only; omega)) e1g (by simp [okS]) hk hl h
theorem c7x {t:Str} (h:t.length ≤ 100):okS t:=by unfold okS; simp only [maxLen]; omega
theorem b6o (b:List Str):∀ (xs:List Str) (i:Nat),b.drop i = xs → a3w b xs i = some (.go ())
  | [],i,_ => by rw [a3w]
  | x :: xs,i,h => by
    rw [a3w,b9f h,Option.bind_some,if_neg (by simp),b6o b xs (i + 1) (b2o h)]
theorem d1o (l:List Str):a8u l l = some true:=by
  unfold a8u
  rw [if_neg (by simp),b6o l l 0 (by simp)]
  rfl
theorem b7m (b:y7) (rec:y7 → y7 → Option Bool):∀ (xs:List y7) (i:Nat),(∀ x ∈ xs,rec x x = some true) → b.Items.drop i = xs → a3m b rec xs i = some (.go ())
  | [],i,_,_ => by rw [a3m]
  | x :: xs,i,hr,h => by
    rw [a3m,b9f h,Option.bind_some,hr x (by simp),Option.bind_some,if_neg (by simp),b7m b rec xs (i + 1) (fun y hy => hr y (by simp [hy])) (b2o h)]
theorem b9z:∀ (k:Nat) (j:y7),a6l j < k → a5t k j j = some true
  | 0,j,h => by omega
  | k + 1,j,h => by
    rw [c1l] at h
    rw [a5t]
    unfold a9m
    rw [if_neg (by simp),d1o,Option.bind_some,Option.bind_some,if_neg (by simp),b7m j (a5t k) j.Items 0 (fun y hy => b9z k y (by have:=b3s hy; omega)) (by simp)]
    rfl
theorem d2z (j:y7) (h:a6l j < 2 ^ 61):a5t FUEL j j = some true:=b9z FUEL j (fuel_lt (by omega))
def aj (a:x8):y7:=if a.Kind = 1 then ⟨2,a.N,[],[],[]⟩ else if a.Kind = 2 then ⟨3,0,a.T,[],[]⟩ else if a.Kind = 3 then ⟨1,a.N,[],[],[]⟩ else ⟨4,0,[],[],[⟨3,0,[117,117,105,100],[],[]⟩,⟨2,a.N,[],[],[]⟩]⟩
structure AjP (a:x8):Prop where
  to:a5r a = some (aj a)
  back:a5s (aj a) = some (a,true)
  ok:a6q (aj a)
  deep:∀ e,OkD (e + 2) (aj a) ∧ a7a (e + 2) (aj a) ≤ 3
  mem:∃ l,a5d (aj a) = some (l,false)
  nn:(aj a).Kind ≠ 0
theorem d4p (e:Nat) (n:Int) (h:-1000000000 ≤ n ∧ n ≤ 1000000000):OkD (e + 1) ⟨2,n,[],[],[]⟩ ∧ a7a (e + 1) ⟨2,n,[],[],[]⟩ = 1:=by
  refine ⟨⟨.inr (.inr (.inl ⟨rfl,h,rfl,rfl,rfl⟩)),by simp⟩,by simp [a7a]⟩
theorem c9g (e:Nat) (t:Str) (h:b3m t = true):OkD (e + 1) ⟨3,0,t,[],[]⟩ ∧ a7a (e + 1) ⟨3,0,t,[],[]⟩ = 1:=by
  refine ⟨⟨.inr (.inr (.inr (.inl ⟨rfl,rfl,h,rfl,rfl⟩))),by simp⟩,by simp [a7a]⟩
theorem c7y {t:Str} (h:b3m t = true):t.length ≤ 200:=by
  unfold b3m at h
  simp only [Bool.and_eq_true,decide_eq_true_eq] at h
  omega
theorem e5z (a:x8) (h:a9k a = true):AjP a:=by
  obtain ⟨k,n,t⟩:=a
  have h0:=h
  unfold a9k at h
  simp only [Bool.or_eq_true,Bool.and_eq_true,decide_eq_true_eq] at h
  rcases h with ((⟨⟨rfl,h2⟩,rfl⟩ | ⟨⟨rfl,rfl⟩,h3⟩) | ⟨⟨rfl,h2⟩,rfl⟩) | ⟨⟨rfl,h2⟩,rfl⟩
  · refine ⟨rfl,?_,d8x (b2m.2 (by simp only; omega)),fun e => ?_,⟨_,rfl⟩,by simp [aj]⟩
    · simp only [aj,a5s,if_true]
      simp [b3e,h0]
    · have:=d4p (e + 1) n h2
      exact ⟨this.1,by show a7a (e + 1 + 1) ⟨2,n,[],[],[]⟩ ≤ 3; rw [this.2]; omega⟩
  · have hl:=c7y h3
    refine ⟨rfl,?_,d2x (by unfold okS; simp only [maxLen]; omega),fun e => ?_,⟨_,rfl⟩,by simp [aj]⟩
    · simp only [aj,a5s]
      simp [b3e,h0]
    · have:=c9g (e + 1) t h3
      exact ⟨this.1,by show a7a (e + 1 + 1) ⟨3,0,t,[],[]⟩ ≤ 3; rw [this.2]; omega⟩
  · refine ⟨?_,?_,e1h (by omega) h2,fun e => ?_,⟨_,rfl⟩,by simp [aj]⟩
    · have:n = 0 ∨ n = 1:=by omega
      rcases this with rfl | rfl <;> rfl
    · simp only [aj,a5s]
      simp [b3e,h0]
    · refine ⟨⟨.inr (.inl ⟨rfl,h2,rfl,rfl,rfl⟩),by simp [aj]⟩,by simp [aj,a7a]⟩
  · refine ⟨rfl,?_,?_,fun e => ?_,?_,by simp [aj]⟩
    · simp only [aj,a5s,a5o,idx]
      simp [b3e,h0]
    · refine d2y (by simp [maxLen]) ?_
      intro y hy
      simp only [List.mem_cons,List.not_mem_nil,or_false] at hy
      rcases hy with rfl | rfl
      · exact d2x (c7x (by simp))
      · exact d8x (b2m.2 (by omega))
    · have a1:=c9g e [117,117,105,100] (by decide)
      have a2:=d4p e n (by omega)
      refine ⟨⟨.inr (.inr (.inr (.inr (.inl ⟨rfl,rfl,rfl,rfl⟩)))),?_⟩,?_⟩
      · intro y hy
        have hy:y ∈ ([⟨3,0,[117,117,105,100],[],[]⟩,⟨2,n,[],[],[]⟩]:List y7):=hy
        simp only [List.mem_cons,List.not_mem_nil,or_false] at hy
        rcases hy with rfl | rfl
        · exact a1.1
        · exact a2.1
      · show 1 + (List.map (a7a (e + 1)) [⟨3,0,[117,117,105,100],[],[]⟩,⟨2,n,[],[],[]⟩]).sum ≤ 3
        simp only [List.map_cons,List.map_nil,List.sum_cons,List.sum_nil,a1.2,a2.2]; omega
    · refine ⟨[],?_⟩
      simp only [aj,a5d,a5o,idx]
      simp
theorem c1o:∀ (xs:List x8) (out:List y7),(∀ x ∈ xs,AjP x) → out.length + xs.length ≤ 2 ^ 20 → a1y xs out = some (out ++ xs.map aj)
  | [],out,_,_ => by rw [a1y]; simp
  | x :: xs,out,h,hl => by
    simp only [List.length_cons] at hl
    rw [a1y,(h x (by simp)).to,Option.bind_some,if_pos (by simp; omega),c1o xs _ (fun y hy => h y (by simp [hy])) (by simp; omega)]
    simp
theorem b8g:∀ (xs out:List x8),(∀ x ∈ xs,AjP x) → out.length + xs.length ≤ 2 ^ 20 → a3v (xs.map aj) out = some (.go (out ++ xs))
  | [],out,_,_ => by rw [List.map_nil,a3v]; simp
  | x :: xs,out,h,hl => by
    simp only [List.length_cons] at hl
    rw [List.map_cons,a3v,(h x (by simp)).back,Option.bind_some,if_neg (by simp),if_pos (by simp; omega),b8g xs _ (fun y hy => h y (by simp [hy])) (by simp; omega)]
    simp
theorem c5i (kind:Int) (d:List x8) (h:a6k kind d) (hl:d.length ≤ 8):a9a d = some (d,0):=by
  obtain ⟨d',e,h1,h2,h3,h4⟩:=d5q kind d h.atom (by omega)
  have:d' = d:=b0y.ext h1 h.strict h2
  subst this
  rw [e,if_neg (by omega)]
structure DjP (d:List x8):Prop where
  to:a2y d = some (dj d)
  ref:a6y d = some (dj d)
  back:a7m (dj d) = some (d,true)
  ok:a6q (dj d)
  deep:∀ e,OkD (e + 4) (dj d) ∧ a7a (e + 4) (dj d) ≤ 20
  nn:(dj d).Kind ≠ 0
  wt:a6l (dj d) ≤ 2 ^ 25
  w:b3r d ≤ 2 ^ 20
theorem c5j (kind:Int) (d:List x8) (h:a6k kind d) (hl:d.length ≤ 4):DjP d:=by
  have hA:∀ x ∈ d,AjP x:=fun x hx => e5z x (h.atom x hx).1
  have hw:b3r d ≤ 2 ^ 20:=by
    have:∀ l:List x8,(∀ x ∈ l,x.T.length ≤ 200) → b3q l ≤ l.length * 201:=by
      intro l
      induction l with
      | nil => intro _; simp [b3q]
      | cons x l ih =>
        intro hh
        have h1:=hh x (by simp)
        have h2:=ih (fun y hy => hh y (by simp [hy]))
        simp only [b3q,c9e,List.length_cons,Nat.add_mul,Nat.one_mul]; omega
    have h2:=this d (fun x hx => by
      have h0:=(h.atom x hx).1
      unfold a9k at h0
      simp only [Bool.or_eq_true,Bool.and_eq_true,decide_eq_true_eq] at h0
      rcases h0 with ((⟨_,e⟩ | ⟨_,e⟩) | ⟨_,e⟩) | ⟨_,e⟩
      · rw [e]; simp
      · exact c7y e
      · rw [e]; simp
      · rw [e]; simp)
    have h3:d.length * 201 ≤ 4 * 201:=Nat.mul_le_mul_right _ hl
    unfold b3r; omega
  obtain ⟨e1,e2,e3⟩:=e5x d hw
  by_cases c:d.length = 1
  · obtain ⟨x,rfl⟩:∃ x,d = [x]:=by
      match d,c with
      | [x],_ => exact ⟨x,rfl⟩
    have hx:=hA x (by simp)
    have ej:dj [x] = aj x:=by
      have:a2y [x] = some (aj x):=by
        unfold a2y
        rw [c1o [x] [] hA (by simp),Option.bind_some]
        simp
      exact (Option.some.inj (this.symm.trans e1)).symm
    rw [ej] at e1 e2 e3
    refine ⟨by rw [ej]; exact e1,by rw [ej]; exact e2,?_,by rw [ej]; exact hx.ok,fun e => ?_,by rw [ej]; exact hx.nn,by rw [ej]; exact e3,hw⟩
    · rw [ej]
      obtain ⟨l,hm⟩:=hx.mem
      unfold a7m
      rw [hm,Option.bind_some]
      simp only [Bool.not_false,if_true,Option.bind_some]
      have:=b8g [x] [] hA (by simp)
      simp only [List.map_cons,List.map_nil,List.nil_append] at this
      rw [this,Option.bind_some]
      simp only []
      rw [c5i kind [x] h (by simp)]
      rfl
    · rw [ej]
      have:=hx.deep (e + 2)
      exact ⟨this.1,by have:=this.2; show a7a (e + 2 + 2) (aj x) ≤ 20; omega⟩
  · have ej:dj d = ⟨4,0,[],[],[⟨3,0,[115,101,116],[],[]⟩,⟨4,0,[],[],d.map aj⟩]⟩:=by
      have:a2y d = some ⟨4,0,[],[],[⟨3,0,[115,101,116],[],[]⟩,⟨4,0,[],[],d.map aj⟩]⟩:=by
        unfold a2y
        rw [c1o d [] hA (by simp; omega),Option.bind_some,List.nil_append]
        have c':¬ (((d.map aj).length:Int) == 1) = true:=by simp; omega
        rw [if_neg c']
        rfl
      exact (Option.some.inj (this.symm.trans e1)).symm
    have hml:(d.map aj).length ≤ maxLen:=by simp only [List.length_map,maxLen]; omega
    refine ⟨e1,e2,?_,?_,fun e => ?_,by rw [ej]; simp,e3,hw⟩
    · rw [ej]
      have hm:a5d ⟨4,0,[],[],[⟨3,0,[115,101,116],[],[]⟩,⟨4,0,[],[],d.map aj⟩]⟩ = some (d.map aj,true):=by
        simp only [a5d,a5o,idx]
        simp
      unfold a7m
      rw [hm,Option.bind_some]
      simp only [Bool.not_true,Bool.false_eq_true,if_false,Option.bind_some]
      rw [b8g d [] hA (by simp; omega),Option.bind_some,List.nil_append]
      simp only []
      rw [c5i kind d h (by omega)]
      rfl
    · rw [ej]
      refine d2y (by simp [maxLen]) ?_
      intro y hy
      simp only [List.mem_cons,List.not_mem_nil,or_false] at hy
      rcases hy with rfl | rfl
      · exact d2x (c7x (by simp))
      · refine d2y hml (fun z hz => ?_)
        obtain ⟨x,hx,rfl⟩:=List.mem_map.1 hz
        exact (hA x hx).ok
    · rw [ej]
      have a1:=c9g (e + 2) [115,101,116] (by decide)
      have hs:∀ l:List x8,(∀ x ∈ l,AjP x) → ((l.map aj).map (a7a (e + 2))).sum ≤ 3 * l.length:=by
        intro l
        induction l with
        | nil => intro _; simp
        | cons x l ih =>
          intro hh
          have h1:=(hh x (by simp)).deep e
          have h2:=ih (fun y hy => hh y (by simp [hy]))
          simp only [List.map_cons,List.sum_cons,List.length_cons] at h2 ⊢
          have:=h1.2
          push_cast
          omega
      have h2:=hs d hA
      have hI:OkD (e + 3) ⟨4,0,[],[],d.map aj⟩:=⟨.inr (.inr (.inr (.inr (.inl ⟨rfl,rfl,rfl,rfl⟩)))),fun y hy => by
        obtain ⟨x,hx,rfl⟩:=List.mem_map.1 hy
        exact ((hA x hx).deep e).1⟩
      refine ⟨⟨.inr (.inr (.inr (.inr (.inl ⟨rfl,rfl,rfl,rfl⟩)))),?_⟩,?_⟩
      · intro y hy
        simp only [List.mem_cons,List.not_mem_nil,or_false] at hy
        rcases hy with rfl | rfl
        · exact a1.1
        · exact hI
      · show 1 + (List.map (a7a (e + 3)) [⟨3,0,[115,101,116],[],[]⟩,⟨4,0,[],[],d.map aj⟩]).sum ≤ 20
        have e2':a7a (e + 3) ⟨4,0,[],[],d.map aj⟩ = 1 + ((d.map aj).map (a7a (e + 2))).sum:=rfl
        simp only [List.map_cons,List.map_nil,List.sum_cons,List.sum_nil,a1.2,e2']
        simp only [List.map_map] at h2 ⊢
        omega
theorem c1p (j:y7) (ok:a6q j) (h1:OkD 12 j) (h2:a7a 12 j ≤ 400):a8s j = some true:=by
  have hf:2 ^ 40 < FUEL:=by unfold FUEL; decide
  obtain ⟨b,room',e1,_,hb,_⟩:=c7m FUEL 12 j 400 (by omega) (by omega) (by omega) (by omega) ok
  unfold a8s
  have e0:(12:Int) - ((12:Nat):Int) = 0:=by decide
  rw [e0] at e1
  rw [e1,Option.bind_some,hb.2 ⟨h1,h2⟩]
theorem c0c (d:List x8) (h:DjP d):a7n (dj d) = some (d,0):=by
  unfold a7n
  have h1:=h.deep 8
  rw [c1p _ h.ok h1.1 (by have:=h1.2; show a7a (8 + 4) (dj d) ≤ 400; omega),Option.bind_some,if_neg (by simp),h.back,Option.bind_some,if_neg (by simp)]
theorem c7z:∀ xs:List x8,(∀ x ∈ xs,a9k x = true) → a5g xs = some (.go ())
  | [],_ => by rw [a5g]
  | x :: xs,h => by
    have hx:=h x (by simp)
    have ha:=e5z x hx
    have h1:=ha.deep 10
    have e1:a9e x = some (aj x,0):=by
      unfold a9e
      rw [b3e,hx,Option.bind_some,if_neg (by simp),ha.to,Option.bind_some]
    have e2:a9f (aj x) = some (x,0):=by
      unfold a9f
      rw [c1p _ ha.ok h1.1 (by have:=h1.2; show a7a (10 + 2) (aj x) ≤ 400; omega),Option.bind_some,if_neg (by simp),ha.back,Option.bind_some,if_neg (by simp)]
    rw [a5g,e1,Option.bind_some]
    simp only []
    rw [e2,Option.bind_some]
    simp only []
    rw [if_neg (by simp),Option.bind_some,c5a,if_neg (by simp)]
    exact c7z xs (fun y hy => h y (by simp [hy]))
/-! a drawn row -/
theorem e6a (c:a3f) (hk:1 ≤ c.Kind ∧ c.Kind ≤ 4) {d0:List x8} (s:a1h) (hd:a6k c.Kind d0 ∧ d0.length ≤ 1) (h:b5l s) (ha:s.At + 2 < 2 ^ 50) :
    ∃ d s',((a5p 2 s).bind fun r_125 => if r_125.1 then (a4x c.Kind r_125.2).bind fun r_128 => some (r_128.2.Code,r_128.2.At,r_128.2.Seed,[r_128.1]) else some (r_125.2.Code,r_125.2.At,r_125.2.Seed,d0):Option ((List Int) × Int × Int × (List x8))) = some (s'.Code,s'.At,s'.Seed,d) ∧ a6k c.Kind d ∧ d.length ≤ 1 ∧ Nx s s' 2:=by
  obtain ⟨b,s1,e1,n1⟩:=d8p 2 s h (by omega) (by omega) (by omega)
  rw [e1,Option.bind_some]
  have:=n1.hi
  cases b with
  | false => exact ⟨d0,s1,rfl,hd.1,hd.2,n1.mono (by omega)⟩
  | true =>
    obtain ⟨a,s2,e2,g1,g2,n2⟩:=d8s c.Kind s1 hk n1.ok (by omega)
    simp only [if_true]
    rw [e2,Option.bind_some]
    refine ⟨[a],s2,rfl,⟨fun x hx => ?_,fun i x y hx hy => ?_⟩,by simp,(n1.trans n2).mono (by omega)⟩
    · simp only [List.mem_singleton] at hx; subst hx; exact ⟨g1,g2⟩
    · simp at hy
theorem c5k (s:a1h) (out:List (List x8)) (c:a3f) (cs:List a3f) (hk:1 ≤ c.Kind ∧ c.Kind ≤ 4) {d0:List x8} (hd0:a9n c = some d0) (hd:a6k c.Kind d0 ∧ d0.length ≤ 1) (h:b5l s) (ha:s.At + 2 < 2 ^ 50) (ho:out.length ≤ 100) :
    ∃ d s',a3b (c :: cs) s.Code s.At s.Seed out = a3b cs s'.Code s'.At s'.Seed (out ++ [d]) ∧ a6k c.Kind d ∧ d.length ≤ 1 ∧ Nx s s' 2:=by
  obtain ⟨d,s',e,h1,h2,h3⟩:=e6a c hk s hd h ha
  refine ⟨d,s',?_,h1,h2,h3⟩
  rw [a3b,hd0,Option.bind_some]
  have es:(⟨s.Code,s.At,s.Seed⟩:a1h) = s:=rfl
  rw [es,e,Option.bind_some]
  simp only []
  rw [if_pos (by simp; omega)]
theorem d8y (k:Int):a6k k []:=⟨by simp,by simp⟩
theorem d1p {k:Int} {a:x8} (h:a9k a = true) (hk:a.Kind = k):a6k k [a]:=⟨fun x hx => by simp only [List.mem_singleton] at hx; subst hx; exact ⟨h,hk⟩,fun i x y hx hy => by simp at hy⟩
theorem d1q (more:List Int) (hc:∀ x ∈ more,0 ≤ x ∧ x < 256) (hl:(more.length:Int) ≤ 1048576):∃ r c0 c1 c2,a9g more 1 = some r ∧ r.Cells = [c0,c1,c2] ∧ a6k 2 c0 ∧ a6k 1 c1 ∧ a6k 3 c2 ∧ c0.length ≤ 1 ∧ c1.length ≤ 1 ∧ c2.length ≤ 1:=by
  unfold a9g
  obtain ⟨s,e1,g1,g2,_⟩:=d1e more hc hl
  rw [e1,Option.bind_some]
  unfold a9o
  obtain ⟨v,s1,e2,v1,v2,n1⟩:=b8d 9 s g1 (by rw [g2]; decide) (by omega) (by omega)
  have hP:a9b = some _:=rfl
  rw [hP,Option.bind_some,if_pos (by decide)]
  simp only [List.getElem?_cons_succ,List.getElem?_cons_zero,Option.bind_some,show (0 + Int.toNat 1) = 1 from rfl]
  rw [e2,Option.bind_some]
  have b1:=n1.hi
  rw [g2] at b1
  obtain ⟨c0,s2,q1,p1,l1,n2⟩:=c5k s1 [] ⟨[110,97,109,101],2,1,1,0,0,[],false⟩ [⟨[116,97,103],1,0,1,0,99,[],false⟩,⟨[117,112],3,1,1,0,0,[],false⟩] (by simp) (d0:=[⟨2,0,[]⟩]) rfl ⟨d1p (by decide) rfl,by simp⟩ n1.ok (by omega) (by simp)
  have b2:=n2.hi
  obtain ⟨c1,s3,q2,p2,l2,n3⟩:=c5k s2 ([] ++ [c0]) ⟨[116,97,103],1,0,1,0,99,[],false⟩ [⟨[117,112],3,1,1,0,0,[],false⟩] (by simp) (d0:=[]) rfl ⟨d8y _,by simp⟩ n2.ok (by omega) (by simp)
  have b3:=n3.hi
  obtain ⟨c2,s4,q3,p3,l3,n4⟩:=c5k s3 ([] ++ [c0] ++ [c1]) ⟨[117,112],3,1,1,0,0,[],false⟩ [] (by simp) (d0:=[⟨3,0,[]⟩]) rfl ⟨d1p (by decide) rfl,by simp⟩ n3.ok (by omega) (by simp)
  rw [q1,q2,q3,a3b,Option.bind_some]
  exact ⟨_,c0,c1,c2,rfl,rfl,p1,p2,p3,l1,l2,l3⟩
theorem d5v (r:b1r) (c0 c1 c2:List x8) (hr:r.Cells = [c0,c1,c2]) (h0:a6k 2 c0) (h1:a6k 1 c1) (h2:a6k 3 c2) (l0:c0.length ≤ 1) (l1:c1.length ≤ 1) (l2:c2.length ≤ 1) :
    b0v [[110,97,109,101],[116,97,103],[117,112]] r = some (⟨5,0,[],[[110,97,109,101],[116,97,103],[117,112]],[dj c0,dj c1,dj c2]⟩,0):=by
  have d0:=c5j 2 c0 h0 (by omega)
  have d1:=c5j 1 c1 h1 (by omega)
  have d2:=c5j 3 c2 h2 (by omega)
  have hs:d2r r:=fun d hd => by
    rw [hr] at hd
    simp only [List.mem_cons,List.not_mem_nil,or_false] at hd
    simp only [maxLen]
    rcases hd with rfl | rfl | rfl <;> omega
  have hf:rfB [[110,97,109,101],[116,97,103],[117,112]] r = true:=by
    have a1:([[110,97,109,101],[116,97,103],[117,112]]:List Str).all c1j = true:=by decide
    simp only [rfB,a1,rowB,hr,List.all_cons,List.all_nil,c3a h0 (by omega),c3a h1 (by omega),c3a h2 (by omega)]
    simp
  have hw:∀ d ∈ r.Cells,b3r d ≤ 2 ^ 20:=fun d hd => by
    rw [hr] at hd
    simp only [List.mem_cons,List.not_mem_nil,or_false] at hd
    rcases hd with rfl | rfl | rfl
    · exact d0.w
    · exact d1.w
    · exact d2.w
  have hkv:b4j [[110,97,109,101],[116,97,103],[117,112]] r = [([110,97,109,101],dj c0),([116,97,103],dj c1),([117,112],dj c2)]:=by
    unfold b4j
    rw [hr]
    have o1:b0b [110,97,109,101] [116,97,103] < 0:=by decide
    have o2:b0b [110,97,109,101] [117,112] < 0:=by decide
    have o3:b0b [116,97,103] [117,112] < 0:=by decide
    simp only [List.zip_cons_cons,List.zip_nil_right,List.map_cons,List.map_nil,b9y,List.foldl_cons,List.foldl_nil,b4y,o1,o2,o3,if_true]
  unfold b0v a7u
  rw [Option.bind_some,if_neg (by simp),d5u _ r hs,hf,Option.bind_some,if_neg (by simp),d2w _ r (by rw [hr]; rfl) (by simp) hw,Option.bind_some,hkv]
  rfl
theorem d3a (code more:List Int) (h1:okL (okI .u8) code) (h2:okL (okI .u8) more):b3l code more = some true:=by
  unfold b3l
  by_cases hc:(code.length:Int) > 1048576
  · rw [if_pos (decide_eq_true hc)]; rfl
  rw [if_neg (by simpa using hc),Option.bind_some]
  by_cases hm:(more.length:Int) > 1048576
  · rw [if_pos (decide_eq_true hm)]
  rw [if_neg (by simpa using hm)]
  have hcb:∀ x ∈ code,0 ≤ x ∧ x < 256:=fun x hx => by have:=d8r.1 (h1.2 x hx); omega
  have hmb:∀ x ∈ more,0 ≤ x ∧ x < 256:=fun x hx => by have:=d8r.1 (h2.2 x hx); omega
  obtain ⟨v,e1,v0,v1⟩:=e7e more 4 hmb (by omega) (by omega) 0 (by omega)
  rw [e1,Option.bind_some,a3k (by omega)]
  obtain ⟨d,e2,hs,hl⟩:=c9d code (1 + v) hcb (by omega) (by omega)
  have dp:=c5j (1 + v) d hs hl
  have hdb:=c3a hs (by omega)
  have hml:d.length ≤ maxLen:=by simp only [maxLen]; omega
  have j1:a8q d = some (dj d,0):=by
    unfold a8q a6i
    rw [Option.bind_some,if_neg (by simp; omega),c7h d hml,hdb,Option.bind_some,if_neg (by simp),dp.to,Option.bind_some]
  have j2:a8r d = some (dj d,0):=by
    unfold a8r
    rw [if_neg (by simp; omega),d2q,hdb,Option.bind_some,if_neg (by simp),dp.ref,Option.bind_some,d8v _ (by have:=dp.wt; omega),Option.bind_some]
  rw [e2,Option.bind_some,j1,Option.bind_some,j2,Option.bind_some]
  simp only []
  rw [c0c d dp,Option.bind_some]
  simp only []
  have hk0:((dj d).Kind == 0) = false:=by simpa using dp.nn
  rw [if_neg (by simp),d2z _ (by have:=dp.wt; omega),Option.bind_some,if_neg (by simp),d8q,Option.bind_some,hk0,Option.bind_some,if_neg (by simp),c7z d (fun x hx => (hs.atom x hx).1),Option.bind_some]
  simp only []
  obtain ⟨r,c0,c1,c2,e3,hr,s0,s1,s2,l0,l1,l2⟩:=d1q more hmb (by omega)
  have d0:=c5j 2 c0 s0 (by omega)
  have d1:=c5j 1 c1 s1 (by omega)
  have d2:=c5j 3 c2 s2 (by omega)
  rw [e3,Option.bind_some,d5v r c0 c1 c2 hr s0 s1 s2 l0 l1 l2,Option.bind_some]
  simp only []
  have okR:a6q ⟨5,0,[],[[110,97,109,101],[116,97,103],[117,112]],[dj c0,dj c1,dj c2]⟩:=e1i ⟨by simp [maxLen],by simp [okS,maxLen]⟩ (by simp [maxLen]) (by
    intro y hy
    simp only [List.mem_cons,List.not_mem_nil,or_false] at hy
    rcases hy with rfl | rfl | rfl
    · exact d0.ok
    · exact d1.ok
    · exact d2.ok)
  have k0:=d0.deep 7
  have k1:=d1.deep 7
  have k2:=d2.deep 7
  have okD:OkD 12 ⟨5,0,[],[[110,97,109,101],[116,97,103],[117,112]],[dj c0,dj c1,dj c2]⟩:=⟨.inr (.inr (.inr (.inr (.inr ⟨rfl,rfl,rfl,rfl,(by decide:∀ q,q < ([[110,97,109,101],[116,97,103],[117,112]]:List Str).length → keyAt [[110,97,109,101],[116,97,103],[117,112]] q = true)⟩)))),by
    intro y hy
    have hy:y ∈ [dj c0,dj c1,dj c2]:=hy
    simp only [List.mem_cons,List.not_mem_nil,or_false] at hy
    rcases hy with rfl | rfl | rfl
    · exact k0.1
    · exact k1.1
    · exact k2.1⟩
  have cntR:a7a 12 ⟨5,0,[],[[110,97,109,101],[116,97,103],[117,112]],[dj c0,dj c1,dj c2]⟩ ≤ 400:=by
    show 1 + (List.map (a7a 11) [dj c0,dj c1,dj c2]).sum ≤ 400
    have a0:a7a 11 (dj c0) ≤ 20:=k0.2
    have a1:a7a 11 (dj c1) ≤ 20:=k1.2
    have a2:a7a 11 (dj c2) ≤ 20:=k2.2
    simp only [List.map_cons,List.map_nil,List.sum_cons,List.sum_nil]; omega
  have ef:b0w ⟨5,0,[],[[110,97,109,101],[116,97,103],[117,112]],[dj c0,dj c1,dj c2]⟩ [110,97,109,101] = some (dj c0,0):=by
    unfold b0w b3k
    rw [Option.bind_some,if_neg (by simp),c1p _ okR okD cntR,Option.bind_some,if_neg (by simp),if_neg (by simp)]
    have:a8a ⟨5,0,[],[[110,97,109,101],[116,97,103],[117,112]],[dj c0,dj c1,dj c2]⟩ [110,97,109,101] = some (dj c0,true):=by
      unfold a8a a5f
      rw [a2e]
      simp [idx]
    rw [this,Option.bind_some,if_neg (by simp),d2t _ (by have:=d0.wt; simp only; omega),Option.bind_some]
  rw [ef,Option.bind_some]
  simp only []
  rw [c0c c0 d0,Option.bind_some]
  simp only []
  rw [if_pos (by simp),hr]
  have ei:idx [c0,c1,c2] 0 = some c0:=rfl
  rw [ei,Option.bind_some,d8q,Option.bind_some]
end Go.R
