/- Plain laws of what this statement reaches. -/
import Derived.Test.YtgdkfnndbknjpaaJDH
import Derived.Test.YtgdkfnndbknjpaaP0
set_option linter.all false
namespace Go.R
open Go
set_option linter.all false
def b2d (c:UInt8):Bool:=!(decide ((c.toNat:Int) < 32) || decide ((c.toNat:Int) > 126))
def b2e (t:Str):Bool:=t.all b2d && decide ((t.length:Int) ≤ 200)
theorem b9f:∀ t:Str,a2v t = some (if t.all b2d = true then .go () else .ret false)
  | [] => by rw [a2v]; simp
  | x :: xs => by
    rw [a2v,b9f xs]
    by_cases h1:(x.toNat:Int) < 32
    · simp [h1,b2d]
    · by_cases h2:(x.toNat:Int) > 126
      · simp [h1,h2,b2d]
      · simp [h1,h2,b2d]
theorem c2t (t:Str):a5n t = some (b2e t):=by
  unfold a5n b2e
  rw [b9f]
  by_cases h:t.all b2d = true
  · simp only [h,if_pos,Option.bind_some,Bool.true_and]
  · simp only [h,Bool.not_eq_true] at h ⊢
    simp [h]
theorem c5c (n a b:Int):a5k n a b = some (decide (a ≤ n ∧ n ≤ b)):=by
  unfold a5k
  by_cases h:a ≤ n <;> simp [h]
theorem c1o:∀ t:Str,a2t t = some (if t.all b2d = true then .go () else .ret false)
  | [] => by rw [a2t]; simp
  | x :: xs => by
    rw [a2t,c1o xs]
    by_cases h1:(x.toNat:Int) < 32
    · simp [h1,b2d]
    · by_cases h2:(x.toNat:Int) > 126
      · simp [h1,h2,b2d]
      · simp [h1,h2,b2d]
theorem c6r (t:Str):a4e t = some (b2e t):=by
  unfold a4e b2e
  rw [c1o]
  by_cases h:t.all b2d = true
  · simp only [h,if_pos,Option.bind_some,Bool.true_and]
  · simp only [h,Bool.not_eq_true] at h ⊢
    simp [h]
theorem d3i (n a b:Int):a5m n a b = some (decide (a ≤ n ∧ n ≤ b)):=by
  unfold a5m
  by_cases h:a ≤ n <;> simp [h]
theorem b9g:∀ a b:Str,Lib.compareBytes a b = -1 ∨ Lib.compareBytes a b = 0 ∨ Lib.compareBytes a b = 1
  | [],[] => by simp [Lib.compareBytes]
  | [],_ :: _ => by simp [Lib.compareBytes]
  | _ :: _,[] => by simp [Lib.compareBytes]
  | a :: xs,b :: ys => by
    have:=b9g xs ys
    unfold Lib.compareBytes
    split
    · simp
    · split
      · simp
      · exact this
theorem b6j (a b:UInt8):a < b ∨ a = b ∨ b < a:=by
  simp only [UInt8.lt_iff_toNat_lt,← UInt8.toNat_inj]
  omega
theorem b1b {a b:UInt8} (h:a < b):¬ b < a:=by
  simp only [UInt8.lt_iff_toNat_lt] at *
  omega
theorem c1p:∀ a b:Str,Lib.compareBytes b a = - Lib.compareBytes a b
  | [],[] => by simp [Lib.compareBytes]
  | [],_ :: _ => by simp [Lib.compareBytes]
  | _ :: _,[] => by simp [Lib.compareBytes]
  | a :: xs,b :: ys => by
    have ih:=c1p xs ys
    unfold Lib.compareBytes
    rcases b6j a b with h | h | h
    · simp [h,b1b h]
    · subst h; simp [UInt8.lt_irrefl,ih]
    · simp [h,b1b h]
theorem b2w:∀ a b:Str,Lib.compareBytes a b = 0 ↔ a = b
  | [],[] => by simp [Lib.compareBytes]
  | [],_ :: _ => by simp [Lib.compareBytes]
  | _ :: _,[] => by simp [Lib.compareBytes]
  | a :: xs,b :: ys => by
    have ih:=b2w xs ys
    unfold Lib.compareBytes
    rcases b6j a b with h | h | h
    · have hne:a ≠ b:=by rintro rfl; exact UInt8.lt_irrefl _ h
      simp [h,hne]
    · subst h; simp [UInt8.lt_irrefl,ih]
    · have hne:a ≠ b:=by rintro rfl; exact UInt8.lt_irrefl _ h
      simp [h,b1b h,hne]
theorem c1q:∀ a b:Str,Op.bytesLess a b = decide (Lib.compareBytes a b < 0)
  | [],[] => by simp [Lib.compareBytes,Op.bytesLess]
  | [],_ :: _ => by simp [Lib.compareBytes,Op.bytesLess]
  | _ :: _,[] => by simp [Lib.compareBytes,Op.bytesLess]
  | a :: xs,b :: ys => by
    have ih:=c1q xs ys
    unfold Lib.compareBytes Op.bytesLess
    rcases b6j a b with h | h | h
    · simp [h]
    · subst h; simp [UInt8.lt_irrefl,ih]
    · have hne:¬ a = b:=by rintro rfl; exact UInt8.lt_irrefl _ h
      simp [h,b1b h,hne]
def a6o (a b:y5):Int:=if a.Kind ≠ b.Kind then (if a.Kind < b.Kind then -1 else 1) else if a.N ≠ b.N then (if a.N < b.N then -1 else 1) else Lib.compareBytes a.T b.T
theorem a9l (a b:y5):a6o a b = 0 ↔ a = b:=by
  unfold a6o
  cases a with | mk k n t =>
  cases b with | mk k' n' t' =>
  simp only [y5.mk.injEq]
  by_cases h1:k = k'
  · subst h1
    by_cases h2:n = n'
    · subst h2; simp [b2w]
    · simp [h2]; split <;> omega
  · simp [h1]; split <;> omega
theorem b6k (a b:y5):a6o b a = - a6o a b:=by
  unfold a6o
  cases a with | mk k n t =>
  cases b with | mk k' n' t' =>
  by_cases h1:k = k'
  · subst h1
    by_cases h2:n = n'
    · subst h2; simp [c1p t t']
    · have h3:¬ n' = n:=fun h => h2 h.symm
      simp [h2,h3]; split <;> split <;> omega
  · have h3:¬ k' = k:=fun h => h1 h.symm
    simp [h1,h3]; split <;> split <;> omega
theorem d1v (a b:y5):a7a a b = some (a6o a b):=by
  unfold a7a a7o a6o
  have w0:w64 (1 - w64 0) = 1:=by decide
  have w1:w64 (1 - w64 2) = -1:=by decide
  by_cases h1:a.Kind = b.Kind
  · by_cases h2:a.N = b.N
    · simp only [h1,h2,bne_self_eq_false,Bool.false_eq_true,if_false,ne_eq,not_true_eq_false,c1q]
      by_cases h3:a.T = b.T
      · simp [h3,(b2w b.T b.T).2 rfl]
      · have hne:Lib.compareBytes a.T b.T ≠ 0:=fun h => h3 ((b2w _ _).1 h)
        rcases b9g a.T b.T with h | h | h
        · simp [h3,h,w1]
        · exact absurd h hne
        · simp [h3,h,w0]
    · by_cases h3:a.N < b.N <;> simp [h1,h2,h3,w0,w1]
  · by_cases h3:a.Kind < b.Kind <;> simp [h1,h3,w0,w1]
def a8s (a:y5):Bool :=
  (decide (a.Kind = 1) && decide (-1000000000 ≤ a.N ∧ a.N ≤ 1000000000) && decide (a.T = [])) ||
  (decide (a.Kind = 2) && decide (a.N = 0) && b2e a.T) ||
  (decide (a.Kind = 3) && decide (0 ≤ a.N ∧ a.N ≤ 1) && decide (a.T = [])) ||
  (decide (a.Kind = 4) && decide (1 ≤ a.N ∧ a.N ≤ 1000000) && decide (a.T = []))
theorem b9h (a:y5):a6j a = some (a8s a):=by
  unfold a6j a5t b2u a8s
  simp only [c5c,c2t,Option.bind_some]
  by_cases h1:a.Kind = 1
  · simp only [h1]
    by_cases c:(-1000000000 ≤ a.N ∧ a.N ≤ 1000000000) <;> by_cases d:a.T = [] <;> simp [c,d]
  by_cases h2:a.Kind = 2
  · simp only [h2]
    by_cases c:a.N = 0 <;> simp [c]
  by_cases h3:a.Kind = 3
  · simp only [h3]
    by_cases c:(0 ≤ a.N ∧ a.N ≤ 1) <;> by_cases d:a.T = [] <;> simp [c,d]
  by_cases h4:a.Kind = 4
  · simp only [h4]
    by_cases c:(1 ≤ a.N ∧ a.N ≤ 1000000) <;> by_cases d:a.T = [] <;> simp [c,d]
  · simp [h1,h2,h3,h4]
structure b5j (k:Int) (d:List y5):Prop where
  atom:∀ x ∈ d,a8s x = true ∧ x.Kind = k
  ord:∀ i x y,d[i]? = some x → d[i + 1]? = some y → a6o x y < 0
theorem c1r (a:y5):a6g a = some (a8s a):=by
  unfold a6g a8s
  simp only [d3i,c6r,Option.bind_some]
  by_cases h1:a.Kind = 1
  · simp only [h1]
    by_cases c:(-1000000000 ≤ a.N ∧ a.N ≤ 1000000000) <;> by_cases d:a.T = [] <;> simp [c,d]
  by_cases h2:a.Kind = 2
  · simp only [h2]
    by_cases c:a.N = 0 <;> simp [c]
  by_cases h3:a.Kind = 3
  · simp only [h3]
    by_cases c:(0 ≤ a.N ∧ a.N ≤ 1) <;> by_cases d:a.T = [] <;> simp [c,d]
  by_cases h4:a.Kind = 4
  · simp only [h4]
    by_cases c:(1 ≤ a.N ∧ a.N ≤ 1000000) <;> by_cases d:a.T = [] <;> simp [c,d]
  · simp [h1,h2,h3,h4]
theorem c6s (x y:y5):(x.Kind == y.Kind && (x.N == y.N && (x.T == y.T && true))) = decide (x = y):=by
  cases x; cases y
  rw [Bool.eq_iff_iff]
  simp
theorem c5d (a:y5):∀ d:List y5,a3i a d = some (if a ∈ d then .ret true else .go ())
  | [] => by rw [a3i]; simp
  | x :: xs => by
    rw [a3i,c6s,c5d a xs]
    by_cases h:x = a
    · subst h; simp
    · simp [h,Ne.symm h]
theorem d4k (d:List y5) (a:y5):a8o d a = some (decide (a ∈ d)):=by
  unfold a8o
  rw [c5d]
  by_cases h:a ∈ d <;> simp [h]
theorem c1s (d:List y5) (a:y5):∀ (n k:Nat),n < k → n ≤ d.length → d.length ≤ 2 ^ 29 → ∃ m:Nat,a1t d a k n = some (m:Int) ∧ m ≤ n ∧ (∀ x,0 < m → d[m - 1]? = some x → a6o x a ≤ 0) ∧ (∀ j x,m ≤ j → j < n → d[j]? = some x → 0 < a6o x a)
  | _,0,h,_,_ => by omega
  | 0,k + 1,_,_,_ => by
    refine ⟨0,?_,by omega,by omega,by omega⟩
    rw [a1t,if_neg (by simp),Option.bind_some,if_neg (by simp)]
  | n + 1,k + 1,h,hn,hl => by
    obtain ⟨y,hy⟩:∃ y,d[n]? = some y:=⟨d[n],List.getElem?_eq_getElem (by omega)⟩
    have ew:w64 (((n + 1:Nat):Int) - 1) = (n:Int):=by rw [a3h (by omega)]; omega
    rw [a1t,if_pos (by simp),ew,if_pos (show (0:Int) ≤ (n:Int) ∧ (n:Int) < (d.length:Int) by omega),show 0 + (n:Int).toNat = n by omega,hy,Option.bind_some,d1v,Option.bind_some,Option.bind_some]
    by_cases hc:a6o y a > 0
    · rw [if_pos (by simpa using hc)]
      obtain ⟨m,e,h1,h2,h3⟩:=c1s d a n k (by omega) (by omega) hl
      refine ⟨m,e,by omega,h2,fun j x hj1 hj2 hx => ?_⟩
      by_cases hjn:j = n
      · subst hjn; rw [hy] at hx; rw [← Option.some.inj hx]; exact hc
      · exact h3 j x hj1 (by omega) hx
    · rw [if_neg (by simpa using hc)]
      refine ⟨n + 1,rfl,by omega,fun x _ hx => ?_,by omega⟩
      rw [show n + 1 - 1 = n from by omega,hy] at hx
      rw [← Option.some.inj hx]; omega
theorem c7k (d:List y5) (a:y5) (k i:Nat) (hk:k ≤ d.length):(d.take k ++ a :: d.drop k)[i]? = if i < k then d[i]? else if i = k then some a else d[i - 1]?:=by
  by_cases h1:i < k
  · rw [if_pos h1,List.getElem?_append_left (by simp; omega),List.getElem?_take_of_lt h1]
  · rw [if_neg h1,List.getElem?_append_right (by simp; omega)]
    have hl:(d.take k).length = k:=by simp; omega
    rw [hl]
    by_cases h2:i = k
    · subst h2; simp
    · rw [if_neg h2,show i - k = (i - k - 1) + 1 from by omega,List.getElem?_cons_succ,List.getElem?_drop]
      congr 1; omega
theorem d3j (k:Int) (d:List y5) (a:y5) (hs:b5j k d) (ha:a8s a = true) (hk:a.Kind = k) (hl:d.length < 2 ^ 29):∃ d',a6h d a = some d' ∧ b5j k d' ∧ (∀ x,x ∈ d' ↔ x = a ∨ x ∈ d) ∧ d'.length ≤ d.length + 1:=by
  have hf:2 ^ 40 < FUEL:=by unfold FUEL; decide
  unfold a6h
  rw [d4k,Option.bind_some]
  by_cases hm:a ∈ d
  · rw [if_pos (by simpa using hm)]
    exact ⟨d,rfl,hs,fun x => ⟨.inr,fun h => h.elim (fun h => h ▸ hm) id⟩,by omega⟩
  · rw [if_neg (by simpa using hm)]
    obtain ⟨m,e,h1,h2,h3⟩:=c1s d a d.length FUEL (by omega) (by omega) (by omega)
    have et:(d.drop (m:Int).toNat).take (d.length - (m:Int).toNat) = d.drop (m:Int).toNat:=List.take_of_length_le (by simp)
    rw [e,Option.bind_some,et,if_pos (by omega),if_pos (by omega),if_pos (by simp; omega),if_pos (by simp; omega),if_pos (by simp; omega)]
    simp only [List.nil_append,Int.toNat_natCast,List.append_assoc,List.cons_append,List.nil_append]
    refine ⟨_,rfl,⟨?_,?_⟩,?_,by simp; omega⟩
    · intro x hx
      simp only [List.mem_append,List.mem_cons] at hx
      rcases hx with hx | rfl | hx
      · exact hs.atom x (List.mem_of_mem_take hx)
      · exact ⟨ha,hk⟩
      · exact hs.atom x (List.mem_of_mem_drop hx)
    · intro i x y hx hy
      rw [c7k d a m i h1] at hx
      rw [c7k d a m (i + 1) h1] at hy
      by_cases c1:i + 1 < m
      · rw [if_pos (by omega)] at hx
        rw [if_pos c1] at hy
        exact hs.ord i x y hx hy
      · rw [if_neg c1] at hy
        by_cases c2:i + 1 = m
        · rw [if_pos c2] at hy
          rw [if_pos (by omega)] at hx
          have e1:=Option.some.inj hy
          subst e1
          have:=h2 x (by omega) (by rw [show m - 1 = i from by omega]; exact hx)
          have hne:a6o x a ≠ 0:=fun h => hm (by rw [← (a9l x a).1 h]; exact List.mem_of_getElem? hx)
          omega
        · rw [if_neg c2] at hy
          rw [if_neg (by omega)] at hx
          by_cases c3:i = m
          · rw [if_pos c3] at hx
            have e1:=Option.some.inj hx
            subst e1
            rw [show i + 1 - 1 = i from by omega] at hy
            have:=h3 i y (by omega) (List.getElem?_eq_some_iff.1 hy).1 hy
            have:=b6k y a
            omega
          · rw [if_neg c3] at hx
            exact hs.ord (i - 1) x y hx (by rw [show i - 1 + 1 = i + 1 - 1 from by omega]; exact hy)
    · intro x
      have:x ∈ d ↔ x ∈ d.take m ∨ x ∈ d.drop m:=by rw [← List.mem_append,List.take_append_drop]
      simp only [List.mem_append,List.mem_cons,this]
      constructor
      · rintro (h | h | h)
        · exact .inr (.inl h)
        · exact .inl h
        · exact .inr (.inr h)
      · rintro (h | h | h)
        · exact .inr (.inl h)
        · exact .inl h
        · exact .inr (.inr h)
theorem b9i:∀ a b c:Str,Lib.compareBytes a b < 0 → Lib.compareBytes b c < 0 → Lib.compareBytes a c < 0
  | [],[],c => by intro h; simp [Lib.compareBytes] at h
  | [],_ :: _,[] => by intro _ h; simp [Lib.compareBytes] at h
  | [],_ :: _,_ :: _ => by intro _ _; simp [Lib.compareBytes]
  | _ :: _,[],c => by intro h; simp [Lib.compareBytes] at h
  | _ :: _,_ :: _,[] => by intro _ h; simp [Lib.compareBytes] at h
  | a :: xs,b :: ys,c :: zs => by
    have ih:=b9i xs ys zs
    unfold Lib.compareBytes
    rcases b6j a b with h | h | h
    · rcases b6j b c with g | g | g
      · have:a < c:=by simp only [UInt8.lt_iff_toNat_lt] at *; omega
        simp [this]
      · subst g; simp [h]
      · simp [h,g,b1b g]
    · subst h
      rcases b6j a c with g | g | g
      · simp [g]
      · subst g; simp only [UInt8.lt_irrefl,if_false]; exact ih
      · simp [g,b1b g]
    · simp [h,b1b h]
theorem b1c {a b c:y5} (h:a6o a b < 0) (g:a6o b c < 0):a6o a c < 0:=by
  unfold a6o at *
  by_cases k1:a.Kind = b.Kind
  · by_cases k2:b.Kind = c.Kind
    · have k3:a.Kind = c.Kind:=k1.trans k2
      simp only [k1,k2,k3,ne_eq,not_true_eq_false,if_false] at *
      by_cases n1:a.N = b.N
      · by_cases n2:b.N = c.N
        · have n3:a.N = c.N:=n1.trans n2
          simp only [n1,n2,n3,ne_eq,not_true_eq_false,if_false] at *
          exact b9i _ _ _ h g
        · have n3:¬ a.N = c.N:=fun e => n2 (n1.symm.trans e)
          simp only [n1,n2,ne_eq,not_true_eq_false,not_false_eq_true,if_false,if_true] at *
          split at g <;> simp_all
      · by_cases n2:b.N = c.N
        · have n3:¬ a.N = c.N:=fun e => n1 (e.trans n2.symm)
          simp only [n1,n2,n3,ne_eq,not_true_eq_false,not_false_eq_true,if_false,if_true] at *
          split at h <;> simp_all
        · simp only [n1,n2,ne_eq,not_false_eq_true,if_true] at h g
          have h':a.N < b.N:=by split at h <;> first | assumption | omega
          have g':b.N < c.N:=by split at g <;> first | assumption | omega
          have n3:¬ a.N = c.N:=by omega
          have n4:a.N < c.N:=by omega
          simp [n3,n4]
    · have k3:¬ a.Kind = c.Kind:=fun e => k2 (k1.symm.trans e)
      simp only [k2,ne_eq,not_false_eq_true,if_true] at g
      have g':b.Kind < c.Kind:=by split at g <;> first | assumption | omega
      have:a.Kind < c.Kind:=by omega
      simp [k3,this]
  · simp only [k1,ne_eq,not_false_eq_true,if_true] at h
    have h':a.Kind < b.Kind:=by split at h <;> first | assumption | omega
    by_cases k2:b.Kind = c.Kind
    · have k3:¬ a.Kind = c.Kind:=fun e => k1 (e.trans k2.symm)
      have:a.Kind < c.Kind:=by omega
      simp [k3,this]
    · simp only [k2,ne_eq,not_false_eq_true,if_true] at g
      have g':b.Kind < c.Kind:=by split at g <;> first | assumption | omega
      have k3:¬ a.Kind = c.Kind:=by omega
      have:a.Kind < c.Kind:=by omega
      simp [k3,this]
theorem b2f (a:y5):¬ a6o a a < 0:=by have:=(a9l a a).2 rfl; omega
def a7z (d:List y5):Prop:=d.Pairwise fun a b => a6o a b < 0
theorem b3p:∀ (d:List y5),(∀ i x y,d[i]? = some x → d[i + 1]? = some y → a6o x y < 0) → a7z d
  | [],_ => .nil
  | [a],_ => List.pairwise_singleton _ _
  | a :: b :: l,h => by
    have ih:a7z (b :: l):=b3p (b :: l) (fun i x y hx hy => h (i + 1) x y (by simpa using hx) (by simpa using hy))
    have hab:a6o a b < 0:=h 0 a b rfl rfl
    refine List.pairwise_cons.2 ⟨fun c hc => ?_,ih⟩
    rcases List.mem_cons.1 hc with rfl | hc
    · exact hab
    · exact b1c hab ((List.pairwise_cons.1 ih).1 c hc)
theorem a7z.adj {d:List y5} (h:a7z d):∀ i x y,d[i]? = some x → d[i + 1]? = some y → a6o x y < 0:=by
  intro i x y hx hy
  obtain ⟨hi,rfl⟩:=List.getElem?_eq_some_iff.1 hx
  obtain ⟨hj,rfl⟩:=List.getElem?_eq_some_iff.1 hy
  exact List.pairwise_iff_getElem.1 h i (i + 1) hi hj (by omega)
theorem a7z.ext:∀ {a b:List y5},a7z a → a7z b → (∀ x,x ∈ a ↔ x ∈ b) → a = b
  | [],[],_,_,_ => rfl
  | [],y :: _,_,_,h => absurd ((h y).2 (by simp)) (by simp)
  | x :: _,[],_,_,h => absurd ((h x).1 (by simp)) (by simp)
  | x :: xs,y :: ys,ha,hb,h => by
    obtain ⟨ha1,ha2⟩:=List.pairwise_cons.1 ha
    obtain ⟨hb1,hb2⟩:=List.pairwise_cons.1 hb
    have hxy:x = y:=by
      rcases List.mem_cons.1 ((h x).1 (by simp)) with e | e
      · exact e
      · rcases List.mem_cons.1 ((h y).2 (by simp)) with e' | e'
        · exact e'.symm
        · exact absurd (b1c (ha1 y e') (hb1 x e)) (b2f _)
    subst hxy
    refine congrArg (x :: ·) (a7z.ext ha2 hb2 (fun z => ?_))
    have hz:=h z
    simp only [List.mem_cons] at hz
    constructor
    · intro q
      rcases hz.1 (.inr q) with e | e
      · subst e; exact absurd (ha1 z q) (b2f _)
      · exact e
    · intro q
      rcases hz.2 (.inr q) with e | e
      · subst e; exact absurd (hb1 z q) (b2f _)
      · exact e
theorem b5j.strict {k:Int} {d:List y5} (h:b5j k d):a7z d:=b3p d h.ord
theorem b5j.of {k:Int} {d:List y5} (h1:∀ x ∈ d,a8s x = true ∧ x.Kind = k) (h2:a7z d):b5j k d:=⟨h1,h2.adj⟩
def d3k (d:List y5):Prop:=d.Pairwise fun a b => a6o a b ≤ 0
theorem c0d {a b c:y5} (h:a6o a b ≤ 0) (g:a6o b c ≤ 0):a6o a c ≤ 0:=by
  by_cases h0:a6o a b = 0
  · rw [(a9l a b).1 h0]; exact g
  · by_cases g0:a6o b c = 0
    · rw [← (a9l b c).1 g0]; exact h
    · have:=b1c (a:=a) (b:=b) (c:=c) (by omega) (by omega); omega
def dd:y5 → List y5 → List y5
  | _,[] => []
  | a,z :: t => if z = a then dd a t else z :: dd z t
theorem c2u (x:y5):∀ (t:List y5) (a:y5),x ∈ a :: dd a t ↔ x ∈ a :: t
  | [],a => by simp [dd]
  | z :: t,a => by
    unfold dd
    by_cases e:z = a
    · subst e; rw [if_pos rfl,c2u x t z]; simp
    · rw [if_neg e,List.mem_cons,c2u x t z,List.mem_cons (a:=x) (b:=a)]
theorem b9j:∀ (t:List y5) (a:y5),(dd a t).length ≤ t.length
  | [],a => by simp [dd]
  | z :: t,a => by
    unfold dd
    have h1:=b9j t a
    have h2:=b9j t z
    by_cases e:z = a
    · rw [if_pos e]; simp only [List.length_cons]; omega
    · rw [if_neg e]; simp only [List.length_cons]; omega
theorem b6l:∀ (t:List y5) (a:y5),d3k (a :: t) → a7z (a :: dd a t)
  | [],a,_ => List.pairwise_singleton _ _
  | z :: t,a,h => by
    obtain ⟨h1,h2⟩:=List.pairwise_cons.1 h
    unfold dd
    by_cases e:z = a
    · subst e; rw [if_pos rfl]; exact b6l t z h2
    · rw [if_neg e]
      have haz:a6o a z < 0:=by
        have:=h1 z (by simp)
        have h0:a6o a z ≠ 0:=fun q => e ((a9l a z).1 q).symm
        omega
      refine List.pairwise_cons.2 ⟨fun c hc => ?_,b6l t z h2⟩
      have hc':=(c2u c t z).1 hc
      rcases List.mem_cons.1 hc' with rfl | hc'
      · exact haz
      · have hzc:=(List.pairwise_cons.1 h2).1 c hc'
        by_cases hz:a6o z c = 0
        · rw [← (a9l z c).1 hz]; exact haz
        · exact b1c haz (by omega)
theorem c2w {α:Type} (p s:List α) (x:α):(p ++ x :: s)[p.length]? = some x:=by simp
theorem c7l {α:Type} (p s:List α) (x y:α):(p ++ x :: s).set p.length y = p ++ y :: s:=by
  rw [List.set_append_right _ _ (Nat.le_refl _),Nat.sub_self,List.set_cons_zero]
theorem d1w:2 ^ 40 < FUEL:=by unfold FUEL; decide
theorem b5k (s0:List y5) (k0:Nat):∀ (t c g:List y5) (y:y5) (k k2:Nat),t.length < k → (c ++ (g ++ y :: t)).length = s0.length → c.length + g.length + 1 = k0 + k2 → s0.length ≤ 2 ^ 20 → 1 ≤ k2 → ∃ R,a0g s0 k0 k (c.length:Int) (k2:Int) (c ++ (g ++ y :: t)) = some ((((c ++ dd y t).length:Nat):Int),R) ∧ R.length = s0.length ∧ R.take (c ++ dd y t).length = c ++ dd y t
  | _,_,_,_,0,_,h,_,_,_,_ => by omega
  | [],c,g,y,k + 1,k2,_,hn,hp,hl,h2 => by
    refine ⟨c ++ (g ++ [y]),?_,hn,by simp [dd]⟩
    simp only [List.length_append,List.length_cons,List.length_nil] at hn
    rw [a0g,if_neg (by simp; omega)]
    simp [dd]
  | z :: t,c,g,y,k + 1,k2,hk,hn,hp,hl,h2 => by
    have hn0:=hn
    simp only [List.length_append,List.length_cons] at hn hk
    have e1:decide ((k2:Int) < (((s0.length - k0):Nat):Int)) = true:=decide_eq_true (by omega)
    have b1:0 ≤ (k2:Int) ∧ (k2:Int) < (((s0.length - k0):Nat):Int):=by omega
    have e2:w64 ((k2:Int) - 1) = ((k2 - 1:Nat):Int):=by rw [a3h (by omega)]; omega
    have b2:0 ≤ ((k2 - 1:Nat):Int) ∧ ((k2 - 1:Nat):Int) < (((s0.length - k0):Nat):Int):=by omega
    have g1:(c ++ (g ++ y :: z :: t))[k0 + ((k2:Nat):Int).toNat]? = some z:=by
      have:=c2w (c ++ g ++ [y]) t z
      have el:(c ++ g ++ [y]).length = k0 + k2:=by simp; omega
      rw [el] at this
      simpa using this
    have g2:(c ++ (g ++ y :: z :: t))[k0 + ((k2 - 1:Nat):Int).toNat]? = some y:=by
      have:=c2w (c ++ g) (z :: t) y
      have el:(c ++ g).length = k0 + (k2 - 1):=by simp; omega
      rw [el] at this
      simpa using this
    have e3:w64 ((k2:Int) + 1) = ((k2 + 1:Nat):Int):=by rw [a3h (by omega)]; omega
    rw [a0g,if_pos e1,if_pos b1,g1,Option.bind_some,e2,if_pos b2,g2,Option.bind_some,c6s,e3]
    by_cases e:z = y
    · subst e
      rw [if_neg (by simp)]
      have ed:dd z (z :: t) = dd z t:=by rw [dd,if_pos rfl]
      have ec:c ++ (g ++ z :: z :: t) = c ++ ((g ++ [z]) ++ z :: t):=by simp
      rw [ed,ec]
      exact b5k s0 k0 t c (g ++ [z]) z k (k2 + 1) (by omega) (by rw [← ec]; exact hn0) (by simp; omega) hl (by omega)
    · have ed:dd y (z :: t) = z :: dd z t:=by rw [dd,if_neg e]
      have b3:0 ≤ (c.length:Int) ∧ (c.length:Int) < ((c ++ (g ++ y :: z :: t)).length:Int):=by simp; omega
      have g3:∃ w,(c ++ (g ++ y :: z :: t))[0 + ((c.length:Nat):Int).toNat]? = some w:=⟨_,List.getElem?_eq_getElem (by simp; omega)⟩
      obtain ⟨w,hw⟩:=g3
      have e4:w64 ((c.length:Int) + 1) = (((c ++ [z]).length:Nat):Int):=by rw [a3h (by omega)]; simp
      rw [if_pos (by simp [e]),if_pos b1,if_pos b3,hw,Option.bind_some,e4,ed]
      have ex:c ++ z :: dd z t = (c ++ [z]) ++ dd z t:=by simp
      rw [ex]
      cases g with
      | nil =>
        have es:(c ++ ([] ++ y :: z :: t)).set (0 + ((c.length:Nat):Int).toNat) z = (c ++ [z]) ++ ([] ++ z :: t):=by
          have:=c7l c (z :: t) y z
          simpa using this
        rw [es]
        exact b5k s0 k0 t (c ++ [z]) [] z k (k2 + 1) (by omega) (by simp at hn ⊢; omega) (by simp at hp ⊢; omega) hl (by omega)
      | cons g0 g' =>
        have es:(c ++ (g0 :: g' ++ y :: z :: t)).set (0 + ((c.length:Nat):Int).toNat) z = (c ++ [z]) ++ ((g' ++ [y]) ++ z :: t):=by
          have:=c7l c (g' ++ y :: z :: t) g0 z
          simpa using this
        rw [es]
        exact b5k s0 k0 t (c ++ [z]) (g' ++ [y]) z k (k2 + 1) (by omega) (by simp at hn ⊢; omega) (by simp at hp ⊢; omega) hl (by omega)
theorem c5e (s:List y5) (hl:s.length ≤ 2 ^ 20):∀ (xs pre:List y5) (y:y5),s = pre ++ y :: xs → a0j s xs (pre.length + 1) = some (if dd y xs = xs then .go () else .ret (pre ++ y :: dd y xs))
  | [],pre,y,_ => by rw [a0j]; simp [dd]
  | x :: xs,pre,y,hs => by
    have hn:s.length = pre.length + 1 + 1 + xs.length:=by rw [hs]; simp; omega
    have e1:w64 ((((pre.length + 1:Nat)):Int) - 1) = ((pre.length:Nat):Int):=by rw [a3h (by omega)]; omega
    have g1:s[0 + ((pre.length:Nat):Int).toNat]? = some y:=by
      have:=c2w pre (x :: xs) y
      rw [← hs] at this
      simpa using this
    have es:s = (pre ++ [y]) ++ x :: xs:=by rw [hs]; simp
    rw [a0j,if_pos (by omega),e1,if_pos (by omega),g1,Option.bind_some,c6s]
    by_cases e:x = y
    · subst e
      have ed:dd x (x :: xs) = dd x xs:=by rw [dd,if_pos rfl]
      have hne:¬ dd x (x :: xs) = x :: xs:=by
        rw [ed]; intro h
        have:=b9j xs x
        rw [h] at this
        simp only [List.length_cons] at this
        omega
      have hf:=d1w
      rw [if_pos (by simp),if_pos (by omega),if_neg hne,ed]
      obtain ⟨R,h1,h2,h3⟩:=b5k s (pre.length + 1) xs (pre ++ [x]) [] x FUEL 1 (by omega) (by rw [es]; simp) (by simp) hl (by omega)
      have ec:((pre ++ [x]) ++ ([] ++ x :: xs)) = s:=by rw [es]; simp
      have el:(((pre ++ [x]).length:Nat):Int) = ((pre.length + 1:Nat):Int):=by simp
      have h1':a0g s (pre.length + 1) FUEL ((pre.length + 1:Nat):Int) 1 s = some ((((pre ++ [x] ++ dd x xs).length:Nat):Int),R):=by
        rw [ec,el] at h1; exact h1
      rw [h1',Option.bind_some]
      have hle:(pre ++ [x] ++ dd x xs).length ≤ R.length:=by have:=b9j xs x; rw [h2,hn]; simp; omega
      simp only
      rw [if_pos (by omega),if_pos (by omega)]
      have et:(R.take (((pre ++ [x] ++ dd x xs).length:Nat):Int).toNat) = pre ++ x :: dd x xs:=by
        rw [Int.toNat_natCast,h3]; simp
      rw [et]
      have el2:(((pre ++ [x] ++ dd x xs).length:Nat):Int).toNat = (pre ++ x :: dd x xs).length:=by rw [Int.toNat_natCast]; simp
      rw [el2,List.append_assoc,List.take_left']
      rfl
    · have ed:dd y (x :: xs) = x :: dd x xs:=by rw [dd,if_neg e]
      have e2:pre.length + 1 + 1 = (pre ++ [y]).length + 1:=by simp
      rw [if_neg (by simp [e]),e2,c5e s hl xs (pre ++ [y]) x es,ed]
      by_cases q:dd x xs = xs
      · rw [if_pos q,if_pos (by rw [q])]
      · rw [if_neg q,if_neg (by simpa using q)]
        simp
def c5f:List y5 → List y5
  | [] => []
  | a :: t => a :: dd a t
theorem c8i (s:List y5) (hl:s.length ≤ 2 ^ 20):a1b s = some (c5f s):=by
  unfold a1b
  cases s with
  | nil => rfl
  | cons a t =>
    cases t with
    | nil => rfl
    | cons b t =>
      rw [if_neg (by simp; omega)]
      have:=c5e (a :: b :: t) hl (b :: t) [] a rfl
      have e:a0j (a :: b :: t) ((a :: b :: t).drop 1) 1 = _:=this
      rw [e]
      by_cases q:dd a (b :: t) = b :: t
      · rw [if_pos q,c5f,q]; rfl
      · rw [if_neg q,c5f]; rfl
theorem d1x (x y:y5):cfA (x.Kind,x.N,x.T) (y.Kind,y.N,y.T) = a6o x y:=by
  unfold cfA orI b1h a6o
  simp only
  rcases Int.lt_trichotomy x.Kind y.Kind with h | h | h
  · have h2:x.Kind ≠ y.Kind:=by omega
    simp [h,h2]
  · rcases Int.lt_trichotomy x.N y.N with g | g | g
    · have h2:x.N ≠ y.N:=by omega
      simp [h,g,h2]
    · simp [h,g]
    · have h2:x.N ≠ y.N:=by omega
      have h3:¬ x.N < y.N:=by omega
      simp [h,g,h2,h3]
  · have h2:x.Kind ≠ y.Kind:=by omega
    have h3:¬ x.Kind < y.Kind:=by omega
    simp [h,h2,h3]
theorem leA (x y:y5):(!(Go.Proofs.ltOf cfA) (y.Kind,y.N,y.T) (x.Kind,x.N,x.T)) = decide (a6o x y ≤ 0):=by
  have:=b6k x y
  unfold Go.Proofs.ltOf
  rw [d1x]
  by_cases h:a6o y x < 0
  · rw [decide_eq_true h,decide_eq_false (by omega)]; rfl
  · rw [decide_eq_false h,decide_eq_true (by omega)]; rfl
theorem c5g (l:List y5) (h:l.length ≤ 2 ^ 30):∃ d,a1a l = some d ∧ d3k d ∧ d.Perm l:=by
  refine ⟨_,by unfold a1a; rw [if_pos h],?_,List.mergeSort_perm _ _⟩
  simp only [leA]
  have:=List.pairwise_mergeSort (le:=fun x y => decide (a6o x y ≤ 0)) (by
    intro a b c h1 h2
    simp only [decide_eq_true_eq] at *
    exact c0d h1 h2) (by
    intro a b
    have:=b6k a b
    simp only [Bool.or_eq_true,decide_eq_true_eq]
    omega) l
  unfold d3k
  exact this.imp (fun h => by simpa using h)
theorem c5h (l:List y5) (h:l.length ≤ 2 ^ 19):∃ d,a9v l = some d ∧ a7z d ∧ (∀ x,x ∈ d ↔ x ∈ l) ∧ d.length ≤ l.length:=by
  obtain ⟨s,e,h1,h2⟩:=c5g l (by omega)
  have hlen:=h2.length_eq
  refine ⟨c5f s,?_,?_,?_,?_⟩
  · unfold a9v a1u
    rw [if_pos (by simp; omega),Option.bind_some,List.nil_append,e,Option.bind_some,c8i s (by omega),Option.bind_some]
  · cases s with
    | nil => exact .nil
    | cons a t => exact b6l t a h1
  · intro x
    rw [← h2.mem_iff]
    cases s with
    | nil => rfl
    | cons a t => exact c2u x t a
  · rw [← hlen]
    cases s with
    | nil => exact Nat.le_refl _
    | cons a t =>
      have:=b9j t a
      simp only [c5f,List.length_cons]
      omega
theorem b3q (k:Int):∀ (xs out:List y5),b5j k out → (∀ x ∈ xs,a8s x = true ∧ x.Kind = k) → out.length + xs.length ≤ 2 ^ 20 → ∃ d,a2u xs out = some d ∧ b5j k d ∧ (∀ x,x ∈ d ↔ x ∈ out ∨ x ∈ xs) ∧ d.length ≤ out.length + xs.length
  | [],out,h,_,_ => ⟨out,by rw [a2u],h,by simp,by simp⟩
  | x :: xs,out,h,hx,hl => by
    simp only [List.length_cons] at hl
    obtain ⟨d,e,h1,h2,h3⟩:=d3j k out x h (hx x (by simp)).1 (hx x (by simp)).2 (by omega)
    obtain ⟨d2,e2,g1,g2,g3⟩:=b3q k xs d h1 (fun y hy => hx y (by simp [hy])) (by omega)
    refine ⟨d2,?_,g1,fun y => ?_,by simp only [List.length_cons]; omega⟩
    · rw [a2u,e,Option.bind_some,e2]
    · rw [g2,h2,List.mem_cons]
      constructor
      · rintro ((h | h) | h)
        · exact .inr (.inl h)
        · exact .inl h
        · exact .inr (.inr h)
      · rintro (h | h | h)
        · exact .inl (.inr h)
        · exact .inl (.inl h)
        · exact .inr h
theorem b9k (list:List y5):∀ xs:List y5,(∀ x ∈ xs,x ∈ list) → (a1m list xs = some (.go ()) ∧ a2e list xs = some (.go ()) ∧ ∀ x ∈ xs,a8s x = true ∧ ∀ z,list[0]? = some z → x.Kind = z.Kind) ∨ ∃ c,c ≠ 0 ∧ a1m list xs = some (.ret ([],c)) ∧ a2e list xs = some (.ret ([],c))
  | [],_ => .inl ⟨by rw [a1m],by rw [a2e],by simp⟩
  | x :: xs,h => by
    have hx:=h x (by simp)
    obtain ⟨z,hz⟩:∃ z,list[0]? = some z:=by
      cases list with
      | nil => simp at hx
      | cons z l => exact ⟨z,rfl⟩
    have e0:idx list 0 = some z:=by rw [show (0:Int) = ((0:Nat):Int) from rfl,b2s,hz]
    rw [a1m,a2e,b9h,c1r,Option.bind_some,Option.bind_some]
    cases ha:a8s x with
    | false => exact .inr ⟨1,by decide,by simp,by simp⟩
    | true =>
      rw [if_neg (by simp),if_neg (by simp),e0,Option.bind_some,Option.bind_some]
      by_cases hk:x.Kind = z.Kind
      · rw [if_neg (by simp [hk]),if_neg (by simp [hk])]
        rcases b9k list xs (fun y hy => h y (by simp [hy])) with ⟨h1,h2,h3⟩ | ⟨c,hc,h1,h2⟩
        · refine .inl ⟨h1,h2,fun y hy => ?_⟩
          rcases List.mem_cons.1 hy with rfl | hy
          · refine ⟨ha,fun z' hz' => ?_⟩
            rw [hz] at hz'
            cases hz'
            exact hk
          · exact h3 y hy
        · exact .inr ⟨c,hc,h1,h2⟩
      · rw [if_pos (by simp [hk]),if_pos (by simp [hk])]
        exact .inr ⟨9,by decide,rfl,rfl⟩
theorem d0i (list:List y5) (hl:list.length ≤ 4096):∃ d c,a4g list = some (d,c) ∧ a7x list = some (d,c) ∧ d.length ≤ 8 ∧ (∀ x ∈ d,x ∈ list):=by
  unfold a4g a7x
  rw [if_neg (by simp; omega)]
  rcases b9k list list (fun _ h => h) with ⟨h1,h2,h3⟩ | ⟨c,_,h1,h2⟩
  · obtain ⟨k,hk⟩:∃ k:Int,∀ x ∈ list,a8s x = true ∧ x.Kind = k:=by
      cases list with
      | nil => exact ⟨0,by simp⟩
      | cons z t => exact ⟨z.Kind,fun x hx => ⟨(h3 x hx).1,(h3 x hx).2 z rfl⟩⟩
    obtain ⟨d,e,s1,s2,s3⟩:=c5h list (by omega)
    obtain ⟨d2,e2,t1,t2,t3⟩:=b3q k list [] (b5j.of (by simp) .nil) hk (by simp; omega)
    have hd:d2 = d:=a7z.ext t1.strict s1 (fun x => by rw [t2,s2]; simp)
    subst hd
    rw [h1,h2]
    unfold a9e
    rw [if_pos (by simp)]
    simp only [Option.bind_some,List.nil_append,e,e2]
    by_cases c:(d2.length:Int) > 8
    · rw [decide_eq_true c]
      exact ⟨[],6,rfl,rfl,by simp,by simp⟩
    · rw [decide_eq_false c]
      exact ⟨d2,0,rfl,rfl,by omega,fun x hx => (s2 x).1 hx⟩
  · rw [h1,h2]
    exact ⟨[],c,rfl,rfl,by simp,by simp⟩
theorem d6j {α:Type} (a b:Bool) (x y:α):(if (bif a then true else b) = true then x else y) = (if a = true then x else if b = true then x else y):=by cases a <;> simp
def keyAt (ks:List Str) (i:Nat):Bool:=match ks[i]? with
  | some x => b2e x && (decide (i = 0) || match ks[i - 1]? with | some y => Op.bytesLess y x | none => false)
  | none => false
theorem b5l (ks:List Str) (hl:ks.length ≤ maxLen):∀ (xs:List Str) (i:Nat),ks.drop i = xs →
    a2f ks xs i = some (.go ()) ∧ (∀ q,i ≤ q → q < ks.length → keyAt ks q = true) ∨ a2f ks xs i = some (.ret false) ∧ ∃ q,i ≤ q ∧ q < ks.length ∧ keyAt ks q = false
  | [],i,h => by
    refine .inl ⟨by rw [a2f],fun q h1 h2 => ?_⟩
    have:=List.drop_eq_nil_iff.1 h
    omega
  | x :: xs,i,h => by
    have hi:=c7f h
    have hx:ks[i]? = some x:=by rw [← b2s]; exact b4y h
    rw [a2f,c2t,Option.bind_some]
    have hnext:=b5l ks hl xs (i + 1) (b0j h)
    simp only [maxLen] at hl
    by_cases ht:b2e x = true
    · rw [if_neg (by simp [ht])]
      by_cases h0:i = 0
      · subst h0
        rw [if_neg (by simp),Option.bind_some,if_neg (by simp)]
        have hk:keyAt ks 0 = true:=by unfold keyAt; simp [hx,ht]
        rcases hnext with ⟨e,hq⟩ | ⟨e,q,q1,q2,q3⟩
        · refine .inl ⟨e,fun q h1 h2 => ?_⟩
          by_cases hq0:q = 0
          · rw [hq0]; exact hk
          · exact hq q (by omega) h2
        · exact .inr ⟨e,q,by omega,q2,q3⟩
      · rw [if_pos (by simp; omega),a3h (by omega)]
        obtain ⟨y,hy⟩:∃ y,ks[i - 1]? = some y:=⟨ks[i - 1],List.getElem?_eq_getElem (by omega)⟩
        have e1:(i:Int) - 1 = ((i - 1:Nat):Int):=by omega
        rw [e1,b2s,hy,Option.bind_some,Option.bind_some]
        have hk:keyAt ks i = Op.bytesLess y x:=by unfold keyAt; simp [hx,ht,h0,hy]
        by_cases hb:Op.bytesLess y x = true
        · rw [if_neg (by simp [hb])]
          rcases hnext with ⟨e,hq⟩ | ⟨e,q,q1,q2,q3⟩
          · refine .inl ⟨e,fun q h1 h2 => ?_⟩
            by_cases hq0:q = i
            · rw [hq0,hk]; exact hb
            · exact hq q (by omega) h2
          · exact .inr ⟨e,q,by omega,q2,q3⟩
        · simp only [Bool.not_eq_true] at hb
          rw [if_pos (by simp [hb])]
          exact .inr ⟨rfl,i,Nat.le_refl _,hi,by rw [hk,hb]⟩
    · simp only [Bool.not_eq_true] at ht
      rw [if_pos (by simp [ht]),Option.bind_some,if_pos rfl]
      exact .inr ⟨rfl,i,Nat.le_refl _,hi,by unfold keyAt; simp [hx,ht]⟩
theorem c8j (ks:List Str) (hl:ks.length ≤ maxLen):∃ b,a7y ks = some b ∧ (b = true ↔ ∀ q,q < ks.length → keyAt ks q = true):=by
  unfold a7y
  rcases b5l ks hl ks 0 (by simp) with ⟨e,hq⟩ | ⟨e,q,q1,q2,q3⟩
  · rw [e]; exact ⟨true,rfl,by simp; exact fun q h => hq q (by omega) h⟩
  · rw [e]; refine ⟨false,rfl,?_⟩
    simp only [Bool.false_eq_true,false_iff]
    intro h
    rw [h q q2] at q3
    cases q3
def a8b (j:o8):Prop :=
  (j.Kind = 0 ∧ j.N = 0 ∧ j.T = [] ∧ j.Keys = [] ∧ j.Items = []) ∨
  (j.Kind = 1 ∧ (0 ≤ j.N ∧ j.N ≤ 1) ∧ j.T = [] ∧ j.Keys = [] ∧ j.Items = []) ∨
  (j.Kind = 2 ∧ (-1000000000 ≤ j.N ∧ j.N ≤ 1000000000) ∧ j.T = [] ∧ j.Keys = [] ∧ j.Items = []) ∨
  (j.Kind = 3 ∧ j.N = 0 ∧ b2e j.T = true ∧ j.Keys = [] ∧ j.Items = []) ∨
  (j.Kind = 4 ∧ j.N = 0 ∧ j.T = [] ∧ j.Keys = []) ∨
  (j.Kind = 5 ∧ j.N = 0 ∧ j.T = [] ∧ j.Keys.length = j.Items.length ∧ ∀ q,q < j.Keys.length → keyAt j.Keys q = true)
theorem d0j (j:o8) (hl:j.Keys.length ≤ maxLen):∃ b,a5e j = some b ∧ (b = true ↔ a8b j):=by
  obtain ⟨kb,ek,hk⟩:=c8j j.Keys hl
  unfold a5e a5t a8b
  simp only [c5c,c2t,ek,Option.bind_some]
  by_cases h0:j.Kind = 0
  · simp only [h0]
    by_cases h1:j.N = 0 <;> by_cases h2:j.T = [] <;> by_cases h3:j.Keys = [] <;> by_cases h4:j.Items = [] <;> simp_all
  by_cases h1:j.Kind = 1
  · simp only [h1]
    by_cases c:(0 ≤ j.N ∧ j.N ≤ 1) <;> by_cases h2:j.T = [] <;> by_cases h3:j.Keys = [] <;> by_cases h4:j.Items = [] <;> simp_all
  by_cases h2:j.Kind = 2
  · simp only [h2]
    by_cases c:(-1000000000 ≤ j.N ∧ j.N ≤ 1000000000) <;> by_cases h2:j.T = [] <;> by_cases h3:j.Keys = [] <;> by_cases h4:j.Items = [] <;> simp_all
  by_cases h3:j.Kind = 3
  · simp only [h3]
    by_cases h1:j.N = 0 <;> by_cases h2:b2e j.T = true <;> by_cases h3:j.Keys = [] <;> by_cases h4:j.Items = [] <;> simp_all
  by_cases h4:j.Kind = 4
  · simp only [h4]
    by_cases h1:j.N = 0 <;> by_cases h2:j.T = [] <;> by_cases h3:j.Keys = [] <;> simp_all
  by_cases h5:j.Kind = 5
  · simp only [h5]
    by_cases h1:j.N = 0 <;> by_cases h2:j.T = [] <;> by_cases h3:j.Keys.length = j.Items.length <;> simp_all <;> omega
  refine ⟨false,?_,?_⟩
  · simp [h0,h1,h2,h3,h4,h5]
  · simp [h0,h1,h2,h3,h4,h5]
def OkD:Nat → o8 → Prop
  | 0,_ => False
  | d + 1,j => a8b j ∧ ∀ y ∈ j.Items,OkD d y
def a4r:Nat → o8 → Int
  | 0,_ => 0
  | d + 1,j => 1 + (j.Items.map (a4r d)).sum
theorem b2g {α:Type} (f:α → Int) (hf:∀ x,0 ≤ f x):∀ l:List α,0 ≤ (l.map f).sum
  | [] => by simp
  | x :: xs => by simp only [List.map_cons,List.sum_cons]; have:=hf x; have:=b2g f hf xs; omega
theorem a9g:∀ (d:Nat) (j:o8),0 ≤ a4r d j
  | 0,j => by simp [a4r]
  | d + 1,j => by simp only [a4r]; have:=b2g (a4r d) (a9g d) j.Items; omega
theorem c5i (R:o8 → Int → Int → Option (Bool × Int)) (d:Nat) (deep:Int):∀ (xs:List o8) (s8:Nat) (room:Int),0 ≤ room → room ≤ 400 →
    (∀ y ∈ xs,∀ room,0 ≤ room → room ≤ 400 → ∃ b room',R y (w64 (deep + 1)) room = some (b,room') ∧ room' ≤ room ∧ (b = true ↔ OkD d y ∧ a4r d y ≤ room) ∧ (b = true → room' = room - a4r d y)) →
    (a0i R xs s8 deep room = some (.go (deep,room - (xs.map (a4r d)).sum)) ∧ (∀ y ∈ xs,OkD d y) ∧ (xs.map (a4r d)).sum ≤ room) ∨
    (∃ (i:Nat) (r':Int),a0i R xs s8 deep room = some (.ret ((i:Int),deep,r')) ∧ r' ≤ room ∧ ¬ ((∀ y ∈ xs,OkD d y) ∧ (xs.map (a4r d)).sum ≤ room))
  | [],s8,room,h0,h1,hR => .inl ⟨by rw [a0i]; simp,by simp,by simpa using h0⟩
  | x :: xs,s8,room,h0,h1,hR => by
    rw [a0i]
    unfold a4f
    obtain ⟨b,r1,e,g1,g2,g3⟩:=hR x (by simp) room h0 h1
    rw [e]
    simp only [Option.bind_some]
    have hs:=b2g (a4r d) (a9g d) xs
    have hx:=a9g d x
    cases b with
    | true =>
      obtain ⟨k1,k2⟩:=g2.1 rfl
      have k3:=g3 rfl
      rw [if_neg (by simp)]
      rcases c5i R d deep xs (s8 + 1) r1 (by omega) (by omega) (fun y hy => hR y (by simp [hy])) with ⟨e2,q1,q2⟩ | ⟨i,r',e2,q1,q2⟩
      · refine .inl ⟨?_,?_,?_⟩
        · rw [e2]; simp only [List.map_cons,List.sum_cons]; congr 3; omega
        · intro y hy
          rcases List.mem_cons.1 hy with rfl | hy
          · exact k1
          · exact q1 y hy
        · simp only [List.map_cons,List.sum_cons]; omega
      · refine .inr ⟨i,r',e2,by omega,fun ⟨f1,f2⟩ => q2 ⟨fun y hy => f1 y (by simp [hy]),?_⟩⟩
        simp only [List.map_cons,List.sum_cons] at f2
        omega
    | false =>
      rw [if_pos (by simp)]
      refine .inr ⟨s8,r1,rfl,g1,fun ⟨f1,f2⟩ => ?_⟩
      simp only [List.map_cons,List.sum_cons] at f2
      have:=g2.2 ⟨f1 x (by simp),by omega⟩
      cases this
theorem c1t:∀ (k d:Nat) (j:o8) (room:Int),d ≤ 12 → d < k → 0 ≤ room → room ≤ 400 → a4d j →
    ∃ b room',a2r k j (12 - d) room = some (b,room') ∧ room' ≤ room ∧ (b = true ↔ OkD d j ∧ a4r d j ≤ room) ∧ (b = true → room' = room - a4r d j)
  | 0,d,j,room,_,hk,_,_,_ => by omega
  | k + 1,d,j,room,hd,hk,h0,h1,ok => by
    obtain ⟨o1,o2,o3,o4⟩:=ok.parts
    rw [a2r]
    unfold a5d
    rw [a3h (by omega)]
    simp only [d6j]
    by_cases c1:room - 1 < 0
    · rw [if_pos (by simpa using c1),Option.bind_some,if_pos rfl]
      refine ⟨false,room - 1,rfl,by omega,?_,by simp⟩
      simp only [Bool.false_eq_true,false_iff,not_and]
      intro ho
      cases d with
      | zero => exact ho.elim
      | succ d => simp only [a4r]; have:=b2g (a4r d) (a9g d) j.Items; omega
    rw [if_neg (by simpa using c1)]
    cases d with
    | zero =>
      rw [if_pos (by simp),Option.bind_some,if_pos rfl]
      exact ⟨false,room - 1,rfl,by omega,by simp [OkD],by simp⟩
    | succ d =>
      rw [if_neg (by simp; omega)]
      obtain ⟨pb,ep,hp⟩:=d0j j o2.1
      rw [ep,Option.bind_some,Option.bind_some]
      cases pb with
      | false =>
        rw [if_pos (by simp)]
        refine ⟨false,room - 1,rfl,by omega,?_,by simp⟩
        simp only [Bool.false_eq_true,false_iff,not_and,OkD]
        intro ⟨hn,_⟩
        have:=hp.2 hn
        cases this
      | true =>
        rw [if_neg (by simp)]
        have hdeep:w64 (12 - ((d + 1:Nat):Int) + 1) = 12 - (d:Int):=by rw [a3h (by omega)]; omega
        have hloop:=c5i (a2r k) d (12 - ((d + 1:Nat):Int)) j.Items 0 (room - 1) (by omega) (by omega) (fun y hy rm a1 a2 => by
          rw [hdeep]
          exact c1t k d y rm (by omega) (by omega) a1 a2 (o4 y hy))
        unfold a1e a1g
        rcases hloop with ⟨e2,q1,q2⟩ | ⟨i,r',e2,q1,q2⟩
        · rw [e2]
          refine ⟨true,room - 1 - (j.Items.map (a4r d)).sum,by simp,?_,?_,?_⟩
          · have:=b2g (a4r d) (a9g d) j.Items; omega
          · simp only [true_iff,OkD,a4r]; exact ⟨⟨hp.1 rfl,q1⟩,by omega⟩
          · intro _; simp only [a4r]; omega
        · rw [e2]
          refine ⟨false,r',by simp,by omega,?_,by simp⟩
          simp only [Bool.false_eq_true,false_iff,OkD,a4r]
          rintro ⟨⟨_,f1⟩,f2⟩
          exact q2 ⟨f1,by omega⟩
theorem d4l (ks:List Str) (hl:ks.length ≤ maxLen) (i:Nat) (hi:i < ks.length):((idx ks (i:Int)).bind fun x => (a4e x).bind fun r => if (!r) then some true else if (decide ((i:Int) > 0)) then (idx ks (w64 ((i:Int) - 1))).bind fun y => (idx ks (i:Int)).bind fun z => some (!Op.bytesLess y z) else some false) = some (!keyAt ks i):=by
  obtain ⟨x,hx⟩:∃ x,ks[i]? = some x:=⟨ks[i],List.getElem?_eq_getElem hi⟩
  simp only [maxLen] at hl
  rw [b2s,hx,Option.bind_some,c6r,Option.bind_some]
  unfold keyAt
  rw [hx]
  by_cases ht:b2e x = true
  · simp only [ht]
    by_cases h0:i = 0
    · subst h0; simp
    · obtain ⟨y,hy⟩:∃ y,ks[i - 1]? = some y:=⟨ks[i - 1],List.getElem?_eq_getElem (by omega)⟩
      have e1:(i:Int) - 1 = ((i - 1:Nat):Int):=by omega
      rw [a3h (by omega),e1,b2s,hy,if_neg (by simp),if_pos (by simp; omega)]
      simp [h0]
  · simp only [Bool.not_eq_true] at ht
    simp [ht]
theorem c5j (j:o8) (rec:o8 → Int → Option (Int × Bool)) (d:Nat) (deep:Int) (hkl:j.Kind = 5 → j.Keys.length = j.Items.length) (hl:j.Keys.length ≤ maxLen):∀ (xs:List o8) (n:Int) (i:Nat),j.Items.drop i = xs → 0 ≤ n → n ≤ 400 →
    (∀ y ∈ xs,∃ m b,rec y (w64 (deep - 1)) = some (m,b) ∧ (b = true ↔ OkD d y ∧ a4r d y ≤ 400) ∧ (b = true → m = a4r d y)) →
    (a2d j rec deep xs n i = some (.go (n + (xs.map (a4r d)).sum)) ∧ (∀ y ∈ xs,OkD d y) ∧ n + (xs.map (a4r d)).sum ≤ 400 ∧ (j.Kind = 5 → ∀ q,i ≤ q → q < j.Keys.length → keyAt j.Keys q = true)) ∨
    (a2d j rec deep xs n i = some (.ret (0,false)) ∧ ¬ ((∀ y ∈ xs,OkD d y) ∧ n + (xs.map (a4r d)).sum ≤ 400 ∧ (j.Kind = 5 → ∀ q,i ≤ q → q < j.Keys.length → keyAt j.Keys q = true)))
  | [],n,i,h,h0,h1,hr => by
    refine .inl ⟨by rw [a2d]; simp,by simp,by simpa using h1,fun h5 q a b => ?_⟩
    have:=List.drop_eq_nil_iff.1 h
    have:=hkl h5
    omega
  | x :: xs,n,i,h,h0,h1,hr => by
    have hi:=c7f h
    rw [a2d]
    have hs:=b2g (a4r d) (a9g d) xs
    have hx:=a9g d x
    have key:((if (j.Kind == 5) then
    (idx j.Keys (i:Int)).bind fun x_219 =>
    (a4e x_219).bind fun r_221 =>
    if (!r_221) then
    some true
    else
    if (decide ((i:Int) > 0)) then
    (idx j.Keys (w64 ((i:Int) - 1))).bind fun x_225 =>
    (idx j.Keys (i:Int)).bind fun x_227 =>
    some (!Op.bytesLess x_225 x_227)
    else
    some false
    else
    some false:Option Bool)) = some (decide (j.Kind = 5) && !keyAt j.Keys i):=by
      by_cases h5:j.Kind = 5
      · rw [if_pos (by simp [h5]),d4l j.Keys hl i (by have:=hkl h5; omega)]
        simp [h5]
      · rw [if_neg (by simp [h5])]; simp [h5]
    rw [key,Option.bind_some]
    by_cases hk:(decide (j.Kind = 5) && !keyAt j.Keys i) = true
    · rw [if_pos hk]
      refine .inr ⟨rfl,fun ⟨_,_,f⟩ => ?_⟩
      simp only [Bool.and_eq_true,decide_eq_true_eq,Bool.not_eq_true'] at hk
      have:=f hk.1 i (Nat.le_refl _) (by have:=hkl hk.1; omega)
      rw [this] at hk
      cases hk.2
    · rw [if_neg hk]
      obtain ⟨m,b,e,g1,g2⟩:=hr x (by simp)
      rw [e,Option.bind_some]
      cases b with
      | false =>
        simp only [Bool.not_false,if_pos,Option.bind_some]
        refine .inr ⟨trivial,fun ⟨f1,f2,_⟩ => ?_⟩
        simp only [List.map_cons,List.sum_cons] at f2
        have:=g1.2 ⟨f1 x (by simp),by omega⟩
        cases this
      | true =>
        have hm:=g2 rfl
        obtain ⟨k1,k2⟩:=g1.1 rfl
        simp only
        rw [if_neg (by simp),Option.bind_some,a3h (by omega)]
        by_cases hc:n + m > 400
        · rw [if_pos (by simpa using hc)]
          refine .inr ⟨rfl,fun ⟨f1,f2,_⟩ => ?_⟩
          simp only [List.map_cons,List.sum_cons] at f2
          omega
        · rw [if_neg (by simpa using hc)]
          have hkey:j.Kind = 5 → keyAt j.Keys i = true:=by
            intro h5
            simp only [h5,decide_true,Bool.true_and,Bool.not_eq_true',Bool.not_eq_false] at hk
            exact hk
          rcases c5j j rec d deep hkl hl xs (n + m) (i + 1) (b0j h) (by omega) (by omega) (fun y hy => hr y (by simp [hy])) with ⟨e2,q1,q2,q3⟩ | ⟨e2,q⟩
          · refine .inl ⟨?_,?_,?_,?_⟩
            · rw [e2]; simp only [List.map_cons,List.sum_cons]; congr 2; omega
            · intro y hy
              rcases List.mem_cons.1 hy with rfl | hy
              · exact k1
              · exact q1 y hy
            · simp only [List.map_cons,List.sum_cons]; omega
            · intro h5 q a b
              by_cases hq:q = i
              · rw [hq]; exact hkey h5
              · exact q3 h5 q (by omega) b
          · refine .inr ⟨e2,fun ⟨f1,f2,f3⟩ => q ⟨fun y hy => f1 y (by simp [hy]),?_,fun h5 q a b => f3 h5 q (by omega) b⟩⟩
            simp only [List.map_cons,List.sum_cons] at f2
            omega
theorem c5k {d:Nat} {j:o8} (h:j.Items = []):a4r (d + 1) j = 1:=by simp [a4r,h]
theorem c7m:∀ (k d:Nat) (j:o8),d < k → d ≤ 12 → a4d j → ∃ n b,a5a k j d = some (n,b) ∧ (b = true ↔ OkD d j ∧ a4r d j ≤ 400) ∧ (b = true → n = a4r d j)
  | 0,d,j,hk,_,_ => by omega
  | k + 1,0,j,hk,hd,ok => by
    rw [a5a]
    unfold a7w
    rw [if_pos (by simp)]
    exact ⟨0,false,rfl,by simp [OkD],by simp⟩
  | k + 1,d + 1,j,hk,hd,ok => by
    obtain ⟨o1,o2,o3,o4⟩:=ok.parts
    rw [a5a]
    unfold a7w
    rw [if_neg (by simp; omega)]
    have hdeep:w64 (((d + 1:Nat):Int) - 1) = (d:Int):=by rw [a3h (by omega)]; omega
    have leaf:∀ c:Bool,(c = true ↔ a8b j) → (a8b j → j.Items = []) → ∃ n b,some ((1:Int),c) = some (n,b) ∧ (b = true ↔ OkD (d + 1) j ∧ a4r (d + 1) j ≤ 400) ∧ (b = true → n = a4r (d + 1) j):=by
      intro c hc hi
      refine ⟨1,c,rfl,?_,fun h => (c5k (hi (hc.1 h))).symm⟩
      rw [hc]
      constructor
      · intro h
        refine ⟨⟨h,by simp [hi h]⟩,?_⟩
        rw [c5k (hi h)]; omega
      · rintro ⟨⟨h,_⟩,_⟩; exact h
    have plainE:((if ((j.Keys.length:Int) == 0) then some ((j.Items.length:Int) == 0) else some false:Option Bool)) = some (decide (j.Keys = [] ∧ j.Items = [])):=by
      by_cases h1:j.Keys = [] <;> by_cases h2:j.Items = [] <;> simp [h1,h2]
    rw [plainE,Option.bind_some]
    by_cases k0:j.Kind = 0
    · rw [if_pos (by simp [k0])]
      have:=leaf (decide (j.Keys = [] ∧ j.Items = []) && decide (j.N = 0) && decide (j.T = [])) (by simp [a8b,k0]; grind) (by simp [a8b,k0])
      by_cases h1:(j.Keys = [] ∧ j.Items = []) <;> by_cases h2:j.N = 0 <;> by_cases h3:j.T = [] <;> simpa [h1,h2,h3] using this
    rw [if_neg (by simp [k0])]
    by_cases k1:j.Kind = 1
    · rw [if_pos (by simp [k1])]
      simp only [d3i,Option.bind_some]
      have:=leaf (decide (j.Keys = [] ∧ j.Items = []) && decide (0 ≤ j.N ∧ j.N ≤ 1) && decide (j.T = [])) (by simp [a8b,k1]; grind) (by simp [a8b,k1])
      by_cases h1:(j.Keys = [] ∧ j.Items = []) <;> by_cases h2:(0 ≤ j.N ∧ j.N ≤ 1) <;> by_cases h3:j.T = [] <;> simpa [h1,h2,h3] using this
    rw [if_neg (by simp [k1])]
    by_cases k2:j.Kind = 2
    · rw [if_pos (by simp [k2])]
      simp only [d3i,Option.bind_some]
      have:=leaf (decide (j.Keys = [] ∧ j.Items = []) && decide (-1000000000 ≤ j.N ∧ j.N ≤ 1000000000) && decide (j.T = [])) (by simp [a8b,k2]; grind) (by simp [a8b,k2])
      by_cases h1:(j.Keys = [] ∧ j.Items = []) <;> by_cases h2:(-1000000000 ≤ j.N ∧ j.N ≤ 1000000000) <;> by_cases h3:j.T = [] <;> simpa [h1,h2,h3] using this
    rw [if_neg (by simp [k2])]
    by_cases k3:j.Kind = 3
    · rw [if_pos (by simp [k3])]
      simp only [c6r,Option.bind_some]
      have:=leaf (decide (j.Keys = [] ∧ j.Items = []) && decide (j.N = 0) && b2e j.T) (by simp [a8b,k3]; grind) (by simp [a8b,k3])
      by_cases h1:(j.Keys = [] ∧ j.Items = []) <;> by_cases h2:j.N = 0 <;> simpa [h1,h2] using this
    rw [if_neg (by simp [k3])]
    by_cases hn:(j.Kind = 4 ∧ j.N = 0 ∧ j.T = [] ∧ j.Keys = []) ∨ (j.Kind = 5 ∧ j.N = 0 ∧ j.T = [] ∧ j.Keys.length = j.Items.length)
    · have hnode:a8b j ↔ (j.Kind = 5 → ∀ q,q < j.Keys.length → keyAt j.Keys q = true):=by
        rcases hn with ⟨a1,a2,a3,a4⟩ | ⟨a1,a2,a3,a4⟩
        · simp [a8b,a1,a2,a3,a4]
        · simp [a8b,a1,a2,a3,a4]
      have hkl:j.Kind = 5 → j.Keys.length = j.Items.length:=by
        intro h5
        rcases hn with ⟨a1,_⟩ | ⟨_,_,_,a4⟩
        · omega
        · exact a4
      have hloop:=c5j j (a5a k) d ((d + 1:Nat):Int) hkl o2.1 j.Items 1 0 (by simp) (by omega) (by omega) (fun y hy => by
        rw [hdeep]
        exact c7m k d y (by omega) (by omega) (o4 y hy))
      have hc:(bif (bif (bif (bif (bif (j.Kind != 4) then (j.Kind != 5) else false) then true else (j.N != 0)) then true else (!(j.T == []))) then true else (bif (j.Kind == 4) then (decide ((j.Keys.length:Int) > 0)) else false)) then true else (bif (j.Kind == 5) then ((j.Keys.length:Int) != (j.Items.length:Int)) else false)) = false:=by
        rcases hn with ⟨a1,a2,a3,a4⟩ | ⟨a1,a2,a3,a4⟩
        · simp [a1,a2,a3,a4]
        · simp [a1,a2,a3,a4]
      simp only [hc,Option.bind_some,Bool.false_eq_true,if_false]
      rcases hloop with ⟨e2,q1,q2,q3⟩ | ⟨e2,q⟩
      · rw [e2]
        refine ⟨_,true,rfl,?_,fun _ => by simp only [a4r]⟩
        simp only [true_iff,OkD,a4r]
        exact ⟨⟨hnode.2 fun h5 q hq => q3 h5 q (by omega) hq,q1⟩,q2⟩
      · rw [e2]
        refine ⟨0,false,rfl,?_,by simp⟩
        simp only [Bool.false_eq_true,false_iff,OkD,a4r]
        rintro ⟨⟨f1,f2⟩,f3⟩
        exact q ⟨f2,f3,fun h5 q _ hq => hnode.1 f1 h5 q hq⟩
    · have hnn:¬ a8b j:=by
        intro h
        apply hn
        unfold a8b at h
        rcases h with h | h | h | h | h | h
        · exact absurd h.1 k0
        · exact absurd h.1 k1
        · exact absurd h.1 k2
        · exact absurd h.1 k3
        · exact .inl h
        · exact .inr ⟨h.1,h.2.1,h.2.2.1,h.2.2.2.1⟩
      refine ⟨0,false,?_,by simp [OkD,hnn],by simp⟩
      by_cases k4:j.Kind = 4
      · simp only [k4]
        by_cases h1:j.N = 0 <;> by_cases h2:j.T = [] <;> by_cases h3:j.Keys = [] <;> simp [h1,h2,h3,List.length_pos_iff] <;> simp_all
      · by_cases k5:j.Kind = 5
        · simp only [k5]
          by_cases h1:j.N = 0 <;> by_cases h2:j.T = [] <;> by_cases h3:j.Keys.length = j.Items.length <;> simp [h1,h2,h3] <;> first | (intro h; omega) | simp_all
        · simp [k4,k5]
theorem d1y:2 ^ 40 < FUEL:=by unfold FUEL; decide
theorem c0e (j:o8) (ok:a4d j):∃ b,a8p j = some b ∧ a8n j = some b ∧ (b = true ↔ OkD 12 j ∧ a4r 12 j ≤ 400):=by
  have hf:=d1y
  obtain ⟨b,room',e1,_,h1,_⟩:=c1t FUEL 12 j 400 (by omega) (by omega) (by omega) (by omega) ok
  obtain ⟨n,b',e2,h2,_⟩:=c7m FUEL 12 j (by omega) (by omega) ok
  have hb:b = b':=by rw [Bool.eq_iff_iff,h1,h2]
  refine ⟨b,?_,?_,h1⟩
  · unfold a8p
    have:(12:Int) - ((12:Nat):Int) = 0:=by decide
    rw [this] at e1
    rw [e1,Option.bind_some]
  · unfold a8n
    have e2':a5a FUEL j 12 = some (n,b'):=e2
    rw [e2',Option.bind_some,hb]
theorem c5l (j:o8):(∃ x y,j.Kind = 4 ∧ j.Items = [x,y] ∧ x.Kind = 3 ∧ ∀ w,a1s j w = some (if x.T = w then (y,true) else (⟨0,0,[],[],[]⟩,false))) ∨ ∀ w,a1s j w = some (⟨0,0,[],[],[]⟩,false):=by
  unfold a1s
  by_cases k4:j.Kind = 4
  · by_cases h2:j.Items.length = 2
    · obtain ⟨x,y,hxy⟩:∃ x y,j.Items = [x,y]:=by
        match hj:j.Items,h2 with
        | [x,y],_ => exact ⟨x,y,rfl⟩
      have e0:idx j.Items 0 = some x:=by rw [hxy]; rfl
      have e1:idx j.Items 1 = some y:=by rw [hxy]; rfl
      by_cases h3:x.Kind = 3
      · refine .inl ⟨x,y,k4,hxy,h3,fun w => ?_⟩
        rw [if_neg (by simp [k4,h2])]
        simp only [e0,e1,Option.bind_some]
        by_cases h4:x.T = w <;> simp [h3,h4]
      · refine .inr fun w => ?_
        rw [if_neg (by simp [k4,h2])]
        simp only [e0,e1,Option.bind_some]
        simp [h3]
    · refine .inr fun w => ?_
      rw [if_pos (by simp; omega)]
      rfl
  · refine .inr fun w => ?_
    rw [if_pos (by simp [k4])]
    rfl
theorem c2y (j:o8) (w:Str):a4k j w = a1s j w:=by
  unfold a4k a1s
  rfl
theorem b0q (a:y5):∃ b,a6j a = some b ∧ a6g a = some b ∧ (a.Kind = 0 → b = false) ∧ (b = true → a8s a = true) :=
  ⟨a8s a,b9h a,c1r a,fun h => by unfold a8s; simp [h],id⟩
def b5m (r:y5 × Bool):y5 × Bool:=if r.2 = true then r else (⟨0,0,[]⟩,false)
theorem c1u (j:o8):∃ r s,a4i j = some r ∧ a4n j = some s ∧ b5m r = s ∧ (r.2 = true → a8s r.1 = true) ∧ ((∀ w,a1s j w = some (⟨0,0,[],[],[]⟩,false)) ∨ r.2 = true → True):=by
  unfold a4i a4n
  by_cases k2:j.Kind = 2
  · obtain ⟨b,e1,e2,_,e3⟩:=b0q ⟨1,j.N,[]⟩
    simp only [k2]
    simp only [beq_self_eq_true,if_pos,Option.bind_some,e1,e2]
    cases b <;> simp [b5m] <;> simpa using e3
  by_cases k3:j.Kind = 3
  · obtain ⟨b,e1,e2,_,e3⟩:=b0q ⟨2,0,j.T⟩
    simp only [k3]
    simp [e1,e2]
    cases b <;> simp [b5m] <;> simpa using e3
  by_cases k1:j.Kind = 1
  · obtain ⟨b,e1,e2,_,e3⟩:=b0q ⟨3,j.N,[]⟩
    simp only [k1]
    simp [e1,e2]
    cases b <;> simp [b5m] <;> simpa using e3
  have c2:(j.Kind == 2) = false:=by simp [k2]
  have c3:(j.Kind == 3) = false:=by simp [k3]
  have c1:(j.Kind == 1) = false:=by simp [k1]
  simp only [c1,c2,c3,c2y,Bool.false_eq_true,if_false]
  rcases c5l j with ⟨x,y,k4,_,_,hw⟩ | hw
  · rw [if_pos (by simp [k4])]
    simp only [hw,Option.bind_some]
    by_cases hx:x.T = [117,117,105,100]
    · obtain ⟨b,e1,e2,_,e3⟩:=b0q ⟨4,y.N,[]⟩
      simp only [hx,if_true]
      by_cases h2:y.Kind = 2
      · simp [h2,e1,e2]
        cases b <;> simp [b5m] <;> simpa using e3
      · simp [h2,b5m]
    · simp [hx,b5m]
  · by_cases k4:j.Kind = 4
    · rw [if_pos (by simp [k4])]
      simp only [hw,Option.bind_some]
      simp [b5m]
    · obtain ⟨b,e1,e2,hb0,_⟩:=b0q ⟨0,0,[]⟩
      have hb1:b = false:=hb0 rfl
      subst hb1
      rw [if_neg (by simp [k4])]
      simp only [hw,Option.bind_some]
      simp [e1,b5m]
theorem c6t (j x y:o8) (k4:j.Kind = 4) (hx:x.T ≠ [117,117,105,100]) (hw:∀ w,a1s j w = some (if x.T = w then (y,true) else (⟨0,0,[],[],[]⟩,false))):∃ a,a4i j = some (a,false):=by
  unfold a4i
  simp [k4,c2y,hw,hx]
theorem c2z:∀ (xs:List o8) (out:List y5),out.length + xs.length ≤ 2 ^ 20 → (∃ d,a0w xs out = some (.go d) ∧ a1j xs out = some (.go d) ∧ d.length = out.length + xs.length) ∨ (a0w xs out = some (.ret ([],false)) ∧ a1j xs out = some (.ret ([],false)))
  | [],out,_ => .inl ⟨out,by rw [a0w],by rw [a1j],by simp⟩
  | x :: xs,out,h => by
    simp only [List.length_cons] at h
    obtain ⟨r,s,e1,e2,e3,_⟩:=c1u x
    rw [a0w,a1j,e1,e2,Option.bind_some,Option.bind_some]
    subst e3
    obtain ⟨a,b⟩:=r
    cases b with
    | false => exact .inr ⟨by simp,by simp [b5m]⟩
    | true =>
      simp only [b5m,if_true,Bool.not_true,Bool.false_eq_true,if_false]
      rw [if_pos (by simp; omega),if_pos (by simp; omega)]
      rcases c2z xs (out ++ [a]) (by simp; omega) with ⟨d,h1,h2,h3⟩ | h
      · exact .inl ⟨d,h1,h2,by rw [h3]; simp; omega⟩
      · exact .inr h
theorem d4m (a:y5) (h:a8s a = true):a4g [a] = some ([a],0):=by
  obtain ⟨d,c,e,e2,h8,hm⟩:=d0i [a] (by simp)
  unfold a4g at e ⊢
  rcases b9k [a] [a] (fun _ h => h) with ⟨h1,_,_⟩ | ⟨c',_,h1,h2⟩
  · obtain ⟨d',g1,g2,g3,g4⟩:=c5h [a] (by simp)
    rw [h1,g1]
    have:d' = [a]:=a7z.ext g2 (List.pairwise_singleton _ _) g3
    subst this
    simp
  · rw [a1m,b9h,h] at h1
    simp [idx,a1m] at h1
theorem c5m (j:o8) (hl:∀ y ∈ j.Items,y.Items.length ≤ 4096):∃ d d' b,a6k j = some (d,b) ∧ a5r j = some (d',b) ∧ (b = true → d' = d ∧ d.length ≤ 8):=by
  unfold a6k a5r a5y
  rw [c2y]
  have one:∀ (a:y5) (b:Bool),a4i j = some (a,b) → (b = true → a8s a = true) → ∃ d,((a0w [j] []).bind fun q => (match q with
      | .ret r => some r
      | .go list_34 => (a4g list_34).bind fun r_47 => some (r_47.1,(r_47.2 == 0)))) = some (d,b) ∧ (b = true → d = [a]):=by
    intro a b e1 hb
    rw [a0w,e1]
    cases b with
    | false => exact ⟨[],by simp,by simp⟩
    | true => exact ⟨[a],by simp [a0w,d4m a (hb rfl)],fun _ => rfl⟩
  have notset:a1s j [115,101,116] = some (⟨0,0,[],[],[]⟩,false) → ∃ d d' b,((a1s j [115,101,116]).bind fun r_2 => if r_2.2 = true then some (r_2.1.Items,(r_2.1.Kind == 4)) else some (r_2.1.Items,false)).bind (fun r_2 => ((if (!r_2.2) then some [j] else some r_2.1:Option (List o8))).bind fun items_5 => (a0w items_5 []).bind fun q => (match q with
      | .ret r => some r
      | .go list_34 => (a4g list_34).bind fun r_47 => some (r_47.1,(r_47.2 == 0)))) = some (d,b) ∧ ((a4n j).bind fun r_5 => some ([r_5.1],r_5.2)) = some (d',b) ∧ (b = true → d' = d ∧ d.length ≤ 8):=by
    intro hp
    obtain ⟨r,s,e1,e2,e3,e4,_⟩:=c1u j
    obtain ⟨a,b⟩:=r
    obtain ⟨d,g1,g2⟩:=one a b e1 e4
    subst e3
    refine ⟨d,[(b5m (a,b)).1],b,?_,?_,?_⟩
    · rw [hp]; simpa using g1
    · rw [e2]; cases b <;> simp [b5m]
    · intro hb; subst hb; rw [g2 rfl]; simp [b5m]
  rcases c5l j with ⟨x,y,k4,hi,hk,hw⟩ | hw
  · by_cases hx:x.T = [115,101,116]
    · simp only [hw,hx,if_true,Option.bind_some]
      by_cases hy:y.Kind = 4
      · simp only [hy,beq_self_eq_true,Bool.not_true,Bool.false_eq_true,if_false,Option.bind_some,if_true]
        have hly:=hl y (by rw [hi]; simp)
        rcases c2z y.Items [] (by simp; omega) with ⟨l,h1,h2,h3⟩ | ⟨h1,h2⟩
        · obtain ⟨d,c,q1,q2,q3,_⟩:=d0i l (by rw [h3]; simpa using hly)
          rw [h1,h2]
          simp only [Option.bind_some,q1,q2]
          exact ⟨d,d,(c == 0),rfl,rfl,fun _ => ⟨rfl,q3⟩⟩
        · rw [h1,h2]
          exact ⟨[],[],false,rfl,rfl,fun _ => ⟨rfl,by simp⟩⟩
      · have hy':(y.Kind == 4) = false:=by simp [hy]
        obtain ⟨a,ea⟩:=c6t j x y k4 (by rw [hx]; decide) hw
        obtain ⟨d,g1,_⟩:=one a false ea (by simp)
        have hly:=hl y (by rw [hi]; simp)
        simp only [hy',Bool.not_false,Bool.not_true,if_true,Bool.false_eq_true,if_false,Option.bind_some]
        rcases c2z y.Items [] (by simp; omega) with ⟨l,h1,h2,h3⟩ | ⟨h1,h2⟩
        · obtain ⟨d2,c,q1,q2,_⟩:=d0i l (by rw [h3]; simpa using hly)
          rw [h2]
          simp only [Option.bind_some,q2]
          exact ⟨d,d2,false,g1,rfl,by simp⟩
        · rw [h2]
          exact ⟨d,[],false,g1,rfl,by simp⟩
    · have hp:a1s j [115,101,116] = some (⟨0,0,[],[],[]⟩,false):=by rw [hw,if_neg hx]
      obtain ⟨d,d',b,g1,g2,g3⟩:=notset hp
      refine ⟨d,d',b,g1,?_,g3⟩
      rw [hp]
      simpa using g2
  · have hp:=hw [115,101,116]
    obtain ⟨d,d',b,g1,g2,g3⟩:=notset hp
    refine ⟨d,d',b,g1,?_,g3⟩
    rw [hp]
    simpa using g2
theorem c7n {α:Type} (f:α → Int) (hf:∀ x,1 ≤ f x):∀ l:List α,(l.length:Int) ≤ (l.map f).sum
  | [] => by simp
  | x :: xs => by simp only [List.map_cons,List.sum_cons,List.length_cons]; have:=hf x; have:=c7n f hf xs; omega
theorem c5n {α:Type} (f:α → Int) (hf:∀ x,0 ≤ f x):∀ (l:List α) (x:α),x ∈ l → f x ≤ (l.map f).sum
  | y :: ys,x,h => by
    simp only [List.map_cons,List.sum_cons]
    have h1:=b2g f hf ys
    have h2:=hf y
    rcases List.mem_cons.1 h with rfl | h
    · omega
    · have:=c5n f hf ys x h
      omega
theorem c8k (j:o8) (h:a4r 12 j ≤ 400):∀ y ∈ j.Items,y.Items.length ≤ 4096:=by
  intro y hy
  have h1:a4r 12 j = 1 + (j.Items.map (a4r 11)).sum:=rfl
  have h2:=c5n (a4r 11) (a9g 11) j.Items y hy
  have h3:a4r 11 y = 1 + (y.Items.map (a4r 10)).sum:=rfl
  have h4:=c7n (a4r 10) (fun x => by
    have:a4r 10 x = 1 + (x.Items.map (a4r 9)).sum:=rfl
    have:=b2g (a4r 9) (a9g 9) x.Items
    omega) y.Items
  omega
theorem c5o (j:o8) (ok:a4d j):∃ d c,a5g j = some (d,c) ∧ a6i j = some (d,c) ∧ d.length ≤ 8:=by
  obtain ⟨b,e1,e2,hb⟩:=c0e j ok
  unfold a5g a6i
  rw [e1,e2,Option.bind_some,Option.bind_some]
  cases b with
  | false => exact ⟨[],1,by simp,by simp,by simp⟩
  | true =>
    obtain ⟨d,d',b,g1,g2,g3⟩:=c5m j (c8k j (hb.1 rfl).2)
    rw [g1,g2]
    cases b with
    | false => exact ⟨[],3,by simp,by simp,by simp⟩
    | true =>
      obtain ⟨rfl,h8⟩:=g3 rfl
      exact ⟨d',0,by simp,by simp,h8⟩
theorem b5n:∀ l:List y5,a3k l = 3 * l.length
  | [] => rfl
  | x :: xs => by rw [a3k,b5n xs,List.length_cons]; omega
theorem b2h (j:o8) (h:a4d j):a4q j = some true:=by
  unfold a4q
  obtain ⟨r,e,hr⟩:=d0g j 1048576 (by omega) (by omega) h
  rw [e,Option.bind_some]
  by_cases hn:r < 0
  · rw [if_pos (decide_eq_true hn)]
  · rw [if_neg (by simpa using hn)]
    obtain ⟨h1,h2⟩:=hr.resolve_left hn
    have hw:a5w j ≤ 1048576:=by omega
    have et:=d0h j (by omega)
    obtain ⟨d,c,e1,e2,k1⟩:=c5o j h
    have q1:=b9d j
    have q2:=b5n d
    have m1:=c6p j 1 (b9e j (by omega)) (by omega) (by omega)
    have m2:=c4r d 1 (by unfold a4o; omega) (by omega) (by omega)
    have m3:=c4s d 1 (by unfold a4o; omega) (by omega) (by omega)
    have eq1:=c8h d
    have eq2:=c4x j (by omega)
    have n1:decide ((1:Int) + (a9f j:Nat) < 0) = false:=decide_eq_false (by omega)
    have n2:decide ((1:Int) + (a3k d:Nat) < 0) = false:=decide_eq_false (by omega)
    simp only [et,Option.bind_some,e1,e2,eq1,eq2,m1,m2,m3,n1,n2,Bool.not_true,Bool.false_eq_true,if_false,bne_self_eq_false,cond_false]
end Go.R
