import Derived.Test.YtldahjcikmpifaaGreatHS5
set_option linter.all false
namespace Go.R
open Go Go.Proofs Go.RowKit
open Go.Sort
theorem c8n:∀ a b:List UInt8,Lib.compareBytes a b = -1 ∨ Lib.compareBytes a b = 0 ∨ Lib.compareBytes a b = 1
  | [],[] => by simp [Lib.compareBytes]
  | [],_ :: _ => by simp [Lib.compareBytes]
  | _ :: _,[] => by simp [Lib.compareBytes]
  | a :: xs,b :: ys => by
    have:=c8n xs ys
    unfold Lib.compareBytes
    split
    · simp
    · split
      · simp
      · exact this
theorem b3x (a b:UInt8):a < b ∨ a = b ∨ b < a:=by
  simp only [UInt8.lt_iff_toNat_lt,← UInt8.toNat_inj]
  omega
theorem b0q {a b:UInt8} (h:a < b):¬ b < a:=by
  simp only [UInt8.lt_iff_toNat_lt] at *
  omega
theorem c1n:∀ a b:List UInt8,Lib.compareBytes b a = - Lib.compareBytes a b
  | [],[] => by simp [Lib.compareBytes]
  | [],_ :: _ => by simp [Lib.compareBytes]
  | _ :: _,[] => by simp [Lib.compareBytes]
  | a :: xs,b :: ys => by
    have ih:=c1n xs ys
    unfold Lib.compareBytes
    rcases b3x a b with h | h | h
    · simp [h,b0q h]
    · subst h;simp [UInt8.lt_irrefl,ih]
    · simp [h,b0q h]
theorem b6d:∀ a b:List UInt8,Lib.compareBytes a b = 0 ↔ a = b
  | [],[] => by simp [Lib.compareBytes]
  | [],_ :: _ => by simp [Lib.compareBytes]
  | _ :: _,[] => by simp [Lib.compareBytes]
  | a :: xs,b :: ys => by
    have ih:=b6d xs ys
    unfold Lib.compareBytes
    rcases b3x a b with h | h | h
    · have hne:a ≠ b:=by rintro rfl;exact UInt8.lt_irrefl _ h
      simp [h,hne]
    · subst h;simp [UInt8.lt_irrefl,ih]
    · have hne:a ≠ b:=by rintro rfl;exact UInt8.lt_irrefl _ h
      simp [h,b0q h,hne]
theorem b6e:∀ a b:List UInt8,Op.bytesLess a b = decide (Lib.compareBytes a b < 0)
  | [],[] => by simp [Lib.compareBytes,Op.bytesLess]
  | [],_ :: _ => by simp [Lib.compareBytes,Op.bytesLess]
  | _ :: _,[] => by simp [Lib.compareBytes,Op.bytesLess]
  | a :: xs,b :: ys => by
    have ih:=b6e xs ys
    unfold Lib.compareBytes Op.bytesLess
    rcases b3x a b with h | h | h
    · simp [h]
    · subst h;simp [UInt8.lt_irrefl,ih]
    · have hne:¬ a = b:=by rintro rfl;exact UInt8.lt_irrefl _ h
      simp [h,b0q h,hne]
theorem b5a:∀ a b c:List UInt8,Lib.compareBytes a b < 0 → Lib.compareBytes b c < 0 → Lib.compareBytes a c < 0
  | [],[],c => by intro h;simp [Lib.compareBytes] at h
  | [],_ :: _,[] => by intro _ h;simp [Lib.compareBytes] at h
  | [],_ :: _,_ :: _ => by intro _ _;simp [Lib.compareBytes]
  | _ :: _,[],c => by intro h;simp [Lib.compareBytes] at h
  | _ :: _,_ :: _,[] => by intro _ h;simp [Lib.compareBytes] at h
  | a :: xs,b :: ys,c :: zs => by
    have ih:=b5a xs ys zs
    unfold Lib.compareBytes
    rcases b3x a b with h | h | h
    · rcases b3x b c with g | g | g
      · have:a < c:=by simp only [UInt8.lt_iff_toNat_lt] at *;omega
        simp [this]
      · subst g;simp [h]
      · simp [h,g,b0q g]
    · subst h
      rcases b3x a c with g | g | g
      · simp [g]
      · subst g;simp only [UInt8.lt_irrefl,if_false];exact ih
      · simp [g,b0q g]
    · simp [h,b0q h]
theorem e3k (x y:Int × Int × List UInt8):cfA x y < 0 ↔ x.1 < y.1 ∨ x.1 = y.1 ∧ (x.2.1 < y.2.1 ∨ x.2.1 = y.2.1 ∧ Lib.compareBytes x.2.2 y.2.2 < 0):=by
  unfold cfA orI b6z
  rcases Int.lt_trichotomy x.1 y.1 with h | h | h
  · simp [h]
  · rcases Int.lt_trichotomy x.2.1 y.2.1 with g | g | g
    · simp [h,g]
    · simp [h,g]
    · have:¬ x.2.1 < y.2.1:=by omega
      have g2:¬ x.2.1 = y.2.1:=by omega
      simp [h,g,this,g2]
  · have:¬ x.1 < y.1:=by omega
    have g2:¬ x.1 = y.1:=by omega
    simp [h,this,g2]
theorem c1o (x y:Int × Int × List UInt8):cfA x y = 0 ↔ x = y:=by
  obtain ⟨x1,x2,x3⟩:=x
  obtain ⟨y1,y2,y3⟩:=y
  unfold cfA orI b6z
  simp only [Prod.mk.injEq]
  rw [← b6d]
  rcases Int.lt_trichotomy x1 y1 with h | h | h
  · have g2:¬ x1 = y1:=by omega
    simp [h,g2]
  · subst h
    rcases Int.lt_trichotomy x2 y2 with g | g | g
    · have g2:¬ x2 = y2:=by omega
      simp [g,g2]
    · simp [g]
    · have:¬ x2 < y2:=by omega
      have g2:¬ x2 = y2:=by omega
      simp [g,this,g2]
  · have:¬ x1 < y1:=by omega
    have g2:¬ x1 = y1:=by omega
    simp [h,this,g2]
theorem c1p (x y:Int × Int × List UInt8):cfA y x = - cfA x y:=by
  unfold cfA orI b6z
  rw [c1n x.2.2 y.2.2]
  rcases Int.lt_trichotomy x.1 y.1 with h | h | h
  · have:¬ y.1 < x.1:=by omega
    simp [h,this]
  · rcases Int.lt_trichotomy x.2.1 y.2.1 with g | g | g
    · have:¬ y.2.1 < x.2.1:=by omega
      simp [h,g,this]
    · simp [h,g]
    · have:¬ x.2.1 < y.2.1:=by omega
      simp [h,g,this]
  · have:¬ x.1 < y.1:=by omega
    simp [h,this]
theorem d0i (x y z:Int × Int × List UInt8) (h1:cfA x y < 0) (h2:cfA y z < 0):cfA x z < 0:=by
  rw [e3k] at *
  rcases h1 with h1 | ⟨h1,h1'⟩
  · rcases h2 with h2 | ⟨h2,_⟩
    · exact .inl (by omega)
    · exact .inl (by omega)
  · rcases h2 with h2 | ⟨h2,h2'⟩
    · exact .inl (by omega)
    · refine .inr ⟨by omega,?_⟩
      rcases h1' with g1 | ⟨g1,g1'⟩
      · rcases h2' with g2 | ⟨g2,_⟩
        · exact .inl (by omega)
        · exact .inl (by omega)
      · rcases h2' with g2 | ⟨g2,g2'⟩
        · exact .inl (by omega)
        · exact .inr ⟨by omega,b5a _ _ _ g1' g2'⟩
theorem f1p:SWO (ltOf cfA) where
  irrefl x:=by
    have:=(c1o x x).2 rfl
    simp [ltOf,this]
  trans x y z h1 h2:=by
    simp only [ltOf,decide_eq_true_eq] at *
    exact d0i x y z h1 h2
  ntrans x y z h1 h2:=by
    simp only [ltOf,decide_eq_false_iff_not] at *
    by_cases e1:cfA x y = 0
    · rw [(c1o x y).1 e1];exact h2
    · by_cases e2:cfA y z = 0
      · rw [← (c1o y z).1 e2];exact h1
      · have a1:=c1p x y
        have a2:=c1p y z
        have a3:=c1p x z
        intro h
        have:=d0i z y x (by omega) (by omega)
        omega
theorem f1q (x y:Int × Int × List UInt8) (h1:(ltOf cfA) x y = false) (h2:(ltOf cfA) y x = false):x = y:=by
  simp only [ltOf,decide_eq_false_iff_not] at h1 h2
  have:=c1p x y
  exact (c1o x y).1 (by omega)
end Go.R
