/- the order of atoms, for the sort. -/
import Derived.Test.YtgdkfnndbknjpaaHS5
set_option linter.all false
namespace Go.R
open Go Go.Proofs Go.RowKit
set_option linter.all false
open Go.Sort
theorem b9u:∀ a b:List UInt8,Lib.compareBytes a b = -1 ∨ Lib.compareBytes a b = 0 ∨ Lib.compareBytes a b = 1
  | [],[] => by simp [Lib.compareBytes]
  | [],_ :: _ => by simp [Lib.compareBytes]
  | _ :: _,[] => by simp [Lib.compareBytes]
  | a :: xs,b :: ys => by
    have:=b9u xs ys
    unfold Lib.compareBytes
    split
    · simp
    · split
      · simp
      · exact this
theorem a9k (a b:UInt8):a < b ∨ a = b ∨ b < a:=by
  simp only [UInt8.lt_iff_toNat_lt,← UInt8.toNat_inj]
  omega
theorem a7i {a b:UInt8} (h:a < b):¬ b < a:=by
  simp only [UInt8.lt_iff_toNat_lt] at *
  omega
theorem b4z:∀ a b:List UInt8,Lib.compareBytes b a = - Lib.compareBytes a b
  | [],[] => by simp [Lib.compareBytes]
  | [],_ :: _ => by simp [Lib.compareBytes]
  | _ :: _,[] => by simp [Lib.compareBytes]
  | a :: xs,b :: ys => by
    have ih:=b4z xs ys
    unfold Lib.compareBytes
    rcases a9k a b with h | h | h
    · simp [h,a7i h]
    · subst h;simp [UInt8.lt_irrefl,ih]
    · simp [h,a7i h]
theorem b5a:∀ a b:List UInt8,Lib.compareBytes a b = 0 ↔ a = b
  | [],[] => by simp [Lib.compareBytes]
  | [],_ :: _ => by simp [Lib.compareBytes]
  | _ :: _,[] => by simp [Lib.compareBytes]
  | a :: xs,b :: ys => by
    have ih:=b5a xs ys
    unfold Lib.compareBytes
    rcases a9k a b with h | h | h
    · have hne:a ≠ b:=by rintro rfl;exact UInt8.lt_irrefl _ h
      simp [h,hne]
    · subst h;simp [UInt8.lt_irrefl,ih]
    · have hne:a ≠ b:=by rintro rfl;exact UInt8.lt_irrefl _ h
      simp [h,a7i h,hne]
theorem c2r:∀ a b:List UInt8,Op.bytesLess a b = decide (Lib.compareBytes a b < 0)
  | [],[] => by simp [Lib.compareBytes,Op.bytesLess]
  | [],_ :: _ => by simp [Lib.compareBytes,Op.bytesLess]
  | _ :: _,[] => by simp [Lib.compareBytes,Op.bytesLess]
  | a :: xs,b :: ys => by
    have ih:=c2r xs ys
    unfold Lib.compareBytes Op.bytesLess
    rcases a9k a b with h | h | h
    · simp [h]
    · subst h;simp [UInt8.lt_irrefl,ih]
    · have hne:¬ a = b:=by rintro rfl;exact UInt8.lt_irrefl _ h
      simp [h,a7i h,hne]
theorem b3e:∀ a b c:List UInt8,Lib.compareBytes a b < 0 → Lib.compareBytes b c < 0 → Lib.compareBytes a c < 0
  | [],[],c => by intro h;simp [Lib.compareBytes] at h
  | [],_ :: _,[] => by intro _ h;simp [Lib.compareBytes] at h
  | [],_ :: _,_ :: _ => by intro _ _;simp [Lib.compareBytes]
  | _ :: _,[],c => by intro h;simp [Lib.compareBytes] at h
  | _ :: _,_ :: _,[] => by intro _ h;simp [Lib.compareBytes] at h
  | a :: xs,b :: ys,c :: zs => by
    have ih:=b3e xs ys zs
    unfold Lib.compareBytes
    rcases a9k a b with h | h | h
    · rcases a9k b c with g | g | g
      · have:a < c:=by simp only [UInt8.lt_iff_toNat_lt] at *;omega
        simp [this]
      · subst g;simp [h]
      · simp [h,g,a7i g]
    · subst h
      rcases a9k a c with g | g | g
      · simp [g]
      · subst g;simp only [UInt8.lt_irrefl,if_false];exact ih
      · simp [g,a7i g]
    · simp [h,a7i h]
theorem d1i (x y:Int × Int × List UInt8):cfA x y < 0 ↔ x.1 < y.1 ∨ x.1 = y.1 ∧ (x.2.1 < y.2.1 ∨ x.2.1 = y.2.1 ∧ Lib.compareBytes x.2.2 y.2.2 < 0):=by
  unfold cfA orI b1h
  rcases Int.lt_trichotomy x.1 y.1 with h | h | h
  · simp [h]
  · rcases Int.lt_trichotomy x.2.1 y.2.1 with g | g | g
    · simp [h,g]
    · simp [h,g]
    · have:¬ x.2.1 < y.2.1:=by omega
      have g2:¬ x.2.1 = y.2.1:=by omega
      simp [h,g,this,g2]
  · have:¬ x.1 < y.1:=by omega
    have g2:¬ x.1 = y.1:=by omega
    simp [h,this,g2]
theorem b5b (x y:Int × Int × List UInt8):cfA x y = 0 ↔ x = y:=by
  obtain ⟨x1,x2,x3⟩:=x
  obtain ⟨y1,y2,y3⟩:=y
  unfold cfA orI b1h
  simp only [Prod.mk.injEq]
  rw [← b5a]
  rcases Int.lt_trichotomy x1 y1 with h | h | h
  · have g2:¬ x1 = y1:=by omega
    simp [h,g2]
  · subst h
    rcases Int.lt_trichotomy x2 y2 with g | g | g
    · have g2:¬ x2 = y2:=by omega
      simp [g,g2]
    · simp [g]
    · have:¬ x2 < y2:=by omega
      have g2:¬ x2 = y2:=by omega
      simp [g,this,g2]
  · have:¬ x1 < y1:=by omega
    have g2:¬ x1 = y1:=by omega
    simp [h,this,g2]
theorem b5c (x y:Int × Int × List UInt8):cfA y x = - cfA x y:=by
  unfold cfA orI b1h
  rw [b4z x.2.2 y.2.2]
  rcases Int.lt_trichotomy x.1 y.1 with h | h | h
  · have:¬ y.1 < x.1:=by omega
    simp [h,this]
  · rcases Int.lt_trichotomy x.2.1 y.2.1 with g | g | g
    · have:¬ y.2.1 < x.2.1:=by omega
      simp [h,g,this]
    · simp [h,g]
    · have:¬ x.2.1 < y.2.1:=by omega
      simp [h,g,this]
  · have:¬ x.1 < y.1:=by omega
    simp [h,this]
theorem c1m (x y z:Int × Int × List UInt8) (h1:cfA x y < 0) (h2:cfA y z < 0):cfA x z < 0:=by
  rw [d1i] at *
  rcases h1 with h1 | ⟨h1,h1'⟩
  · rcases h2 with h2 | ⟨h2,_⟩
    · exact .inl (by omega)
    · exact .inl (by omega)
  · rcases h2 with h2 | ⟨h2,h2'⟩
    · exact .inl (by omega)
    · refine .inr ⟨by omega,?_⟩
      rcases h1' with g1 | ⟨g1,g1'⟩
      · rcases h2' with g2 | ⟨g2,_⟩
        · exact .inl (by omega)
        · exact .inl (by omega)
      · rcases h2' with g2 | ⟨g2,g2'⟩
        · exact .inl (by omega)
        · exact .inr ⟨by omega,b3e _ _ _ g1' g2'⟩
theorem d4w:SWO (ltOf cfA) where
  irrefl x:=by
    have:=(b5b x x).2 rfl
    simp [ltOf,this]
  trans x y z h1 h2:=by
    simp only [ltOf,decide_eq_true_eq] at *
    exact c1m x y z h1 h2
  ntrans x y z h1 h2:=by
    simp only [ltOf,decide_eq_false_iff_not] at *
    by_cases e1:cfA x y = 0
    · rw [(b5b x y).1 e1];exact h2
    · by_cases e2:cfA y z = 0
      · rw [← (b5b y z).1 e2];exact h1
      · have a1:=b5c x y
        have a2:=b5c y z
        have a3:=b5c x z
        intro h
        have:=c1m z y x (by omega) (by omega)
        omega
theorem d4x (x y:Int × Int × List UInt8) (h1:(ltOf cfA) x y = false) (h2:(ltOf cfA) y x = false):x = y:=by
  simp only [ltOf,decide_eq_false_iff_not] at h1 h2
  have:=b5c x y
  exact (b5b x y).1 (by omega)
end Go.R
