/- The order of atoms: the two ways come to one. -/
import Derived.Test.YthejoafcjkoahaaGreatTXS
import Derived.Test.YthejoafcjkoahaaGreatP0
set_option linter.all false
namespace Go.R
open Go
set_option linter.all false
theorem cmpB_range:∀ a b:Str,Lib.compareBytes a b = -1 ∨ Lib.compareBytes a b = 0 ∨ Lib.compareBytes a b = 1
  | [],[] => by simp [Lib.compareBytes]
  | [],_ :: _ => by simp [Lib.compareBytes]
  | _ :: _,[] => by simp [Lib.compareBytes]
  | a :: xs,b :: ys => by
    have:=cmpB_range xs ys
    unfold Lib.compareBytes
    split
    · simp
    · split
      · simp
      · exact this
theorem u8_tri (a b:UInt8):a < b ∨ a = b ∨ b < a:=by
  simp only [UInt8.lt_iff_toNat_lt,← UInt8.toNat_inj]
  omega
theorem u8_asym {a b:UInt8} (h:a < b):¬ b < a:=by
  simp only [UInt8.lt_iff_toNat_lt] at *
  omega
theorem cmpB_anti:∀ a b:Str,Lib.compareBytes b a = - Lib.compareBytes a b
  | [],[] => by simp [Lib.compareBytes]
  | [],_ :: _ => by simp [Lib.compareBytes]
  | _ :: _,[] => by simp [Lib.compareBytes]
  | a :: xs,b :: ys => by
    have ih:=cmpB_anti xs ys
    unfold Lib.compareBytes
    rcases u8_tri a b with h | h | h
    · simp [h,u8_asym h]
    · subst h; simp [UInt8.lt_irrefl,ih]
    · simp [h,u8_asym h]
theorem cmpB_zero:∀ a b:Str,Lib.compareBytes a b = 0 ↔ a = b
  | [],[] => by simp [Lib.compareBytes]
  | [],_ :: _ => by simp [Lib.compareBytes]
  | _ :: _,[] => by simp [Lib.compareBytes]
  | a :: xs,b :: ys => by
    have ih:=cmpB_zero xs ys
    unfold Lib.compareBytes
    rcases u8_tri a b with h | h | h
    · have hne:a ≠ b:=by rintro rfl; exact UInt8.lt_irrefl _ h
      simp [h,hne]
    · subst h; simp [UInt8.lt_irrefl,ih]
    · have hne:a ≠ b:=by rintro rfl; exact UInt8.lt_irrefl _ h
      simp [h,u8_asym h,hne]
theorem cmpB_less:∀ a b:Str,Op.bytesLess a b = decide (Lib.compareBytes a b < 0)
  | [],[] => by simp [Lib.compareBytes,Op.bytesLess]
  | [],_ :: _ => by simp [Lib.compareBytes,Op.bytesLess]
  | _ :: _,[] => by simp [Lib.compareBytes,Op.bytesLess]
  | a :: xs,b :: ys => by
    have ih:=cmpB_less xs ys
    unfold Lib.compareBytes Op.bytesLess
    rcases u8_tri a b with h | h | h
    · simp [h]
    · subst h; simp [UInt8.lt_irrefl,ih]
    · have hne:¬ a = b:=by rintro rfl; exact UInt8.lt_irrefl _ h
      simp [h,u8_asym h,hne]
def ordA (a b:GAtom):Int:=if a.Kind ≠ b.Kind then (if a.Kind < b.Kind then -1 else 1) else if a.N ≠ b.N then (if a.N < b.N then -1 else 1) else Lib.compareBytes a.T b.T
theorem ordA_zero (a b:GAtom):ordA a b = 0 ↔ a = b:=by
  unfold ordA
  cases a with | mk k n t =>
  cases b with | mk k' n' t' =>
  simp only [GAtom.mk.injEq]
  by_cases h1:k = k'
  · subst h1
    by_cases h2:n = n'
    · subst h2; simp [cmpB_zero]
    · simp [h2]; split <;> omega
  · simp [h1]; split <;> omega
theorem ordA_anti (a b:GAtom):ordA b a = - ordA a b:=by
  unfold ordA
  cases a with | mk k n t =>
  cases b with | mk k' n' t' =>
  by_cases h1:k = k'
  · subst h1
    by_cases h2:n = n'
    · subst h2; simp [cmpB_anti t t']
    · have h3:¬ n' = n:=fun h => h2 h.symm
      simp [h2,h3]; split <;> split <;> omega
  · have h3:¬ k' = k:=fun h => h1 h.symm
    simp [h1,h3]; split <;> split <;> omega
theorem ordA_range (a b:GAtom):ordA a b = -1 ∨ ordA a b = 0 ∨ ordA a b = 1:=by
  unfold ordA
  split
  · split <;> simp
  · split
    · split <;> simp
    · exact cmpB_range _ _
end Go.R
