/- Names that the walks use. -/
import Derived.Test.YthejoafcjkoahaaD2
import Derived.KernelRfl
set_option linter.all false
namespace Go.R
open Go
abbrev Str := List UInt8
def encI (n : Int) : AV := .int .i64 n
def enc_u8 (n : Int) : AV := .int .u8 n
def encL {α : Type} (z : Nat) (f : α → AV) (l : List α) : AV := .lst z (l.map f)
def bindA : Nat → List AV → List (Nat × AV)
  | _, [] => []
  | k, a :: as => (k, a) :: bindA (k + 1) as
theorem bindA_get : ∀ (as : List AV) (k n : Nat), ofL (bindA k as) n = if k ≤ n then as.getD (n - k) .undef else .undef
  | [], k, n => by simp [bindA, ofL]
  | a :: as, k, n => by
    simp only [bindA, ofL, bindA_get as (k + 1) n]
    by_cases h : n = k
    · subst h; simp
    · rw [if_neg h]
      by_cases h2 : k ≤ n
      · have h3 : n - k = (n - (k + 1)) + 1 := by omega
        rw [if_pos h2, if_pos (by omega), h3, List.getD_cons_succ]
      · rw [if_neg h2, if_neg (by omega)]
theorem argT_eq (as : List AV) : argT as = ofL (bindA 0 as) := by
  funext n
  rw [bindA_get]
  simp [argT]
def bstr (l : List Int) : Str := l.map fun n => UInt8.ofNat n.toNat
section
variable {P : Program} {dm : Bool} {bs : List (Nat × AV)} {h : List AObj} {x : AX}
theorem o_convbs {l : List Int} (hx : x.ev (ofL bs) = .lst 1 (l.map enc_u8)) : Opr P dm (.convBS x) bs h (.str (bstr l)) h := fun k hk => by
  simp only [awpL, hx, srcOf, if_pos]
  exact ⟨l, rfl, hk⟩
theorem o_convbso {l : List Int} {o n : Nat} (hx : x.ev (ofL bs) = .own o 0 n) (ho : h[o]? = some (.row 1 (l.map enc_u8))) (hn : n = l.length) : Opr P dm (.convBS x) bs h (.str (bstr l)) h := fun k hk => by
  subst hn
  simp only [awpL, hx, srcOf, ho, if_pos]
  exact ⟨l, by rw [List.drop_zero, List.take_of_length_le (by simp)]; rfl, hk⟩
theorem o_convbsn (hx : x.ev (ofL bs) = .nil) : Opr P dm (.convBS x) bs h (.str []) h := fun k hk => by
  simp only [awpL, hx, srcOf]
  exact ⟨[], rfl, hk⟩
end
@[irreducible] def FUEL : Nat := 2 ^ 100
theorem LeL.repm {α : Type} {enc : α → AV} {z : AV} {x : α} (h : Le z (enc x)) (n : Nat) : LeL (List.replicate n z) ((List.replicate n x).map enc) := by
  rw [← R.repm]
  exact LeL.rep h n
end Go.R
