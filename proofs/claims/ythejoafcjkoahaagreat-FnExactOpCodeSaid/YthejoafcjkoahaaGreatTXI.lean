/- Texts and bounds, as the program asks. -/
import Derived.Test.YthejoafcjkoahaaGreatOC5
import Derived.Test.YthejoafcjkoahaaGreatP0
set_option linter.all false
namespace Go.R
open Go
set_option linter.all false
def charB (c:UInt8):Bool:=!(decide ((c.toNat:Int) < 32) || decide ((c.toNat:Int) > 126))
def textB (t:Str):Bool:=t.all charB && decide ((t.length:Int) ≤ 200)
theorem p_plain_L1:∀ t:Str,impl_isPlain_L1 t = some (if t.all charB = true then .go () else .ret false)
  | [] => by rw [impl_isPlain_L1]; simp
  | x :: xs => by
    rw [impl_isPlain_L1,p_plain_L1 xs]
    by_cases h1:(x.toNat:Int) < 32
    · simp [h1,charB]
    · by_cases h2:(x.toNat:Int) > 126
      · simp [h1,h2,charB]
      · simp [h1,h2,charB]
theorem p_plain (t:Str):impl_isPlain t = some (textB t):=by
  unfold impl_isPlain textB
  rw [p_plain_L1]
  by_cases h:t.all charB = true
  · simp only [h,if_pos,Option.bind_some,Bool.true_and]
  · simp only [h,Bool.not_eq_true] at h ⊢
    simp [h]
theorem p_within (n a b:Int):impl_within n a b = some (decide (a ≤ n ∧ n ≤ b)):=by
  unfold impl_within
  by_cases h:a ≤ n <;> simp [h]
end Go.R
