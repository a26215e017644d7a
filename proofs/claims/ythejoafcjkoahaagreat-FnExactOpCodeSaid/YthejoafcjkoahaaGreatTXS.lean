/- Texts and bounds, as the reference asks; behind TXI. -/
import Derived.Test.YthejoafcjkoahaaGreatTXI
import Derived.Test.YthejoafcjkoahaaGreatP0
set_option linter.all false
namespace Go.R
open Go
set_option linter.all false
theorem p_text_L1:∀ t:Str,spec_l01Text_L1 t = some (if t.all charB = true then .go () else .ret false)
  | [] => by rw [spec_l01Text_L1]; simp
  | x :: xs => by
    rw [spec_l01Text_L1,p_text_L1 xs]
    by_cases h1:(x.toNat:Int) < 32
    · simp [h1,charB]
    · by_cases h2:(x.toNat:Int) > 126
      · simp [h1,h2,charB]
      · simp [h1,h2,charB]
theorem p_text (t:Str):spec_l01Text t = some (textB t):=by
  unfold spec_l01Text textB
  rw [p_text_L1]
  by_cases h:t.all charB = true
  · simp only [h,if_pos,Option.bind_some,Bool.true_and]
  · simp only [h,Bool.not_eq_true] at h ⊢
    simp [h]
theorem p_in (n a b:Int):spec_l01In n a b = some (decide (a ≤ n ∧ n ≤ b)):=by
  unfold spec_l01In
  by_cases h:a ≤ n <;> simp [h]
end Go.R
