/- The order of atoms, as the reference has it; behind ORD. -/
import Derived.Test.YthejoafcjkoahaaGreatORDI
set_option linter.all false
namespace Go.R
open Go
set_option linter.all false
theorem p_Order (a b:GAtom):spec_l03Order a b = some (ordA a b):=by
  unfold spec_l03Order spec_l01Bit ordA
  have w0:w64 (1 - w64 0) = 1:=by decide
  have w1:w64 (1 - w64 2) = -1:=by decide
  by_cases h1:a.Kind = b.Kind
  · by_cases h2:a.N = b.N
    · simp only [h1,h2,bne_self_eq_false,Bool.false_eq_true,if_false,ne_eq,not_true_eq_false,cmpB_less]
      by_cases h3:a.T = b.T
      · simp [h3,(cmpB_zero b.T b.T).2 rfl]
      · have hne:Lib.compareBytes a.T b.T ≠ 0:=fun h => h3 ((cmpB_zero _ _).1 h)
        rcases cmpB_range a.T b.T with h | h | h
        · simp [h3,h,w1]
        · exact absurd h hne
        · simp [h3,h,w0]
    · by_cases h3:a.N < b.N <;> simp [h1,h2,h3,w0,w1]
  · by_cases h3:a.Kind < b.Kind <;> simp [h1,h3,w0,w1]
end Go.R
