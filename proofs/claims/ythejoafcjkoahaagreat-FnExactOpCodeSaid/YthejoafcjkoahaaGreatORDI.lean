/- The order of atoms, as the program has it; behind ORD. -/
import Derived.Test.YthejoafcjkoahaaGreatORD
set_option linter.all false
namespace Go.R
open Go
set_option linter.all false
theorem p_cmpInt (x y:Int):cmp_Compare_int x y = some (if x < y then -1 else if x > y then 1 else 0):=by
  unfold cmp_Compare_int cmp_isNaN_int
  by_cases h1:x < y <;> by_cases h2:x > y <;> simp [h1,h2]
theorem p_compareAtoms (a b:GAtom):impl_compareAtoms a b = some (ordA a b):=by
  unfold impl_compareAtoms strings_Compare internal_bytealg_CompareString cmp_Or_int
  simp only [p_cmpInt,Option.bind_some]
  unfold ordA
  by_cases h1:a.Kind = b.Kind
  · by_cases h2:a.N = b.N
    · have e1:(if a.Kind < b.Kind then (-1:Int) else if a.Kind > b.Kind then 1 else 0) = 0:=by rw [h1]; simp
      have e2:(if a.N < b.N then (-1:Int) else if a.N > b.N then 1 else 0) = 0:=by rw [h2]; simp
      rw [e1,e2]
      simp only [cmp_Or_int_L1,h1,h2]
      by_cases h3:Lib.compareBytes a.T b.T = 0
      · simp [h3]
      · simp [h3]
    · have e1:(if a.Kind < b.Kind then (-1:Int) else if a.Kind > b.Kind then 1 else 0) = 0:=by rw [h1]; simp
      rw [e1]
      rcases Int.lt_or_gt_of_ne h2 with h3 | h3
      · simp [cmp_Or_int_L1,h1,h2,h3]
      · have h4:¬ a.N < b.N:=by omega
        simp [cmp_Or_int_L1,h1,h2,h3,h4]
  · rcases Int.lt_or_gt_of_ne h1 with h3 | h3
    · simp [cmp_Or_int_L1,h1,h3]
    · have h4:¬ a.Kind < b.Kind:=by omega
      simp [cmp_Or_int_L1,h1,h3,h4]
end Go.R
