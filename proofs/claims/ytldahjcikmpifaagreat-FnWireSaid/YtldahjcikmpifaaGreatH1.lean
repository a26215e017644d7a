/- Rows made anew of pieces of rows that die: what stands behind slices.Insert, slices.Delete, slices.DeleteFunc. -/
import Derived.Test.YtldahjcikmpifaaGreatC23
set_option linter.all false
namespace Go.R
open Go Go.RowKit
set_option linter.unusedVariables false
set_option linter.unusedSimpArgs false
set_option linter.all false

theorem take_add {α:Type} {A B:List α} {a b:Nat} (h:A.length = a):(A ++ B).take (a + b) = A ++ B.take b:=by
  subst h
  rw [List.take_append,List.take_of_length_le (by omega),Nat.add_sub_cancel_left]
section
variable {P:Program} {C:Ctx} {σ:Sg} {φ:Nat → List Nat} {h:List o9} {w w':World}

end

section
variable {P:Program}
end
end Go.R
