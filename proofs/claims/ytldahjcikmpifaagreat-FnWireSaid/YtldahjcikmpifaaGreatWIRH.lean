/- Weights, sizes, copies, comparisons: what the laws' own helpers give. -/
import Derived.Test.YtldahjcikmpifaaGreatWIR4
import Derived.Test.YtldahjcikmpifaaGreatP0
set_option linter.all false
namespace Go.R
open Go
set_option linter.all false
end Go.R
