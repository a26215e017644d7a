/- Weights, sizes, copies, comparisons: what the laws' own helpers give. -/
import Derived.Test.YtgdkfnndbknjpaaGreatOP6
import Derived.Test.YtgdkfnndbknjpaaGreatP0
set_option linter.all false
namespace Go.R
open Go
set_option linter.all false
end Go.R
