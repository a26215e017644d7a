/- Steps of the library's slices functions, seen from below. -/
import Derived.Test.YthneidgpgfgecaaE0
import Derived.Test.YthneidgpgfgecaaH1
import Derived.Lib.AppendZerosOnto
import Derived.Lib.Overlaps
import Derived.Shelf.RegionOpenPlain
import Derived.Shelf.Small.Strs
set_option linter.all false
namespace Go.R
open Go Go.RowKit
set_option linter.all false

section
variable {P:Program}
end
end Go.R
