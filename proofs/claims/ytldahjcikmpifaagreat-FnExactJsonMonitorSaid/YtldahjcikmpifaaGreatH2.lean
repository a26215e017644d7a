import Derived.Test.YtldahjcikmpifaaGreatE0
import Derived.Test.YtldahjcikmpifaaGreatH1
import Derived.Lib.AppendZerosOnto
import Derived.Lib.Overlaps
import Derived.Shelf.RegionOpenPlain
import Derived.Shelf.Small.Strs
set_option linter.all false
namespace Go.R
open Go Go.RowKit
section
variable {P:Program}
end
end Go.R
