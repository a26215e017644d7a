/- Plain data. -/
import Derived.Test.YtgmkibkmcohikaaE0
import Derived.Test.YtgmkibkmcohikaaC25
import Derived.Shelf.Small.Strs
import Derived.Test.YtgmkibkmcohikaaRows
set_option linter.all false
namespace Go.R
open Go Go.Proofs
set_option linter.unusedVariables false
set_option linter.unusedSimpArgs false
set_option maxHeartbeats 8000000
theorem mixed : Try.prog.follows .mixedOrders = true := by kernel_rfl
structure GLock where
  Name : Str
  Queue : (List Int)
deriving Inhabited, DecidableEq

def encGLock (x : GLock) : AV := .agg [(.str x.Name), (.lst 1 (x.Queue.map encI))]
theorem encGLock_eq (x : GLock) : encGLock x = .agg [(.str x.Name), (.lst 1 (x.Queue.map encI))] := rfl

def okGLock (x : GLock) : Prop := okS x.Name ∧ (okL (okI .i64)) x.Queue
end Go.R
