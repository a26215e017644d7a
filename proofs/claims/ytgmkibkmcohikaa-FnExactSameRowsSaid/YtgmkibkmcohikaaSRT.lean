/- Plain data. -/
import Derived.Test.YtgmkibkmcohikaaE0
import Derived.Test.YtgmkibkmcohikaaC25
import Derived.Test.YtgmkibkmcohikaaRows
set_option linter.all false
namespace Go.R
open Go Go.Proofs
set_option linter.unusedVariables false
set_option linter.unusedSimpArgs false
theorem mixed : Try.prog.follows .mixedOrders = true := by kernel_rfl
structure GAtom where
  Kind : Int
  N : Int
  T : Str
deriving Inhabited, DecidableEq

def encGAtom (x : GAtom) : AV := .agg [(.int .i64 x.Kind), (.int .i64 x.N), (.str x.T)]
theorem encGAtom_eq (x : GAtom) : encGAtom x = .agg [(.int .i64 x.Kind), (.int .i64 x.N), (.str x.T)] := rfl

structure GRow where
  Id : Int
  Cells : (List (List GAtom))
deriving Inhabited, DecidableEq

def encGRow (x : GRow) : AV := .agg [(.int .i64 x.Id), (.lst 1 (x.Cells.map (encL 3 encGAtom)))]
theorem encGRow_eq (x : GRow) : encGRow x = .agg [(.int .i64 x.Id), (.lst 1 (x.Cells.map (encL 3 encGAtom)))] := rfl

def okGAtom (x : GAtom) : Prop := (okI .i64) x.Kind ∧ (okI .i64) x.N ∧ okS x.T
def okGRow (x : GRow) : Prop := (okI .i64) x.Id ∧ (okL (okL (okGAtom))) x.Cells
end Go.R
