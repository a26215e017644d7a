/- Plain data. -/
import Derived.Test.YtmeckljlaaflkaaE0
import Derived.Test.YtmeckljlaaflkaaC25
import Derived.Shelf.Small.Strs
import Derived.Test.YtmeckljlaaflkaaRows
set_option linter.all false
namespace Go.R
open Go Go.Proofs
set_option linter.unusedVariables false
set_option linter.unusedSimpArgs false
set_option maxHeartbeats 8000000
theorem mixed : Try.prog.follows .mixedOrders = true := by kernel_rfl
structure GAtom where
  Kind : Int
  N : Int
  T : Str
deriving Inhabited, DecidableEq

def encGAtom (x : GAtom) : AV := .agg [(.int .i64 x.Kind), (.int .i64 x.N), (.str x.T)]
theorem encGAtom_eq (x : GAtom) : encGAtom x = .agg [(.int .i64 x.Kind), (.int .i64 x.N), (.str x.T)] := rfl

structure GRow where
  Id : Int
  Cells : (List (List GAtom))
deriving Inhabited, DecidableEq

def encGRow (x : GRow) : AV := .agg [(.int .i64 x.Id), (.lst 1 (x.Cells.map (encL 3 encGAtom)))]
theorem encGRow_eq (x : GRow) : encGRow x = .agg [(.int .i64 x.Id), (.lst 1 (x.Cells.map (encL 3 encGAtom)))] := rfl

structure GResult where
  Code : Int
  Count : Int
  Id : Int
  Columns : (List Str)
  Rows : (List GRow)
deriving Inhabited, DecidableEq

def encGResult (x : GResult) : AV := .agg [(.int .i64 x.Code), (.int .i64 x.Count), (.int .i64 x.Id), (.lst 1 (x.Columns.map AV.str)), (.lst 2 (x.Rows.map encGRow))]
theorem encGResult_eq (x : GResult) : encGResult x = .agg [(.int .i64 x.Code), (.int .i64 x.Count), (.int .i64 x.Id), (.lst 1 (x.Columns.map AV.str)), (.lst 2 (x.Rows.map encGRow))] := rfl

def okGAtom (x : GAtom) : Prop := (okI .i64) x.Kind ∧ (okI .i64) x.N ∧ okS x.T
def okGRow (x : GRow) : Prop := (okI .i64) x.Id ∧ (okL (okL (okGAtom))) x.Cells
def okGResult (x : GResult) : Prop := (okI .i64) x.Code ∧ (okI .i64) x.Count ∧ (okI .i64) x.Id ∧ (okL (okS)) x.Columns ∧ (okL (okGRow)) x.Rows
end Go.R
