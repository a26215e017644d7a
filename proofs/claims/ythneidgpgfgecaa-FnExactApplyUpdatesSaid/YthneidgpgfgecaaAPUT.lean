/- Plain data. -/
import Derived.Test.YthneidgpgfgecaaE0
import Derived.Test.YthneidgpgfgecaaC25
import Derived.Test.YthneidgpgfgecaaH2
import Derived.Test.YthneidgpgfgecaaHF0
import Derived.Deep.LoopGhost
import Derived.Shelf.Small.Strs
import Derived.Test.YthneidgpgfgecaaRows
set_option linter.all false
namespace Go.R
open Go Go.Proofs
set_option linter.unusedVariables false
set_option linter.unusedSimpArgs false
set_option maxHeartbeats 8000000
theorem mixed : Try.prog.follows .mixedOrders = true := by kernel_rfl
structure GAtom where
  Kind : Int
  N : Int
  T : Str
deriving Inhabited, DecidableEq

def encGAtom (x : GAtom) : AV := .agg [(.int .i64 x.Kind), (.int .i64 x.N), (.str x.T)]
theorem encGAtom_eq (x : GAtom) : encGAtom x = .agg [(.int .i64 x.Kind), (.int .i64 x.N), (.str x.T)] := rfl

structure GRow where
  Id : Int
  Cells : (List (List GAtom))
deriving Inhabited, DecidableEq

def encGRow (x : GRow) : AV := .agg [(.int .i64 x.Id), (.lst 1 (x.Cells.map (encL 3 encGAtom)))]
theorem encGRow_eq (x : GRow) : encGRow x = .agg [(.int .i64 x.Id), (.lst 1 (x.Cells.map (encL 3 encGAtom)))] := rfl

structure GUpdate where
  Id : Int
  Old : GRow
  New : GRow
deriving Inhabited, DecidableEq

def encGUpdate (x : GUpdate) : AV := .agg [(.int .i64 x.Id), (.int .i64 x.Old.Id), (.lst 1 (x.Old.Cells.map (encL 3 encGAtom))), (.int .i64 x.New.Id), (.lst 1 (x.New.Cells.map (encL 3 encGAtom)))]
theorem encGUpdate_eq (x : GUpdate) : encGUpdate x = .agg [(.int .i64 x.Id), (.int .i64 x.Old.Id), (.lst 1 (x.Old.Cells.map (encL 3 encGAtom))), (.int .i64 x.New.Id), (.lst 1 (x.New.Cells.map (encL 3 encGAtom)))] := rfl

structure GStore where
  Tables : (List (List GRow))
  Next : Int
deriving Inhabited, DecidableEq

def encGStore (x : GStore) : AV := .agg [(.lst 1 (x.Tables.map (encL 2 encGRow))), (.int .i64 x.Next)]
theorem encGStore_eq (x : GStore) : encGStore x = .agg [(.lst 1 (x.Tables.map (encL 2 encGRow))), (.int .i64 x.Next)] := rfl

structure GChange where
  Table : Int
  Id : Int
  Old : GRow
  New : GRow
deriving Inhabited, DecidableEq

def encGChange (x : GChange) : AV := .agg [(.int .i64 x.Table), (.int .i64 x.Id), (.int .i64 x.Old.Id), (.lst 1 (x.Old.Cells.map (encL 3 encGAtom))), (.int .i64 x.New.Id), (.lst 1 (x.New.Cells.map (encL 3 encGAtom)))]
theorem encGChange_eq (x : GChange) : encGChange x = .agg [(.int .i64 x.Table), (.int .i64 x.Id), (.int .i64 x.Old.Id), (.lst 1 (x.Old.Cells.map (encL 3 encGAtom))), (.int .i64 x.New.Id), (.lst 1 (x.New.Cells.map (encL 3 encGAtom)))] := rfl

def okGAtom (x : GAtom) : Prop := (okI .i64) x.Kind ∧ (okI .i64) x.N ∧ okS x.T
def okGRow (x : GRow) : Prop := (okI .i64) x.Id ∧ (okL (okL (okGAtom))) x.Cells
def okGUpdate (x : GUpdate) : Prop := (okI .i64) x.Id ∧ okGRow x.Old ∧ okGRow x.New
end Go.R
