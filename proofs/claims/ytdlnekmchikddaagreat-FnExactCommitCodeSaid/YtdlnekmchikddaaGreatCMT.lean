/- Plain data. -/
import Derived.Test.YtdlnekmchikddaaGreatE0
import Derived.Test.YtdlnekmchikddaaGreatC25
import Derived.Shelf.Small.Strs
import Derived.Test.YtdlnekmchikddaaGreatRows
set_option linter.all false
namespace Go.R
open Go Go.Proofs
set_option linter.unusedVariables false
set_option linter.unusedSimpArgs false
set_option maxHeartbeats 8000000
theorem mixed:Tryz.prog.follows .mixedOrders = true:=by kernel_rfl
structure GColumn where
  Name:Str
  Kind:Int
  Min:Int
  Max:Int
  Low:Int
  High:Int
  Ref:Str
  Strong:Bool
deriving Inhabited,DecidableEq

def encGColumn (x:GColumn):AV:=.agg [(.str x.Name),(.int .i64 x.Kind),(.int .i64 x.Min),(.int .i64 x.Max),(.int .i64 x.Low),(.int .i64 x.High),(.str x.Ref),(.bool x.Strong)]
theorem encGColumn_eq (x:GColumn):encGColumn x = .agg [(.str x.Name),(.int .i64 x.Kind),(.int .i64 x.Min),(.int .i64 x.Max),(.int .i64 x.Low),(.int .i64 x.High),(.str x.Ref),(.bool x.Strong)]:=rfl

structure GTable where
  Name:Str
  Columns:(List GColumn)
  Unique:(List Int)
  Root:Bool
deriving Inhabited,DecidableEq

def encGTable (x:GTable):AV:=.agg [(.str x.Name),(.lst 8 (x.Columns.map encGColumn)),(.lst 1 (x.Unique.map encI)),(.bool x.Root)]
theorem encGTable_eq (x:GTable):encGTable x = .agg [(.str x.Name),(.lst 8 (x.Columns.map encGColumn)),(.lst 1 (x.Unique.map encI)),(.bool x.Root)]:=rfl

structure GSchema where
  Tables:(List GTable)
deriving Inhabited,DecidableEq

def encGSchema (x:GSchema):AV:=.agg [(.lst 4 (x.Tables.map encGTable))]
theorem encGSchema_eq (x:GSchema):encGSchema x = .agg [(.lst 4 (x.Tables.map encGTable))]:=rfl

structure GAtom where
  Kind:Int
  N:Int
  T:Str
deriving Inhabited,DecidableEq

def encGAtom (x:GAtom):AV:=.agg [(.int .i64 x.Kind),(.int .i64 x.N),(.str x.T)]
theorem encGAtom_eq (x:GAtom):encGAtom x = .agg [(.int .i64 x.Kind),(.int .i64 x.N),(.str x.T)]:=rfl

structure GRow where
  Id:Int
  Cells:(List (List GAtom))
deriving Inhabited,DecidableEq

def encGRow (x:GRow):AV:=.agg [(.int .i64 x.Id),(.lst 1 (x.Cells.map (encL 3 encGAtom)))]
theorem encGRow_eq (x:GRow):encGRow x = .agg [(.int .i64 x.Id),(.lst 1 (x.Cells.map (encL 3 encGAtom)))]:=rfl

structure GStore where
  Tables:(List (List GRow))
  Next:Int
deriving Inhabited,DecidableEq

def encGStore (x:GStore):AV:=.agg [(.lst 1 (x.Tables.map (encL 2 encGRow))),(.int .i64 x.Next)]
theorem encGStore_eq (x:GStore):encGStore x = .agg [(.lst 1 (x.Tables.map (encL 2 encGRow))),(.int .i64 x.Next)]:=rfl

def okGColumn (x:GColumn):Prop:=okS x.Name ∧ (okI .i64) x.Kind ∧ (okI .i64) x.Min ∧ (okI .i64) x.Max ∧ (okI .i64) x.Low ∧ (okI .i64) x.High ∧ okS x.Ref ∧ ((fun _ => True)) x.Strong
def okGTable (x:GTable):Prop:=okS x.Name ∧ (okL (okGColumn)) x.Columns ∧ (okL (okI .i64)) x.Unique ∧ ((fun _ => True)) x.Root
def okGSchema (x:GSchema):Prop:=(okL (okGTable)) x.Tables
def okGAtom (x:GAtom):Prop:=(okI .i64) x.Kind ∧ (okI .i64) x.N ∧ okS x.T
def okGRow (x:GRow):Prop:=(okI .i64) x.Id ∧ (okL (okL (okGAtom))) x.Cells
def okGStore (x:GStore):Prop:=(okL (okL (okGRow))) x.Tables ∧ (okI .i64) x.Next
end Go.R
