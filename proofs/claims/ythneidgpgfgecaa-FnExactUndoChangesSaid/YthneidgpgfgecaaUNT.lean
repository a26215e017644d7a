/- Plain data. -/
import Derived.Test.YthneidgpgfgecaaE0
import Derived.Test.YthneidgpgfgecaaC25
import Derived.Test.YthneidgpgfgecaaH2
import Derived.Test.YthneidgpgfgecaaHV
import Derived.Test.YthneidgpgfgecaaHF0
import Derived.Deep.LoopGhost
import Derived.Shelf.Small.Strs
import Derived.Test.YthneidgpgfgecaaRows
set_option linter.all false
namespace Go.R
open Go Go.Proofs
set_option linter.unusedVariables false
set_option linter.unusedSimpArgs false
set_option maxHeartbeats 8000000
theorem mixed:Try.prog.follows .mixedOrders = true:=by kernel_rfl
structure a0c where
  Kind:Int
  N:Int
  T:Str
deriving Inhabited,DecidableEq

def l7 (x:a0c):AV:=.agg [(.int .i64 x.Kind),(.int .i64 x.N),(.str x.T)]
theorem encGAtom_eq (x:a0c):l7 x = .agg [(.int .i64 x.Kind),(.int .i64 x.N),(.str x.T)]:=rfl

structure x8 where
  Id:Int
  Cells:(List (List a0c))
deriving Inhabited,DecidableEq

def o5 (x:x8):AV:=.agg [(.int .i64 x.Id),(.lst 1 (x.Cells.map (o7 3 l7)))]
theorem a8f (x:x8):o5 x = .agg [(.int .i64 x.Id),(.lst 1 (x.Cells.map (o7 3 l7)))]:=rfl

structure a0l where
  Tables:(List (List x8))
  Next:Int
deriving Inhabited,DecidableEq

def a0z (x:a0l):AV:=.agg [(.lst 1 (x.Tables.map (o7 2 o5))),(.int .i64 x.Next)]
theorem a5w (x:a0l):a0z x = .agg [(.lst 1 (x.Tables.map (o7 2 o5))),(.int .i64 x.Next)]:=rfl

structure y9 where
  Table:Int
  Id:Int
  Old:x8
  New:x8
deriving Inhabited,DecidableEq

def o8 (x:y9):AV:=.agg [(.int .i64 x.Table),(.int .i64 x.Id),(.int .i64 x.Old.Id),(.lst 1 (x.Old.Cells.map (o7 3 l7))),(.int .i64 x.New.Id),(.lst 1 (x.New.Cells.map (o7 3 l7)))]
theorem c5y (x:y9):o8 x = .agg [(.int .i64 x.Table),(.int .i64 x.Id),(.int .i64 x.Old.Id),(.lst 1 (x.Old.Cells.map (o7 3 l7))),(.int .i64 x.New.Id),(.lst 1 (x.New.Cells.map (o7 3 l7)))]:=rfl

def a7x (x:a0c):Prop:=(okI .i64) x.Kind ∧ (okI .i64) x.N ∧ okS x.T
def a9h (x:x8):Prop:=(okI .i64) x.Id ∧ (okL (okL (a7x))) x.Cells
def b9o (x:a0l):Prop:=(okL (okL (a9h))) x.Tables ∧ (okI .i64) x.Next
def a8v (x:y9):Prop:=(okI .i64) x.Table ∧ (okI .i64) x.Id ∧ a9h x.Old ∧ a9h x.New
end Go.R
