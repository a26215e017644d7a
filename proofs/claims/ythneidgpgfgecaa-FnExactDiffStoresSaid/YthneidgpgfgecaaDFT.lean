/- Plain data. -/
import Derived.Test.YthneidgpgfgecaaE0
import Derived.Test.YthneidgpgfgecaaC25
import Derived.Test.YthneidgpgfgecaaH2
import Derived.Test.YthneidgpgfgecaaHSI
import Derived.Shelf.Small.Strs
import Derived.Test.YthneidgpgfgecaaRows
set_option linter.all false
namespace Go.R
open Go Go.Proofs
set_option linter.unusedVariables false
set_option linter.unusedSimpArgs false
set_option maxHeartbeats 8000000
theorem mixed:Try.prog.follows .mixedOrders = true:=by kernel_rfl
structure y9 where
  Kind:Int
  N:Int
  T:Str
deriving Inhabited,DecidableEq

def o5 (x:y9):AV:=.agg [(.int .i64 x.Kind),(.int .i64 x.N),(.str x.T)]
theorem encGAtom_eq (x:y9):o5 x = .agg [(.int .i64 x.Kind),(.int .i64 x.N),(.str x.T)]:=rfl

structure x9 where
  Id:Int
  Cells:(List (List y9))
deriving Inhabited,DecidableEq

def l9 (x:x9):AV:=.agg [(.int .i64 x.Id),(.lst 1 (x.Cells.map (o8 3 o5)))]
theorem a6l (x:x9):l9 x = .agg [(.int .i64 x.Id),(.lst 1 (x.Cells.map (o8 3 o5)))]:=rfl

structure a1d where
  Tables:(List (List x9))
  Next:Int
deriving Inhabited,DecidableEq

def a1r (x:a1d):AV:=.agg [(.lst 1 (x.Tables.map (o8 2 l9))),(.int .i64 x.Next)]
theorem a6i (x:a1d):a1r x = .agg [(.lst 1 (x.Tables.map (o8 2 l9))),(.int .i64 x.Next)]:=rfl

structure a0c where
  Table:Int
  Id:Int
  Old:x9
  New:x9
deriving Inhabited,DecidableEq

def o7 (x:a0c):AV:=.agg [(.int .i64 x.Table),(.int .i64 x.Id),(.int .i64 x.Old.Id),(.lst 1 (x.Old.Cells.map (o8 3 o5))),(.int .i64 x.New.Id),(.lst 1 (x.New.Cells.map (o8 3 o5)))]
theorem encGChange_eq (x:a0c):o7 x = .agg [(.int .i64 x.Table),(.int .i64 x.Id),(.int .i64 x.Old.Id),(.lst 1 (x.Old.Cells.map (o8 3 o5))),(.int .i64 x.New.Id),(.lst 1 (x.New.Cells.map (o8 3 o5)))]:=rfl

def a7g (x:y9):Prop:=(okI .i64) x.Kind ∧ (okI .i64) x.N ∧ okS x.T
def a9e (x:x9):Prop:=(okI .i64) x.Id ∧ (okL (okL (a7g))) x.Cells
def b3x (x:a1d):Prop:=(okL (okL (a9e))) x.Tables ∧ (okI .i64) x.Next
end Go.R
