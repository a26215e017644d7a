/- Plain data. -/
import Derived.Test.YtgdkfnndbknjpaaGreatE0
import Derived.Test.YtgdkfnndbknjpaaGreatC25
import Derived.Shelf.Small.Strs
import Derived.Test.YtgdkfnndbknjpaaGreatRows
set_option linter.all false
namespace Go.R
open Go Go.Proofs
set_option linter.unusedVariables false
set_option linter.unusedSimpArgs false
set_option maxHeartbeats 8000000
theorem mixed:Tryz.prog.follows .mixedOrders = true:=by kernel_rfl
structure a0m where
  Name:Str
  Kind:Int
  Min:Int
  Max:Int
  Low:Int
  High:Int
  Ref:Str
  Strong:Bool
deriving Inhabited,DecidableEq

def o5 (x:a0m):AV:=.agg [(.str x.Name),(.int .i64 x.Kind),(.int .i64 x.Min),(.int .i64 x.Max),(.int .i64 x.Low),(.int .i64 x.High),(.str x.Ref),(.bool x.Strong)]
theorem encGColumn_eq (x:a0m):o5 x = .agg [(.str x.Name),(.int .i64 x.Kind),(.int .i64 x.Min),(.int .i64 x.Max),(.int .i64 x.Low),(.int .i64 x.High),(.str x.Ref),(.bool x.Strong)]:=rfl

structure a0w where
  Name:Str
  Columns:(List a0m)
  Unique:(List Int)
  Root:Bool
deriving Inhabited,DecidableEq

def a1b (x:a0w):AV:=.agg [(.str x.Name),(.lst 8 (x.Columns.map o5)),(.lst 1 (x.Unique.map encI)),(.bool x.Root)]
theorem encGTable_eq (x:a0w):a1b x = .agg [(.str x.Name),(.lst 8 (x.Columns.map o5)),(.lst 1 (x.Unique.map encI)),(.bool x.Root)]:=rfl

structure b7a where
  Tables:(List a0w)
deriving Inhabited,DecidableEq

def c4d (x:b7a):AV:=.agg [(.lst 4 (x.Tables.map a1b))]
theorem c5n (x:b7a):c4d x = .agg [(.lst 4 (x.Tables.map a1b))]:=rfl

structure o8 where
  Kind:Int
  N:Int
  T:Str
deriving Inhabited,DecidableEq

def l7 (x:o8):AV:=.agg [(.int .i64 x.Kind),(.int .i64 x.N),(.str x.T)]
theorem encGAtom_eq (x:o8):l7 x = .agg [(.int .i64 x.Kind),(.int .i64 x.N),(.str x.T)]:=rfl

structure a2w where
  Column:Str
  Func:Int
  Value:(List o8)
deriving Inhabited,DecidableEq

def a0c (x:a2w):AV:=.agg [(.str x.Column),(.int .i64 x.Func),(.lst 3 (x.Value.map l7))]
theorem encGMut_eq (x:a2w):a0c x = .agg [(.str x.Column),(.int .i64 x.Func),(.lst 3 (x.Value.map l7))]:=rfl

structure a1j where
  Code:(List Int)
  At:Int
  Seed:Int
deriving Inhabited,DecidableEq

def d1z (x:a1j):AV:=.agg [(.lst 1 (x.Code.map a0p)),(.int .i64 x.At),(.int .i64 x.Seed)]
theorem encGL00Src_eq (x:a1j):d1z x = .agg [(.lst 1 (x.Code.map a0p)),(.int .i64 x.At),(.int .i64 x.Seed)]:=rfl

structure a4p where
  Id:Int
  Cells:(List (List o8))
deriving Inhabited,DecidableEq

def a3g (x:a4p):AV:=.agg [(.int .i64 x.Id),(.lst 1 (x.Cells.map (a1n 3 l7)))]
theorem b8e (x:a4p):a3g x = .agg [(.int .i64 x.Id),(.lst 1 (x.Cells.map (a1n 3 l7)))]:=rfl


end Go.R
