/- Plain data. -/
import Derived.Test.YtgdkfnndbknjpaaGreatE0
import Derived.Test.YtgdkfnndbknjpaaGreatC25
import Derived.Shelf.Small.Strs
import Derived.Test.YtgdkfnndbknjpaaGreatRows
set_option linter.all false
namespace Go.R
open Go Go.Proofs
set_option linter.unusedVariables false
set_option linter.unusedSimpArgs false
set_option maxHeartbeats 8000000
theorem mixed:Tryz.prog.follows .mixedOrders = true:=by kernel_rfl
structure a0v where
  Name:Str
  Kind:Int
  Min:Int
  Max:Int
  Low:Int
  High:Int
  Ref:Str
  Strong:Bool
deriving Inhabited,DecidableEq

def o5 (x:a0v):AV:=.agg [(.str x.Name),(.int .i64 x.Kind),(.int .i64 x.Min),(.int .i64 x.Max),(.int .i64 x.Low),(.int .i64 x.High),(.str x.Ref),(.bool x.Strong)]
theorem encGColumn_eq (x:a0v):o5 x = .agg [(.str x.Name),(.int .i64 x.Kind),(.int .i64 x.Min),(.int .i64 x.Max),(.int .i64 x.Low),(.int .i64 x.High),(.str x.Ref),(.bool x.Strong)]:=rfl

structure a0q where
  Name:Str
  Columns:(List a0v)
  Unique:(List Int)
  Root:Bool
deriving Inhabited,DecidableEq

def x9 (x:a0q):AV:=.agg [(.str x.Name),(.lst 8 (x.Columns.map o5)),(.lst 1 (x.Unique.map encI)),(.bool x.Root)]
theorem encGTable_eq (x:a0q):x9 x = .agg [(.str x.Name),(.lst 8 (x.Columns.map o5)),(.lst 1 (x.Unique.map encI)),(.bool x.Root)]:=rfl

structure a2q where
  Tables:(List a0q)
deriving Inhabited,DecidableEq

def a2x (x:a2q):AV:=.agg [(.lst 4 (x.Tables.map x9))]
theorem b8x (x:a2q):a2x x = .agg [(.lst 4 (x.Tables.map x9))]:=rfl

structure a1c where
  Kind:Int
  N:Int
  T:Str
deriving Inhabited,DecidableEq

def l9 (x:a1c):AV:=.agg [(.int .i64 x.Kind),(.int .i64 x.N),(.str x.T)]
theorem encGAtom_eq (x:a1c):l9 x = .agg [(.int .i64 x.Kind),(.int .i64 x.N),(.str x.T)]:=rfl

structure a2v where
  Column:Str
  Func:Int
  Value:(List a1c)
deriving Inhabited,DecidableEq

def a0d (x:a2v):AV:=.agg [(.str x.Column),(.int .i64 x.Func),(.lst 3 (x.Value.map l9))]
theorem encGCond_eq (x:a2v):a0d x = .agg [(.str x.Column),(.int .i64 x.Func),(.lst 3 (x.Value.map l9))]:=rfl

structure a3l where
  Column:Str
  Value:(List a1c)
  Names:(List Str)
deriving Inhabited,DecidableEq

def a0f (x:a3l):AV:=.agg [(.str x.Column),(.lst 3 (x.Value.map l9)),(.lst 1 (x.Names.map AV.str))]
theorem encGSet_eq (x:a3l):a0f x = .agg [(.str x.Column),(.lst 3 (x.Value.map l9)),(.lst 1 (x.Names.map AV.str))]:=rfl

structure a5i where
  Column:Str
  Func:Int
  Value:(List a1c)
deriving Inhabited,DecidableEq

def a0o (x:a5i):AV:=.agg [(.str x.Column),(.int .i64 x.Func),(.lst 3 (x.Value.map l9))]
theorem encGMut_eq (x:a5i):a0o x = .agg [(.str x.Column),(.int .i64 x.Func),(.lst 3 (x.Value.map l9))]:=rfl

structure GOp where
  Kind:Int
  Table:Str
  Name:Str
  Where:(List a2v)
  Row:(List a3l)
  Muts:(List a5i)
  Columns:(List Str)
  Until:Bool
deriving Inhabited,DecidableEq

def a2u (x:GOp):AV:=.agg [(.int .i64 x.Kind),(.str x.Table),(.str x.Name),(.lst 3 (x.Where.map a0d)),(.lst 3 (x.Row.map a0f)),(.lst 3 (x.Muts.map a0o)),(.lst 1 (x.Columns.map AV.str)),(.bool x.Until)]
theorem encGOp_eq (x:GOp):a2u x = .agg [(.int .i64 x.Kind),(.str x.Table),(.str x.Name),(.lst 3 (x.Where.map a0d)),(.lst 3 (x.Row.map a0f)),(.lst 3 (x.Muts.map a0o)),(.lst 1 (x.Columns.map AV.str)),(.bool x.Until)]:=rfl

structure a0h where
  Code:(List Int)
  At:Int
  Seed:Int
deriving Inhabited,DecidableEq

def d2i (x:a0h):AV:=.agg [(.lst 1 (x.Code.map a0c)),(.int .i64 x.At),(.int .i64 x.Seed)]
theorem encGL00Src_eq (x:a0h):d2i x = .agg [(.lst 1 (x.Code.map a0c)),(.int .i64 x.At),(.int .i64 x.Seed)]:=rfl

structure b2j where
  Id:Int
  Cells:(List (List a1c))
deriving Inhabited,DecidableEq

def a5k (x:b2j):AV:=.agg [(.int .i64 x.Id),(.lst 1 (x.Cells.map (b5z 3 l9)))]
theorem encGRow_eq (x:b2j):a5k x = .agg [(.int .i64 x.Id),(.lst 1 (x.Cells.map (b5z 3 l9)))]:=rfl

structure b3n where
  Code:Int
  Count:Int
  Id:Int
  Columns:(List Str)
  Rows:(List b2j)
deriving Inhabited,DecidableEq

def b1y (x:b3n):AV:=.agg [(.int .i64 x.Code),(.int .i64 x.Count),(.int .i64 x.Id),(.lst 1 (x.Columns.map AV.str)),(.lst 2 (x.Rows.map a5k))]
theorem encGResult_eq (x:b3n):b1y x = .agg [(.int .i64 x.Code),(.int .i64 x.Count),(.int .i64 x.Id),(.lst 1 (x.Columns.map AV.str)),(.lst 2 (x.Rows.map a5k))]:=rfl


end Go.R
