/- Plain data. -/
import Derived.Test.YtmeckljlaaflkaaGreatE0
import Derived.Test.YtmeckljlaaflkaaGreatC25
import Derived.Shelf.Small.Strs
import Derived.Test.YtmeckljlaaflkaaGreatRows
set_option linter.all false
namespace Go.R
open Go Go.Proofs
set_option linter.unusedVariables false
set_option linter.unusedSimpArgs false
set_option maxHeartbeats 8000000
theorem mixed:Tryz.prog.follows .mixedOrders = true:=by kernel_rfl
structure GAtom where
  Kind:Int
  N:Int
  T:Str
deriving Inhabited,DecidableEq

def encGAtom (x:GAtom):AV:=.agg [(.int .i64 x.Kind),(.int .i64 x.N),(.str x.T)]
theorem encGAtom_eq (x:GAtom):encGAtom x = .agg [(.int .i64 x.Kind),(.int .i64 x.N),(.str x.T)]:=rfl

structure GCond where
  Column:Str
  Func:Int
  Value:(List GAtom)
deriving Inhabited,DecidableEq

def encGCond (x:GCond):AV:=.agg [(.str x.Column),(.int .i64 x.Func),(.lst 3 (x.Value.map encGAtom))]
theorem encGCond_eq (x:GCond):encGCond x = .agg [(.str x.Column),(.int .i64 x.Func),(.lst 3 (x.Value.map encGAtom))]:=rfl

structure GSet where
  Column:Str
  Value:(List GAtom)
  Names:(List Str)
deriving Inhabited,DecidableEq

def encGSet (x:GSet):AV:=.agg [(.str x.Column),(.lst 3 (x.Value.map encGAtom)),(.lst 1 (x.Names.map AV.str))]
theorem encGSet_eq (x:GSet):encGSet x = .agg [(.str x.Column),(.lst 3 (x.Value.map encGAtom)),(.lst 1 (x.Names.map AV.str))]:=rfl

structure GMut where
  Column:Str
  Func:Int
  Value:(List GAtom)
deriving Inhabited,DecidableEq

def encGMut (x:GMut):AV:=.agg [(.str x.Column),(.int .i64 x.Func),(.lst 3 (x.Value.map encGAtom))]
theorem encGMut_eq (x:GMut):encGMut x = .agg [(.str x.Column),(.int .i64 x.Func),(.lst 3 (x.Value.map encGAtom))]:=rfl

structure GOp where
  Kind:Int
  Table:Str
  Name:Str
  Where:(List GCond)
  Row:(List GSet)
  Muts:(List GMut)
  Columns:(List Str)
  Until:Bool
deriving Inhabited,DecidableEq

def encGOp (x:GOp):AV:=.agg [(.int .i64 x.Kind),(.str x.Table),(.str x.Name),(.lst 3 (x.Where.map encGCond)),(.lst 3 (x.Row.map encGSet)),(.lst 3 (x.Muts.map encGMut)),(.lst 1 (x.Columns.map AV.str)),(.bool x.Until)]
theorem encGOp_eq (x:GOp):encGOp x = .agg [(.int .i64 x.Kind),(.str x.Table),(.str x.Name),(.lst 3 (x.Where.map encGCond)),(.lst 3 (x.Row.map encGSet)),(.lst 3 (x.Muts.map encGMut)),(.lst 1 (x.Columns.map AV.str)),(.bool x.Until)]:=rfl

def okGAtom (x:GAtom):Prop:=(okI .i64) x.Kind ∧ (okI .i64) x.N ∧ okS x.T
def okGCond (x:GCond):Prop:=okS x.Column ∧ (okI .i64) x.Func ∧ (okL (okGAtom)) x.Value
def okGSet (x:GSet):Prop:=okS x.Column ∧ (okL (okGAtom)) x.Value ∧ (okL (okS)) x.Names
def okGMut (x:GMut):Prop:=okS x.Column ∧ (okI .i64) x.Func ∧ (okL (okGAtom)) x.Value
def okGOp (x:GOp):Prop:=(okI .i64) x.Kind ∧ okS x.Table ∧ okS x.Name ∧ (okL (okGCond)) x.Where ∧ (okL (okGSet)) x.Row ∧ (okL (okGMut)) x.Muts ∧ (okL (okS)) x.Columns ∧ ((fun _ => True)) x.Until
end Go.R
