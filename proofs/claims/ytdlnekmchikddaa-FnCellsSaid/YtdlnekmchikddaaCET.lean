/- Plain data. -/
import Derived.Test.YtdlnekmchikddaaE0
import Derived.Test.YtdlnekmchikddaaC25
import Derived.Shelf.Small.Strs
import Derived.Test.YtdlnekmchikddaaRows
set_option linter.all false
namespace Go.R
open Go Go.Proofs
set_option linter.unusedVariables false
set_option linter.unusedSimpArgs false
set_option maxHeartbeats 8000000
theorem mixed:Try.prog.follows .mixedOrders = true:=by kernel_rfl
structure GColumn where
  Name:Str
  Kind:Int
  Min:Int
  Max:Int
  Low:Int
  High:Int
  Ref:Str
  Strong:Bool
deriving Inhabited,DecidableEq

def encGColumn (x:GColumn):AV:=.agg [(.str x.Name),(.int .i64 x.Kind),(.int .i64 x.Min),(.int .i64 x.Max),(.int .i64 x.Low),(.int .i64 x.High),(.str x.Ref),(.bool x.Strong)]
theorem encGColumn_eq (x:GColumn):encGColumn x = .agg [(.str x.Name),(.int .i64 x.Kind),(.int .i64 x.Min),(.int .i64 x.Max),(.int .i64 x.Low),(.int .i64 x.High),(.str x.Ref),(.bool x.Strong)]:=rfl

structure GTable where
  Name:Str
  Columns:(List GColumn)
  Unique:(List Int)
  Root:Bool
deriving Inhabited,DecidableEq

def encGTable (x:GTable):AV:=.agg [(.str x.Name),(.lst 8 (x.Columns.map encGColumn)),(.lst 1 (x.Unique.map encI)),(.bool x.Root)]
theorem encGTable_eq (x:GTable):encGTable x = .agg [(.str x.Name),(.lst 8 (x.Columns.map encGColumn)),(.lst 1 (x.Unique.map encI)),(.bool x.Root)]:=rfl

structure GSchema where
  Tables:(List GTable)
deriving Inhabited,DecidableEq

def encGSchema (x:GSchema):AV:=.agg [(.lst 4 (x.Tables.map encGTable))]
theorem encGSchema_eq (x:GSchema):encGSchema x = .agg [(.lst 4 (x.Tables.map encGTable))]:=rfl

structure GAtom where
  Kind:Int
  N:Int
  T:Str
deriving Inhabited,DecidableEq

def encGAtom (x:GAtom):AV:=.agg [(.int .i64 x.Kind),(.int .i64 x.N),(.str x.T)]
theorem encGAtom_eq (x:GAtom):encGAtom x = .agg [(.int .i64 x.Kind),(.int .i64 x.N),(.str x.T)]:=rfl

structure GRow where
  Id:Int
  Cells:(List (List GAtom))
deriving Inhabited,DecidableEq

def encGRow (x:GRow):AV:=.agg [(.int .i64 x.Id),(.lst 1 (x.Cells.map (encL 3 encGAtom)))]
theorem encGRow_eq (x:GRow):encGRow x = .agg [(.int .i64 x.Id),(.lst 1 (x.Cells.map (encL 3 encGAtom)))]:=rfl

structure GSet where
  Column:Str
  Value:(List GAtom)
  Names:(List Str)
deriving Inhabited,DecidableEq

def encGSet (x:GSet):AV:=.agg [(.str x.Column),(.lst 3 (x.Value.map encGAtom)),(.lst 1 (x.Names.map AV.str))]
theorem encGSet_eq (x:GSet):encGSet x = .agg [(.str x.Column),(.lst 3 (x.Value.map encGAtom)),(.lst 1 (x.Names.map AV.str))]:=rfl

structure GL00Src where
  Code:(List Int)
  At:Int
  Seed:Int
deriving Inhabited,DecidableEq

def encGL00Src (x:GL00Src):AV:=.agg [(.lst 1 (x.Code.map enc_u8)),(.int .i64 x.At),(.int .i64 x.Seed)]
theorem encGL00Src_eq (x:GL00Src):encGL00Src x = .agg [(.lst 1 (x.Code.map enc_u8)),(.int .i64 x.At),(.int .i64 x.Seed)]:=rfl


end Go.R
