/- Plain data. -/
import Derived.Test.YtdnjjfoooagphaaE0
import Derived.Test.YtdnjjfoooagphaaC25
import Derived.Shelf.Small.Strs
import Derived.Test.YtdnjjfoooagphaaRows
set_option linter.all false
namespace Go.R
open Go Go.Proofs
set_option linter.unusedVariables false
set_option linter.unusedSimpArgs false
set_option maxHeartbeats 8000000
theorem mixed : Try.prog.follows .mixedOrders = true := by kernel_rfl
structure GAtom where
  Kind : Int
  N : Int
  T : Str
deriving Inhabited, DecidableEq

def encGAtom (x : GAtom) : AV := .agg [(.int .i64 x.Kind), (.int .i64 x.N), (.str x.T)]
theorem encGAtom_eq (x : GAtom) : encGAtom x = .agg [(.int .i64 x.Kind), (.int .i64 x.N), (.str x.T)] := rfl

structure GL00Src where
  Code : (List Int)
  At : Int
  Seed : Int
deriving Inhabited, DecidableEq

def encGL00Src (x : GL00Src) : AV := .agg [(.lst 1 (x.Code.map enc_u8)), (.int .i64 x.At), (.int .i64 x.Seed)]
theorem encGL00Src_eq (x : GL00Src) : encGL00Src x = .agg [(.lst 1 (x.Code.map enc_u8)), (.int .i64 x.At), (.int .i64 x.Seed)] := rfl

structure GColumn where
  Name : Str
  Kind : Int
  Min : Int
  Max : Int
  Low : Int
  High : Int
  Ref : Str
  Strong : Bool
deriving Inhabited, DecidableEq

def encGColumn (x : GColumn) : AV := .agg [(.str x.Name), (.int .i64 x.Kind), (.int .i64 x.Min), (.int .i64 x.Max), (.int .i64 x.Low), (.int .i64 x.High), (.str x.Ref), (.bool x.Strong)]
theorem encGColumn_eq (x : GColumn) : encGColumn x = .agg [(.str x.Name), (.int .i64 x.Kind), (.int .i64 x.Min), (.int .i64 x.Max), (.int .i64 x.Low), (.int .i64 x.High), (.str x.Ref), (.bool x.Strong)] := rfl

structure GMut where
  Column : Str
  Func : Int
  Value : (List GAtom)
deriving Inhabited, DecidableEq

def encGMut (x : GMut) : AV := .agg [(.str x.Column), (.int .i64 x.Func), (.lst 3 (x.Value.map encGAtom))]
theorem encGMut_eq (x : GMut) : encGMut x = .agg [(.str x.Column), (.int .i64 x.Func), (.lst 3 (x.Value.map encGAtom))] := rfl


end Go.R
