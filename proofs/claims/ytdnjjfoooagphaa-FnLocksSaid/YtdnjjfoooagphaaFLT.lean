/- Plain data. -/
import Derived.Test.YtdnjjfoooagphaaE0
import Derived.Test.YtdnjjfoooagphaaC25
import Derived.Test.YtdnjjfoooagphaaH2
import Derived.Shelf.Small.Strs
import Derived.Test.YtdnjjfoooagphaaRows
set_option linter.all false
namespace Go.R
open Go Go.Proofs
set_option linter.unusedVariables false
set_option linter.unusedSimpArgs false
set_option maxHeartbeats 8000000
theorem mixed : Try.prog.follows .mixedOrders = true := by kernel_rfl
structure GLock where
  Name : Str
  Queue : (List Int)
deriving Inhabited, DecidableEq

def encGLock (x : GLock) : AV := .agg [(.str x.Name), (.lst 1 (x.Queue.map encI))]
theorem encGLock_eq (x : GLock) : encGLock x = .agg [(.str x.Name), (.lst 1 (x.Queue.map encI))] := rfl

structure GL00Src where
  Code : (List Int)
  At : Int
  Seed : Int
deriving Inhabited, DecidableEq

def encGL00Src (x : GL00Src) : AV := .agg [(.lst 1 (x.Code.map enc_u8)), (.int .i64 x.At), (.int .i64 x.Seed)]
theorem encGL00Src_eq (x : GL00Src) : encGL00Src x = .agg [(.lst 1 (x.Code.map enc_u8)), (.int .i64 x.At), (.int .i64 x.Seed)] := rfl

structure GTold where
  Session : Int
  Word : Str
  Name : Str
deriving Inhabited, DecidableEq

def encGTold (x : GTold) : AV := .agg [(.int .i64 x.Session), (.str x.Word), (.str x.Name)]
theorem encGTold_eq (x : GTold) : encGTold x = .agg [(.int .i64 x.Session), (.str x.Word), (.str x.Name)] := rfl


end Go.R
