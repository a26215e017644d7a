/- Plain data. -/
import Derived.Test.YtgdkfnndbknjpaaE0
import Derived.Test.YtgdkfnndbknjpaaC25
import Derived.Test.YtgdkfnndbknjpaaH2
import Derived.Test.YtgdkfnndbknjpaaH3
import Derived.Test.YtgdkfnndbknjpaaHS6
import Derived.Shelf.Small.Strs
import Derived.Test.YtgdkfnndbknjpaaRows
set_option linter.all false
namespace Go.R
open Go Go.Proofs
set_option linter.unusedVariables false
set_option linter.unusedSimpArgs false
set_option maxHeartbeats 8000000
theorem mixed:Try.prog.follows .mixedOrders = true:=by kernel_rfl
structure o8 where
  Kind:Int
  N:Int
  T:Str
  Keys:(List Str)
  Items:List o8


mutual
def l9:o8 → AV
  | ⟨k,n,t,ks,is⟩ => .agg [.int .i64 k,.int .i64 n,.str t,.lst 1 (ks.map AV.str),.lst 5 (b2t is)]
def b2t:List o8 → List AV
  | [] => []
  | x :: xs => l9 x :: b2t xs
end
theorem b3f:∀ (l:List o8),b2t l = l.map l9
  | [] => rfl
  | x :: xs => by simp only [b2t,b3f xs,List.map_cons]
theorem o9 (x:o8):l9 x = .agg [.int .i64 x.Kind,.int .i64 x.N,.str x.T,.lst 1 (x.Keys.map AV.str),.lst 5 (x.Items.map l9)]:=by
  cases x; simp only [l9,b3f]
instance:Inhabited o8:=⟨⟨0,0,[],[],[]⟩⟩
theorem leJ {a:AV} {x:o8} (h:Le a (.agg [.int .i64 x.Kind,.int .i64 x.N,.str x.T,.lst 1 (x.Keys.map AV.str),.lst 5 (x.Items.map l9)])):Le a (l9 x):=by rw [o9]; exact h

structure y5 where
  Kind:Int
  N:Int
  T:Str
deriving Inhabited,DecidableEq

def o5 (x:y5):AV:=.agg [(.int .i64 x.Kind),(.int .i64 x.N),(.str x.T)]
theorem encGAtom_eq (x:y5):o5 x = .agg [(.int .i64 x.Kind),(.int .i64 x.N),(.str x.T)]:=rfl

inductive a4d:o8 → Prop
  | mk {x:o8} (h0:(okI .i64) x.Kind) (h1:(okI .i64) x.N) (h2:(okS) x.T) (h3:(okL (okS)) x.Keys) (h4:x.Items.length ≤ maxLen) (h4_:∀ y ∈ x.Items,a4d y):a4d x
end Go.R
