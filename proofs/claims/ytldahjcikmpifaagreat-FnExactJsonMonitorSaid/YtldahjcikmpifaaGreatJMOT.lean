import Derived.Test.YtldahjcikmpifaaGreatE0
import Derived.Test.YtldahjcikmpifaaGreatC25
import Derived.Test.YtldahjcikmpifaaGreatH2
import Derived.Test.YtldahjcikmpifaaGreatH3
import Derived.Test.YtldahjcikmpifaaGreatHS6
import Derived.Shelf.Small.Strs
import Derived.Test.YtldahjcikmpifaaGreatRows
set_option linter.all false
namespace Go.R
open Go Go.Proofs
set_option maxHeartbeats 8000000
theorem mixed:Tryz.prog.follows .mixedOrders = true:=by kernel_rfl
structure y8 where
  Kind:Int
  N:Int
  T:Str
  Keys:(List Str)
  Items:List y8
mutual
def l9:y8 → AV
  | ⟨k,n,t,ks,is⟩ => .agg [.int .i64 k,.int .i64 n,.str t,.lst 1 (ks.map AV.str),.lst 5 (b8r is)]
def b8r:List y8 → List AV
  | [] => []
  | x :: xs => l9 x :: b8r xs
end
theorem b9d:∀ (l:List y8),b8r l = l.map l9
  | [] => rfl
  | x :: xs => by simp only [b8r,b9d xs,List.map_cons]
theorem o9 (x:y8):l9 x = .agg [.int .i64 x.Kind,.int .i64 x.N,.str x.T,.lst 1 (x.Keys.map AV.str),.lst 5 (x.Items.map l9)]:=by
  cases x; simp only [l9,b9d]
instance:Inhabited y8:=⟨⟨0,0,[],[],[]⟩⟩
theorem leJ {a:AV} {x:y8} (h:Le a (.agg [.int .i64 x.Kind,.int .i64 x.N,.str x.T,.lst 1 (x.Keys.map AV.str),.lst 5 (x.Items.map l9)])):Le a (l9 x):=by rw [o9]; exact h
structure a0g where
  Kind:Int
  N:Int
  T:Str
deriving Inhabited,DecidableEq
def o5 (x:a0g):AV:=.agg [(.int .i64 x.Kind),(.int .i64 x.N),(.str x.T)]
theorem encGAtom_eq (x:a0g):o5 x = .agg [(.int .i64 x.Kind),(.int .i64 x.N),(.str x.T)]:=rfl
structure a0m where
  Column:Str
  Func:Int
  Value:(List a0g)
deriving Inhabited,DecidableEq
def o8 (x:a0m):AV:=.agg [(.str x.Column),(.int .i64 x.Func),(.lst 3 (x.Value.map o5))]
theorem encGCond_eq (x:a0m):o8 x = .agg [(.str x.Column),(.int .i64 x.Func),(.lst 3 (x.Value.map o5))]:=rfl
structure a0k where
  Name:Str
  Table:Str
  Columns:(List Str)
  Initial:Bool
  Insert:Bool
  Delete:Bool
  Modify:Bool
  Where:(List a0m)
deriving Inhabited,DecidableEq
def a4d (x:a0k):AV:=.agg [(.str x.Name),(.str x.Table),(.lst 1 (x.Columns.map AV.str)),(.bool x.Initial),(.bool x.Insert),(.bool x.Delete),(.bool x.Modify),(.lst 3 (x.Where.map o8))]
theorem a9n (x:a0k):a4d x = .agg [(.str x.Name),(.str x.Table),(.lst 1 (x.Columns.map AV.str)),(.bool x.Initial),(.bool x.Insert),(.bool x.Delete),(.bool x.Modify),(.lst 3 (x.Where.map o8))]:=rfl
inductive a6p:y8 → Prop
  | mk {x:y8} (h0:(okI .i64) x.Kind) (h1:(okI .i64) x.N) (h2:(okS) x.T) (h3:(okL (okS)) x.Keys) (h4:x.Items.length ≤ maxLen) (h4_:∀ y ∈ x.Items,a6p y):a6p x
end Go.R
