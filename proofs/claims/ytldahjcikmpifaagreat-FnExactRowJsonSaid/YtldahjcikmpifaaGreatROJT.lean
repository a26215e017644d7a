/- Plain data. -/
import Derived.Test.YtldahjcikmpifaaGreatE0
import Derived.Test.YtldahjcikmpifaaGreatC25
import Derived.Shelf.Small.Strs
import Derived.Test.YtldahjcikmpifaaGreatRows
set_option linter.all false
namespace Go.R
open Go Go.Proofs
set_option linter.unusedVariables false
set_option linter.unusedSimpArgs false
set_option maxHeartbeats 8000000
theorem mixed:Tryz.prog.follows .mixedOrders = true:=by kernel_rfl
structure a0a where
  Kind:Int
  N:Int
  T:Str
deriving Inhabited,DecidableEq

def l9 (x:a0a):AV:=.agg [(.int .i64 x.Kind),(.int .i64 x.N),(.str x.T)]
theorem encGAtom_eq (x:a0a):l9 x = .agg [(.int .i64 x.Kind),(.int .i64 x.N),(.str x.T)]:=rfl

structure a3r where
  Id:Int
  Cells:(List (List a0a))
deriving Inhabited,DecidableEq

def a3t (x:a3r):AV:=.agg [(.int .i64 x.Id),(.lst 1 (x.Cells.map (a0t 3 l9)))]
theorem a7v (x:a3r):a3t x = .agg [(.int .i64 x.Id),(.lst 1 (x.Cells.map (a0t 3 l9)))]:=rfl

structure o8 where
  Kind:Int
  N:Int
  T:Str
  Keys:(List Str)
  Items:List o8


mutual
def o5:o8 → AV
  | ⟨k,n,t,ks,is⟩ => .agg [.int .i64 k,.int .i64 n,.str t,.lst 1 (ks.map AV.str),.lst 5 (b6t is)]
def b6t:List o8 → List AV
  | [] => []
  | x :: xs => o5 x :: b6t xs
end
theorem b7e:∀ (l:List o8),b6t l = l.map o5
  | [] => rfl
  | x :: xs => by simp only [b6t,b7e xs,List.map_cons]
theorem y9 (x:o8):o5 x = .agg [.int .i64 x.Kind,.int .i64 x.N,.str x.T,.lst 1 (x.Keys.map AV.str),.lst 5 (x.Items.map o5)]:=by
  cases x; simp only [o5,b7e]
instance:Inhabited o8:=⟨⟨0,0,[],[],[]⟩⟩
theorem leJ {a:AV} {x:o8} (h:Le a (.agg [.int .i64 x.Kind,.int .i64 x.N,.str x.T,.lst 1 (x.Keys.map AV.str),.lst 5 (x.Items.map o5)])):Le a (o5 x):=by rw [y9]; exact h

def a7k (x:a0a):Prop:=(okI .i64) x.Kind ∧ (okI .i64) x.N ∧ okS x.T
def c9e (x:a3r):Prop:=(okI .i64) x.Id ∧ (okL (okL (a7k))) x.Cells
inductive d3v:o8 → Prop
  | mk {x:o8} (h0:(okI .i64) x.Kind) (h1:(okI .i64) x.N) (h2:(okS) x.T) (h3:(okL (okS)) x.Keys) (h4:x.Items.length ≤ maxLen) (h4_:∀ y ∈ x.Items,d3v y):d3v x
end Go.R
