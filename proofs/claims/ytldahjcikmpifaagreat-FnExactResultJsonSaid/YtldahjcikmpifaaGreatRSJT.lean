/- Plain data. -/
import Derived.Test.YtldahjcikmpifaaGreatE0
import Derived.Test.YtldahjcikmpifaaGreatC25
import Derived.Shelf.Small.Strs
import Derived.Test.YtldahjcikmpifaaGreatRows
set_option linter.all false
namespace Go.R
open Go Go.Proofs
set_option linter.unusedVariables false
set_option linter.unusedSimpArgs false
set_option maxHeartbeats 8000000
theorem mixed:Tryz.prog.follows .mixedOrders = true:=by kernel_rfl
structure a0k where
  Kind:Int
  N:Int
  T:Str
deriving Inhabited,DecidableEq

def o6 (x:a0k):AV:=.agg [(.int .i64 x.Kind),(.int .i64 x.N),(.str x.T)]
theorem encGAtom_eq (x:a0k):o6 x = .agg [(.int .i64 x.Kind),(.int .i64 x.N),(.str x.T)]:=rfl

structure a1u where
  Id:Int
  Cells:(List (List a0k))
deriving Inhabited,DecidableEq

def y5 (x:a1u):AV:=.agg [(.int .i64 x.Id),(.lst 1 (x.Cells.map (a1q 3 o6)))]
theorem d7u (x:a1u):y5 x = .agg [(.int .i64 x.Id),(.lst 1 (x.Cells.map (a1q 3 o6)))]:=rfl

structure a1i where
  Code:Int
  Count:Int
  Id:Int
  Columns:(List Str)
  Rows:(List a1u)
deriving Inhabited,DecidableEq

def a2c (x:a1i):AV:=.agg [(.int .i64 x.Code),(.int .i64 x.Count),(.int .i64 x.Id),(.lst 1 (x.Columns.map AV.str)),(.lst 2 (x.Rows.map y5))]
theorem b3x (x:a1i):a2c x = .agg [(.int .i64 x.Code),(.int .i64 x.Count),(.int .i64 x.Id),(.lst 1 (x.Columns.map AV.str)),(.lst 2 (x.Rows.map y5))]:=rfl

structure o9 where
  Kind:Int
  N:Int
  T:Str
  Keys:(List Str)
  Items:List o9


mutual
def l9:o9 → AV
  | ⟨k,n,t,ks,is⟩ => .agg [.int .i64 k,.int .i64 n,.str t,.lst 1 (ks.map AV.str),.lst 5 (c0g is)]
def c0g:List o9 → List AV
  | [] => []
  | x :: xs => l9 x :: c0g xs
end
theorem c0s:∀ (l:List o9),c0g l = l.map l9
  | [] => rfl
  | x :: xs => by simp only [c0g,c0s xs,List.map_cons]
theorem o8 (x:o9):l9 x = .agg [.int .i64 x.Kind,.int .i64 x.N,.str x.T,.lst 1 (x.Keys.map AV.str),.lst 5 (x.Items.map l9)]:=by
  cases x; simp only [l9,c0s]
instance:Inhabited o9:=⟨⟨0,0,[],[],[]⟩⟩
theorem leJ {a:AV} {x:o9} (h:Le a (.agg [.int .i64 x.Kind,.int .i64 x.N,.str x.T,.lst 1 (x.Keys.map AV.str),.lst 5 (x.Items.map l9)])):Le a (l9 x):=by rw [o8]; exact h

def a7r (x:a0k):Prop:=(okI .i64) x.Kind ∧ (okI .i64) x.N ∧ okS x.T
def b5z (x:a1u):Prop:=(okI .i64) x.Id ∧ (okL (okL (a7r))) x.Cells
def b5q (x:a1i):Prop:=(okI .i64) x.Code ∧ (okI .i64) x.Count ∧ (okI .i64) x.Id ∧ (okL (okS)) x.Columns ∧ (okL (b5z)) x.Rows
inductive a5o:o9 → Prop
  | mk {x:o9} (h0:(okI .i64) x.Kind) (h1:(okI .i64) x.N) (h2:(okS) x.T) (h3:(okL (okS)) x.Keys) (h4:x.Items.length ≤ maxLen) (h4_:∀ y ∈ x.Items,a5o y):a5o x
end Go.R
