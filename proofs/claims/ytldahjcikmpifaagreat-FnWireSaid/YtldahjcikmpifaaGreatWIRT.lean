/- Plain data. -/
import Derived.Test.YtldahjcikmpifaaGreatE0
import Derived.Test.YtldahjcikmpifaaGreatC25
import Derived.Test.YtldahjcikmpifaaGreatH3
import Derived.Shelf.Small.Strs
import Derived.Test.YtldahjcikmpifaaGreatRows
set_option linter.all false
namespace Go.R
open Go Go.Proofs
set_option linter.unusedVariables false
set_option linter.unusedSimpArgs false
set_option maxHeartbeats 8000000
theorem mixed:Tryz.prog.follows .mixedOrders = true:=by kernel_rfl
structure x8 where
  Kind:Int
  N:Int
  T:Str
deriving Inhabited,DecidableEq

def l9 (x:x8):AV:=.agg [(.int .i64 x.Kind),(.int .i64 x.N),(.str x.T)]
theorem encGAtom_eq (x:x8):l9 x = .agg [(.int .i64 x.Kind),(.int .i64 x.N),(.str x.T)]:=rfl

structure a1h where
  Code:(List Int)
  At:Int
  Seed:Int
deriving Inhabited,DecidableEq

def d2p (x:a1h):AV:=.agg [(.lst 1 (x.Code.map a0q)),(.int .i64 x.At),(.int .i64 x.Seed)]
theorem encGL00Src_eq (x:a1h):d2p x = .agg [(.lst 1 (x.Code.map a0q)),(.int .i64 x.At),(.int .i64 x.Seed)]:=rfl

structure y7 where
  Kind:Int
  N:Int
  T:Str
  Keys:(List Str)
  Items:List y7


mutual
def o5:y7 → AV
  | ⟨k,n,t,ks,is⟩ => .agg [.int .i64 k,.int .i64 n,.str t,.lst 1 (ks.map AV.str),.lst 5 (b6w is)]
def b6w:List y7 → List AV
  | [] => []
  | x :: xs => o5 x :: b6w xs
end
theorem b7h:∀ (l:List y7),b6w l = l.map o5
  | [] => rfl
  | x :: xs => by simp only [b6w,b7h xs,List.map_cons]
theorem y8 (x:y7):o5 x = .agg [.int .i64 x.Kind,.int .i64 x.N,.str x.T,.lst 1 (x.Keys.map AV.str),.lst 5 (x.Items.map o5)]:=by
  cases x; simp only [o5,b7h]
instance:Inhabited y7:=⟨⟨0,0,[],[],[]⟩⟩
theorem leJ {a:AV} {x:y7} (h:Le a (.agg [.int .i64 x.Kind,.int .i64 x.N,.str x.T,.lst 1 (x.Keys.map AV.str),.lst 5 (x.Items.map o5)])):Le a (o5 x):=by rw [y8]; exact h

structure b1r where
  Id:Int
  Cells:(List (List x8))
deriving Inhabited,DecidableEq

def b1i (x:b1r):AV:=.agg [(.int .i64 x.Id),(.lst 1 (x.Cells.map (a4z 3 l9)))]
theorem encGRow_eq (x:b1r):b1i x = .agg [(.int .i64 x.Id),(.lst 1 (x.Cells.map (a4z 3 l9)))]:=rfl

structure a3f where
  Name:Str
  Kind:Int
  Min:Int
  Max:Int
  Low:Int
  High:Int
  Ref:Str
  Strong:Bool
deriving Inhabited,DecidableEq

def a1o (x:a3f):AV:=.agg [(.str x.Name),(.int .i64 x.Kind),(.int .i64 x.Min),(.int .i64 x.Max),(.int .i64 x.Low),(.int .i64 x.High),(.str x.Ref),(.bool x.Strong)]
theorem encGColumn_eq (x:a3f):a1o x = .agg [(.str x.Name),(.int .i64 x.Kind),(.int .i64 x.Min),(.int .i64 x.Max),(.int .i64 x.Low),(.int .i64 x.High),(.str x.Ref),(.bool x.Strong)]:=rfl

structure b4t where
  Name:Str
  Columns:(List a3f)
  Unique:(List Int)
  Root:Bool
deriving Inhabited,DecidableEq

def a8b (x:b4t):AV:=.agg [(.str x.Name),(.lst 8 (x.Columns.map a1o)),(.lst 1 (x.Unique.map encI)),(.bool x.Root)]
theorem encGTable_eq (x:b4t):a8b x = .agg [(.str x.Name),(.lst 8 (x.Columns.map a1o)),(.lst 1 (x.Unique.map encI)),(.bool x.Root)]:=rfl

structure b9g where
  Tables:(List b4t)
deriving Inhabited,DecidableEq

def c4k (x:b9g):AV:=.agg [(.lst 4 (x.Tables.map a8b))]
theorem c5t (x:b9g):c4k x = .agg [(.lst 4 (x.Tables.map a8b))]:=rfl

inductive a6q:y7 → Prop
  | mk {x:y7} (h0:(okI .i64) x.Kind) (h1:(okI .i64) x.N) (h2:(okS) x.T) (h3:(okL (okS)) x.Keys) (h4:x.Items.length ≤ maxLen) (h4_:∀ y ∈ x.Items,a6q y):a6q x
end Go.R
