/- Plain data. -/
import Derived.Test.YtdnjjfoooagphaaE0
import Derived.Test.YtdnjjfoooagphaaC25
import Derived.Shelf.Small.Strs
import Derived.Test.YtdnjjfoooagphaaRows
set_option linter.all false
namespace Go.R
open Go Go.Proofs
set_option linter.unusedVariables false
set_option linter.unusedSimpArgs false
set_option maxHeartbeats 8000000
theorem mixed : Try.prog.follows .mixedOrders = true := by kernel_rfl
structure GAtom where
  Kind : Int
  N : Int
  T : Str
deriving Inhabited, DecidableEq

def encGAtom (x : GAtom) : AV := .agg [(.int .i64 x.Kind), (.int .i64 x.N), (.str x.T)]
theorem encGAtom_eq (x : GAtom) : encGAtom x = .agg [(.int .i64 x.Kind), (.int .i64 x.N), (.str x.T)] := rfl

structure GJson where
  Kind : Int
  N : Int
  T : Str
  Keys : (List Str)
  Items : List GJson


mutual
def encGJson : GJson → AV
  | ⟨k, n, t, ks, is⟩ => .agg [.int .i64 k, .int .i64 n, .str t, .lst 1 (ks.map AV.str), .lst 5 (encGJsons is)]
def encGJsons : List GJson → List AV
  | [] => []
  | x :: xs => encGJson x :: encGJsons xs
end
theorem encGJsons_map : ∀ (l : List GJson), encGJsons l = l.map encGJson
  | [] => rfl
  | x :: xs => by simp only [encGJsons, encGJsons_map xs, List.map_cons]
theorem encGJson_eq (x : GJson) : encGJson x = .agg [.int .i64 x.Kind, .int .i64 x.N, .str x.T, .lst 1 (x.Keys.map AV.str), .lst 5 (x.Items.map encGJson)] := by
  cases x; simp only [encGJson, encGJsons_map]
instance : Inhabited GJson := ⟨⟨0, 0, [], [], []⟩⟩
theorem leJ {a : AV} {x : GJson} (h : Le a (.agg [.int .i64 x.Kind, .int .i64 x.N, .str x.T, .lst 1 (x.Keys.map AV.str), .lst 5 (x.Items.map encGJson)])) : Le a (encGJson x) := by rw [encGJson_eq]; exact h

def okGAtom (x : GAtom) : Prop := (okI .i64) x.Kind ∧ (okI .i64) x.N ∧ okS x.T
inductive okGJson : GJson → Prop
  | mk {x : GJson} (h0 : (okI .i64) x.Kind) (h1 : (okI .i64) x.N) (h2 : (okS) x.T) (h3 : (okL (okS)) x.Keys) (h4 : x.Items.length ≤ maxLen) (h4_ : ∀ y ∈ x.Items, okGJson y) : okGJson x
end Go.R
