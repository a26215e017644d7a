/-
  NARROWER THAN 'FOR EVERY INPUT', by the rows' own cells (each row's printed sentence says how): FnExactJsonMonitor: loops.
  DERIVED. THE GIVEN ROWS OF THIS SEAT. 7 by the template 'for every input the law returns true; each argument reads behind the call as it read before'; 0 by the template 'total and deterministic' (their statements: YtldahjcikmpifaaGreatTotals.lean).
  GIVEN WITH THE SEED: the statements are not yours to turn. If you find one false, say at which input.
  Laid BY PROGRAM, IN A SANDBOX (cutbox-rows.mjs): the forced cells as the released guide's own fill.sh prints them over the translation e0de1e656f05fbce… (all of the seat's roots in one cut). By AI agents, Wed Nov 11 2026. No macro, syntax, notation, axiom, sorry.
-/
import Derived.Test.YtldahjcikmpifaaGreatChecked
import GoSem.Claim
import GoSem.ClaimJoined
import GoSem.ClaimMapViews
import Derived.JoinedTies
import Derived.KernelRfl
namespace Go.Proofs.YtldahjcikmpifaaGreat
/- THE CELL 'sum', in the pinned program and in every row, IS THE sha256 OF THE DUMP (.gsa) THAT YtldahjcikmpifaaGreatProg.lean LOADS. Nothing in Lean hashes anything: it is a label: what it is worth is what the hold of that sum in a sandbox is worth. -/
noncomputable def Tryz.pinned : Pinned := { name := "ytldahjcikmpifaagreat", sum := "e0de1e656f05fbceed8ad4fc3e72893dd1a4e88038169cb2c62dec8caa3da6aa", checked := Tryz.checked }
namespace Rows
def none {H : Type} : Left H := { results := [], args := [] }

/-- 'laws.FnStores': WHATEVER THE INPUT: true; the input reads as it did. -/
def fnStoresSpec : ChangeSpec := { name := "fnStores", fn := fun _ => fun
  | [d] => { results := [.lit (.bool true)], args := [d] }
  | _ => none }
def fnStoresRow : OpenClaim := { program := "ytldahjcikmpifaagreat", sum := "e0de1e656f05fbceed8ad4fc3e72893dd1a4e88038169cb2c62dec8caa3da6aa", func := "loop.example/g00524/laws.FnStores", spec := "fnStores", inPlace := ["internal/bytealg.abigen_runtime_cmpstring"], unfollowed := true, recurses := true, apart := false }
def FnStoresSaid : Prop := fnStoresRow.holds Tryz.pinned (OpenSpec.ofChange fnStoresSpec)

/-- ITS FALSE NEIGHBOUR: 'it returns false'. Refute it at one input. -/
def fnStoresWrong : ChangeSpec := { name := "fnStores", fn := fun _ => fun
  | [d] => { results := [.lit (.bool false)], args := [d] }
  | _ => none }
def FnStoresWrongFalsely : Prop := fnStoresRow.holds Tryz.pinned (OpenSpec.ofChange fnStoresWrong)

/-- 'laws.FnExactRowJson': WHATEVER THE INPUT: true; the input reads as it did. -/
def fnExactRowJsonSpec : ChangeSpec := { name := "fnExactRowJson", fn := fun _ => fun
  | [d1, d2] => { results := [.lit (.bool true)], args := [d1, d2] }
  | _ => none }
def fnExactRowJsonRow : OpenClaim := { program := "ytldahjcikmpifaagreat", sum := "e0de1e656f05fbceed8ad4fc3e72893dd1a4e88038169cb2c62dec8caa3da6aa", func := "loop.example/g00524/laws.FnExactRowJson", spec := "fnExactRowJson", inPlace := ["internal/bytealg.abigen_runtime_cmpstring"], unfollowed := true, recurses := true, apart := false }
def FnExactRowJsonSaid : Prop := fnExactRowJsonRow.holds Tryz.pinned (OpenSpec.ofChange fnExactRowJsonSpec)

/-- ITS FALSE NEIGHBOUR: 'it returns false'. Refute it at one input. -/
def fnExactRowJsonWrong : ChangeSpec := { name := "fnExactRowJson", fn := fun _ => fun
  | [d1, d2] => { results := [.lit (.bool false)], args := [d1, d2] }
  | _ => none }
def FnExactRowJsonWrongFalsely : Prop := fnExactRowJsonRow.holds Tryz.pinned (OpenSpec.ofChange fnExactRowJsonWrong)

/-- 'laws.FnExactPrune': WHATEVER THE INPUT: true; the input reads as it did. -/
def fnExactPruneSpec : ChangeSpec := { name := "fnExactPrune", fn := fun _ => fun
  | [d1, d2] => { results := [.lit (.bool true)], args := [d1, d2] }
  | _ => none }
def fnExactPruneRow : OpenClaim := { program := "ytldahjcikmpifaagreat", sum := "e0de1e656f05fbceed8ad4fc3e72893dd1a4e88038169cb2c62dec8caa3da6aa", func := "loop.example/g00524/laws.FnExactPrune", spec := "fnExactPrune", inPlace := ["internal/bytealg.abigen_runtime_cmpstring"], unfollowed := true, recurses := true, apart := false }
def FnExactPruneSaid : Prop := fnExactPruneRow.holds Tryz.pinned (OpenSpec.ofChange fnExactPruneSpec)

/-- ITS FALSE NEIGHBOUR: 'it returns false'. Refute it at one input. -/
def fnExactPruneWrong : ChangeSpec := { name := "fnExactPrune", fn := fun _ => fun
  | [d1, d2] => { results := [.lit (.bool false)], args := [d1, d2] }
  | _ => none }
def FnExactPruneWrongFalsely : Prop := fnExactPruneRow.holds Tryz.pinned (OpenSpec.ofChange fnExactPruneWrong)

/-- 'laws.FnExactResultJson': WHATEVER THE INPUT: true; the input reads as it did. -/
def fnExactResultJsonSpec : ChangeSpec := { name := "fnExactResultJson", fn := fun _ => fun
  | [d1, d2] => { results := [.lit (.bool true)], args := [d1, d2] }
  | _ => none }
def fnExactResultJsonRow : OpenClaim := { program := "ytldahjcikmpifaagreat", sum := "e0de1e656f05fbceed8ad4fc3e72893dd1a4e88038169cb2c62dec8caa3da6aa", func := "loop.example/g00524/laws.FnExactResultJson", spec := "fnExactResultJson", inPlace := ["internal/bytealg.abigen_runtime_cmpstring"], unfollowed := true, recurses := true, apart := false }
def FnExactResultJsonSaid : Prop := fnExactResultJsonRow.holds Tryz.pinned (OpenSpec.ofChange fnExactResultJsonSpec)

/-- ITS FALSE NEIGHBOUR: 'it returns false'. Refute it at one input. -/
def fnExactResultJsonWrong : ChangeSpec := { name := "fnExactResultJson", fn := fun _ => fun
  | [d1, d2] => { results := [.lit (.bool false)], args := [d1, d2] }
  | _ => none }
def FnExactResultJsonWrongFalsely : Prop := fnExactResultJsonRow.holds Tryz.pinned (OpenSpec.ofChange fnExactResultJsonWrong)

/-- 'laws.FnWire': WHATEVER THE INPUT: true; the input reads as it did. -/
def fnWireSpec : ChangeSpec := { name := "fnWire", fn := fun _ => fun
  | [d1, d2] => { results := [.lit (.bool true)], args := [d1, d2] }
  | _ => none }
def fnWireRow : OpenClaim := { program := "ytldahjcikmpifaagreat", sum := "e0de1e656f05fbceed8ad4fc3e72893dd1a4e88038169cb2c62dec8caa3da6aa", func := "loop.example/g00524/laws.FnWire", spec := "fnWire", inPlace := ["internal/bytealg.abigen_runtime_cmpstring"], unfollowed := true, recurses := true, apart := false }
def FnWireSaid : Prop := fnWireRow.holds Tryz.pinned (OpenSpec.ofChange fnWireSpec)

/-- ITS FALSE NEIGHBOUR: 'it returns false'. Refute it at one input. -/
def fnWireWrong : ChangeSpec := { name := "fnWire", fn := fun _ => fun
  | [d1, d2] => { results := [.lit (.bool false)], args := [d1, d2] }
  | _ => none }
def FnWireWrongFalsely : Prop := fnWireRow.holds Tryz.pinned (OpenSpec.ofChange fnWireWrong)

/-- 'laws.FnRows': WHATEVER THE INPUT: true; the input reads as it did. -/
def fnRowsSpec : ChangeSpec := { name := "fnRows", fn := fun _ => fun
  | [d1, d2] => { results := [.lit (.bool true)], args := [d1, d2] }
  | _ => none }
def fnRowsRow : OpenClaim := { program := "ytldahjcikmpifaagreat", sum := "e0de1e656f05fbceed8ad4fc3e72893dd1a4e88038169cb2c62dec8caa3da6aa", func := "loop.example/g00524/laws.FnRows", spec := "fnRows", inPlace := ["slices.overlaps[loop.example/g00524/impl.Row]"], unfollowed := true, recurses := true, apart := false }
def FnRowsSaid : Prop := fnRowsRow.holds Tryz.pinned (OpenSpec.ofChange fnRowsSpec)

/-- ITS FALSE NEIGHBOUR: 'it returns false'. Refute it at one input. -/
def fnRowsWrong : ChangeSpec := { name := "fnRows", fn := fun _ => fun
  | [d1, d2] => { results := [.lit (.bool false)], args := [d1, d2] }
  | _ => none }
def FnRowsWrongFalsely : Prop := fnRowsRow.holds Tryz.pinned (OpenSpec.ofChange fnRowsWrong)

/-- 'laws.FnExactJsonMonitor': WHATEVER THE INPUT: true; the input reads as it did. -/
def fnExactJsonMonitorSpec : ChangeSpec := { name := "fnExactJsonMonitor", fn := fun _ => fun
  | [d1, d2] => { results := [.lit (.bool true)], args := [d1, d2] }
  | _ => none }
def fnExactJsonMonitorRow : OpenClaim := { program := "ytldahjcikmpifaagreat", sum := "e0de1e656f05fbceed8ad4fc3e72893dd1a4e88038169cb2c62dec8caa3da6aa", func := "loop.example/g00524/laws.FnExactJsonMonitor", spec := "fnExactJsonMonitor", inPlace := ["internal/bytealg.abigen_runtime_cmpstring"], unfollowed := true, recurses := true, loops := true, apart := false }
def FnExactJsonMonitorSaid : Prop := fnExactJsonMonitorRow.holds Tryz.pinned (OpenSpec.ofChange fnExactJsonMonitorSpec)

/-- ITS FALSE NEIGHBOUR: 'it returns false'. Refute it at one input. -/
def fnExactJsonMonitorWrong : ChangeSpec := { name := "fnExactJsonMonitor", fn := fun _ => fun
  | [d1, d2] => { results := [.lit (.bool false)], args := [d1, d2] }
  | _ => none }
def FnExactJsonMonitorWrongFalsely : Prop := fnExactJsonMonitorRow.holds Tryz.pinned (OpenSpec.ofChange fnExactJsonMonitorWrong)

/- THE SECOND FORM. 'bulk': how many values and letters a reading holds, each counted each time it is reached (what is shared counts as often as it is met; a slice's spare places count too). A statement '..UptoSaid' is the law's where the arguments, and the package variables that the reading takes, are together of bulk at most 1048576: NARROWER than '..Said'. Prove '..Said' where nothing that the law and all that it calls make is longer than what came in: it says more and counts as full. Else prove '..UptoSaid'. A law counts once. -/
mutual
def uptoBulk {H : Type} : DataW H → Nat
  | .lit (.string bytes) => bytes.length + 1
  | .lit _ => 1
  | .nil => 1
  | .ptr d => uptoBulk d + 1
  | .slice elems spare => uptoBulkAll elems + uptoBulkAll spare + 1
  | .agg parts => uptoBulkAll parts + 1
  | .iface _ d => uptoBulk d + 1
  | .map entries => uptoBulkEntries entries + 1
  | .held _ => 1
def uptoBulkAll {H : Type} : List (DataW H) → Nat
  | [] => 0
  | d :: r => uptoBulk d + uptoBulkAll r
def uptoBulkEntries {H : Type} : List (Lit × DataW H) → Nat
  | [] => 0
  | x :: r => uptoBulkEntry x + uptoBulkEntries r
def uptoBulkEntry {H : Type} : Lit × DataW H → Nat
  | (.string bytes, d) => bytes.length + uptoBulk d + 1
  | (_, d) => uptoBulk d + 1
 end
def uptoSmall : (H : Type) → List (DataW H) → Bool := fun _ ds => decide (uptoBulkAll ds ≤ 1048576)
def OpenSpec.upto (s : _root_.Go.ChangeSpec) : _root_.Go.OpenSpec := { _root_.Go.OpenSpec.ofChange s with cond := some uptoSmall }

/-- 'laws.FnStores', WHERE WHAT IT READS IS OF BULK AT MOST 1048576: true; the input reads as it did. -/
def fnStoresUptoRow : OpenClaim := { program := "ytldahjcikmpifaagreat", sum := "e0de1e656f05fbceed8ad4fc3e72893dd1a4e88038169cb2c62dec8caa3da6aa", func := "loop.example/g00524/laws.FnStores", spec := "fnStores", inPlace := ["internal/bytealg.abigen_runtime_cmpstring"], unfollowed := true, recurses := true, apart := false, narrowed := true }
def FnStoresUptoSaid : Prop := fnStoresUptoRow.holds Tryz.pinned (OpenSpec.upto fnStoresSpec)

/-- 'laws.FnExactRowJson', WHERE WHAT IT READS IS OF BULK AT MOST 1048576: true; the input reads as it did. -/
def fnExactRowJsonUptoRow : OpenClaim := { program := "ytldahjcikmpifaagreat", sum := "e0de1e656f05fbceed8ad4fc3e72893dd1a4e88038169cb2c62dec8caa3da6aa", func := "loop.example/g00524/laws.FnExactRowJson", spec := "fnExactRowJson", inPlace := ["internal/bytealg.abigen_runtime_cmpstring"], unfollowed := true, recurses := true, apart := false, narrowed := true }
def FnExactRowJsonUptoSaid : Prop := fnExactRowJsonUptoRow.holds Tryz.pinned (OpenSpec.upto fnExactRowJsonSpec)

/-- 'laws.FnExactPrune', WHERE WHAT IT READS IS OF BULK AT MOST 1048576: true; the input reads as it did. -/
def fnExactPruneUptoRow : OpenClaim := { program := "ytldahjcikmpifaagreat", sum := "e0de1e656f05fbceed8ad4fc3e72893dd1a4e88038169cb2c62dec8caa3da6aa", func := "loop.example/g00524/laws.FnExactPrune", spec := "fnExactPrune", inPlace := ["internal/bytealg.abigen_runtime_cmpstring"], unfollowed := true, recurses := true, apart := false, narrowed := true }
def FnExactPruneUptoSaid : Prop := fnExactPruneUptoRow.holds Tryz.pinned (OpenSpec.upto fnExactPruneSpec)

/-- 'laws.FnExactResultJson', WHERE WHAT IT READS IS OF BULK AT MOST 1048576: true; the input reads as it did. -/
def fnExactResultJsonUptoRow : OpenClaim := { program := "ytldahjcikmpifaagreat", sum := "e0de1e656f05fbceed8ad4fc3e72893dd1a4e88038169cb2c62dec8caa3da6aa", func := "loop.example/g00524/laws.FnExactResultJson", spec := "fnExactResultJson", inPlace := ["internal/bytealg.abigen_runtime_cmpstring"], unfollowed := true, recurses := true, apart := false, narrowed := true }
def FnExactResultJsonUptoSaid : Prop := fnExactResultJsonUptoRow.holds Tryz.pinned (OpenSpec.upto fnExactResultJsonSpec)

/-- 'laws.FnWire', WHERE WHAT IT READS IS OF BULK AT MOST 1048576: true; the input reads as it did. -/
def fnWireUptoRow : OpenClaim := { program := "ytldahjcikmpifaagreat", sum := "e0de1e656f05fbceed8ad4fc3e72893dd1a4e88038169cb2c62dec8caa3da6aa", func := "loop.example/g00524/laws.FnWire", spec := "fnWire", inPlace := ["internal/bytealg.abigen_runtime_cmpstring"], unfollowed := true, recurses := true, apart := false, narrowed := true }
def FnWireUptoSaid : Prop := fnWireUptoRow.holds Tryz.pinned (OpenSpec.upto fnWireSpec)

/-- 'laws.FnRows', WHERE WHAT IT READS IS OF BULK AT MOST 1048576: true; the input reads as it did. -/
def fnRowsUptoRow : OpenClaim := { program := "ytldahjcikmpifaagreat", sum := "e0de1e656f05fbceed8ad4fc3e72893dd1a4e88038169cb2c62dec8caa3da6aa", func := "loop.example/g00524/laws.FnRows", spec := "fnRows", inPlace := ["slices.overlaps[loop.example/g00524/impl.Row]"], unfollowed := true, recurses := true, apart := false, narrowed := true }
def FnRowsUptoSaid : Prop := fnRowsUptoRow.holds Tryz.pinned (OpenSpec.upto fnRowsSpec)

/-- 'laws.FnExactJsonMonitor', WHERE WHAT IT READS IS OF BULK AT MOST 1048576: true; the input reads as it did. -/
def fnExactJsonMonitorUptoRow : OpenClaim := { program := "ytldahjcikmpifaagreat", sum := "e0de1e656f05fbceed8ad4fc3e72893dd1a4e88038169cb2c62dec8caa3da6aa", func := "loop.example/g00524/laws.FnExactJsonMonitor", spec := "fnExactJsonMonitor", inPlace := ["internal/bytealg.abigen_runtime_cmpstring"], unfollowed := true, recurses := true, loops := true, apart := false, narrowed := true }
def FnExactJsonMonitorUptoSaid : Prop := fnExactJsonMonitorUptoRow.holds Tryz.pinned (OpenSpec.upto fnExactJsonMonitorSpec)

end Rows
end Go.Proofs.YtldahjcikmpifaaGreat
