/-
  No cell of these rows narrows 'for every input' (looked for: loops, veiled, ifaces, maps, wideKeys, modest, calm, conditions, laid).
  DERIVED. THE GIVEN ROWS OF THIS SEAT. 4 by the template 'for every input the law returns true; each argument reads behind the call as it read before'; 0 by the template 'total and deterministic' (their statements: YtmeckljlaaflkaaGreatTotals.lean).
  GIVEN WITH THE SEED: the statements are not yours to turn. If you find one false, say at which input.
  Laid BY PROGRAM, IN A SANDBOX (cutbox-rows.mjs): the forced cells as the released guide's own fill.sh prints them over the translation f4d69223bedd02f1… (all of the seat's roots in one cut). By AI agents, Wed Nov 11 2026. No macro, syntax, notation, axiom, sorry.
-/
import Derived.Test.YtmeckljlaaflkaaGreatChecked
import GoSem.Claim
import GoSem.ClaimJoined
import GoSem.ClaimMapViews
import Derived.JoinedTies
import Derived.KernelRfl
namespace Go.Proofs.YtmeckljlaaflkaaGreat
/- THE CELL 'sum', in the pinned program and in every row, IS THE sha256 OF THE DUMP (.gsa) THAT YtmeckljlaaflkaaGreatProg.lean LOADS. Nothing in Lean hashes anything: it is a label: what it is worth is what the hold of that sum in a sandbox is worth. -/
noncomputable def Tryz.pinned : Pinned := { name := "ytmeckljlaaflkaagreat", sum := "f4d69223bedd02f1d924cc8a627a1afe02b6a541078d2ad9c67e4e1013055c04", checked := Tryz.checked }
namespace Rows
def none {H : Type} : Left H := { results := [], args := [] }

/-- 'laws.FnOps': WHATEVER THE INPUT: true; the input reads as it did. -/
def fnOpsSpec : ChangeSpec := { name := "fnOps", fn := fun _ => fun
  | [d] => { results := [.lit (.bool true)], args := [d] }
  | _ => none }
def fnOpsRow : OpenClaim := { program := "ytmeckljlaaflkaagreat", sum := "f4d69223bedd02f1d924cc8a627a1afe02b6a541078d2ad9c67e4e1013055c04", func := "loop.example/g00524/laws.FnOps", spec := "fnOps", inPlace := ["internal/bytealg.abigen_runtime_cmpstring"], unfollowed := true, recurses := true, apart := false }
def FnOpsSaid : Prop := fnOpsRow.holds Tryz.pinned (OpenSpec.ofChange fnOpsSpec)

/-- ITS FALSE NEIGHBOUR: 'it returns false'. Refute it at one input. -/
def fnOpsWrong : ChangeSpec := { name := "fnOps", fn := fun _ => fun
  | [d] => { results := [.lit (.bool false)], args := [d] }
  | _ => none }
def FnOpsWrongFalsely : Prop := fnOpsRow.holds Tryz.pinned (OpenSpec.ofChange fnOpsWrong)

/-- 'laws.FnExactInsertIds': WHATEVER THE INPUT: true; the input reads as it did. -/
def fnExactInsertIdsSpec : ChangeSpec := { name := "fnExactInsertIds", fn := fun _ => fun
  | [d1, d2] => { results := [.lit (.bool true)], args := [d1, d2] }
  | _ => none }
def fnExactInsertIdsRow : OpenClaim := { program := "ytmeckljlaaflkaagreat", sum := "f4d69223bedd02f1d924cc8a627a1afe02b6a541078d2ad9c67e4e1013055c04", func := "loop.example/g00524/laws.FnExactInsertIds", spec := "fnExactInsertIds", inPlace := ["internal/bytealg.abigen_runtime_cmpstring"], unfollowed := true, recurses := true, apart := false }
def FnExactInsertIdsSaid : Prop := fnExactInsertIdsRow.holds Tryz.pinned (OpenSpec.ofChange fnExactInsertIdsSpec)

/-- ITS FALSE NEIGHBOUR: 'it returns false'. Refute it at one input. -/
def fnExactInsertIdsWrong : ChangeSpec := { name := "fnExactInsertIds", fn := fun _ => fun
  | [d1, d2] => { results := [.lit (.bool false)], args := [d1, d2] }
  | _ => none }
def FnExactInsertIdsWrongFalsely : Prop := fnExactInsertIdsRow.holds Tryz.pinned (OpenSpec.ofChange fnExactInsertIdsWrong)

/-- 'laws.FnExactSetRow': WHATEVER THE INPUT: true; the input reads as it did. -/
def fnExactSetRowSpec : ChangeSpec := { name := "fnExactSetRow", fn := fun _ => fun
  | [d1, d2, d3] => { results := [.lit (.bool true)], args := [d1, d2, d3] }
  | _ => none }
def fnExactSetRowRow : OpenClaim := { program := "ytmeckljlaaflkaagreat", sum := "f4d69223bedd02f1d924cc8a627a1afe02b6a541078d2ad9c67e4e1013055c04", func := "loop.example/g00524/laws.FnExactSetRow", spec := "fnExactSetRow", inPlace := ["internal/bytealg.abigen_runtime_cmpstring"], unfollowed := true, recurses := true, apart := false }
def FnExactSetRowSaid : Prop := fnExactSetRowRow.holds Tryz.pinned (OpenSpec.ofChange fnExactSetRowSpec)

/-- ITS FALSE NEIGHBOUR: 'it returns false'. Refute it at one input. -/
def fnExactSetRowWrong : ChangeSpec := { name := "fnExactSetRow", fn := fun _ => fun
  | [d1, d2, d3] => { results := [.lit (.bool false)], args := [d1, d2, d3] }
  | _ => none }
def FnExactSetRowWrongFalsely : Prop := fnExactSetRowRow.holds Tryz.pinned (OpenSpec.ofChange fnExactSetRowWrong)

/-- 'laws.FnExactCommitCode': WHATEVER THE INPUT: true; the input reads as it did. -/
def fnExactCommitCodeSpec : ChangeSpec := { name := "fnExactCommitCode", fn := fun _ => fun
  | [d1, d2] => { results := [.lit (.bool true)], args := [d1, d2] }
  | _ => none }
def fnExactCommitCodeRow : OpenClaim := { program := "ytmeckljlaaflkaagreat", sum := "f4d69223bedd02f1d924cc8a627a1afe02b6a541078d2ad9c67e4e1013055c04", func := "loop.example/g00524/laws.FnExactCommitCode", spec := "fnExactCommitCode", inPlace := ["internal/bytealg.abigen_runtime_cmpstring"], unfollowed := true, recurses := true, apart := false }
def FnExactCommitCodeSaid : Prop := fnExactCommitCodeRow.holds Tryz.pinned (OpenSpec.ofChange fnExactCommitCodeSpec)

/-- ITS FALSE NEIGHBOUR: 'it returns false'. Refute it at one input. -/
def fnExactCommitCodeWrong : ChangeSpec := { name := "fnExactCommitCode", fn := fun _ => fun
  | [d1, d2] => { results := [.lit (.bool false)], args := [d1, d2] }
  | _ => none }
def FnExactCommitCodeWrongFalsely : Prop := fnExactCommitCodeRow.holds Tryz.pinned (OpenSpec.ofChange fnExactCommitCodeWrong)

/- THE SECOND FORM. 'bulk': how many values and letters a reading holds, each counted each time it is reached (what is shared counts as often as it is met; a slice's spare places count too). A statement '..UptoSaid' is the law's where the arguments, and the package variables that the reading takes, are together of bulk at most 1048576: NARROWER than '..Said'. Prove '..Said' where nothing that the law and all that it calls make is longer than what came in: it says more and counts as full. Else prove '..UptoSaid'. A law counts once. -/
mutual
def uptoBulk {H : Type} : DataW H → Nat
  | .lit (.string bytes) => bytes.length + 1
  | .lit _ => 1
  | .nil => 1
  | .ptr d => uptoBulk d + 1
  | .slice elems spare => uptoBulkAll elems + uptoBulkAll spare + 1
  | .agg parts => uptoBulkAll parts + 1
  | .iface _ d => uptoBulk d + 1
  | .map entries => uptoBulkEntries entries + 1
  | .held _ => 1
def uptoBulkAll {H : Type} : List (DataW H) → Nat
  | [] => 0
  | d :: r => uptoBulk d + uptoBulkAll r
def uptoBulkEntries {H : Type} : List (Lit × DataW H) → Nat
  | [] => 0
  | x :: r => uptoBulkEntry x + uptoBulkEntries r
def uptoBulkEntry {H : Type} : Lit × DataW H → Nat
  | (.string bytes, d) => bytes.length + uptoBulk d + 1
  | (_, d) => uptoBulk d + 1
 end
def uptoSmall : (H : Type) → List (DataW H) → Bool := fun _ ds => decide (uptoBulkAll ds ≤ 1048576)
def OpenSpec.upto (s : _root_.Go.ChangeSpec) : _root_.Go.OpenSpec := { _root_.Go.OpenSpec.ofChange s with cond := some uptoSmall }

/-- 'laws.FnOps', WHERE WHAT IT READS IS OF BULK AT MOST 1048576: true; the input reads as it did. -/
def fnOpsUptoRow : OpenClaim := { program := "ytmeckljlaaflkaagreat", sum := "f4d69223bedd02f1d924cc8a627a1afe02b6a541078d2ad9c67e4e1013055c04", func := "loop.example/g00524/laws.FnOps", spec := "fnOps", inPlace := ["internal/bytealg.abigen_runtime_cmpstring"], unfollowed := true, recurses := true, apart := false, narrowed := true }
def FnOpsUptoSaid : Prop := fnOpsUptoRow.holds Tryz.pinned (OpenSpec.upto fnOpsSpec)

/-- 'laws.FnExactInsertIds', WHERE WHAT IT READS IS OF BULK AT MOST 1048576: true; the input reads as it did. -/
def fnExactInsertIdsUptoRow : OpenClaim := { program := "ytmeckljlaaflkaagreat", sum := "f4d69223bedd02f1d924cc8a627a1afe02b6a541078d2ad9c67e4e1013055c04", func := "loop.example/g00524/laws.FnExactInsertIds", spec := "fnExactInsertIds", inPlace := ["internal/bytealg.abigen_runtime_cmpstring"], unfollowed := true, recurses := true, apart := false, narrowed := true }
def FnExactInsertIdsUptoSaid : Prop := fnExactInsertIdsUptoRow.holds Tryz.pinned (OpenSpec.upto fnExactInsertIdsSpec)

/-- 'laws.FnExactSetRow', WHERE WHAT IT READS IS OF BULK AT MOST 1048576: true; the input reads as it did. -/
def fnExactSetRowUptoRow : OpenClaim := { program := "ytmeckljlaaflkaagreat", sum := "f4d69223bedd02f1d924cc8a627a1afe02b6a541078d2ad9c67e4e1013055c04", func := "loop.example/g00524/laws.FnExactSetRow", spec := "fnExactSetRow", inPlace := ["internal/bytealg.abigen_runtime_cmpstring"], unfollowed := true, recurses := true, apart := false, narrowed := true }
def FnExactSetRowUptoSaid : Prop := fnExactSetRowUptoRow.holds Tryz.pinned (OpenSpec.upto fnExactSetRowSpec)

/-- 'laws.FnExactCommitCode', WHERE WHAT IT READS IS OF BULK AT MOST 1048576: true; the input reads as it did. -/
def fnExactCommitCodeUptoRow : OpenClaim := { program := "ytmeckljlaaflkaagreat", sum := "f4d69223bedd02f1d924cc8a627a1afe02b6a541078d2ad9c67e4e1013055c04", func := "loop.example/g00524/laws.FnExactCommitCode", spec := "fnExactCommitCode", inPlace := ["internal/bytealg.abigen_runtime_cmpstring"], unfollowed := true, recurses := true, apart := false, narrowed := true }
def FnExactCommitCodeUptoSaid : Prop := fnExactCommitCodeUptoRow.holds Tryz.pinned (OpenSpec.upto fnExactCommitCodeSpec)

end Rows
end Go.Proofs.YtmeckljlaaflkaaGreat
