/-
  No cell of these rows narrows 'for every input' (looked for: loops, veiled, ifaces, maps, wideKeys, modest, calm, conditions, laid).
  DERIVED. THE GIVEN ROWS OF THIS SEAT. 2 by the template 'for every input the law returns true; each argument reads behind the call as it read before'; 0 by the template 'total and deterministic' (their statements: YthejoafcjkoahaaGreatTotals.lean).
  GIVEN WITH THE SEED: the statements are not yours to turn. If you find one false, say at which input.
  Laid BY PROGRAM, IN A SANDBOX (cutbox-rows.mjs): the forced cells as the released guide's own fill.sh prints them over the translation ef537c2c7c9b6178… (all of the seat's roots in one cut). By AI agents, Wed Nov 11 2026. No macro, syntax, notation, axiom, sorry.
-/
import Derived.Test.YthejoafcjkoahaaGreatChecked
import GoSem.Claim
import GoSem.ClaimJoined
import GoSem.ClaimMapViews
import Derived.JoinedTies
import Derived.KernelRfl
namespace Go.Proofs.YthejoafcjkoahaaGreat
/- THE CELL 'sum', in the pinned program and in every row, IS THE sha256 OF THE DUMP (.gsa) THAT YthejoafcjkoahaaGreatProg.lean LOADS. Nothing in Lean hashes anything: it is a label: what it is worth is what the hold of that sum in a sandbox is worth. -/
noncomputable def Tryz.pinned : Pinned := { name := "ythejoafcjkoahaagreat", sum := "ef537c2c7c9b6178aefefd9d419c7840f84ef7abe1706dee021e45a24e09e1f4", checked := Tryz.checked }
namespace Rows
def none {H : Type} : Left H := { results := [], args := [] }

/-- 'laws.FnExactCommitCode': WHATEVER THE INPUT: true; the input reads as it did. -/
def fnExactCommitCodeSpec : ChangeSpec := { name := "fnExactCommitCode", fn := fun _ => fun
  | [d1, d2] => { results := [.lit (.bool true)], args := [d1, d2] }
  | _ => none }
def fnExactCommitCodeRow : OpenClaim := { program := "ythejoafcjkoahaagreat", sum := "ef537c2c7c9b6178aefefd9d419c7840f84ef7abe1706dee021e45a24e09e1f4", func := "loop.example/g00524/laws.FnExactCommitCode", spec := "fnExactCommitCode", inPlace := ["internal/bytealg.abigen_runtime_cmpstring"], unfollowed := true, recurses := true, apart := false }
def FnExactCommitCodeSaid : Prop := fnExactCommitCodeRow.holds Tryz.pinned (OpenSpec.ofChange fnExactCommitCodeSpec)

/-- ITS FALSE NEIGHBOUR: 'it returns false'. Refute it at one input. -/
def fnExactCommitCodeWrong : ChangeSpec := { name := "fnExactCommitCode", fn := fun _ => fun
  | [d1, d2] => { results := [.lit (.bool false)], args := [d1, d2] }
  | _ => none }
def FnExactCommitCodeWrongFalsely : Prop := fnExactCommitCodeRow.holds Tryz.pinned (OpenSpec.ofChange fnExactCommitCodeWrong)

/-- 'laws.FnExactOpCode': WHATEVER THE INPUT: true; the input reads as it did. -/
def fnExactOpCodeSpec : ChangeSpec := { name := "fnExactOpCode", fn := fun _ => fun
  | [d1, d2] => { results := [.lit (.bool true)], args := [d1, d2] }
  | _ => none }
def fnExactOpCodeRow : OpenClaim := { program := "ythejoafcjkoahaagreat", sum := "ef537c2c7c9b6178aefefd9d419c7840f84ef7abe1706dee021e45a24e09e1f4", func := "loop.example/g00524/laws.FnExactOpCode", spec := "fnExactOpCode", inPlace := ["internal/bytealg.abigen_runtime_cmpstring"], unfollowed := true, recurses := true, apart := false }
def FnExactOpCodeSaid : Prop := fnExactOpCodeRow.holds Tryz.pinned (OpenSpec.ofChange fnExactOpCodeSpec)

/-- ITS FALSE NEIGHBOUR: 'it returns false'. Refute it at one input. -/
def fnExactOpCodeWrong : ChangeSpec := { name := "fnExactOpCode", fn := fun _ => fun
  | [d1, d2] => { results := [.lit (.bool false)], args := [d1, d2] }
  | _ => none }
def FnExactOpCodeWrongFalsely : Prop := fnExactOpCodeRow.holds Tryz.pinned (OpenSpec.ofChange fnExactOpCodeWrong)

/- THE SECOND FORM. 'bulk': how many values and letters a reading holds, each counted each time it is reached (what is shared counts as often as it is met; a slice's spare places count too). A statement '..UptoSaid' is the law's where the arguments, and the package variables that the reading takes, are together of bulk at most 1048576: NARROWER than '..Said'. Prove '..Said' where nothing that the law and all that it calls make is longer than what came in: it says more and counts as full. Else prove '..UptoSaid'. A law counts once. -/
mutual
def uptoBulk {H : Type} : DataW H → Nat
  | .lit (.string bytes) => bytes.length + 1
  | .lit _ => 1
  | .nil => 1
  | .ptr d => uptoBulk d + 1
  | .slice elems spare => uptoBulkAll elems + uptoBulkAll spare + 1
  | .agg parts => uptoBulkAll parts + 1
  | .iface _ d => uptoBulk d + 1
  | .map entries => uptoBulkEntries entries + 1
  | .held _ => 1
def uptoBulkAll {H : Type} : List (DataW H) → Nat
  | [] => 0
  | d :: r => uptoBulk d + uptoBulkAll r
def uptoBulkEntries {H : Type} : List (Lit × DataW H) → Nat
  | [] => 0
  | x :: r => uptoBulkEntry x + uptoBulkEntries r
def uptoBulkEntry {H : Type} : Lit × DataW H → Nat
  | (.string bytes, d) => bytes.length + uptoBulk d + 1
  | (_, d) => uptoBulk d + 1
 end
def uptoSmall : (H : Type) → List (DataW H) → Bool := fun _ ds => decide (uptoBulkAll ds ≤ 1048576)
def OpenSpec.upto (s : _root_.Go.ChangeSpec) : _root_.Go.OpenSpec := { _root_.Go.OpenSpec.ofChange s with cond := some uptoSmall }

/-- 'laws.FnExactCommitCode', WHERE WHAT IT READS IS OF BULK AT MOST 1048576: true; the input reads as it did. -/
def fnExactCommitCodeUptoRow : OpenClaim := { program := "ythejoafcjkoahaagreat", sum := "ef537c2c7c9b6178aefefd9d419c7840f84ef7abe1706dee021e45a24e09e1f4", func := "loop.example/g00524/laws.FnExactCommitCode", spec := "fnExactCommitCode", inPlace := ["internal/bytealg.abigen_runtime_cmpstring"], unfollowed := true, recurses := true, apart := false, narrowed := true }
def FnExactCommitCodeUptoSaid : Prop := fnExactCommitCodeUptoRow.holds Tryz.pinned (OpenSpec.upto fnExactCommitCodeSpec)

/-- 'laws.FnExactOpCode', WHERE WHAT IT READS IS OF BULK AT MOST 1048576: true; the input reads as it did. -/
def fnExactOpCodeUptoRow : OpenClaim := { program := "ythejoafcjkoahaagreat", sum := "ef537c2c7c9b6178aefefd9d419c7840f84ef7abe1706dee021e45a24e09e1f4", func := "loop.example/g00524/laws.FnExactOpCode", spec := "fnExactOpCode", inPlace := ["internal/bytealg.abigen_runtime_cmpstring"], unfollowed := true, recurses := true, apart := false, narrowed := true }
def FnExactOpCodeUptoSaid : Prop := fnExactOpCodeUptoRow.holds Tryz.pinned (OpenSpec.upto fnExactOpCodeSpec)

end Rows
end Go.Proofs.YthejoafcjkoahaaGreat
