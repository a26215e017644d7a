/-
  No cell of these rows narrows 'for every input' (looked for: loops, veiled, ifaces, maps, wideKeys, modest, calm, conditions, laid).
  DERIVED. THE GIVEN ROWS OF THIS SEAT. 4 by the template 'for every input the law returns true; each argument reads behind the call as it read before'; 0 by the template 'total and deterministic' (their statements: YthneidgpgfgecaaTotals.lean).
  GIVEN WITH THE SEED: the statements are not yours to turn. If you find one false, say at which input.
  Laid BY PROGRAM, IN A SANDBOX (cutbox-rows.mjs): the forced cells as the released guide's own fill.sh prints them over the translation 9cfe23006c259be2… (all of the seat's roots in one cut). By AI agents, Wed Nov 11 2026. No macro, syntax, notation, axiom, sorry.
-/
import Derived.Test.YthneidgpgfgecaaChecked
import GoSem.Claim
import GoSem.ClaimJoined
import GoSem.ClaimMapViews
import Derived.JoinedTies
import Derived.KernelRfl
namespace Go.Proofs.Ythneidgpgfgecaa
/- THE CELL 'sum', in the pinned program and in every row, IS THE sha256 OF THE DUMP (.gsa) THAT YthneidgpgfgecaaProg.lean LOADS. Nothing in Lean hashes anything: it is a label: what it is worth is what the hold of that sum in a sandbox is worth. -/
noncomputable def Try.pinned : Pinned := { name := "ythneidgpgfgecaa", sum := "9cfe23006c259be2dcf740c3ee8c080e784fb6085e16d841b5191607e6a7980a", checked := Try.checked }
namespace Rows
def none {H : Type} : Left H := { results := [], args := [] }

/-- 'laws.FnExactApplyUpdates': WHATEVER THE INPUT: true; the input reads as it did. -/
def fnExactApplyUpdatesSpec : ChangeSpec := { name := "fnExactApplyUpdates", fn := fun _ => fun
  | [d1, d2] => { results := [.lit (.bool true)], args := [d1, d2] }
  | _ => none }
def fnExactApplyUpdatesRow : OpenClaim := { program := "ythneidgpgfgecaa", sum := "9cfe23006c259be2dcf740c3ee8c080e784fb6085e16d841b5191607e6a7980a", func := "loop.example/g00524/laws.FnExactApplyUpdates", spec := "fnExactApplyUpdates", inPlace := ["slices.overlaps[loop.example/g00524/impl.Row]"], unfollowed := true, recurses := true, apart := false }
def FnExactApplyUpdatesSaid : Prop := fnExactApplyUpdatesRow.holds Try.pinned (OpenSpec.ofChange fnExactApplyUpdatesSpec)

/-- ITS FALSE NEIGHBOUR: 'it returns false'. Refute it at one input. -/
def fnExactApplyUpdatesWrong : ChangeSpec := { name := "fnExactApplyUpdates", fn := fun _ => fun
  | [d1, d2] => { results := [.lit (.bool false)], args := [d1, d2] }
  | _ => none }
def FnExactApplyUpdatesWrongFalsely : Prop := fnExactApplyUpdatesRow.holds Try.pinned (OpenSpec.ofChange fnExactApplyUpdatesWrong)

/-- 'laws.FnExactApplyChanges': WHATEVER THE INPUT: true; the input reads as it did. -/
def fnExactApplyChangesSpec : ChangeSpec := { name := "fnExactApplyChanges", fn := fun _ => fun
  | [d1, d2] => { results := [.lit (.bool true)], args := [d1, d2] }
  | _ => none }
def fnExactApplyChangesRow : OpenClaim := { program := "ythneidgpgfgecaa", sum := "9cfe23006c259be2dcf740c3ee8c080e784fb6085e16d841b5191607e6a7980a", func := "loop.example/g00524/laws.FnExactApplyChanges", spec := "fnExactApplyChanges", inPlace := ["slices.overlaps[loop.example/g00524/impl.Row]"], unfollowed := true, recurses := true, apart := false }
def FnExactApplyChangesSaid : Prop := fnExactApplyChangesRow.holds Try.pinned (OpenSpec.ofChange fnExactApplyChangesSpec)

/-- ITS FALSE NEIGHBOUR: 'it returns false'. Refute it at one input. -/
def fnExactApplyChangesWrong : ChangeSpec := { name := "fnExactApplyChanges", fn := fun _ => fun
  | [d1, d2] => { results := [.lit (.bool false)], args := [d1, d2] }
  | _ => none }
def FnExactApplyChangesWrongFalsely : Prop := fnExactApplyChangesRow.holds Try.pinned (OpenSpec.ofChange fnExactApplyChangesWrong)

/-- 'laws.FnExactUndoChanges': WHATEVER THE INPUT: true; the input reads as it did. -/
def fnExactUndoChangesSpec : ChangeSpec := { name := "fnExactUndoChanges", fn := fun _ => fun
  | [d1, d2] => { results := [.lit (.bool true)], args := [d1, d2] }
  | _ => none }
def fnExactUndoChangesRow : OpenClaim := { program := "ythneidgpgfgecaa", sum := "9cfe23006c259be2dcf740c3ee8c080e784fb6085e16d841b5191607e6a7980a", func := "loop.example/g00524/laws.FnExactUndoChanges", spec := "fnExactUndoChanges", inPlace := ["slices.overlaps[loop.example/g00524/impl.Row]"], unfollowed := true, recurses := true, apart := false }
def FnExactUndoChangesSaid : Prop := fnExactUndoChangesRow.holds Try.pinned (OpenSpec.ofChange fnExactUndoChangesSpec)

/-- ITS FALSE NEIGHBOUR: 'it returns false'. Refute it at one input. -/
def fnExactUndoChangesWrong : ChangeSpec := { name := "fnExactUndoChanges", fn := fun _ => fun
  | [d1, d2] => { results := [.lit (.bool false)], args := [d1, d2] }
  | _ => none }
def FnExactUndoChangesWrongFalsely : Prop := fnExactUndoChangesRow.holds Try.pinned (OpenSpec.ofChange fnExactUndoChangesWrong)

/-- 'laws.FnExactDiffStores': WHATEVER THE INPUT: true; the input reads as it did. -/
def fnExactDiffStoresSpec : ChangeSpec := { name := "fnExactDiffStores", fn := fun _ => fun
  | [d1, d2] => { results := [.lit (.bool true)], args := [d1, d2] }
  | _ => none }
def fnExactDiffStoresRow : OpenClaim := { program := "ythneidgpgfgecaa", sum := "9cfe23006c259be2dcf740c3ee8c080e784fb6085e16d841b5191607e6a7980a", func := "loop.example/g00524/laws.FnExactDiffStores", spec := "fnExactDiffStores", unfollowed := true, recurses := true, apart := false }
def FnExactDiffStoresSaid : Prop := fnExactDiffStoresRow.holds Try.pinned (OpenSpec.ofChange fnExactDiffStoresSpec)

/-- ITS FALSE NEIGHBOUR: 'it returns false'. Refute it at one input. -/
def fnExactDiffStoresWrong : ChangeSpec := { name := "fnExactDiffStores", fn := fun _ => fun
  | [d1, d2] => { results := [.lit (.bool false)], args := [d1, d2] }
  | _ => none }
def FnExactDiffStoresWrongFalsely : Prop := fnExactDiffStoresRow.holds Try.pinned (OpenSpec.ofChange fnExactDiffStoresWrong)

/- THE SECOND FORM. 'bulk': how many values and letters a reading holds, each counted each time it is reached (what is shared counts as often as it is met; a slice's spare places count too). A statement '..UptoSaid' is the law's where the arguments, and the package variables that the reading takes, are together of bulk at most 1048576: NARROWER than '..Said'. Prove '..Said' where nothing that the law and all that it calls make is longer than what came in: it says more and counts as full. Else prove '..UptoSaid'. A law counts once. -/
mutual
def uptoBulk {H : Type} : DataW H → Nat
  | .lit (.string bytes) => bytes.length + 1
  | .lit _ => 1
  | .nil => 1
  | .ptr d => uptoBulk d + 1
  | .slice elems spare => uptoBulkAll elems + uptoBulkAll spare + 1
  | .agg parts => uptoBulkAll parts + 1
  | .iface _ d => uptoBulk d + 1
  | .map entries => uptoBulkEntries entries + 1
  | .held _ => 1
def uptoBulkAll {H : Type} : List (DataW H) → Nat
  | [] => 0
  | d :: r => uptoBulk d + uptoBulkAll r
def uptoBulkEntries {H : Type} : List (Lit × DataW H) → Nat
  | [] => 0
  | x :: r => uptoBulkEntry x + uptoBulkEntries r
def uptoBulkEntry {H : Type} : Lit × DataW H → Nat
  | (.string bytes, d) => bytes.length + uptoBulk d + 1
  | (_, d) => uptoBulk d + 1
 end
def uptoSmall : (H : Type) → List (DataW H) → Bool := fun _ ds => decide (uptoBulkAll ds ≤ 1048576)
def OpenSpec.upto (s : _root_.Go.ChangeSpec) : _root_.Go.OpenSpec := { _root_.Go.OpenSpec.ofChange s with cond := some uptoSmall }

/-- 'laws.FnExactApplyUpdates', WHERE WHAT IT READS IS OF BULK AT MOST 1048576: true; the input reads as it did. -/
def fnExactApplyUpdatesUptoRow : OpenClaim := { program := "ythneidgpgfgecaa", sum := "9cfe23006c259be2dcf740c3ee8c080e784fb6085e16d841b5191607e6a7980a", func := "loop.example/g00524/laws.FnExactApplyUpdates", spec := "fnExactApplyUpdates", inPlace := ["slices.overlaps[loop.example/g00524/impl.Row]"], unfollowed := true, recurses := true, apart := false, narrowed := true }
def FnExactApplyUpdatesUptoSaid : Prop := fnExactApplyUpdatesUptoRow.holds Try.pinned (OpenSpec.upto fnExactApplyUpdatesSpec)

/-- 'laws.FnExactApplyChanges', WHERE WHAT IT READS IS OF BULK AT MOST 1048576: true; the input reads as it did. -/
def fnExactApplyChangesUptoRow : OpenClaim := { program := "ythneidgpgfgecaa", sum := "9cfe23006c259be2dcf740c3ee8c080e784fb6085e16d841b5191607e6a7980a", func := "loop.example/g00524/laws.FnExactApplyChanges", spec := "fnExactApplyChanges", inPlace := ["slices.overlaps[loop.example/g00524/impl.Row]"], unfollowed := true, recurses := true, apart := false, narrowed := true }
def FnExactApplyChangesUptoSaid : Prop := fnExactApplyChangesUptoRow.holds Try.pinned (OpenSpec.upto fnExactApplyChangesSpec)

/-- 'laws.FnExactUndoChanges', WHERE WHAT IT READS IS OF BULK AT MOST 1048576: true; the input reads as it did. -/
def fnExactUndoChangesUptoRow : OpenClaim := { program := "ythneidgpgfgecaa", sum := "9cfe23006c259be2dcf740c3ee8c080e784fb6085e16d841b5191607e6a7980a", func := "loop.example/g00524/laws.FnExactUndoChanges", spec := "fnExactUndoChanges", inPlace := ["slices.overlaps[loop.example/g00524/impl.Row]"], unfollowed := true, recurses := true, apart := false, narrowed := true }
def FnExactUndoChangesUptoSaid : Prop := fnExactUndoChangesUptoRow.holds Try.pinned (OpenSpec.upto fnExactUndoChangesSpec)

/-- 'laws.FnExactDiffStores', WHERE WHAT IT READS IS OF BULK AT MOST 1048576: true; the input reads as it did. -/
def fnExactDiffStoresUptoRow : OpenClaim := { program := "ythneidgpgfgecaa", sum := "9cfe23006c259be2dcf740c3ee8c080e784fb6085e16d841b5191607e6a7980a", func := "loop.example/g00524/laws.FnExactDiffStores", spec := "fnExactDiffStores", unfollowed := true, recurses := true, apart := false, narrowed := true }
def FnExactDiffStoresUptoSaid : Prop := fnExactDiffStoresUptoRow.holds Try.pinned (OpenSpec.upto fnExactDiffStoresSpec)

end Rows
end Go.Proofs.Ythneidgpgfgecaa
