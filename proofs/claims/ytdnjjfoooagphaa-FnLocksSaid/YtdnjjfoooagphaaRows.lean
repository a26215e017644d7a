/-
  No cell of these rows narrows 'for every input' (looked for: loops, veiled, ifaces, maps, wideKeys, modest, calm, conditions, laid).
  DERIVED. THE GIVEN ROWS OF THIS SEAT. 12 by the template 'for every input the law returns true; each argument reads behind the call as it read before'; 0 by the template 'total and deterministic' (their statements: YtdnjjfoooagphaaTotals.lean).
  GIVEN WITH THE SEED: the statements are not yours to turn. If you find one false, say at which input.
  Laid BY PROGRAM, IN A SANDBOX (cutbox-rows.mjs): the forced cells as the released guide's own fill.sh prints them over the translation e8f9c38b1cea590d… (all of the seat's roots in one cut). By AI agents, Wed Nov 11 2026. No macro, syntax, notation, axiom, sorry.
-/
import Derived.Test.YtdnjjfoooagphaaChecked
import GoSem.Claim
import GoSem.ClaimJoined
import GoSem.ClaimMapViews
import Derived.JoinedTies
import Derived.KernelRfl
namespace Go.Proofs.Ytdnjjfoooagphaa
/- THE CELL 'sum', in the pinned program and in every row, IS THE sha256 OF THE DUMP (.gsa) THAT YtdnjjfoooagphaaProg.lean LOADS. Nothing in Lean hashes anything: it is a label: what it is worth is what the hold of that sum in a sandbox is worth. -/
noncomputable def Try.pinned : Pinned := { name := "ytdnjjfoooagphaa", sum := "e8f9c38b1cea590d909096d23244408ff24087b49b18a588b3b57d2402b0f6da", checked := Try.checked }
namespace Rows
def none {H : Type} : Left H := { results := [], args := [] }

/-- 'laws.FnExactDatumJson': WHATEVER THE INPUT: true; the input reads as it did. -/
def fnExactDatumJsonSpec : ChangeSpec := { name := "fnExactDatumJson", fn := fun _ => fun
  | [d] => { results := [.lit (.bool true)], args := [d] }
  | _ => none }
def fnExactDatumJsonRow : OpenClaim := { program := "ytdnjjfoooagphaa", sum := "e8f9c38b1cea590d909096d23244408ff24087b49b18a588b3b57d2402b0f6da", func := "loop.example/g00524/laws.FnExactDatumJson", spec := "fnExactDatumJson", inPlace := ["internal/bytealg.abigen_runtime_cmpstring"], recurses := true, apart := false }
def FnExactDatumJsonSaid : Prop := fnExactDatumJsonRow.holds Try.pinned (OpenSpec.ofChange fnExactDatumJsonSpec)

/-- ITS FALSE NEIGHBOUR: 'it returns false'. Refute it at one input. -/
def fnExactDatumJsonWrong : ChangeSpec := { name := "fnExactDatumJson", fn := fun _ => fun
  | [d] => { results := [.lit (.bool false)], args := [d] }
  | _ => none }
def FnExactDatumJsonWrongFalsely : Prop := fnExactDatumJsonRow.holds Try.pinned (OpenSpec.ofChange fnExactDatumJsonWrong)

/-- 'laws.FnOneOwner': WHATEVER THE INPUT: true; the input reads as it did. -/
def fnOneOwnerSpec : ChangeSpec := { name := "fnOneOwner", fn := fun _ => fun
  | [d1, d2] => { results := [.lit (.bool true)], args := [d1, d2] }
  | _ => none }
def fnOneOwnerRow : OpenClaim := { program := "ytdnjjfoooagphaa", sum := "e8f9c38b1cea590d909096d23244408ff24087b49b18a588b3b57d2402b0f6da", func := "loop.example/g00524/laws.FnOneOwner", spec := "fnOneOwner", inPlace := ["internal/bytealg.abigen_runtime_cmpstring"], unfollowed := true, recurses := true, apart := false }
def FnOneOwnerSaid : Prop := fnOneOwnerRow.holds Try.pinned (OpenSpec.ofChange fnOneOwnerSpec)

/-- ITS FALSE NEIGHBOUR: 'it returns false'. Refute it at one input. -/
def fnOneOwnerWrong : ChangeSpec := { name := "fnOneOwner", fn := fun _ => fun
  | [d1, d2] => { results := [.lit (.bool false)], args := [d1, d2] }
  | _ => none }
def FnOneOwnerWrongFalsely : Prop := fnOneOwnerRow.holds Try.pinned (OpenSpec.ofChange fnOneOwnerWrong)

/-- 'laws.FnExactLeaveLock': WHATEVER THE INPUT: true; the input reads as it did. -/
def fnExactLeaveLockSpec : ChangeSpec := { name := "fnExactLeaveLock", fn := fun _ => fun
  | [d1, d2, d3] => { results := [.lit (.bool true)], args := [d1, d2, d3] }
  | _ => none }
def fnExactLeaveLockRow : OpenClaim := { program := "ytdnjjfoooagphaa", sum := "e8f9c38b1cea590d909096d23244408ff24087b49b18a588b3b57d2402b0f6da", func := "loop.example/g00524/laws.FnExactLeaveLock", spec := "fnExactLeaveLock", inPlace := ["internal/bytealg.abigen_runtime_cmpstring"], unfollowed := true, recurses := true, apart := false }
def FnExactLeaveLockSaid : Prop := fnExactLeaveLockRow.holds Try.pinned (OpenSpec.ofChange fnExactLeaveLockSpec)

/-- ITS FALSE NEIGHBOUR: 'it returns false'. Refute it at one input. -/
def fnExactLeaveLockWrong : ChangeSpec := { name := "fnExactLeaveLock", fn := fun _ => fun
  | [d1, d2, d3] => { results := [.lit (.bool false)], args := [d1, d2, d3] }
  | _ => none }
def FnExactLeaveLockWrongFalsely : Prop := fnExactLeaveLockRow.holds Try.pinned (OpenSpec.ofChange fnExactLeaveLockWrong)

/-- 'laws.FnExactLeaveAll': WHATEVER THE INPUT: true; the input reads as it did. -/
def fnExactLeaveAllSpec : ChangeSpec := { name := "fnExactLeaveAll", fn := fun _ => fun
  | [d1, d2] => { results := [.lit (.bool true)], args := [d1, d2] }
  | _ => none }
def fnExactLeaveAllRow : OpenClaim := { program := "ytdnjjfoooagphaa", sum := "e8f9c38b1cea590d909096d23244408ff24087b49b18a588b3b57d2402b0f6da", func := "loop.example/g00524/laws.FnExactLeaveAll", spec := "fnExactLeaveAll", inPlace := ["internal/bytealg.abigen_runtime_cmpstring"], unfollowed := true, recurses := true, apart := false }
def FnExactLeaveAllSaid : Prop := fnExactLeaveAllRow.holds Try.pinned (OpenSpec.ofChange fnExactLeaveAllSpec)

/-- ITS FALSE NEIGHBOUR: 'it returns false'. Refute it at one input. -/
def fnExactLeaveAllWrong : ChangeSpec := { name := "fnExactLeaveAll", fn := fun _ => fun
  | [d1, d2] => { results := [.lit (.bool false)], args := [d1, d2] }
  | _ => none }
def FnExactLeaveAllWrongFalsely : Prop := fnExactLeaveAllRow.holds Try.pinned (OpenSpec.ofChange fnExactLeaveAllWrong)

/-- 'laws.FnExactTakeLock': WHATEVER THE INPUT: true; the input reads as it did. -/
def fnExactTakeLockSpec : ChangeSpec := { name := "fnExactTakeLock", fn := fun _ => fun
  | [d1, d2, d3] => { results := [.lit (.bool true)], args := [d1, d2, d3] }
  | _ => none }
def fnExactTakeLockRow : OpenClaim := { program := "ytdnjjfoooagphaa", sum := "e8f9c38b1cea590d909096d23244408ff24087b49b18a588b3b57d2402b0f6da", func := "loop.example/g00524/laws.FnExactTakeLock", spec := "fnExactTakeLock", inPlace := ["internal/bytealg.abigen_runtime_cmpstring", "slices.overlaps[loop.example/g00524/impl.Lock]"], unfollowed := true, recurses := true, apart := false }
def FnExactTakeLockSaid : Prop := fnExactTakeLockRow.holds Try.pinned (OpenSpec.ofChange fnExactTakeLockSpec)

/-- ITS FALSE NEIGHBOUR: 'it returns false'. Refute it at one input. -/
def fnExactTakeLockWrong : ChangeSpec := { name := "fnExactTakeLock", fn := fun _ => fun
  | [d1, d2, d3] => { results := [.lit (.bool false)], args := [d1, d2, d3] }
  | _ => none }
def FnExactTakeLockWrongFalsely : Prop := fnExactTakeLockRow.holds Try.pinned (OpenSpec.ofChange fnExactTakeLockWrong)

/-- 'laws.FnExactStealLock': WHATEVER THE INPUT: true; the input reads as it did. -/
def fnExactStealLockSpec : ChangeSpec := { name := "fnExactStealLock", fn := fun _ => fun
  | [d1, d2, d3] => { results := [.lit (.bool true)], args := [d1, d2, d3] }
  | _ => none }
def fnExactStealLockRow : OpenClaim := { program := "ytdnjjfoooagphaa", sum := "e8f9c38b1cea590d909096d23244408ff24087b49b18a588b3b57d2402b0f6da", func := "loop.example/g00524/laws.FnExactStealLock", spec := "fnExactStealLock", inPlace := ["internal/bytealg.abigen_runtime_cmpstring", "slices.overlaps[loop.example/g00524/impl.Lock]"], unfollowed := true, recurses := true, apart := false }
def FnExactStealLockSaid : Prop := fnExactStealLockRow.holds Try.pinned (OpenSpec.ofChange fnExactStealLockSpec)

/-- ITS FALSE NEIGHBOUR: 'it returns false'. Refute it at one input. -/
def fnExactStealLockWrong : ChangeSpec := { name := "fnExactStealLock", fn := fun _ => fun
  | [d1, d2, d3] => { results := [.lit (.bool false)], args := [d1, d2, d3] }
  | _ => none }
def FnExactStealLockWrongFalsely : Prop := fnExactStealLockRow.holds Try.pinned (OpenSpec.ofChange fnExactStealLockWrong)

/-- 'laws.FnLocks': WHATEVER THE INPUT: true; the input reads as it did. -/
def fnLocksSpec : ChangeSpec := { name := "fnLocks", fn := fun _ => fun
  | [d1, d2] => { results := [.lit (.bool true)], args := [d1, d2] }
  | _ => none }
def fnLocksRow : OpenClaim := { program := "ytdnjjfoooagphaa", sum := "e8f9c38b1cea590d909096d23244408ff24087b49b18a588b3b57d2402b0f6da", func := "loop.example/g00524/laws.FnLocks", spec := "fnLocks", inPlace := ["internal/bytealg.abigen_runtime_cmpstring", "slices.overlaps[loop.example/g00524/impl.Lock]"], unfollowed := true, recurses := true, apart := false }
def FnLocksSaid : Prop := fnLocksRow.holds Try.pinned (OpenSpec.ofChange fnLocksSpec)

/-- ITS FALSE NEIGHBOUR: 'it returns false'. Refute it at one input. -/
def fnLocksWrong : ChangeSpec := { name := "fnLocks", fn := fun _ => fun
  | [d1, d2] => { results := [.lit (.bool false)], args := [d1, d2] }
  | _ => none }
def FnLocksWrongFalsely : Prop := fnLocksRow.holds Try.pinned (OpenSpec.ofChange fnLocksWrong)

/-- 'laws.FnExactApplyUpdates': WHATEVER THE INPUT: true; the input reads as it did. -/
def fnExactApplyUpdatesSpec : ChangeSpec := { name := "fnExactApplyUpdates", fn := fun _ => fun
  | [d1, d2] => { results := [.lit (.bool true)], args := [d1, d2] }
  | _ => none }
def fnExactApplyUpdatesRow : OpenClaim := { program := "ytdnjjfoooagphaa", sum := "e8f9c38b1cea590d909096d23244408ff24087b49b18a588b3b57d2402b0f6da", func := "loop.example/g00524/laws.FnExactApplyUpdates", spec := "fnExactApplyUpdates", inPlace := ["slices.overlaps[loop.example/g00524/impl.Row]"], unfollowed := true, recurses := true, apart := false }
def FnExactApplyUpdatesSaid : Prop := fnExactApplyUpdatesRow.holds Try.pinned (OpenSpec.ofChange fnExactApplyUpdatesSpec)

/-- ITS FALSE NEIGHBOUR: 'it returns false'. Refute it at one input. -/
def fnExactApplyUpdatesWrong : ChangeSpec := { name := "fnExactApplyUpdates", fn := fun _ => fun
  | [d1, d2] => { results := [.lit (.bool false)], args := [d1, d2] }
  | _ => none }
def FnExactApplyUpdatesWrongFalsely : Prop := fnExactApplyUpdatesRow.holds Try.pinned (OpenSpec.ofChange fnExactApplyUpdatesWrong)

/-- 'laws.FnMutate': WHATEVER THE INPUT: true; the input reads as it did. -/
def fnMutateSpec : ChangeSpec := { name := "fnMutate", fn := fun _ => fun
  | [d1, d2] => { results := [.lit (.bool true)], args := [d1, d2] }
  | _ => none }
def fnMutateRow : OpenClaim := { program := "ytdnjjfoooagphaa", sum := "e8f9c38b1cea590d909096d23244408ff24087b49b18a588b3b57d2402b0f6da", func := "loop.example/g00524/laws.FnMutate", spec := "fnMutate", inPlace := ["internal/bytealg.abigen_runtime_cmpstring"], unfollowed := true, recurses := true, apart := false }
def FnMutateSaid : Prop := fnMutateRow.holds Try.pinned (OpenSpec.ofChange fnMutateSpec)

/-- ITS FALSE NEIGHBOUR: 'it returns false'. Refute it at one input. -/
def fnMutateWrong : ChangeSpec := { name := "fnMutate", fn := fun _ => fun
  | [d1, d2] => { results := [.lit (.bool false)], args := [d1, d2] }
  | _ => none }
def FnMutateWrongFalsely : Prop := fnMutateRow.holds Try.pinned (OpenSpec.ofChange fnMutateWrong)

/-- 'laws.FnExactApplyChanges': WHATEVER THE INPUT: true; the input reads as it did. -/
def fnExactApplyChangesSpec : ChangeSpec := { name := "fnExactApplyChanges", fn := fun _ => fun
  | [d1, d2] => { results := [.lit (.bool true)], args := [d1, d2] }
  | _ => none }
def fnExactApplyChangesRow : OpenClaim := { program := "ytdnjjfoooagphaa", sum := "e8f9c38b1cea590d909096d23244408ff24087b49b18a588b3b57d2402b0f6da", func := "loop.example/g00524/laws.FnExactApplyChanges", spec := "fnExactApplyChanges", inPlace := ["slices.overlaps[loop.example/g00524/impl.Row]"], unfollowed := true, recurses := true, apart := false }
def FnExactApplyChangesSaid : Prop := fnExactApplyChangesRow.holds Try.pinned (OpenSpec.ofChange fnExactApplyChangesSpec)

/-- ITS FALSE NEIGHBOUR: 'it returns false'. Refute it at one input. -/
def fnExactApplyChangesWrong : ChangeSpec := { name := "fnExactApplyChanges", fn := fun _ => fun
  | [d1, d2] => { results := [.lit (.bool false)], args := [d1, d2] }
  | _ => none }
def FnExactApplyChangesWrongFalsely : Prop := fnExactApplyChangesRow.holds Try.pinned (OpenSpec.ofChange fnExactApplyChangesWrong)

/-- 'laws.FnExactUndoChanges': WHATEVER THE INPUT: true; the input reads as it did. -/
def fnExactUndoChangesSpec : ChangeSpec := { name := "fnExactUndoChanges", fn := fun _ => fun
  | [d1, d2] => { results := [.lit (.bool true)], args := [d1, d2] }
  | _ => none }
def fnExactUndoChangesRow : OpenClaim := { program := "ytdnjjfoooagphaa", sum := "e8f9c38b1cea590d909096d23244408ff24087b49b18a588b3b57d2402b0f6da", func := "loop.example/g00524/laws.FnExactUndoChanges", spec := "fnExactUndoChanges", inPlace := ["slices.overlaps[loop.example/g00524/impl.Row]"], unfollowed := true, recurses := true, apart := false }
def FnExactUndoChangesSaid : Prop := fnExactUndoChangesRow.holds Try.pinned (OpenSpec.ofChange fnExactUndoChangesSpec)

/-- ITS FALSE NEIGHBOUR: 'it returns false'. Refute it at one input. -/
def fnExactUndoChangesWrong : ChangeSpec := { name := "fnExactUndoChanges", fn := fun _ => fun
  | [d1, d2] => { results := [.lit (.bool false)], args := [d1, d2] }
  | _ => none }
def FnExactUndoChangesWrongFalsely : Prop := fnExactUndoChangesRow.holds Try.pinned (OpenSpec.ofChange fnExactUndoChangesWrong)

/-- 'laws.FnExactDiffStores': WHATEVER THE INPUT: true; the input reads as it did. -/
def fnExactDiffStoresSpec : ChangeSpec := { name := "fnExactDiffStores", fn := fun _ => fun
  | [d1, d2] => { results := [.lit (.bool true)], args := [d1, d2] }
  | _ => none }
def fnExactDiffStoresRow : OpenClaim := { program := "ytdnjjfoooagphaa", sum := "e8f9c38b1cea590d909096d23244408ff24087b49b18a588b3b57d2402b0f6da", func := "loop.example/g00524/laws.FnExactDiffStores", spec := "fnExactDiffStores", unfollowed := true, recurses := true, apart := false }
def FnExactDiffStoresSaid : Prop := fnExactDiffStoresRow.holds Try.pinned (OpenSpec.ofChange fnExactDiffStoresSpec)

/-- ITS FALSE NEIGHBOUR: 'it returns false'. Refute it at one input. -/
def fnExactDiffStoresWrong : ChangeSpec := { name := "fnExactDiffStores", fn := fun _ => fun
  | [d1, d2] => { results := [.lit (.bool false)], args := [d1, d2] }
  | _ => none }
def FnExactDiffStoresWrongFalsely : Prop := fnExactDiffStoresRow.holds Try.pinned (OpenSpec.ofChange fnExactDiffStoresWrong)

/- THE SECOND FORM. 'bulk': how many values and letters a reading holds, each counted each time it is reached (what is shared counts as often as it is met; a slice's spare places count too). A statement '..UptoSaid' is the law's where the arguments, and the package variables that the reading takes, are together of bulk at most 1048576: NARROWER than '..Said'. Prove '..Said' where nothing that the law and all that it calls make is longer than what came in: it says more and counts as full. Else prove '..UptoSaid'. A law counts once. -/
mutual
def uptoBulk {H : Type} : DataW H → Nat
  | .lit (.string bytes) => bytes.length + 1
  | .lit _ => 1
  | .nil => 1
  | .ptr d => uptoBulk d + 1
  | .slice elems spare => uptoBulkAll elems + uptoBulkAll spare + 1
  | .agg parts => uptoBulkAll parts + 1
  | .iface _ d => uptoBulk d + 1
  | .map entries => uptoBulkEntries entries + 1
  | .held _ => 1
def uptoBulkAll {H : Type} : List (DataW H) → Nat
  | [] => 0
  | d :: r => uptoBulk d + uptoBulkAll r
def uptoBulkEntries {H : Type} : List (Lit × DataW H) → Nat
  | [] => 0
  | x :: r => uptoBulkEntry x + uptoBulkEntries r
def uptoBulkEntry {H : Type} : Lit × DataW H → Nat
  | (.string bytes, d) => bytes.length + uptoBulk d + 1
  | (_, d) => uptoBulk d + 1
 end
def uptoSmall : (H : Type) → List (DataW H) → Bool := fun _ ds => decide (uptoBulkAll ds ≤ 1048576)
def OpenSpec.upto (s : _root_.Go.ChangeSpec) : _root_.Go.OpenSpec := { _root_.Go.OpenSpec.ofChange s with cond := some uptoSmall }

/-- 'laws.FnExactDatumJson', WHERE WHAT IT READS IS OF BULK AT MOST 1048576: true; the input reads as it did. -/
def fnExactDatumJsonUptoRow : OpenClaim := { program := "ytdnjjfoooagphaa", sum := "e8f9c38b1cea590d909096d23244408ff24087b49b18a588b3b57d2402b0f6da", func := "loop.example/g00524/laws.FnExactDatumJson", spec := "fnExactDatumJson", inPlace := ["internal/bytealg.abigen_runtime_cmpstring"], recurses := true, apart := false, narrowed := true }
def FnExactDatumJsonUptoSaid : Prop := fnExactDatumJsonUptoRow.holds Try.pinned (OpenSpec.upto fnExactDatumJsonSpec)

/-- 'laws.FnOneOwner', WHERE WHAT IT READS IS OF BULK AT MOST 1048576: true; the input reads as it did. -/
def fnOneOwnerUptoRow : OpenClaim := { program := "ytdnjjfoooagphaa", sum := "e8f9c38b1cea590d909096d23244408ff24087b49b18a588b3b57d2402b0f6da", func := "loop.example/g00524/laws.FnOneOwner", spec := "fnOneOwner", inPlace := ["internal/bytealg.abigen_runtime_cmpstring"], unfollowed := true, recurses := true, apart := false, narrowed := true }
def FnOneOwnerUptoSaid : Prop := fnOneOwnerUptoRow.holds Try.pinned (OpenSpec.upto fnOneOwnerSpec)

/-- 'laws.FnExactLeaveLock', WHERE WHAT IT READS IS OF BULK AT MOST 1048576: true; the input reads as it did. -/
def fnExactLeaveLockUptoRow : OpenClaim := { program := "ytdnjjfoooagphaa", sum := "e8f9c38b1cea590d909096d23244408ff24087b49b18a588b3b57d2402b0f6da", func := "loop.example/g00524/laws.FnExactLeaveLock", spec := "fnExactLeaveLock", inPlace := ["internal/bytealg.abigen_runtime_cmpstring"], unfollowed := true, recurses := true, apart := false, narrowed := true }
def FnExactLeaveLockUptoSaid : Prop := fnExactLeaveLockUptoRow.holds Try.pinned (OpenSpec.upto fnExactLeaveLockSpec)

/-- 'laws.FnExactLeaveAll', WHERE WHAT IT READS IS OF BULK AT MOST 1048576: true; the input reads as it did. -/
def fnExactLeaveAllUptoRow : OpenClaim := { program := "ytdnjjfoooagphaa", sum := "e8f9c38b1cea590d909096d23244408ff24087b49b18a588b3b57d2402b0f6da", func := "loop.example/g00524/laws.FnExactLeaveAll", spec := "fnExactLeaveAll", inPlace := ["internal/bytealg.abigen_runtime_cmpstring"], unfollowed := true, recurses := true, apart := false, narrowed := true }
def FnExactLeaveAllUptoSaid : Prop := fnExactLeaveAllUptoRow.holds Try.pinned (OpenSpec.upto fnExactLeaveAllSpec)

/-- 'laws.FnExactTakeLock', WHERE WHAT IT READS IS OF BULK AT MOST 1048576: true; the input reads as it did. -/
def fnExactTakeLockUptoRow : OpenClaim := { program := "ytdnjjfoooagphaa", sum := "e8f9c38b1cea590d909096d23244408ff24087b49b18a588b3b57d2402b0f6da", func := "loop.example/g00524/laws.FnExactTakeLock", spec := "fnExactTakeLock", inPlace := ["internal/bytealg.abigen_runtime_cmpstring", "slices.overlaps[loop.example/g00524/impl.Lock]"], unfollowed := true, recurses := true, apart := false, narrowed := true }
def FnExactTakeLockUptoSaid : Prop := fnExactTakeLockUptoRow.holds Try.pinned (OpenSpec.upto fnExactTakeLockSpec)

/-- 'laws.FnExactStealLock', WHERE WHAT IT READS IS OF BULK AT MOST 1048576: true; the input reads as it did. -/
def fnExactStealLockUptoRow : OpenClaim := { program := "ytdnjjfoooagphaa", sum := "e8f9c38b1cea590d909096d23244408ff24087b49b18a588b3b57d2402b0f6da", func := "loop.example/g00524/laws.FnExactStealLock", spec := "fnExactStealLock", inPlace := ["internal/bytealg.abigen_runtime_cmpstring", "slices.overlaps[loop.example/g00524/impl.Lock]"], unfollowed := true, recurses := true, apart := false, narrowed := true }
def FnExactStealLockUptoSaid : Prop := fnExactStealLockUptoRow.holds Try.pinned (OpenSpec.upto fnExactStealLockSpec)

/-- 'laws.FnLocks', WHERE WHAT IT READS IS OF BULK AT MOST 1048576: true; the input reads as it did. -/
def fnLocksUptoRow : OpenClaim := { program := "ytdnjjfoooagphaa", sum := "e8f9c38b1cea590d909096d23244408ff24087b49b18a588b3b57d2402b0f6da", func := "loop.example/g00524/laws.FnLocks", spec := "fnLocks", inPlace := ["internal/bytealg.abigen_runtime_cmpstring", "slices.overlaps[loop.example/g00524/impl.Lock]"], unfollowed := true, recurses := true, apart := false, narrowed := true }
def FnLocksUptoSaid : Prop := fnLocksUptoRow.holds Try.pinned (OpenSpec.upto fnLocksSpec)

/-- 'laws.FnExactApplyUpdates', WHERE WHAT IT READS IS OF BULK AT MOST 1048576: true; the input reads as it did. -/
def fnExactApplyUpdatesUptoRow : OpenClaim := { program := "ytdnjjfoooagphaa", sum := "e8f9c38b1cea590d909096d23244408ff24087b49b18a588b3b57d2402b0f6da", func := "loop.example/g00524/laws.FnExactApplyUpdates", spec := "fnExactApplyUpdates", inPlace := ["slices.overlaps[loop.example/g00524/impl.Row]"], unfollowed := true, recurses := true, apart := false, narrowed := true }
def FnExactApplyUpdatesUptoSaid : Prop := fnExactApplyUpdatesUptoRow.holds Try.pinned (OpenSpec.upto fnExactApplyUpdatesSpec)

/-- 'laws.FnMutate', WHERE WHAT IT READS IS OF BULK AT MOST 1048576: true; the input reads as it did. -/
def fnMutateUptoRow : OpenClaim := { program := "ytdnjjfoooagphaa", sum := "e8f9c38b1cea590d909096d23244408ff24087b49b18a588b3b57d2402b0f6da", func := "loop.example/g00524/laws.FnMutate", spec := "fnMutate", inPlace := ["internal/bytealg.abigen_runtime_cmpstring"], unfollowed := true, recurses := true, apart := false, narrowed := true }
def FnMutateUptoSaid : Prop := fnMutateUptoRow.holds Try.pinned (OpenSpec.upto fnMutateSpec)

/-- 'laws.FnExactApplyChanges', WHERE WHAT IT READS IS OF BULK AT MOST 1048576: true; the input reads as it did. -/
def fnExactApplyChangesUptoRow : OpenClaim := { program := "ytdnjjfoooagphaa", sum := "e8f9c38b1cea590d909096d23244408ff24087b49b18a588b3b57d2402b0f6da", func := "loop.example/g00524/laws.FnExactApplyChanges", spec := "fnExactApplyChanges", inPlace := ["slices.overlaps[loop.example/g00524/impl.Row]"], unfollowed := true, recurses := true, apart := false, narrowed := true }
def FnExactApplyChangesUptoSaid : Prop := fnExactApplyChangesUptoRow.holds Try.pinned (OpenSpec.upto fnExactApplyChangesSpec)

/-- 'laws.FnExactUndoChanges', WHERE WHAT IT READS IS OF BULK AT MOST 1048576: true; the input reads as it did. -/
def fnExactUndoChangesUptoRow : OpenClaim := { program := "ytdnjjfoooagphaa", sum := "e8f9c38b1cea590d909096d23244408ff24087b49b18a588b3b57d2402b0f6da", func := "loop.example/g00524/laws.FnExactUndoChanges", spec := "fnExactUndoChanges", inPlace := ["slices.overlaps[loop.example/g00524/impl.Row]"], unfollowed := true, recurses := true, apart := false, narrowed := true }
def FnExactUndoChangesUptoSaid : Prop := fnExactUndoChangesUptoRow.holds Try.pinned (OpenSpec.upto fnExactUndoChangesSpec)

/-- 'laws.FnExactDiffStores', WHERE WHAT IT READS IS OF BULK AT MOST 1048576: true; the input reads as it did. -/
def fnExactDiffStoresUptoRow : OpenClaim := { program := "ytdnjjfoooagphaa", sum := "e8f9c38b1cea590d909096d23244408ff24087b49b18a588b3b57d2402b0f6da", func := "loop.example/g00524/laws.FnExactDiffStores", spec := "fnExactDiffStores", unfollowed := true, recurses := true, apart := false, narrowed := true }
def FnExactDiffStoresUptoSaid : Prop := fnExactDiffStoresUptoRow.holds Try.pinned (OpenSpec.upto fnExactDiffStoresSpec)

end Rows
end Go.Proofs.Ytdnjjfoooagphaa
