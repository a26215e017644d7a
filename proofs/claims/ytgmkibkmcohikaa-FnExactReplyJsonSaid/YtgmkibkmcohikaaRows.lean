/-
  NARROWER THAN 'FOR EVERY INPUT', by the rows' own cells (each row's printed sentence says how): FnExactJsonAtom: loops · FnExactJsonRequest: loops · FnExactReplyJson: loops.
  DERIVED. THE GIVEN ROWS OF THIS SEAT. 12 by the template 'for every input the law returns true; each argument reads behind the call as it read before'; 0 by the template 'total and deterministic' (their statements: YtgmkibkmcohikaaTotals.lean).
  GIVEN WITH THE SEED: the statements are not yours to turn. If you find one false, say at which input.
  Laid BY PROGRAM, IN A SANDBOX (cutbox-rows.mjs): the forced cells as the released guide's own fill.sh prints them over the translation e1de69b019172e6c… (all of the seat's roots in one cut). By AI agents, Wed Nov 11 2026. No macro, syntax, notation, axiom, sorry.
-/
import Derived.Test.YtgmkibkmcohikaaChecked
import GoSem.Claim
import GoSem.ClaimJoined
import GoSem.ClaimMapViews
import Derived.JoinedTies
import Derived.KernelRfl
namespace Go.Proofs.Ytgmkibkmcohikaa
/- THE CELL 'sum', in the pinned program and in every row, IS THE sha256 OF THE DUMP (.gsa) THAT YtgmkibkmcohikaaProg.lean LOADS. Nothing in Lean hashes anything: it is a label: what it is worth is what the hold of that sum in a sandbox is worth. -/
noncomputable def Try.pinned : Pinned := { name := "ytgmkibkmcohikaa", sum := "e1de69b019172e6c847057b49630426443db4af6574f8ceb26773b072803e8bd", checked := Try.checked }
namespace Rows
def none {H : Type} : Left H := { results := [], args := [] }

/-- 'laws.FnExactLocksOK': WHATEVER THE INPUT: true; the input reads as it did. -/
def fnExactLocksOKSpec : ChangeSpec := { name := "fnExactLocksOK", fn := fun _ => fun
  | [d] => { results := [.lit (.bool true)], args := [d] }
  | _ => none }
def fnExactLocksOKRow : OpenClaim := { program := "ytgmkibkmcohikaa", sum := "e1de69b019172e6c847057b49630426443db4af6574f8ceb26773b072803e8bd", func := "loop.example/g00524/laws.FnExactLocksOK", spec := "fnExactLocksOK", apart := false }
def FnExactLocksOKSaid : Prop := fnExactLocksOKRow.holds Try.pinned (OpenSpec.ofChange fnExactLocksOKSpec)

/-- ITS FALSE NEIGHBOUR: 'it returns false'. Refute it at one input. -/
def fnExactLocksOKWrong : ChangeSpec := { name := "fnExactLocksOK", fn := fun _ => fun
  | [d] => { results := [.lit (.bool false)], args := [d] }
  | _ => none }
def FnExactLocksOKWrongFalsely : Prop := fnExactLocksOKRow.holds Try.pinned (OpenSpec.ofChange fnExactLocksOKWrong)

/-- 'laws.FnExactChangeKind': WHATEVER THE INPUT: true; the input reads as it did. -/
def fnExactChangeKindSpec : ChangeSpec := { name := "fnExactChangeKind", fn := fun _ => fun
  | [d] => { results := [.lit (.bool true)], args := [d] }
  | _ => none }
def fnExactChangeKindRow : OpenClaim := { program := "ytgmkibkmcohikaa", sum := "e1de69b019172e6c847057b49630426443db4af6574f8ceb26773b072803e8bd", func := "loop.example/g00524/laws.FnExactChangeKind", spec := "fnExactChangeKind", apart := false }
def FnExactChangeKindSaid : Prop := fnExactChangeKindRow.holds Try.pinned (OpenSpec.ofChange fnExactChangeKindSpec)

/-- ITS FALSE NEIGHBOUR: 'it returns false'. Refute it at one input. -/
def fnExactChangeKindWrong : ChangeSpec := { name := "fnExactChangeKind", fn := fun _ => fun
  | [d] => { results := [.lit (.bool false)], args := [d] }
  | _ => none }
def FnExactChangeKindWrongFalsely : Prop := fnExactChangeKindRow.holds Try.pinned (OpenSpec.ofChange fnExactChangeKindWrong)

/-- 'laws.FnExactSameRows': WHATEVER THE INPUT: true; the input reads as it did. -/
def fnExactSameRowsSpec : ChangeSpec := { name := "fnExactSameRows", fn := fun _ => fun
  | [d1, d2] => { results := [.lit (.bool true)], args := [d1, d2] }
  | _ => none }
def fnExactSameRowsRow : OpenClaim := { program := "ytgmkibkmcohikaa", sum := "e1de69b019172e6c847057b49630426443db4af6574f8ceb26773b072803e8bd", func := "loop.example/g00524/laws.FnExactSameRows", spec := "fnExactSameRows", unfollowed := true, recurses := true, apart := false }
def FnExactSameRowsSaid : Prop := fnExactSameRowsRow.holds Try.pinned (OpenSpec.ofChange fnExactSameRowsSpec)

/-- ITS FALSE NEIGHBOUR: 'it returns false'. Refute it at one input. -/
def fnExactSameRowsWrong : ChangeSpec := { name := "fnExactSameRows", fn := fun _ => fun
  | [d1, d2] => { results := [.lit (.bool false)], args := [d1, d2] }
  | _ => none }
def FnExactSameRowsWrongFalsely : Prop := fnExactSameRowsRow.holds Try.pinned (OpenSpec.ofChange fnExactSameRowsWrong)

/-- 'laws.FnFields': WHATEVER THE INPUT: true; the input reads as it did. -/
def fnFieldsSpec : ChangeSpec := { name := "fnFields", fn := fun _ => fun
  | [d1, d2] => { results := [.lit (.bool true)], args := [d1, d2] }
  | _ => none }
def fnFieldsRow : OpenClaim := { program := "ytgmkibkmcohikaa", sum := "e1de69b019172e6c847057b49630426443db4af6574f8ceb26773b072803e8bd", func := "loop.example/g00524/laws.FnFields", spec := "fnFields", unfollowed := true, recurses := true, apart := false }
def FnFieldsSaid : Prop := fnFieldsRow.holds Try.pinned (OpenSpec.ofChange fnFieldsSpec)

/-- ITS FALSE NEIGHBOUR: 'it returns false'. Refute it at one input. -/
def fnFieldsWrong : ChangeSpec := { name := "fnFields", fn := fun _ => fun
  | [d1, d2] => { results := [.lit (.bool false)], args := [d1, d2] }
  | _ => none }
def FnFieldsWrongFalsely : Prop := fnFieldsRow.holds Try.pinned (OpenSpec.ofChange fnFieldsWrong)

/-- 'laws.FnExactAtomJson': WHATEVER THE INPUT: true; the input reads as it did. -/
def fnExactAtomJsonSpec : ChangeSpec := { name := "fnExactAtomJson", fn := fun _ => fun
  | [d] => { results := [.lit (.bool true)], args := [d] }
  | _ => none }
def fnExactAtomJsonRow : OpenClaim := { program := "ytgmkibkmcohikaa", sum := "e1de69b019172e6c847057b49630426443db4af6574f8ceb26773b072803e8bd", func := "loop.example/g00524/laws.FnExactAtomJson", spec := "fnExactAtomJson", recurses := true, apart := false }
def FnExactAtomJsonSaid : Prop := fnExactAtomJsonRow.holds Try.pinned (OpenSpec.ofChange fnExactAtomJsonSpec)

/-- ITS FALSE NEIGHBOUR: 'it returns false'. Refute it at one input. -/
def fnExactAtomJsonWrong : ChangeSpec := { name := "fnExactAtomJson", fn := fun _ => fun
  | [d] => { results := [.lit (.bool false)], args := [d] }
  | _ => none }
def FnExactAtomJsonWrongFalsely : Prop := fnExactAtomJsonRow.holds Try.pinned (OpenSpec.ofChange fnExactAtomJsonWrong)

/-- 'laws.FnExactOwnedBy': WHATEVER THE INPUT: true; the input reads as it did. -/
def fnExactOwnedBySpec : ChangeSpec := { name := "fnExactOwnedBy", fn := fun _ => fun
  | [d1, d2] => { results := [.lit (.bool true)], args := [d1, d2] }
  | _ => none }
def fnExactOwnedByRow : OpenClaim := { program := "ytgmkibkmcohikaa", sum := "e1de69b019172e6c847057b49630426443db4af6574f8ceb26773b072803e8bd", func := "loop.example/g00524/laws.FnExactOwnedBy", spec := "fnExactOwnedBy", apart := false }
def FnExactOwnedBySaid : Prop := fnExactOwnedByRow.holds Try.pinned (OpenSpec.ofChange fnExactOwnedBySpec)

/-- ITS FALSE NEIGHBOUR: 'it returns false'. Refute it at one input. -/
def fnExactOwnedByWrong : ChangeSpec := { name := "fnExactOwnedBy", fn := fun _ => fun
  | [d1, d2] => { results := [.lit (.bool false)], args := [d1, d2] }
  | _ => none }
def FnExactOwnedByWrongFalsely : Prop := fnExactOwnedByRow.holds Try.pinned (OpenSpec.ofChange fnExactOwnedByWrong)

/-- 'laws.FnExactJsonAtom': WHATEVER THE INPUT: true; the input reads as it did. -/
def fnExactJsonAtomSpec : ChangeSpec := { name := "fnExactJsonAtom", fn := fun _ => fun
  | [d] => { results := [.lit (.bool true)], args := [d] }
  | _ => none }
def fnExactJsonAtomRow : OpenClaim := { program := "ytgmkibkmcohikaa", sum := "e1de69b019172e6c847057b49630426443db4af6574f8ceb26773b072803e8bd", func := "loop.example/g00524/laws.FnExactJsonAtom", spec := "fnExactJsonAtom", unfollowed := true, recurses := true, loops := true, apart := false }
def FnExactJsonAtomSaid : Prop := fnExactJsonAtomRow.holds Try.pinned (OpenSpec.ofChange fnExactJsonAtomSpec)

/-- ITS FALSE NEIGHBOUR: 'it returns false'. Refute it at one input. -/
def fnExactJsonAtomWrong : ChangeSpec := { name := "fnExactJsonAtom", fn := fun _ => fun
  | [d] => { results := [.lit (.bool false)], args := [d] }
  | _ => none }
def FnExactJsonAtomWrongFalsely : Prop := fnExactJsonAtomRow.holds Try.pinned (OpenSpec.ofChange fnExactJsonAtomWrong)

/-- 'laws.FnFits': WHATEVER THE INPUT: true; the input reads as it did. -/
def fnFitsSpec : ChangeSpec := { name := "fnFits", fn := fun _ => fun
  | [d1, d2] => { results := [.lit (.bool true)], args := [d1, d2] }
  | _ => none }
def fnFitsRow : OpenClaim := { program := "ytgmkibkmcohikaa", sum := "e1de69b019172e6c847057b49630426443db4af6574f8ceb26773b072803e8bd", func := "loop.example/g00524/laws.FnFits", spec := "fnFits", inPlace := ["internal/bytealg.abigen_runtime_cmpstring"], unfollowed := true, recurses := true, apart := false }
def FnFitsSaid : Prop := fnFitsRow.holds Try.pinned (OpenSpec.ofChange fnFitsSpec)

/-- ITS FALSE NEIGHBOUR: 'it returns false'. Refute it at one input. -/
def fnFitsWrong : ChangeSpec := { name := "fnFits", fn := fun _ => fun
  | [d1, d2] => { results := [.lit (.bool false)], args := [d1, d2] }
  | _ => none }
def FnFitsWrongFalsely : Prop := fnFitsRow.holds Try.pinned (OpenSpec.ofChange fnFitsWrong)

/-- 'laws.FnExactJsonRequest': WHATEVER THE INPUT: true; the input reads as it did. -/
def fnExactJsonRequestSpec : ChangeSpec := { name := "fnExactJsonRequest", fn := fun _ => fun
  | [d] => { results := [.lit (.bool true)], args := [d] }
  | _ => none }
def fnExactJsonRequestRow : OpenClaim := { program := "ytgmkibkmcohikaa", sum := "e1de69b019172e6c847057b49630426443db4af6574f8ceb26773b072803e8bd", func := "loop.example/g00524/laws.FnExactJsonRequest", spec := "fnExactJsonRequest", unfollowed := true, recurses := true, loops := true, apart := false }
def FnExactJsonRequestSaid : Prop := fnExactJsonRequestRow.holds Try.pinned (OpenSpec.ofChange fnExactJsonRequestSpec)

/-- ITS FALSE NEIGHBOUR: 'it returns false'. Refute it at one input. -/
def fnExactJsonRequestWrong : ChangeSpec := { name := "fnExactJsonRequest", fn := fun _ => fun
  | [d] => { results := [.lit (.bool false)], args := [d] }
  | _ => none }
def FnExactJsonRequestWrongFalsely : Prop := fnExactJsonRequestRow.holds Try.pinned (OpenSpec.ofChange fnExactJsonRequestWrong)

/-- 'laws.FnExactReplyJson': WHATEVER THE INPUT: true; the input reads as it did. -/
def fnExactReplyJsonSpec : ChangeSpec := { name := "fnExactReplyJson", fn := fun _ => fun
  | [d1, d2, d3] => { results := [.lit (.bool true)], args := [d1, d2, d3] }
  | _ => none }
def fnExactReplyJsonRow : OpenClaim := { program := "ytgmkibkmcohikaa", sum := "e1de69b019172e6c847057b49630426443db4af6574f8ceb26773b072803e8bd", func := "loop.example/g00524/laws.FnExactReplyJson", spec := "fnExactReplyJson", unfollowed := true, recurses := true, loops := true, apart := false }
def FnExactReplyJsonSaid : Prop := fnExactReplyJsonRow.holds Try.pinned (OpenSpec.ofChange fnExactReplyJsonSpec)

/-- ITS FALSE NEIGHBOUR: 'it returns false'. Refute it at one input. -/
def fnExactReplyJsonWrong : ChangeSpec := { name := "fnExactReplyJson", fn := fun _ => fun
  | [d1, d2, d3] => { results := [.lit (.bool false)], args := [d1, d2, d3] }
  | _ => none }
def FnExactReplyJsonWrongFalsely : Prop := fnExactReplyJsonRow.holds Try.pinned (OpenSpec.ofChange fnExactReplyJsonWrong)

/-- 'laws.FnExactDatumJson': WHATEVER THE INPUT: true; the input reads as it did. -/
def fnExactDatumJsonSpec : ChangeSpec := { name := "fnExactDatumJson", fn := fun _ => fun
  | [d] => { results := [.lit (.bool true)], args := [d] }
  | _ => none }
def fnExactDatumJsonRow : OpenClaim := { program := "ytgmkibkmcohikaa", sum := "e1de69b019172e6c847057b49630426443db4af6574f8ceb26773b072803e8bd", func := "loop.example/g00524/laws.FnExactDatumJson", spec := "fnExactDatumJson", inPlace := ["internal/bytealg.abigen_runtime_cmpstring"], recurses := true, apart := false }
def FnExactDatumJsonSaid : Prop := fnExactDatumJsonRow.holds Try.pinned (OpenSpec.ofChange fnExactDatumJsonSpec)

/-- ITS FALSE NEIGHBOUR: 'it returns false'. Refute it at one input. -/
def fnExactDatumJsonWrong : ChangeSpec := { name := "fnExactDatumJson", fn := fun _ => fun
  | [d] => { results := [.lit (.bool false)], args := [d] }
  | _ => none }
def FnExactDatumJsonWrongFalsely : Prop := fnExactDatumJsonRow.holds Try.pinned (OpenSpec.ofChange fnExactDatumJsonWrong)

/-- 'laws.FnOneOwner': WHATEVER THE INPUT: true; the input reads as it did. -/
def fnOneOwnerSpec : ChangeSpec := { name := "fnOneOwner", fn := fun _ => fun
  | [d1, d2] => { results := [.lit (.bool true)], args := [d1, d2] }
  | _ => none }
def fnOneOwnerRow : OpenClaim := { program := "ytgmkibkmcohikaa", sum := "e1de69b019172e6c847057b49630426443db4af6574f8ceb26773b072803e8bd", func := "loop.example/g00524/laws.FnOneOwner", spec := "fnOneOwner", inPlace := ["internal/bytealg.abigen_runtime_cmpstring"], unfollowed := true, recurses := true, apart := false }
def FnOneOwnerSaid : Prop := fnOneOwnerRow.holds Try.pinned (OpenSpec.ofChange fnOneOwnerSpec)

/-- ITS FALSE NEIGHBOUR: 'it returns false'. Refute it at one input. -/
def fnOneOwnerWrong : ChangeSpec := { name := "fnOneOwner", fn := fun _ => fun
  | [d1, d2] => { results := [.lit (.bool false)], args := [d1, d2] }
  | _ => none }
def FnOneOwnerWrongFalsely : Prop := fnOneOwnerRow.holds Try.pinned (OpenSpec.ofChange fnOneOwnerWrong)

/- THE SECOND FORM. 'bulk': how many values and letters a reading holds, each counted each time it is reached (what is shared counts as often as it is met; a slice's spare places count too). A statement '..UptoSaid' is the law's where the arguments, and the package variables that the reading takes, are together of bulk at most 1048576: NARROWER than '..Said'. Prove '..Said' where nothing that the law and all that it calls make is longer than what came in: it says more and counts as full. Else prove '..UptoSaid'. A law counts once. -/
mutual
def uptoBulk {H : Type} : DataW H → Nat
  | .lit (.string bytes) => bytes.length + 1
  | .lit _ => 1
  | .nil => 1
  | .ptr d => uptoBulk d + 1
  | .slice elems spare => uptoBulkAll elems + uptoBulkAll spare + 1
  | .agg parts => uptoBulkAll parts + 1
  | .iface _ d => uptoBulk d + 1
  | .map entries => uptoBulkEntries entries + 1
  | .held _ => 1
def uptoBulkAll {H : Type} : List (DataW H) → Nat
  | [] => 0
  | d :: r => uptoBulk d + uptoBulkAll r
def uptoBulkEntries {H : Type} : List (Lit × DataW H) → Nat
  | [] => 0
  | x :: r => uptoBulkEntry x + uptoBulkEntries r
def uptoBulkEntry {H : Type} : Lit × DataW H → Nat
  | (.string bytes, d) => bytes.length + uptoBulk d + 1
  | (_, d) => uptoBulk d + 1
 end
def uptoSmall : (H : Type) → List (DataW H) → Bool := fun _ ds => decide (uptoBulkAll ds ≤ 1048576)
def OpenSpec.upto (s : _root_.Go.ChangeSpec) : _root_.Go.OpenSpec := { _root_.Go.OpenSpec.ofChange s with cond := some uptoSmall }

/-- 'laws.FnExactLocksOK', WHERE WHAT IT READS IS OF BULK AT MOST 1048576: true; the input reads as it did. -/
def fnExactLocksOKUptoRow : OpenClaim := { program := "ytgmkibkmcohikaa", sum := "e1de69b019172e6c847057b49630426443db4af6574f8ceb26773b072803e8bd", func := "loop.example/g00524/laws.FnExactLocksOK", spec := "fnExactLocksOK", apart := false, narrowed := true }
def FnExactLocksOKUptoSaid : Prop := fnExactLocksOKUptoRow.holds Try.pinned (OpenSpec.upto fnExactLocksOKSpec)

/-- 'laws.FnExactChangeKind', WHERE WHAT IT READS IS OF BULK AT MOST 1048576: true; the input reads as it did. -/
def fnExactChangeKindUptoRow : OpenClaim := { program := "ytgmkibkmcohikaa", sum := "e1de69b019172e6c847057b49630426443db4af6574f8ceb26773b072803e8bd", func := "loop.example/g00524/laws.FnExactChangeKind", spec := "fnExactChangeKind", apart := false, narrowed := true }
def FnExactChangeKindUptoSaid : Prop := fnExactChangeKindUptoRow.holds Try.pinned (OpenSpec.upto fnExactChangeKindSpec)

/-- 'laws.FnExactSameRows', WHERE WHAT IT READS IS OF BULK AT MOST 1048576: true; the input reads as it did. -/
def fnExactSameRowsUptoRow : OpenClaim := { program := "ytgmkibkmcohikaa", sum := "e1de69b019172e6c847057b49630426443db4af6574f8ceb26773b072803e8bd", func := "loop.example/g00524/laws.FnExactSameRows", spec := "fnExactSameRows", unfollowed := true, recurses := true, apart := false, narrowed := true }
def FnExactSameRowsUptoSaid : Prop := fnExactSameRowsUptoRow.holds Try.pinned (OpenSpec.upto fnExactSameRowsSpec)

/-- 'laws.FnFields', WHERE WHAT IT READS IS OF BULK AT MOST 1048576: true; the input reads as it did. -/
def fnFieldsUptoRow : OpenClaim := { program := "ytgmkibkmcohikaa", sum := "e1de69b019172e6c847057b49630426443db4af6574f8ceb26773b072803e8bd", func := "loop.example/g00524/laws.FnFields", spec := "fnFields", unfollowed := true, recurses := true, apart := false, narrowed := true }
def FnFieldsUptoSaid : Prop := fnFieldsUptoRow.holds Try.pinned (OpenSpec.upto fnFieldsSpec)

/-- 'laws.FnExactAtomJson', WHERE WHAT IT READS IS OF BULK AT MOST 1048576: true; the input reads as it did. -/
def fnExactAtomJsonUptoRow : OpenClaim := { program := "ytgmkibkmcohikaa", sum := "e1de69b019172e6c847057b49630426443db4af6574f8ceb26773b072803e8bd", func := "loop.example/g00524/laws.FnExactAtomJson", spec := "fnExactAtomJson", recurses := true, apart := false, narrowed := true }
def FnExactAtomJsonUptoSaid : Prop := fnExactAtomJsonUptoRow.holds Try.pinned (OpenSpec.upto fnExactAtomJsonSpec)

/-- 'laws.FnExactOwnedBy', WHERE WHAT IT READS IS OF BULK AT MOST 1048576: true; the input reads as it did. -/
def fnExactOwnedByUptoRow : OpenClaim := { program := "ytgmkibkmcohikaa", sum := "e1de69b019172e6c847057b49630426443db4af6574f8ceb26773b072803e8bd", func := "loop.example/g00524/laws.FnExactOwnedBy", spec := "fnExactOwnedBy", apart := false, narrowed := true }
def FnExactOwnedByUptoSaid : Prop := fnExactOwnedByUptoRow.holds Try.pinned (OpenSpec.upto fnExactOwnedBySpec)

/-- 'laws.FnExactJsonAtom', WHERE WHAT IT READS IS OF BULK AT MOST 1048576: true; the input reads as it did. -/
def fnExactJsonAtomUptoRow : OpenClaim := { program := "ytgmkibkmcohikaa", sum := "e1de69b019172e6c847057b49630426443db4af6574f8ceb26773b072803e8bd", func := "loop.example/g00524/laws.FnExactJsonAtom", spec := "fnExactJsonAtom", unfollowed := true, recurses := true, loops := true, apart := false, narrowed := true }
def FnExactJsonAtomUptoSaid : Prop := fnExactJsonAtomUptoRow.holds Try.pinned (OpenSpec.upto fnExactJsonAtomSpec)

/-- 'laws.FnFits', WHERE WHAT IT READS IS OF BULK AT MOST 1048576: true; the input reads as it did. -/
def fnFitsUptoRow : OpenClaim := { program := "ytgmkibkmcohikaa", sum := "e1de69b019172e6c847057b49630426443db4af6574f8ceb26773b072803e8bd", func := "loop.example/g00524/laws.FnFits", spec := "fnFits", inPlace := ["internal/bytealg.abigen_runtime_cmpstring"], unfollowed := true, recurses := true, apart := false, narrowed := true }
def FnFitsUptoSaid : Prop := fnFitsUptoRow.holds Try.pinned (OpenSpec.upto fnFitsSpec)

/-- 'laws.FnExactJsonRequest', WHERE WHAT IT READS IS OF BULK AT MOST 1048576: true; the input reads as it did. -/
def fnExactJsonRequestUptoRow : OpenClaim := { program := "ytgmkibkmcohikaa", sum := "e1de69b019172e6c847057b49630426443db4af6574f8ceb26773b072803e8bd", func := "loop.example/g00524/laws.FnExactJsonRequest", spec := "fnExactJsonRequest", unfollowed := true, recurses := true, loops := true, apart := false, narrowed := true }
def FnExactJsonRequestUptoSaid : Prop := fnExactJsonRequestUptoRow.holds Try.pinned (OpenSpec.upto fnExactJsonRequestSpec)

/-- 'laws.FnExactReplyJson', WHERE WHAT IT READS IS OF BULK AT MOST 1048576: true; the input reads as it did. -/
def fnExactReplyJsonUptoRow : OpenClaim := { program := "ytgmkibkmcohikaa", sum := "e1de69b019172e6c847057b49630426443db4af6574f8ceb26773b072803e8bd", func := "loop.example/g00524/laws.FnExactReplyJson", spec := "fnExactReplyJson", unfollowed := true, recurses := true, loops := true, apart := false, narrowed := true }
def FnExactReplyJsonUptoSaid : Prop := fnExactReplyJsonUptoRow.holds Try.pinned (OpenSpec.upto fnExactReplyJsonSpec)

/-- 'laws.FnExactDatumJson', WHERE WHAT IT READS IS OF BULK AT MOST 1048576: true; the input reads as it did. -/
def fnExactDatumJsonUptoRow : OpenClaim := { program := "ytgmkibkmcohikaa", sum := "e1de69b019172e6c847057b49630426443db4af6574f8ceb26773b072803e8bd", func := "loop.example/g00524/laws.FnExactDatumJson", spec := "fnExactDatumJson", inPlace := ["internal/bytealg.abigen_runtime_cmpstring"], recurses := true, apart := false, narrowed := true }
def FnExactDatumJsonUptoSaid : Prop := fnExactDatumJsonUptoRow.holds Try.pinned (OpenSpec.upto fnExactDatumJsonSpec)

/-- 'laws.FnOneOwner', WHERE WHAT IT READS IS OF BULK AT MOST 1048576: true; the input reads as it did. -/
def fnOneOwnerUptoRow : OpenClaim := { program := "ytgmkibkmcohikaa", sum := "e1de69b019172e6c847057b49630426443db4af6574f8ceb26773b072803e8bd", func := "loop.example/g00524/laws.FnOneOwner", spec := "fnOneOwner", inPlace := ["internal/bytealg.abigen_runtime_cmpstring"], unfollowed := true, recurses := true, apart := false, narrowed := true }
def FnOneOwnerUptoSaid : Prop := fnOneOwnerUptoRow.holds Try.pinned (OpenSpec.upto fnOneOwnerSpec)

end Rows
end Go.Proofs.Ytgmkibkmcohikaa
