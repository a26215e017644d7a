/-
  DERIVED: THE SHELF's CONTRACTS AT THIS DUMP,IN PLAIN WORDS (tools/lay-plain.mjs out of 'SortA.lean',which tools/lay-shelf.mjs wrote): THE SAME DECLARATIONS UNDER THE SAME NAMES: 'import','namespace','open','def','theorem' AND NOTHING ELSE: no command of the shelf's: FOR A HAND-IN. Each laying: the table of numbers ('.._ren') and one theorem,a field a fact of the dump's own or the kernel's comparison; each contract: ONE APPLICATION.
-/
import Derived.Shelf.SlSortCmp.NoneTotal
import Derived.Shelf.SlGeneric
import Derived.Ground.SlsfProg
import Derived.Test.YtgdkfnndbknjpaaProg
set_option linter.all false
namespace Go.Proofs
open Go.Shelf
def Try.sortAtom_ren:Go.Shelf.Ren:=⟨fun | 6 => 53 | 15 => 59 | 14 => 58 | 28 => 72 | 29 => 73 | 20 => 64 | 21 => 65 | 22 => 66 | 23 => 67 | 24 => 68 | 25 => 69 | 26 => 70 | 27 => 71 | 46 => 76 | 47 => 77 | 48 => 78 | 49 => 79 | 50 => 80 | 57 => 82 | n => n,fun | 22 => 27 | 24 => 48 | 25 => 78 | 3 => 3 | 39 => 82 | 0 => 0 | 53 => 95 | 55 => 97 | 4 => 4 | 46 => 89 | 45 => 88 | 50 => 53 | 5 => 5 | 9 => 9 | 66 => 99 | 70 => 61 | 76 => 104 | 77 => 105 | n => n,fun | n => n⟩
theorem Try.sortAtom:Go.Proofs.SlLaysF0.n6 Try.prog Try.sortAtom_ren:={
  mixed:=by kernel_rfl
  f6:=⟨Try.f53.name,by decide,Try.func53.trans (congrArg some (by kernel_rfl))⟩
  f14:=⟨Try.f58.name,by decide,Try.func58.trans (congrArg some (by kernel_rfl))⟩
  f15:=Try.func59.trans (congrArg some (by kernel_rfl))
  f20:=⟨Try.f64.name,by decide,Try.func64.trans (congrArg some (by kernel_rfl))⟩
  f21:=⟨Try.f65.name,by decide,Try.func65.trans (congrArg some (by kernel_rfl))⟩
  f22:=⟨Try.f66.name,by decide,Try.func66.trans (congrArg some (by kernel_rfl))⟩
  f23:=⟨Try.f67.name,by decide,Try.func67.trans (congrArg some (by kernel_rfl))⟩
  f24:=⟨Try.f68.name,by decide,Try.func68.trans (congrArg some (by kernel_rfl))⟩
  f25:=⟨Try.f69.name,by decide,Try.func69.trans (congrArg some (by kernel_rfl))⟩
  f26:=⟨Try.f70.name,by decide,Try.func70.trans (congrArg some (by kernel_rfl))⟩
  f27:=⟨Try.f71.name,by decide,Try.func71.trans (congrArg some (by kernel_rfl))⟩
  f28:=Try.func72.trans (congrArg some (by kernel_rfl))
  f29:=Try.func73.trans (congrArg some (by kernel_rfl))
  f46:=⟨Try.f76.name,by decide,Try.func76.trans (congrArg some (by kernel_rfl))⟩
  f47:=Try.func77.trans (congrArg some (by kernel_rfl))
  f48:=Try.func78.trans (congrArg some (by kernel_rfl))
  f49:=⟨Try.f79.name,by decide,Try.func79.trans (congrArg some (by kernel_rfl))⟩
  f50:=⟨Try.f80.name,by decide,Try.func80.trans (congrArg some (by kernel_rfl))⟩
  f57:=⟨Try.f82.name,by decide,Try.func82.trans (congrArg some (by kernel_rfl))⟩
  t0:=Try.underlying0
  a0:=Try.isAgg0
  z0:=Try.sizeOf0
  v0:=Try.zeroValue0
  t3:=Try.underlying3
  a3:=Try.isAgg3
  z3:=Try.sizeOf3
  v3:=Try.zeroValue3
  t4:=Try.underlying4
  a4:=Try.isAgg4
  z4:=Try.sizeOf4
  v4:=Try.zeroValue4
  t5:=Try.underlying5
  a5:=Try.isAgg5
  z5:=Try.sizeOf5
  v5:=Try.zeroValue5
  t9:=Try.underlying9
  a9:=Try.isAgg9
  z9:=Try.sizeOf9
  v9:=Try.zeroValue9
  t22:=Try.underlying27
  a22:=Try.isAgg27
  z22:=Try.sizeOf27
  v22:=Try.zeroValue27
  t25:=Try.underlying78
  a25:=Try.isAgg78
  z25:=Try.sizeOf78
  v25:=Try.zeroValue78
  t39:=Try.underlying82
  a39:=Try.isAgg82
  z39:=Try.sizeOf82
  v39:=Try.zeroValue82
  t45:=Try.underlying88
  a45:=Try.isAgg88
  z45:=Try.sizeOf88
  v45:=Try.zeroValue88
  t46:=Try.underlying89
  a46:=Try.isAgg89
  z46:=Try.sizeOf89
  v46:=Try.zeroValue89
  t50:=Try.underlying53
  a50:=Try.isAgg53
  z50:=Try.sizeOf53
  v50:=Try.zeroValue53
  t53:=Try.underlying95
  a53:=Try.isAgg95
  z53:=Try.sizeOf95
  v53:=Try.zeroValue95
  t55:=Try.underlying97
  a55:=Try.isAgg97
  z55:=Try.sizeOf97
  v55:=Try.zeroValue97
  t66:=Try.underlying99
  a66:=Try.isAgg99
  z66:=Try.sizeOf99
  v66:=Try.zeroValue99
  t70:=Try.underlying61
  a70:=Try.isAgg61
  z70:=Try.sizeOf61
  v70:=Try.zeroValue61
  t76:=Try.underlying104
  a76:=Try.isAgg104
  z76:=Try.sizeOf104
  v76:=Try.zeroValue104
  t77:=Try.underlying105
  a77:=Try.isAgg105
  z77:=Try.sizeOf105
  v77:=Try.zeroValue105 }
end Go.Proofs
