/-
  DERIVED: THE SHELF's CONTRACTS AT THIS DUMP,IN PLAIN WORDS (tools/lay-plain.mjs out of 'SortA.lean',which tools/lay-shelf.mjs wrote): THE SAME DECLARATIONS UNDER THE SAME NAMES: 'import','namespace','open','def','theorem' AND NOTHING ELSE: no command of the shelf's: FOR A HAND-IN. Each laying: the table of numbers ('.._ren') and one theorem,a field a fact of the dump's own or the kernel's comparison; each contract: ONE APPLICATION.
-/
import Derived.Shelf.SlSortCmp.NoneTotal
import Derived.Shelf.SlGeneric
import Derived.Ground.SlsfProg
import Derived.Test.YtldahjcikmpifaaGreatProg
set_option linter.all false
namespace Go.Proofs
open Go.Shelf
def Tryz.sortAtom_ren:Go.Shelf.Ren:=⟨fun | 6 => 352 | 15 => 288 | 14 => 385 | 28 => 344 | 29 => 345 | 20 => 399 | 21 => 400 | 22 => 401 | 23 => 402 | 24 => 403 | 25 => 404 | 26 => 405 | 27 => 406 | 46 => 410 | 47 => 379 | 48 => 380 | 49 => 411 | 50 => 412 | 57 => 413 | n => n,fun | 22 => 92 | 24 => 101 | 25 => 247 | 3 => 3 | 39 => 299 | 0 => 0 | 53 => 345 | 55 => 347 | 4 => 4 | 46 => 338 | 45 => 337 | 50 => 185 | 5 => 5 | 9 => 9 | 66 => 369 | 70 => 244 | 76 => 383 | 77 => 35 | n => n,fun | n => n⟩
theorem Tryz.sortAtom:Go.Proofs.SlLaysF0.n6 Tryz.prog Tryz.sortAtom_ren:={
  mixed:=by kernel_rfl
  f6:=⟨Tryz.f352.name,by decide,Tryz.func352.trans (congrArg some (by kernel_rfl))⟩
  f14:=⟨Tryz.f385.name,by decide,Tryz.func385.trans (congrArg some (by kernel_rfl))⟩
  f15:=Tryz.func288.trans (congrArg some (by kernel_rfl))
  f20:=⟨Tryz.f399.name,by decide,Tryz.func399.trans (congrArg some (by kernel_rfl))⟩
  f21:=⟨Tryz.f400.name,by decide,Tryz.func400.trans (congrArg some (by kernel_rfl))⟩
  f22:=⟨Tryz.f401.name,by decide,Tryz.func401.trans (congrArg some (by kernel_rfl))⟩
  f23:=⟨Tryz.f402.name,by decide,Tryz.func402.trans (congrArg some (by kernel_rfl))⟩
  f24:=⟨Tryz.f403.name,by decide,Tryz.func403.trans (congrArg some (by kernel_rfl))⟩
  f25:=⟨Tryz.f404.name,by decide,Tryz.func404.trans (congrArg some (by kernel_rfl))⟩
  f26:=⟨Tryz.f405.name,by decide,Tryz.func405.trans (congrArg some (by kernel_rfl))⟩
  f27:=⟨Tryz.f406.name,by decide,Tryz.func406.trans (congrArg some (by kernel_rfl))⟩
  f28:=Tryz.func344.trans (congrArg some (by kernel_rfl))
  f29:=Tryz.func345.trans (congrArg some (by kernel_rfl))
  f46:=⟨Tryz.f410.name,by decide,Tryz.func410.trans (congrArg some (by kernel_rfl))⟩
  f47:=Tryz.func379.trans (congrArg some (by kernel_rfl))
  f48:=Tryz.func380.trans (congrArg some (by kernel_rfl))
  f49:=⟨Tryz.f411.name,by decide,Tryz.func411.trans (congrArg some (by kernel_rfl))⟩
  f50:=⟨Tryz.f412.name,by decide,Tryz.func412.trans (congrArg some (by kernel_rfl))⟩
  f57:=⟨Tryz.f413.name,by decide,Tryz.func413.trans (congrArg some (by kernel_rfl))⟩
  t0:=Tryz.underlying0
  a0:=Tryz.isAgg0
  z0:=Tryz.sizeOf0
  v0:=Tryz.zeroValue0
  t3:=Tryz.underlying3
  a3:=Tryz.isAgg3
  z3:=Tryz.sizeOf3
  v3:=Tryz.zeroValue3
  t4:=Tryz.underlying4
  a4:=Tryz.isAgg4
  z4:=Tryz.sizeOf4
  v4:=Tryz.zeroValue4
  t5:=Tryz.underlying5
  a5:=Tryz.isAgg5
  z5:=Tryz.sizeOf5
  v5:=Tryz.zeroValue5
  t9:=Tryz.underlying9
  a9:=Tryz.isAgg9
  z9:=Tryz.sizeOf9
  v9:=Tryz.zeroValue9
  t22:=Tryz.underlying92
  a22:=Tryz.isAgg92
  z22:=Tryz.sizeOf92
  v22:=Tryz.zeroValue92
  t25:=Tryz.underlying247
  a25:=Tryz.isAgg247
  z25:=Tryz.sizeOf247
  v25:=Tryz.zeroValue247
  t39:=Tryz.underlying299
  a39:=Tryz.isAgg299
  z39:=Tryz.sizeOf299
  v39:=Tryz.zeroValue299
  t45:=Tryz.underlying337
  a45:=Tryz.isAgg337
  z45:=Tryz.sizeOf337
  v45:=Tryz.zeroValue337
  t46:=Tryz.underlying338
  a46:=Tryz.isAgg338
  z46:=Tryz.sizeOf338
  v46:=Tryz.zeroValue338
  t50:=Tryz.underlying185
  a50:=Tryz.isAgg185
  z50:=Tryz.sizeOf185
  v50:=Tryz.zeroValue185
  t53:=Tryz.underlying345
  a53:=Tryz.isAgg345
  z53:=Tryz.sizeOf345
  v53:=Tryz.zeroValue345
  t55:=Tryz.underlying347
  a55:=Tryz.isAgg347
  z55:=Tryz.sizeOf347
  v55:=Tryz.zeroValue347
  t66:=Tryz.underlying369
  a66:=Tryz.isAgg369
  z66:=Tryz.sizeOf369
  v66:=Tryz.zeroValue369
  t70:=Tryz.underlying244
  a70:=Tryz.isAgg244
  z70:=Tryz.sizeOf244
  v70:=Tryz.zeroValue244
  t76:=Tryz.underlying383
  a76:=Tryz.isAgg383
  z76:=Tryz.sizeOf383
  v76:=Tryz.zeroValue383
  t77:=Tryz.underlying35
  a77:=Tryz.isAgg35
  z77:=Tryz.sizeOf35
  v77:=Tryz.zeroValue35 }
end Go.Proofs
