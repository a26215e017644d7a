/-
  DERIVED: THE SHELF's CONTRACTS AT THIS DUMP,IN PLAIN WORDS (tools/lay-plain.mjs out of 'SortIA.lean',which tools/lay-shelf.mjs wrote): THE SAME DECLARATIONS UNDER THE SAME NAMES: 'import','namespace','open','def','theorem' AND NOTHING ELSE: no command of the shelf's: FOR A HAND-IN. Each laying: the table of numbers ('.._ren') and one theorem,a field a fact of the dump's own or the kernel's comparison; each contract: ONE APPLICATION.
-/
import Derived.Shelf.Sort.Plain
import Derived.Ground.NamesProg
import Derived.Shelf.Slices.In.SortNone
import Derived.Test.YthneidgpgfgecaaProg
set_option linter.all false
namespace Go.Proofs
open Go.Shelf
def Try.lays189_ren:Go.Shelf.Ren:=⟨fun | 189 => 93 | 125 => 109 | 257 => 108 | 128 => 128 | 129 => 129 | 294 => 119 | 295 => 120 | 296 => 121 | 297 => 122 | 298 => 123 | 299 => 124 | 216 => 125 | 300 => 126 | 301 => 127 | 328 => 132 | 329 => 133 | 330 => 134 | 331 => 135 | 332 => 136 | 215 => 130 | 343 => 138 | n => n,fun | 28 => 118 | 3 => 3 | 46 => 140 | 0 => 0 | 51 => 160 | 53 => 162 | 4 => 4 | 183 => 153 | 182 => 152 | 131 => 131 | 5 => 5 | 9 => 9 | 218 => 164 | 222 => 168 | 228 => 171 | 229 => 172 | n => n,fun | n => n⟩
theorem Try.lays189:Go.Proofs.Lays.n189 Try.prog Try.lays189_ren:={
  mixed:=by kernel_rfl
  f125:=Try.func109.trans (congrArg some (by kernel_rfl))
  f128:=Try.func128.trans (congrArg some (by kernel_rfl))
  f129:=Try.func129.trans (congrArg some (by kernel_rfl))
  f189:=Try.func93.trans (congrArg some (by kernel_rfl))
  f215:=Try.func130.trans (congrArg some (by kernel_rfl))
  f216:=Try.func125.trans (congrArg some (by kernel_rfl))
  f257:=Try.func108.trans (congrArg some (by kernel_rfl))
  f294:=Try.func119.trans (congrArg some (by kernel_rfl))
  f295:=Try.func120.trans (congrArg some (by kernel_rfl))
  f296:=Try.func121.trans (congrArg some (by kernel_rfl))
  f297:=Try.func122.trans (congrArg some (by kernel_rfl))
  f298:=Try.func123.trans (congrArg some (by kernel_rfl))
  f299:=Try.func124.trans (congrArg some (by kernel_rfl))
  f300:=Try.func126.trans (congrArg some (by kernel_rfl))
  f301:=Try.func127.trans (congrArg some (by kernel_rfl))
  f328:=Try.func132.trans (congrArg some (by kernel_rfl))
  f329:=Try.func133.trans (congrArg some (by kernel_rfl))
  f330:=Try.func134.trans (congrArg some (by kernel_rfl))
  f331:=Try.func135.trans (congrArg some (by kernel_rfl))
  f332:=Try.func136.trans (congrArg some (by kernel_rfl))
  f343:=Try.func138.trans (congrArg some (by kernel_rfl))
  t0:=Try.underlying0
  a0:=Try.isAgg0
  z0:=Try.sizeOf0
  v0:=Try.zeroValue0
  t3:=Try.underlying3
  a3:=Try.isAgg3
  z3:=Try.sizeOf3
  v3:=Try.zeroValue3
  t4:=Try.underlying4
  a4:=Try.isAgg4
  z4:=Try.sizeOf4
  v4:=Try.zeroValue4
  t5:=Try.underlying5
  a5:=Try.isAgg5
  z5:=Try.sizeOf5
  v5:=Try.zeroValue5
  t9:=Try.underlying9
  a9:=Try.isAgg9
  z9:=Try.sizeOf9
  v9:=Try.zeroValue9
  t28:=Try.underlying118
  a28:=Try.isAgg118
  z28:=Try.sizeOf118
  v28:=Try.zeroValue118
  t46:=Try.underlying140
  a46:=Try.isAgg140
  z46:=Try.sizeOf140
  v46:=Try.zeroValue140
  t51:=Try.underlying160
  a51:=Try.isAgg160
  z51:=Try.sizeOf160
  v51:=Try.zeroValue160
  t53:=Try.underlying162
  a53:=Try.isAgg162
  z53:=Try.sizeOf162
  v53:=Try.zeroValue162
  t131:=Try.underlying131
  a131:=Try.isAgg131
  z131:=Try.sizeOf131
  v131:=Try.zeroValue131
  t182:=Try.underlying152
  a182:=Try.isAgg152
  z182:=Try.sizeOf152
  v182:=Try.zeroValue152
  t183:=Try.underlying153
  a183:=Try.isAgg153
  z183:=Try.sizeOf153
  v183:=Try.zeroValue153
  t218:=Try.underlying164
  a218:=Try.isAgg164
  z218:=Try.sizeOf164
  v218:=Try.zeroValue164
  t222:=Try.underlying168
  a222:=Try.isAgg168
  z222:=Try.sizeOf168
  v222:=Try.zeroValue168
  t228:=Try.underlying171
  a228:=Try.isAgg171
  z228:=Try.sizeOf171
  v228:=Try.zeroValue171
  t229:=Try.underlying172
  a229:=Try.isAgg172
  z229:=Try.sizeOf172
  v229:=Try.zeroValue172 }
open Go.Sort Go.RowKit in
theorem Try.slices_Sort_int (blk off cap:Nat) (zs:List Int) (w:World) (hH:Holds (Value.int .i64) w blk off zs.toArray) (hblk:blk < w.heap.size) (hsz:zs.length < 4611686018427387904) :
    Calls Try.prog 93 #[.slice (some ⟨blk,off,none⟩) zs.length cap] w fun e w' =>
      e = .returned (.tuple #[]) ∧ ∃ n os,w' = grow (putRow (Value.int .i64) (Sort.ahead w n) blk off (zs.mergeSort fun x y => decide (x ≤ y)).toArray) os:=Any.slices_Sort_int Try.lays189 blk off cap zs w hH hblk hsz
open Go.RowKit Go.Sort in
theorem Try.slices_Sort_int_none (p:Option Addr) (cap:Nat) (w:World) :
    Calls Try.prog 93 #[.slice p 0 cap] w fun e w' => e = .returned (.tuple #[]) ∧ w' = w:=Any.slices_Sort_int_none Try.lays189 p cap w
end Go.Proofs
