/- Part of the proof. -/
import Derived.Test.YtldahjcikmpifaaGreatS9

section
set_option linter.all false
namespace Go.R
open Go Go.Proofs
set_option maxRecDepth 100000
set_option maxHeartbeats 8000000
instance w_impl_Table_columnAt_1 (B:y7) (A:Str) (r:Bool):Wk Tryz.prog (a5i B A = some r) 279 [(a0n B),(.iptr (.str A) 0)] (.bool r):=⟨fun hf => by
 unfold a5i at hf;refine coA [] [] Tryz.func279 ?_;exact Z⟩
instance c_impl_Table_columnAt_1 (A:Str):K1 Tryz.prog (fun a0 => a5i a0 A) (fun a0 => (a0n a0)) (fun r => (.bool r)) 279 [(.iptr (.str A) 0)]:={hp:=fun a0 r h => w_impl_Table_columnAt_1 a0 A r h}
instance w_slices_IndexFunc_impl_Table_impl_Table (A:(List o6)) (B:(o6 → Option Bool)) (r:Int) {k:Nat} {cs:List AV} [kf:K1 Tryz.prog B (fun a0 => (a0c a0)) (fun r => (.bool r)) k cs]:Wk Tryz.prog (a0y A B = some r) 267 [(.lst 4 (A.map a0c)),(.fn k cs)] (.int .i64 r):=⟨fun hf => by
 unfold a0y at hf;refine coA [5,25] [zI0 [0,1,7] fun i => (fun _ _ _ _ _ => ([(8,(.int .i64 (i:Int)))],none)),fZ [] fun v:Unit => (fun _ _ _ _ _ => ([],none))] Tryz.func267 ?_;exact Z⟩
instance w_impl_Schema_tableAt_1 (B:o6) (A:Str) (r:Bool):Wk Tryz.prog (a5j B A = some r) 269 [(a0c B),(.iptr (.str A) 0)] (.bool r):=⟨fun hf => by
 unfold a5j at hf;refine coA [] [] Tryz.func269 ?_;exact Z⟩
instance c_impl_Schema_tableAt_1 (A:Str):K1 Tryz.prog (fun a0 => a5j a0 A) (fun a0 => (a0c a0)) (fun r => (.bool r)) 269 [(.iptr (.str A) 0)]:={hp:=fun a0 r h => w_impl_Schema_tableAt_1 a0 A r h}
instance w_impl_areRising (A:(List o8)) (r:Bool):Wk Tryz.prog (b2l A = some r) 172 [(.lst 2 (A.map y8))] (.bool r):=⟨fun hf => by
 unfold b2l at hf;refine coA [5,23] [f0u [0] fun i => (fun _ _ _ _ _ => ([(3,(.int .i64 (i:Int)))],none)),fZ [] fun v:Unit => (fun _ _ _ _ _ => ([],none))] Tryz.func172 ?_;exact Z⟩
instance w_impl_isPlain (A:Str) (r:Bool):Wk Tryz.prog (b4u A = some r) 234 [(.str A)] (.bool r):=⟨fun hf => by
 unfold b4u at hf;refine coA [5,19,25] [zN0 [0,5] fun i => (fun _ _ _ _ _ => ([(6,(.int .i64 (i:Int)))],none)),cZ [0,5,6] fun v:Bool => (fun _ _ _ _ _ => ([(18,(.bool v))],none)),fZ [0] fun v:Unit => (fun _ _ _ _ _ => ([],none))] Tryz.func234 ?_;exact Z⟩
instance w_cmp_isNaN_int (A:Int) (r:Bool):Wk Tryz.prog (cmp_isNaN_int A = some r) 311 [(.int .i64 A)] (.bool r):=⟨fun hf => by
 unfold cmp_isNaN_int at hf;refine coA [] [] Tryz.func311 ?_;exact Z⟩
instance w_cmp_Or_int (A:(List Int)) (r:Int):Wk Tryz.prog (b8u A = some r) 304 [(.lst 1 (A.map encI))] (.int .i64 r):=⟨fun hf => by
 unfold b8u at hf;refine coA [7,27] [zN0 [3,6,7] fun i => (fun _ _ _ _ _ => ([(8,(.int .i64 (i:Int)))],none)),fZ [3] fun v:Unit => (fun _ _ _ _ _ => ([],none))] Tryz.func304 ?_;exact Z⟩
end Go.R
end
