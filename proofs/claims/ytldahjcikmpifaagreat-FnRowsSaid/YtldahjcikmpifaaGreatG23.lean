/- Part of the proof. -/
import Derived.Test.YtldahjcikmpifaaGreatG15
import Derived.Test.YtldahjcikmpifaaGreatG16

section
set_option linter.all false
namespace Go.R
open Go Go.Proofs
set_option maxRecDepth 100000
set_option maxHeartbeats 8000000
instance w_slices_ContainsFunc_impl_Row_impl_RowS (A:(List (List o5))) (B:((List o5) → Option Bool)) (r:Bool) {k:Nat} {cs:List AV} [kf:K1 Tryz.prog B (fun a0 => (.lst 2 (a0.map o6))) (fun r => (.bool r)) k cs]:Wk Tryz.prog (a1p A B = some r) 240 [(.lst 1 (A.map (a1f 2 o6))),(.fn k cs)] (.bool r):=⟨fun hf => by
 unfold a1p at hf;refine coA [] [] Tryz.func240 ?_;exact Z⟩
instance w_impl_Store_tableCode_1 (A:(List o5)) (r:Bool):Wk Tryz.prog (a3m A = some r) 241 [(.lst 2 (A.map o6))] (.bool r):=⟨fun hf => by
 unfold a3m at hf;refine coA [] [] Tryz.func241 ?_;exact Z⟩
instance c_impl_Store_tableCode_1 :K1 Tryz.prog a3m (fun a0 => (.lst 2 (a0.map o6))) (fun r => (.bool r)) 241 []:={hp:=fun a0 r h => w_impl_Store_tableCode_1 a0 r h}
instance w_impl_copyRow (A:o5) (r:o5):Wf Tryz.prog (a9a A = some r) 145 [(o6 A)] (o6 r):=⟨fun hf => by
 unfold a9a at hf;refine coA [7,21] [zN1 [1,2,8,9] fun i (v:(List (List o7))) => (fun g w c o m => ([(3,(.own 2 0 v.length)),(10,(.int .i64 (i:Int)))],some [o 0,o 1,.row 1 (v.map (a1f 3 l9))])),cZ [1,2] fun v:(List (List o7)) => (fun g w c o m => ([(3,(.own 2 0 v.length))],some [o 0,o 1,.row 1 (v.map (a1f 3 l9))]))] Tryz.func145 ?_;exact Z⟩
instance w_cmp_Compare_int (A:Int) (B:Int) (r:Int):Wk Tryz.prog (cmp_Compare_int A B = some r) 249 [(.int .i64 A),(.int .i64 B)] (.int .i64 r):=⟨fun hf => by
 unfold cmp_Compare_int at hf;refine coA [] [] Tryz.func249 ?_;exact Z⟩
end Go.R
end
