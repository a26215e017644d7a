/- Part of the proof. -/
import Derived.Test.YtldahjcikmpifaaGreatG9

section
set_option linter.all false
namespace Go.R
open Go Go.Proofs
set_option maxRecDepth 100000
set_option maxHeartbeats 8000000
instance w_spec_l03Has (A:(List o7)) (B:o7) (r:Bool):Wk Tryz.prog (a8t A B = some r) 185 [(.lst 3 (A.map l9)),(l9 B)] (.bool r):=⟨fun hf => by
 unfold a8t at hf;refine coA [5,23] [zN0 [0,3] fun i => (fun _ _ _ _ _ => ([(5,(.int .i64 (i:Int)))],none)),fZ [] fun v:Unit => (fun _ _ _ _ _ => ([],some []))] Tryz.func185 ?_;exact Z⟩
instance w_spec_l01Bit (A:Bool) (r:Int):Wk Tryz.prog (a7b A = some r) 184 [(.bool A)] (.int .i64 r):=⟨fun hf => by
 unfold a7b at hf;refine coA [] [] Tryz.func184 ?_;exact Z⟩
instance w_spec_l01In (D:Int) (B:Int) (A:Int) (r:Bool):Wk Tryz.prog (a5r D B A = some r) 85 [(.int .i64 D),(.int .i64 B),(.int .i64 A)] (.bool r):=⟨fun hf => by
 unfold a5r at hf;refine coA [] [] Tryz.func85 ?_;exact Z⟩
instance w_spec_l09Ids (B:(List GOp)) (A:Int) (r:(List Int)):Wf Tryz.prog (b5q B A = some r) 262 [(.lst 8 (B.map a1i)),(.int .i64 A)] (.lst 1 (r.map encI)):=⟨fun hf => by
 unfold b5q at hf;refine coA [7,25] [zN2 [0] fun i (v:(Int × (List Int))) => (fun _ _ _ _ _ => ([(1,(.int .i64 v.1)),(5,(.own 0 0 v.2.length)),(6,(.int .i64 (i:Int)))],some [.row 1 (v.2.map encI)])),cZ [] fun v:(List Int) => (fun _ _ _ _ _ => ([(5,(.own 0 0 v.length))],some [.row 1 (v.map encI)]))] Tryz.func262 ?_;exact Z⟩
end Go.R
end
