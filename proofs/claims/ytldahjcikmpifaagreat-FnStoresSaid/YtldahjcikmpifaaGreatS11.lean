/- Part of the proof. -/
import Derived.Test.YtldahjcikmpifaaGreatS9

section
set_option linter.all false
namespace Go.R
open Go Go.Proofs
set_option maxRecDepth 100000
set_option maxHeartbeats 8000000
instance w_spec_l09Ids (B:(List GOp)) (A:Int) (r:(List Int)):Wf Tryz.prog (b7n B A = some r) 262 [(.lst 8 (B.map a1h)),(.int .i64 A)] (.lst 1 (r.map encI)):=⟨fun hf => by
 unfold b7n at hf;refine coA [7,25] [zN2 [0] fun i (v:(Int × (List Int))) => (fun _ _ _ _ _ => ([(1,(.int .i64 v.1)),(5,(.own 0 0 v.2.length)),(6,(.int .i64 (i:Int)))],some [.row 1 (v.2.map encI)])),cZ [] fun v:(List Int) => (fun _ _ _ _ _ => ([(5,(.own 0 0 v.length))],some [.row 1 (v.map encI)]))] Tryz.func262 ?_;exact Z⟩
instance w_spec_l00Letter (A:Int) (r:Bool):Wk Tryz.prog (a9l A = some r) 332 [(.int .u8 A)] (.bool r):=⟨fun hf => by
 unfold a9l at hf;refine coA [] [] Tryz.func332 ?_;exact Z⟩
instance w_spec_l00Digit (A:Int) (r:Bool):Wk Tryz.prog (b3h A = some r) 333 [(.int .u8 A)] (.bool r):=⟨fun hf => by
 unfold b3h at hf;refine coA [] [] Tryz.func333 ?_;exact Z⟩
instance w_spec_l04Find (B:o7) (A:Str) (r:Int):Wk Tryz.prog (a4h B A = some r) 182 [(a0s B),(.str A)] (.int .i64 r):=⟨fun hf => by
 unfold a4h at hf;refine coA [5,23] [zI0 [1,2] fun i => (fun _ _ _ _ _ => ([(5,(.int .i64 (i:Int)))],none)),fZ [] fun v:Unit => (fun _ _ _ _ _ => ([],some []))] Tryz.func182 ?_;exact Z⟩
instance w_spec_l04Column (B:o6) (A:Str) (r:Int):Wk Tryz.prog (a2g B A = some r) 365 [(a0c B),(.str A)] (.int .i64 r):=⟨fun hf => by
 unfold a2g at hf;refine coA [5,23] [zI0 [1,2] fun i => (fun _ _ _ _ _ => ([(5,(.int .i64 (i:Int)))],none)),fZ [] fun v:Unit => (fun _ _ _ _ _ => ([],some []))] Tryz.func365 ?_;exact Z⟩
end Go.R
end
