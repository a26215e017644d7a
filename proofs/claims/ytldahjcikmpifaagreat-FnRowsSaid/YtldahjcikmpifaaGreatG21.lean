/- Part of the proof. -/
import Derived.Test.YtldahjcikmpifaaGreatG11
import Derived.Test.YtldahjcikmpifaaGreatG12
import Derived.Test.YtldahjcikmpifaaGreatG13

section
set_option linter.all false
namespace Go.R
open Go Go.Proofs
set_option maxRecDepth 100000
set_option maxHeartbeats 8000000
instance w_spec_l05Own (A:x9) (r:x9):Wf Tryz.prog (a5e A = some r) 147 [(a0u A)] (a0u r):=⟨fun hf => by
 unfold a5e at hf;refine coA [7,22,34,36] [zN1 [1,2] fun i (v:(List (List o5))) => (fun g w c o m => ([(3,(.ptr 2 0 0)),(4,(.int .i64 (i:Int)))],some [o 0,o 1,.box 2 (.agg [(.own 3 0 v.length),(.int .i64 A.Next)]),.row 1 (v.map (a1f 2 o6))])),zN1 [1,2,3,4] fun i (v:(List o5)) => (fun g w c o m => ([(5,(.own 3 0 v.length)),(6,(.int .i64 (i:Int)))],some [o 0,o 1,.box 2 (.agg [(.own 4 0 (m 3)),(.int .i64 A.Next)]),.row 2 (v.map o6),o 3])),cZ [1,2,3,4] fun v:(List o5) => (fun g w c o m => ([(5,(.own 3 0 v.length))],some [o 0,o 1,.box 2 (.agg [(.own 4 0 (m 3)),(.int .i64 A.Next)]),.row 2 (v.map o6),o 3])),cZ [] fun v:(List (List o5)) => (fun g w c o m => ([(2,(.ptr 0 0 0)),(3,(.ptr 1 0 0))],some [o 1,.box 2 (.agg [(.own 2 0 v.length),(.int .i64 A.Next)]),.row 1 (v.map (a1f 2 o6))]))] Tryz.func147 ?_;exact Z⟩
instance w_spec_l06Cell (B:x8) (D:o5) (A:Str) (r:(List o7)):Ww Tryz.prog (b0v B D A = some r) 396 [(a0f B),(o6 D),(.str A)] (.lst 3 (r.map l9)):=⟨fun hf => by
 unfold b0v at hf;refine coA [] [] Tryz.func396 ?_;exact Z⟩
instance w_spec_l03Minus (A:(List o7)) (B:(List o7)) (r:(List o7)):Wf Tryz.prog (a7t A B = some r) 408 [(.lst 3 (A.map l9)),(.lst 3 (B.map l9))] (.lst 3 (r.map l9)):=⟨fun hf => by
 unfold a7t at hf;refine coA [7,23] [zN1 [0,1] fun i (v:(List o7)) => (fun _ _ _ _ _ => ([(5,(.own 0 0 v.length)),(6,(.int .i64 (i:Int)))],some [.row 3 (v.map l9)])),cZ [] fun v:(List o7) => (fun _ _ _ _ _ => ([(5,(.own 0 0 v.length))],some [.row 3 (v.map l9)]))] Tryz.func408 ?_;exact Z⟩
instance w_spec_l07Number (A:Int) (B:Int) (D:Int) (r:(Int × Bool)):Wk Tryz.prog (b0l A B D = some r) 409 [(.int .i64 A),(.int .i64 B),(.int .i64 D)] (.tup [(.int .i64 r.1),(.bool r.2)]):=⟨fun hf => by
 unfold b0l at hf;refine coA [35] [fZ [] fun v:Int => (fun _ _ _ _ _ => ([(8,(.int .i64 v))],none))] Tryz.func409 ?_;exact Z⟩
end Go.R
end
