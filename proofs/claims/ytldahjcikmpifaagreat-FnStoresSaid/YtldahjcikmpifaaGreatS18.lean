/- Part of the proof. -/
import Derived.Test.YtldahjcikmpifaaGreatS10
import Derived.Test.YtldahjcikmpifaaGreatS11
import Derived.Test.YtldahjcikmpifaaGreatS12

section
set_option linter.all false
namespace Go.R
open Go Go.Proofs
set_option maxRecDepth 100000
set_option maxHeartbeats 8000000
instance w_spec_l08Fresh (B:o6) (A:Int) (r:o8):Wf Tryz.prog (b3k B A = some r) 371 [(a0c B),(.int .i64 A)] (y8 r):=⟨fun hf => by
 unfold b3k at hf;refine coA [7,19] [zN1 [2,4] fun i (v:(List (List o5))) => (fun g w c o m => ([(5,(.ptr 2 0 0)),(6,(.int .i64 (i:Int)))],some [o 0,o 1,.box 2 (.agg [(.int .i64 A),(.own 3 0 v.length)]),.row 1 (v.map (a2m 3 l9))])),cZ [] fun v:(List (List o5)) => (fun g w c o m => ([(4,(.ptr 0 0 0)),(5,(.ptr 1 0 0))],some [o 1,.box 2 (.agg [(.int .i64 A),(.own 2 0 v.length)]),.row 1 (v.map (a2m 3 l9))]))] Tryz.func371 ?_ (sp:=[(4,[[17,23],[24,0,18,17],[25,0,18,17],[26,0],[27],[1000,0]])]);exact Z⟩
instance w_spec_l04Fits (A:y7) (B:(List o5)) (r:Int):Wk Tryz.prog (a8i A B = some r) 277 [(a0n A),(.lst 3 (B.map l9))] (.int .i64 r):=⟨fun hf => by
 unfold a8i at hf;refine coA [5,21,33,39] [cZ [1,2] fun v:Bool => (fun _ _ _ _ _ => ([(17,(.bool v))],none)),zN0 [1,2] fun i => (fun _ _ _ _ _ => ([(5,(.int .i64 (i:Int)))],none)),cZ [1,2,5] fun v:Bool => (fun _ _ _ _ _ => ([(47,(.bool v))],none)),fZ [] fun v:Unit => (fun _ _ _ _ _ => ([],some []))] Tryz.func277 ?_ (sp:=[(1,[[6,17]]),(3,[[18,25]]),(7,[[32,44],[45,0],[46,47]])]);exact Z⟩
instance w_spec_l05Own (A:x9) (r:x9):Wf Tryz.prog (a7c A = some r) 147 [(a0o A)] (a0o r):=⟨fun hf => by
 unfold a7c at hf;refine coA [7,22,34,36] [zN1 [1,2] fun i (v:(List (List o8))) => (fun g w c o m => ([(3,(.ptr 2 0 0)),(4,(.int .i64 (i:Int)))],some [o 0,o 1,.box 2 (.agg [(.own 3 0 v.length),(.int .i64 A.Next)]),.row 1 (v.map (a2m 2 y8))])),zN1 [1,2,3,4] fun i (v:(List o8)) => (fun g w c o m => ([(5,(.own 3 0 v.length)),(6,(.int .i64 (i:Int)))],some [o 0,o 1,.box 2 (.agg [(.own 4 0 (m 3)),(.int .i64 A.Next)]),.row 2 (v.map y8),o 3])),cZ [1,2,3,4] fun v:(List o8) => (fun g w c o m => ([(5,(.own 3 0 v.length))],some [o 0,o 1,.box 2 (.agg [(.own 4 0 (m 3)),(.int .i64 A.Next)]),.row 2 (v.map y8),o 3])),cZ [] fun v:(List (List o8)) => (fun g w c o m => ([(2,(.ptr 0 0 0)),(3,(.ptr 1 0 0))],some [o 1,.box 2 (.agg [(.own 2 0 v.length),(.int .i64 A.Next)]),.row 1 (v.map (a2m 2 y8))]))] Tryz.func147 ?_;exact Z⟩
instance w_spec_l06Cell (B:o6) (D:o8) (A:Str) (r:(List o5)):Ww Tryz.prog (b2v B D A = some r) 396 [(a0c B),(y8 D),(.str A)] (.lst 3 (r.map l9)):=⟨fun hf => by
 unfold b2v at hf;refine coA [] [] Tryz.func396 ?_;exact Z⟩
instance w_spec_l03Minus (A:(List o5)) (B:(List o5)) (r:(List o5)):Wf Tryz.prog (a9b A B = some r) 408 [(.lst 3 (A.map l9)),(.lst 3 (B.map l9))] (.lst 3 (r.map l9)):=⟨fun hf => by
 unfold a9b at hf;refine coA [7,23] [zN1 [0,1] fun i (v:(List o5)) => (fun _ _ _ _ _ => ([(5,(.own 0 0 v.length)),(6,(.int .i64 (i:Int)))],some [.row 3 (v.map l9)])),cZ [] fun v:(List o5) => (fun _ _ _ _ _ => ([(5,(.own 0 0 v.length))],some [.row 3 (v.map l9)]))] Tryz.func408 ?_;exact Z⟩
end Go.R
end
