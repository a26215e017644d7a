/- Part of the proof. -/
import Derived.Test.YtldahjcikmpifaaGreatS18

section
set_option linter.all false
namespace Go.R
open Go Go.Proofs
set_option maxRecDepth 100000
set_option maxHeartbeats 8000000
instance w_spec_l08SetRow (B:o6) (D:o8) (A:(List a2c)) (r:(o8 × Int)):Wf Tryz.prog (a9p B D A = some r) 370 [(a0c B),(y8 D),(.lst 3 (A.map a2f))] (.tup [(y8 r.1),(.int .i64 r.2)]):=⟨fun hf => by
 unfold a9p at hf;refine coA [7,31] [zN1 [2,3,4,6] fun i (v:(List (List o5))) => (fun g w c o m => ([(8,(.int .i64 (i:Int)))],some [o 0,.box 2 (.agg [(c 1 0),(.own 3 0 v.length)]),o 2,.row 1 (v.map (a2m 3 l9))])),fZ [] fun v:(List (List o5)) => (fun g w c o m => ([(4,(.ptr 0 0 0)),(6,(.ptr 1 0 0))],some [.box 2 (.agg [(c 1 0),(.own 2 0 v.length)]),o 2,.row 1 (v.map (a2m 3 l9))]))] Tryz.func370 ?_ (sp:=[(4,[[19,24],[25,0],[9]]),(5,[[26,35],[36,0],[10]]),(8,[[41,43],[45,49],[44,0,49,48,47,42,41],[50,0,42,41],[51],[1000,0]])]);exact Z⟩
instance w_spec_l06Matches (A:o6) (B:o8) (D:a3p) (r:Bool):Wk Tryz.prog (b0x A B D = some r) 395 [(a0c A),(y8 B),(a3o D)] (.bool r):=⟨fun hf => by
 unfold b0x at hf;have hcc:=trivial;refine coA [] [] Tryz.func395 ?_ (sp:=[(1,[[10,14],[7]]),(6,[[25,29],[6]]),(8,[[32,37],[6]]),(10,[[40,42],[45,47],[43,0,47,46,45],[44],[48],[6]]),(14,[[56,60],[9]])]);exact Z⟩
instance w_spec_l08Pick (D:o6) (B:o8) (A:(List Str)) (r:o8):Wf Tryz.prog (b4o D B A = some r) 373 [(a0c D),(y8 B),(.lst 1 (A.map AV.str))] (y8 r):=⟨fun hf => by
 unfold b4o at hf;refine coA [7,19] [zN1 [2,3,4,6] fun i (v:(List (List o5))) => (fun g w c o m => ([(7,(.ptr 3 0 0)),(8,(.int .i64 (i:Int)))],some [o 0,o 1,o 2,.box 2 (.agg [(.int .i64 B.Id),(.own 4 0 v.length)]),.row 1 (v.map (a2m 3 l9))])),cZ [] fun v:(List (List o5)) => (fun g w c o m => ([(6,(.ptr 0 0 0)),(7,(.ptr 1 0 0))],some [o 2,.box 2 (.agg [(.int .i64 B.Id),(.own 2 0 v.length)]),.row 1 (v.map (a2m 3 l9))]))] Tryz.func373 ?_;exact Z⟩
end Go.R
end
