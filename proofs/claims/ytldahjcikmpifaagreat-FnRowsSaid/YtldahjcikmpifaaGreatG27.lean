/- Part of the proof. -/
import Derived.Test.YtldahjcikmpifaaGreatG21
import Derived.Test.YtldahjcikmpifaaGreatG22

section
set_option linter.all false
namespace Go.R
open Go Go.Proofs
set_option maxRecDepth 100000
set_option maxHeartbeats 8000000
instance w_spec_l06Matches (A:x8) (B:o5) (D:a3k) (r:Bool):Wk Tryz.prog (a9i A B D = some r) 395 [(a0f A),(o6 B),(a3i D)] (.bool r):=⟨fun hf => by
 unfold a9i at hf;have hcc:=trivial;refine coA [] [] Tryz.func395 ?_ (sp:=[(1,[[10,14],[7]]),(6,[[25,29],[6]]),(8,[[32,37],[6]]),(10,[[40,42],[45,47],[43,0,47,46,45],[44],[48],[6]]),(14,[[56,60],[9]])]);exact Z⟩
instance w_spec_l08Pick (D:x8) (B:o5) (A:(List Str)) (r:o5):Wf Tryz.prog (b2s D B A = some r) 373 [(a0f D),(o6 B),(.lst 1 (A.map AV.str))] (o6 r):=⟨fun hf => by
 unfold b2s at hf;refine coA [7,19] [zN1 [2,3,4,6] fun i (v:(List (List o7))) => (fun g w c o m => ([(7,(.ptr 3 0 0)),(8,(.int .i64 (i:Int)))],some [o 0,o 1,o 2,.box 2 (.agg [(.int .i64 B.Id),(.own 4 0 v.length)]),.row 1 (v.map (a1f 3 l9))])),cZ [] fun v:(List (List o7)) => (fun g w c o m => ([(6,(.ptr 0 0 0)),(7,(.ptr 1 0 0))],some [o 2,.box 2 (.agg [(.int .i64 B.Id),(.own 2 0 v.length)]),.row 1 (v.map (a1f 3 l9))]))] Tryz.func373 ?_;exact Z⟩
instance w_spec_l09Commit (A:a0b) (B:x9) (r:Int):Wk Tryz.prog (b0n A B = some r) 264 [(a3w A),(a0u B)] (.int .i64 r):=⟨fun hf => by
 unfold b0n at hf;refine coA [] [] Tryz.func264 ?_;exact Z⟩
end Go.R
end
