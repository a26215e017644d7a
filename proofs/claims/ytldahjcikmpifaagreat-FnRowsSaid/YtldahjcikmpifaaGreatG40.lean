/- Part of the proof. -/
import Derived.Test.YtldahjcikmpifaaGreatG35

section
set_option linter.all false
namespace Go.R
open Go Go.Proofs
set_option maxRecDepth 100000
set_option maxHeartbeats 8000000
instance w_spec_l00Src_mut_h1 (B:Int) (D:o8) (r:(b0b × o8)):Wh Tryz.prog (a6m B D = some r) false 329 [(.ptr 0 0 0),(.int .i64 B)] [.box 3 (.agg [(.lst 1 (D.Code.map a0h)),(.int .i64 D.At),(.int .i64 D.Seed)])] (a5j r.1) [.box 3 (.agg [(.lst 1 (r.2.Code.map a0h)),(.int .i64 r.2.At),(.int .i64 r.2.Seed)])]:=⟨fun hf => by
 unfold a6m at hf;have hcc:=trivial;refine b3b [6,12,14,17] [cZ [0,4,5] fun v:((List Int) × Int × Int × Str × Int × Int × Int × Int × Int × Str × Bool) => (fun g w c o m => ([(6,(.ptr 3 0 0))],some [.box 3 (.agg [(.lst 1 (v.1.map a0h)),(.int .i64 v.2.1),(.int .i64 v.2.2.1)]),o 1,o 2,.box 8 (.agg [(.str v.2.2.2.1),(.int .i64 v.2.2.2.2.1),(.int .i64 v.2.2.2.2.2.1),(.int .i64 v.2.2.2.2.2.2.1),(.int .i64 v.2.2.2.2.2.2.2.1),(.int .i64 v.2.2.2.2.2.2.2.2.1),(.str v.2.2.2.2.2.2.2.2.2.1),(.bool v.2.2.2.2.2.2.2.2.2.2)])])),cZ [0,4] fun v:((List Int) × Int × Int × Str × Int × Int × Int × Int × Int × Str × Bool) => (fun g w c o m => ([(6,(.ptr 2 0 0))],some [.box 3 (.agg [(.lst 1 (v.1.map a0h)),(.int .i64 v.2.1),(.int .i64 v.2.2.1)]),o 1,.box 8 (.agg [(.str v.2.2.2.1),(.int .i64 v.2.2.2.2.1),(.int .i64 v.2.2.2.2.2.1),(.int .i64 v.2.2.2.2.2.2.1),(.int .i64 v.2.2.2.2.2.2.2.1),(.int .i64 v.2.2.2.2.2.2.2.2.1),(.str v.2.2.2.2.2.2.2.2.2.1),(.bool v.2.2.2.2.2.2.2.2.2.2)])])),cZ [0,4,6] fun v:((List Int) × Int × Int × Int × (List o7)) => (fun g w c o m => ([(7,(.ptr 3 0 0))],some [.box 3 (.agg [(.lst 1 (v.1.map a0h)),(.int .i64 v.2.1),(.int .i64 v.2.2.1)]),o 1,o 2,.box 3 (.agg [(c 2 0),(.int .i64 v.2.2.2.1),(.lst 3 (v.2.2.2.2.map l9))])])),cZ [0,4] fun v:(Bool × (List Int) × Int × Int) => (fun g w c o m => ([(7,(.ptr 2 0 0)),(52,(.bool v.1))],some [.box 3 (.agg [(.lst 1 (v.2.1.map a0h)),(.int .i64 v.2.2.1),(.int .i64 v.2.2.2)]),o 1,o 3]))] Tryz.func329 ?_ (hc:=fun A => fTA (sp:=[(1,[[8,12],[5],[1000]]),(2,[[13,18],[19,0,0,14,13],[20,21],[6,0,21,20,18,17,16,14,13],[1000,0],[],[6,0,18,17,16,14,13],[19,0,14,13],[20,21],[1000,0]]),(4,[[24,30],[31,0,28,27,26,25,24],[32,34],[1000,0]]),(5,[[35,37],[40,42],[38,0,0,42,41,36,35],[39],[43,0,0,36,35],[44],[7,0,44,42,41,36,35],[1000,0],[],[7,0,42,41,36,35],[43,0,36,35],[44],[1000,0],[],[7,0,42,41,36,35],[38,0,42,41,36,35],[39],[43,0,36,35],[44],[1000,0]]),(6,[[45,52]]),(8,[[57,62],[1000]])]));exact Z⟩
end Go.R
end
