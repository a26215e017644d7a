/- Part of the proof. -/
import Derived.Test.YtldahjcikmpifaaGreatG35

section
set_option linter.all false
namespace Go.R
open Go Go.Proofs
set_option maxRecDepth 100000
set_option cbv.maxSteps 100000000
set_option maxHeartbeats 8000000
instance w_spec_l00Src_mut_h1 (A:Int) (B:o8) (r:(b0b × o8)):Wh Tryz.prog (a6m A B = some r) false 329 [(.ptr 0 0 0),(.int .i64 A)] [.box 3 (.agg [(.lst 1 (B.Code.map a0h)),(.int .i64 B.At),(.int .i64 B.Seed)])] (a5j r.1) [.box 3 (.agg [(.lst 1 (r.2.Code.map a0h)),(.int .i64 r.2.At),(.int .i64 r.2.Seed)])]:=⟨fun hf => by
 unfold a6m at hf;have hcc:=trivial;refine b3b [6,12,14,17] [cZ [0,4,5] fun v:((List Int) × Int × Int × Str × Int × Int × Int × Int × Int × Str × Bool) => (fun g w c o m => ([(6,(.ptr 3 0 0))],some [.box 3 (.agg [(.lst 1 (v.1.map a0h)),(.int .i64 v.2.1),(.int .i64 v.2.2.1)]),o 1,o 2,.box 8 (.agg [(.str v.2.2.2.1),(.int .i64 v.2.2.2.2.1),(.int .i64 v.2.2.2.2.2.1),(.int .i64 v.2.2.2.2.2.2.1),(.int .i64 v.2.2.2.2.2.2.2.1),(.int .i64 v.2.2.2.2.2.2.2.2.1),(.str v.2.2.2.2.2.2.2.2.2.1),(.bool v.2.2.2.2.2.2.2.2.2.2)])])),cZ [0,4] fun v:((List Int) × Int × Int × Str × Int × Int × Int × Int × Int × Str × Bool) => (fun g w c o m => ([(6,(.ptr 2 0 0))],some [.box 3 (.agg [(.lst 1 (v.1.map a0h)),(.int .i64 v.2.1),(.int .i64 v.2.2.1)]),o 1,.box 8 (.agg [(.str v.2.2.2.1),(.int .i64 v.2.2.2.2.1),(.int .i64 v.2.2.2.2.2.1),(.int .i64 v.2.2.2.2.2.2.1),(.int .i64 v.2.2.2.2.2.2.2.1),(.int .i64 v.2.2.2.2.2.2.2.2.1),(.str v.2.2.2.2.2.2.2.2.2.1),(.bool v.2.2.2.2.2.2.2.2.2.2)])])),cZ [0,4,6] fun v:((List Int) × Int × Int × Int × (List o7)) => (fun g w c o m => ([(7,(.ptr 3 0 0))],some [.box 3 (.agg [(.lst 1 (v.1.map a0h)),(.int .i64 v.2.1),(.int .i64 v.2.2.1)]),o 1,o 2,.box 3 (.agg [(c 2 0),(.int .i64 v.2.2.2.1),(.lst 3 (v.2.2.2.2.map l9))])])),cZ [0,4] fun v:(Bool × (List Int) × Int × Int) => (fun g w c o m => ([(7,(.ptr 2 0 0)),(52,(.bool v.1))],some [.box 3 (.agg [(.lst 1 (v.2.1.map a0h)),(.int .i64 v.2.2.1),(.int .i64 v.2.2.2)]),o 1,o 3]))] Tryz.func329 ?_;exact Z⟩
end Go.R
end
