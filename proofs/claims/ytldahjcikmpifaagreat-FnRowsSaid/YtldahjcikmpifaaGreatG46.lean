/- Part of the proof. -/
import Derived.Test.YtldahjcikmpifaaGreatG44
import Derived.Test.YtldahjcikmpifaaGreatG45

section
set_option linter.all false
namespace Go.R
open Go Go.Proofs
set_option maxRecDepth 100000
set_option cbv.maxSteps 100000000
set_option maxHeartbeats 8000000
instance w_spec_l00Src_store_h2 (A:o8) (r:(x9 × o8)):Wh Tryz.prog (a7m A = some r) false 73 [(.ptr 0 0 0)] [.box 3 (.agg [(.lst 1 (A.Code.map a0h)),(.int .i64 A.At),(.int .i64 A.Seed)])] (.agg [(.own 1 0 r.1.Tables.length),(.int .i64 r.1.Next)]) [.box 3 (.agg [(.lst 1 (r.2.Code.map a0h)),(.int .i64 r.2.At),(.int .i64 r.2.Seed)]),.row 1 (r.1.Tables.map (a1f 2 o6))]:=⟨fun hf => by
 unfold a7m at hf;refine b3b [7,21] [zF6 [0,2] fun v:(Int × (List Int) × Int × Int × (List (List o5)) × Int) => (fun g w c o m => ([(3,(.ptr 2 0 0)),(4,(.int .i64 v.1))],some [.box 3 (.agg [(.lst 1 (v.2.1.map a0h)),(.int .i64 v.2.2.1),(.int .i64 v.2.2.2.1)]),o 1,.box 2 (.agg [(.lst 1 (v.2.2.2.2.1.map (a1f 2 o6))),(.int .i64 v.2.2.2.2.2)])])),cZ [2] fun v:((List Int) × Int × Int × (List (List o5)) × Int) => (fun g w c o m => ([(3,(.ptr 2 0 0))],some [.box 3 (.agg [(.lst 1 (v.1.map a0h)),(.int .i64 v.2.1),(.int .i64 v.2.2.1)]),o 1,.box 2 (.agg [(.lst 1 (v.2.2.2.1.map (a1f 2 o6))),(.int .i64 v.2.2.2.2)])]))] Tryz.func73 ?_;exact Z⟩
end Go.R
end
