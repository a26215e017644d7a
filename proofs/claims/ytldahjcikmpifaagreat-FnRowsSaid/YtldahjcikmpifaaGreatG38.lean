/- Part of the proof. -/
import Derived.Test.YtldahjcikmpifaaGreatG35

section
set_option linter.all false
namespace Go.R
open Go Go.Proofs
set_option maxRecDepth 100000
set_option maxHeartbeats 8000000
instance w_spec_l00Src_sets_h2 (A:Int) (B:o8) (r:((List a2c) × o8)):Wh Tryz.prog (a1z A B = some r) false 265 [(.ptr 0 0 0),(.int .i64 A)] [.box 3 (.agg [(.lst 1 (B.Code.map a0h)),(.int .i64 B.At),(.int .i64 B.Seed)])] (.own 1 0 r.1.length) [.box 3 (.agg [(.lst 1 (r.2.Code.map a0h)),(.int .i64 r.2.At),(.int .i64 r.2.Seed)]),.row 3 (r.1.map a2d)]:=⟨fun hf => by
 unfold a1z at hf;refine b3b [9,22,29,45,47] [zI4 [0] fun i (v:((List Int) × Int × Int × (List a2c))) => (fun g w c o m => ([(5,(.ptr 1 0 0)),(6,(.own 2 0 v.2.2.2.length)),(7,(.int .i64 (i:Int)))],some [.box 3 (.agg [(.lst 1 (v.1.map a0h)),(.int .i64 v.2.1),(.int .i64 v.2.2.1)]),o 2,.row 3 (v.2.2.2.map a2d)])),cZ [0,5,6,7] fun v:(Bool × (List Int) × Int × Int) => (fun g w c o m => ([(29,(.bool v.1))],some [.box 3 (.agg [(.lst 1 (v.2.1.map a0h)),(.int .i64 v.2.2.1),(.int .i64 v.2.2.2)]),o 1,o 2])),cZ [0,5,6,7,8] fun v:((List Int) × Int × Int × (List o7)) => (fun g w c o m => ([(9,(.ptr 4 0 0))],some [.box 3 (.agg [(.lst 1 (v.1.map a0h)),(.int .i64 v.2.1),(.int .i64 v.2.2.1)]),o 1,o 2,o 3,.box 3 (.agg [(c 3 0),(.own 5 0 v.2.2.2.length),(.own 6 0 0)]),.row 3 (v.2.2.2.map l9),.row 1 ([].map AV.str)])),cZ [0,5,6,7] fun v:((List Int) × Int × Int × (List o7) × (List Str)) => (fun g w c o m => ([(9,(.ptr 3 0 0))],some [.box 3 (.agg [(.lst 1 (v.1.map a0h)),(.int .i64 v.2.1),(.int .i64 v.2.2.1)]),o 1,o 2,.box 3 (.agg [(c 3 0),(.lst 3 (v.2.2.2.1.map l9)),(.own 4 0 v.2.2.2.2.length)]),.row 1 (v.2.2.2.2.map AV.str)])),cZ [] fun v:((List Int) × Int × Int × (List a2c)) => (fun _ _ _ _ _ => ([(6,(.own 1 0 v.2.2.2.length))],some [.box 3 (.agg [(.lst 1 (v.1.map a0h)),(.int .i64 v.2.1),(.int .i64 v.2.2.1)]),.row 3 (v.2.2.2.map a2d)]))] Tryz.func265 ?_;exact Z⟩
end Go.R
end
