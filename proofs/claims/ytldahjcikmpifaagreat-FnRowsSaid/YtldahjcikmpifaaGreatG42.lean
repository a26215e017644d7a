/- Part of the proof. -/
import Derived.Test.YtldahjcikmpifaaGreatG32
import Derived.Test.YtldahjcikmpifaaGreatG39
import Derived.Test.YtldahjcikmpifaaGreatG41

section
set_option linter.all false
namespace Go.R
open Go Go.Proofs
set_option maxRecDepth 100000
set_option maxHeartbeats 8000000
instance w_spec_l09Work_do_h2 (B:Int) (A:a0g) (r:(a1m × a0g)):Wh Tryz.prog (a6k B A = some r) false 263 [(.ptr 0 0 0),(.int .i64 B)] [.box 6 (.agg [(.lst 4 (A.S.Tables.map a0f)),(.lst 1 (A.X.Tables.map (a1f 2 o6))),(.int .i64 A.X.Next),(.lst 8 (A.Ops.map a1i)),(.lst 1 (A.Ids.map encI)),(.lst 1 (A.Owned.map AV.str))])] (.agg [(.int .i64 r.1.Code),(.int .i64 r.1.Count),(.int .i64 r.1.Id),(.own 1 0 r.1.Columns.length),(.own 2 0 r.1.Rows.length)]) [.box 6 (.agg [(.lst 4 (r.2.S.Tables.map a0f)),(.lst 1 (r.2.X.Tables.map (a1f 2 o6))),(.int .i64 r.2.X.Next),(.lst 8 (r.2.Ops.map a1i)),(.lst 1 (r.2.Ids.map encI)),(.lst 1 (r.2.Owned.map AV.str))]),.row 1 (r.1.Columns.map AV.str),.row 2 (r.1.Rows.map o6)]:=⟨fun hf => by
 unfold a6k at hf;refine b3b [24,40,58] [cZ [0,1,4,5,29] fun v:Bool => (fun _ _ _ _ _ => ([(30,(.bool v))],none)),zN0 [0,4,5] fun i => (fun _ _ _ _ _ => ([(7,(.int .i64 (i:Int)))],none)),fZ [4] fun v:Unit => (fun g w c o m => ([],some [o 0,o 1]))] Tryz.func263 ?_ (sp:=[(1,[[11,17],[5],[1000]]),(2,[[18,22],[23,0],[6]]),(13,[[39,45]]),(14,[[48,57]]),(18,[[60,65],[66,0],[8]]),(19,[[68,71],[67],[72,73],[9,10]]),(24,[[82,86],[1000]]),(28,[[95,99],[1000]]),(29,[[100,104],[1000]])]);exact Z⟩
instance w_spec_l00Src_conds_h1 (A:Int) (B:o8) (r:((List a3k) × o8)):Wh Tryz.prog (a4d A B = some r) false 328 [(.ptr 0 0 0),(.int .i64 A)] [.box 3 (.agg [(.lst 1 (B.Code.map a0h)),(.int .i64 B.At),(.int .i64 B.Seed)])] (.own 1 0 r.1.length) [.box 3 (.agg [(.lst 1 (r.2.Code.map a0h)),(.int .i64 r.2.At),(.int .i64 r.2.Seed)]),.row 3 (r.1.map a3i)]:=⟨fun hf => by
 unfold a4d at hf;refine b3b [7,19] [zF5 [0,1] fun v:(Int × (List Int) × Int × Int × (List a3k)) => (fun _ _ _ _ _ => ([(5,(.own 1 0 v.2.2.2.2.length)),(6,(.int .i64 v.1))],some [.box 3 (.agg [(.lst 1 (v.2.1.map a0h)),(.int .i64 v.2.2.1),(.int .i64 v.2.2.2.1)]),.row 3 (v.2.2.2.2.map a3i)])),cZ [] fun v:((List Int) × Int × Int × (List a3k)) => (fun _ _ _ _ _ => ([(5,(.own 1 0 v.2.2.2.length))],some [.box 3 (.agg [(.lst 1 (v.1.map a0h)),(.int .i64 v.2.1),(.int .i64 v.2.2.1)]),.row 3 (v.2.2.2.map a3i)]))] Tryz.func328 ?_;exact Z⟩
end Go.R
end
