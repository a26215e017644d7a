/- Part of the proof. -/
import Derived.Test.YtldahjcikmpifaaGreatS28
import Derived.Test.YtldahjcikmpifaaGreatS39

section
set_option linter.all false
namespace Go.R
open Go Go.Proofs
set_option maxRecDepth 100000
set_option maxHeartbeats 8000000
instance w_spec_l09Work_do_h2 (B:Int) (A:a0g) (r:(a1l × a0g)):Wh Tryz.prog (a7j B A = some r) false 263 [(.ptr 0 0 0),(.int .i64 B)] [.box 6 (.agg [(.lst 4 (A.S.Tables.map a0c)),(.lst 1 (A.X.Tables.map (a2m 2 y8))),(.int .i64 A.X.Next),(.lst 8 (A.Ops.map a1h)),(.lst 1 (A.Ids.map encI)),(.lst 1 (A.Owned.map AV.str))])] (.agg [(.int .i64 r.1.Code),(.int .i64 r.1.Count),(.int .i64 r.1.Id),(.own 1 0 r.1.Columns.length),(.own 2 0 r.1.Rows.length)]) [.box 6 (.agg [(.lst 4 (r.2.S.Tables.map a0c)),(.lst 1 (r.2.X.Tables.map (a2m 2 y8))),(.int .i64 r.2.X.Next),(.lst 8 (r.2.Ops.map a1h)),(.lst 1 (r.2.Ids.map encI)),(.lst 1 (r.2.Owned.map AV.str))]),.row 1 (r.1.Columns.map AV.str),.row 2 (r.1.Rows.map y8)]:=⟨fun hf => by
 unfold a7j at hf;refine b6a [24,40,58] [cZ [0,1,4,5,29] fun v:Bool => (fun _ _ _ _ _ => ([(30,(.bool v))],none)),zN0 [0,4,5] fun i => (fun _ _ _ _ _ => ([(7,(.int .i64 (i:Int)))],none)),fZ [4] fun v:Unit => (fun g w c o m => ([],some [o 0,o 1]))] Tryz.func263 ?_ (sp:=[(1,[[11,17],[5],[1000]]),(2,[[18,22],[23,0],[6]]),(13,[[39,45]]),(14,[[48,57]]),(18,[[60,65],[66,0],[8]]),(19,[[68,71],[67],[72,73],[9,10]]),(24,[[82,86],[1000]]),(28,[[95,99],[1000]]),(29,[[100,104],[1000]])]);exact Z⟩
end Go.R
end
