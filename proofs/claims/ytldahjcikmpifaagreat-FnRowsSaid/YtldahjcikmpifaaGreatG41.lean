/- Part of the proof. -/
import Derived.Test.YtldahjcikmpifaaGreatG34
import Derived.Test.YtldahjcikmpifaaGreatG37

section
set_option linter.all false
namespace Go.R
open Go Go.Proofs
set_option maxRecDepth 100000
set_option maxHeartbeats 8000000
instance w_spec_l09Work_change (E:GOp) (F:Int) (D:(List a2c)) (B:a0g) (r:(a1m × a0g)):Wh Tryz.prog (a5v E F D B = some r) false 325 [(.ptr 0 0 0),(a1i E),(.int .i64 F),(.lst 3 (D.map a2d))] [.box 6 (.agg [(.lst 4 (B.S.Tables.map a0f)),(.lst 1 (B.X.Tables.map (a1f 2 o6))),(.int .i64 B.X.Next),(.lst 8 (B.Ops.map a1i)),(.lst 1 (B.Ids.map encI)),(.lst 1 (B.Owned.map AV.str))])] (.agg [(.int .i64 r.1.Code),(.int .i64 r.1.Count),(.int .i64 r.1.Id),(.own 1 0 r.1.Columns.length),(.own 2 0 r.1.Rows.length)]) [.box 6 (.agg [(.lst 4 (r.2.S.Tables.map a0f)),(.lst 1 (r.2.X.Tables.map (a1f 2 o6))),(.int .i64 r.2.X.Next),(.lst 8 (r.2.Ops.map a1i)),(.lst 1 (r.2.Ids.map encI)),(.lst 1 (r.2.Owned.map AV.str))]),.row 1 (r.1.Columns.map AV.str),.row 2 (r.1.Rows.map o6)]:=⟨fun hf => by
 unfold a5v at hf;refine b3b [7,29,35,45] [zI2 [0,2,3,5,8,9] fun i (v:((List (List o5)) × Int)) => (fun g w c o m => ([(10,(.int .i64 (i:Int)))],some [.box 6 (.agg [(.lst 4 (B.S.Tables.map a0f)),(.lst 1 (v.1.map (a1f 2 o6))),(.int .i64 v.2),(.lst 8 (B.Ops.map a1i)),(.lst 1 (B.Ids.map encI)),(.lst 1 (B.Owned.map AV.str))]),o 1,o 2,o 3])),cZ [0,2,3,5,8,9,10,11] fun v:(Int × Int × (List (List o7))) => (fun g w c o m => ([(12,(.ptr 4 0 0)),(13,(.int .i64 v.1))],some [o 0,o 1,o 2,o 3,.box 2 (.agg [(.int .i64 v.2.1),(.own 5 0 v.2.2.length)]),.row 1 (v.2.2.map (a1f 3 l9))])),cZ [0,2,3,5,8,9,10,12] fun v:(Int × Int × (List (List o7))) => (fun g w c o m => ([(13,(.int .i64 v.1))],some [o 0,o 1,o 2,o 3,.box 2 (.agg [(.int .i64 v.2.1),(.own 5 0 v.2.2.length)]),.row 1 (v.2.2.map (a1f 3 l9))])),fZ [] fun v:((List (List o5)) × Int) => (fun g w c o m => ([(8,(.ptr 1 0 0)),(9,(.own 2 0 (m 3)))],some [.box 6 (.agg [(.lst 4 (B.S.Tables.map a0f)),(.lst 1 (v.1.map (a1f 2 o6))),(.int .i64 v.2),(.lst 8 (B.Ops.map a1i)),(.lst 1 (B.Ids.map encI)),(.lst 1 (B.Owned.map AV.str))]),o 2,o 3]))] Tryz.func325 ?_ (hc:=fun A => fTM (s1:=[(1,[[14,31],[32,0],[9]]),(4,[[39,50],[51,0],[11]]),(6,[[55,64],[1000]]),(7,[[66,85],[86,0,0],[65],[87,88],[12,0,84,83,81,80,78,77,76,75,73,72,70,69,68,67],[1000,0],[13],[],[12,0,84,83,81,80,78,77,76,75,73,72,70,69,68,67],[86,0],[65],[87,88],[1000,0],[13]]),(8,[[]]),(9,[[]]),(10,[[]]),(11,[[]]),(12,[[]]),(13,[[]]),(14,[[]])]) (s2:=[(0,[[]]),(1,[[]]),(2,[[]]),(3,[[]]),(4,[[]]),(5,[[]]),(6,[[]]),(7,[[]]),(9,[[93,113],[114,0],[92],[115,116],[1000,0],[13]]),(12,[[121,127],[128,0],[129,130],[1000,0]])]));exact Z⟩
end Go.R
end
