/- Part of the proof. -/
import Derived.Test.YtldahjcikmpifaaGreatG34
import Derived.Test.YtldahjcikmpifaaGreatG37

section
set_option linter.all false
namespace Go.R
open Go Go.Proofs
set_option maxRecDepth 100000
set_option cbv.maxSteps 100000000
set_option maxHeartbeats 8000000
instance w_spec_l09Work_change (D:GOp) (E:Int) (B:(List a2c)) (A:a0g) (r:(a1m × a0g)):Wh Tryz.prog (a5v D E B A = some r) false 325 [(.ptr 0 0 0),(a1i D),(.int .i64 E),(.lst 3 (B.map a2d))] [.box 6 (.agg [(.lst 4 (A.S.Tables.map a0f)),(.lst 1 (A.X.Tables.map (a1f 2 o6))),(.int .i64 A.X.Next),(.lst 8 (A.Ops.map a1i)),(.lst 1 (A.Ids.map encI)),(.lst 1 (A.Owned.map AV.str))])] (.agg [(.int .i64 r.1.Code),(.int .i64 r.1.Count),(.int .i64 r.1.Id),(.own 1 0 r.1.Columns.length),(.own 2 0 r.1.Rows.length)]) [.box 6 (.agg [(.lst 4 (r.2.S.Tables.map a0f)),(.lst 1 (r.2.X.Tables.map (a1f 2 o6))),(.int .i64 r.2.X.Next),(.lst 8 (r.2.Ops.map a1i)),(.lst 1 (r.2.Ids.map encI)),(.lst 1 (r.2.Owned.map AV.str))]),.row 1 (r.1.Columns.map AV.str),.row 2 (r.1.Rows.map o6)]:=⟨fun hf => by
 unfold a5v at hf;refine b3b [7,29,35,45] [zI2 [0,2,3,5,8,9] fun i (v:((List (List o5)) × Int)) => (fun g w c o m => ([(10,(.int .i64 (i:Int)))],some [.box 6 (.agg [(.lst 4 (A.S.Tables.map a0f)),(.lst 1 (v.1.map (a1f 2 o6))),(.int .i64 v.2),(.lst 8 (A.Ops.map a1i)),(.lst 1 (A.Ids.map encI)),(.lst 1 (A.Owned.map AV.str))]),o 1,o 2,o 3])),cZ [0,2,3,5,8,9,10,11] fun v:(Int × Int × (List (List o7))) => (fun g w c o m => ([(12,(.ptr 4 0 0)),(13,(.int .i64 v.1))],some [o 0,o 1,o 2,o 3,.box 2 (.agg [(.int .i64 v.2.1),(.own 5 0 v.2.2.length)]),.row 1 (v.2.2.map (a1f 3 l9))])),cZ [0,2,3,5,8,9,10,12] fun v:(Int × Int × (List (List o7))) => (fun g w c o m => ([(13,(.int .i64 v.1))],some [o 0,o 1,o 2,o 3,.box 2 (.agg [(.int .i64 v.2.1),(.own 5 0 v.2.2.length)]),.row 1 (v.2.2.map (a1f 3 l9))])),fZ [] fun v:((List (List o5)) × Int) => (fun g w c o m => ([(8,(.ptr 1 0 0)),(9,(.own 2 0 (m 3)))],some [.box 6 (.agg [(.lst 4 (A.S.Tables.map a0f)),(.lst 1 (v.1.map (a1f 2 o6))),(.int .i64 v.2),(.lst 8 (A.Ops.map a1i)),(.lst 1 (A.Ids.map encI)),(.lst 1 (A.Owned.map AV.str))]),o 2,o 3]))] Tryz.func325 ?_;exact Z⟩
end Go.R
end
