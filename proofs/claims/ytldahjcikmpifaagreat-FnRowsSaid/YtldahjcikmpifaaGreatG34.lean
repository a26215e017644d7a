/- Part of the proof. -/
import Derived.Test.YtldahjcikmpifaaGreatG30

section
set_option linter.all false
namespace Go.R
open Go Go.Proofs
set_option maxRecDepth 100000
set_option maxHeartbeats 8000000
instance w_spec_l09Work_selectRows (B:GOp) (D:Int) (A:a0g) (r:(a1m × a0g)):Wh Tryz.prog (a4a B D A = some r) false 323 [(.ptr 0 0 0),(a1i B),(.int .i64 D)] [.box 6 (.agg [(.lst 4 (A.S.Tables.map a0f)),(.lst 1 (A.X.Tables.map (a1f 2 o6))),(.int .i64 A.X.Next),(.lst 8 (A.Ops.map a1i)),(.lst 1 (A.Ids.map encI)),(.lst 1 (A.Owned.map AV.str))])] (.agg [(.int .i64 r.1.Code),(.int .i64 r.1.Count),(.int .i64 r.1.Id),(.own 1 0 r.1.Columns.length),(.own 2 0 r.1.Rows.length)]) [.box 6 (.agg [(.lst 4 (r.2.S.Tables.map a0f)),(.lst 1 (r.2.X.Tables.map (a1f 2 o6))),(.int .i64 r.2.X.Next),(.lst 8 (r.2.Ops.map a1i)),(.lst 1 (r.2.Ids.map encI)),(.lst 1 (r.2.Owned.map AV.str))]),.row 1 (r.1.Columns.map AV.str),.row 2 (r.1.Rows.map o6)]:=⟨fun hf => by
 unfold a4a at hf;refine b3b [10,23,26,44] [zF2 [0,2,4,6] fun v:(Int × (List Str)) => (fun g w c o m => ([(7,(.ptr 3 0 0)),(8,(.int .i64 v.1))],some [o 0,o 1,o 2,.box 5 (.agg [(.int .i64 0),(.int .i64 0),(.int .i64 0),(.own 4 0 v.2.length),(.own 5 0 0)]),.row 1 (v.2.map AV.str),o 5])),cZ [0,2,4,6] fun v:(List Str) => (fun g w c o m => ([(7,(.ptr 3 0 0))],some [o 0,o 1,o 2,.box 5 (.agg [(.int .i64 0),(.int .i64 0),(.int .i64 0),(.own 4 0 v.length),(.own 5 0 0)]),.row 1 (v.map AV.str),o 5])),zF2 [0,2,4,6,7] fun v:(Int × (List o5)) => (fun g w c o m => ([(9,(.int .i64 v.1))],some [o 0,o 1,o 2,.box 5 (.agg [(.int .i64 0),(.int .i64 0),(.int .i64 0),(c 3 3),(.own 5 0 v.2.length)]),o 4,.row 2 (v.2.map o6)])),cZ [] fun v:(List o5) => (fun g w c o m => ([(6,(.ptr 1 0 0)),(7,(.ptr 2 0 0))],some [o 0,o 2,.box 5 (.agg [(.int .i64 0),(.int .i64 0),(.int .i64 0),(.own 3 0 (m 4)),(.own 4 0 v.length)]),o 4,.row 2 (v.map o6)]))] Tryz.func323 ?_ (sp:=[(1,[[11,16],[7],[1000]]),(4,[[21,32]]),(5,[[35,49],[50,0,36,35],[51,0],[52],[1000,0]]),(8,[[53,63]]),(9,[[66,76],[10],[1000]]),(10,[[77,87],[88,0]]),(11,[[89,101],[102,0,90,89],[103,0,90,89],[104,0],[105],[1000,0]])]);exact Z⟩
instance w_spec_l06Select (D:x8) (A:(List o5)) (B:(List a3k)) (r:(List Int)):Wf Tryz.prog (b2t D A B = some r) 375 [(a0f D),(.lst 2 (A.map o6)),(.lst 3 (B.map a3i))] (.lst 1 (r.map encI)):=⟨fun hf => by
 unfold b2t at hf;refine coA [7,23] [zN1 [1,2,3] fun i (v:(List Int)) => (fun g w c o m => ([(7,(.own 1 0 v.length)),(8,(.int .i64 (i:Int)))],some [o 0,.row 1 (v.map encI)])),cZ [] fun v:(List Int) => (fun _ _ _ _ _ => ([(7,(.own 0 0 v.length))],some [.row 1 (v.map encI)]))] Tryz.func375 ?_ (sp:=[(4,[[16,21],[22,0]]),(5,[[23,30],[7]])]);exact Z⟩
end Go.R
end
