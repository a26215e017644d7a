/- Part of the proof. -/
import Derived.Test.YtldahjcikmpifaaGreatG26

section
set_option linter.all false
namespace Go.R
open Go Go.Proofs
set_option maxRecDepth 100000
set_option maxHeartbeats 8000000
instance w_spec_l09Work_insert (E:Int) (F:Int) (D:(List a2c)) (B:a0g) (r:(a1m × a0g)):Wh Tryz.prog (a5u E F D B = some r) false 322 [(.ptr 0 0 0),(.int .i64 E),(.int .i64 F),(.lst 3 (D.map a2d))] [.box 6 (.agg [(.lst 4 (B.S.Tables.map a0f)),(.lst 1 (B.X.Tables.map (a1f 2 o6))),(.int .i64 B.X.Next),(.lst 8 (B.Ops.map a1i)),(.lst 1 (B.Ids.map encI)),(.lst 1 (B.Owned.map AV.str))])] (.agg [(.int .i64 r.1.Code),(.int .i64 r.1.Count),(.int .i64 r.1.Id),(.own 1 0 r.1.Columns.length),(.own 2 0 r.1.Rows.length)]) [.box 6 (.agg [(.lst 4 (r.2.S.Tables.map a0f)),(.lst 1 (r.2.X.Tables.map (a1f 2 o6))),(.int .i64 r.2.X.Next),(.lst 8 (r.2.Ops.map a1i)),(.lst 1 (r.2.Ids.map encI)),(.lst 1 (r.2.Owned.map AV.str))]),.row 1 (r.1.Columns.map AV.str),.row 2 (r.1.Rows.map o6)]:=⟨fun hf => by
 unfold a5u at hf;refine b3b [7,12,19,25,35] [zF1 [0,1,2,3,8,9] fun v:Int => (fun _ _ _ _ _ => ([(10,(.int .i64 v))],none)),cZ [0,1,2,3,8,9,10] fun v:Bool => (fun _ _ _ _ _ => ([(27,(.bool v))],none)),cZ [0,1,2,3,8,9,10] fun v:Bool => (fun _ _ _ _ _ => ([(51,(.bool v))],none)),fZ [0,1,2,3,8] fun v:Unit => (fun g w c o m => ([],some [o 0,o 1])),cZ [0,1,2,8] fun v:(Int × Int × (List (List o7))) => (fun g w c o m => ([(11,(.ptr 2 0 0)),(12,(.int .i64 v.1))],some [o 0,o 1,.box 2 (.agg [(.int .i64 v.2.1),(.own 3 0 v.2.2.length)]),.row 1 (v.2.2.map (a1f 3 l9))]))] Tryz.func322 ?_ (hc:=fun A => fTM (s1:=[(1,[[13,19],[9],[1000]]),(3,[[20,27]]),(4,[[30,51]]),(7,[[53,62]]),(9,[[]]),(10,[[]]),(11,[[]]),(12,[[]]),(13,[[]])]) (s2:=[(0,[[]]),(1,[[]]),(2,[[]]),(3,[[]]),(4,[[]]),(5,[[]]),(6,[[]]),(7,[[]]),(8,[[]]),(9,[[65,87],[89],[88,0,0,72,71,69,68,67,66],[90,0,0],[64],[91,92],[11,0,87,86,84,83,82,80,79,77,76,75,74,72,71,69,68,67,66],[1000,0],[12],[],[11,0,87,86,84,83,82,80,79,77,76,75,74,72,71,69,68,67,66],[90,0],[64],[91,92],[1000,0],[12],[],[11,0,87,86,84,83,82,80,79,77,76,75,74,72,71,69,68,67,66],[88,0,72,71,69,68,67,66],[90,0],[64],[91,92],[1000,0],[12]]),(12,[[97,103],[104,0],[105,106],[1000,0]]),(13,[[107,114],[1000]])]));exact Z⟩
end Go.R
end
