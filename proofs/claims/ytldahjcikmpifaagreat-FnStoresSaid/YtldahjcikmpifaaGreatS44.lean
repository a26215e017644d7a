/- Part of the proof. -/
import Derived.Test.YtldahjcikmpifaaGreatS40

section
set_option linter.all false
namespace Go.R
open Go Go.Proofs
set_option maxRecDepth 100000
set_option maxHeartbeats 8000000
instance w_impl_eachSet_h0 (B:o7) (D:x9) (E:Bool) (A:x9) (F:Int) (r:(Bool × x9 × Int)):Wh Tryz.prog (b3s B D E A F = some r) false 174 [(a0s B),(a0o D),(.fn 175 [(.ptr 0 0 0),(.ptr 1 0 0),(.ptr 2 0 0)])] [.box 1 (.bool E),.box 2 (.agg [(.lst 1 (A.Tables.map (a2m 2 y8))),(.int .i64 A.Next)]),.box 1 (.int .i64 F)] (.tup []) [.box 1 (.bool r.1),.box 2 (.agg [(.lst 1 (r.2.1.Tables.map (a2m 2 y8))),(.int .i64 r.2.1.Next)]),.box 1 (.int .i64 r.2.2)]:=⟨fun hf => by
 unfold b3s at hf;refine b6a [4,18,38,52,53] [zI4 [2,3,4,13,14] fun i (v:(Bool × (List (List o8)) × Int × Int)) => (fun g w c o m => ([(15,(.int .i64 (i:Int)))],some [.box 1 (.bool v.1),.box 2 (.agg [(.lst 1 (v.2.1.map (a2m 2 y8))),(.int .i64 v.2.2.1)]),.box 1 (.int .i64 v.2.2.2),o 3,o 4])),zI4 [2,3,4,6,13,14,15,21,22] fun i (v:(Bool × (List (List o8)) × Int × Int)) => (fun g w c o m => ([(23,(.int .i64 (i:Int)))],some [.box 1 (.bool v.1),.box 2 (.agg [(.lst 1 (v.2.1.map (a2m 2 y8))),(.int .i64 v.2.2.1)]),.box 1 (.int .i64 v.2.2.2),o 3,o 4])),zN4 [2,3,4,6,8,9,13,14,15,21,22,23,35,36] fun i (v:(Bool × (List (List o8)) × Int × Int)) => (fun g w c o m => ([(37,(.int .i64 (i:Int)))],some [.box 1 (.bool v.1),.box 2 (.agg [(.lst 1 (v.2.1.map (a2m 2 y8))),(.int .i64 v.2.2.1)]),.box 1 (.int .i64 v.2.2.2),o 3,o 4,o 5])),cZ [2,3,4,6,13,14,15,21,22,23] fun v:(Bool × (List (List o8)) × Int × Int) => (fun g w c o m => ([],some [.box 1 (.bool v.1),.box 2 (.agg [(.lst 1 (v.2.1.map (a2m 2 y8))),(.int .i64 v.2.2.1)]),.box 1 (.int .i64 v.2.2.2),o 3,o 4])),cZ [2,3,4,13,14,15] fun v:(Bool × (List (List o8)) × Int × Int) => (fun g w c o m => ([],some [.box 1 (.bool v.1),.box 2 (.agg [(.lst 1 (v.2.1.map (a2m 2 y8))),(.int .i64 v.2.2.1)]),.box 1 (.int .i64 v.2.2.2),o 3,o 4]))] Tryz.func174 ?_ (sp:=[(3,[[17,19],[7],[6],[1000]]),(6,[[25,27],[9],[8],[1000]]),(8,[[31,37]]),(11,[[41,45],[47,51],[46,0,51,50,48,47,42],[52,0]])]);exact Z⟩
instance w_impl_commitCode (B:o7) (D:x9) (A:Bool) (r:Int):Wk Tryz.prog (b1i B D A = some r) 77 [(a0s B),(a0o D),(.bool A)] (.int .i64 r):=⟨fun hf => by
 unfold b1i at hf;refine coA [9,23,27] [zI1 [15,16] fun i (v:Int) => (fun g w c o m => ([(4,(.ptr 0 0 0)),(7,(.ptr 1 0 0)),(17,(.int .i64 (i:Int)))],some [o 1,.box 1 (.int .i64 v)])),cZ [4,7,15,16,17] fun v:Bool => (fun g w c o m => ([(32,(.bool v))],some [o 0,o 1])),cZ [] fun v:Int => (fun _ _ _ _ _ => ([(7,(.ptr 0 0 0))],some [.box 1 (.int .i64 v)]))] Tryz.func77 ?_ (sp:=[(5,[[19,21],[9],[8],[1000]]),(6,[[22,30],[31,0],[32]])]);exact Z⟩
instance w_impl_StoreOK (A:o7) (B:x9) (r:Bool):Wk Tryz.prog (b2x A B = some r) 13 [(a0s A),(a0o B)] (.bool r):=⟨fun hf => by
 unfold b2x at hf;refine coA [5,13,27,33] [cZ [2,3] fun v:Bool => (fun _ _ _ _ _ => ([(20,(.bool v))],none)),zI0 [2,3,22,23] fun i => (fun _ _ _ _ _ => ([(24,(.int .i64 (i:Int)))],none)),cZ [2,3,22,23,24] fun v:Bool => (fun g w c o m => ([(40,(.bool v))],some [o 0,o 1])),fZ [] fun v:Unit => (fun _ _ _ _ _ => ([],some []))] Tryz.func13 ?_;exact Z⟩
end Go.R
end
