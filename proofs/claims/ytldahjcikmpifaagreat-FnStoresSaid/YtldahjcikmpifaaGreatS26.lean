/- Part of the proof. -/
import Derived.Test.YtldahjcikmpifaaGreatS17
import Derived.Test.YtldahjcikmpifaaGreatS18
import Derived.Test.YtldahjcikmpifaaGreatS20
import Derived.Test.YtldahjcikmpifaaGreatS21

section
set_option linter.all false
namespace Go.R
open Go Go.Proofs
set_option maxRecDepth 100000
set_option maxHeartbeats 8000000
instance w_impl_eachSet_h1 (A:o7) (B:x9) (D:Int) (E:Int) (F:Int) (r:(Int × Int × Int)):Wh Tryz.prog (b3t A B D E F = some r) false 174 [(a0s A),(a0o B),(.fn 179 [(.ptr 0 0 0),(.ptr 1 0 0),(.ptr 2 0 0)])] [.box 1 (.int .i64 D),.box 1 (.int .i64 E),.box 1 (.int .i64 F)] (.tup []) [.box 1 (.int .i64 r.1),.box 1 (.int .i64 r.2.1),.box 1 (.int .i64 r.2.2)]:=⟨fun hf => by
 unfold b3t at hf;refine b6a [4,18,38,52,53] [zI3 [2,3,4,13,14] fun i (v:(Int × Int × Int)) => (fun g w c o m => ([(15,(.int .i64 (i:Int)))],some [.box 1 (.int .i64 v.1),.box 1 (.int .i64 v.2.1),.box 1 (.int .i64 v.2.2),o 3,o 4])),zI3 [2,3,4,6,13,14,15,21,22] fun i (v:(Int × Int × Int)) => (fun g w c o m => ([(23,(.int .i64 (i:Int)))],some [.box 1 (.int .i64 v.1),.box 1 (.int .i64 v.2.1),.box 1 (.int .i64 v.2.2),o 3,o 4])),zN3 [2,3,4,6,8,9,13,14,15,21,22,23,35,36] fun i (v:(Int × Int × Int)) => (fun g w c o m => ([(37,(.int .i64 (i:Int)))],some [.box 1 (.int .i64 v.1),.box 1 (.int .i64 v.2.1),.box 1 (.int .i64 v.2.2),o 3,o 4,o 5])),cZ [2,3,4,6,13,14,15,21,22,23] fun v:(Int × Int × Int) => (fun g w c o m => ([],some [.box 1 (.int .i64 v.1),.box 1 (.int .i64 v.2.1),.box 1 (.int .i64 v.2.2),o 3,o 4])),cZ [2,3,4,13,14,15] fun v:(Int × Int × Int) => (fun g w c o m => ([],some [.box 1 (.int .i64 v.1),.box 1 (.int .i64 v.2.1),.box 1 (.int .i64 v.2.2),o 3,o 4]))] Tryz.func174 ?_ (sp:=[(3,[[17,19],[7],[6],[1000]]),(6,[[25,27],[9],[8],[1000]]),(8,[[31,37]]),(11,[[41,45],[47,51],[46,0,51,50,48,47,42],[52,0]])]);exact Z⟩
instance w_impl_strongCount (D:o7) (E:x9) (A:Int) (B:Int) (r:Int):Wk Tryz.prog (a5r D E A B = some r) 80 [(a0s D),(a0o E),(.int .i64 A),(.int .i64 B)] (.int .i64 r):=⟨fun hf => by
 unfold a5r at hf;refine coA [] [] Tryz.func80 ?_;exact Z⟩
instance w_spec_DatumOK (A:(List o5)) (r:Bool):Wk Tryz.prog (b4x A = some r) 131 [(.lst 3 (A.map l9))] (.bool r):=⟨fun hf => by
 unfold b4x at hf;refine coA [13,25,31] [zI0 [0] fun i => (fun _ _ _ _ _ => ([(3,(.int .i64 (i:Int)))],none)),cZ [0,3] fun v:Bool => (fun _ _ _ _ _ => ([(47,(.bool v))],none)),fZ [0] fun v:Unit => (fun _ _ _ _ _ => ([],none))] Tryz.func131 ?_ (sp:=[(5,[[13,16],[17,0],[18,43],[44,0],[45,47]])]);exact Z⟩
instance w_spec_l05Row (A:o6) (B:o8) (r:Bool):Wk Tryz.prog (b5v A B = some r) 183 [(a0c A),(y8 B)] (.bool r):=⟨fun hf => by
 unfold b5v at hf;refine coA [5,13,25,31] [cZ [2,3] fun v:Bool => (fun _ _ _ _ _ => ([(18,(.bool v))],none)),zI0 [2,3] fun i => (fun _ _ _ _ _ => ([(5,(.int .i64 (i:Int)))],none)),cZ [2,3,5] fun v:Bool => (fun _ _ _ _ _ => ([(46,(.bool v))],none)),fZ [] fun v:Unit => (fun _ _ _ _ _ => ([],some []))] Tryz.func183 ?_ (sp:=[(1,[[6,18]]),(5,[[26,30],[31,0],[32,43],[44,0],[45,46]])]);exact Z⟩
end Go.R
end
