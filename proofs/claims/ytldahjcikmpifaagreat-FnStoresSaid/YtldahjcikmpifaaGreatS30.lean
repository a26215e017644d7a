/- Part of the proof. -/
import Derived.Test.YtldahjcikmpifaaGreatS25

section
set_option linter.all false
namespace Go.R
open Go Go.Proofs
set_option maxRecDepth 100000
set_option maxHeartbeats 8000000
instance w_impl_DatumOK (A:(List o5)) (r:Bool):Wk Tryz.prog (b4v A = some r) 129 [(.lst 3 (A.map l9))] (.bool r):=⟨fun hf => by
 unfold b4v at hf;refine coA [5,19,25] [zI0 [0,5,6] fun i => (fun _ _ _ _ _ => ([(7,(.int .i64 (i:Int)))],none)),cZ [0,5,6,7] fun v:Bool => (fun _ _ _ _ _ => ([(37,(.bool v))],some [])),fZ [0] fun v:Unit => (fun _ _ _ _ _ => ([],none))] Tryz.func129 ?_ (sp:=[(3,[[9,11],[4],[3],[1000]]),(4,[[12],[13,0],[14,33],[34,0],[35,37]])]);exact Z⟩
instance w_impl_cellsOK (A:o6) (B:o8) (r:Bool):Wk Tryz.prog (b2w A B = some r) 90 [(a0c A),(y8 B)] (.bool r):=⟨fun hf => by
 unfold b2w at hf;refine coA [13,27,33] [zI0 [2,15,16] fun i => (fun g w c o m => ([(17,(.int .i64 (i:Int)))],some [o 0])),cZ [2,15,16,17] fun v:Bool => (fun _ _ _ _ _ => ([(34,(.bool v))],none)),fZ [] fun v:Unit => (fun _ _ _ _ _ => ([],some []))] Tryz.func90 ?_;exact Z⟩
end Go.R
end
