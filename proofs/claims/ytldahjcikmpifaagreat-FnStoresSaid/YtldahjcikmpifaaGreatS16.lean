/- Part of the proof. -/
import Derived.Test.YtldahjcikmpifaaGreatS9

section
set_option linter.all false
namespace Go.R
open Go Go.Proofs
set_option maxRecDepth 100000
set_option maxHeartbeats 8000000
instance w_slices_Index_impl_Atom_impl_Atom (A:(List o5)) (B:o5) (r:Int):Wk Tryz.prog (a3j A B = some r) 275 [(.lst 3 (A.map l9)),(l9 B)] (.int .i64 r):=⟨fun hf => by
 unfold a3j at hf;refine coA [5,25] [zI0 [0,3,7] fun i => (fun _ _ _ _ _ => ([(8,(.int .i64 (i:Int)))],none)),fZ [] fun v:Unit => (fun _ _ _ _ _ => ([],some []))] Tryz.func275 ?_;exact Z⟩
instance w_slices_Contains_impl_Atom_impl_Atom (A:(List o5)) (B:o5) (r:Bool):Wk Tryz.prog (a1v A B = some r) 180 [(.lst 3 (A.map l9)),(l9 B)] (.bool r):=⟨fun hf => by
 unfold a1v at hf;refine coA [] [] Tryz.func180 ?_;exact Z⟩
instance w_impl_strongCount_1_h0 (B:y7) (A:Int) (D:(List o5)) (E:Int) (F:Int) (G:Int) (r:(Int × Int × Int)):Wh Tryz.prog (a5k B A D E F G = some r) false 179 [(a0n B),(.int .i64 A),(.lst 3 (D.map l9)),(.ptr 0 0 0),(.ptr 1 0 0),(.ptr 2 0 0)] [.box 1 (.int .i64 E),.box 1 (.int .i64 F),.box 1 (.int .i64 G)] (.tup []) [.box 1 (.int .i64 r.1),.box 1 (.int .i64 r.2.1),.box 1 (.int .i64 r.2.2)]:=⟨fun hf => by
 unfold a5k at hf;refine b6a [4] [cZ [5] fun v:Bool => (fun g w c o m => ([(21,(.bool v))],some [o 0,o 1,o 2]))] Tryz.func179 ?_;exact Z⟩
instance w_spec_l01Text (A:Str) (r:Bool):Wk Tryz.prog (b4w A = some r) 298 [(.str A)] (.bool r):=⟨fun hf => by
 unfold b4w at hf;refine coA [5,17,23] [zN0 [0] fun i => (fun _ _ _ _ _ => ([(3,(.int .i64 (i:Int)))],none)),cZ [0,3] fun v:Bool => (fun _ _ _ _ _ => ([(19,(.bool v))],none)),fZ [0] fun v:Unit => (fun _ _ _ _ _ => ([],none))] Tryz.func298 ?_;exact Z⟩
end Go.R
end
