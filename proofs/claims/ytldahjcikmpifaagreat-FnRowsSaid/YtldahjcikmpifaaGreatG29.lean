/- Part of the proof. -/
import Derived.Test.YtldahjcikmpifaaGreatG24

section
set_option linter.all false
namespace Go.R
open Go Go.Proofs
set_option maxRecDepth 100000
set_option maxHeartbeats 8000000
instance w_laws_sameTables (A:x9) (B:x9) (r:Bool):Wk Tryz.prog (a9q A B = some r) 149 [(a0u A),(a0u B)] (.bool r):=⟨fun hf => by
 unfold a9q at hf;refine coA [13,31] [zI0 [2,3] fun i => (fun _ _ _ _ _ => ([(5,(.int .i64 (i:Int)))],none)),fZ [] fun v:Unit => (fun _ _ _ _ _ => ([],some []))] Tryz.func149 ?_ (sp:=[(1,[[6,12]]),(5,[[20,29],[30,0],[31]])]);exact Z⟩
instance w_laws_sameStore (A:x9) (B:x9) (r:Bool):Wk Tryz.prog (a8m A B = some r) 60 [(a0u A),(a0u B)] (.bool r):=⟨fun hf => by
 unfold a8m at hf;refine coA [] [] Tryz.func60 ?_;exact Z⟩
instance w_impl_sameRows (A:(List o5)) (B:(List o5)) (r:Bool):Wk Tryz.prog (a6c A B = some r) 153 [(.lst 2 (A.map o6)),(.lst 2 (B.map o6))] (.bool r):=⟨fun hf => by
 unfold a6c at hf;refine coA [] [] Tryz.func153 ?_;exact Z⟩
instance c_impl_sameRows :K2 Tryz.prog a6c (fun a0 => (.lst 2 (a0.map o6))) (fun a1 => (.lst 2 (a1.map o6))) (fun r => (.bool r)) 153 []:={hp:=fun a0 a1 r h => w_impl_sameRows a0 a1 r h}
instance w_impl_SameStore (A:x9) (B:x9) (r:Bool):Wk Tryz.prog (a8n A B = some r) 64 [(a0u A),(a0u B)] (.bool r):=⟨fun hf => by
 unfold a8n at hf;refine coA [] [] Tryz.func64 ?_;exact Z⟩
end Go.R
end
