/- Part of the proof. -/
import Derived.Test.YtldahjcikmpifaaGreatG29
import Derived.Test.YtldahjcikmpifaaGreatG47

section
set_option linter.all false
namespace Go.R
open Go Go.Proofs
set_option maxRecDepth 100000
set_option cbv.maxSteps 100000000
set_option maxHeartbeats 8000000
instance w_laws_FnRows (A:(List Int)) (B:(List Int)) (r:Bool):Wk Tryz.prog (b5s A B = some r) 8 [(.lst 1 (A.map a0h)),(.lst 1 (B.map a0h))] (.bool r):=⟨fun hf => by
 unfold b5s at hf;have hcc:=trivial;refine coA [5,23,47] [cZ [0,1] fun v:Bool => (fun _ _ _ _ _ => ([(29,(.bool v))],none)),cZ [5,6,7,8,9] fun v:Bool => (fun g w c o m => ([(59,(.bool v))],some [o 0,o 1,o 2])),cZ [5,6,7,8] fun v:Bool => (fun g w c o m => ([(14,(.ptr 3 0 0)),(121,(.bool v))],some [o 0,o 1,o 2,o 4]))] Tryz.func8 ?_;exact Z⟩
end Go.R
end
section
set_option linter.all false
end
