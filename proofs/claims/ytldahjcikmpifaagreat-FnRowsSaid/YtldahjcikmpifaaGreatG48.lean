/- Part of the proof. -/
import Derived.Test.YtldahjcikmpifaaGreatG29
import Derived.Test.YtldahjcikmpifaaGreatG47

section
set_option linter.all false
namespace Go.R
open Go Go.Proofs
set_option maxRecDepth 100000
set_option maxHeartbeats 8000000
instance w_laws_FnRows (A:(List Int)) (B:(List Int)) (r:Bool):Wk Tryz.prog (b5s A B = some r) 8 [(.lst 1 (A.map a0h)),(.lst 1 (B.map a0h))] (.bool r):=⟨fun hf => by
 unfold b5s at hf;have hcc:=trivial;refine coA [5,23,47] [cZ [0,1] fun v:Bool => (fun _ _ _ _ _ => ([(29,(.bool v))],none)),cZ [5,6,7,8,9] fun v:Bool => (fun g w c o m => ([(59,(.bool v))],some [o 0,o 1,o 2])),cZ [5,6,7,8] fun v:Bool => (fun g w c o m => ([(14,(.ptr 3 0 0)),(121,(.bool v))],some [o 0,o 1,o 2,o 4]))] Tryz.func8 ?_ (sp:=[(1,[[22,29]]),(6,[[38,41],[37],[42,43],[8],[1000],[9]]),(7,[[45,48],[44],[49,50],[10],[1000],[11]]),(8,[[51,59]]),(12,[[65,69],[64],[70,71],[12],[1000],[13]]),(13,[[73,77],[72],[78,79],[14],[1000],[15]]),(14,[[81,85],[80],[86,87],[16],[1000],[17]]),(15,[[89,93],[88],[94,95],[18],[1000],[19]]),(16,[[96,121]]),(18,[[123,127],[122],[128,129],[20],[1000],[21]]),(20,[[132,140],[4]]),(21,[[141,163],[4]])]);exact Z⟩
end Go.R
end
section
set_option linter.all false
end
