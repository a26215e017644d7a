/- Part of the proof. -/
import Derived.Test.YtldahjcikmpifaaGreatS44
import Derived.Test.YtldahjcikmpifaaGreatS45

section
set_option linter.all false
namespace Go.R
open Go Go.Proofs
set_option maxRecDepth 100000
set_option maxHeartbeats 8000000
instance w_spec_StoreOf (A:(List Int)) (r:x9):Ww Tryz.prog (b4s A = some r) 11 [(.lst 1 (A.map a0p))] (a0o r):=⟨fun hf => by
 unfold b4s at hf;refine coA [] [] Tryz.func11 ?_;exact Z⟩
instance w_laws_FnStores (A:(List Int)) (r:Bool):Wk Tryz.prog (b5n A = some r) 3 [(.lst 1 (A.map a0p))] (.bool r):=⟨fun hf => by
 unfold b5n at hf;have hcc:=trivial;refine coA [19,27,43,49] [cZ [3,4] fun v:Bool => (fun g w c o m => ([(36,(.bool v))],some [o 0,o 1])),zF1 [3,4] fun v:Int => (fun _ _ _ _ _ => ([(7,(.int .i64 v))],none)),cZ [3,4,7] fun v:Bool => (fun _ _ _ _ _ => ([(99,(.bool v))],none)),fZ [] fun v:Unit => (fun _ _ _ _ _ => ([],some []))] Tryz.func3 ?_ (sp:=[(5,[[19,20],[18],[21,22],[5],[1000],[6]]),(6,[[23,36]]),(9,[[37,43]]),(10,[[47,56],[57,0],[46],[58,59],[8,9]]),(11,[[61,70],[71,0],[60],[72,73],[10,11]]),(12,[[74,96],[97,0],[98,99]])]);exact Z⟩
end Go.R
end
section
set_option linter.all false
end
