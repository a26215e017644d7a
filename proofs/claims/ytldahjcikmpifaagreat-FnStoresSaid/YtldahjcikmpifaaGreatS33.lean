/- Part of the proof. -/
import Derived.Test.YtldahjcikmpifaaGreatS25
import Derived.Test.YtldahjcikmpifaaGreatS26
import Derived.Test.YtldahjcikmpifaaGreatS29

section
set_option linter.all false
namespace Go.R
open Go Go.Proofs
set_option maxRecDepth 100000
set_option maxHeartbeats 8000000
instance w_spec_l07Mutate (A:y7) (B:(List o5)) (D:b1v) (r:((List o5) × Int)):Wf Tryz.prog (b2i A B D = some r) 397 [(a0n A),(.lst 3 (B.map l9)),(a6h D)] (.tup [(.lst 3 (r.1.map l9)),(.int .i64 r.2)]):=⟨fun hf => by
 unfold b2i at hf;refine coA [18,40] [zN1 [1,3,5] fun i (v:(List o5)) => (fun g w c o m => ([(8,(.own 2 0 v.length)),(9,(.int .i64 (i:Int)))],some [o 0,o 1,.row 3 (v.map l9)])),fZ [3] fun v:(List o5) => (fun g w c o m => ([(8,(.own 1 0 v.length))],some [o 0,.row 3 (v.map l9)]))] Tryz.func397 ?_ (sp:=[(9,[[23,34],[35,0],[22],[36,37],[10,11]])]);exact Z⟩
instance w_impl_Store_isRefUnmet_1 (D:o5) (A:x9) (B:Int) (r:Bool):Wk Tryz.prog (a4s D A B = some r) 271 [(l9 D),(.iptr (a0o A) 0),(.iptr (.int .i64 B) 0)] (.bool r):=⟨fun hf => by
 unfold a4s at hf;refine coA [] [] Tryz.func271 ?_;exact Z⟩
instance c_impl_Store_isRefUnmet_1 (A:x9) (B:Int):K1 Tryz.prog (fun a0 => a4s a0 A B) (fun a0 => (l9 a0)) (fun r => (.bool r)) 271 [(.iptr (a0o A) 0),(.iptr (.int .i64 B) 0)]:={hp:=fun a0 r h => w_impl_Store_isRefUnmet_1 a0 A B r h}
instance w_spec_l05Form (A:o7) (B:x9) (r:Bool):Wk Tryz.prog (b2y A B = some r) 84 [(a0s A),(a0o B)] (.bool r):=⟨fun hf => by
 unfold b2y at hf;refine coA [5,13,33,47,53,54] [cZ [2,3] fun v:Bool => (fun _ _ _ _ _ => ([(20,(.bool v))],none)),zI0 [2,3] fun i => (fun _ _ _ _ _ => ([(5,(.int .i64 (i:Int)))],none)),zI0 [2,3,5] fun i => (fun _ _ _ _ _ => ([(6,(.int .i64 (i:Int)))],none)),cZ [2,3,5,6] fun v:Bool => (fun g w c o m => ([(86,(.bool v))],some [o 0,o 1])),fZ [2,3,5] fun v:Unit => (fun _ _ _ _ _ => ([],none)),fZ [] fun v:Unit => (fun _ _ _ _ _ => ([],some []))] Tryz.func84 ?_ (sp:=[(1,[[8,20]]),(5,[[28,34]]),(8,[[35,42]]),(9,[[45,52],[7],[1000]]),(10,[[53,58],[59,0],[60,86]])]);exact Z⟩
end Go.R
end
