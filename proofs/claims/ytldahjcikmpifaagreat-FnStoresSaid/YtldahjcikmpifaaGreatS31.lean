/- Part of the proof. -/
import Derived.Test.YtldahjcikmpifaaGreatS22
import Derived.Test.YtldahjcikmpifaaGreatS25

section
set_option linter.all false
namespace Go.R
open Go Go.Proofs
set_option maxRecDepth 100000
set_option maxHeartbeats 8000000
instance w_impl_Store_sharesIds_1 (D:o8) (A:x9) (B:Int) (r:Bool):Wk Tryz.prog (a5c D A B = some r) 173 [(y8 D),(.iptr (a0o A) 0),(.iptr (.int .i64 B) 0)] (.bool r):=⟨fun hf => by
 unfold a5c at hf;refine coA [] [] Tryz.func173 ?_;exact Z⟩
instance c_impl_Store_sharesIds_1 (A:x9) (B:Int):K1 Tryz.prog (fun a0 => a5c a0 A B) (fun a0 => (y8 a0)) (fun r => (.bool r)) 173 [(.iptr (a0o A) 0),(.iptr (.int .i64 B) 0)]:={hp:=fun a0 r h => w_impl_Store_sharesIds_1 a0 A B r h}
instance w_spec_ColumnOK (A:y7) (r:Bool):Wk Tryz.prog (b3p A = some r) 276 [(a0n A)] (.bool r):=⟨fun hf => by
 unfold b3p at hf;refine coA [5,21] [cZ [1] fun v:Bool => (fun _ _ _ _ _ => ([(24,(.bool v))],none)),cZ [1] fun v:Bool => (fun _ _ _ _ _ => ([(57,(.bool v))],none))] Tryz.func276 ?_;exact Z⟩
instance w_spec_l04Table (A:o6) (r:Bool):Wk Tryz.prog (b1t A = some r) 181 [(a0c A)] (.bool r):=⟨fun hf => by
 unfold b1t at hf;refine coA [5,13,33,51,52,55,67,73] [cZ [1] fun v:Bool => (fun _ _ _ _ _ => ([(22,(.bool v))],none)),zI0 [1] fun i => (fun _ _ _ _ _ => ([(3,(.int .i64 (i:Int)))],none)),zF1 [1,3] fun v:Int => (fun _ _ _ _ _ => ([(4,(.int .i64 v))],none)),fZ [1,3] fun v:Unit => (fun _ _ _ _ _ => ([],none)),fZ [1] fun v:Unit => (fun _ _ _ _ _ => ([],none)),zI0 [1] fun i => (fun _ _ _ _ _ => ([(5,(.int .i64 (i:Int)))],none)),cZ [1,5] fun v:Bool => (fun _ _ _ _ _ => ([(90,(.bool v))],none)),fZ [] fun v:Unit => (fun _ _ _ _ _ => ([],some []))] Tryz.func181 ?_ (sp:=[(1,[[6,22]]),(5,[[30,36]]),(9,[[42,54]]),(15,[[62,70],[71,0],[72,90]])]);exact Z⟩
end Go.R
end
