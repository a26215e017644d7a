/- Part of the proof. -/
import Derived.Test.YtldahjcikmpifaaGreatS30
import Derived.Test.YtldahjcikmpifaaGreatS31
import Derived.Test.YtldahjcikmpifaaGreatS33

section
set_option linter.all false
namespace Go.R
open Go Go.Proofs
set_option maxRecDepth 100000
set_option maxHeartbeats 8000000
instance w_spec_l07Row (B:o6) (D:o8) (A:(List b1v)) (r:(o8 × Int)):Wf Tryz.prog (b5u B D A = some r) 376 [(a0c B),(y8 D),(.lst 3 (A.map a6h))] (.tup [(y8 r.1),(.int .i64 r.2)]):=⟨fun hf => by
 unfold b5u at hf;refine coA [7,31] [zN1 [2,3,4,6] fun i (v:(List (List o5))) => (fun g w c o m => ([(8,(.int .i64 (i:Int)))],some [o 0,.box 2 (.agg [(c 1 0),(.own 3 0 v.length)]),o 2,.row 1 (v.map (a2m 3 l9))])),fZ [] fun v:(List (List o5)) => (fun g w c o m => ([(4,(.ptr 0 0 0)),(6,(.ptr 1 0 0))],some [.box 2 (.agg [(c 1 0),(.own 2 0 v.length)]),o 2,.row 1 (v.map (a2m 3 l9))]))] Tryz.func376 ?_ (sp:=[(4,[[20,25],[26,0],[9]]),(5,[[28,41],[42,0],[27],[43,44],[10,11]]),(8,[[49,53],[1000]])]);exact Z⟩
instance w_spec_SchemaOK (A:o7) (r:Bool):Wk Tryz.prog (b1u A = some r) 83 [(a0s A)] (.bool r):=⟨fun hf => by
 unfold b1u at hf;refine coA [13,26,33,47,53,54] [zI0 [1] fun i => (fun _ _ _ _ _ => ([(3,(.int .i64 (i:Int)))],none)),cZ [1,3] fun v:Bool => (fun _ _ _ _ _ => ([(44,(.bool v))],none)),zN0 [1,3] fun i => (fun _ _ _ _ _ => ([(4,(.int .i64 (i:Int)))],none)),cZ [1,3,4] fun v:Bool => (fun g w c o m => ([(74,(.bool v))],some [o 0])),fZ [1,3] fun v:Unit => (fun _ _ _ _ _ => ([],none)),fZ [] fun v:Unit => (fun _ _ _ _ _ => ([],some []))] Tryz.func83 ?_ (sp:=[(5,[[18,22],[23,0],[24,44]]),(8,[[45,53]]),(9,[[56,64],[5],[1000]]),(10,[[65,74]])]);exact Z⟩
instance w_impl_RowOK (A:o6) (B:o8) (r:Bool):Wk Tryz.prog (b5g A B = some r) 16 [(a0c A),(y8 B)] (.bool r):=⟨fun hf => by
 unfold b5g at hf;refine coA [] [] Tryz.func16 ?_;exact Z⟩
end Go.R
end
