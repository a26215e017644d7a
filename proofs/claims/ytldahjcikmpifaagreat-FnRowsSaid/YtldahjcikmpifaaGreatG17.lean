/- Part of the proof. -/
import Derived.Test.YtldahjcikmpifaaGreatG9

section
set_option linter.all false
namespace Go.R
open Go Go.Proofs
set_option maxRecDepth 100000
set_option maxHeartbeats 8000000
instance w_spec_l05Plain (A:x9) (r:Bool):Wk Tryz.prog (b1m A = some r) 146 [(a0u A)] (.bool r):=⟨fun hf => by
 unfold b1m at hf;refine coA [5,17,29,35,36] [zN0 [1] fun i => (fun _ _ _ _ _ => ([(3,(.int .i64 (i:Int)))],none)),zI0 [1,3] fun i => (fun _ _ _ _ _ => ([(4,(.int .i64 (i:Int)))],none)),cZ [1,3,4] fun v:Bool => (fun _ _ _ _ _ => ([(45,(.bool v))],none)),fZ [1,3] fun v:Unit => (fun _ _ _ _ _ => ([],none)),fZ [] fun v:Unit => (fun _ _ _ _ _ => ([],some []))] Tryz.func146 ?_ (sp:=[(4,[[12,19]]),(5,[[22,45]])]);exact Z⟩
instance w_laws_sameDatum (A:(List o7)) (B:(List o7)) (r:Bool):Wk Tryz.prog (b0p A B = some r) 53 [(.lst 3 (A.map l9)),(.lst 3 (B.map l9))] (.bool r):=⟨fun hf => by
 unfold b0p at hf;refine coA [13,31] [zI0 [0,1] fun i => (fun _ _ _ _ _ => ([(5,(.int .i64 (i:Int)))],none)),fZ [] fun v:Unit => (fun _ _ _ _ _ => ([],none))] Tryz.func53 ?_;exact Z⟩
instance w_slices_IndexFunc_impl_Row_impl_Row (A:(List o5)) (B:(o5 → Option Bool)) (r:Int) {k:Nat} {cs:List AV} [kf:K1 Tryz.prog B (fun a0 => (o6 a0)) (fun r => (.bool r)) k cs]:Wk Tryz.prog (a1y A B = some r) 178 [(.lst 2 (A.map o6)),(.fn k cs)] (.int .i64 r):=⟨fun hf => by
 unfold a1y at hf;refine coA [5,25] [zI0 [0,1,7] fun i => (fun _ _ _ _ _ => ([(8,(.int .i64 (i:Int)))],none)),fZ [] fun v:Unit => (fun _ _ _ _ _ => ([],none))] Tryz.func178 ?_;exact Z⟩
instance w_impl_drop_1 (B:o5) (A:Int) (r:Bool):Wk Tryz.prog (a5g B A = some r) 251 [(o6 B),(.iptr (.int .i64 A) 0)] (.bool r):=⟨fun hf => by
 unfold a5g at hf;refine coA [] [] Tryz.func251 ?_;exact Z⟩
end Go.R
end
