/- Part of the proof. -/
import Derived.Test.YtldahjcikmpifaaGreatG9

section
set_option linter.all false
namespace Go.R
open Go Go.Proofs
set_option maxRecDepth 100000
set_option maxHeartbeats 8000000
instance w_laws_at (A:(List Int)) (B:Int) (D:Int) (r:Int):Wk Tryz.prog (c2l A B D = some r) 48 [(.lst 1 (A.map a0h)),(.int .i64 B),(.int .i64 D)] (.int .i64 r):=⟨fun hf => by
 unfold c2l at hf;refine coA [] [] Tryz.func48 ?_ (sp:=[(5,[[16,41],[6]])]);exact Z⟩
instance w_slices_IndexFunc_impl_Row_impl_RowS (A:(List (List o5))) (B:((List o5) → Option Bool)) (r:Int) {k:Nat} {cs:List AV} [kf:K1 Tryz.prog B (fun a0 => (.lst 2 (a0.map o6))) (fun r => (.bool r)) k cs]:Wk Tryz.prog (a1u A B = some r) 308 [(.lst 1 (A.map (a1f 2 o6))),(.fn k cs)] (.int .i64 r):=⟨fun hf => by
 unfold a1u at hf;refine coA [5,25] [zI0 [0,1,7] fun i => (fun _ _ _ _ _ => ([(8,(.int .i64 (i:Int)))],none)),fZ [] fun v:Unit => (fun _ _ _ _ _ => ([],none))] Tryz.func308 ?_;exact Z⟩
instance w_impl_areRising (A:(List o5)) (r:Bool):Wk Tryz.prog (b0o A = some r) 172 [(.lst 2 (A.map o6))] (.bool r):=⟨fun hf => by
 unfold b0o at hf;refine coA [5,23] [e7t [0] fun i => (fun _ _ _ _ _ => ([(3,(.int .i64 (i:Int)))],none)),fZ [] fun v:Unit => (fun _ _ _ _ _ => ([],none))] Tryz.func172 ?_;exact Z⟩
instance w_impl_within (D:Int) (B:Int) (A:Int) (r:Bool):Wk Tryz.prog (b5r D B A = some r) 81 [(.int .i64 D),(.int .i64 B),(.int .i64 A)] (.bool r):=⟨fun hf => by
 unfold b5r at hf;refine coA [] [] Tryz.func81 ?_;exact Z⟩
end Go.R
end
