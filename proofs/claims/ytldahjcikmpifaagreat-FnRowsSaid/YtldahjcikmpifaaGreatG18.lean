/- Part of the proof. -/
import Derived.Test.YtldahjcikmpifaaGreatG9

section
set_option linter.all false
namespace Go.R
open Go Go.Proofs
set_option maxRecDepth 100000
set_option maxHeartbeats 8000000
instance w_slices_EqualFunc_impl_Row_impl_Row_impl_Row_impl_RowS (A:(List (List o5))) (B:(List (List o5))) (D:((List o5) → (List o5) → Option Bool)) (r:Bool) {k:Nat} {cs:List AV} [kf:K2 Tryz.prog D (fun a0 => (.lst 2 (a0.map o6))) (fun a1 => (.lst 2 (a1.map o6))) (fun r => (.bool r)) k cs]:Wk Tryz.prog (a0v A B D = some r) 152 [(.lst 1 (A.map (a1f 2 o6))),(.lst 1 (B.map (a1f 2 o6))),(.fn k cs)] (.bool r):=⟨fun hf => by
 unfold a0v at hf;refine coA [13,35] [zI0 [1,2,15,16] fun i => (fun _ _ _ _ _ => ([(17,(.int .i64 (i:Int)))],none)),fZ [] fun v:Unit => (fun _ _ _ _ _ => ([],none))] Tryz.func152 ?_;exact Z⟩
instance w_slices_EqualFunc_impl_Row_impl_Row_impl_Row_impl_RowS_252 (A:(List o5)) (B:(List o5)) (D:(o5 → o5 → Option Bool)) (r:Bool) {k:Nat} {cs:List AV} [kf:K2 Tryz.prog D (fun a0 => (o6 a0)) (fun a1 => (o6 a1)) (fun r => (.bool r)) k cs]:Wk Tryz.prog (a0o A B D = some r) 252 [(.lst 2 (A.map o6)),(.lst 2 (B.map o6)),(.fn k cs)] (.bool r):=⟨fun hf => by
 unfold a0o at hf;refine coA [13,35] [zI0 [1,2,15,16] fun i => (fun _ _ _ _ _ => ([(17,(.int .i64 (i:Int)))],none)),fZ [] fun v:Unit => (fun _ _ _ _ _ => ([],none))] Tryz.func252 ?_;exact Z⟩
instance w_slices_EqualFunc_impl_Atom_impl_Atom_impl_Atom_impl_AtomS (A:(List (List o7))) (B:(List (List o7))) (D:((List o7) → (List o7) → Option Bool)) (r:Bool) {k:Nat} {cs:List AV} [kf:K2 Tryz.prog D (fun a0 => (.lst 3 (a0.map l9))) (fun a1 => (.lst 3 (a1.map l9))) (fun r => (.bool r)) k cs]:Wk Tryz.prog (a0p A B D = some r) 312 [(.lst 1 (A.map (a1f 3 l9))),(.lst 1 (B.map (a1f 3 l9))),(.fn k cs)] (.bool r):=⟨fun hf => by
 unfold a0p at hf;refine coA [13,35] [zI0 [1,2,15,16] fun i => (fun _ _ _ _ _ => ([(17,(.int .i64 (i:Int)))],none)),fZ [] fun v:Unit => (fun _ _ _ _ _ => ([],none))] Tryz.func312 ?_;exact Z⟩
instance w_slices_Equal_impl_Atom_impl_Atom (A:(List o7)) (B:(List o7)) (r:Bool):Wk Tryz.prog (a1b A B = some r) 274 [(.lst 3 (A.map l9)),(.lst 3 (B.map l9))] (.bool r):=⟨fun hf => by
 unfold a1b at hf;refine coA [13,33] [zI0 [0,1,12] fun i => (fun _ _ _ _ _ => ([(13,(.int .i64 (i:Int)))],none)),fZ [] fun v:Unit => (fun _ _ _ _ _ => ([],none))] Tryz.func274 ?_;exact Z⟩
instance c_slices_Equal_impl_Atom_impl_Atom :K2 Tryz.prog a1b (fun a0 => (.lst 3 (a0.map l9))) (fun a1 => (.lst 3 (a1.map l9))) (fun r => (.bool r)) 274 []:={hp:=fun a0 a1 r h => w_slices_Equal_impl_Atom_impl_Atom a0 a1 r h}
end Go.R
end
