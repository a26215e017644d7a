/- Part of the proof. -/
import Derived.Test.YtldahjcikmpifaaGreatS10
import Derived.Test.YtldahjcikmpifaaGreatS13
import Derived.Test.YtldahjcikmpifaaGreatS15
import Derived.Test.YtldahjcikmpifaaGreatS16

section
set_option linter.all false
namespace Go.R
open Go Go.Proofs
set_option maxRecDepth 100000
set_option maxHeartbeats 8000000
instance w_strings_Compare (A:Str) (B:Str) (r:Int):Wk Tryz.prog (strings_Compare A B = some r) 305 [(.str A),(.str B)] (.int .i64 r):=⟨fun hf => by
 unfold strings_Compare at hf;refine coA [] [] Tryz.func305 ?_;exact Z⟩
instance w_slices_ContainsFunc_impl_Atom_impl_Atom (A:(List o5)) (B:(o5 → Option Bool)) (r:Bool) {k:Nat} {cs:List AV} [kf:K1 Tryz.prog B (fun a0 => (l9 a0)) (fun r => (.bool r)) k cs]:Wk Tryz.prog (a0j A B = some r) 270 [(.lst 3 (A.map l9)),(.fn k cs)] (.bool r):=⟨fun hf => by
 unfold a0j at hf;refine coA [] [] Tryz.func270 ?_;exact Z⟩
instance w_impl_Column_fits_1 (B:o5) (A:y7) (r:Bool):Wk Tryz.prog (a2y B A = some r) 280 [(l9 B),(.iptr (a0n A) 0)] (.bool r):=⟨fun hf => by
 unfold a2y at hf;refine coA [] [] Tryz.func280 ?_;exact Z⟩
instance c_impl_Column_fits_1 (A:y7):K1 Tryz.prog (fun a0 => a2y a0 A) (fun a0 => (l9 a0)) (fun r => (.bool r)) 280 [(.iptr (a0n A) 0)]:={hp:=fun a0 r h => w_impl_Column_fits_1 a0 A r h}
instance w_impl_Column_fits (A:y7) (B:(List o5)) (r:Int):Wk Tryz.prog (a9u A B = some r) 189 [(a0n A),(.lst 3 (B.map l9))] (.int .i64 r):=⟨fun hf => by
 unfold a9u at hf;refine coA [6,18] [cZ [1,2] fun v:Bool => (fun _ _ _ _ _ => ([(5,(.bool v))],none)),cZ [] fun v:Bool => (fun _ _ _ _ _ => ([(27,(.bool v))],some []))] Tryz.func189 ?_;exact Z⟩
instance w_slices_ContainsFunc_impl_Row_impl_Row (A:(List o8)) (B:(o8 → Option Bool)) (r:Bool) {k:Nat} {cs:List AV} [kf:K1 Tryz.prog B (fun a0 => (y8 a0)) (fun r => (.bool r)) k cs]:Wk Tryz.prog (a1b A B = some r) 78 [(.lst 2 (A.map y8)),(.fn k cs)] (.bool r):=⟨fun hf => by
 unfold a1b at hf;refine coA [] [] Tryz.func78 ?_;exact Z⟩
instance w_slices_ContainsFunc_int_int (A:(List Int)) (B:(Int → Option Bool)) (r:Bool) {k:Nat} {cs:List AV} [kf:K1 Tryz.prog B (fun a0 => (.int .i64 a0)) (fun r => (.bool r)) k cs]:Wk Tryz.prog (a2o A B = some r) 272 [(.lst 1 (A.map encI)),(.fn k cs)] (.bool r):=⟨fun hf => by
 unfold a2o at hf;refine coA [] [] Tryz.func272 ?_;exact Z⟩
instance w_impl_hasAlike_1 (D:Int) (A:o8) (B:o8) (r:Bool):Wk Tryz.prog (a8b D A B = some r) 273 [(.int .i64 D),(.iptr (y8 A) 0),(.iptr (y8 B) 0)] (.bool r):=⟨fun hf => by
 unfold a8b at hf;refine coA [] [] Tryz.func273 ?_ (sp:=[(1,[[5,14],[15,0],[16],[4]])]);exact Z⟩
instance c_impl_hasAlike_1 (A:o8) (B:o8):K1 Tryz.prog (fun a0 => a8b a0 A B) (fun a0 => (.int .i64 a0)) (fun r => (.bool r)) 273 [(.iptr (y8 A) 0),(.iptr (y8 B) 0)]:={hp:=fun a0 r h => w_impl_hasAlike_1 a0 A B r h}
instance w_spec_AtomOK (A:o5) (r:Bool):Wk Tryz.prog (b4c A = some r) 228 [(l9 A)] (.bool r):=⟨fun hf => by
 unfold b4c at hf;refine coA [] [] Tryz.func228 ?_;exact Z⟩
end Go.R
end
