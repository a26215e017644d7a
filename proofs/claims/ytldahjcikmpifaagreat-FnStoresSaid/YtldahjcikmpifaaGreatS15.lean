/- Part of the proof. -/
import Derived.Test.YtldahjcikmpifaaGreatS9

section
set_option linter.all false
namespace Go.R
open Go Go.Proofs
set_option maxRecDepth 100000
set_option maxHeartbeats 8000000
set_option maxRecDepth 100000 in
open Go.RowKit in
theorem e9q (a b:ByteArray) (w:World):Calls Tryz.prog 351 #[.string a,.string b] w fun e w' => e = .returned (.int .i64 (Lib.compareBytes a.data.toList b.data.toList)) ∧ w' = w:=by
  go_enter Tryz.func351,(show Tryz.f351.ntmps = _ from rfl)
  go_wp2
  rw [run_callFunc_extern Tryz.func384 (by kernel_rfl) (by kernel_rfl) (by kernel_rfl) (e:=Extern.BytealgCompare.compare) (by kernel_rfl),Lib.run_compareString]
  simp only [Result.andThen]
  rw [Oper.upon_value]
  go_wp2
  go_ret
  exact ⟨rfl,rfl⟩
open Go.RowKit in
instance w_internal_bytealg_CompareString (a b:Str) (r:Int):Wk Tryz.prog (a3q a b = some r) 351 [(.str a),(.str b)] (.int .i64 r):=⟨fun hf => by
  intro w vals fps hr
  simp only [a0x,Rep] at hr
  obtain ⟨v1,vs1,f1,f2,rfl,⟨rfl,h1,rfl⟩,⟨v2,vs2,f3,f4,rfl,⟨rfl,h2,rfl⟩,⟨rfl,rfl⟩,rfl⟩,rfl⟩:=hr
  unfold a3q at hf
  obtain rfl:=os hf
  refine (e9q ⟨a.toArray⟩ ⟨b.toArray⟩ w).mono ?_
  rintro e w' ⟨rfl,rfl⟩
  refine ⟨Below.refl _ _,?_⟩
  exact ⟨[.int .i64 (Lib.compareBytes a b)],rfl,by simp [Rep]⟩⟩
instance w_slices_IndexFunc_impl_Atom_impl_Atom (A:(List o5)) (B:(o5 → Option Bool)) (r:Int) {k:Nat} {cs:List AV} [kf:K1 Tryz.prog B (fun a0 => (l9 a0)) (fun r => (.bool r)) k cs]:Wk Tryz.prog (a1e A B = some r) 294 [(.lst 3 (A.map l9)),(.fn k cs)] (.int .i64 r):=⟨fun hf => by
 unfold a1e at hf;refine coA [5,25] [zI0 [0,1,7] fun i => (fun _ _ _ _ _ => ([(8,(.int .i64 (i:Int)))],none)),fZ [] fun v:Unit => (fun _ _ _ _ _ => ([],none))] Tryz.func294 ?_;exact Z⟩
instance w_slices_IndexFunc_impl_Row_impl_Row (A:(List o8)) (B:(o8 → Option Bool)) (r:Int) {k:Nat} {cs:List AV} [kf:K1 Tryz.prog B (fun a0 => (y8 a0)) (fun r => (.bool r)) k cs]:Wk Tryz.prog (a1x A B = some r) 178 [(.lst 2 (A.map y8)),(.fn k cs)] (.int .i64 r):=⟨fun hf => by
 unfold a1x at hf;refine coA [5,25] [zI0 [0,1,7] fun i => (fun _ _ _ _ _ => ([(8,(.int .i64 (i:Int)))],none)),fZ [] fun v:Unit => (fun _ _ _ _ _ => ([],none))] Tryz.func178 ?_;exact Z⟩
instance w_slices_BinarySearchFunc_impl_Row_impl_Row_int (D:(List o8)) (A:Int) (B:(o8 → Int → Option Int)) (r:(Int × Bool)) {k:Nat} {cs:List AV} [kf:K2 Tryz.prog B (fun a0 => (y8 a0)) (fun a1 => (.int .i64 a1)) (fun r => (.int .i64 r)) k cs]:Wk Tryz.prog (a1q D A B = some r) 247 [(.lst 2 (D.map y8)),(.int .i64 A),(.fn k cs)] (.tup [(.int .i64 r.1),(.bool r.2)]):=⟨fun hf => by
 unfold a1q at hf;refine coA [7,23] [zF2 [0,1,2,8] fun v:(Int × Int) => (fun _ _ _ _ _ => ([(9,(.int .i64 v.1)),(10,(.int .i64 v.2))],none)),cZ [0,1,2,8] fun v:Int => (fun _ _ _ _ _ => ([(9,(.int .i64 v))],none))] Tryz.func247 ?_;exact Z⟩
instance w_slices_IndexFunc_int_int (A:(List Int)) (B:(Int → Option Bool)) (r:Int) {k:Nat} {cs:List AV} [kf:K1 Tryz.prog B (fun a0 => (.int .i64 a0)) (fun r => (.bool r)) k cs]:Wk Tryz.prog (a4e A B = some r) 331 [(.lst 1 (A.map encI)),(.fn k cs)] (.int .i64 r):=⟨fun hf => by
 unfold a4e at hf;refine coA [5,25] [zI0 [0,1,7] fun i => (fun _ _ _ _ _ => ([(8,(.int .i64 (i:Int)))],none)),fZ [] fun v:Unit => (fun _ _ _ _ _ => ([],none))] Tryz.func331 ?_;exact Z⟩
instance w_slices_Equal_impl_Atom_impl_Atom (A:(List o5)) (B:(List o5)) (r:Bool):Wk Tryz.prog (a2l A B = some r) 274 [(.lst 3 (A.map l9)),(.lst 3 (B.map l9))] (.bool r):=⟨fun hf => by
 unfold a2l at hf;refine coA [13,33] [zI0 [0,1,12] fun i => (fun _ _ _ _ _ => ([(13,(.int .i64 (i:Int)))],none)),fZ [] fun v:Unit => (fun _ _ _ _ _ => ([],none))] Tryz.func274 ?_;exact Z⟩
end Go.R
end
