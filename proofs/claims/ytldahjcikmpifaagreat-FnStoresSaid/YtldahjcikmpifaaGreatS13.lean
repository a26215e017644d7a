/- Part of the proof. -/
import Derived.Test.YtldahjcikmpifaaGreatS9

section
set_option linter.all false
namespace Go.R
open Go Go.Proofs
set_option maxRecDepth 100000
set_option maxHeartbeats 8000000
instance w_spec_l00Source_h2 (A:(List Int)) (r:x8):Wh Tryz.prog (a3h A = some r) false 72 [(.lst 1 (A.map a0p))] [] (.ptr 0 0 0) [.box 3 (.agg [(.lst 1 (r.Code.map a0p)),(.int .i64 r.At),(.int .i64 r.Seed)])]:=⟨fun hf => by
 unfold a3h at hf;refine b6a [] [] Tryz.func72 ?_;exact Z⟩
instance w_spec_l00Src_size_h2 (A:Int) (B:x8) (r:(Int × x8)):Wh Tryz.prog (a9g A B = some r) false 164 [(.ptr 0 0 0),(.int .i64 A)] [.box 3 (.agg [(.lst 1 (B.Code.map a0p)),(.int .i64 B.At),(.int .i64 B.Seed)])] (.int .i64 r.1) [.box 3 (.agg [(.lst 1 (r.2.Code.map a0p)),(.int .i64 r.2.At),(.int .i64 r.2.Seed)])]:=⟨fun hf => by
 unfold a9g at hf;refine b6a [] [] Tryz.func164 ?_;exact Z⟩
instance w_spec_l00Src_byte_h2 (A:x8) (r:(Int × x8)):Wh Tryz.prog (a1k A = some r) false 261 [(.ptr 0 0 0)] [.box 3 (.agg [(.lst 1 (A.Code.map a0p)),(.int .i64 A.At),(.int .i64 A.Seed)])] (.int .i64 r.1) [.box 3 (.agg [(.lst 1 (r.2.Code.map a0p)),(.int .i64 r.2.At),(.int .i64 r.2.Seed)])]:=⟨fun hf => by
 unfold a1k at hf;refine b6a [] [] Tryz.func261 ?_ (sp:=[(1,[[3,9],[1000]]),(2,[[10,19]]),(3,[[20,42],[1000,0]]),(4,[[43,54],[2]]),(7,[[60,69],[1000]]),(8,[[70,75],[2]])]);exact Z⟩
instance w_impl_within (D:Int) (B:Int) (A:Int) (r:Bool):Wk Tryz.prog (a2r D B A = some r) 81 [(.int .i64 D),(.int .i64 B),(.int .i64 A)] (.bool r):=⟨fun hf => by
 unfold a2r at hf;refine coA [] [] Tryz.func81 ?_;exact Z⟩
instance w_impl_isDigit (A:Int) (r:Bool):Wk Tryz.prog (b4t A = some r) 278 [(.int .u8 A)] (.bool r):=⟨fun hf => by
 unfold b4t at hf;refine coA [] [] Tryz.func278 ?_;exact Z⟩
instance w_slices_IndexFunc_impl_Column_impl_Column (A:(List y7)) (B:(y7 → Option Bool)) (r:Int) {k:Nat} {cs:List AV} [kf:K1 Tryz.prog B (fun a0 => (a0n a0)) (fun r => (.bool r)) k cs]:Wk Tryz.prog (a0u A B = some r) 268 [(.lst 8 (A.map a0n)),(.fn k cs)] (.int .i64 r):=⟨fun hf => by
 unfold a0u at hf;refine coA [5,25] [zI0 [0,1,7] fun i => (fun _ _ _ _ _ => ([(8,(.int .i64 (i:Int)))],none)),fZ [] fun v:Unit => (fun _ _ _ _ _ => ([],none))] Tryz.func268 ?_;exact Z⟩
end Go.R
end
