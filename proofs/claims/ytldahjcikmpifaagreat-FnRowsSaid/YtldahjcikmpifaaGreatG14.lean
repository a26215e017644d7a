/- Part of the proof. -/
import Derived.Test.YtldahjcikmpifaaGreatG9

section
set_option linter.all false
namespace Go.R
open Go Go.Proofs
set_option maxRecDepth 100000
set_option maxHeartbeats 8000000
instance w_spec_l05Place (A:(List o5)) (B:Int) (r:Int):Wk Tryz.prog (a4h A B = some r) 86 [(.lst 2 (A.map o6)),(.int .i64 B)] (.int .i64 r):=⟨fun hf => by
 unfold a4h at hf;refine coA [5,23] [zI0 [0,1] fun i => (fun _ _ _ _ _ => ([(5,(.int .i64 (i:Int)))],none)),fZ [] fun v:Unit => (fun _ _ _ _ _ => ([],none))] Tryz.func86 ?_;exact Z⟩
instance w_spec_l00Source_h2 (A:(List Int)) (r:o8):Wh Tryz.prog (a5m A = some r) false 72 [(.lst 1 (A.map a0h))] [] (.ptr 0 0 0) [.box 3 (.agg [(.lst 1 (r.Code.map a0h)),(.int .i64 r.At),(.int .i64 r.Seed)])]:=⟨fun hf => by
 unfold a5m at hf;refine b3b [] [] Tryz.func72 ?_;exact Z⟩
instance w_spec_l00Src_size_h2 (A:Int) (B:o8) (r:(Int × o8)):Wh Tryz.prog (a7v A B = some r) false 164 [(.ptr 0 0 0),(.int .i64 A)] [.box 3 (.agg [(.lst 1 (B.Code.map a0h)),(.int .i64 B.At),(.int .i64 B.Seed)])] (.int .i64 r.1) [.box 3 (.agg [(.lst 1 (r.2.Code.map a0h)),(.int .i64 r.2.At),(.int .i64 r.2.Seed)])]:=⟨fun hf => by
 unfold a7v at hf;refine b3b [] [] Tryz.func164 ?_;exact Z⟩
instance w_spec_l00Src_byte_h2 (A:o8) (r:(Int × o8)):Wh Tryz.prog (a2x A = some r) false 261 [(.ptr 0 0 0)] [.box 3 (.agg [(.lst 1 (A.Code.map a0h)),(.int .i64 A.At),(.int .i64 A.Seed)])] (.int .i64 r.1) [.box 3 (.agg [(.lst 1 (r.2.Code.map a0h)),(.int .i64 r.2.At),(.int .i64 r.2.Seed)])]:=⟨fun hf => by
 unfold a2x at hf;refine b3b [] [] Tryz.func261 ?_ (sp:=[(1,[[3,9],[1000]]),(2,[[10,19]]),(3,[[20,42],[1000,0]]),(4,[[43,54],[2]]),(7,[[60,69],[1000]]),(8,[[70,75],[2]])]);exact Z⟩
end Go.R
end
