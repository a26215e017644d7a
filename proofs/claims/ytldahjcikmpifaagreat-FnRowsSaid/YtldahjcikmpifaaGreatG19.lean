/- Part of the proof. -/
import Derived.Test.YtldahjcikmpifaaGreatG10
import Derived.Test.YtldahjcikmpifaaGreatG11
import Derived.Test.YtldahjcikmpifaaGreatG12

section
set_option linter.all false
namespace Go.R
open Go Go.Proofs
set_option maxRecDepth 100000
set_option maxHeartbeats 8000000
instance w_spec_l00Src_next (B:Int) (A:o8) (r:(Int × o8)):Wh Tryz.prog (a1e B A = some r) true 163 [(.ptr 0 0 0),(.int .i64 B)] [.box 3 (.agg [(.lst 1 (A.Code.map a0h)),(.int .i64 A.At),(.int .i64 A.Seed)])] (.int .i64 r.1) [.box 3 (.agg [(.lst 1 (r.2.Code.map a0h)),(.int .i64 r.2.At),(.int .i64 r.2.Seed)])]:=⟨fun hf => by
 unfold a1e at hf;refine b3b [] [] Tryz.func163 ?_;exact Z⟩
instance w_spec_l03Order (A:o7) (B:o7) (r:Int):Wk Tryz.prog (a9s A B = some r) 229 [(l9 A),(l9 B)] (.int .i64 r):=⟨fun hf => by
 unfold a9s at hf;refine coA [] [] Tryz.func229 ?_;exact Z⟩
instance w_spec_l00Word (A:Str) (r:Bool):Wk Tryz.prog (b2n A = some r) 282 [(.str A)] (.bool r):=⟨fun hf => by
 unfold b2n at hf;refine coA [5,13,25,31] [cZ [0] fun v:Bool => (fun _ _ _ _ _ => ([(17,(.bool v))],none)),e7s [0] fun i => (fun _ _ _ _ _ => ([(3,(.int .i64 (i:Int)))],none)),cZ [0,3] fun v:Bool => (fun _ _ _ _ _ => ([(35,(.bool v))],none)),fZ [] fun v:Unit => (fun _ _ _ _ _ => ([],none))] Tryz.func282 ?_;exact Z⟩
instance w_spec_l06Code (A:x8) (B:a3k) (r:Int):Wk Tryz.prog (b2o A B = some r) 393 [(a0f A),(a3i B)] (.int .i64 r):=⟨fun hf => by
 unfold b2o at hf;refine coA [18,21,29] [fZ [2,3,6] fun v:Int => (fun _ _ _ _ _ => ([(5,(.int .i64 v))],none)),cZ [2,3,5,6] fun v:Bool => (fun _ _ _ _ _ => ([(34,(.bool v))],none)),cZ [] fun v:Bool => (fun _ _ _ _ _ => ([(56,(.bool v))],some []))] Tryz.func393 ?_;exact Z⟩
end Go.R
end
