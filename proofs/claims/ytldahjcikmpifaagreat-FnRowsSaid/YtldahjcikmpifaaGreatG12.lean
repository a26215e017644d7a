/- Part of the proof. -/
import Derived.Test.YtldahjcikmpifaaGreatG9

section
set_option linter.all false
namespace Go.R
open Go Go.Proofs
set_option maxRecDepth 100000
set_option maxHeartbeats 8000000
instance w_spec_l00Letter (A:Int) (r:Bool):Wk Tryz.prog (a8a A = some r) 332 [(.int .u8 A)] (.bool r):=⟨fun hf => by
 unfold a8a at hf;refine coA [] [] Tryz.func332 ?_;exact Z⟩
instance w_spec_l00Digit (A:Int) (r:Bool):Wk Tryz.prog (b1f A = some r) 333 [(.int .u8 A)] (.bool r):=⟨fun hf => by
 unfold b1f at hf;refine coA [] [] Tryz.func333 ?_;exact Z⟩
instance w_spec_l04Find (B:a0b) (A:Str) (r:Int):Wk Tryz.prog (a4k B A = some r) 182 [(a3w B),(.str A)] (.int .i64 r):=⟨fun hf => by
 unfold a4k at hf;refine coA [5,23] [zI0 [1,2] fun i => (fun _ _ _ _ _ => ([(5,(.int .i64 (i:Int)))],none)),fZ [] fun v:Unit => (fun _ _ _ _ _ => ([],some []))] Tryz.func182 ?_;exact Z⟩
instance w_spec_l04Column (B:x8) (A:Str) (r:Int):Wk Tryz.prog (a2e B A = some r) 365 [(a0f B),(.str A)] (.int .i64 r):=⟨fun hf => by
 unfold a2e at hf;refine coA [5,23] [zI0 [1,2] fun i => (fun _ _ _ _ _ => ([(5,(.int .i64 (i:Int)))],none)),fZ [] fun v:Unit => (fun _ _ _ _ _ => ([],some []))] Tryz.func365 ?_;exact Z⟩
end Go.R
end
