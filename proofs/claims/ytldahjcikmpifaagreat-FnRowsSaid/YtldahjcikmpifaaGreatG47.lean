/- Part of the proof. -/
import Derived.Test.YtldahjcikmpifaaGreatG46

section
set_option linter.all false
namespace Go.R
open Go Go.Proofs
set_option maxRecDepth 100000
set_option maxHeartbeats 8000000
instance w_spec_StoreOf (A:(List Int)) (r:x9):Ww Tryz.prog (b2w A = some r) 11 [(.lst 1 (A.map a0h))] (a0u r):=⟨fun hf => by
 unfold b2w at hf;refine coA [] [] Tryz.func11 ?_;exact Z⟩
end Go.R
end
