/- Part of the proof. -/
import Derived.Test.YtldahjcikmpifaaGreatG25
import Derived.Test.YtldahjcikmpifaaGreatG26
import Derived.Test.YtldahjcikmpifaaGreatG27

section
set_option linter.all false
namespace Go.R
open Go Go.Proofs
set_option maxRecDepth 100000
set_option maxHeartbeats 8000000
instance w_spec_l00Src_atom (A:Int) (B:o8) (r:(o7 × o8)):Wh Tryz.prog (a6e A B = some r) true 226 [(.ptr 0 0 0),(.int .i64 A)] [.box 3 (.agg [(.lst 1 (B.Code.map a0h)),(.int .i64 B.At),(.int .i64 B.Seed)])] (l9 r.1) [.box 3 (.agg [(.lst 1 (r.2.Code.map a0h)),(.int .i64 r.2.At),(.int .i64 r.2.Seed)])]:=⟨fun hf => by
 unfold a6e at hf;refine b3b [] [] Tryz.func226 ?_;exact Z⟩
instance w_spec_l08Code (A:a0b) (B:GOp) (r:Int):Wk Tryz.prog (b2r A B = some r) 320 [(a3w A),(a1i B)] (.int .i64 r):=⟨fun hf => by
 unfold b2r at hf;refine coA [9,31,41,53,59] [cZ [] fun v:Bool => (fun _ _ _ _ _ => ([(21,(.bool v))],some [])),cZ [2,3,5] fun v:Bool => (fun _ _ _ _ _ => ([(41,(.bool v))],none)),zN0 [] fun i => (fun g w c o m => ([(3,(.ptr 0 0 0)),(6,(.ptr 1 0 0)),(7,(.int .i64 (i:Int)))],some [o 1,o 2])),cZ [3,6,7] fun v:Bool => (fun _ _ _ _ _ => ([(69,(.bool v))],none)),fZ [] fun v:Unit => (fun g w c o m => ([(3,(.ptr 0 0 0)),(6,(.ptr 1 0 0))],some [o 1,o 2]))] Tryz.func320 ?_ (sp:=[(2,[[13,21]]),(8,[[28,41]]),(10,[[42,46],[6],[1000]]),(13,[[54,66],[67,0],[68,69]])]);exact Z⟩
instance w_spec_l06All (B:x8) (D:o5) (A:(List a3k)) (r:Bool):Wk Tryz.prog (a7g B D A = some r) 372 [(a0f B),(o6 D),(.lst 3 (A.map a3i))] (.bool r):=⟨fun hf => by
 unfold a7g at hf;refine coA [5,23] [zN0 [2,3,4] fun i => (fun _ _ _ _ _ => ([(7,(.int .i64 (i:Int)))],none)),fZ [] fun v:Unit => (fun _ _ _ _ _ => ([],some []))] Tryz.func372 ?_ (sp:=[(3,[[14,19],[20,0],[21]])]);exact Z⟩
instance w_spec_l03Join (A:(List o7)) (B:(List o7)) (r:(List o7)):Wf Tryz.prog (b4r A B = some r) 407 [(.lst 3 (A.map l9)),(.lst 3 (B.map l9))] (.lst 3 (r.map l9)):=⟨fun hf => by
 unfold b4r at hf;refine coA [7,19] [zN1 [1] fun i (v:(List o7)) => (fun _ _ _ _ _ => ([(5,(.own 0 0 v.length)),(6,(.int .i64 (i:Int)))],some [.row 3 (v.map l9)])),cZ [] fun v:(List o7) => (fun _ _ _ _ _ => ([(5,(.own 0 0 v.length))],some [.row 3 (v.map l9)]))] Tryz.func407 ?_;exact Z⟩
end Go.R
end
