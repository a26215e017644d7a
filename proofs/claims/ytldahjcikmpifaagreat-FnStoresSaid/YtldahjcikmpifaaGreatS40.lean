/- Part of the proof. -/
import Derived.Test.YtldahjcikmpifaaGreatS34
import Derived.Test.YtldahjcikmpifaaGreatS35
import Derived.Test.YtldahjcikmpifaaGreatS37

section
set_option linter.all false
namespace Go.R
open Go Go.Proofs
set_option maxRecDepth 100000
set_option maxHeartbeats 8000000
instance w_spec_l00Src_conds_h1 (A:Int) (B:x8) (r:((List a3p) × x8)):Wh Tryz.prog (a4o A B = some r) false 328 [(.ptr 0 0 0),(.int .i64 A)] [.box 3 (.agg [(.lst 1 (B.Code.map a0p)),(.int .i64 B.At),(.int .i64 B.Seed)])] (.own 1 0 r.1.length) [.box 3 (.agg [(.lst 1 (r.2.Code.map a0p)),(.int .i64 r.2.At),(.int .i64 r.2.Seed)]),.row 3 (r.1.map a3o)]:=⟨fun hf => by
 unfold a4o at hf;refine b6a [7,19] [zF5 [0,1] fun v:(Int × (List Int) × Int × Int × (List a3p)) => (fun _ _ _ _ _ => ([(5,(.own 1 0 v.2.2.2.2.length)),(6,(.int .i64 v.1))],some [.box 3 (.agg [(.lst 1 (v.2.1.map a0p)),(.int .i64 v.2.2.1),(.int .i64 v.2.2.2.1)]),.row 3 (v.2.2.2.2.map a3o)])),cZ [] fun v:((List Int) × Int × Int × (List a3p)) => (fun _ _ _ _ _ => ([(5,(.own 1 0 v.2.2.2.length))],some [.box 3 (.agg [(.lst 1 (v.1.map a0p)),(.int .i64 v.2.1),(.int .i64 v.2.2.1)]),.row 3 (v.2.2.2.map a3o)]))] Tryz.func328 ?_;exact Z⟩
instance w_impl_Store_sharesIds (A:x9) (r:Bool):Wk Tryz.prog (a6b A = some r) 76 [(a0o A)] (.bool r):=⟨fun hf => by
 unfold a6b at hf;refine coA [5,19,39,40] [zI0 [1,7,8] fun i => (fun _ _ _ _ _ => ([(9,(.int .i64 (i:Int)))],none)),zF1 [1,4,7,8,9,14] fun v:Int => (fun _ _ _ _ _ => ([(15,(.int .i64 v))],none)),fZ [1,7,8,9] fun v:Unit => (fun _ _ _ _ _ => ([],none)),fZ [] fun v:Unit => (fun _ _ _ _ _ => ([],some []))] Tryz.func76 ?_;exact Z⟩
instance w_impl_Store_isRefUnmet (B:x9) (A:Int) (D:(List o5)) (r:Bool):Wk Tryz.prog (a4c B A D = some r) 176 [(a0o B),(.int .i64 A),(.lst 3 (D.map l9))] (.bool r):=⟨fun hf => by
 unfold a4c at hf;refine coA [] [] Tryz.func176 ?_;exact Z⟩
instance w_impl_commitCode_1_h0 (D:y7) (A:Int) (E:(List o5)) (F:Bool) (B:x9) (G:Int) (r:(Bool × x9 × Int)):Wh Tryz.prog (a8w D A E F B G = some r) false 175 [(a0n D),(.int .i64 A),(.lst 3 (E.map l9)),(.ptr 0 0 0),(.ptr 1 0 0),(.ptr 2 0 0)] [.box 1 (.bool F),.box 2 (.agg [(.lst 1 (B.Tables.map (a2m 2 y8))),(.int .i64 B.Next)]),.box 1 (.int .i64 G)] (.tup []) [.box 1 (.bool r.1),.box 2 (.agg [(.lst 1 (r.2.1.Tables.map (a2m 2 y8))),(.int .i64 r.2.1.Next)]),.box 1 (.int .i64 r.2.2)]:=⟨fun hf => by
 unfold a8w at hf;refine b6a [4] [cZ [5] fun v:Bool => (fun g w c o m => ([(19,(.bool v))],some [o 0,o 1,o 2]))] Tryz.func175 ?_;exact Z⟩
instance w_impl_StrongCount (D:o7) (E:x9) (A:Int) (B:Int) (r:(Int × Int)):Wk Tryz.prog (a9w D E A B = some r) 14 [(a0s D),(a0o E),(.int .i64 A),(.int .i64 B)] (.tup [(.int .i64 r.1),(.int .i64 r.2)]):=⟨fun hf => by
 unfold a9w at hf;refine coA [] [] Tryz.func14 ?_;exact Z⟩
instance w_spec_StrongCount (D:o7) (E:x9) (A:Int) (B:Int) (r:(Int × Int)):Wk Tryz.prog (b0b D E A B = some r) 15 [(a0s D),(a0o E),(.int .i64 A),(.int .i64 B)] (.tup [(.int .i64 r.1),(.int .i64 r.2)]):=⟨fun hf => by
 unfold b0b at hf;refine coA [5] [cZ [2,3,4,5] fun v:Bool => (fun _ _ _ _ _ => ([(18,(.bool v))],none))] Tryz.func15 ?_;exact Z⟩
end Go.R
end
