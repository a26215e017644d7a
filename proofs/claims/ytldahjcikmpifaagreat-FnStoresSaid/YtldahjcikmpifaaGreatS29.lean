/- Part of the proof. -/
import Derived.Test.YtldahjcikmpifaaGreatS22
import Derived.Test.YtldahjcikmpifaaGreatS24

section
set_option linter.all false
namespace Go.R
open Go Go.Proofs
set_option maxRecDepth 100000
set_option maxHeartbeats 8000000
instance w_spec_l03Join (A:(List o5)) (B:(List o5)) (r:(List o5)):Wf Tryz.prog (b6n A B = some r) 407 [(.lst 3 (A.map l9)),(.lst 3 (B.map l9))] (.lst 3 (r.map l9)):=⟨fun hf => by
 unfold b6n at hf;refine coA [7,19] [zN1 [1] fun i (v:(List o5)) => (fun _ _ _ _ _ => ([(5,(.own 0 0 v.length)),(6,(.int .i64 (i:Int)))],some [.row 3 (v.map l9)])),cZ [] fun v:(List o5) => (fun _ _ _ _ _ => ([(5,(.own 0 0 v.length))],some [.row 3 (v.map l9)]))] Tryz.func407 ?_;exact Z⟩
instance w_spec_l00Src_atom_h1 (A:Int) (B:x8) (r:(o5 × x8)):Wh Tryz.prog (a1d A B = some r) false 226 [(.ptr 0 0 0),(.int .i64 A)] [.box 3 (.agg [(.lst 1 (B.Code.map a0p)),(.int .i64 B.At),(.int .i64 B.Seed)])] (l9 r.1) [.box 3 (.agg [(.lst 1 (r.2.Code.map a0p)),(.int .i64 r.2.At),(.int .i64 r.2.Seed)])]:=⟨fun hf => by
 unfold a1d at hf;refine b6a [] [] Tryz.func226 ?_;exact Z⟩
instance w_spec_l00Src_datum_h1 (A:Int) (B:x8) (r:((List o5) × x8)):Wh Tryz.prog (a2x A B = some r) false 127 [(.ptr 0 0 0),(.int .i64 A)] [.box 3 (.agg [(.lst 1 (B.Code.map a0p)),(.int .i64 B.At),(.int .i64 B.Seed)])] (.lst 3 (r.1.map l9)) [.box 3 (.agg [(.lst 1 (r.2.Code.map a0p)),(.int .i64 r.2.At),(.int .i64 r.2.Seed)])]:=⟨fun hf => by
 unfold a2x at hf;refine b6a [7,19] [zF5 [0,1] fun v:((List o5) × Int × (List Int) × Int × Int) => (fun _ _ _ _ _ => ([(5,(.lst 3 (v.1.map l9))),(6,(.int .i64 v.2.1))],some [.box 3 (.agg [(.lst 1 (v.2.2.1.map a0p)),(.int .i64 v.2.2.2.1),(.int .i64 v.2.2.2.2)])])),cZ [] fun v:((List o5) × (List Int) × Int × Int) => (fun _ _ _ _ _ => ([(5,(.lst 3 (v.1.map l9)))],some [.box 3 (.agg [(.lst 1 (v.2.1.map a0p)),(.int .i64 v.2.2.1),(.int .i64 v.2.2.2)])]))] Tryz.func127 ?_;exact Z⟩
instance w_spec_l00Src_pickNames_h1 (A:Int) (B:x8) (r:((List Str) × x8)):Wh Tryz.prog (a4d A B = some r) false 330 [(.ptr 0 0 0),(.int .i64 A)] [.box 3 (.agg [(.lst 1 (B.Code.map a0p)),(.int .i64 B.At),(.int .i64 B.Seed)])] (.own 1 0 r.1.length) [.box 3 (.agg [(.lst 1 (r.2.Code.map a0p)),(.int .i64 r.2.At),(.int .i64 r.2.Seed)]),.row 1 (r.1.map AV.str)]:=⟨fun hf => by
 unfold a4d at hf;refine b6a [9,25] [zN4 [0] fun i (v:((List Int) × Int × Int × (List Str))) => (fun g w c o m => ([(5,(.ptr 1 0 0)),(6,(.own 2 0 v.2.2.2.length)),(7,(.int .i64 (i:Int)))],some [.box 3 (.agg [(.lst 1 (v.1.map a0p)),(.int .i64 v.2.1),(.int .i64 v.2.2.1)]),o 2,.row 1 (v.2.2.2.map AV.str)])),cZ [0] fun v:((List Int) × Int × Int × (List Str)) => (fun _ _ _ _ _ => ([(6,(.own 1 0 v.2.2.2.length))],some [.box 3 (.agg [(.lst 1 (v.1.map a0p)),(.int .i64 v.2.1),(.int .i64 v.2.2.1)]),.row 1 (v.2.2.2.map AV.str)]))] Tryz.func330 ?_;exact Z⟩
instance w_impl_isTable (A:o6) (r:Bool):Wk Tryz.prog (b0o A = some r) 88 [(a0c A)] (.bool r):=⟨fun hf => by
 unfold b0o at hf;refine coA [5,13,27,33,36,50,56] [cZ [1] fun v:Bool => (fun _ _ _ _ _ => ([(26,(.bool v))],none)),zI0 [1,28,29] fun i => (fun _ _ _ _ _ => ([(30,(.int .i64 (i:Int)))],none)),cZ [1,28,29,30] fun v:Bool => (fun g w c o m => ([(45,(.bool v))],some [o 0])),fZ [1] fun v:Unit => (fun _ _ _ _ _ => ([],none)),zI0 [1,48,49] fun i => (fun _ _ _ _ _ => ([(50,(.int .i64 (i:Int)))],none)),cZ [1,48,49,50] fun v:Bool => (fun _ _ _ _ _ => ([(75,(.bool v))],none)),fZ [] fun v:Unit => (fun _ _ _ _ _ => ([],some []))] Tryz.func88 ?_;exact Z⟩
end Go.R
end
