/- Part of the proof. -/
import Derived.Test.YtldahjcikmpifaaGreatG9

section
set_option linter.all false
namespace Go.R
open Go Go.Proofs
set_option maxRecDepth 100000
set_option maxHeartbeats 8000000
instance w_spec_l09Work_name_h2 (B:Str) (A:a0g) (r:(Int × a0g)):Wh Tryz.prog (a5c B A = some r) false 369 [(.ptr 0 0 0),(.str B)] [.box 6 (.agg [(.lst 4 (A.S.Tables.map a0f)),(.lst 1 (A.X.Tables.map (a1f 2 o6))),(.int .i64 A.X.Next),(.lst 8 (A.Ops.map a1i)),(.lst 1 (A.Ids.map encI)),(.lst 1 (A.Owned.map AV.str))])] (.int .i64 r.1) [.box 6 (.agg [(.lst 4 (r.2.S.Tables.map a0f)),(.lst 1 (r.2.X.Tables.map (a1f 2 o6))),(.int .i64 r.2.X.Next),(.lst 8 (r.2.Ops.map a1i)),(.lst 1 (r.2.Ids.map encI)),(.lst 1 (r.2.Owned.map AV.str))])]:=⟨fun hf => by
 unfold a5c at hf;refine b3b [5,17,23] [zI0 [0,1] fun i => (fun _ _ _ _ _ => ([(5,(.int .i64 (i:Int)))],none)),cZ [0,1,5] fun v:Bool => (fun _ _ _ _ _ => ([(35,(.bool v))],none)),fZ [] fun v:Unit => (fun _ _ _ _ _ => ([],none))] Tryz.func369 ?_;exact Z⟩
instance w_spec_l04Default (A:a0d) (r:(List o7)):Wf Tryz.prog (a6w A = some r) 237 [(a3h A)] (.lst 3 (r.map l9)):=⟨fun hf => by
 unfold a6w at hf;refine coA [18] [cZ [] fun v:Int => (fun _ _ _ _ _ => ([(3,(.ptr 0 0 0))],some [.box 3 (.agg [(.int .i64 A.Kind),(.int .i64 v),(.str [])])]))] Tryz.func237 ?_;exact Z⟩
instance w_spec_l05OwnRow (A:o5) (r:o5):Wf Tryz.prog (a4l A = some r) 245 [(o6 A)] (o6 r):=⟨fun hf => by
 unfold a4l at hf;refine coA [7,19] [zN1 [1,2] fun i (v:(List (List o7))) => (fun g w c o m => ([(3,(.ptr 2 0 0)),(4,(.int .i64 (i:Int)))],some [o 0,o 1,.box 2 (.agg [(.int .i64 A.Id),(.own 3 0 v.length)]),.row 1 (v.map (a1f 3 l9))])),cZ [] fun v:(List (List o7)) => (fun g w c o m => ([(2,(.ptr 0 0 0)),(3,(.ptr 1 0 0))],some [o 1,.box 2 (.agg [(.int .i64 A.Id),(.own 2 0 v.length)]),.row 1 (v.map (a1f 3 l9))]))] Tryz.func245 ?_ (sp:=[(1,[[5,8],[3],[1000]]),(4,[[16,17],[19,23],[18,0,23,22,20,19,17,16],[24,0,17,16],[25,0,17,16],[26,0],[27],[1000,0]])]);exact Z⟩
instance w_spec_l03Same (A:(List o7)) (B:(List o7)) (r:Bool):Wk Tryz.prog (a7f A B = some r) 374 [(.lst 3 (A.map l9)),(.lst 3 (B.map l9))] (.bool r):=⟨fun hf => by
 unfold a7f at hf;refine coA [13,31] [zI0 [0,1] fun i => (fun _ _ _ _ _ => ([(5,(.int .i64 (i:Int)))],none)),fZ [] fun v:Unit => (fun _ _ _ _ _ => ([],none))] Tryz.func374 ?_;exact Z⟩
end Go.R
end
