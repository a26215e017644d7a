/- Part of the proof. -/
import Derived.Test.YtldahjcikmpifaaGreatG38
import Derived.Test.YtldahjcikmpifaaGreatG40
import Derived.Test.YtldahjcikmpifaaGreatG42

section
set_option linter.all false
namespace Go.R
open Go Go.Proofs
set_option maxRecDepth 100000
set_option maxHeartbeats 8000000
instance w_spec_l00Src_op_h1 (A:o8) (r:(GOp × o8)):Wh Tryz.prog (a7l A = some r) false 266 [(.ptr 0 0 0)] [.box 3 (.agg [(.lst 1 (A.Code.map a0h)),(.int .i64 A.At),(.int .i64 A.Seed)])] (.agg [(.int .i64 r.1.Kind),(.str r.1.Table),(.str r.1.Name),(.own 1 0 r.1.Where.length),(.own 2 0 r.1.Row.length),(.own 3 0 r.1.Muts.length),(.own 4 0 r.1.Columns.length),(.bool r.1.Until)]) [.box 3 (.agg [(.lst 1 (r.2.Code.map a0h)),(.int .i64 r.2.At),(.int .i64 r.2.Seed)]),.row 3 (r.1.Where.map a3i),.row 3 (r.1.Row.map a2d),.row 3 (r.1.Muts.map a5j),.row 1 (r.1.Columns.map AV.str)]:=⟨fun hf => by
 unfold a7l at hf;refine b3b [14,20,36,45,70] [cZ [0,2,3] fun v:Str => (fun g w c o m => ([(5,(.ptr 2 0 0))],some [o 0,o 1,.box 8 (.agg [(g 17),(.str v),(.str []),.nil,.nil,.nil,.nil,(.bool false)])])),cZ [0,2,3,5] fun v:((List Int) × Int × Int × (List a3k)) => (fun g w c o m => ([],some [.box 3 (.agg [(.lst 1 (v.1.map a0h)),(.int .i64 v.2.1),(.int .i64 v.2.2.1)]),o 1,.box 8 (.agg [(c 2 0),(c 2 1),(.str []),(.own 3 0 v.2.2.2.length),.nil,.nil,.nil,(.bool false)]),.row 3 (v.2.2.2.map a3i)])),cZ [0,2,3,5,35] fun v:Bool => (fun _ _ _ _ _ => ([(46,(.bool v))],none)),zF5 [0,2,3,5] fun v:(Int × (List Int) × Int × Int × (List b0b)) => (fun g w c o m => ([(6,(.int .i64 v.1))],some [.box 3 (.agg [(.lst 1 (v.2.1.map a0h)),(.int .i64 v.2.2.1),(.int .i64 v.2.2.2.1)]),o 1,.box 8 (.agg [(g 35),(c 2 1),(.str []),(c 2 3),.nil,(.own 4 0 v.2.2.2.2.length),.nil,(.bool false)]),o 3,.row 3 (v.2.2.2.2.map a5j)])),cZ [2,5] fun v:((List Int) × Int × Int × (List b0b)) => (fun g w c o m => ([],some [.box 3 (.agg [(.lst 1 (v.1.map a0h)),(.int .i64 v.2.1),(.int .i64 v.2.2.1)]),o 1,.box 8 (.agg [(g 35),(c 2 1),(.str []),(c 2 3),.nil,(.own 4 0 v.2.2.2.length),.nil,(.bool false)]),o 3,.row 3 (v.2.2.2.map a5j)]))] Tryz.func266 ?_ (sp:=[(3,[[10,18],[5],[1000]]),(5,[[22,26],[1000]]),(15,[[53,60],[1000]]),(19,[[70,73],[74,0,71,70],[75,0,71,70],[76,0],[77],[1000,0]])]);exact Z⟩
end Go.R
end
