/- Part of the proof. -/
import Derived.Test.YtldahjcikmpifaaGreatG42

section
set_option linter.all false
namespace Go.R
open Go Go.Proofs
set_option maxRecDepth 100000
set_option maxHeartbeats 8000000
instance w_spec_l09Transact (E:a0b) (F:x9) (D:(List GOp)) (B:(List Str)) (r:(x9 × (List a1m) × Bool)):Ww Tryz.prog (a6g E F D B = some r) 165 [(a3w E),(a0u F),(.lst 8 (D.map a1i)),(.lst 1 (B.map AV.str))] (.tup [(a0u r.1),(.lst 5 (r.2.1.map b3i)),(.bool r.2.2)]):=⟨fun hf => by
 unfold a6g at hf;have hcc:=trivial;refine coA [9,31,33,36,48] [zI7 [2,4,5,8,11] fun i (v:((List x8) × (List (List o5)) × Int × (List GOp) × (List Int) × (List Str) × (List a1m))) => (fun g w c o m => ([(12,(.own 4 0 v.2.2.2.2.2.2.length)),(13,(.int .i64 (i:Int)))],some [o 0,o 1,o 2,.box 6 (.agg [(.lst 4 (v.1.map a0f)),(.lst 1 (v.2.1.map (a1f 2 o6))),(.int .i64 v.2.2.1),(.lst 8 (v.2.2.2.1.map a1i)),(.lst 1 (v.2.2.2.2.1.map encI)),(.lst 1 (v.2.2.2.2.2.1.map AV.str))]),.row 5 (v.2.2.2.2.2.2.map b3i)])),fZ [4,5,8,11] fun v:((List x8) × (List (List o5)) × Int × (List GOp) × (List Int) × (List Str) × (List a1m)) => (fun g w c o m => ([(12,(.own 4 0 v.2.2.2.2.2.2.length))],some [o 0,o 1,o 2,.box 6 (.agg [(.lst 4 (v.1.map a0f)),(.lst 1 (v.2.1.map (a1f 2 o6))),(.int .i64 v.2.2.1),(.lst 8 (v.2.2.2.1.map a1i)),(.lst 1 (v.2.2.2.2.1.map encI)),(.lst 1 (v.2.2.2.2.2.1.map AV.str))]),.row 5 (v.2.2.2.2.2.2.map b3i)])),cZ [4,5,8,11,12] fun v:((List (List o5)) × Int) => (fun g w c o m => ([(15,(.ptr 5 0 0))],some [o 0,o 1,o 2,o 3,o 4,.box 2 (.agg [(.lst 1 (v.1.map (a1f 2 o6))),(.int .i64 v.2)])])),zN1 [4,5,8,11,12,15] fun i (v:Int) => (fun g w c o m => ([(16,(.int .i64 (i:Int)))],some [o 0,o 1,o 2,o 3,o 4,.box 2 (.agg [(c 5 0),(.int .i64 v)])])),cZ [4,5,8] fun v:Int => (fun g w c o m => ([(12,(.own 3 0 (m 4))),(15,(.ptr 4 0 0))],some [o 0,o 1,o 2,o 4,.box 2 (.agg [(c 5 0),(.int .i64 v)])]))] Tryz.func165 ?_ (hc:=fun A => fTA (sp:=[(1,[[18,23],[25],[24,0,19,18],[26],[27,0],[11]]),(10,[[47,51],[52,0,0],[15,0,51,50,49,47],[1000,0],[],[15,0,51,50,49,47],[52,0],[1000,0]]),(12,[[53,59]]),(13,[[62,73],[1000,0]]),(17,[[79,82],[83,0,79],[84,0,79],[1000,0],[9,10]])]));exact Z⟩
end Go.R
end
