/- Part of the proof. -/
import Derived.Test.YtldahjcikmpifaaGreatG11
import Derived.Test.YtldahjcikmpifaaGreatG12
import Derived.Test.YtldahjcikmpifaaGreatG13

section
set_option linter.all false
namespace Go.R
open Go Go.Proofs
set_option maxRecDepth 100000
set_option maxHeartbeats 8000000
instance w_spec_l08Sets (B:x8) (A:(List a2c)) (r:Int):Wk Tryz.prog (b2p B A = some r) 367 [(a0f B),(.lst 3 (A.map a2d))] (.int .i64 r):=⟨fun hf => by
 unfold b2p at hf;refine coA [5,28,46,50,56] [zI0 [1,2] fun i => (fun _ _ _ _ _ => ([(5,(.int .i64 (i:Int)))],none)),zF1 [1,2,5,6] fun v:Int => (fun _ _ _ _ _ => ([(7,(.int .i64 v))],none)),fZ [1,2,5,6] fun v:Unit => (fun _ _ _ _ _ => ([],none)),cZ [1,2,5] fun v:Bool => (fun _ _ _ _ _ => ([(77,(.bool v))],none)),fZ [] fun v:Unit => (fun _ _ _ _ _ => ([],some []))] Tryz.func367 ?_ (sp:=[(3,[[15,20],[21,0],[6]]),(8,[[29,39]]),(11,[[40,45],[8]]),(12,[[46,77]])]);exact Z⟩
instance w_spec_l07Code (E:x8) (A:b0b) (r:Int):Wk Tryz.prog (b2q E A = some r) 394 [(a0f E),(a5j A)] (.I r):=⟨fun hf => by
 unfold b2q at hf;refine co [34,50] Tryz.func394 ?_;refine sr<|bx ?_;refine bx ?_;refine gq 1 ?_;refine a0n<|a5h ?_
 obtain ⟨G,er4,hf⟩:=ob hf
 refine go 3 ?_;refine cl (w_spec_l04Column _ _ _ er4) ?_;refine gq 1 ?_;refine gq 2 ?_
 rcases oi hf with ⟨c5,hf⟩ | ⟨c5,hf⟩
 ·refine wt c5 ?_;refine gq 1 ?_;cases hf;exact rf
 ·refine wf c5<|a4s<|a4g<|a0n<|a5h ?_
  obtain ⟨B,ex7,hf⟩:=ob hf
  refine go 3 ?_;refine ix ex7 ?_;refine gq 3 ?_;refine a0n<|a0n ?_
  obtain ⟨D,hb1,hf⟩:=ob hf
  refine a8y ([(3,(.ptr 0 0 0)),(6,(.I B.Kind)),(31,(.bool D))],[.box 3 (.agg [(.str A.Column),(.I A.Func),(.lst 3 (A.Value.map l9))])]) ?_ ?_
  ·refine go 2 ?_;refine ln fun hl14 => ?_;refine go 1 ?_;refine go 1 ?_
   rcases oi hb1 with ⟨c15,hb1⟩ | ⟨c15,hb1⟩
   ·refine sl 23 c15 ?_;refine go 2 ?_;refine s_on rfl ?_
    obtain ⟨F,ex17,hb1⟩:=ob hb1
    refine ix ex17 ?_;refine gd 5 ?_;cases hb1;exact ck [1]
   ·refine sf 23 c15 ?_;refine gd 8 ?_;cases hb1;exact ck [1]
  ·rcases oi hf with ⟨c18,hf⟩ | ⟨c18,hf⟩
   ·refine wt c18 ?_;refine gq 1 ?_;cases hf;exact rf
   ·refine wf c18<|a4s<|a4g<|a0n<|a0n ?_
    obtain ⟨p20,hb1,hf⟩:=ob hf
    refine a8y ([(44,(.bool (bif (decide (A.Func ≤ 5)) then (bif (B.Kind != 1) then true else ((A.Value.length:Int) != 1)) else false)))],[]) ?_ ?_
    ·refine go 4 ?_;refine sg (.I B.Kind) ?_;refine sg (.bool (B.Kind != 1)) ?_;refine sg (.bool (B.Kind != 1)) ?_;refine e7m (v1:=(decide (A.Func ≤ 5))) (b1:=true) (v2:=(B.Kind != 1)) (.ptr 0 0 2) rfl (fun hv hw => by (try simp only [a5b hv,a5b hw]);exact ⟨rfl,tr,rfl⟩) ?_
     refine e7m (v1:=(decide (A.Func ≤ 5))) (b1:=true) (v2:=(B.Kind != 1)) (.lst 3 (A.Value.map l9)) rfl (fun hv hw => by (try simp only [a5b hv,a5b hw]);exact ⟨rfl,nle,rfl⟩) ?_;refine e7m (v1:=(decide (A.Func ≤ 5))) (b1:=true) (v2:=(B.Kind != 1)) (.I (A.Value.length:Int)) rfl (fun hv hw => by (try simp only [a5b hv,a5b hw]);exact ⟨rfl,tr,lenV _ _⟩) ?_;refine e7m (v1:=(decide (A.Func ≤ 5))) (b1:=true) (v2:=(B.Kind != 1)) (.bool ((A.Value.length:Int) != 1)) rfl (fun hv hw => by (try simp only [a5b hv,a5b hw]);exact ⟨rfl,rfl,rfl⟩) ?_;refine f2u (v1:=(decide (A.Func ≤ 5))) (b1:=true) (v2:=(B.Kind != 1)) (x:=true) (y:=((A.Value.length:Int) != 1)) rfl (fun hv => by (try simp only [a5b hv]);rfl) (fun hv hw => by (try simp only [a5b hv,a5b hw]);rfl) (fun hv hw => by (try simp only [a5b hv,a5b hw]);rfl) ?_
     refine d7u (x:=(bif (B.Kind != 1) then true else ((A.Value.length:Int) != 1))) (y:=false) rfl (fun hv => by (try simp only [a5b hv]);rfl) (fun hv => by (try simp only [a5b hv]);rfl) ?_;refine a9v ?_;cases hb1;exact ck []
    ·rcases oi hf with ⟨c22,hf⟩ | ⟨c22,hf⟩
     ·refine wt c22 ?_;refine gq 1 ?_;cases hf;exact rf
     ·refine wf c22<|a4s<|a4g ?_;refine gq 1 ?_;cases hf;exact rf⟩
instance w_spec_l08Fresh (B:x8) (A:Int) (r:o5):Wf Tryz.prog (b1i B A = some r) 371 [(a0f B),(.int .i64 A)] (o6 r):=⟨fun hf => by
 unfold b1i at hf;refine coA [7,19] [zN1 [2,4] fun i (v:(List (List o7))) => (fun g w c o m => ([(5,(.ptr 2 0 0)),(6,(.int .i64 (i:Int)))],some [o 0,o 1,.box 2 (.agg [(.int .i64 A),(.own 3 0 v.length)]),.row 1 (v.map (a1f 3 l9))])),cZ [] fun v:(List (List o7)) => (fun g w c o m => ([(4,(.ptr 0 0 0)),(5,(.ptr 1 0 0))],some [o 1,.box 2 (.agg [(.int .i64 A),(.own 2 0 v.length)]),.row 1 (v.map (a1f 3 l9))]))] Tryz.func371 ?_ (sp:=[(4,[[17,23],[24,0,18,17],[25,0,18,17],[26,0],[27],[1000,0]])]);exact Z⟩
instance w_spec_l04Fits (A:a0d) (B:(List o7)) (r:Int):Wk Tryz.prog (a8z A B = some r) 277 [(a3h A),(.lst 3 (B.map l9))] (.int .i64 r):=⟨fun hf => by
 unfold a8z at hf;refine coA [5,21,33,39] [cZ [1,2] fun v:Bool => (fun _ _ _ _ _ => ([(17,(.bool v))],none)),zN0 [1,2] fun i => (fun _ _ _ _ _ => ([(5,(.int .i64 (i:Int)))],none)),cZ [1,2,5] fun v:Bool => (fun _ _ _ _ _ => ([(47,(.bool v))],none)),fZ [] fun v:Unit => (fun _ _ _ _ _ => ([],some []))] Tryz.func277 ?_ (sp:=[(1,[[6,17]]),(3,[[18,25]]),(7,[[32,44],[45,0],[46,47]])]);exact Z⟩
end Go.R
end
