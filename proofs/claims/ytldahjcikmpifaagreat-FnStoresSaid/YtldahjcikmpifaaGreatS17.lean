/- Part of the proof. -/
import Derived.Test.YtldahjcikmpifaaGreatS10
import Derived.Test.YtldahjcikmpifaaGreatS11

section
set_option linter.all false
namespace Go.R
open Go Go.Proofs
set_option maxRecDepth 100000
set_option maxHeartbeats 8000000
instance w_spec_l03Order (A:o5) (B:o5) (r:Int):Wk Tryz.prog (a7b A B = some r) 229 [(l9 A),(l9 B)] (.int .i64 r):=⟨fun hf => by
 unfold a7b at hf;refine coA [] [] Tryz.func229 ?_;exact Z⟩
instance w_spec_l00Word (A:Str) (r:Bool):Wk Tryz.prog (b4j A = some r) 282 [(.str A)] (.bool r):=⟨fun hf => by
 unfold b4j at hf;refine coA [5,13,25,31] [cZ [0] fun v:Bool => (fun _ _ _ _ _ => ([(17,(.bool v))],none)),f0t [0] fun i => (fun _ _ _ _ _ => ([(3,(.int .i64 (i:Int)))],none)),cZ [0,3] fun v:Bool => (fun _ _ _ _ _ => ([(35,(.bool v))],none)),fZ [] fun v:Unit => (fun _ _ _ _ _ => ([],none))] Tryz.func282 ?_;exact Z⟩
instance w_spec_l06Code (A:o6) (B:a3p) (r:Int):Wk Tryz.prog (b4k A B = some r) 393 [(a0c A),(a3o B)] (.int .i64 r):=⟨fun hf => by
 unfold b4k at hf;refine coA [18,21,29] [fZ [2,3,6] fun v:Int => (fun _ _ _ _ _ => ([(5,(.int .i64 v))],none)),cZ [2,3,5,6] fun v:Bool => (fun _ _ _ _ _ => ([(34,(.bool v))],none)),cZ [] fun v:Bool => (fun _ _ _ _ _ => ([(56,(.bool v))],some []))] Tryz.func393 ?_;exact Z⟩
instance w_spec_l08Sets (B:o6) (A:(List a2c)) (r:Int):Wk Tryz.prog (b4l B A = some r) 367 [(a0c B),(.lst 3 (A.map a2f))] (.int .i64 r):=⟨fun hf => by
 unfold b4l at hf;refine coA [5,28,46,50,56] [zI0 [1,2] fun i => (fun _ _ _ _ _ => ([(5,(.int .i64 (i:Int)))],none)),zF1 [1,2,5,6] fun v:Int => (fun _ _ _ _ _ => ([(7,(.int .i64 v))],none)),fZ [1,2,5,6] fun v:Unit => (fun _ _ _ _ _ => ([],none)),cZ [1,2,5] fun v:Bool => (fun _ _ _ _ _ => ([(77,(.bool v))],none)),fZ [] fun v:Unit => (fun _ _ _ _ _ => ([],some []))] Tryz.func367 ?_ (sp:=[(3,[[15,20],[21,0],[6]]),(8,[[29,39]]),(11,[[40,45],[8]]),(12,[[46,77]])]);exact Z⟩
instance w_spec_l07Code (E:o6) (A:b1v) (r:Int):Wk Tryz.prog (b4m E A = some r) 394 [(a0c E),(a6h A)] (.I r):=⟨fun hf => by
 unfold b4m at hf;refine co [34,50] Tryz.func394 ?_;refine sr<|bx ?_;refine bx ?_;refine gq 1 ?_;refine a0q<|a9i ?_
 obtain ⟨G,er4,hf⟩:=ob hf
 refine go 3 ?_;refine cl (w_spec_l04Column _ _ _ er4) ?_;refine gq 1 ?_;refine gq 2 ?_
 rcases oi hf with ⟨c5,hf⟩ | ⟨c5,hf⟩
 ·refine wt c5 ?_;refine gq 1 ?_;cases hf;exact rf
 ·refine wf c5<|a5n<|a5s<|a0q<|a9i ?_
  obtain ⟨B,ex7,hf⟩:=ob hf
  refine go 3 ?_;refine ix ex7 ?_;refine gq 3 ?_;refine a0q<|a0q ?_
  obtain ⟨D,hb1,hf⟩:=ob hf
  refine b0n ([(3,(.ptr 0 0 0)),(6,(.I B.Kind)),(31,(.bool D))],[.box 3 (.agg [(.str A.Column),(.I A.Func),(.lst 3 (A.Value.map l9))])]) ?_ ?_
  ·refine go 2 ?_;refine ln fun hl14 => ?_;refine go 1 ?_;refine go 1 ?_
   rcases oi hb1 with ⟨c15,hb1⟩ | ⟨c15,hb1⟩
   ·refine sl 23 c15 ?_;refine go 2 ?_;refine s_on rfl ?_
    obtain ⟨F,ex17,hb1⟩:=ob hb1
    refine ix ex17 ?_;refine gd 5 ?_;cases hb1;exact ck [1]
   ·refine sf 23 c15 ?_;refine gd 8 ?_;cases hb1;exact ck [1]
  ·rcases oi hf with ⟨c18,hf⟩ | ⟨c18,hf⟩
   ·refine wt c18 ?_;refine gq 1 ?_;cases hf;exact rf
   ·refine wf c18<|a5n<|a5s<|a0q<|a0q ?_
    obtain ⟨p20,hb1,hf⟩:=ob hf
    refine b0n ([(44,(.bool (bif (decide (A.Func ≤ 5)) then (bif (B.Kind != 1) then true else ((A.Value.length:Int) != 1)) else false)))],[]) ?_ ?_
    ·refine go 4 ?_;refine sg (.I B.Kind) ?_;refine sg (.bool (B.Kind != 1)) ?_;refine sg (.bool (B.Kind != 1)) ?_;refine e4r (v1:=(decide (A.Func ≤ 5))) (b1:=true) (v2:=(B.Kind != 1)) (.ptr 0 0 2) rfl (fun hv hw => by (try simp only [a2p hv,a2p hw]);exact ⟨rfl,tr,rfl⟩) ?_
     refine e4r (v1:=(decide (A.Func ≤ 5))) (b1:=true) (v2:=(B.Kind != 1)) (.lst 3 (A.Value.map l9)) rfl (fun hv hw => by (try simp only [a2p hv,a2p hw]);exact ⟨rfl,nle,rfl⟩) ?_;refine e4r (v1:=(decide (A.Func ≤ 5))) (b1:=true) (v2:=(B.Kind != 1)) (.I (A.Value.length:Int)) rfl (fun hv hw => by (try simp only [a2p hv,a2p hw]);exact ⟨rfl,tr,lenV _ _⟩) ?_;refine e4r (v1:=(decide (A.Func ≤ 5))) (b1:=true) (v2:=(B.Kind != 1)) (.bool ((A.Value.length:Int) != 1)) rfl (fun hv hw => by (try simp only [a2p hv,a2p hw]);exact ⟨rfl,rfl,rfl⟩) ?_;refine f3l (v1:=(decide (A.Func ≤ 5))) (b1:=true) (v2:=(B.Kind != 1)) (x:=true) (y:=((A.Value.length:Int) != 1)) rfl (fun hv => by (try simp only [a2p hv]);rfl) (fun hv hw => by (try simp only [a2p hv,a2p hw]);rfl) (fun hv hw => by (try simp only [a2p hv,a2p hw]);rfl) ?_
     refine c6u (x:=(bif (B.Kind != 1) then true else ((A.Value.length:Int) != 1))) (y:=false) rfl (fun hv => by (try simp only [a2p hv]);rfl) (fun hv => by (try simp only [a2p hv]);rfl) ?_;refine a8y ?_;cases hb1;exact ck []
    ·rcases oi hf with ⟨c22,hf⟩ | ⟨c22,hf⟩
     ·refine wt c22 ?_;refine gq 1 ?_;cases hf;exact rf
     ·refine wf c22<|a5n<|a5s ?_;refine gq 1 ?_;cases hf;exact rf⟩
end Go.R
end
