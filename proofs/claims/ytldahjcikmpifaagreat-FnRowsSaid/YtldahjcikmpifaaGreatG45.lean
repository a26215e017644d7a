/- Part of the proof. -/
import Derived.Test.YtldahjcikmpifaaGreatG43

section
set_option linter.all false
namespace Go.R
open Go Go.Proofs
set_option maxRecDepth 100000
set_option maxHeartbeats 8000000
instance w_spec_l00Src_ops_h2 (J:o8) (r:((List GOp) × o8)):Wh Tryz.prog (a6n J = some r) false 166 [(.ptr 0 0 0)] [.box 3 (.agg [(.lst 1 (J.Code.map a0h)),(.I J.At),(.I J.Seed)])] (.own 1 0 r.1.length) [.box 3 (.agg [(.lst 1 (r.2.Code.map a0h)),(.I r.2.At),(.I r.2.Seed)]),.row 8 (r.1.map a1i)]:=⟨fun hf => by
 unfold a6n at hf;refine coh [32,62] Tryz.func166 ?_;refine gq 1 ?_;refine a0n<|a5h ?_;refine a2z (a2m (j:=1) (as':=[]) rfl (fun _ => by decide) tr .r rfl rfl rfl) ?_;refine gq 1 ?_;refine a0n ?_
 obtain ⟨p17,hb1,hf⟩:=ob hf
 refine a8y ([(0,(.ptr 0 0 0)),(3,(.own 1 0 p17.2.2.2.length))],[.box 3 (.agg [(.lst 1 (p17.1.map a0h)),(.I p17.2.1),(.I p17.2.2.1)]),.row 8 (p17.2.2.2.map a1i)]) ?_ ?_
 ·refine a0n<|a5h ?_
  obtain ⟨G,er19,hb1⟩:=ob hb1
  refine go 1 ?_;refine a2z (b1s (v:=(.bool G.1)) (h2:=[.box 3 (.agg [(.lst 1 (G.2.Code.map a0h)),(.I G.2.At),(.I G.2.Seed)]),.row 8 ([].map a1i)]) [] [0] (fun _ => rfl) (w_spec_l00Src_chance_h2 _ _ _ er19) rfl .r .r rfl rfl) ?_;refine a9v<|a4g ?_
  rcases oi hb1 with ⟨c20,hb1⟩ | ⟨c20,hb1⟩
  ·refine d2i rfl c20<|a0n<|a5h ?_
   obtain ⟨B,er22,hb1⟩:=ob hb1
   obtain ⟨g23,hb1⟩:=og hb1
   refine go 2 ?_;refine a2z (b1s (v:=(.own 2 0 B.1.length)) (h2:=[.box 3 (.agg [(.lst 1 (B.2.Code.map a0h)),(.I B.2.At),(.I B.2.Seed)]),.row 8 ([].map a1i),.row 3 (B.1.map a2d)]) [] [0] (fun _ => rfl) (w_spec_l00Src_sets_h2 _ _ _ er22) rfl .r .r rfl rfl) ?_;refine s_q (.agg [(.I 1),(.str [112,111,114,116]),(.str [112]),.nil,(.own 2 0 B.1.length),.nil,.nil,(.bool false)]) rfl ⟨⟨rfl,nle,tr⟩,⟨⟨rfl,nle,tr⟩,⟨⟨rfl,nle,tr⟩,⟨⟨rfl,nle,tr⟩,tr⟩⟩⟩⟩ rfl ?_;refine a2z (a2m (j:=3) (as':=[(a1i (⟨1,[112,111,114,116],[112],[],B.1,[],[],false⟩:GOp))]) rfl (fun _ => by decide) ⟨rfl,tr⟩ (.cons (.agg (.cons .r (.cons .r (.cons .r (.cons (.nil _) (.cons (.of_eq (congrArg (AV.lst _) (tko (enc:=a2d) B.1))) (.cons (.nil _) (.cons (.nil _) (.cons .r .nil))))))))) .nil) rfl rfl rfl) ?_
   refine a2z (a5i (j:=4) (L:=(([] ++ [(⟨1,[112,111,114,116],[112],[],B.1,[],[],false⟩:GOp)]).map a1i)) (len:=([] ++ [(⟨1,[112,111,114,116],[112],[],B.1,[],[],false⟩:GOp)]).length) rfl rfl ((by simp [← List.map_take])) (by simp <;> omega) g23 rfl rfl) ?_
   refine gq 1 ?_;refine a0n<|a5h ?_
   obtain ⟨D,er25,hb1⟩:=ob hb1
   obtain ⟨g26,hb1⟩:=og hb1
   refine go 1 ?_;refine a2z (b1s (v:=(.own 5 0 D.1.length)) (h2:=[.box 3 (.agg [(.lst 1 (D.2.Code.map a0h)),(.I D.2.At),(.I D.2.Seed)]),.dead,.dead,.row 8 ([(⟨1,[112,111,114,116],[112],[],B.1,[],[],false⟩:GOp)].map a1i),.row 8 (([] ++ [(⟨1,[112,111,114,116],[112],[],B.1,[],[],false⟩:GOp)]).map a1i),.row 3 (D.1.map a2d)]) [] [0] (fun _ => rfl) (w_spec_l00Src_sets_h2 _ _ _ er25) rfl .r .r rfl rfl) ?_;refine a2z (c7y rfl rfl rfl g26.1 g26.2)<|s_q (.agg [(.I 1),(.str [115,119,105,116,99,104]),(.str []),.nil,(.own 5 0 1),.nil,.nil,(.bool false)]) rfl ⟨⟨rfl,nle,tr⟩,⟨⟨rfl,nle,tr⟩,⟨⟨rfl,nle,tr⟩,tr⟩⟩⟩ rfl ?_
   refine a2z (d4y (j:=6) (c:=(.agg [(.I 0),(.str []),(.str []),.nil,.nil,.nil,.nil,(.bool false)])) rfl tr rfl rfl)<|c7r (b0h (v:=(.agg [(.I 1),(.str [115,119,105,116,99,104]),(.str []),.nil,(.own 5 0 1),.nil,.nil,(.bool false)])) (y':=(.agg [(.I 1),(.str [115,119,105,116,99,104]),(.str []),.nil,(.own 5 0 1),.nil,.nil,(.bool false)])) rfl rfl rfl tr ⟨rfl,nle⟩ ⟨⟨rfl,tr⟩,⟨⟨rfl,tr⟩,⟨⟨rfl,tr⟩,⟨⟨rfl,tr⟩,⟨⟨rfl,tr⟩,⟨⟨rfl,tr⟩,⟨⟨rfl,tr⟩,⟨⟨rfl,tr⟩,tr⟩⟩⟩⟩⟩⟩⟩⟩ rfl)<|dk<|a0n<|a5h ?_
   obtain ⟨g27,hb1⟩:=og hb1
   refine go 2 ?_;refine a2z (a2m (j:=7) (as':=[]) rfl (fun _ => by decide) tr .r rfl rfl rfl) ?_;refine a2z (a2m (j:=8) (as':=[(.str [112])]) rfl (fun _ => by decide) ⟨rfl,tr⟩ .r rfl rfl rfl) ?_;refine s_q (.agg [(.str [112,111,114,116,115]),(.own 7 0 0),(.own 8 0 1)]) rfl ⟨⟨rfl,nle,tr⟩,⟨⟨rfl,nle,tr⟩,⟨⟨rfl,nle,tr⟩,tr⟩⟩⟩ rfl ?_;refine a2z (a2m (j:=9) (as':=[(a2d (⟨[112,111,114,116,115],[],[[112]]⟩:a2c))]) rfl (fun _ => by decide) ⟨rfl,tr⟩ .r rfl rfl rfl) ?_
   refine a2z (a5i (j:=10) (L:=(((D.1.take 1) ++ [(⟨[112,111,114,116,115],[],[[112]]⟩:a2c)]).map a2d)) (len:=((D.1.take 1) ++ [(⟨[112,111,114,116,115],[],[[112]]⟩:a2c)]).length) rfl rfl ((by simp)) (by simp <;> omega) g27 rfl rfl) ?_
   refine s_q (.ptr 6 0 4) rfl tr rfl<|c7r (b0h (v:=(.own 10 0 (((D.1.take 1) ++ [(⟨[112,111,114,116,115],[],[[112]]⟩:a2c)]).length))) (y':=(.agg [(.I 1),(.str [115,119,105,116,99,104]),(.str []),.nil,(.own 10 0 (((D.1.take 1) ++ [(⟨[112,111,114,116,115],[],[[112]]⟩:a2c)]).length)),.nil,.nil,(.bool false)])) rfl rfl rfl tr ⟨rfl,nle⟩ ⟨⟨rfl,tr⟩,tr⟩ rfl)<|dk<|a5h ?_
   obtain ⟨g28,hb1⟩:=og hb1
   refine b5o (.own 4 0 (([] ++ [(⟨1,[112,111,114,116],[112],[],B.1,[],[],false⟩:GOp)]).length)) rfl<|s_q (.agg [(.I 1),(.str [115,119,105,116,99,104]),(.str []),.nil,(.own 10 0 (((D.1.take 1) ++ [(⟨[112,111,114,116,115],[],[[112]]⟩:a2c)]).length)),.nil,.nil,(.bool false)]) rfl nle rfl ?_;refine a2z (a2m (j:=11) (as':=[(a1i (⟨1,[115,119,105,116,99,104],[],[],(D.1.take 1) ++ [(⟨[112,111,114,116,115],[],[[112]]⟩:a2c)],[],[],false⟩:GOp))]) rfl (fun _ => by decide) ⟨rfl,tr⟩ (.cons (.agg (.cons .r (.cons .r (.cons .r (.cons (.nil _) (.cons (.of_eq (congrArg (AV.lst _) (tko (enc:=a2d) ((D.1.take 1) ++ [(⟨[112,111,114,116,115],[],[[112]]⟩:a2c)])))) (.cons (.nil _) (.cons (.nil _) (.cons .r .nil))))))))) .nil) rfl rfl rfl) ?_
   refine a2z (a5i (j:=12) (L:=((([] ++ [(⟨1,[112,111,114,116],[112],[],B.1,[],[],false⟩:GOp)]) ++ [(⟨1,[115,119,105,116,99,104],[],[],(D.1.take 1) ++ [(⟨[112,111,114,116,115],[],[[112]]⟩:a2c)],[],[],false⟩:GOp)]).map a1i)) (len:=(([] ++ [(⟨1,[112,111,114,116],[112],[],B.1,[],[],false⟩:GOp)]) ++ [(⟨1,[115,119,105,116,99,104],[],[],(D.1.take 1) ++ [(⟨[112,111,114,116,115],[],[[112]]⟩:a2c)],[],[],false⟩:GOp)]).length) rfl rfl (c9u (enc:=a1i) ([] ++ [(⟨1,[112,111,114,116],[112],[],B.1,[],[],false⟩:GOp)]) [(⟨1,[115,119,105,116,99,104],[],[],(D.1.take 1) ++ [(⟨[112,111,114,116,115],[],[[112]]⟩:a2c)],[],[],false⟩:GOp)] _ (by rfl)) (by simp <;> omega) g28 rfl rfl) ?_
   refine gd 1 ?_;cases hb1;exact ck [0,12]
  ·refine c5y rfl (bf c20)<|a4s ?_;cases hb1;exact ⟨[],[0,1],_,_,rfl,rfl,⟨.r,⟨.of_eq (congrArg (AV.own _ 0) (by simp)),tr⟩⟩,.r⟩
 ·obtain ⟨N,O,P,H⟩:=p17
  refine a0n<|a0n<|a5h ?_
  obtain ⟨E,er30,hf⟩:=ob hf
  refine go 1 ?_;refine a2z (b1s (v:=(.I E.1)) (h2:=[.box 3 (.agg [(.lst 1 (E.2.Code.map a0h)),(.I E.2.At),(.I E.2.Seed)]),.row 8 (H.map a1i)]) [] [0] (fun _ => rfl) (w_spec_l00Src_next_h2 _ _ _ er30) rfl .r .r rfl rfl) ?_;refine gq 1 ?_
  obtain ⟨p57,hb1,hf⟩:=ob hf
  refine a8y ([(3,(.own 1 0 p57.2.2.2.length))],[.box 3 (.agg [(.lst 1 (p57.1.map a0h)),(.I p57.2.1),(.I p57.2.2.1)]),.row 8 (p57.2.2.2.map a1i)]) ?_ ?_
  ·refine al (X:={q:(Nat × Int × (List Int) × Int × Int × (List GOp)) // a2k q.1 q.2.1 q.2.2.1 q.2.2.2.1 q.2.2.2.2.1 q.2.2.2.2.2 = some p57}) (fun q => ([(0,(.ptr 0 0 0)),(3,(.own 1 0 q.1.2.2.2.2.2.length)),(5,(.I q.1.2.1))],[.box 3 (.agg [(.lst 1 (q.1.2.2.1.map a0h)),(.I q.1.2.2.2.1),(.I q.1.2.2.2.2.1)]),.row 8 (q.1.2.2.2.2.2.map a1i)])) (fun q => q.1.1) ⟨(FUEL,E.1,E.2.Code,E.2.At,E.2.Seed,H),hb1⟩ [0,1] ?_
   rintro ⟨⟨k,K,S,T,U,F⟩,hc1⟩
   dsimp only at hc1 ⊢
   rcases k with _ | k
   ·rw [a2k.eq_1] at hc1
    cases hc1
   ·rw [a2k.eq_2] at hc1;refine gq 2 ?_
    rcases oi hc1 with ⟨c58,hc1⟩ | ⟨c58,hc1⟩
    ·refine d2i rfl c58<|a4s<|a4g<|a0n<|b6d<|a5h ?_
     obtain ⟨A,er60,hc1⟩:=ob hc1
     obtain ⟨g61,hc1⟩:=og hc1
     refine go 2 ?_;refine a2z (b1s (v:=(.agg [(.I A.1.Kind),(.str A.1.Table),(.str A.1.Name),(.own 2 0 A.1.Where.length),(.own 3 0 A.1.Row.length),(.own 4 0 A.1.Muts.length),(.own 5 0 A.1.Columns.length),(.bool A.1.Until)])) (h2:=[.box 3 (.agg [(.lst 1 (A.2.Code.map a0h)),(.I A.2.At),(.I A.2.Seed)]),.row 8 (F.map a1i),.row 3 (A.1.Where.map a3i),.row 3 (A.1.Row.map a2d),.row 3 (A.1.Muts.map a5j),.row 1 (A.1.Columns.map AV.str)]) [] [0] (fun _ => rfl) (w_spec_l00Src_op_h1 _ _ er60) rfl .r .r rfl rfl) ?_;refine a2z (a2m (j:=6) (as':=[(a1i A.1)]) rfl (fun _ => by decide) ⟨rfl,tr⟩ (.cons (.agg (.cons .r (.cons .r (.cons .r (.cons (.of_eq (congrArg (AV.lst _) (tko (enc:=a3i) A.1.Where))) (.cons (.of_eq (congrArg (AV.lst _) (tko (enc:=a2d) A.1.Row))) (.cons (.of_eq (congrArg (AV.lst _) (tko (enc:=a5j) A.1.Muts))) (.cons (.of_eq (congrArg (AV.lst _) (tko (enc:=AV.str) A.1.Columns))) (.cons .r .nil))))))))) .nil) rfl rfl rfl) ?_
     refine a2z (a5i (j:=7) (L:=((F ++ [A.1]).map a1i)) (len:=(F ++ [A.1]).length) rfl rfl (c9u (enc:=a1i) F [A.1] _ (by rfl)) (by simp <;> omega) g61 rfl rfl) ?_
     refine gd 1 ?_;refine b4i<|a4g ?_;refine gd 3 ?_;exact kl ⟨(k,w64 (K - 1),A.2.Code,A.2.At,A.2.Seed,F ++ [A.1]),hc1⟩ [0,7]
    ·refine c5y rfl (bf c58)<|le ?_;cases hc1;exact ck [0,1]
  ·obtain ⟨V,Y,Aa,M⟩:=p57
   refine gq 2 ?_;refine a7u ?_;cases hf;exact b1w [] [0,1] rfl ⟨tr,tr⟩ rfl .r .r⟩
end Go.R
end
