/- Part of the proof. -/
import Derived.Test.YtldahjcikmpifaaGreatS36
import Derived.Test.YtldahjcikmpifaaGreatS38
import Derived.Test.YtldahjcikmpifaaGreatS40

section
set_option linter.all false
namespace Go.R
open Go Go.Proofs
set_option maxRecDepth 100000
set_option maxHeartbeats 8000000
instance w_spec_l00Src_op_h1 (A:x8) (r:(GOp × x8)):Wh Tryz.prog (a8q A = some r) false 266 [(.ptr 0 0 0)] [.box 3 (.agg [(.lst 1 (A.Code.map a0p)),(.int .i64 A.At),(.int .i64 A.Seed)])] (.agg [(.int .i64 r.1.Kind),(.str r.1.Table),(.str r.1.Name),(.own 1 0 r.1.Where.length),(.own 2 0 r.1.Row.length),(.own 3 0 r.1.Muts.length),(.own 4 0 r.1.Columns.length),(.bool r.1.Until)]) [.box 3 (.agg [(.lst 1 (r.2.Code.map a0p)),(.int .i64 r.2.At),(.int .i64 r.2.Seed)]),.row 3 (r.1.Where.map a3o),.row 3 (r.1.Row.map a2f),.row 3 (r.1.Muts.map a6h),.row 1 (r.1.Columns.map AV.str)]:=⟨fun hf => by
 unfold a8q at hf;refine b6a [14,20,36,45,70] [cZ [0,2,3] fun v:Str => (fun g w c o m => ([(5,(.ptr 2 0 0))],some [o 0,o 1,.box 8 (.agg [(g 17),(.str v),(.str []),.nil,.nil,.nil,.nil,(.bool false)])])),cZ [0,2,3,5] fun v:((List Int) × Int × Int × (List a3p)) => (fun g w c o m => ([],some [.box 3 (.agg [(.lst 1 (v.1.map a0p)),(.int .i64 v.2.1),(.int .i64 v.2.2.1)]),o 1,.box 8 (.agg [(c 2 0),(c 2 1),(.str []),(.own 3 0 v.2.2.2.length),.nil,.nil,.nil,(.bool false)]),.row 3 (v.2.2.2.map a3o)])),cZ [0,2,3,5,35] fun v:Bool => (fun _ _ _ _ _ => ([(46,(.bool v))],none)),zF5 [0,2,3,5] fun v:(Int × (List Int) × Int × Int × (List b1v)) => (fun g w c o m => ([(6,(.int .i64 v.1))],some [.box 3 (.agg [(.lst 1 (v.2.1.map a0p)),(.int .i64 v.2.2.1),(.int .i64 v.2.2.2.1)]),o 1,.box 8 (.agg [(g 35),(c 2 1),(.str []),(c 2 3),.nil,(.own 4 0 v.2.2.2.2.length),.nil,(.bool false)]),o 3,.row 3 (v.2.2.2.2.map a6h)])),cZ [2,5] fun v:((List Int) × Int × Int × (List b1v)) => (fun g w c o m => ([],some [.box 3 (.agg [(.lst 1 (v.1.map a0p)),(.int .i64 v.2.1),(.int .i64 v.2.2.1)]),o 1,.box 8 (.agg [(g 35),(c 2 1),(.str []),(c 2 3),.nil,(.own 4 0 v.2.2.2.length),.nil,(.bool false)]),o 3,.row 3 (v.2.2.2.map a6h)]))] Tryz.func266 ?_ (sp:=[(3,[[10,18],[5],[1000]]),(5,[[22,26],[1000]]),(15,[[53,60],[1000]]),(19,[[70,73],[74,0,71,70],[75,0,71,70],[76,0],[77],[1000,0]])]);exact Z⟩
instance w_spec_l00Src_ops_h2 (J:x8) (r:((List GOp) × x8)):Wh Tryz.prog (a7l J = some r) false 166 [(.ptr 0 0 0)] [.box 3 (.agg [(.lst 1 (J.Code.map a0p)),(.I J.At),(.I J.Seed)])] (.own 1 0 r.1.length) [.box 3 (.agg [(.lst 1 (r.2.Code.map a0p)),(.I r.2.At),(.I r.2.Seed)]),.row 8 (r.1.map a1h)]:=⟨fun hf => by
 unfold a7l at hf;refine coh [32,62] Tryz.func166 ?_;refine gq 1 ?_;refine a0q<|a9i ?_;refine a4k (a3a (j:=1) (as':=[]) rfl (fun _ => by decide) tr .r rfl rfl rfl) ?_;refine gq 1 ?_;refine a0q ?_
 obtain ⟨p17,hb1,hf⟩:=ob hf
 refine b0n ([(0,(.ptr 0 0 0)),(3,(.own 1 0 p17.2.2.2.length))],[.box 3 (.agg [(.lst 1 (p17.1.map a0p)),(.I p17.2.1),(.I p17.2.2.1)]),.row 8 (p17.2.2.2.map a1h)]) ?_ ?_
 ·refine a0q<|a9i ?_
  obtain ⟨G,er19,hb1⟩:=ob hb1
  refine go 1 ?_;refine a4k (c1x (v:=(.bool G.1)) (h2:=[.box 3 (.agg [(.lst 1 (G.2.Code.map a0p)),(.I G.2.At),(.I G.2.Seed)]),.row 8 ([].map a1h)]) [] [0] (fun _ => rfl) (w_spec_l00Src_chance_h2 _ _ _ er19) rfl .r .r rfl rfl) ?_;refine a8y<|a5s ?_
  rcases oi hb1 with ⟨c20,hb1⟩ | ⟨c20,hb1⟩
  ·refine b5m rfl c20<|a0q<|a9i ?_
   obtain ⟨B,er22,hb1⟩:=ob hb1
   obtain ⟨g23,hb1⟩:=og hb1
   refine go 2 ?_;refine a4k (c1x (v:=(.own 2 0 B.1.length)) (h2:=[.box 3 (.agg [(.lst 1 (B.2.Code.map a0p)),(.I B.2.At),(.I B.2.Seed)]),.row 8 ([].map a1h),.row 3 (B.1.map a2f)]) [] [0] (fun _ => rfl) (w_spec_l00Src_sets_h2 _ _ _ er22) rfl .r .r rfl rfl) ?_;refine s_q (.agg [(.I 1),(.str [112,111,114,116]),(.str [112]),.nil,(.own 2 0 B.1.length),.nil,.nil,(.bool false)]) rfl ⟨⟨rfl,nle,tr⟩,⟨⟨rfl,nle,tr⟩,⟨⟨rfl,nle,tr⟩,⟨⟨rfl,nle,tr⟩,tr⟩⟩⟩⟩ rfl ?_;refine a4k (a3a (j:=3) (as':=[(a1h (⟨1,[112,111,114,116],[112],[],B.1,[],[],false⟩:GOp))]) rfl (fun _ => by decide) ⟨rfl,tr⟩ (.cons (.agg (.cons .r (.cons .r (.cons .r (.cons (.nil _) (.cons (.of_eq (congrArg (AV.lst _) (tko (enc:=a2f) B.1))) (.cons (.nil _) (.cons (.nil _) (.cons .r .nil))))))))) .nil) rfl rfl rfl) ?_
   refine a4k (a6f (j:=4) (L:=(([] ++ [(⟨1,[112,111,114,116],[112],[],B.1,[],[],false⟩:GOp)]).map a1h)) (len:=([] ++ [(⟨1,[112,111,114,116],[112],[],B.1,[],[],false⟩:GOp)]).length) rfl rfl ((by simp [← List.map_take])) (by simp <;> omega) g23 rfl rfl) ?_
   refine gq 1 ?_;refine a0q<|a9i ?_
   obtain ⟨D,er25,hb1⟩:=ob hb1
   obtain ⟨g26,hb1⟩:=og hb1
   refine go 1 ?_;refine a4k (c1x (v:=(.own 5 0 D.1.length)) (h2:=[.box 3 (.agg [(.lst 1 (D.2.Code.map a0p)),(.I D.2.At),(.I D.2.Seed)]),.dead,.dead,.row 8 ([(⟨1,[112,111,114,116],[112],[],B.1,[],[],false⟩:GOp)].map a1h),.row 8 (([] ++ [(⟨1,[112,111,114,116],[112],[],B.1,[],[],false⟩:GOp)]).map a1h),.row 3 (D.1.map a2f)]) [] [0] (fun _ => rfl) (w_spec_l00Src_sets_h2 _ _ _ er25) rfl .r .r rfl rfl) ?_;refine a4k (d0v rfl rfl rfl g26.1 g26.2)<|s_q (.agg [(.I 1),(.str [115,119,105,116,99,104]),(.str []),.nil,(.own 5 0 1),.nil,.nil,(.bool false)]) rfl ⟨⟨rfl,nle,tr⟩,⟨⟨rfl,nle,tr⟩,⟨⟨rfl,nle,tr⟩,tr⟩⟩⟩ rfl ?_
   refine a4k (c2s (j:=6) (c:=(.agg [(.I 0),(.str []),(.str []),.nil,.nil,.nil,.nil,(.bool false)])) rfl tr rfl rfl)<|c2r (a8z (v:=(.agg [(.I 1),(.str [115,119,105,116,99,104]),(.str []),.nil,(.own 5 0 1),.nil,.nil,(.bool false)])) (y':=(.agg [(.I 1),(.str [115,119,105,116,99,104]),(.str []),.nil,(.own 5 0 1),.nil,.nil,(.bool false)])) rfl rfl rfl tr ⟨rfl,nle⟩ ⟨⟨rfl,tr⟩,⟨⟨rfl,tr⟩,⟨⟨rfl,tr⟩,⟨⟨rfl,tr⟩,⟨⟨rfl,tr⟩,⟨⟨rfl,tr⟩,⟨⟨rfl,tr⟩,⟨⟨rfl,tr⟩,tr⟩⟩⟩⟩⟩⟩⟩⟩ rfl)<|dk<|a0q<|a9i ?_
   obtain ⟨g27,hb1⟩:=og hb1
   refine go 2 ?_;refine a4k (a3a (j:=7) (as':=[]) rfl (fun _ => by decide) tr .r rfl rfl rfl) ?_;refine a4k (a3a (j:=8) (as':=[(.str [112])]) rfl (fun _ => by decide) ⟨rfl,tr⟩ .r rfl rfl rfl) ?_;refine s_q (.agg [(.str [112,111,114,116,115]),(.own 7 0 0),(.own 8 0 1)]) rfl ⟨⟨rfl,nle,tr⟩,⟨⟨rfl,nle,tr⟩,⟨⟨rfl,nle,tr⟩,tr⟩⟩⟩ rfl ?_;refine a4k (a3a (j:=9) (as':=[(a2f (⟨[112,111,114,116,115],[],[[112]]⟩:a2c))]) rfl (fun _ => by decide) ⟨rfl,tr⟩ .r rfl rfl rfl) ?_
   refine a4k (a6f (j:=10) (L:=(((D.1.take 1) ++ [(⟨[112,111,114,116,115],[],[[112]]⟩:a2c)]).map a2f)) (len:=((D.1.take 1) ++ [(⟨[112,111,114,116,115],[],[[112]]⟩:a2c)]).length) rfl rfl ((by simp)) (by simp <;> omega) g27 rfl rfl) ?_
   refine s_q (.ptr 6 0 4) rfl tr rfl<|c2r (a8z (v:=(.own 10 0 (((D.1.take 1) ++ [(⟨[112,111,114,116,115],[],[[112]]⟩:a2c)]).length))) (y':=(.agg [(.I 1),(.str [115,119,105,116,99,104]),(.str []),.nil,(.own 10 0 (((D.1.take 1) ++ [(⟨[112,111,114,116,115],[],[[112]]⟩:a2c)]).length)),.nil,.nil,(.bool false)])) rfl rfl rfl tr ⟨rfl,nle⟩ ⟨⟨rfl,tr⟩,tr⟩ rfl)<|dk<|a9i ?_
   obtain ⟨g28,hb1⟩:=og hb1
   refine a2t (.own 4 0 (([] ++ [(⟨1,[112,111,114,116],[112],[],B.1,[],[],false⟩:GOp)]).length)) rfl<|s_q (.agg [(.I 1),(.str [115,119,105,116,99,104]),(.str []),.nil,(.own 10 0 (((D.1.take 1) ++ [(⟨[112,111,114,116,115],[],[[112]]⟩:a2c)]).length)),.nil,.nil,(.bool false)]) rfl nle rfl ?_;refine a4k (a3a (j:=11) (as':=[(a1h (⟨1,[115,119,105,116,99,104],[],[],(D.1.take 1) ++ [(⟨[112,111,114,116,115],[],[[112]]⟩:a2c)],[],[],false⟩:GOp))]) rfl (fun _ => by decide) ⟨rfl,tr⟩ (.cons (.agg (.cons .r (.cons .r (.cons .r (.cons (.nil _) (.cons (.of_eq (congrArg (AV.lst _) (tko (enc:=a2f) ((D.1.take 1) ++ [(⟨[112,111,114,116,115],[],[[112]]⟩:a2c)])))) (.cons (.nil _) (.cons (.nil _) (.cons .r .nil))))))))) .nil) rfl rfl rfl) ?_
   refine a4k (a6f (j:=12) (L:=((([] ++ [(⟨1,[112,111,114,116],[112],[],B.1,[],[],false⟩:GOp)]) ++ [(⟨1,[115,119,105,116,99,104],[],[],(D.1.take 1) ++ [(⟨[112,111,114,116,115],[],[[112]]⟩:a2c)],[],[],false⟩:GOp)]).map a1h)) (len:=(([] ++ [(⟨1,[112,111,114,116],[112],[],B.1,[],[],false⟩:GOp)]) ++ [(⟨1,[115,119,105,116,99,104],[],[],(D.1.take 1) ++ [(⟨[112,111,114,116,115],[],[[112]]⟩:a2c)],[],[],false⟩:GOp)]).length) rfl rfl (d2u (enc:=a1h) ([] ++ [(⟨1,[112,111,114,116],[112],[],B.1,[],[],false⟩:GOp)]) [(⟨1,[115,119,105,116,99,104],[],[],(D.1.take 1) ++ [(⟨[112,111,114,116,115],[],[[112]]⟩:a2c)],[],[],false⟩:GOp)] _ (by rfl)) (by simp <;> omega) g28 rfl rfl) ?_
   refine gd 1 ?_;cases hb1;exact ck [0,12]
  ·refine b4i rfl (bf c20)<|a5n ?_;cases hb1;exact ⟨[],[0,1],_,_,rfl,rfl,⟨.r,⟨.of_eq (congrArg (AV.own _ 0) (by simp)),tr⟩⟩,.r⟩
 ·obtain ⟨N,O,P,H⟩:=p17
  refine a0q<|a0q<|a9i ?_
  obtain ⟨E,er30,hf⟩:=ob hf
  refine go 1 ?_;refine a4k (c1x (v:=(.I E.1)) (h2:=[.box 3 (.agg [(.lst 1 (E.2.Code.map a0p)),(.I E.2.At),(.I E.2.Seed)]),.row 8 (H.map a1h)]) [] [0] (fun _ => rfl) (w_spec_l00Src_next_h2 _ _ _ er30) rfl .r .r rfl rfl) ?_;refine gq 1 ?_
  obtain ⟨p57,hb1,hf⟩:=ob hf
  refine b0n ([(3,(.own 1 0 p57.2.2.2.length))],[.box 3 (.agg [(.lst 1 (p57.1.map a0p)),(.I p57.2.1),(.I p57.2.2.1)]),.row 8 (p57.2.2.2.map a1h)]) ?_ ?_
  ·refine al (X:={q:(Nat × Int × (List Int) × Int × Int × (List GOp)) // a2q q.1 q.2.1 q.2.2.1 q.2.2.2.1 q.2.2.2.2.1 q.2.2.2.2.2 = some p57}) (fun q => ([(0,(.ptr 0 0 0)),(3,(.own 1 0 q.1.2.2.2.2.2.length)),(5,(.I q.1.2.1))],[.box 3 (.agg [(.lst 1 (q.1.2.2.1.map a0p)),(.I q.1.2.2.2.1),(.I q.1.2.2.2.2.1)]),.row 8 (q.1.2.2.2.2.2.map a1h)])) (fun q => q.1.1) ⟨(FUEL,E.1,E.2.Code,E.2.At,E.2.Seed,H),hb1⟩ [0,1] ?_
   rintro ⟨⟨k,K,S,T,U,F⟩,hc1⟩
   dsimp only at hc1 ⊢
   rcases k with _ | k
   ·rw [a2q.eq_1] at hc1
    cases hc1
   ·rw [a2q.eq_2] at hc1;refine gq 2 ?_
    rcases oi hc1 with ⟨c58,hc1⟩ | ⟨c58,hc1⟩
    ·refine b5m rfl c58<|a5n<|a5s<|a0q<|b7k<|a9i ?_
     obtain ⟨A,er60,hc1⟩:=ob hc1
     obtain ⟨g61,hc1⟩:=og hc1
     refine go 2 ?_;refine a4k (c1x (v:=(.agg [(.I A.1.Kind),(.str A.1.Table),(.str A.1.Name),(.own 2 0 A.1.Where.length),(.own 3 0 A.1.Row.length),(.own 4 0 A.1.Muts.length),(.own 5 0 A.1.Columns.length),(.bool A.1.Until)])) (h2:=[.box 3 (.agg [(.lst 1 (A.2.Code.map a0p)),(.I A.2.At),(.I A.2.Seed)]),.row 8 (F.map a1h),.row 3 (A.1.Where.map a3o),.row 3 (A.1.Row.map a2f),.row 3 (A.1.Muts.map a6h),.row 1 (A.1.Columns.map AV.str)]) [] [0] (fun _ => rfl) (w_spec_l00Src_op_h1 _ _ er60) rfl .r .r rfl rfl) ?_;refine a4k (a3a (j:=6) (as':=[(a1h A.1)]) rfl (fun _ => by decide) ⟨rfl,tr⟩ (.cons (.agg (.cons .r (.cons .r (.cons .r (.cons (.of_eq (congrArg (AV.lst _) (tko (enc:=a3o) A.1.Where))) (.cons (.of_eq (congrArg (AV.lst _) (tko (enc:=a2f) A.1.Row))) (.cons (.of_eq (congrArg (AV.lst _) (tko (enc:=a6h) A.1.Muts))) (.cons (.of_eq (congrArg (AV.lst _) (tko (enc:=AV.str) A.1.Columns))) (.cons .r .nil))))))))) .nil) rfl rfl rfl) ?_
     refine a4k (a6f (j:=7) (L:=((F ++ [A.1]).map a1h)) (len:=(F ++ [A.1]).length) rfl rfl (d2u (enc:=a1h) F [A.1] _ (by rfl)) (by simp <;> omega) g61 rfl rfl) ?_
     refine gd 1 ?_;refine b6g<|a5s ?_;refine gd 3 ?_;exact kl ⟨(k,w64 (K - 1),A.2.Code,A.2.At,A.2.Seed,F ++ [A.1]),hc1⟩ [0,7]
    ·refine b4i rfl (bf c58)<|le ?_;cases hc1;exact ck [0,1]
  ·obtain ⟨V,Y,Aa,M⟩:=p57
   refine gq 2 ?_;refine b3g ?_;cases hf;exact c0d [] [0,1] rfl ⟨tr,tr⟩ rfl .r .r⟩
end Go.R
end
