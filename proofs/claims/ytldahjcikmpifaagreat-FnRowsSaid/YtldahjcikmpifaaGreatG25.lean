/- Part of the proof. -/
import Derived.Test.YtldahjcikmpifaaGreatG19

section
set_option linter.all false
namespace Go.R
open Go Go.Proofs
set_option maxRecDepth 100000
set_option maxHeartbeats 8000000
instance w_spec_l00Src_chance (B:Int) (A:o8) (r:(Bool × o8)):Wh Tryz.prog (a1g B A = some r) true 238 [(.ptr 0 0 0),(.int .i64 B)] [.box 3 (.agg [(.lst 1 (A.Code.map a0h)),(.int .i64 A.At),(.int .i64 A.Seed)])] (.bool r.1) [.box 3 (.agg [(.lst 1 (r.2.Code.map a0h)),(.int .i64 r.2.At),(.int .i64 r.2.Seed)])]:=⟨fun hf => by
 unfold a1g at hf;refine b3b [] [] Tryz.func238 ?_;exact Z⟩
instance w_spec_l00Src_pick (A:(List Str)) (B:o8) (r:(Str × o8)):Wh Tryz.prog (a3z A B = some r) true 303 [(.ptr 0 0 0),(.lst 1 (A.map AV.str))] [.box 3 (.agg [(.lst 1 (B.Code.map a0h)),(.int .i64 B.At),(.int .i64 B.Seed)])] (.str r.1) [.box 3 (.agg [(.lst 1 (r.2.Code.map a0h)),(.int .i64 r.2.At),(.int .i64 r.2.Seed)])]:=⟨fun hf => by
 unfold a3z at hf;refine b3b [] [] Tryz.func303 ?_;exact Z⟩
instance w_spec_l03Put (B:(List o7)) (D:o7) (r:(List o7)):Ww Tryz.prog (a8u B D = some r) 225 [(.lst 3 (B.map l9)),(l9 D)] (.lst 3 (r.map l9)):=⟨fun hf => by
 unfold a8u at hf;refine co [36,46] Tryz.func225 ?_ (hc:=fTC (sp:=[(4,[[12,20],[21,0],[22,23]]),(6,[[27,29],[31],[34,36],[26,0,0,36,31,29],[30,0,0,36,31],[32,0,36,29],[33,0,36],[37,0],[4],[],[32,0,36,29],[30,0,36,31],[33,0,36],[37,0],[4],[],[32,0,36,29],[26,0,36,31,29],[30,0,36,31],[33,0,36],[37,0],[4]])]));refine sr<|bx ?_;refine gq 1 ?_;refine a0n<|a0n<|a5h ?_
 obtain ⟨J,er4,hf⟩:=ob hf
 refine go 2 ?_;refine cl (w_spec_l03Has _ _ _ er4)<|a9v<|a4g ?_
 rcases oi hf with ⟨c5,hf⟩ | ⟨c5,hf⟩
 ·refine wt c5 ?_;refine gq 2 ?_;refine a7u ?_;cases hf;exact c7w ⟨tr,tr⟩ rfl .r
 ·refine wf c5<|a4s<|a4g ?_;refine go 1 ?_;refine ln fun hl6 => ?_;refine gq 1 ?_;refine a0n ?_
  obtain ⟨A,hb1,hf⟩:=ob hf
  refine a8y ([(0,(.lst 3 (B.map l9))),(3,(.ptr 0 0 0)),(5,(.I A))],[.box 3 (.agg [(.I D.Kind),(.I D.N),(.str D.T)])]) ?_ ?_
  ·refine al (X:={q:(Nat × Int) // a2t B D q.1 q.2 = some A}) (fun q => ([(0,(.lst 3 (B.map l9))),(3,(.ptr 0 0 0)),(5,(.I q.1.2))],[.box 3 (.agg [(.I D.Kind),(.I D.N),(.str D.T)])])) (fun q => q.1.1) ⟨(FUEL,(B.length:Int)),hb1⟩ [0] ?_
   rintro ⟨⟨k,E⟩,hc1⟩
   dsimp only at hc1 ⊢
   rcases k with _ | k
   ·rw [a2t.eq_1] at hc1
    cases hc1
   ·rw [a2t.eq_2] at hc1;refine a0n<|a0n ?_
    obtain ⟨F,hb2,hc1⟩:=ob hc1
    refine a8y ([(0,(.lst 3 (B.map l9))),(3,(.ptr 0 0 0)),(5,(.I E)),(23,(.bool F))],[.box 3 (.agg [(.I D.Kind),(.I D.N),(.str D.T)])]) ?_ ?_
    ·refine a5h ?_
     rcases oi hb2 with ⟨c57,hb2⟩ | ⟨c57,hb2⟩
     ·obtain ⟨G,ex59,hb2⟩:=ob hb2
      obtain ⟨H,er61,hb2⟩:=ob hb2
      refine go 3 ?_;refine sl 14 c57 ?_;refine go 3 ?_;refine s_on rfl<|ix ex59 ?_;refine go 2 ?_;refine c4y rfl<|cll (w_spec_l03Order _ _ _ er61) ?_;refine go 2 ?_
      refine a9v ?_;cases hb2;exact ck [0]
     ·refine go 3 ?_;refine sf 14 c57 ?_;refine go 6 ?_;refine b8a rfl rfl tr ?_;refine gd 2 ?_;cases hb2;exact ck [0]
    ·rcases oi hc1 with ⟨c62,hc1⟩ | ⟨c62,hc1⟩
     ·refine wt c62<|a4s<|a4g<|b6d ?_;refine gd 3 ?_;refine b4i ?_;exact kl ⟨(k,w64 (E - 1)),hc1⟩ [0]
     ·refine wf c62<|le ?_;cases hc1;exact ck [0]
  ·refine a0n<|a5h ?_
   obtain ⟨g63,hf⟩:=og hf
   obtain ⟨g64,hf⟩:=og hf
   obtain ⟨g65,hf⟩:=og hf
   obtain ⟨g66,hf⟩:=og hf
   obtain ⟨g67,hf⟩:=og hf
   refine go 2 ?_;refine a2z (d4x (enc:=l9) rfl rfl g63.1 g63.2) ?_;refine go 3 ?_;refine a2z (d9l (enc:=l9) rfl rfl g64.1 g64.2) ?_;refine a4t (a2m (j:=1) (as':=[]) rfl (fun _ => by decide) tr .r rfl rfl rfl) (.inr ⟨(b4e (enc:=l9) rfl rfl g64.1 g64.2),⟨⟨nle,rfl⟩,⟨(c3x (enc:=l9) rfl rfl g63.1 g63.2),tr⟩⟩⟩) ?_ ?_
   ·refine a4t (a2m (j:=1) (as':=[(l9 D)]) rfl (fun _ => by decide) ⟨rfl,tr⟩ .r rfl rfl rfl) (.inr ⟨(b4e (enc:=l9) rfl rfl g64.1 g64.2),⟨(c3x (enc:=l9) rfl rfl g63.1 g63.2),tr⟩⟩) tr ?_;refine a4t (a2m (j:=2) (as':=[]) rfl (fun _ => by decide) tr .r rfl rfl rfl) (.inr ⟨(b4e (enc:=l9) rfl rfl g64.1 g64.2),⟨⟨nle,rfl⟩,⟨(c3x (enc:=l9) rfl rfl g63.1 g63.2),tr⟩⟩⟩) tr ?_
    refine a4t (a5i (j:=3) (L:=(([] ++ (B.take A.toNat)).map l9)) (len:=([] ++ (B.take A.toNat)).length) rfl rfl ((by simp)) (by simp <;> omega) g65 rfl rfl) (.inr ⟨(b4e (enc:=l9) rfl rfl g64.1 g64.2),⟨⟨nle,rfl⟩,tr⟩⟩) tr ?_
    refine a4t (a5i (j:=4) (L:=((([] ++ (B.take A.toNat)) ++ [D]).map l9)) (len:=(([] ++ (B.take A.toNat)) ++ [D]).length) rfl rfl (c9u (enc:=l9) ([] ++ (B.take A.toNat)) [D] _ (by rfl)) (by simp <;> omega) g66 rfl rfl) (.inr ⟨(b4e (enc:=l9) rfl rfl g64.1 g64.2),tr⟩) tr ?_
    refine a4t (a5i (j:=5) (L:=(((([] ++ (B.take A.toNat)) ++ [D]) ++ (B.drop A.toNat)).map l9)) (len:=((([] ++ (B.take A.toNat)) ++ [D]) ++ (B.drop A.toNat)).length) rfl rfl (apl (enc:=l9) (([] ++ (B.take A.toNat)) ++ [D]) (B.drop A.toNat)) (by simp <;> omega) g67 rfl rfl) tr tr ?_
    refine gq 1 ?_;refine a7u ?_;cases hf;exact c7w ⟨tr,tr⟩ rfl (.of_eq (congrArg (AV.lst _) (tko (enc:=l9) ((([] ++ (B.take A.toNat)) ++ [D]) ++ (B.drop A.toNat)))))
   ·refine a4t (a5i (j:=2) (L:=(([] ++ (B.take A.toNat)).map l9)) (len:=([] ++ (B.take A.toNat)).length) rfl rfl ((by simp)) (by simp <;> omega) g65 rfl rfl) (.inr ⟨(b4e (enc:=l9) rfl rfl g64.1 g64.2),⟨⟨nle,rfl⟩,tr⟩⟩) ?_ ?_
    ·refine a4t (a2m (j:=2) (as':=[(l9 D)]) rfl (fun _ => by decide) ⟨rfl,tr⟩ .r rfl rfl rfl) (.inr ⟨(b4e (enc:=l9) rfl rfl g64.1 g64.2),⟨(c3x (enc:=l9) rfl rfl g63.1 g63.2),tr⟩⟩) tr ?_
     refine a4t (a5i (j:=3) (L:=(([] ++ (B.take A.toNat)).map l9)) (len:=([] ++ (B.take A.toNat)).length) rfl rfl ((by simp)) (by simp <;> omega) g65 rfl rfl) (.inr ⟨(b4e (enc:=l9) rfl rfl g64.1 g64.2),⟨⟨nle,rfl⟩,tr⟩⟩) tr ?_
     refine a4t (a5i (j:=4) (L:=((([] ++ (B.take A.toNat)) ++ [D]).map l9)) (len:=(([] ++ (B.take A.toNat)) ++ [D]).length) rfl rfl (c9u (enc:=l9) ([] ++ (B.take A.toNat)) [D] _ (by rfl)) (by simp <;> omega) g66 rfl rfl) (.inr ⟨(b4e (enc:=l9) rfl rfl g64.1 g64.2),tr⟩) tr ?_
     refine a4t (a5i (j:=5) (L:=(((([] ++ (B.take A.toNat)) ++ [D]) ++ (B.drop A.toNat)).map l9)) (len:=((([] ++ (B.take A.toNat)) ++ [D]) ++ (B.drop A.toNat)).length) rfl rfl (apl (enc:=l9) (([] ++ (B.take A.toNat)) ++ [D]) (B.drop A.toNat)) (by simp <;> omega) g67 rfl rfl) tr tr ?_
     refine gq 1 ?_;refine a7u ?_;cases hf;exact c7w ⟨tr,tr⟩ rfl (.of_eq (congrArg (AV.lst _) (tko (enc:=l9) ((([] ++ (B.take A.toNat)) ++ [D]) ++ (B.drop A.toNat)))))
    ·refine a4t (a2m (j:=3) (as':=[(l9 D)]) rfl (fun _ => by decide) ⟨rfl,tr⟩ .r rfl rfl rfl) (.inr ⟨(b4e (enc:=l9) rfl rfl g64.1 g64.2),⟨(c3x (enc:=l9) rfl rfl g63.1 g63.2),tr⟩⟩) tr ?_
     refine a4t (a5i (j:=4) (L:=((([] ++ (B.take A.toNat)) ++ [D]).map l9)) (len:=(([] ++ (B.take A.toNat)) ++ [D]).length) rfl rfl (c9u (enc:=l9) ([] ++ (B.take A.toNat)) [D] _ (by rfl)) (by simp <;> omega) g66 rfl rfl) (.inr ⟨(b4e (enc:=l9) rfl rfl g64.1 g64.2),tr⟩) tr ?_
     refine a4t (a5i (j:=5) (L:=(((([] ++ (B.take A.toNat)) ++ [D]) ++ (B.drop A.toNat)).map l9)) (len:=((([] ++ (B.take A.toNat)) ++ [D]) ++ (B.drop A.toNat)).length) rfl rfl (apl (enc:=l9) (([] ++ (B.take A.toNat)) ++ [D]) (B.drop A.toNat)) (by simp <;> omega) g67 rfl rfl) tr tr ?_
     refine gq 1 ?_;refine a7u ?_;cases hf;exact c7w ⟨tr,tr⟩ rfl (.of_eq (congrArg (AV.lst _) (tko (enc:=l9) ((([] ++ (B.take A.toNat)) ++ [D]) ++ (B.drop A.toNat)))))⟩
instance w_spec_l03Put_h0 (A:(List o7)) (D:o7) (r:(List o7)):Wh Tryz.prog (a7y A D = some r) true 225 [(.own 0 0 A.length),(l9 D)] [.row 3 (A.map l9)] (.own 1 0 r.length) [.dead,.row 3 (r.map l9)]:=⟨fun hf => by
 unfold a7y at hf;refine coh [36,46] Tryz.func225 ?_ (hc:=fTC (sp:=[(4,[[12,20],[21,0],[22,23]]),(6,[[27,29],[31],[34,36],[26,0,0,36,31,29],[30,0,0,36,31],[32,0,36,29],[33,0,36],[37,0],[4],[],[32,0,36,29],[30,0,36,31],[33,0,36],[37,0],[4],[],[32,0,36,29],[26,0,36,31,29],[30,0,36,31],[33,0,36],[37,0],[4]])]));refine sr<|bx ?_;refine gq 1 ?_;refine a0n<|a0n<|a5h ?_
 obtain ⟨J,er4,hf⟩:=ob hf
 refine go 2 ?_;refine a2z (d2l (w_spec_l03Has _ _ _ er4) rfl (.cons (.of_eq (congrArg (AV.lst _) (tko A))) (.cons .r .nil)) rfl)<|a9v<|a4g ?_
 rcases oi hf with ⟨c5,hf⟩ | ⟨c5,hf⟩
 ·refine wt c5 ?_;refine gq 2 ?_;refine a7u ?_;cases hf;exact b1w [.mv 0] [0,2] rfl ⟨tr,tr⟩ rfl .r .r
 ·refine wf c5<|a4s<|a4g ?_;refine go 1 ?_;refine d4u (c7x rfl rfl) fun hl6 => b5o (.I (A.length:Int)) rfl<|dk<|a0n ?_
  obtain ⟨B,hb1,hf⟩:=ob hf
  refine a8y ([(0,(.own 0 0 A.length)),(3,(.ptr 1 0 0)),(5,(.I B))],[.row 3 (A.map l9),.box 3 (.agg [(.I D.Kind),(.I D.N),(.str D.T)])]) ?_ ?_
  ·refine al (X:={q:(Nat × Int) // a3a A D q.1 q.2 = some B}) (fun q => ([(0,(.own 0 0 A.length)),(3,(.ptr 1 0 0)),(5,(.I q.1.2))],[.row 3 (A.map l9),.box 3 (.agg [(.I D.Kind),(.I D.N),(.str D.T)])])) (fun q => q.1.1) ⟨(FUEL,(A.length:Int)),hb1⟩ [0,1] ?_
   rintro ⟨⟨k,E⟩,hc1⟩
   dsimp only at hc1 ⊢
   rcases k with _ | k
   ·rw [a3a.eq_1] at hc1
    cases hc1
   ·rw [a3a.eq_2] at hc1;refine a0n<|a0n ?_
    obtain ⟨F,hb2,hc1⟩:=ob hc1
    refine a8y ([(0,(.own 0 0 A.length)),(3,(.ptr 1 0 0)),(5,(.I E)),(23,(.bool F))],[.row 3 (A.map l9),.box 3 (.agg [(.I D.Kind),(.I D.N),(.str D.T)])]) ?_ ?_
    ·refine a5h ?_
     rcases oi hb2 with ⟨c64,hb2⟩ | ⟨c64,hb2⟩
     ·obtain ⟨g65,hb2⟩:=og hb2
      obtain ⟨G,ex67,hb2⟩:=ob hb2
      obtain ⟨H,er69,hb2⟩:=ob hb2
      refine go 3 ?_;refine sl 14 c64 ?_;refine go 3 ?_;refine s_on rfl<|a2z (b3g rfl rfl g65.1 g65.2 rfl rfl)<|s_on rfl<|a2z (d0v (enc:=l9) (v:=(l9 G)) rfl rfl ex67 nle rfl) ?_;refine go 1 ?_;refine c4y rfl<|cll (w_spec_l03Order _ _ _ er69) ?_;refine go 1 ?_
      refine gd 1 ?_;cases hb2;exact ck [0,1]
     ·refine go 3 ?_;refine sf 14 c64 ?_;refine go 6 ?_;refine b8a rfl rfl tr ?_;refine gd 2 ?_;cases hb2;exact ck [0,1]
    ·rcases oi hc1 with ⟨c70,hc1⟩ | ⟨c70,hc1⟩
     ·refine wt c70<|a4s<|a4g<|b6d ?_;refine gd 3 ?_;refine b4i ?_;exact kl ⟨(k,w64 (E - 1)),hc1⟩ [0,1]
     ·refine wf c70<|le ?_;cases hc1;exact ck [0,1]
  ·refine a0n<|a5h ?_
   obtain ⟨g71,hf⟩:=og hf
   obtain ⟨g72,hf⟩:=og hf
   obtain ⟨g73,hf⟩:=og hf
   obtain ⟨g74,hf⟩:=og hf
   obtain ⟨g75,hf⟩:=og hf
   refine go 2 ?_;refine a2z (c7y rfl rfl rfl g71.1 g71.2) ?_;refine go 3 ?_;refine a2z (e3v rfl rfl rfl g72.1 g72.2) ?_;refine a4t (a2m (j:=2) (as':=[]) rfl (fun _ => by decide) tr .r rfl rfl rfl) (.inr ⟨(b1r rfl rfl rfl g72.1 g72.2),⟨⟨nle,rfl⟩,⟨(b9g rfl rfl rfl g71.1 g71.2),tr⟩⟩⟩) ?_ ?_
   ·refine a4t (a2m (j:=2) (as':=[(l9 D)]) rfl (fun _ => by decide) ⟨rfl,tr⟩ .r rfl rfl rfl) (.inr ⟨(b1r rfl rfl rfl g72.1 g72.2),⟨(b9g rfl rfl rfl g71.1 g71.2),tr⟩⟩) tr ?_;refine a4t (a2m (j:=3) (as':=[]) rfl (fun _ => by decide) tr .r rfl rfl rfl) (.inr ⟨(b1r rfl rfl rfl g72.1 g72.2),⟨⟨nle,rfl⟩,⟨(b9g rfl rfl rfl g71.1 g71.2),tr⟩⟩⟩) tr ?_
    refine a4t (a7w (j:=4) (L:=(([] ++ (A.take B.toNat)).map l9)) (len:=([] ++ (A.take B.toNat)).length) rfl false rfl rfl (fun _ => flw (enc:=l9) (fun _ => rfl) A _ _) (fun _ _ h => (c9t (show AV.own _ _ _ = AV.lst _ _ from h)).elim) (by decide) ((by simp)) (by simp <;> omega) g73 rfl rfl) (.inr ⟨(b1r rfl rfl rfl g72.1 g72.2),⟨⟨nle,rfl⟩,tr⟩⟩) tr ?_
    refine a4t (a7w (j:=5) (L:=((([] ++ (A.take B.toNat)) ++ [D]).map l9)) (len:=(([] ++ (A.take B.toNat)) ++ [D]).length) rfl false rfl rfl (fun _ => flo (enc:=l9) (fun _ => rfl) [D] _) (fun _ _ h => (c9t (show AV.own _ _ _ = AV.lst _ _ from h)).elim) (by decide) (c9u (enc:=l9) ([] ++ (A.take B.toNat)) [D] _ (by rfl)) (by simp <;> omega) g74 rfl rfl) (.inr ⟨(b1r rfl rfl rfl g72.1 g72.2),tr⟩) tr ?_
    refine a4t (a7w (j:=6) (L:=(((([] ++ (A.take B.toNat)) ++ [D]) ++ ((A.drop B.toNat).take (A.length - B.toNat))).map l9)) (len:=((([] ++ (A.take B.toNat)) ++ [D]) ++ ((A.drop B.toNat).take (A.length - B.toNat))).length) rfl false rfl rfl (fun _ => flw (enc:=l9) (fun _ => rfl) A _ _) (fun _ _ h => (c9t (show AV.own _ _ _ = AV.lst _ _ from h)).elim) (by decide) ((apg (enc:=l9) (([] ++ (A.take B.toNat)) ++ [D]) ((A.drop B.toNat).take (A.length - B.toNat)) (tkw _ _ _))) (by simp <;> omega) g75 rfl rfl) tr tr ?_
    refine gq 1 ?_;refine a7u ?_;cases hf;exact b1w [.kill 0] [0,6] rfl ⟨tr,tr⟩ rfl .r .r
   ·refine a4t (a7w (j:=3) (L:=(([] ++ (A.take B.toNat)).map l9)) (len:=([] ++ (A.take B.toNat)).length) rfl false rfl rfl (fun _ => flw (enc:=l9) (fun _ => rfl) A _ _) (fun _ _ h => (c9t (show AV.own _ _ _ = AV.lst _ _ from h)).elim) (by decide) ((by simp)) (by simp <;> omega) g73 rfl rfl) (.inr ⟨(b1r rfl rfl rfl g72.1 g72.2),⟨⟨nle,rfl⟩,tr⟩⟩) ?_ ?_
    ·refine a4t (a2m (j:=3) (as':=[(l9 D)]) rfl (fun _ => by decide) ⟨rfl,tr⟩ .r rfl rfl rfl) (.inr ⟨(b1r rfl rfl rfl g72.1 g72.2),⟨(b9g rfl rfl rfl g71.1 g71.2),tr⟩⟩) tr ?_
     refine a4t (a7w (j:=4) (L:=(([] ++ (A.take B.toNat)).map l9)) (len:=([] ++ (A.take B.toNat)).length) rfl false rfl rfl (fun _ => flw (enc:=l9) (fun _ => rfl) A _ _) (fun _ _ h => (c9t (show AV.own _ _ _ = AV.lst _ _ from h)).elim) (by decide) ((by simp)) (by simp <;> omega) g73 rfl rfl) (.inr ⟨(b1r rfl rfl rfl g72.1 g72.2),⟨⟨nle,rfl⟩,tr⟩⟩) tr ?_
     refine a4t (a7w (j:=5) (L:=((([] ++ (A.take B.toNat)) ++ [D]).map l9)) (len:=(([] ++ (A.take B.toNat)) ++ [D]).length) rfl false rfl rfl (fun _ => flo (enc:=l9) (fun _ => rfl) [D] _) (fun _ _ h => (c9t (show AV.own _ _ _ = AV.lst _ _ from h)).elim) (by decide) (c9u (enc:=l9) ([] ++ (A.take B.toNat)) [D] _ (by rfl)) (by simp <;> omega) g74 rfl rfl) (.inr ⟨(b1r rfl rfl rfl g72.1 g72.2),tr⟩) tr ?_
     refine a4t (a7w (j:=6) (L:=(((([] ++ (A.take B.toNat)) ++ [D]) ++ ((A.drop B.toNat).take (A.length - B.toNat))).map l9)) (len:=((([] ++ (A.take B.toNat)) ++ [D]) ++ ((A.drop B.toNat).take (A.length - B.toNat))).length) rfl false rfl rfl (fun _ => flw (enc:=l9) (fun _ => rfl) A _ _) (fun _ _ h => (c9t (show AV.own _ _ _ = AV.lst _ _ from h)).elim) (by decide) ((apg (enc:=l9) (([] ++ (A.take B.toNat)) ++ [D]) ((A.drop B.toNat).take (A.length - B.toNat)) (tkw _ _ _))) (by simp <;> omega) g75 rfl rfl) tr tr ?_
     refine gq 1 ?_;refine a7u ?_;cases hf;exact b1w [.kill 0] [0,6] rfl ⟨tr,tr⟩ rfl .r .r
    ·refine a4t (a2m (j:=4) (as':=[(l9 D)]) rfl (fun _ => by decide) ⟨rfl,tr⟩ .r rfl rfl rfl) (.inr ⟨(b1r rfl rfl rfl g72.1 g72.2),⟨(b9g rfl rfl rfl g71.1 g71.2),tr⟩⟩) tr ?_
     refine a4t (a7w (j:=5) (L:=((([] ++ (A.take B.toNat)) ++ [D]).map l9)) (len:=(([] ++ (A.take B.toNat)) ++ [D]).length) rfl false rfl rfl (fun _ => flo (enc:=l9) (fun _ => rfl) [D] _) (fun _ _ h => (c9t (show AV.own _ _ _ = AV.lst _ _ from h)).elim) (by decide) (c9u (enc:=l9) ([] ++ (A.take B.toNat)) [D] _ (by rfl)) (by simp <;> omega) g74 rfl rfl) (.inr ⟨(b1r rfl rfl rfl g72.1 g72.2),tr⟩) tr ?_
     refine a4t (a7w (j:=6) (L:=(((([] ++ (A.take B.toNat)) ++ [D]) ++ ((A.drop B.toNat).take (A.length - B.toNat))).map l9)) (len:=((([] ++ (A.take B.toNat)) ++ [D]) ++ ((A.drop B.toNat).take (A.length - B.toNat))).length) rfl false rfl rfl (fun _ => flw (enc:=l9) (fun _ => rfl) A _ _) (fun _ _ h => (c9t (show AV.own _ _ _ = AV.lst _ _ from h)).elim) (by decide) ((apg (enc:=l9) (([] ++ (A.take B.toNat)) ++ [D]) ((A.drop B.toNat).take (A.length - B.toNat)) (tkw _ _ _))) (by simp <;> omega) g75 rfl rfl) tr tr ?_
     refine gq 1 ?_;refine a7u ?_;cases hf;exact b1w [.kill 0] [0,6] rfl ⟨tr,tr⟩ rfl .r .r⟩
instance w_spec_NameOK (A:Str) (r:Bool):Wk Tryz.prog (b2i A = some r) 191 [(.str A)] (.bool r):=⟨fun hf => by
 unfold b2i at hf;refine coA [] [] Tryz.func191 ?_;exact Z⟩
instance w_spec_l06Conds (B:x8) (A:(List a3k)) (r:Int):Wk Tryz.prog (b1g B A = some r) 366 [(a0f B),(.lst 3 (A.map a3i))] (.int .i64 r):=⟨fun hf => by
 unfold b1g at hf;refine coA [5,25] [zN0 [1,2] fun i => (fun _ _ _ _ _ => ([(5,(.int .i64 (i:Int)))],none)),fZ [] fun v:Unit => (fun _ _ _ _ _ => ([],some []))] Tryz.func366 ?_ (sp:=[(3,[[13,17],[18,0],[6]])]);exact Z⟩
end Go.R
end
