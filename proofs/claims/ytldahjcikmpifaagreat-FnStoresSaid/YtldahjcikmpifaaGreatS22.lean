/- Part of the proof. -/
import Derived.Test.YtldahjcikmpifaaGreatS17
import Derived.Test.YtldahjcikmpifaaGreatS18
import Derived.Test.YtldahjcikmpifaaGreatS19

section
set_option linter.all false
namespace Go.R
open Go Go.Proofs
set_option maxRecDepth 100000
set_option maxHeartbeats 8000000
instance w_spec_l03Put (B:(List o5)) (D:o5) (r:(List o5)):Ww Tryz.prog (b0j B D = some r) 225 [(.lst 3 (B.map l9)),(l9 D)] (.lst 3 (r.map l9)):=⟨fun hf => by
 unfold b0j at hf;refine co [36,46] Tryz.func225 ?_ (hc:=fTC (sp:=[(4,[[12,20],[21,0],[22,23]]),(6,[[27,29],[31],[34,36],[26,0,0,36,31,29],[30,0,0,36,31],[32,0,36,29],[33,0,36],[37,0],[4],[],[32,0,36,29],[30,0,36,31],[33,0,36],[37,0],[4],[],[32,0,36,29],[26,0,36,31,29],[30,0,36,31],[33,0,36],[37,0],[4]])]));refine sr<|bx ?_;refine gq 1 ?_;refine a0q<|a0q<|a9i ?_
 obtain ⟨J,er4,hf⟩:=ob hf
 refine go 2 ?_;refine cl (w_spec_l03Has _ _ _ er4)<|a8y<|a5s ?_
 rcases oi hf with ⟨c5,hf⟩ | ⟨c5,hf⟩
 ·refine wt c5 ?_;refine gq 2 ?_;refine b3g ?_;cases hf;exact d0t ⟨tr,tr⟩ rfl .r
 ·refine wf c5<|a5n<|a5s ?_;refine go 1 ?_;refine ln fun hl6 => ?_;refine gq 1 ?_;refine a0q ?_
  obtain ⟨A,hb1,hf⟩:=ob hf
  refine b0n ([(0,(.lst 3 (B.map l9))),(3,(.ptr 0 0 0)),(5,(.I A))],[.box 3 (.agg [(.I D.Kind),(.I D.N),(.str D.T)])]) ?_ ?_
  ·refine al (X:={q:(Nat × Int) // a3b B D q.1 q.2 = some A}) (fun q => ([(0,(.lst 3 (B.map l9))),(3,(.ptr 0 0 0)),(5,(.I q.1.2))],[.box 3 (.agg [(.I D.Kind),(.I D.N),(.str D.T)])])) (fun q => q.1.1) ⟨(FUEL,(B.length:Int)),hb1⟩ [0] ?_
   rintro ⟨⟨k,E⟩,hc1⟩
   dsimp only at hc1 ⊢
   rcases k with _ | k
   ·rw [a3b.eq_1] at hc1
    cases hc1
   ·rw [a3b.eq_2] at hc1;refine a0q<|a0q ?_
    obtain ⟨F,hb2,hc1⟩:=ob hc1
    refine b0n ([(0,(.lst 3 (B.map l9))),(3,(.ptr 0 0 0)),(5,(.I E)),(23,(.bool F))],[.box 3 (.agg [(.I D.Kind),(.I D.N),(.str D.T)])]) ?_ ?_
    ·refine a9i ?_
     rcases oi hb2 with ⟨c57,hb2⟩ | ⟨c57,hb2⟩
     ·obtain ⟨G,ex59,hb2⟩:=ob hb2
      obtain ⟨H,er61,hb2⟩:=ob hb2
      refine go 3 ?_;refine sl 14 c57 ?_;refine go 3 ?_;refine s_on rfl<|ix ex59 ?_;refine go 2 ?_;refine d0s rfl<|cll (w_spec_l03Order _ _ _ er61) ?_;refine go 2 ?_
      refine a8y ?_;cases hb2;exact ck [0]
     ·refine go 3 ?_;refine sf 14 c57 ?_;refine go 6 ?_;refine c3y rfl rfl tr ?_;refine gd 2 ?_;cases hb2;exact ck [0]
    ·rcases oi hc1 with ⟨c62,hc1⟩ | ⟨c62,hc1⟩
     ·refine wt c62<|a5n<|a5s<|b7k ?_;refine gd 3 ?_;refine b6g ?_;exact kl ⟨(k,w64 (E - 1)),hc1⟩ [0]
     ·refine wf c62<|le ?_;cases hc1;exact ck [0]
  ·refine a0q<|a9i ?_
   obtain ⟨g63,hf⟩:=og hf
   obtain ⟨g64,hf⟩:=og hf
   obtain ⟨g65,hf⟩:=og hf
   obtain ⟨g66,hf⟩:=og hf
   obtain ⟨g67,hf⟩:=og hf
   refine go 2 ?_;refine a4k (d3u (enc:=l9) rfl rfl g63.1 g63.2) ?_;refine go 3 ?_;refine a4k (e2z (enc:=l9) rfl rfl g64.1 g64.2) ?_;refine a6e (a3a (j:=1) (as':=[]) rfl (fun _ => by decide) tr .r rfl rfl rfl) (.inr ⟨(b5z (enc:=l9) rfl rfl g64.1 g64.2),⟨⟨nle,rfl⟩,⟨(c6t (enc:=l9) rfl rfl g63.1 g63.2),tr⟩⟩⟩) ?_ ?_
   ·refine a6e (a3a (j:=1) (as':=[(l9 D)]) rfl (fun _ => by decide) ⟨rfl,tr⟩ .r rfl rfl rfl) (.inr ⟨(b5z (enc:=l9) rfl rfl g64.1 g64.2),⟨(c6t (enc:=l9) rfl rfl g63.1 g63.2),tr⟩⟩) tr ?_;refine a6e (a3a (j:=2) (as':=[]) rfl (fun _ => by decide) tr .r rfl rfl rfl) (.inr ⟨(b5z (enc:=l9) rfl rfl g64.1 g64.2),⟨⟨nle,rfl⟩,⟨(c6t (enc:=l9) rfl rfl g63.1 g63.2),tr⟩⟩⟩) tr ?_
    refine a6e (a6f (j:=3) (L:=(([] ++ (B.take A.toNat)).map l9)) (len:=([] ++ (B.take A.toNat)).length) rfl rfl ((by simp)) (by simp <;> omega) g65 rfl rfl) (.inr ⟨(b5z (enc:=l9) rfl rfl g64.1 g64.2),⟨⟨nle,rfl⟩,tr⟩⟩) tr ?_
    refine a6e (a6f (j:=4) (L:=((([] ++ (B.take A.toNat)) ++ [D]).map l9)) (len:=(([] ++ (B.take A.toNat)) ++ [D]).length) rfl rfl (d2u (enc:=l9) ([] ++ (B.take A.toNat)) [D] _ (by rfl)) (by simp <;> omega) g66 rfl rfl) (.inr ⟨(b5z (enc:=l9) rfl rfl g64.1 g64.2),tr⟩) tr ?_
    refine a6e (a6f (j:=5) (L:=(((([] ++ (B.take A.toNat)) ++ [D]) ++ (B.drop A.toNat)).map l9)) (len:=((([] ++ (B.take A.toNat)) ++ [D]) ++ (B.drop A.toNat)).length) rfl rfl (apl (enc:=l9) (([] ++ (B.take A.toNat)) ++ [D]) (B.drop A.toNat)) (by simp <;> omega) g67 rfl rfl) tr tr ?_
    refine gq 1 ?_;refine b3g ?_;cases hf;exact d0t ⟨tr,tr⟩ rfl (.of_eq (congrArg (AV.lst _) (tko (enc:=l9) ((([] ++ (B.take A.toNat)) ++ [D]) ++ (B.drop A.toNat)))))
   ·refine a6e (a6f (j:=2) (L:=(([] ++ (B.take A.toNat)).map l9)) (len:=([] ++ (B.take A.toNat)).length) rfl rfl ((by simp)) (by simp <;> omega) g65 rfl rfl) (.inr ⟨(b5z (enc:=l9) rfl rfl g64.1 g64.2),⟨⟨nle,rfl⟩,tr⟩⟩) ?_ ?_
    ·refine a6e (a3a (j:=2) (as':=[(l9 D)]) rfl (fun _ => by decide) ⟨rfl,tr⟩ .r rfl rfl rfl) (.inr ⟨(b5z (enc:=l9) rfl rfl g64.1 g64.2),⟨(c6t (enc:=l9) rfl rfl g63.1 g63.2),tr⟩⟩) tr ?_
     refine a6e (a6f (j:=3) (L:=(([] ++ (B.take A.toNat)).map l9)) (len:=([] ++ (B.take A.toNat)).length) rfl rfl ((by simp)) (by simp <;> omega) g65 rfl rfl) (.inr ⟨(b5z (enc:=l9) rfl rfl g64.1 g64.2),⟨⟨nle,rfl⟩,tr⟩⟩) tr ?_
     refine a6e (a6f (j:=4) (L:=((([] ++ (B.take A.toNat)) ++ [D]).map l9)) (len:=(([] ++ (B.take A.toNat)) ++ [D]).length) rfl rfl (d2u (enc:=l9) ([] ++ (B.take A.toNat)) [D] _ (by rfl)) (by simp <;> omega) g66 rfl rfl) (.inr ⟨(b5z (enc:=l9) rfl rfl g64.1 g64.2),tr⟩) tr ?_
     refine a6e (a6f (j:=5) (L:=(((([] ++ (B.take A.toNat)) ++ [D]) ++ (B.drop A.toNat)).map l9)) (len:=((([] ++ (B.take A.toNat)) ++ [D]) ++ (B.drop A.toNat)).length) rfl rfl (apl (enc:=l9) (([] ++ (B.take A.toNat)) ++ [D]) (B.drop A.toNat)) (by simp <;> omega) g67 rfl rfl) tr tr ?_
     refine gq 1 ?_;refine b3g ?_;cases hf;exact d0t ⟨tr,tr⟩ rfl (.of_eq (congrArg (AV.lst _) (tko (enc:=l9) ((([] ++ (B.take A.toNat)) ++ [D]) ++ (B.drop A.toNat)))))
    ·refine a6e (a3a (j:=3) (as':=[(l9 D)]) rfl (fun _ => by decide) ⟨rfl,tr⟩ .r rfl rfl rfl) (.inr ⟨(b5z (enc:=l9) rfl rfl g64.1 g64.2),⟨(c6t (enc:=l9) rfl rfl g63.1 g63.2),tr⟩⟩) tr ?_
     refine a6e (a6f (j:=4) (L:=((([] ++ (B.take A.toNat)) ++ [D]).map l9)) (len:=(([] ++ (B.take A.toNat)) ++ [D]).length) rfl rfl (d2u (enc:=l9) ([] ++ (B.take A.toNat)) [D] _ (by rfl)) (by simp <;> omega) g66 rfl rfl) (.inr ⟨(b5z (enc:=l9) rfl rfl g64.1 g64.2),tr⟩) tr ?_
     refine a6e (a6f (j:=5) (L:=(((([] ++ (B.take A.toNat)) ++ [D]) ++ (B.drop A.toNat)).map l9)) (len:=((([] ++ (B.take A.toNat)) ++ [D]) ++ (B.drop A.toNat)).length) rfl rfl (apl (enc:=l9) (([] ++ (B.take A.toNat)) ++ [D]) (B.drop A.toNat)) (by simp <;> omega) g67 rfl rfl) tr tr ?_
     refine gq 1 ?_;refine b3g ?_;cases hf;exact d0t ⟨tr,tr⟩ rfl (.of_eq (congrArg (AV.lst _) (tko (enc:=l9) ((([] ++ (B.take A.toNat)) ++ [D]) ++ (B.drop A.toNat)))))⟩
instance w_spec_l03Put_h0 (A:(List o5)) (D:o5) (r:(List o5)):Wh Tryz.prog (a9j A D = some r) true 225 [(.own 0 0 A.length),(l9 D)] [.row 3 (A.map l9)] (.own 1 0 r.length) [.dead,.row 3 (r.map l9)]:=⟨fun hf => by
 unfold a9j at hf;refine coh [36,46] Tryz.func225 ?_ (hc:=fTC (sp:=[(4,[[12,20],[21,0],[22,23]]),(6,[[27,29],[31],[34,36],[26,0,0,36,31,29],[30,0,0,36,31],[32,0,36,29],[33,0,36],[37,0],[4],[],[32,0,36,29],[30,0,36,31],[33,0,36],[37,0],[4],[],[32,0,36,29],[26,0,36,31,29],[30,0,36,31],[33,0,36],[37,0],[4]])]));refine sr<|bx ?_;refine gq 1 ?_;refine a0q<|a0q<|a9i ?_
 obtain ⟨J,er4,hf⟩:=ob hf
 refine go 2 ?_;refine a4k (c0e (w_spec_l03Has _ _ _ er4) rfl (.cons (.of_eq (congrArg (AV.lst _) (tko A))) (.cons .r .nil)) rfl)<|a8y<|a5s ?_
 rcases oi hf with ⟨c5,hf⟩ | ⟨c5,hf⟩
 ·refine wt c5 ?_;refine gq 2 ?_;refine b3g ?_;cases hf;exact c0d [.mv 0] [0,2] rfl ⟨tr,tr⟩ rfl .r .r
 ·refine wf c5<|a5n<|a5s ?_;refine go 1 ?_;refine c2p (d8d rfl rfl) fun hl6 => a2t (.I (A.length:Int)) rfl<|dk<|a0q ?_
  obtain ⟨B,hb1,hf⟩:=ob hf
  refine b0n ([(0,(.own 0 0 A.length)),(3,(.ptr 1 0 0)),(5,(.I B))],[.row 3 (A.map l9),.box 3 (.agg [(.I D.Kind),(.I D.N),(.str D.T)])]) ?_ ?_
  ·refine al (X:={q:(Nat × Int) // a3f A D q.1 q.2 = some B}) (fun q => ([(0,(.own 0 0 A.length)),(3,(.ptr 1 0 0)),(5,(.I q.1.2))],[.row 3 (A.map l9),.box 3 (.agg [(.I D.Kind),(.I D.N),(.str D.T)])])) (fun q => q.1.1) ⟨(FUEL,(A.length:Int)),hb1⟩ [0,1] ?_
   rintro ⟨⟨k,E⟩,hc1⟩
   dsimp only at hc1 ⊢
   rcases k with _ | k
   ·rw [a3f.eq_1] at hc1
    cases hc1
   ·rw [a3f.eq_2] at hc1;refine a0q<|a0q ?_
    obtain ⟨F,hb2,hc1⟩:=ob hc1
    refine b0n ([(0,(.own 0 0 A.length)),(3,(.ptr 1 0 0)),(5,(.I E)),(23,(.bool F))],[.row 3 (A.map l9),.box 3 (.agg [(.I D.Kind),(.I D.N),(.str D.T)])]) ?_ ?_
    ·refine a9i ?_
     rcases oi hb2 with ⟨c64,hb2⟩ | ⟨c64,hb2⟩
     ·obtain ⟨g65,hb2⟩:=og hb2
      obtain ⟨G,ex67,hb2⟩:=ob hb2
      obtain ⟨H,er69,hb2⟩:=ob hb2
      refine go 3 ?_;refine sl 14 c64 ?_;refine go 3 ?_;refine s_on rfl<|a4k (b6x rfl rfl g65.1 g65.2 rfl rfl)<|s_on rfl<|a4k (d3t (enc:=l9) (v:=(l9 G)) rfl rfl ex67 nle rfl) ?_;refine go 1 ?_;refine d0s rfl<|cll (w_spec_l03Order _ _ _ er69) ?_;refine go 1 ?_
      refine gd 1 ?_;cases hb2;exact ck [0,1]
     ·refine go 3 ?_;refine sf 14 c64 ?_;refine go 6 ?_;refine c3y rfl rfl tr ?_;refine gd 2 ?_;cases hb2;exact ck [0,1]
    ·rcases oi hc1 with ⟨c70,hc1⟩ | ⟨c70,hc1⟩
     ·refine wt c70<|a5n<|a5s<|b7k ?_;refine gd 3 ?_;refine b6g ?_;exact kl ⟨(k,w64 (E - 1)),hc1⟩ [0,1]
     ·refine wf c70<|le ?_;cases hc1;exact ck [0,1]
  ·refine a0q<|a9i ?_
   obtain ⟨g71,hf⟩:=og hf
   obtain ⟨g72,hf⟩:=og hf
   obtain ⟨g73,hf⟩:=og hf
   obtain ⟨g74,hf⟩:=og hf
   obtain ⟨g75,hf⟩:=og hf
   refine go 2 ?_;refine a4k (d0v rfl rfl rfl g71.1 g71.2) ?_;refine go 3 ?_;refine a4k (e6y rfl rfl rfl g72.1 g72.2) ?_;refine a6e (a3a (j:=2) (as':=[]) rfl (fun _ => by decide) tr .r rfl rfl rfl) (.inr ⟨(b3r rfl rfl rfl g72.1 g72.2),⟨⟨nle,rfl⟩,⟨(c1w rfl rfl rfl g71.1 g71.2),tr⟩⟩⟩) ?_ ?_
   ·refine a6e (a3a (j:=2) (as':=[(l9 D)]) rfl (fun _ => by decide) ⟨rfl,tr⟩ .r rfl rfl rfl) (.inr ⟨(b3r rfl rfl rfl g72.1 g72.2),⟨(c1w rfl rfl rfl g71.1 g71.2),tr⟩⟩) tr ?_;refine a6e (a3a (j:=3) (as':=[]) rfl (fun _ => by decide) tr .r rfl rfl rfl) (.inr ⟨(b3r rfl rfl rfl g72.1 g72.2),⟨⟨nle,rfl⟩,⟨(c1w rfl rfl rfl g71.1 g71.2),tr⟩⟩⟩) tr ?_
    refine a6e (b1r (j:=4) (L:=(([] ++ (A.take B.toNat)).map l9)) (len:=([] ++ (A.take B.toNat)).length) rfl false rfl rfl (fun _ => flw (enc:=l9) (fun _ => rfl) A _ _) (fun _ _ h => (d2t (show AV.own _ _ _ = AV.lst _ _ from h)).elim) (by decide) ((by simp)) (by simp <;> omega) g73 rfl rfl) (.inr ⟨(b3r rfl rfl rfl g72.1 g72.2),⟨⟨nle,rfl⟩,tr⟩⟩) tr ?_
    refine a6e (b1r (j:=5) (L:=((([] ++ (A.take B.toNat)) ++ [D]).map l9)) (len:=(([] ++ (A.take B.toNat)) ++ [D]).length) rfl false rfl rfl (fun _ => flo (enc:=l9) (fun _ => rfl) [D] _) (fun _ _ h => (d2t (show AV.own _ _ _ = AV.lst _ _ from h)).elim) (by decide) (d2u (enc:=l9) ([] ++ (A.take B.toNat)) [D] _ (by rfl)) (by simp <;> omega) g74 rfl rfl) (.inr ⟨(b3r rfl rfl rfl g72.1 g72.2),tr⟩) tr ?_
    refine a6e (b1r (j:=6) (L:=(((([] ++ (A.take B.toNat)) ++ [D]) ++ ((A.drop B.toNat).take (A.length - B.toNat))).map l9)) (len:=((([] ++ (A.take B.toNat)) ++ [D]) ++ ((A.drop B.toNat).take (A.length - B.toNat))).length) rfl false rfl rfl (fun _ => flw (enc:=l9) (fun _ => rfl) A _ _) (fun _ _ h => (d2t (show AV.own _ _ _ = AV.lst _ _ from h)).elim) (by decide) ((apg (enc:=l9) (([] ++ (A.take B.toNat)) ++ [D]) ((A.drop B.toNat).take (A.length - B.toNat)) (tkw _ _ _))) (by simp <;> omega) g75 rfl rfl) tr tr ?_
    refine gq 1 ?_;refine b3g ?_;cases hf;exact c0d [.kill 0] [0,6] rfl ⟨tr,tr⟩ rfl .r .r
   ·refine a6e (b1r (j:=3) (L:=(([] ++ (A.take B.toNat)).map l9)) (len:=([] ++ (A.take B.toNat)).length) rfl false rfl rfl (fun _ => flw (enc:=l9) (fun _ => rfl) A _ _) (fun _ _ h => (d2t (show AV.own _ _ _ = AV.lst _ _ from h)).elim) (by decide) ((by simp)) (by simp <;> omega) g73 rfl rfl) (.inr ⟨(b3r rfl rfl rfl g72.1 g72.2),⟨⟨nle,rfl⟩,tr⟩⟩) ?_ ?_
    ·refine a6e (a3a (j:=3) (as':=[(l9 D)]) rfl (fun _ => by decide) ⟨rfl,tr⟩ .r rfl rfl rfl) (.inr ⟨(b3r rfl rfl rfl g72.1 g72.2),⟨(c1w rfl rfl rfl g71.1 g71.2),tr⟩⟩) tr ?_
     refine a6e (b1r (j:=4) (L:=(([] ++ (A.take B.toNat)).map l9)) (len:=([] ++ (A.take B.toNat)).length) rfl false rfl rfl (fun _ => flw (enc:=l9) (fun _ => rfl) A _ _) (fun _ _ h => (d2t (show AV.own _ _ _ = AV.lst _ _ from h)).elim) (by decide) ((by simp)) (by simp <;> omega) g73 rfl rfl) (.inr ⟨(b3r rfl rfl rfl g72.1 g72.2),⟨⟨nle,rfl⟩,tr⟩⟩) tr ?_
     refine a6e (b1r (j:=5) (L:=((([] ++ (A.take B.toNat)) ++ [D]).map l9)) (len:=(([] ++ (A.take B.toNat)) ++ [D]).length) rfl false rfl rfl (fun _ => flo (enc:=l9) (fun _ => rfl) [D] _) (fun _ _ h => (d2t (show AV.own _ _ _ = AV.lst _ _ from h)).elim) (by decide) (d2u (enc:=l9) ([] ++ (A.take B.toNat)) [D] _ (by rfl)) (by simp <;> omega) g74 rfl rfl) (.inr ⟨(b3r rfl rfl rfl g72.1 g72.2),tr⟩) tr ?_
     refine a6e (b1r (j:=6) (L:=(((([] ++ (A.take B.toNat)) ++ [D]) ++ ((A.drop B.toNat).take (A.length - B.toNat))).map l9)) (len:=((([] ++ (A.take B.toNat)) ++ [D]) ++ ((A.drop B.toNat).take (A.length - B.toNat))).length) rfl false rfl rfl (fun _ => flw (enc:=l9) (fun _ => rfl) A _ _) (fun _ _ h => (d2t (show AV.own _ _ _ = AV.lst _ _ from h)).elim) (by decide) ((apg (enc:=l9) (([] ++ (A.take B.toNat)) ++ [D]) ((A.drop B.toNat).take (A.length - B.toNat)) (tkw _ _ _))) (by simp <;> omega) g75 rfl rfl) tr tr ?_
     refine gq 1 ?_;refine b3g ?_;cases hf;exact c0d [.kill 0] [0,6] rfl ⟨tr,tr⟩ rfl .r .r
    ·refine a6e (a3a (j:=4) (as':=[(l9 D)]) rfl (fun _ => by decide) ⟨rfl,tr⟩ .r rfl rfl rfl) (.inr ⟨(b3r rfl rfl rfl g72.1 g72.2),⟨(c1w rfl rfl rfl g71.1 g71.2),tr⟩⟩) tr ?_
     refine a6e (b1r (j:=5) (L:=((([] ++ (A.take B.toNat)) ++ [D]).map l9)) (len:=(([] ++ (A.take B.toNat)) ++ [D]).length) rfl false rfl rfl (fun _ => flo (enc:=l9) (fun _ => rfl) [D] _) (fun _ _ h => (d2t (show AV.own _ _ _ = AV.lst _ _ from h)).elim) (by decide) (d2u (enc:=l9) ([] ++ (A.take B.toNat)) [D] _ (by rfl)) (by simp <;> omega) g74 rfl rfl) (.inr ⟨(b3r rfl rfl rfl g72.1 g72.2),tr⟩) tr ?_
     refine a6e (b1r (j:=6) (L:=(((([] ++ (A.take B.toNat)) ++ [D]) ++ ((A.drop B.toNat).take (A.length - B.toNat))).map l9)) (len:=((([] ++ (A.take B.toNat)) ++ [D]) ++ ((A.drop B.toNat).take (A.length - B.toNat))).length) rfl false rfl rfl (fun _ => flw (enc:=l9) (fun _ => rfl) A _ _) (fun _ _ h => (d2t (show AV.own _ _ _ = AV.lst _ _ from h)).elim) (by decide) ((apg (enc:=l9) (([] ++ (A.take B.toNat)) ++ [D]) ((A.drop B.toNat).take (A.length - B.toNat)) (tkw _ _ _))) (by simp <;> omega) g75 rfl rfl) tr tr ?_
     refine gq 1 ?_;refine b3g ?_;cases hf;exact c0d [.kill 0] [0,6] rfl ⟨tr,tr⟩ rfl .r .r⟩
instance w_spec_NameOK (A:Str) (r:Bool):Wk Tryz.prog (a8f A = some r) 191 [(.str A)] (.bool r):=⟨fun hf => by
 unfold a8f at hf;refine coA [] [] Tryz.func191 ?_;exact Z⟩
instance w_spec_l06Conds (B:o6) (A:(List a3p)) (r:Int):Wk Tryz.prog (b3i B A = some r) 366 [(a0c B),(.lst 3 (A.map a3o))] (.int .i64 r):=⟨fun hf => by
 unfold b3i at hf;refine coA [5,25] [zN0 [1,2] fun i => (fun _ _ _ _ _ => ([(5,(.int .i64 (i:Int)))],none)),fZ [] fun v:Unit => (fun _ _ _ _ _ => ([],some []))] Tryz.func366 ?_ (sp:=[(3,[[13,17],[18,0],[6]])]);exact Z⟩
instance w_spec_l07Codes (B:o6) (A:(List b1v)) (r:Int):Wk Tryz.prog (b3j B A = some r) 368 [(a0c B),(.lst 3 (A.map a6h))] (.int .i64 r):=⟨fun hf => by
 unfold b3j at hf;refine coA [5,25] [zN0 [1,2] fun i => (fun _ _ _ _ _ => ([(5,(.int .i64 (i:Int)))],none)),fZ [] fun v:Unit => (fun _ _ _ _ _ => ([],some []))] Tryz.func368 ?_ (sp:=[(3,[[13,17],[18,0],[6]])]);exact Z⟩
instance w_spec_l05Put (B:x9) (A:Int) (D:o8) (r:x9):Ww Tryz.prog (b2g B A D = some r) 148 [(a0o B),(.int .i64 A),(y8 D)] (a0o r):=⟨fun hf => by
 unfold b2g at hf;refine coA [9,14,19,24,27] [zF1 [1,3,5,6,7] fun v:Int => (fun _ _ _ _ _ => ([(8,(.int .i64 v))],none)),cZ [1,3,5,6,7,8] fun v:Bool => (fun _ _ _ _ _ => ([(30,(.bool v))],none)),cZ [1,3,5,6,7] fun v:Int => (fun _ _ _ _ _ => ([(8,(.int .i64 v))],none)),cZ [1,3,5,6,7,8,9] fun v:Bool => (fun _ _ _ _ _ => ([(49,(.bool v))],none)),cZ [1,3,5,6,7,8] fun v:(List o8) => (fun _ _ _ _ _ => ([(9,(.lst 2 (v.map y8)))],none))] Tryz.func148 ?_ (sp:=[(2,[[12,16],[7]]),(4,[[17,30]]),(7,[[36,49]]),(9,[[54,56],[58,60],[62],[66],[57,0,62,60,55,54],[61,0,62,55,54],[63,0,55,54],[64,0,55,54],[65,0,55,54],[67,0,55,54],[68],[1000,0]])]);exact Z⟩
instance w_spec_l00Src_chance_h2 (B:Int) (A:x8) (r:(Bool × x8)):Wh Tryz.prog (a0e B A = some r) false 238 [(.ptr 0 0 0),(.int .i64 B)] [.box 3 (.agg [(.lst 1 (A.Code.map a0p)),(.int .i64 A.At),(.int .i64 A.Seed)])] (.bool r.1) [.box 3 (.agg [(.lst 1 (r.2.Code.map a0p)),(.int .i64 r.2.At),(.int .i64 r.2.Seed)])]:=⟨fun hf => by
 unfold a0e at hf;refine b6a [] [] Tryz.func238 ?_;exact Z⟩
end Go.R
end
