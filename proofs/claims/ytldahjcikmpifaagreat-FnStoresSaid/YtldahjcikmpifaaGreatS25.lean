/- Part of the proof. -/
import Derived.Test.YtldahjcikmpifaaGreatS20
import Derived.Test.YtldahjcikmpifaaGreatS21

section
set_option linter.all false
namespace Go.R
open Go Go.Proofs
set_option maxRecDepth 100000
set_option maxHeartbeats 8000000
instance w_impl_SchemaOK_1_1 (B:y7) (A:o7) (r:Bool):Wk Tryz.prog (a6k B A = some r) 170 [(a0n B),(.iptr (a0s A) 0)] (.bool r):=⟨fun hf => by
 unfold a6k at hf;refine coA [] [] Tryz.func170 ?_;exact Z⟩
instance c_impl_SchemaOK_1_1 (A:o7):K1 Tryz.prog (fun a0 => a6k a0 A) (fun a0 => (a0n a0)) (fun r => (.bool r)) 170 [(.iptr (a0s A) 0)]:={hp:=fun a0 r h => w_impl_SchemaOK_1_1 a0 A r h}
instance w_impl_SchemaOK_1 (B:o6) (A:o7) (r:Bool):Wk Tryz.prog (a8a B A = some r) 168 [(a0c B),(.iptr (a0s A) 0)] (.bool r):=⟨fun hf => by
 unfold a8a at hf;refine coA [] [] Tryz.func168 ?_;exact Z⟩
instance c_impl_SchemaOK_1 (A:o7):K1 Tryz.prog (fun a0 => a8a a0 A) (fun a0 => (a0c a0)) (fun r => (.bool r)) 168 [(.iptr (a0s A) 0)]:={hp:=fun a0 r h => w_impl_SchemaOK_1 a0 A r h}
instance w_impl_AtomOK (A:o5) (r:Bool):Wk Tryz.prog (b4b A = some r) 135 [(l9 A)] (.bool r):=⟨fun hf => by
 unfold b4b at hf;refine coA [] [] Tryz.func135 ?_;exact Z⟩
instance w_impl_compareAtoms (A:o5) (B:o5) (r:Int):Wk Tryz.prog (a6l A B = some r) 227 [(l9 A),(l9 B)] (.int .i64 r):=⟨fun hf => by
 unfold a6l at hf;refine coA [] [] Tryz.func227 ?_ (sp:=[(1,[[5,8],[10,13],[15,18],[9,0,18,17,16,15,13,12,11,10],[14,0,18,17,16,15],[19,0],[20,0],[21,0],[4]])]);exact Z⟩
instance w_impl_rowAt_1 (B:o8) (A:Int) (r:Int):Wk Tryz.prog (a8v B A = some r) 248 [(y8 B),(.int .i64 A)] (.int .i64 r):=⟨fun hf => by
 unfold a8v at hf;refine coA [] [] Tryz.func248 ?_;exact Z⟩
instance c_impl_rowAt_1 :K2 Tryz.prog a8v (fun a0 => (y8 a0)) (fun a1 => (.int .i64 a1)) (fun r => (.int .i64 r)) 248 []:={hp:=fun a0 a1 r h => w_impl_rowAt_1 a0 a1 r h}
instance w_impl_rowAt (A:(List o8)) (B:Int) (r:(Int × Bool)):Wk Tryz.prog (b7c A B = some r) 150 [(.lst 2 (A.map y8)),(.int .i64 B)] (.tup [(.int .i64 r.1),(.bool r.2)]):=⟨fun hf => by
 unfold b7c at hf;refine coA [] [] Tryz.func150 ?_;exact Z⟩
instance w_impl_Store_hasRow (D:x9) (A:Int) (B:Int) (r:Bool):Wk Tryz.prog (a4a D A B = some r) 82 [(a0o D),(.int .i64 A),(.int .i64 B)] (.bool r):=⟨fun hf => by
 unfold a4a at hf;refine coA [] [] Tryz.func82 ?_;exact Z⟩
instance w_impl_hasAlike (D:o6) (A:(List o8)) (r:Bool):Wk Tryz.prog (b3o D A = some r) 177 [(a0c D),(.lst 2 (A.map y8))] (.bool r):=⟨fun hf => by
 unfold b3o at hf;refine co [94,96] Tryz.func177 ?_;refine sr<|a4k (c2s (j:=0) (c:=(.agg [(.str D.Name),(.lst 8 (D.Columns.map a0n)),(.lst 1 (D.Unique.map encI)),(.bool D.Root)])) rfl tr rfl rfl)<|a2t (.bool false) rfl<|dk<|a0q<|sr<|s_q (.ptr 0 0 2) rfl tr rfl<|s_q (.lst 1 (D.Unique.map encI)) rfl nle rfl<|c2p (d8c (enc:=encI) rfl) fun hl3 => s_q (.bool ((D.Unique.length:Int) == 0)) rfl rfl rfl<|dk<|?_
 rcases oi hf with ⟨c4,hf⟩ | ⟨c4,hf⟩
 ·refine b5m rfl c4<|sr<|a2t (.bool false) rfl<|dk<|b3g<|?_;obtain rfl:=os hf;exact b7v ⟨tr,tr⟩ rfl .r
 ·refine b4i rfl (bf c4)<|a5n<|a5s<|a0q<|sr<|a2t (.lst 2 (A.map y8)) rfl<|c2p (d8c (enc:=y8) rfl) fun hl5 => a2t (.I 0) rfl<|dk<|?_
  obtain ⟨p122,hb1,hf⟩:=ob hf
  refine b8b (X:={q:Unit // p122 = .go q}) (fun q => ([],[])) ?_ ?_
  ·refine b5t (X:={q:Nat // a3s A D (A.drop q) q = some p122}) (fun q => ([(1,(.lst 2 (A.map y8))),(2,(.ptr 0 0 0)),(13,(.lst 2 (A.map y8))),(14,(.I (A.length:Int))),(15,(.I (q.1:Int)))],[.box 4 (.agg [(.str D.Name),(.lst 8 (D.Columns.map a0n)),(.lst 1 (D.Unique.map encI)),(.bool D.Root)])])) (fun q => A.length - q.1) ⟨0,hb1⟩ ⟨[],[0],_,_,rfl,rfl,⟨.r,⟨.r,⟨.r,⟨.r,⟨.r,tr⟩⟩⟩⟩⟩,.r⟩ ?_
   rintro ⟨B,hc1⟩
   have hc1:a3s A D (A.drop B) B = some p122:=hc1
   refine (show awp Tryz.prog false 0 _ (ofL [(1,(.lst 2 (A.map y8))),(2,(.ptr 0 0 0)),(13,(.lst 2 (A.map y8))),(14,(.I (A.length:Int))),(15,(.I (B:Int)))]) [.box 4 (.agg [(.str D.Name),(.lst 8 (D.Columns.map a0n)),(.lst 1 (D.Unique.map encI)),(.bool D.Root)])] _ from ?_)
   rcases c7v A B with ⟨hie125,hd128⟩ | ⟨hlt123,F,hx124,hd128⟩
   ·rw [hd128,a3s.eq_1] at hc1
    have hq127:=dlf hie125
    refine sr<|s_q (.bool (decide ((B:Int) < (A.length:Int)))) rfl rfl rfl<|dk<|a0q<|b4i rfl hq127<|c4b<|c4a<|c1u<|c3z<|?_;obtain rfl:=os hc1;exact e1a ⟨_,rfl⟩ ⟨[],[],_,_,rfl,rfl,tr,.r⟩
   ·rw [hd128,a3s.eq_2] at hc1
    have hq127:=dlt hlt123
    refine sr<|s_q (.bool (decide ((B:Int) < (A.length:Int)))) rfl rfl rfl<|dk<|a0q<|b5m rfl hq127<|a5n<|a5s<|a0q<|b7k<|sr<|a2t (.I (B:Int)) rfl<|a4k (d0u (enc:=y8) rfl rfl hx124)<|s_q (y8 F) rfl nle rfl<|a4k (c2s (j:=1) (c:=(.agg [(.I 0),.nil])) rfl tr rfl rfl)<|a2t (.I (B:Int)) rfl<|c2r (a8z (v:=(.agg [(.I F.Id),(.lst 1 (F.Cells.map (a2m 3 l9)))])) (y':=(.agg [(.I F.Id),(.lst 1 (F.Cells.map (a2m 3 l9)))])) rfl rfl rfl tr ⟨rfl,nle⟩ ⟨⟨rfl,tr⟩,⟨⟨rfl,tr⟩,tr⟩⟩ rfl)<|?_
    refine dk<|sr<|?_
    obtain ⟨g130,hc1⟩:=og hc1
    refine a2t (.lst 2 (A.map y8)) rfl<|a2t (.I (B:Int)) rfl<|a4k (d3u (enc:=y8) rfl rfl g130.1 g130.2)<|c2p (d8c (enc:=y8) rfl) fun hl131 => a2t (.I 0) rfl<|dk<|?_
    obtain ⟨p152,hb2,hc1⟩:=ob hc1
    refine c1t (X:={q:Unit // p152 = .go q}) (fun q => ([(1,(.lst 2 (A.map y8))),(2,(.ptr 0 0 0)),(13,(.lst 2 (A.map y8))),(14,(.I (A.length:Int))),(15,(.I (B:Int)))],[.box 4 (.agg [(.str D.Name),(.lst 8 (D.Columns.map a0n)),(.lst 1 (D.Unique.map encI)),(.bool D.Root)])])) ?_ ?_
    ·refine b5t (X:={q:Nat // a3r A B D F ((A.take B).drop q) q = some p152}) (fun q => ([(1,(.lst 2 (A.map y8))),(2,(.ptr 0 0 0)),(6,(.ptr 1 0 0)),(13,(.lst 2 (A.map y8))),(14,(.I (A.length:Int))),(15,(.I (B:Int))),(22,(.lst 2 ((A.take B).map y8))),(23,(.I ((A.take B).length:Int))),(24,(.I (q.1:Int)))],[.box 4 (.agg [(.str D.Name),(.lst 8 (D.Columns.map a0n)),(.lst 1 (D.Unique.map encI)),(.bool D.Root)]),.box 2 (.agg [(.I F.Id),(.lst 1 (F.Cells.map (a2m 3 l9)))])])) (fun q => (A.take B).length - q.1) ⟨0,hb2⟩ ⟨[],[0,1],_,_,rfl,rfl,⟨.r,⟨.r,⟨.r,⟨.r,⟨.r,⟨.r,⟨.r,⟨.r,⟨.r,tr⟩⟩⟩⟩⟩⟩⟩⟩⟩,.r⟩ ?_
     rintro ⟨E,hc2⟩
     have hc2:a3r A B D F ((A.take B).drop E) E = some p152:=hc2
     refine (show awp Tryz.prog false 0 _ (ofL [(1,(.lst 2 (A.map y8))),(2,(.ptr 0 0 0)),(6,(.ptr 1 0 0)),(13,(.lst 2 (A.map y8))),(14,(.I (A.length:Int))),(15,(.I (B:Int))),(22,(.lst 2 ((A.take B).map y8))),(23,(.I ((A.take B).length:Int))),(24,(.I (E:Int)))]) [.box 4 (.agg [(.str D.Name),(.lst 8 (D.Columns.map a0n)),(.lst 1 (D.Unique.map encI)),(.bool D.Root)]),.box 2 (.agg [(.I F.Id),(.lst 1 (F.Cells.map (a2m 3 l9)))])] _ from ?_)
     rcases c7v (A.take B) E with ⟨hie155,hd158⟩ | ⟨hlt153,J,hx154,hd158⟩
     ·rw [hd158,a3r.eq_1] at hc2
      have hq157:=dlf hie155
      refine sr<|s_q (.bool (decide ((E:Int) < ((A.take B).length:Int)))) rfl rfl rfl<|dk<|a0q<|b4i rfl hq157<|c4b<|c4a<|c1u<|c3z<|?_;refine b6g ?_;obtain rfl:=os hc2;exact e1a ⟨_,rfl⟩ ⟨[],[0],_,_,rfl,rfl,⟨.r,⟨.r,⟨.r,⟨.r,⟨.r,tr⟩⟩⟩⟩⟩,.r⟩
     ·rw [hd158,a3r.eq_2] at hc2
      have hq157:=dlt hlt153
      refine sr<|s_q (.bool (decide ((E:Int) < ((A.take B).length:Int)))) rfl rfl rfl<|dk<|a0q<|b5m rfl hq157<|a5n<|a5s<|a0q<|b7k<|sr<|?_
      obtain ⟨G,ex161,hc2⟩:=ob hc2
      refine a4k (c5c (enc:=y8) rfl rfl (d2s ex161) (d5m ex161))<|s_q (y8 G) rfl nle rfl<|a4k (c2s (j:=2) (c:=(.agg [(.I 0),.nil])) rfl tr rfl rfl)<|c2r (a8z (v:=(.agg [(.I G.Id),(.lst 1 (G.Cells.map (a2m 3 l9)))])) (y':=(.agg [(.I G.Id),(.lst 1 (G.Cells.map (a2m 3 l9)))])) rfl rfl rfl tr ⟨rfl,nle⟩ ⟨⟨rfl,tr⟩,⟨⟨rfl,tr⟩,tr⟩⟩ rfl)<|dk<|sr<|?_
      obtain ⟨H,er163,hc2⟩:=ob hc2
      refine s_q (.ptr 0 0 2) rfl tr rfl<|s_q (.lst 1 (D.Unique.map encI)) rfl nle rfl<|s_q (.fn 273 [(.ptr 1 0 0),(.ptr 2 0 0)]) rfl tr rfl<|?_;refine a4k (c0e (w_slices_ContainsFunc_int_int _ (fun a0 => a8b a0 F G) _ er163) rfl .r rfl) ?_;refine s_q (.bool (!H)) rfl tr rfl<|dk<|?_
      rcases oi hc2 with ⟨c164,hc2⟩ | ⟨c164,hc2⟩
      ·refine b5m rfl c164<|sr<|a2t (.bool true) rfl<|dk<|b3g<|?_;obtain rfl:=os hc2;obtain rfl:=os hc1;obtain rfl:=os hf;exact b7v ⟨tr,tr⟩ rfl .r
      ·refine b4i rfl (bf c164)<|a5n<|b6g<|a5s<|a9i<|s_q (.I (w64 ((E:Int) + 1))) rfl rfl rfl<|a2t (.I (w64 ((E:Int) + 1))) rfl<|a8y<|?_;exact d5n ⟨(E + 1),hc2⟩ (mul hlt153) ⟨[],[0,1],_,_,rfl,rfl,⟨.r,⟨.r,⟨.r,⟨.r,⟨.r,⟨.r,⟨.r,⟨.r,⟨.of_eq (congrArg (AV.int _) (b2c hlt153 hl131)),tr⟩⟩⟩⟩⟩⟩⟩⟩⟩,.r⟩
    ·rintro ⟨_,rfl⟩
     refine a9i<|s_q (.I (w64 ((B:Int) + 1))) rfl rfl rfl<|a2t (.I (w64 ((B:Int) + 1))) rfl<|a8y<|?_;exact d5n ⟨(B + 1),hc1⟩ (mul hlt123) ⟨[],[0],_,_,rfl,rfl,⟨.r,⟨.r,⟨.r,⟨.r,⟨.of_eq (congrArg (AV.int _) (b2c hlt123 hl5)),tr⟩⟩⟩⟩⟩,.r⟩
  ·rintro ⟨_,rfl⟩
   refine sr<|a2t (.bool false) rfl<|dk<|b3g<|?_;obtain rfl:=os hf;exact b7v ⟨tr,tr⟩ rfl .r⟩
end Go.R
end
