/- Part of the proof. -/
import Derived.Test.YtldahjcikmpifaaGreatG24
import Derived.Test.YtldahjcikmpifaaGreatG30
import Derived.Test.YtldahjcikmpifaaGreatG33

section
set_option linter.all false
namespace Go.R
open Go Go.Proofs
set_option maxRecDepth 100000
set_option maxHeartbeats 8000000
instance w_spec_l00Src_row (A:Int) (B:o8) (r:(o5 × o8)):Wh Tryz.prog (b1t A B = some r) true 138 [(.ptr 0 0 0),(.int .i64 A)] [.box 3 (.agg [(.lst 1 (B.Code.map a0h)),(.int .i64 B.At),(.int .i64 B.Seed)])] (.agg [(.int .i64 r.1.Id),(.own 1 0 r.1.Cells.length)]) [.box 3 (.agg [(.lst 1 (r.2.Code.map a0h)),(.int .i64 r.2.At),(.int .i64 r.2.Seed)]),.row 1 (r.1.Cells.map (a1f 3 l9))]:=⟨fun hf => by
 unfold b1t at hf;refine b3b [9,27,29] [zN4 [0,4] fun i (v:((List Int) × Int × Int × (List (List o7)))) => (fun g w c o m => ([(5,(.ptr 2 0 0)),(6,(.ptr 3 0 0)),(7,(.int .i64 (i:Int)))],some [.box 3 (.agg [(.lst 1 (v.1.map a0h)),(.int .i64 v.2.1),(.int .i64 v.2.2.1)]),o 1,o 3,.box 2 (.agg [(g 16),(.own 4 0 v.2.2.2.length)]),.row 1 (v.2.2.2.map (a1f 3 l9))])),cZ [0,4,5,6,7] fun v:((List Int) × Int × Int × (List o7)) => (fun g w c o m => ([(8,(.own 4 0 v.2.2.2.length))],some [.box 3 (.agg [(.lst 1 (v.1.map a0h)),(.int .i64 v.2.1),(.int .i64 v.2.2.1)]),o 1,o 2,.box 2 (.agg [(c 3 0),(.own 5 0 (m 4))]),.row 3 (v.2.2.2.map l9),o 4])),cZ [4] fun v:((List Int) × Int × Int × (List (List o7))) => (fun g w c o m => ([(6,(.ptr 2 0 0))],some [.box 3 (.agg [(.lst 1 (v.1.map a0h)),(.int .i64 v.2.1),(.int .i64 v.2.2.1)]),o 1,.box 2 (.agg [(g 16),(.own 3 0 v.2.2.2.length)]),.row 1 (v.2.2.2.map (a1f 3 l9))]))] Tryz.func138 ?_;exact Z⟩
instance w_spec_RowDrawn (B:(List Int)) (A:Int) (r:o5):Wf Tryz.prog (b1k B A = some r) 56 [(.lst 1 (B.map a0h)),(.int .i64 A)] (o6 r):=⟨fun hf => by
 unfold b1k at hf;refine coA [] [] Tryz.func56 ?_;exact Z⟩
instance w_impl_put_h2 (B:(List o5)) (D:Int) (A:(List (List o7))) (r:(List o5)):Wh Tryz.prog (b3z B D A = some r) ⟨true,true,false⟩ 144 [(.own 0 0 B.length),(.agg [(.I D),(.own 1 0 A.length)])] [.row 2 (B.map o6),.row 1 (A.map (a1f 3 l9))] (.own 2 0 r.length) [.dead,.dead,.row 2 (r.map o6)]:=⟨fun hf => by
 unfold b3z at hf;refine coh [19,25] Tryz.func144 ?_;refine sr<|bx ?_;refine gq 1 ?_;refine a0n<|a5h ?_
 obtain ⟨F,er5,hf⟩:=ob hf
 refine go 3 ?_;refine a2z (b1s (v:=(.tup [(.I F.1),(.bool F.2)])) (h2:=[.row 2 (B.map o6),.row 1 (A.map (a1f 3 l9)),.box 2 (.agg [(.I D),(.own 1 0 A.length)])]) [] [0] (fun _ => rfl) (w_impl_rowAt_h0 _ _ _ er5) rfl .r .r rfl rfl) ?_;refine gq 5 ?_;refine go 1 ?_
 refine a9v<|a4g ?_
 rcases oi hf with ⟨c6,hf⟩ | ⟨c6,hf⟩
 ·refine wt c6<|a0n ?_
  obtain ⟨E,ex9,hf⟩:=ob hf
  refine d5b (o:=0) (i:=(0 + F.1.toNat)) (el:=(.agg [(.I E.Id),(.lst 1 (E.Cells.map (a1f 3 l9)))])) (el2:=(.agg [(.I E.Id),(.own 3 0 E.Cells.length)])) (xs:=[.row 1 (E.Cells.map (a1f 3 l9))]) rfl rfl rfl ex9 rfl (by simp only [AV.cells,a4f,a2w,List.length_map,List.nil_append,List.append_nil,List.cons_append];rfl)<|a5h ?_
  obtain ⟨g10,hf⟩:=og hf
  refine go 3 ?_;refine a2z (b3x rfl rfl g10.1 g10.2 rfl rfl)<|c7r (c7z (v:=(.agg [(.I D),(.own 1 0 A.length)])) (y':=(.agg [(.I D),(.own 1 0 A.length)])) rfl rfl rfl tr ⟨rfl,nle⟩ ⟨⟨rfl,tr⟩,⟨⟨rfl,tr⟩,tr⟩⟩ rfl)<|a9v<|a4g ?_;refine gq 2 ?_;refine d9n (o:=0) (y:=(⟨D,A⟩:o5)) (h2:=[.rowx 2 (B.map o6) (0 + F.1.toNat) (.agg [(.I D),(.own 1 0 A.length)]),.dead,.box 2 (.agg [(.I D),(.own 1 0 A.length)]),.row 1 (E.Cells.map (a1f 3 l9))]) rfl rfl rfl (.agg (.cons .r (.cons (.of_eq (congrArg (AV.lst _) (tk (enc:=(a1f 3 l9)) A))) .nil))) rfl ?_
  refine a7u ?_;cases hf;exact b1w [.mv 0] [0,1,4] rfl ⟨.of tr tr,tr⟩ rfl .r (.of_eq (congrArg (AV.own _ 0) (by simp)))
 ·refine wf c6<|a4s<|a4g<|a0n<|a5h ?_
  obtain ⟨G,er12,hf⟩:=ob hf
  refine go 3 ?_;refine a2z (a2m (j:=3) (as':=[(o6 (⟨D,A⟩:o5))]) rfl (fun _ => by decide) ⟨rfl,tr⟩ (.cons (.agg (.cons .r (.cons (.of_eq (congrArg (AV.lst _) (tk (enc:=(a1f 3 l9)) A))) .nil))) .nil) rfl rfl rfl) ?_;refine a2z (b1s (v:=(.own 4 0 G.length)) (h2:=[.dead,.dead,.box 2 (.agg [(.I D),(.own 1 0 A.length)]),.dead,.row 2 (G.map o6)]) [] [0,3] (fun _ => rfl) (w_slices_Insert_impl_Row_impl_Row_h1 _ _ _ _ er12) rfl (.cons .r (.cons .r (.cons (.of_eq (congrArg (AV.own _ 0) (by simp))) .nil))) .r rfl rfl) ?_
  refine gq 1 ?_;refine a7u ?_;cases hf;exact b1w [] [0,1,4] rfl ⟨.of tr tr,tr⟩ rfl .r .r⟩
instance w_impl_DropRow (E:x9) (A:Int) (G:Int) (r:(x9 × Int)):Wf Tryz.prog (b0x E A G = some r) 62 [(a0u E),(.I A),(.I G)] (.tup [(a0u r.1),(.I r.2)]):=⟨fun hf => by
 refine a0z.of_awp' (md:=⟨true,true,true⟩) (fun _ => rfl) (fun _ => rfl) (fun h => by cases h) mixed Tryz.func62 (b9h (sp:=[(7,[[25,33],[34,0,26,25],[35],[1000,0]])]) (ms:=[47,51]) (by kernel_rfl) (by conv => lhs;cbv)) nle ?_;rw [b6s];unfold b0x at hf;refine (show awp Tryz.prog ⟨true,true,true⟩ 0 _ (y8 [(0,(a0u E)),(1,(.I A)),(2,(.I G))]) [] _ from ?_);refine sr<|bx ?_;refine bx ?_;refine gq 1 ?_;refine a0n<|a0n<|a5h ?_
 obtain ⟨H,er5,hf⟩:=ob hf
 refine go 2 ?_;refine cl (w_impl_Store_tableCode _ _ _ er5) ?_;refine gq 1 ?_;refine gq 2 ?_
 rcases oi hf with ⟨c6,hf⟩ | ⟨c6,hf⟩
 ·refine wt c6<|sr<|s_q (.agg [.nil,(.I 0)]) rfl (.of tr tr) rfl<|b5o (.I H) rfl<|sb ?_;refine gq 1 ?_;refine a7u ?_;cases hf;exact b3n ⟨.of nle tr,⟨.of tr tr,tr⟩⟩ rfl (by decide) (.tup (.cons (.agg (.cons (.nil _) (.cons .r .nil))) (.cons .r .nil)))
 ·refine wf c6<|a4s<|a4g<|a0n<|a5h ?_
  obtain ⟨B,er8,hf⟩:=ob hf
  refine go 1 ?_;refine a2z (c2g (v:=(.agg [(.own 2 0 B.Tables.length),(.I B.Next)])) (h':=[.row 1 (B.Tables.map (a1f 2 o6))]) (w_impl_copyStore _ _ er8) rfl .r (by simp only [a2w,a4f,List.length_map,b6x,List.nil_append,List.append_nil,List.cons_append];rfl))<|bx ?_;refine sb ?_
  refine dk<|a0n<|a0n<|a5h ?_
  obtain ⟨J,er10,hf⟩:=ob hf
  refine go 3 ?_;refine cl (w_impl_Store_hasRow _ _ _ _ er10) ?_;refine gq 1 ?_
  rcases oi hf with ⟨c11,hf⟩ | ⟨c11,hf⟩
  ·refine wt c11 ?_;refine go 1 ?_;refine sb ?_;refine gq 1 ?_;refine a7u ?_;cases hf;exact b3n ⟨.of nle tr,⟨.of tr tr,tr⟩⟩ rfl (by decide) (.tup (.cons (.agg (.cons (.of_eq (congrArg (AV.lst _) (tk (enc:=(a1f 2 o6)) B.Tables))) (.cons .r .nil))) (.cons .r .nil)))
  ·refine wf c11<|a4s<|a4g<|a0n ?_
   obtain ⟨F,ex14,hf⟩:=ob hf
   refine d5b (o:=2) (i:=(0 + A.toNat)) (el:=(.lst 2 (F.map o6))) (el2:=(.own 4 0 F.length)) (xs:=[.row 2 (F.map o6)]) rfl rfl rfl ex14 rfl (by simp only [AV.cells,a4f,a2w,List.length_map,List.nil_append,List.append_nil,List.cons_append];rfl)<|a5h ?_
   obtain ⟨g15,hf⟩:=og hf
   obtain ⟨D,er17,hf⟩:=ob hf
   obtain ⟨g18,hf⟩:=og hf
   refine go 6 ?_;refine a2z (b3x rfl rfl g15.1 g15.2 rfl rfl)<|a2z (c2f rfl rfl ⟨rfl,rfl⟩ rfl) ?_;refine go 1 ?_;refine a4t (b1s (v:=(.own 5 0 D.length)) (h2:=[.box 2 (.agg [(.lst 1 (E.Tables.map (a1f 2 o6))),(.I E.Next)]),.box 2 (.agg [.nil,(.I 0)]),.rowx 1 (B.Tables.map (a1f 2 o6)) (0 + A.toNat) (.own 4 0 F.length),.box 2 (.agg [(.own 2 0 B.Tables.length),(.I B.Next)]),.dead,.row 2 (D.map o6)]) [] [4] (fun _ => rfl) (w_impl_drop_h1 _ _ _ er17) rfl .r .r rfl rfl) (.inr ⟨⟨(.of nle tr),rfl⟩,⟨⟨(.of tr tr),rfl⟩,tr⟩⟩) tr ?_
   refine a2z (b3x rfl rfl g18.1 g18.2 rfl rfl)<|c7s (c7z (v:=(.own 5 0 D.length)) (y':=(.own 5 0 D.length)) rfl rfl rfl tr ⟨rfl,rfl,rfl⟩ ⟨⟨rfl,tr⟩,tr⟩ rfl) tr tr<|dk<|a0n<|d9n (o:=2) (y:=D) (h2:=[.box 2 (.agg [(.lst 1 (E.Tables.map (a1f 2 o6))),(.I E.Next)]),.box 2 (.agg [.nil,(.I 0)]),.rowx 1 (B.Tables.map (a1f 2 o6)) (0 + A.toNat) (.own 5 0 D.length),.box 2 (.agg [(.own 2 0 B.Tables.length),(.I B.Next)]),.dead,.dead]) rfl rfl rfl (.of_eq (congrArg (AV.lst _) (tk (enc:=o6) D))) rfl ?_;refine go 1 ?_
   refine sb ?_;refine gq 1 ?_;refine a7u ?_;cases hf
   exact b3n ⟨.of nle tr,⟨.of tr tr,tr⟩⟩ rfl (by decide) (.tup (.cons (.agg (.cons (.of_eq (congrArg (AV.lst _) (tkl (enc:=(a1f 2 o6)) (a:=B.Tables.set (0 + A.toNat) D) (by first | (simp;done) | (simp <;> omega))))) (.cons .r .nil))) (.cons .r .nil)))⟩
end Go.R
end
