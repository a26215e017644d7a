/- Part of the proof. -/
import Derived.Test.YtldahjcikmpifaaGreatG35
import Derived.Test.YtldahjcikmpifaaGreatG36

section
set_option linter.all false
namespace Go.R
open Go Go.Proofs
set_option maxRecDepth 100000
set_option maxHeartbeats 8000000
instance w_spec_l07Row (B:x8) (D:o5) (A:(List b0b)) (r:(o5 × Int)):Wf Tryz.prog (b3y B D A = some r) 376 [(a0f B),(o6 D),(.lst 3 (A.map a5j))] (.tup [(o6 r.1),(.int .i64 r.2)]):=⟨fun hf => by
 unfold b3y at hf;refine coA [7,31] [zN1 [2,3,4,6] fun i (v:(List (List o7))) => (fun g w c o m => ([(8,(.int .i64 (i:Int)))],some [o 0,.box 2 (.agg [(c 1 0),(.own 3 0 v.length)]),o 2,.row 1 (v.map (a1f 3 l9))])),fZ [] fun v:(List (List o7)) => (fun g w c o m => ([(4,(.ptr 0 0 0)),(6,(.ptr 1 0 0))],some [.box 2 (.agg [(c 1 0),(.own 2 0 v.length)]),o 2,.row 1 (v.map (a1f 3 l9))]))] Tryz.func376 ?_ (sp:=[(4,[[20,25],[26,0],[9]]),(5,[[28,41],[42,0],[27],[43,44],[10,11]]),(8,[[49,53],[1000]])]);exact Z⟩
instance w_impl_PutRow (H:x9) (A:Int) (E:o5) (r:(x9 × Int)):Wf Tryz.prog (b4a H A E = some r) 58 [(a0u H),(.I A),(o6 E)] (.tup [(a0u r.1),(.I r.2)]):=⟨fun hf => by
 refine a0z.of_awp' (md:=⟨true,true,true⟩) (fun _ => rfl) (fun _ => rfl) (fun h => by cases h) mixed Tryz.func58 (b9h (sp:=[(5,[[19,33]]),(7,[[35,43],[44,0,42,41,39,38,36,35],[45,0,36,35],[46],[1000,0]])]) (ms:=[34,47,51]) (by kernel_rfl) (by conv => lhs;cbv)) nle ?_;rw [b6s];unfold b4a at hf;refine (show awp Tryz.prog ⟨true,true,true⟩ 0 _ (y8 [(0,(a0u H)),(1,(.I A)),(2,(o6 E))]) [] _ from ?_);refine sr<|bx ?_;refine bx ?_;refine bx ?_;refine gq 1 ?_
 refine a0n<|a0n<|a5h ?_
 obtain ⟨K,er5,hf⟩:=ob hf
 refine go 2 ?_;refine cl (w_impl_Store_tableCode _ _ _ er5) ?_;refine gq 1 ?_;refine gq 2 ?_
 rcases oi hf with ⟨c6,hf⟩ | ⟨c6,hf⟩
 ·refine wt c6<|sr<|s_q (.agg [.nil,(.I 0)]) rfl (.of tr tr) rfl<|b5o (.I K) rfl<|sb ?_;refine gq 1 ?_;refine a7u ?_;cases hf;exact b3n ⟨.of nle tr,⟨.of tr tr,tr⟩⟩ rfl (by decide) (.tup (.cons (.agg (.cons (.nil _) (.cons .r .nil))) (.cons .r .nil)))
 ·refine wf c6<|a4s<|a4g<|a0n<|a5h ?_
  obtain ⟨B,er8,hf⟩:=ob hf
  refine go 1 ?_;refine a2z (c2g (v:=(.agg [(.own 3 0 B.Tables.length),(.I B.Next)])) (h':=[.row 1 (B.Tables.map (a1f 2 o6))]) (w_impl_copyStore _ _ er8) rfl .r (by simp only [a2w,a4f,List.length_map,b6x,List.nil_append,List.append_nil,List.cons_append];rfl))<|bx ?_;refine sb ?_
  refine dk<|a0n<|a0n ?_
  obtain ⟨J,hb1,hf⟩:=ob hf
  refine a8y ([(1,(.I A)),(5,(.ptr 0 0 0)),(6,(.ptr 1 0 0)),(9,(.ptr 2 0 0)),(33,(.bool J))],[.box 2 (.agg [(.I E.Id),(.lst 1 (E.Cells.map (a1f 3 l9)))]),.box 2 (.agg [.nil,(.I 0)]),.box 2 (.agg [(.own 3 0 B.Tables.length),(.I B.Next)]),.row 1 (B.Tables.map (a1f 2 o6))]) ?_ ?_
  ·refine go 4 ?_
   obtain ⟨L,er18,hb1⟩:=ob hb1
   refine cl (w_impl_Store_hasRow _ _ _ _ er18) ?_;refine go 2 ?_
   rcases oi hb1 with ⟨c19,hb1⟩ | ⟨c19,hb1⟩
   ·refine sl 25 c19 ?_;refine go 3 ?_;refine s_on rfl ?_
    obtain ⟨M,ex21,hb1⟩:=ob hb1
    refine ix ex21 ?_;refine go 1 ?_;refine s_on rfl<|ln fun hl22 => ?_;refine s_on rfl ?_;refine gd 2 ?_;cases hb1;exact ck [1,2,4,3]
   ·refine sf 25 c19 ?_;refine gd 8 ?_;cases hb1;exact ck [1,2,4,3]
  ·rcases oi hf with ⟨c23,hf⟩ | ⟨c23,hf⟩
   ·refine wt c23 ?_;refine go 1 ?_;refine sb ?_;refine gq 1 ?_;refine a7u ?_;cases hf;exact b3n ⟨.of nle tr,⟨.of tr tr,tr⟩⟩ rfl (by decide) (.tup (.cons (.agg (.cons (.of_eq (congrArg (AV.lst _) (tk (enc:=(a1f 2 o6)) B.Tables))) (.cons .r .nil))) (.cons .r .nil)))
   ·refine wf c23<|a4s<|a4g<|a0n ?_
    obtain ⟨F,ex26,hf⟩:=ob hf
    refine d5b (o:=3) (i:=(0 + A.toNat)) (el:=(.lst 2 (F.map o6))) (el2:=(.own 4 0 F.length)) (xs:=[.row 2 (F.map o6)]) rfl rfl rfl ex26 rfl (by simp only [AV.cells,a4f,a2w,List.length_map,List.nil_append,List.append_nil,List.cons_append];rfl) ?_;refine go 6 ?_
    obtain ⟨g27,hf⟩:=og hf
    refine a2z (b3x rfl rfl g27.1 g27.2 rfl rfl)<|a2z (c2f rfl rfl ⟨rfl,rfl⟩ rfl) ?_;refine go 1 ?_
    obtain ⟨G,er29,hf⟩:=ob hf
    refine a4t (c2g (v:=(.agg [(.I G.Id),(.own 5 0 G.Cells.length)])) (h':=[.row 1 (G.Cells.map (a1f 3 l9))]) (w_impl_copyRow _ _ er29) rfl .r (by simp only [a2w,a4f,List.length_map,c8m,List.nil_append,List.append_nil,List.cons_append];rfl)) (.inr ⟨(e3w rfl rfl ⟨rfl,rfl⟩ rfl),⟨(e1i rfl rfl g27.1 g27.2 rfl rfl),⟨⟨(.of nle tr),rfl⟩,⟨⟨(.of tr tr),rfl⟩,⟨⟨(.of nle tr),rfl⟩,⟨⟨(.of tr tr),rfl⟩,tr⟩⟩⟩⟩⟩⟩) tr ?_
    obtain ⟨D,er31,hf⟩:=ob hf
    refine a4t (b1s (v:=(.own 6 0 D.length)) (h2:=[.box 2 (.agg [(.I E.Id),(.lst 1 (E.Cells.map (a1f 3 l9)))]),.box 2 (.agg [.nil,(.I 0)]),.box 2 (.agg [(.own 3 0 B.Tables.length),(.I B.Next)]),.rowx 1 (B.Tables.map (a1f 2 o6)) (0 + A.toNat) (.own 4 0 F.length),.dead,.dead,.row 2 (D.map o6)]) [] [4,5] (fun _ => rfl) (w_impl_put_h2 _ _ _ _ er31) rfl .r .r rfl rfl) (.inr ⟨⟨(.of nle tr),rfl⟩,⟨⟨(.of tr tr),rfl⟩,tr⟩⟩) tr ?_
    obtain ⟨g32,hf⟩:=og hf
    refine a2z (b3x rfl rfl g32.1 g32.2 rfl rfl)<|c7s (c7z (v:=(.own 6 0 D.length)) (y':=(.own 6 0 D.length)) rfl rfl rfl tr ⟨rfl,rfl,rfl⟩ ⟨⟨rfl,tr⟩,tr⟩ rfl) tr tr<|dk<|a0n<|d9n (o:=3) (y:=D) (h2:=[.box 2 (.agg [(.I E.Id),(.lst 1 (E.Cells.map (a1f 3 l9)))]),.box 2 (.agg [.nil,(.I 0)]),.box 2 (.agg [(.own 3 0 B.Tables.length),(.I B.Next)]),.rowx 1 (B.Tables.map (a1f 2 o6)) (0 + A.toNat) (.own 6 0 D.length),.dead,.dead,.dead]) rfl rfl rfl (.of_eq (congrArg (AV.lst _) (tk (enc:=o6) D))) rfl ?_;refine go 1 ?_
    refine sb ?_;refine gq 1 ?_;refine a7u ?_;cases hf
    exact b3n ⟨.of nle tr,⟨.of tr tr,tr⟩⟩ rfl (by decide) (.tup (.cons (.agg (.cons (.of_eq (congrArg (AV.lst _) (tkl (enc:=(a1f 2 o6)) (a:=B.Tables.set (0 + A.toNat) D) (by first | (simp;done) | (simp <;> omega))))) (.cons .r .nil))) (.cons .r .nil)))⟩
end Go.R
end
