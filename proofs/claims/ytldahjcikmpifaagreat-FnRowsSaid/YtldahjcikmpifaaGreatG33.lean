/- Part of the proof. -/
import Derived.Test.YtldahjcikmpifaaGreatG17
import Derived.Test.YtldahjcikmpifaaGreatG26
import Derived.Test.YtldahjcikmpifaaGreatG28

section
set_option linter.all false
namespace Go.R
open Go Go.Proofs
set_option maxRecDepth 100000
set_option maxHeartbeats 8000000
instance w_impl_copyStore (A:x9) (r:x9):Wf Tryz.prog (a8j A = some r) 143 [(a0u A)] (a0u r):=⟨fun hf => by
 unfold a8j at hf;refine coA [7,21] [zN1 [1,2,8,9] fun i (v:(List (List o5))) => (fun g w c o m => ([(3,(.own 2 0 v.length)),(10,(.int .i64 (i:Int)))],some [o 0,o 1,.row 1 (v.map (a1f 2 o6))])),cZ [1,2] fun v:(List (List o5)) => (fun g w c o m => ([(3,(.own 2 0 v.length))],some [o 0,o 1,.row 1 (v.map (a1f 2 o6))]))] Tryz.func143 ?_;exact Z⟩
instance w_impl_Store_hasRow (D:x9) (A:Int) (B:Int) (r:Bool):Wk Tryz.prog (a5n D A B = some r) 82 [(a0u D),(.int .i64 A),(.int .i64 B)] (.bool r):=⟨fun hf => by
 unfold a5n at hf;refine coA [] [] Tryz.func82 ?_;exact Z⟩
instance w_slices_BinarySearchFunc_impl_Row_impl_Row_int_h0 (B:(List o5)) (D:Int) (r:(Int × Bool)):Wh Tryz.prog (a1j B D = some r) ⟨true,true,false⟩ 247 [(.own 0 0 B.length),(.I D),(.fn 248 [])] [.row 2 (B.map o6)] (.tup [(.I r.1),(.bool r.2)]) [.row 2 (B.map o6)]:=⟨fun hf => by
 unfold a1j at hf;refine coh [39,46,49,51] Tryz.func247 ?_;refine gq 2 ?_;refine go 1 ?_;refine d4u (c7x rfl rfl) fun hl3 => b5o (.I (B.length:Int)) rfl<|a9v<|a4g ?_;refine gq 3 ?_
 refine a0n ?_
 obtain ⟨H,hb1,hf⟩:=ob hf
 refine a8y ([(0,(.own 0 0 B.length)),(1,(.I D)),(2,(.fn 248 [])),(8,(.I (B.length:Int))),(9,(.I H))],[.row 2 (B.map o6)]) ?_ ?_
 ·refine al (X:={q:(Nat × Int × Int) // a0a B D q.1 q.2.1 q.2.2 = some H}) (fun q => ([(0,(.own 0 0 B.length)),(1,(.I D)),(2,(.fn 248 [])),(8,(.I (B.length:Int))),(9,(.I q.1.2.1)),(10,(.I q.1.2.2))],[.row 2 (B.map o6)])) (fun q => q.1.1) ⟨(FUEL,0,(B.length:Int)),hb1⟩ [0] ?_
  rintro ⟨⟨k,F,G⟩,hc1⟩
  dsimp only at hc1 ⊢
  rcases k with _ | k
  ·rw [a0a.eq_1] at hc1
   cases hc1
  ·rw [a0a.eq_2] at hc1;refine gq 3 ?_
   rcases oi hc1 with ⟨c62,hc1⟩ | ⟨c62,hc1⟩
   ·refine wt c62<|a4s<|a4g<|b6d ?_;refine go 4 ?_;refine a2z (o_q (.int .u64 (Int.fdiv (IntKind.u64.wrap (w64 (F + G))) (2 ^ (min (Int.toNat 1) (IntKind.bits .u64))))) rfl (.of (show (0:Int) ≤ 1 by decide) tr) rfl) ?_;refine s_q (.I (w64 (Int.fdiv (IntKind.u64.wrap (w64 (F + G))) (2 ^ (min (Int.toNat 1) (IntKind.bits .u64)))))) rfl (.of tr tr) rfl ?_;refine go 1 ?_
    refine dk<|a0n ?_
    obtain ⟨E,ex65,hc1⟩:=ob hc1
    refine d5b (o:=0) (i:=(0 + (w64 (Int.fdiv (IntKind.u64.wrap (w64 (F + G))) (2 ^ (min (Int.toNat 1) (IntKind.bits .u64))))).toNat)) (el:=(.agg [(.I E.Id),(.lst 1 (E.Cells.map (a1f 3 l9)))])) (el2:=(.agg [(.I E.Id),(.own 1 0 E.Cells.length)])) (xs:=[.row 1 (E.Cells.map (a1f 3 l9))]) rfl rfl rfl ex65 rfl (by simp only [AV.cells,a4f,a2w,List.length_map,List.nil_append,List.append_nil,List.cons_append];rfl)<|a5h ?_
    obtain ⟨g66,hc1⟩:=og hc1
    obtain ⟨J,er68,hc1⟩:=ob hc1
    refine go 3 ?_;refine a2z (b3x rfl rfl g66.1 g66.2 rfl rfl)<|a2z (c2f rfl rfl nle rfl) ?_;refine go 1 ?_;refine a2z (d9m (v:=(.I J)) (h2:=[.rowx 2 (B.map o6) (0 + (w64 (Int.fdiv (IntKind.u64.wrap (w64 (F + G))) (2 ^ (min (Int.toNat 1) (IntKind.bits .u64))))).toNat) (.agg [(.I E.Id),(.own 1 0 E.Cells.length)]),.row 1 (E.Cells.map (a1f 3 l9))]) [] [1] (fun _ => rfl) rfl (by kernel_rfl) (w_impl_rowAt_1_h0 _ _ _ _ er68) rfl rfl .r .r rfl rfl) ?_
    refine gq 1 ?_
    rcases oi hc1 with ⟨c69,hc1⟩ | ⟨c69,hc1⟩
    ·refine wt c69 ?_;refine go 1 ?_;refine s_q (.I (w64 ((w64 (Int.fdiv (IntKind.u64.wrap (w64 (F + G))) (2 ^ (min (Int.toNat 1) (IntKind.bits .u64))))) + 1))) rfl (.of rfl tr) rfl ?_;refine gd 1 ?_;refine b4i ?_;exact d9j ⟨(k,w64 ((w64 (Int.fdiv (IntKind.u64.wrap (w64 (F + G))) (2 ^ (min (Int.toNat 1) (IntKind.bits .u64))))) + 1),G),hc1⟩ (Nat.lt_succ_self _) ⟨[.cls 0],[0],_,_,rfl,rfl,⟨.r,⟨.r,⟨.r,⟨.r,⟨.r,⟨.r,tr⟩⟩⟩⟩⟩⟩,(.cons ((d5d ex65 (.agg (.cons .r (.cons (.of_eq (congrArg (AV.lst _) (tk (enc:=(a1f 3 l9)) E.Cells))) .nil))))) .nil)⟩
    ·refine wf c69 ?_;refine gd 2 ?_;refine b4i ?_;exact d9j ⟨(k,F,w64 (Int.fdiv (IntKind.u64.wrap (w64 (F + G))) (2 ^ (min (Int.toNat 1) (IntKind.bits .u64))))),hc1⟩ (Nat.lt_succ_self _) ⟨[.cls 0],[0],_,_,rfl,rfl,⟨.r,⟨.r,⟨.r,⟨.r,⟨.r,⟨.r,tr⟩⟩⟩⟩⟩⟩,(.cons ((d5d ex65 (.agg (.cons .r (.cons (.of_eq (congrArg (AV.lst _) (tk (enc:=(a1f 3 l9)) E.Cells))) .nil))))) .nil)⟩
   ·refine wf c62<|le ?_;cases hc1;exact ck [0]
 ·refine a0n ?_
  rcases oo hf with ⟨A,ex73,hf⟩ | ⟨ex73,hf⟩
  ·refine d5b (o:=0) (i:=(0 + H.toNat)) (el:=(.agg [(.I A.Id),(.lst 1 (A.Cells.map (a1f 3 l9)))])) (el2:=(.agg [(.I A.Id),(.own 1 0 A.Cells.length)])) (xs:=[.row 1 (A.Cells.map (a1f 3 l9))]) rfl rfl rfl ex73 rfl (by simp only [AV.cells,a4f,a2w,List.length_map,List.nil_append,List.append_nil,List.cons_append];rfl) ?_;refine go 5 ?_
   rcases oi hf with ⟨c74,hf⟩ | ⟨c74,hf⟩
   ·refine sl 39 c74 ?_;refine go 3 ?_;refine s_on rfl ?_
    obtain ⟨g75,hf⟩:=og hf
    refine a2z (b3x rfl rfl g75.1 g75.2 rfl rfl)<|s_on rfl<|a2z (c2f rfl rfl nle rfl) ?_;refine go 1 ?_;refine s_on rfl ?_
    obtain ⟨K,er77,hf⟩:=ob hf
    refine a2z (d9m (v:=(.I K)) (h2:=[.rowx 2 (B.map o6) (0 + H.toNat) (.agg [(.I A.Id),(.own 1 0 A.Cells.length)]),.row 1 (A.Cells.map (a1f 3 l9))]) [] [1] (fun _ => rfl) rfl (by kernel_rfl) (w_impl_rowAt_1_h0 _ _ _ _ er77) rfl rfl .r .r rfl rfl) ?_;refine gq 4 ?_;refine e3x (o:=0) (h2:=[.rowx 2 (B.map o6) (0 + H.toNat) (.agg [(.I A.Id),(.own 1 0 A.Cells.length)]),.dead]) ex73 rfl rfl rfl (.agg (.cons .r (.cons (.of_eq (congrArg (AV.lst _) (tk (enc:=(a1f 3 l9)) A.Cells))) .nil))) rfl ?_
    refine a7u ?_;cases hf;exact b1w [] [0] rfl ⟨.of tr tr,⟨.of tr tr,tr⟩⟩ rfl .r .r
   ·refine sf 39 c74 ?_;refine gq 11 ?_;refine e3x (o:=0) (h2:=[.rowx 2 (B.map o6) (0 + H.toNat) (.agg [(.I A.Id),(.own 1 0 A.Cells.length)]),.dead]) ex73 rfl rfl rfl (.agg (.cons .r (.cons (.of_eq (congrArg (AV.lst _) (tk (enc:=(a1f 3 l9)) A.Cells))) .nil))) rfl<|a7u ?_;cases hf;exact b1w [] [0] rfl ⟨.of tr tr,⟨.of tr tr,tr⟩⟩ rfl .r .r
  ·refine e3y ?_;refine go 5 ?_
   rcases oi hf with ⟨c78,hf⟩ | ⟨c78,hf⟩
   ·refine sl 39 c78 ?_;refine go 3 ?_;refine s_on rfl ?_
    obtain ⟨g79,hf⟩:=og hf
    refine a2z (b3g rfl rfl g79.1 g79.2 rfl rfl) ?_
    cases hf
   ·refine sf 39 c78 ?_;refine gq 11 ?_;refine e3y<|a7u ?_;cases hf;exact b1w [] [0] rfl ⟨.of tr tr,⟨.of tr tr,tr⟩⟩ rfl .r .r⟩
instance w_impl_rowAt_h0 (A:(List o5)) (B:Int) (r:(Int × Bool)):Wh Tryz.prog (a9t A B = some r) ⟨true,true,false⟩ 150 [(.own 0 0 A.length),(.int .i64 B)] [.row 2 (A.map o6)] (.tup [(.int .i64 r.1),(.bool r.2)]) [.row 2 (A.map o6)]:=⟨fun hf => by
 unfold a9t at hf;refine b3b [] [] Tryz.func150 ?_;exact Z⟩
instance w_spec_PutRow (B:x9) (A:Int) (D:o5) (r:(x9 × Int)):Ww Tryz.prog (b4b B A D = some r) 59 [(a0u B),(.int .i64 A),(o6 D)] (.tup [(a0u r.1),(.int .i64 r.2)]):=⟨fun hf => by
 unfold b4b at hf;have hcc:=trivial;refine coA [21] [cZ [1,3,5,6] fun v:Bool => (fun _ _ _ _ _ => ([(37,(.bool v))],none))] Tryz.func59 ?_ (sp:=[(3,[[12,18]]),(5,[[20,26],[27,0],[28,37]]),(7,[[40,43],[1000],[7]])]);exact Z⟩
end Go.R
end
