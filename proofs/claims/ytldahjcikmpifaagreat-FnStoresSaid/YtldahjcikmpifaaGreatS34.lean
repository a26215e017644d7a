/- Part of the proof. -/
import Derived.Test.YtldahjcikmpifaaGreatS26
import Derived.Test.YtldahjcikmpifaaGreatS29
import Derived.Test.YtldahjcikmpifaaGreatS30

section
set_option linter.all false
namespace Go.R
open Go Go.Proofs
set_option maxRecDepth 100000
set_option maxHeartbeats 8000000
instance w_impl_SchemaOK (A:o7) (r:Bool):Wk Tryz.prog (b1s A = some r) 74 [(a0s A)] (.bool r):=⟨fun hf => by
 unfold b1s at hf;refine coA [13,27,33] [zI0 [1,11,12] fun i => (fun _ _ _ _ _ => ([(13,(.int .i64 (i:Int)))],none)),cZ [1,11,12,13] fun v:Bool => (fun g w c o m => ([(36,(.bool v))],some [o 0])),fZ [1] fun v:Unit => (fun _ _ _ _ _ => ([],none))] Tryz.func74 ?_ (sp:=[(5,[[15,17],[4],[3],[1000]]),(6,[[18],[19,0],[20,36]]),(9,[[38,42],[2]])]);exact Z⟩
instance w_impl_NewStore (A:o7) (r:(x9 × Int)):Wf Tryz.prog (b3n A = some r) 12 [(a0s A)] (.tup [(a0o r.1),(.I r.2)]):=⟨fun hf => by
 unfold b3n at hf;refine co [] Tryz.func12 ?_;refine sr<|a4k (c2s (j:=0) (c:=(.agg [(.lst 4 (A.Tables.map a0c))])) rfl tr rfl rfl)<|a4k (c2s (j:=1) (c:=(.agg [.nil,(.I 0)])) rfl tr rfl rfl)<|a2t (.I 0) rfl<|dk<|a0q<|sr<|?_
 obtain ⟨B,er3,hf⟩:=ob hf
 refine s_q (.agg [(.lst 4 (A.Tables.map a0c))]) rfl nle rfl<|a4k (c0e (w_impl_SchemaOK _ _ er3) rfl .r rfl)<|s_q (.bool (!B)) rfl tr rfl<|dk<|?_
 rcases oi hf with ⟨c4,hf⟩ | ⟨c4,hf⟩
 ·refine b5m rfl c4<|sr<|s_q (.agg [.nil,(.I 0)]) rfl tr rfl<|c2r (a8z (v:=(.agg [.nil,(.I 0)])) (y':=(.agg [.nil,(.I 0)])) rfl rfl rfl tr ⟨rfl,nle⟩ ⟨⟨rfl,tr⟩,⟨⟨rfl,tr⟩,tr⟩⟩ rfl)<|a2t (.I 1) rfl<|dk<|b3g<|?_;obtain rfl:=os hf;exact c9d ⟨nle,⟨tr,tr⟩⟩ rfl (by decide) (.tup (.cons (.agg (.cons (.nil _) (.cons .r .nil))) (.cons .r .nil)))
 ·refine b4i rfl (bf c4)<|a5n<|a5s<|sr<|?_
  obtain ⟨g6,hf⟩:=og hf
  refine s_q (.ptr 0 0 0) rfl tr rfl<|s_q (.lst 4 (A.Tables.map a0c)) rfl nle rfl<|c2p (d8c (enc:=a0c) rfl) fun hl5 => a4k (e4l (j:=2) (enc:=(a2m 2 y8)) (m:=A.Tables.length) [] (.nil _) rfl rfl (Int.le_refl _) g6 rfl)<|s_q (.agg [(.own 2 0 A.Tables.length),(.I 1)]) rfl ⟨⟨rfl,nle,tr⟩,⟨⟨rfl,nle,tr⟩,tr⟩⟩ rfl<|c2r (a8z (v:=(.agg [(.own 2 0 A.Tables.length),(.I 1)])) (y':=(.agg [(.own 2 0 A.Tables.length),(.I 1)])) rfl rfl rfl tr ⟨rfl,nle⟩ ⟨⟨rfl,tr⟩,⟨⟨rfl,tr⟩,tr⟩⟩ rfl)<|a2t (.I 0) rfl<|dk<|b3g<|?_;obtain rfl:=os hf
  exact c9d ⟨nle,⟨tr,tr⟩⟩ rfl (by decide) (.tup (.cons (.agg (.cons (.of_eq (congrArg (AV.lst _) (tkl (enc:=(a2m 2 y8)) (a:=List.replicate A.Tables.length []) (by first | (simp;done) | (simp <;> omega))))) (.cons .r .nil))) (.cons .r .nil)))⟩
instance w_impl_storeFits (A:o7) (B:x9) (r:Bool):Wk Tryz.prog (a9v A B = some r) 75 [(a0s A),(a0o B)] (.bool r):=⟨fun hf => by
 unfold a9v at hf;refine coA [5,13,28,35,49,55,56] [cZ [2,3] fun v:Bool => (fun _ _ _ _ _ => ([(26,(.bool v))],none)),zI0 [2,3,28,29] fun i => (fun _ _ _ _ _ => ([(30,(.int .i64 (i:Int)))],none)),cZ [2,3,5,6,28,29,30] fun v:Bool => (fun _ _ _ _ _ => ([(42,(.bool v))],none)),zN0 [2,3,5,28,29,30,43,44] fun i => (fun _ _ _ _ _ => ([(45,(.int .i64 (i:Int)))],none)),cZ [2,3,5,28,29,30,43,44,45] fun v:Bool => (fun g w c o m => ([(65,(.bool v))],some [o 0,o 1])),fZ [2,3,28,29,30] fun v:Unit => (fun _ _ _ _ _ => ([],none)),fZ [] fun v:Unit => (fun _ _ _ _ _ => ([],some []))] Tryz.func75 ?_ (sp:=[(1,[[9,26]]),(6,[[35,42]]),(11,[[49,53],[54,0],[55,62],[63,0],[64,65]])]);exact Z⟩
instance w_impl_StoreOK_1 (E:o8) (A:o7) (B:x9) (D:Int) (r:Bool):Wk Tryz.prog (b2m E A B D = some r) 79 [(y8 E),(.iptr (a0s A) 0),(.iptr (a0o B) 0),(.iptr (.int .i64 D) 0)] (.bool r):=⟨fun hf => by
 unfold b2m at hf;refine coA [] [] Tryz.func79 ?_;exact Z⟩
instance c_impl_StoreOK_1 (A:o7) (B:x9) (D:Int):K1 Tryz.prog (fun a0 => b2m a0 A B D) (fun a0 => (y8 a0)) (fun r => (.bool r)) 79 [(.iptr (a0s A) 0),(.iptr (a0o B) 0),(.iptr (.int .i64 D) 0)]:={hp:=fun a0 r h => w_impl_StoreOK_1 a0 A B D r h}
end Go.R
end
