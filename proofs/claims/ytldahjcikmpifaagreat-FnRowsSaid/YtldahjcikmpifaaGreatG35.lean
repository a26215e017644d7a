/- Part of the proof. -/
import Derived.Test.YtldahjcikmpifaaGreatG30
import Derived.Test.YtldahjcikmpifaaGreatG31

section
set_option linter.all false
namespace Go.R
open Go Go.Proofs
set_option maxRecDepth 100000
set_option maxHeartbeats 8000000
instance w_spec_l09Work_wait (B:GOp) (E:Int) (D:(List a2c)) (A:a0g) (r:(a1m × a0g)):Wh Tryz.prog (a7h B E D A = some r) false 324 [(.ptr 0 0 0),(a1i B),(.I E),(.lst 3 (D.map a2d))] [.box 6 (.agg [(.lst 4 (A.S.Tables.map a0f)),(.lst 1 (A.X.Tables.map (a1f 2 o6))),(.I A.X.Next),(.lst 8 (A.Ops.map a1i)),(.lst 1 (A.Ids.map encI)),(.lst 1 (A.Owned.map AV.str))])] (.agg [(.I r.1.Code),(.I r.1.Count),(.I r.1.Id),(.own 1 0 r.1.Columns.length),(.own 2 0 r.1.Rows.length)]) [.box 6 (.agg [(.lst 4 (r.2.S.Tables.map a0f)),(.lst 1 (r.2.X.Tables.map (a1f 2 o6))),(.I r.2.X.Next),(.lst 8 (r.2.Ops.map a1i)),(.lst 1 (r.2.Ids.map encI)),(.lst 1 (r.2.Owned.map AV.str))]),.row 1 (r.1.Columns.map AV.str),.row 2 (r.1.Rows.map o6)]:=⟨fun hf => by
 unfold a7h at hf;refine coh [86,88,94] Tryz.func324 ?_ (sp:=[(4,[[14,24]]),(5,[[27,37],[12],[1000]]),(6,[[38,48],[49,0],[50]]),(10,[[59,75],[79,83],[76,0,83,82,81,62,61],[77,78],[84,0],[85],[10,0]]),(13,[[86,93]])]);refine sr<|bx ?_
 refine bx ?_;refine a9v<|a4g ?_;refine gq 1 ?_;refine gq 1 ?_;refine gq 1 ?_
 obtain ⟨p518,hb1,hf⟩:=ob hf
 refine a8y ([(5,(.ptr 1 0 0)),(8,(.ptr 2 0 0)),(9,(.I p518.1)),(10,(.bool p518.2))],[.box 6 (.agg [(.lst 4 (A.S.Tables.map a0f)),(.lst 1 (A.X.Tables.map (a1f 2 o6))),(.I A.X.Next),(.lst 8 (A.Ops.map a1i)),(.lst 1 (A.Ids.map encI)),(.lst 1 (A.Owned.map AV.str))]),.box 8 (.agg [(.I B.Kind),(.str B.Table),(.str B.Name),(.lst 3 (B.Where.map a3i)),(.lst 3 (B.Row.map a2d)),(.lst 3 (B.Muts.map a5j)),(.lst 1 (B.Columns.map AV.str)),(.bool B.Until)]),.box 5 (.agg [(.I 0),(.I 0),(.I 0),.nil,.nil])]) ?_ ?_
 ·refine al (X:={q:(Nat × Int × Bool × Int) // a2g A E B D q.1 q.2.1 q.2.2.1 q.2.2.2 = some p518}) (fun q => ([(0,(.ptr 0 0 0)),(2,(.I E)),(3,(.lst 3 (D.map a2d))),(5,(.ptr 1 0 0)),(8,(.ptr 2 0 0)),(9,(.I q.1.2.1)),(10,(.bool q.1.2.2.1)),(11,(.I q.1.2.2.2))],[.box 6 (.agg [(.lst 4 (A.S.Tables.map a0f)),(.lst 1 (A.X.Tables.map (a1f 2 o6))),(.I A.X.Next),(.lst 8 (A.Ops.map a1i)),(.lst 1 (A.Ids.map encI)),(.lst 1 (A.Owned.map AV.str))]),.box 8 (.agg [(.I B.Kind),(.str B.Table),(.str B.Name),(.lst 3 (B.Where.map a3i)),(.lst 3 (B.Row.map a2d)),(.lst 3 (B.Muts.map a5j)),(.lst 1 (B.Columns.map AV.str)),(.bool B.Until)]),.box 5 (.agg [(.I 0),(.I 0),(.I 0),.nil,.nil])])) (fun q => q.1.1) ⟨(FUEL,0,true,0),hb1⟩ [0,1,2] ?_
  rintro ⟨⟨k,G,H,F⟩,hc1⟩
  dsimp only at hc1 ⊢
  rcases k with _ | k
  ·rw [a2g.eq_1] at hc1
   cases hc1
  ·rw [a2g.eq_2] at hc1;refine a0n<|a0n<|a5h ?_
   obtain ⟨R,ex520,hc1⟩:=ob hc1
   refine b5o (.I F) rfl<|b5o (.ptr 0 0 0) rfl<|s_q (.ptr 0 0 0) rfl tr rfl<|s_q (.ptr 0 0 1) rfl tr rfl<|s_q (.ptr 0 0 1) rfl tr rfl<|s_q (.lst 1 (A.X.Tables.map (a1f 2 o6))) rfl nle rfl<|b5o (.I E) rfl<|ix ex520 ?_;refine go 1 ?_;refine ln fun hl521 => ?_;refine gq 1 ?_
   rcases oi hc1 with ⟨c522,hc1⟩ | ⟨c522,hc1⟩
   ·refine wt c522<|a4s<|a4g<|a0n<|b6d<|sr<|b5o (.ptr 0 0 0) rfl<|s_q (.ptr 0 0 0) rfl tr rfl<|s_q (.ptr 0 0 1) rfl tr rfl<|s_q (.ptr 0 0 1) rfl tr rfl<|s_q (.lst 1 (A.X.Tables.map (a1f 2 o6))) rfl nle rfl<|b5o (.I E) rfl ?_
    obtain ⟨T,ex524,hc1⟩:=ob hc1
    refine ix ex524 ?_;refine go 2 ?_
    obtain ⟨K,ex526,hc1⟩:=ob hc1
    refine ix ex526 ?_;refine go 1 ?_;refine bx ?_;refine sb ?_;refine dk<|a0n<|sr<|b5o (.ptr 0 0 0) rfl<|s_q (.ptr 0 0 0) rfl tr rfl<|s_q (.ptr 0 0 0) rfl tr rfl<|s_q (.ptr 0 0 0) rfl tr rfl<|s_q (.lst 4 (A.S.Tables.map a0f)) rfl nle rfl<|b5o (.I E) rfl ?_
    obtain ⟨U,ex528,hc1⟩:=ob hc1
    refine ix ex528 ?_;refine go 4 ?_
    obtain ⟨V,er530,hc1⟩:=ob hc1
    refine cll (w_spec_l06All _ _ _ _ er530) ?_;refine gq 1 ?_
    rcases oi hc1 with ⟨c531,hc1⟩ | ⟨c531,hc1⟩
    ·refine wt c531<|c7v<|c7u<|c7t ?_;refine a4g<|wc ([(0,(.ptr 0 0 0)),(2,(.I E)),(3,(.lst 3 (D.map a2d))),(5,(.ptr 1 0 0)),(8,(.ptr 2 0 0)),(9,(.I G)),(10,(.bool H)),(11,(.I F))],[.box 6 (.agg [(.lst 4 (A.S.Tables.map a0f)),(.lst 1 (A.X.Tables.map (a1f 2 o6))),(.I A.X.Next),(.lst 8 (A.Ops.map a1i)),(.lst 1 (A.Ids.map encI)),(.lst 1 (A.Owned.map AV.str))]),.box 8 (.agg [(.I B.Kind),(.str B.Table),(.str B.Name),(.lst 3 (B.Where.map a3i)),(.lst 3 (B.Row.map a2d)),(.lst 3 (B.Muts.map a5j)),(.lst 1 (B.Columns.map AV.str)),(.bool B.Until)]),.box 5 (.agg [(.I 0),(.I 0),(.I 0),.nil,.nil])]) [0,1,2] ?_
     refine gd 3 ?_;exact kl ⟨(k,G,H,w64 (F + 1)),hc1⟩ [0,1,2]
    ·refine wf c531<|a4s<|a4g ?_;refine gq 3 ?_;refine gq 1 ?_
     obtain ⟨J,hb2,hc1⟩:=ob hc1
     refine c7q ([(0,(.ptr 0 0 0)),(2,(.I E)),(3,(.lst 3 (D.map a2d))),(5,(.ptr 1 0 0)),(8,(.ptr 2 0 0)),(9,(.I (w64 (G + 1)))),(10,(.bool J)),(11,(.I F))],[.box 6 (.agg [(.lst 4 (A.S.Tables.map a0f)),(.lst 1 (A.X.Tables.map (a1f 2 o6))),(.I A.X.Next),(.lst 8 (A.Ops.map a1i)),(.lst 1 (A.Ids.map encI)),(.lst 1 (A.Owned.map AV.str))]),.box 8 (.agg [(.I B.Kind),(.str B.Table),(.str B.Name),(.lst 3 (B.Where.map a3i)),(.lst 3 (B.Row.map a2d)),(.lst 3 (B.Muts.map a5j)),(.lst 1 (B.Columns.map AV.str)),(.bool B.Until)]),.box 5 (.agg [(.I 0),(.I 0),(.I 0),.nil,.nil])]) ?_ ?_
     ·refine al (X:={q:(Bool × Nat) // a2f A E K (D.drop q.2) q.1 = some J}) (fun q => ([(0,(.ptr 0 0 0)),(2,(.I E)),(3,(.lst 3 (D.map a2d))),(5,(.ptr 1 0 0)),(8,(.ptr 2 0 0)),(9,(.I (w64 (G + 1)))),(10,(.bool q.1.1)),(11,(.I F)),(12,(.ptr 3 0 0)),(13,(.I (q.1.2:Int)))],[.box 6 (.agg [(.lst 4 (A.S.Tables.map a0f)),(.lst 1 (A.X.Tables.map (a1f 2 o6))),(.I A.X.Next),(.lst 8 (A.Ops.map a1i)),(.lst 1 (A.Ids.map encI)),(.lst 1 (A.Owned.map AV.str))]),.box 8 (.agg [(.I B.Kind),(.str B.Table),(.str B.Name),(.lst 3 (B.Where.map a3i)),(.lst 3 (B.Row.map a2d)),(.lst 3 (B.Muts.map a5j)),(.lst 1 (B.Columns.map AV.str)),(.bool B.Until)]),.box 5 (.agg [(.I 0),(.I 0),(.I 0),.nil,.nil]),.box 2 (.agg [(.I K.Id),(.lst 1 (K.Cells.map (a1f 3 l9)))])])) (fun q => D.length - q.1.2) ⟨(H,0),hb2⟩ [0,1,2,3] ?_
      rintro ⟨⟨O,L⟩,hc2⟩
      dsimp only at hc2 ⊢
      rcases d4t D L with ⟨hie586,hd589⟩ | ⟨hlt584,Y,hx585,hd589⟩
      ·rw [hd589,a2f.eq_1] at hc2
       refine go 2 ?_;refine ln fun hl591 => ?_;refine gq 1 ?_;refine wg (dlf hie586)<|le ?_;refine b4i ?_;cases hc2;exact ck [0,1,2]
      ·rw [hd589,a2f.eq_2] at hc2
       refine go 2 ?_;refine ln fun hl592 => ?_;refine gq 1 ?_;refine wt (dlt hlt584)<|a4s<|a4g<|a0n<|b6d ?_;refine go 2 ?_
       rcases oi hc2 with ⟨c593,hc2⟩ | ⟨c593,hc2⟩
       ·refine sl 60 c593<|s_on rfl<|s_q (.ptr 3 0 1) rfl tr rfl<|s_on rfl<|s_q (.lst 1 (K.Cells.map (a1f 3 l9))) rfl nle rfl<|s_on rfl<|b5o (.ptr 0 0 0) rfl<|s_on rfl<|s_q (.ptr 0 0 0) rfl tr rfl<|s_on rfl<|s_q (.ptr 0 0 0) rfl tr rfl<|s_on rfl<|s_q (.ptr 0 0 0) rfl tr rfl<|s_on rfl<|s_q (.lst 4 (A.S.Tables.map a0f)) rfl nle rfl<|s_on rfl<|b5o (.I E) rfl<|s_on rfl ?_
        obtain ⟨Aa,ex595,hc2⟩:=ob hc2
        refine ix ex595 ?_;refine go 3 ?_;refine s_on rfl<|ia hx585 ?_;refine go 4 ?_;refine s_on rfl<|ia hx585 ?_;refine go 2 ?_;refine c4y rfl ?_
        obtain ⟨Ab,er597,hc2⟩:=ob hc2
        refine cll (w_spec_l04Column _ _ _ er597)<|s_on rfl ?_
        obtain ⟨Ac,ex599,hc2⟩:=ob hc2
        refine ix ex599 ?_;refine go 1 ?_;refine c4y rfl ?_
        obtain ⟨M,er601,hc2⟩:=ob hc2
        refine cll (w_spec_l03Same _ _ _ er601) ?_;refine go 1 ?_;refine a4t (d9k (.bool M) rfl) b7z tr<|a9v<|b4i<|a4g ?_;refine gd 3 ?_;exact kl ⟨(M,(L + 1)),hc2⟩ [0,1,2,3]
       ·refine sf 60 c593 ?_;refine go 20 ?_;refine b8a rfl rfl tr ?_;refine go 2 ?_;refine b8a rfl rfl tr ?_;refine go 1 ?_;refine a4t (d9k (.bool false) rfl) b7z tr<|a9v<|b4i<|a4g ?_;refine go 3 ?_
        refine a9v ?_;exact kl ⟨(false,(L + 1)),hc2⟩ [0,1,2,3]
     ·refine gd 3 ?_;exact kl ⟨(k,w64 (G + 1),J,w64 (F + 1)),hc1⟩ [0,1,2]
   ·refine wf c522<|le ?_;cases hc1;exact ck [0,1,2]
 ·obtain ⟨Ad,P⟩:=p518
  refine a0n<|a0n ?_
  obtain ⟨N,hb1,hf⟩:=ob hf
  refine a8y ([(8,(.ptr 1 0 0)),(93,(.bool N))],[.box 6 (.agg [(.lst 4 (A.S.Tables.map a0f)),(.lst 1 (A.X.Tables.map (a1f 2 o6))),(.I A.X.Next),(.lst 8 (A.Ops.map a1i)),(.lst 1 (A.Ids.map encI)),(.lst 1 (A.Owned.map AV.str))]),.box 5 (.agg [(.I 0),(.I 0),(.I 0),.nil,.nil])]) ?_ ?_
  ·refine a5h ?_
   rcases oi hb1 with ⟨c605,hb1⟩ | ⟨c605,hb1⟩
   ·refine go 3 ?_;refine sl 88 c605 ?_;refine gd 5 ?_;cases hb1;exact ck [0,2]
   ·refine go 3 ?_;refine sf 88 c605 ?_;refine gd 5 ?_;cases hb1;exact ck [0,2]
  ·rcases oi hf with ⟨c606,hf⟩ | ⟨c606,hf⟩
   ·refine wt c606<|sr<|s_q (.agg [(.I 15),(.I 0),(.I 0),.nil,.nil]) rfl ⟨⟨rfl,nle,tr⟩,tr⟩ rfl<|sb ?_;refine dk<|a7u ?_;cases hf;exact b1w [.nilC 1 3 1,.nilC 1 4 2] [0,2,3] rfl ⟨nle,tr⟩ rfl .r .r
   ·refine wf c606<|a4s<|a4g<|sr<|s_q (.agg [(.I 0),(.I 0),(.I 0),.nil,.nil]) rfl tr rfl<|sb ?_;refine dk<|a7u ?_;cases hf;exact b1w [.nilC 1 3 1,.nilC 1 4 2] [0,2,3] rfl ⟨nle,tr⟩ rfl .r .r⟩
instance w_spec_l07Mutate (A:a0d) (B:(List o7)) (D:b0b) (r:((List o7) × Int)):Wf Tryz.prog (b0m A B D = some r) 397 [(a3h A),(.lst 3 (B.map l9)),(a5j D)] (.tup [(.lst 3 (r.1.map l9)),(.int .i64 r.2)]):=⟨fun hf => by
 unfold b0m at hf;refine coA [18,40] [zN1 [1,3,5] fun i (v:(List o7)) => (fun g w c o m => ([(8,(.own 2 0 v.length)),(9,(.int .i64 (i:Int)))],some [o 0,o 1,.row 3 (v.map l9)])),fZ [3] fun v:(List o7) => (fun g w c o m => ([(8,(.own 1 0 v.length))],some [o 0,.row 3 (v.map l9)]))] Tryz.func397 ?_ (sp:=[(9,[[23,34],[35,0],[22],[36,37],[10,11]])]);exact Z⟩
instance w_spec_l00Src_datum_h1 (A:Int) (B:o8) (r:((List o7) × o8)):Wh Tryz.prog (a2r A B = some r) false 127 [(.ptr 0 0 0),(.int .i64 A)] [.box 3 (.agg [(.lst 1 (B.Code.map a0h)),(.int .i64 B.At),(.int .i64 B.Seed)])] (.lst 3 (r.1.map l9)) [.box 3 (.agg [(.lst 1 (r.2.Code.map a0h)),(.int .i64 r.2.At),(.int .i64 r.2.Seed)])]:=⟨fun hf => by
 unfold a2r at hf;refine b3b [7,19] [zF5 [0,1] fun v:((List o7) × Int × (List Int) × Int × Int) => (fun _ _ _ _ _ => ([(5,(.lst 3 (v.1.map l9))),(6,(.int .i64 v.2.1))],some [.box 3 (.agg [(.lst 1 (v.2.2.1.map a0h)),(.int .i64 v.2.2.2.1),(.int .i64 v.2.2.2.2)])])),cZ [] fun v:((List o7) × (List Int) × Int × Int) => (fun _ _ _ _ _ => ([(5,(.lst 3 (v.1.map l9)))],some [.box 3 (.agg [(.lst 1 (v.2.1.map a0h)),(.int .i64 v.2.2.1),(.int .i64 v.2.2.2)])]))] Tryz.func127 ?_;exact Z⟩
instance w_impl_RowAt (D:x9) (A:Int) (B:Int) (r:(o5 × Int)):Wf Tryz.prog (b1z D A B = some r) 61 [(a0u D),(.int .i64 A),(.int .i64 B)] (.tup [(o6 r.1),(.int .i64 r.2)]):=⟨fun hf => by
 unfold b1z at hf;refine coA [] [] Tryz.func61 ?_;exact Z⟩
end Go.R
end
