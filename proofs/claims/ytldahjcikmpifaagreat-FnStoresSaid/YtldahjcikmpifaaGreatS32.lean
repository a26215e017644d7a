/- Part of the proof. -/
import Derived.Test.YtldahjcikmpifaaGreatS27

section
set_option linter.all false
namespace Go.R
open Go Go.Proofs
set_option maxRecDepth 100000
set_option maxHeartbeats 8000000
instance w_spec_l09Work_selectRows (B:GOp) (D:Int) (A:a0g) (r:(a1l × a0g)):Wh Tryz.prog (a4l B D A = some r) false 323 [(.ptr 0 0 0),(a1h B),(.int .i64 D)] [.box 6 (.agg [(.lst 4 (A.S.Tables.map a0c)),(.lst 1 (A.X.Tables.map (a2m 2 y8))),(.int .i64 A.X.Next),(.lst 8 (A.Ops.map a1h)),(.lst 1 (A.Ids.map encI)),(.lst 1 (A.Owned.map AV.str))])] (.agg [(.int .i64 r.1.Code),(.int .i64 r.1.Count),(.int .i64 r.1.Id),(.own 1 0 r.1.Columns.length),(.own 2 0 r.1.Rows.length)]) [.box 6 (.agg [(.lst 4 (r.2.S.Tables.map a0c)),(.lst 1 (r.2.X.Tables.map (a2m 2 y8))),(.int .i64 r.2.X.Next),(.lst 8 (r.2.Ops.map a1h)),(.lst 1 (r.2.Ids.map encI)),(.lst 1 (r.2.Owned.map AV.str))]),.row 1 (r.1.Columns.map AV.str),.row 2 (r.1.Rows.map y8)]:=⟨fun hf => by
 unfold a4l at hf;refine b6a [10,23,26,44] [zF2 [0,2,4,6] fun v:(Int × (List Str)) => (fun g w c o m => ([(7,(.ptr 3 0 0)),(8,(.int .i64 v.1))],some [o 0,o 1,o 2,.box 5 (.agg [(.int .i64 0),(.int .i64 0),(.int .i64 0),(.own 4 0 v.2.length),(.own 5 0 0)]),.row 1 (v.2.map AV.str),o 5])),cZ [0,2,4,6] fun v:(List Str) => (fun g w c o m => ([(7,(.ptr 3 0 0))],some [o 0,o 1,o 2,.box 5 (.agg [(.int .i64 0),(.int .i64 0),(.int .i64 0),(.own 4 0 v.length),(.own 5 0 0)]),.row 1 (v.map AV.str),o 5])),zF2 [0,2,4,6,7] fun v:(Int × (List o8)) => (fun g w c o m => ([(9,(.int .i64 v.1))],some [o 0,o 1,o 2,.box 5 (.agg [(.int .i64 0),(.int .i64 0),(.int .i64 0),(c 3 3),(.own 5 0 v.2.length)]),o 4,.row 2 (v.2.map y8)])),cZ [] fun v:(List o8) => (fun g w c o m => ([(6,(.ptr 1 0 0)),(7,(.ptr 2 0 0))],some [o 0,o 2,.box 5 (.agg [(.int .i64 0),(.int .i64 0),(.int .i64 0),(.own 3 0 (m 4)),(.own 4 0 v.length)]),o 4,.row 2 (v.map y8)]))] Tryz.func323 ?_ (sp:=[(1,[[11,16],[7],[1000]]),(4,[[21,32]]),(5,[[35,49],[50,0,36,35],[51,0],[52],[1000,0]]),(8,[[53,63]]),(9,[[66,76],[10],[1000]]),(10,[[77,87],[88,0]]),(11,[[89,101],[102,0,90,89],[103,0,90,89],[104,0],[105],[1000,0]])]);exact Z⟩
instance w_spec_l09Work_wait (B:GOp) (E:Int) (D:(List a2c)) (A:a0g) (r:(a1l × a0g)):Wh Tryz.prog (a8m B E D A = some r) false 324 [(.ptr 0 0 0),(a1h B),(.I E),(.lst 3 (D.map a2f))] [.box 6 (.agg [(.lst 4 (A.S.Tables.map a0c)),(.lst 1 (A.X.Tables.map (a2m 2 y8))),(.I A.X.Next),(.lst 8 (A.Ops.map a1h)),(.lst 1 (A.Ids.map encI)),(.lst 1 (A.Owned.map AV.str))])] (.agg [(.I r.1.Code),(.I r.1.Count),(.I r.1.Id),(.own 1 0 r.1.Columns.length),(.own 2 0 r.1.Rows.length)]) [.box 6 (.agg [(.lst 4 (r.2.S.Tables.map a0c)),(.lst 1 (r.2.X.Tables.map (a2m 2 y8))),(.I r.2.X.Next),(.lst 8 (r.2.Ops.map a1h)),(.lst 1 (r.2.Ids.map encI)),(.lst 1 (r.2.Owned.map AV.str))]),.row 1 (r.1.Columns.map AV.str),.row 2 (r.1.Rows.map y8)]:=⟨fun hf => by
 unfold a8m at hf;refine coh [86,88,94] Tryz.func324 ?_ (sp:=[(4,[[14,24]]),(5,[[27,37],[12],[1000]]),(6,[[38,48],[49,0],[50]]),(10,[[59,75],[79,83],[76,0,83,82,81,62,61],[77,78],[84,0],[85],[10,0]]),(13,[[86,93]])]);refine sr<|bx ?_
 refine bx ?_;refine a8y<|a5s ?_;refine gq 1 ?_;refine gq 1 ?_;refine gq 1 ?_
 obtain ⟨p518,hb1,hf⟩:=ob hf
 refine b0n ([(5,(.ptr 1 0 0)),(8,(.ptr 2 0 0)),(9,(.I p518.1)),(10,(.bool p518.2))],[.box 6 (.agg [(.lst 4 (A.S.Tables.map a0c)),(.lst 1 (A.X.Tables.map (a2m 2 y8))),(.I A.X.Next),(.lst 8 (A.Ops.map a1h)),(.lst 1 (A.Ids.map encI)),(.lst 1 (A.Owned.map AV.str))]),.box 8 (.agg [(.I B.Kind),(.str B.Table),(.str B.Name),(.lst 3 (B.Where.map a3o)),(.lst 3 (B.Row.map a2f)),(.lst 3 (B.Muts.map a6h)),(.lst 1 (B.Columns.map AV.str)),(.bool B.Until)]),.box 5 (.agg [(.I 0),(.I 0),(.I 0),.nil,.nil])]) ?_ ?_
 ·refine al (X:={q:(Nat × Int × Bool × Int) // a2i A E B D q.1 q.2.1 q.2.2.1 q.2.2.2 = some p518}) (fun q => ([(0,(.ptr 0 0 0)),(2,(.I E)),(3,(.lst 3 (D.map a2f))),(5,(.ptr 1 0 0)),(8,(.ptr 2 0 0)),(9,(.I q.1.2.1)),(10,(.bool q.1.2.2.1)),(11,(.I q.1.2.2.2))],[.box 6 (.agg [(.lst 4 (A.S.Tables.map a0c)),(.lst 1 (A.X.Tables.map (a2m 2 y8))),(.I A.X.Next),(.lst 8 (A.Ops.map a1h)),(.lst 1 (A.Ids.map encI)),(.lst 1 (A.Owned.map AV.str))]),.box 8 (.agg [(.I B.Kind),(.str B.Table),(.str B.Name),(.lst 3 (B.Where.map a3o)),(.lst 3 (B.Row.map a2f)),(.lst 3 (B.Muts.map a6h)),(.lst 1 (B.Columns.map AV.str)),(.bool B.Until)]),.box 5 (.agg [(.I 0),(.I 0),(.I 0),.nil,.nil])])) (fun q => q.1.1) ⟨(FUEL,0,true,0),hb1⟩ [0,1,2] ?_
  rintro ⟨⟨k,G,H,F⟩,hc1⟩
  dsimp only at hc1 ⊢
  rcases k with _ | k
  ·rw [a2i.eq_1] at hc1
   cases hc1
  ·rw [a2i.eq_2] at hc1;refine a0q<|a0q<|a9i ?_
   obtain ⟨R,ex520,hc1⟩:=ob hc1
   refine a2t (.I F) rfl<|a2t (.ptr 0 0 0) rfl<|s_q (.ptr 0 0 0) rfl tr rfl<|s_q (.ptr 0 0 1) rfl tr rfl<|s_q (.ptr 0 0 1) rfl tr rfl<|s_q (.lst 1 (A.X.Tables.map (a2m 2 y8))) rfl nle rfl<|a2t (.I E) rfl<|ix ex520 ?_;refine go 1 ?_;refine ln fun hl521 => ?_;refine gq 1 ?_
   rcases oi hc1 with ⟨c522,hc1⟩ | ⟨c522,hc1⟩
   ·refine wt c522<|a5n<|a5s<|a0q<|b7k<|sr<|a2t (.ptr 0 0 0) rfl<|s_q (.ptr 0 0 0) rfl tr rfl<|s_q (.ptr 0 0 1) rfl tr rfl<|s_q (.ptr 0 0 1) rfl tr rfl<|s_q (.lst 1 (A.X.Tables.map (a2m 2 y8))) rfl nle rfl<|a2t (.I E) rfl ?_
    obtain ⟨T,ex524,hc1⟩:=ob hc1
    refine ix ex524 ?_;refine go 2 ?_
    obtain ⟨K,ex526,hc1⟩:=ob hc1
    refine ix ex526 ?_;refine go 1 ?_;refine bx ?_;refine sb ?_;refine dk<|a0q<|sr<|a2t (.ptr 0 0 0) rfl<|s_q (.ptr 0 0 0) rfl tr rfl<|s_q (.ptr 0 0 0) rfl tr rfl<|s_q (.ptr 0 0 0) rfl tr rfl<|s_q (.lst 4 (A.S.Tables.map a0c)) rfl nle rfl<|a2t (.I E) rfl ?_
    obtain ⟨U,ex528,hc1⟩:=ob hc1
    refine ix ex528 ?_;refine go 4 ?_
    obtain ⟨V,er530,hc1⟩:=ob hc1
    refine cll (w_spec_l06All _ _ _ _ er530) ?_;refine gq 1 ?_
    rcases oi hc1 with ⟨c531,hc1⟩ | ⟨c531,hc1⟩
    ·refine wt c531<|c4b<|c4a<|c3z ?_;refine a5s<|wc ([(0,(.ptr 0 0 0)),(2,(.I E)),(3,(.lst 3 (D.map a2f))),(5,(.ptr 1 0 0)),(8,(.ptr 2 0 0)),(9,(.I G)),(10,(.bool H)),(11,(.I F))],[.box 6 (.agg [(.lst 4 (A.S.Tables.map a0c)),(.lst 1 (A.X.Tables.map (a2m 2 y8))),(.I A.X.Next),(.lst 8 (A.Ops.map a1h)),(.lst 1 (A.Ids.map encI)),(.lst 1 (A.Owned.map AV.str))]),.box 8 (.agg [(.I B.Kind),(.str B.Table),(.str B.Name),(.lst 3 (B.Where.map a3o)),(.lst 3 (B.Row.map a2f)),(.lst 3 (B.Muts.map a6h)),(.lst 1 (B.Columns.map AV.str)),(.bool B.Until)]),.box 5 (.agg [(.I 0),(.I 0),(.I 0),.nil,.nil])]) [0,1,2] ?_
     refine gd 3 ?_;exact kl ⟨(k,G,H,w64 (F + 1)),hc1⟩ [0,1,2]
    ·refine wf c531<|a5n<|a5s ?_;refine gq 3 ?_;refine gq 1 ?_
     obtain ⟨J,hb2,hc1⟩:=ob hc1
     refine d0r ([(0,(.ptr 0 0 0)),(2,(.I E)),(3,(.lst 3 (D.map a2f))),(5,(.ptr 1 0 0)),(8,(.ptr 2 0 0)),(9,(.I (w64 (G + 1)))),(10,(.bool J)),(11,(.I F))],[.box 6 (.agg [(.lst 4 (A.S.Tables.map a0c)),(.lst 1 (A.X.Tables.map (a2m 2 y8))),(.I A.X.Next),(.lst 8 (A.Ops.map a1h)),(.lst 1 (A.Ids.map encI)),(.lst 1 (A.Owned.map AV.str))]),.box 8 (.agg [(.I B.Kind),(.str B.Table),(.str B.Name),(.lst 3 (B.Where.map a3o)),(.lst 3 (B.Row.map a2f)),(.lst 3 (B.Muts.map a6h)),(.lst 1 (B.Columns.map AV.str)),(.bool B.Until)]),.box 5 (.agg [(.I 0),(.I 0),(.I 0),.nil,.nil])]) ?_ ?_
     ·refine al (X:={q:(Bool × Nat) // a2h A E K (D.drop q.2) q.1 = some J}) (fun q => ([(0,(.ptr 0 0 0)),(2,(.I E)),(3,(.lst 3 (D.map a2f))),(5,(.ptr 1 0 0)),(8,(.ptr 2 0 0)),(9,(.I (w64 (G + 1)))),(10,(.bool q.1.1)),(11,(.I F)),(12,(.ptr 3 0 0)),(13,(.I (q.1.2:Int)))],[.box 6 (.agg [(.lst 4 (A.S.Tables.map a0c)),(.lst 1 (A.X.Tables.map (a2m 2 y8))),(.I A.X.Next),(.lst 8 (A.Ops.map a1h)),(.lst 1 (A.Ids.map encI)),(.lst 1 (A.Owned.map AV.str))]),.box 8 (.agg [(.I B.Kind),(.str B.Table),(.str B.Name),(.lst 3 (B.Where.map a3o)),(.lst 3 (B.Row.map a2f)),(.lst 3 (B.Muts.map a6h)),(.lst 1 (B.Columns.map AV.str)),(.bool B.Until)]),.box 5 (.agg [(.I 0),(.I 0),(.I 0),.nil,.nil]),.box 2 (.agg [(.I K.Id),(.lst 1 (K.Cells.map (a2m 3 l9)))])])) (fun q => D.length - q.1.2) ⟨(H,0),hb2⟩ [0,1,2,3] ?_
      rintro ⟨⟨O,L⟩,hc2⟩
      dsimp only at hc2 ⊢
      rcases c7v D L with ⟨hie586,hd589⟩ | ⟨hlt584,Y,hx585,hd589⟩
      ·rw [hd589,a2h.eq_1] at hc2
       refine go 2 ?_;refine ln fun hl591 => ?_;refine gq 1 ?_;refine wg (dlf hie586)<|le ?_;refine b6g ?_;cases hc2;exact ck [0,1,2]
      ·rw [hd589,a2h.eq_2] at hc2
       refine go 2 ?_;refine ln fun hl592 => ?_;refine gq 1 ?_;refine wt (dlt hlt584)<|a5n<|a5s<|a0q<|b7k ?_;refine go 2 ?_
       rcases oi hc2 with ⟨c593,hc2⟩ | ⟨c593,hc2⟩
       ·refine sl 60 c593<|s_on rfl<|s_q (.ptr 3 0 1) rfl tr rfl<|s_on rfl<|s_q (.lst 1 (K.Cells.map (a2m 3 l9))) rfl nle rfl<|s_on rfl<|a2t (.ptr 0 0 0) rfl<|s_on rfl<|s_q (.ptr 0 0 0) rfl tr rfl<|s_on rfl<|s_q (.ptr 0 0 0) rfl tr rfl<|s_on rfl<|s_q (.ptr 0 0 0) rfl tr rfl<|s_on rfl<|s_q (.lst 4 (A.S.Tables.map a0c)) rfl nle rfl<|s_on rfl<|a2t (.I E) rfl<|s_on rfl ?_
        obtain ⟨Aa,ex595,hc2⟩:=ob hc2
        refine ix ex595 ?_;refine go 3 ?_;refine s_on rfl<|ia hx585 ?_;refine go 4 ?_;refine s_on rfl<|ia hx585 ?_;refine go 2 ?_;refine d0s rfl ?_
        obtain ⟨Ab,er597,hc2⟩:=ob hc2
        refine cll (w_spec_l04Column _ _ _ er597)<|s_on rfl ?_
        obtain ⟨Ac,ex599,hc2⟩:=ob hc2
        refine ix ex599 ?_;refine go 1 ?_;refine d0s rfl ?_
        obtain ⟨M,er601,hc2⟩:=ob hc2
        refine cll (w_spec_l03Same _ _ _ er601) ?_;refine go 1 ?_;refine a6e (e2y (.bool M) rfl) b9y tr<|a8y<|b6g<|a5s ?_;refine gd 3 ?_;exact kl ⟨(M,(L + 1)),hc2⟩ [0,1,2,3]
       ·refine sf 60 c593 ?_;refine go 20 ?_;refine c3y rfl rfl tr ?_;refine go 2 ?_;refine c3y rfl rfl tr ?_;refine go 1 ?_;refine a6e (e2y (.bool false) rfl) b9y tr<|a8y<|b6g<|a5s ?_;refine go 3 ?_
        refine a8y ?_;exact kl ⟨(false,(L + 1)),hc2⟩ [0,1,2,3]
     ·refine gd 3 ?_;exact kl ⟨(k,w64 (G + 1),J,w64 (F + 1)),hc1⟩ [0,1,2]
   ·refine wf c522<|le ?_;cases hc1;exact ck [0,1,2]
 ·obtain ⟨Ad,P⟩:=p518
  refine a0q<|a0q ?_
  obtain ⟨N,hb1,hf⟩:=ob hf
  refine b0n ([(8,(.ptr 1 0 0)),(93,(.bool N))],[.box 6 (.agg [(.lst 4 (A.S.Tables.map a0c)),(.lst 1 (A.X.Tables.map (a2m 2 y8))),(.I A.X.Next),(.lst 8 (A.Ops.map a1h)),(.lst 1 (A.Ids.map encI)),(.lst 1 (A.Owned.map AV.str))]),.box 5 (.agg [(.I 0),(.I 0),(.I 0),.nil,.nil])]) ?_ ?_
  ·refine a9i ?_
   rcases oi hb1 with ⟨c605,hb1⟩ | ⟨c605,hb1⟩
   ·refine go 3 ?_;refine sl 88 c605 ?_;refine gd 5 ?_;cases hb1;exact ck [0,2]
   ·refine go 3 ?_;refine sf 88 c605 ?_;refine gd 5 ?_;cases hb1;exact ck [0,2]
  ·rcases oi hf with ⟨c606,hf⟩ | ⟨c606,hf⟩
   ·refine wt c606<|sr<|s_q (.agg [(.I 15),(.I 0),(.I 0),.nil,.nil]) rfl ⟨⟨rfl,nle,tr⟩,tr⟩ rfl<|sb ?_;refine dk<|b3g ?_;cases hf;exact c0d [.nilC 1 3 1,.nilC 1 4 2] [0,2,3] rfl ⟨nle,tr⟩ rfl .r .r
   ·refine wf c606<|a5n<|a5s<|sr<|s_q (.agg [(.I 0),(.I 0),(.I 0),.nil,.nil]) rfl tr rfl<|sb ?_;refine dk<|b3g ?_;cases hf;exact c0d [.nilC 1 3 1,.nilC 1 4 2] [0,2,3] rfl ⟨nle,tr⟩ rfl .r .r⟩
instance w_spec_l06Select (D:o6) (A:(List o8)) (B:(List a3p)) (r:(List Int)):Wf Tryz.prog (b4p D A B = some r) 375 [(a0c D),(.lst 2 (A.map y8)),(.lst 3 (B.map a3o))] (.lst 1 (r.map encI)):=⟨fun hf => by
 unfold b4p at hf;refine coA [7,23] [zN1 [1,2,3] fun i (v:(List Int)) => (fun g w c o m => ([(7,(.own 1 0 v.length)),(8,(.int .i64 (i:Int)))],some [o 0,.row 1 (v.map encI)])),cZ [] fun v:(List Int) => (fun _ _ _ _ _ => ([(7,(.own 0 0 v.length))],some [.row 1 (v.map encI)]))] Tryz.func375 ?_ (sp:=[(4,[[16,21],[22,0]]),(5,[[23,30],[7]])]);exact Z⟩
end Go.R
end
