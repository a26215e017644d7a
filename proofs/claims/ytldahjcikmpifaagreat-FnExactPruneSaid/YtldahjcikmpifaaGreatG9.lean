/- Part of the proof. -/
import Derived.Test.YtldahjcikmpifaaGreatG3
import Derived.Test.YtldahjcikmpifaaGreatG6
import Derived.Test.YtldahjcikmpifaaGreatG8

section
set_option linter.all false
namespace Go.R
open Go Go.Proofs
set_option maxRecDepth 100000
set_option maxHeartbeats 8000000
def a1k (A:y7):List y7 → Nat → Option (Fl Int Unit)
  | [],B =>
    some (.go ())
  | D :: xs,B =>
    if (A.Kind == D.Kind && (A.N == D.N && (A.T == D.T && true))) then
    some (.ret (B:Int))
    else
    a1k A xs (B + 1)
def a2w (E:(List y7)) (A:y7):Option Int :=
    (a1k A E 0).bind fun q => (match q with
    | .ret r => some r
    | .go _ =>
    some (-1))
instance w_slices_Index_impl_Atom_impl_Atom (E:(List y7)) (A:y7) (r:Int):Wk Tryz.prog (a2w E A = some r) 275 [(.lst 3 (E.map y8)),(y8 A)] (.I r):=⟨fun hf => by
 unfold a2w at hf;refine coA [5,25] [lI [0,3,7] fun i => [(8,(.I (i:Int)))],fA [] fun q:Unit => []] Tryz.func275 ?_;exact W⟩
def a1y (A:(List y7)) (B:y7):Option Bool :=
    (a2w A B).bind fun D =>
    some (decide (D ≥ 0))
instance w_slices_Contains_impl_Atom_impl_Atom (A:(List y7)) (B:y7) (r:Bool):Wk Tryz.prog (a1y A B = some r) 180 [(.lst 3 (A.map y8)),(y8 B)] (.bool r):=⟨fun hf => by
 unfold a1y at hf;refine coA [] [] Tryz.func180 ?_;exact W⟩
def a5d (G:x8) (A:Int) (H:(List y7)) (B:Int) (D:Int) (F:Int):Option (Int × Int × Int) :=
    ((if (bif G.Strong then (A == B) else false) then
    (a1y H (⟨4,D,[]⟩:y7)).bind fun J =>
    some J
    else
    some false:Option Bool)).bind fun E =>
    if E then
    some (B,D,w64 (F + 1))
    else
    some (B,D,F)
theorem b8e (G:x8) (A:Int) (H:(List y7)) (B:Int) (D:Int) (F:Int) (r:(Int × Int × Int)) (hf:a5d G A H B D F = some r):a1l Tryz.prog false 179 [(a0f G),(.I A),(.lst 3 (H.map y8)),(.ptr 0 0 0),(.ptr 1 0 0),(.ptr 2 0 0)] [.box 1 (.I B),.box 1 (.I D),.box 1 (.I F)] (.tup []) [.box 1 (.I r.1),.box 1 (.I r.2.1),.box 1 (.I r.2.2)]:=by
 unfold a5d at hf;refine coh [8] Tryz.func179 ?_;refine sr<|bx ?_;refine dk<|o8 ?_
 obtain ⟨E,hb1,hf⟩:=ob hf
 refine a1r ([(5,(.ptr 2 0 0)),(21,(.bool E))],[.box 1 (.I B),.box 1 (.I D),.box 1 (.I F)]) ?_ ?_
 ·refine go 3 ?_;refine sg (.I A) ?_;refine s_g (v:=G.Strong) (.I B) rfl (fun hv => by (try simp only [a2u hv]);exact ⟨rfl,⟨rfl,rfl⟩,rfl⟩) ?_;refine sg (.bool (A == B)) ?_;refine b9z (x:=(A == B)) (y:=false) rfl (fun hv => by (try simp only [a2u hv]);rfl) (fun hv => by (try simp only [a2u hv]);rfl) ?_;refine go 1 ?_
  rcases oi hb1 with ⟨c12,hb1⟩ | ⟨c12,hb1⟩
  ·refine sl 16 c12<|s_on rfl<|e6x (.lst 3 (H.map y8)) rfl<|s_on rfl<|s_q (.I D) rfl ⟨rfl,rfl⟩ rfl<|s_on rfl<|s_q (.agg [(.I 4),(.I D),(.str [])]) rfl ⟨⟨rfl,nle,tr⟩,⟨⟨rfl,nle,tr⟩,tr⟩⟩ rfl<|s_on rfl ?_
   obtain ⟨J,er14,hb1⟩:=ob hb1
   refine cl (w_slices_Contains_impl_Atom_impl_Atom _ _ _ er14) ?_;refine gd 1 ?_;cases hb1;exact ck [0,1,2]
  ·refine sf 16 c12 ?_;refine gd 5 ?_;cases hb1;exact ck [0,1,2]
 ·rcases oi hf with ⟨c15,hf⟩ | ⟨c15,hf⟩
  ·refine wt c15 ?_;refine go 2 ?_;refine sb ?_;refine a1a ?_;cases hf;exact b5y [] [0,1,2] rfl tr rfl .r .r
  ·refine wf c15<|a0v ?_;cases hf;exact b5y [] [0,1,2] rfl tr rfl .r .r
def a2z (E:Nat) (D:a0b) (B:x8):List a0c → Int → Int → Int → Option (Int × Int × Int)
  | [],N,O,P =>
    some (N,O,P)
  | R :: xs,N,O,P =>
    (idx R.Cells (E:Int)).bind fun Ae =>
    (a1p D B.Ref).bind fun Af =>
    (a5d B Af Ae N O P).bind fun H =>
    a2z E D B xs  H.1 H.2.1 H.2.2
def a2p (F:a0h) (A:Nat) (D:a0b):List x8 → Nat → Int → Int → Int → Option (Int × Int × Int)
  | [],E,J,K,L =>
    some (J,K,L)
  | B :: xs,E,J,K,L =>
    if (B.Kind != 4) then
    a2p F A D xs (E + 1) J K L
    else
    (idx F.Tables (A:Int)).bind fun M =>
    (a2z E D B M J K L).bind fun p1030 =>
    (match p1030 with
    | (V,Y,Z) =>
    a2p F A D xs (E + 1) V Y Z)
def a3a (F:a0h) (D:a0b):List a0a → Nat → Int → Int → Int → Option (Int × Int × Int)
  | [],A,S,T,U =>
    some (S,T,U)
  | G :: xs,A,S,T,U =>
    (a2p F A D G.Columns 0 S T U).bind fun p980 =>
    (match p980 with
    | (Ab,Ac,Ad) =>
    a3a F D xs (A + 1) Ab Ac Ad)
def b2y (D:a0b) (F:a0h) (Ag:Int) (Ah:Int) (Ai:Int):Option (Int × Int × Int) :=
    a3a F D D.Tables 0 Ag Ah Ai
theorem c5e (D:a0b) (F:a0h) (Ag:Int) (Ah:Int) (Ai:Int) (r:(Int × Int × Int)) (hf:b2y D F Ag Ah Ai = some r):a1l Tryz.prog false 174 [(a1h D),(a1j F),(.fn 179 [(.ptr 0 0 0),(.ptr 1 0 0),(.ptr 2 0 0)])] [.box 1 (.I Ag),.box 1 (.I Ah),.box 1 (.I Ai)] (.tup []) [.box 1 (.I r.1),.box 1 (.I r.2.1),.box 1 (.I r.2.2)]:=by
 unfold b2y at hf;refine coh [104,106] Tryz.func174 ?_ (sp:=[(3,[[17,19],[7],[6],[1000]]),(6,[[25,27],[9],[8],[1000]]),(8,[[31,37]]),(11,[[41,45],[47,51],[46,0,51,50,48,47,42],[52,0]])]);refine sr<|bx ?_;refine bx ?_;refine a1a<|a0i ?_;refine go 2 ?_;refine ln fun hl6 => ?_
 refine gq 1 ?_;refine al (X:={q:(Nat × Int × Int × Int) // a3a F D (D.Tables.drop q.1) q.1 q.2.1 q.2.2.1 q.2.2.2 = some r}) (fun q => ([(2,(.fn 179 [(.ptr 0 0 0),(.ptr 1 0 0),(.ptr 2 0 0)])),(3,(.ptr 3 0 0)),(4,(.ptr 4 0 0)),(13,(.lst 4 (D.Tables.map y9))),(14,(.I (D.Tables.length:Int))),(15,(.I (q.1.1:Int)))],[.box 1 (.I q.1.2.1),.box 1 (.I q.1.2.2.1),.box 1 (.I q.1.2.2.2),.box 1 (.agg [(.lst 4 (D.Tables.map y9))]),.box 2 (.agg [(.lst 1 (F.Tables.map (a0m 2 l7))),(.I F.Next)])])) (fun q => D.Tables.length - q.1.1) ⟨(0,Ag,Ah,Ai),hf⟩ [0,1,2,3,4] ?_
 rintro ⟨⟨A,S,T,U⟩,hc1⟩
 dsimp only at hc1 ⊢
 rcases a6v D.Tables A with ⟨hie786,hd789⟩ | ⟨hlt784,G,hx785,hd789⟩
 ·rw [hd789,a3a.eq_1] at hc1
  refine gq 1 ?_;refine o8<|wg (dlf hie786)<|le ?_;cases hc1;exact b5y [] [0,1,2] rfl tr rfl .r .r
 ·rw [hd789,a3a.eq_2] at hc1
  refine gq 1 ?_;refine o8<|wt (dlt hlt784)<|a0v<|a0i<|o8<|a3z ?_;refine go 1 ?_;refine ia hx785 ?_;refine go 1 ?_;refine bx ?_;refine go 1 ?_;refine sb ?_
  refine a1a<|a0i ?_;refine go 2 ?_;refine ln fun hl791 => ?_;refine gq 1 ?_
  obtain ⟨p980,hb1,hc1⟩:=ob hc1
  refine b7x ([(2,(.fn 179 [(.ptr 0 0 0),(.ptr 1 0 0),(.ptr 2 0 0)])),(3,(.ptr 3 0 0)),(4,(.ptr 4 0 0)),(13,(.lst 4 (D.Tables.map y9))),(14,(.I (D.Tables.length:Int))),(15,(.I (A:Int)))],[.box 1 (.I p980.1),.box 1 (.I p980.2.1),.box 1 (.I p980.2.2),.box 1 (.agg [(.lst 4 (D.Tables.map y9))]),.box 2 (.agg [(.lst 1 (F.Tables.map (a0m 2 l7))),(.I F.Next)])]) ?_ ?_
  ·refine al (X:={q:(Nat × Int × Int × Int) // a2p F A D (G.Columns.drop q.1) q.1 q.2.1 q.2.2.1 q.2.2.2 = some p980}) (fun q => ([(2,(.fn 179 [(.ptr 0 0 0),(.ptr 1 0 0),(.ptr 2 0 0)])),(3,(.ptr 3 0 0)),(4,(.ptr 4 0 0)),(6,(.I (A:Int))),(13,(.lst 4 (D.Tables.map y9))),(14,(.I (D.Tables.length:Int))),(15,(.I (A:Int))),(21,(.lst 8 (G.Columns.map a0f))),(22,(.I (G.Columns.length:Int))),(23,(.I (q.1.1:Int)))],[.box 1 (.I q.1.2.1),.box 1 (.I q.1.2.2.1),.box 1 (.I q.1.2.2.2),.box 1 (.agg [(.lst 4 (D.Tables.map y9))]),.box 2 (.agg [(.lst 1 (F.Tables.map (a0m 2 l7))),(.I F.Next)])])) (fun q => G.Columns.length - q.1.1) ⟨(0,S,T,U),hb1⟩ [0,1,2,3,4] ?_
   rintro ⟨⟨E,J,K,L⟩,hc1⟩
   dsimp only at hc1 ⊢
   rcases a6v G.Columns E with ⟨hie983,hd986⟩ | ⟨hlt981,B,hx982,hd986⟩
   ·rw [hd986,a2p.eq_1] at hc1
    refine gq 1 ?_;refine o8<|wg (dlf hie983)<|le ?_;refine a3w ?_;cases hc1;exact ck [0,1,2,3,4]
   ·rw [hd986,a2p.eq_2] at hc1
    refine gq 1 ?_;refine o8<|wt (dlt hlt981)<|a0v<|a0i<|o8<|a3z ?_;refine go 1 ?_;refine ia hx982 ?_;refine go 1 ?_;refine bx ?_;refine go 1 ?_;refine sb ?_
    refine a1a<|a0i ?_;refine gq 3 ?_
    rcases oi hc1 with ⟨c988,hc1⟩ | ⟨c988,hc1⟩
    ·refine wt c988<|c3q<|c3p<|c3o ?_;refine a0i<|wc ([(2,(.fn 179 [(.ptr 0 0 0),(.ptr 1 0 0),(.ptr 2 0 0)])),(3,(.ptr 3 0 0)),(4,(.ptr 4 0 0)),(6,(.I (A:Int))),(13,(.lst 4 (D.Tables.map y9))),(14,(.I (D.Tables.length:Int))),(15,(.I (A:Int))),(21,(.lst 8 (G.Columns.map a0f))),(22,(.I (G.Columns.length:Int))),(23,(.I (E:Int)))],[.box 1 (.I J),.box 1 (.I K),.box 1 (.I L),.box 1 (.agg [(.lst 4 (D.Tables.map y9))]),.box 2 (.agg [(.lst 1 (F.Tables.map (a0m 2 l7))),(.I F.Next)])]) [0,1,2,3,4] ?_
     refine gd 2 ?_;exact kl ⟨((E + 1),J,K,L),hc1⟩ [0,1,2,3,4]
    ·refine wf c988<|a0v<|a0i<|o8<|a0t ?_
     obtain ⟨M,ex990,hc1⟩:=ob hc1
     refine go 3 ?_;refine ix ex990 ?_;refine go 1 ?_;refine ln fun hl991 => ?_;refine gq 1 ?_
     obtain ⟨p1030,hb2,hc1⟩:=ob hc1
     refine b7x ([(2,(.fn 179 [(.ptr 0 0 0),(.ptr 1 0 0),(.ptr 2 0 0)])),(3,(.ptr 3 0 0)),(4,(.ptr 4 0 0)),(6,(.I (A:Int))),(13,(.lst 4 (D.Tables.map y9))),(14,(.I (D.Tables.length:Int))),(15,(.I (A:Int))),(21,(.lst 8 (G.Columns.map a0f))),(22,(.I (G.Columns.length:Int))),(23,(.I (E:Int)))],[.box 1 (.I p1030.1),.box 1 (.I p1030.2.1),.box 1 (.I p1030.2.2),.box 1 (.agg [(.lst 4 (D.Tables.map y9))]),.box 2 (.agg [(.lst 1 (F.Tables.map (a0m 2 l7))),(.I F.Next)])]) ?_ ?_
     ·refine al (X:={q:(Nat × Int × Int × Int) // a2z E D B (M.drop q.1) q.2.1 q.2.2.1 q.2.2.2 = some p1030}) (fun q => ([(2,(.fn 179 [(.ptr 0 0 0),(.ptr 1 0 0),(.ptr 2 0 0)])),(3,(.ptr 3 0 0)),(4,(.ptr 4 0 0)),(6,(.I (A:Int))),(8,(.I (E:Int))),(9,(.ptr 5 0 0)),(13,(.lst 4 (D.Tables.map y9))),(14,(.I (D.Tables.length:Int))),(15,(.I (A:Int))),(21,(.lst 8 (G.Columns.map a0f))),(22,(.I (G.Columns.length:Int))),(23,(.I (E:Int))),(35,(.lst 2 (M.map l7))),(36,(.I (M.length:Int))),(37,(.I (q.1.1:Int)))],[.box 1 (.I q.1.2.1),.box 1 (.I q.1.2.2.1),.box 1 (.I q.1.2.2.2),.box 1 (.agg [(.lst 4 (D.Tables.map y9))]),.box 2 (.agg [(.lst 1 (F.Tables.map (a0m 2 l7))),(.I F.Next)]),.box 8 (.agg [(.str B.Name),(.I B.Kind),(.I B.Min),(.I B.Max),(.I B.Low),(.I B.High),(.str B.Ref),(.bool B.Strong)])])) (fun q => M.length - q.1.1) ⟨(0,J,K,L),hb2⟩ [0,1,2,3,4,5] ?_
      rintro ⟨⟨Aa,N,O,P⟩,hc2⟩
      dsimp only at hc2 ⊢
      rcases a6v M Aa with ⟨hie1033,hd1036⟩ | ⟨hlt1031,R,hx1032,hd1036⟩
      ·rw [hd1036,a2z.eq_1] at hc2
       refine gq 1 ?_;refine o8<|wg (dlf hie1033)<|le ?_;refine a3w ?_;cases hc2;exact ck [0,1,2,3,4]
      ·rw [hd1036,a2z.eq_2] at hc2
       refine gq 1 ?_;refine o8<|wt (dlt hlt1031)<|a0v<|a0i<|o8<|a3z<|sr<|ia hx1032 ?_;refine go 1 ?_;refine bx ?_;refine sb ?_;refine dk<|a0t ?_
       obtain ⟨Ae,ex1039,hc2⟩:=ob hc2
       obtain ⟨Af,er1041,hc2⟩:=ob hc2
       obtain ⟨H,er1043,hc2⟩:=ob hc2
       refine go 8 ?_;refine ix ex1039 ?_;refine go 1 ?_;refine cll (w_impl_Schema_tableAt _ _ _ er1041) ?_
       refine a4s (f0s (v:=(.tup [])) (h2:=[.box 1 (.I H.1),.box 1 (.I H.2.1),.box 1 (.I H.2.2),.box 1 (.agg [(.lst 4 (D.Tables.map y9))]),.box 2 (.agg [(.lst 1 (F.Tables.map (a0m 2 l7))),(.I F.Next)]),.box 8 (.agg [(.str B.Name),(.I B.Kind),(.I B.Min),(.I B.Max),(.I B.Low),(.I B.High),(.str B.Ref),(.bool B.Strong)]),.box 2 (.agg [(.I R.Id),(.lst 1 (R.Cells.map (a0m 3 y8)))])]) [] [0,1,2] (fun _ => rfl) rfl (by kernel_rfl) (b8e _ _ _ _ _ _ _ er1043) rfl rfl .r .r rfl rfl) tr tr ?_
       refine a1a<|a3w<|a0i ?_;refine gd 2 ?_;exact kl ⟨((Aa + 1),H.1,H.2.1,H.2.2),hc2⟩ [0,1,2,3,4,5]
     ·obtain ⟨V,Y,Z⟩:=p1030
      refine gd 2 ?_;exact kl ⟨((E + 1),V,Y,Z),hc1⟩ [0,1,2,3,4]
  ·obtain ⟨Ab,Ac,Ad⟩:=p980
   refine gd 2 ?_;exact kl ⟨((A + 1),Ab,Ac,Ad),hc1⟩ [0,1,2,3,4]
def a5h (E:a0b) (B:a0h) (A:Int) (D:Int):Option Int :=
    (b2y E B A D 0).bind fun F =>
    some F.2.2
instance w_impl_strongCount (E:a0b) (B:a0h) (A:Int) (D:Int) (r:Int):Wk Tryz.prog (a5h E B A D = some r) 80 [(a1h E),(a1j B),(.I A),(.I D)] (.I r):=⟨fun hf => by
 unfold a5h at hf;refine co [] Tryz.func80 ?_;refine sr<|bx ?_;refine bx ?_;refine bx ?_;refine bx ?_;refine gq 1 ?_;refine sr<|bx ?_
 refine sb ?_;refine dk<|o8<|a0t ?_
 obtain ⟨F,er6,hf⟩:=ob hf
 refine go 3 ?_;refine a0x (f0r (v:=(.tup [])) (h2:=[.box 1 (.agg [(.lst 4 (E.Tables.map y9))]),.box 2 (.agg [(.lst 1 (B.Tables.map (a0m 2 l7))),(.I B.Next)]),.box 1 (.I F.1),.box 1 (.I F.2.1),.box 1 (.I F.2.2)]) [] [2,3,4] (fun _ => rfl) (c5e _ _ _ _ _ _ er6) rfl .r .r rfl rfl) ?_;refine a1a<|a0i ?_;refine go 2 ?_
 refine dk<|a2q ?_;cases hf;exact rf⟩
def a0d (E:(List a0c)) (D:(a0c → Int → Option Int)) (A:Int):Nat → Int → Int → Option Int
  | 0,_,_ => none
  | k + 1,B,F =>
    if (decide (B < F)) then
    (idx E (w64 (Int.fdiv (IntKind.u64.wrap (w64 (B + F))) (2 ^ (min (Int.toNat 1) (IntKind.bits .u64)))))).bind fun K =>
    (D K A).bind fun H =>
    if (decide (H < 0)) then
    a0d E D A k (w64 ((w64 (Int.fdiv (IntKind.u64.wrap (w64 (B + F))) (2 ^ (min (Int.toNat 1) (IntKind.bits .u64))))) + 1)) F
    else
    a0d E D A k B (w64 (Int.fdiv (IntKind.u64.wrap (w64 (B + F))) (2 ^ (min (Int.toNat 1) (IntKind.bits .u64)))))
    else
    some B
def a1c (E:(List a0c)) (A:Int) (D:(a0c → Int → Option Int)):Option (Int × Bool) :=
    (a0d E D A FUEL 0 (E.length:Int)).bind fun G =>
    if (decide (G < (E.length:Int))) then
    (idx E G).bind fun L =>
    (D L A).bind fun J =>
    some (G,(J == 0))
    else
    some (G,false)
theorem a7e (E:(List a0c)) (A:Int) (D:(a0c → Int → Option Int)) (r:(Int × Bool)) (hf:a1c E A D = some r) (kf_cmp_3:Nat) (cf_cmp_3:List AV) (okf_cmp_3:c8y Tryz.prog kf_cmp_3 = true) (hcf_cmp_3:∀ h p,a2o h p cf_cmp_3 = some cf_cmp_3) (hrf_cmp_3:∀ f,a6g f cf_cmp_3 = cf_cmp_3) (hpf_cmp_3:∀ a0 a1 r,D a0 a1 = some r → a0k Tryz.prog kf_cmp_3 .flat ([(l7 a0),(.I a1)] ++ cf_cmp_3) (.I r)):a0k Tryz.prog 247 .flat [(.lst 2 (E.map l7)),(.I A),(.fn kf_cmp_3 cf_cmp_3)] (.tup [(.I r.1),(.bool r.2)]):=by
 unfold a1c at hf;refine co [46] Tryz.func247 ?_;refine gq 2 ?_;refine go 1 ?_;refine ln fun hl4 => ?_;refine gq 1 ?_;refine gq 3 ?_;refine o8 ?_
 obtain ⟨G,hb1,hf⟩:=ob hf
 refine a1r ([(0,(.lst 2 (E.map l7))),(1,(.I A)),(2,(.fn kf_cmp_3 cf_cmp_3)),(8,(.I (E.length:Int))),(9,(.I G))],[]) ?_ ?_
 ·refine a3s (X:={q:(Nat × Int × Int) // a0d E D A q.1 q.2.1 q.2.2 = some G}) (fun q => ([(0,(.lst 2 (E.map l7))),(1,(.I A)),(2,(.fn kf_cmp_3 cf_cmp_3)),(8,(.I (E.length:Int))),(9,(.I q.1.2.1)),(10,(.I q.1.2.2))],[])) (fun q => q.1.1) ⟨(FUEL,0,(E.length:Int)),hb1⟩ ⟨[],[],_,_,rfl,rfl,⟨.r,⟨.r,⟨.of_eq (congrArg (AV.fn _) (hrf_cmp_3 _)),⟨.r,⟨.r,⟨.r,tr⟩⟩⟩⟩⟩⟩,.r⟩ ?_
  rintro ⟨⟨k,B,F⟩,hc1⟩
  dsimp only at hc1 ⊢
  rcases k with _ | k
  ·rw [a0d.eq_1] at hc1
   cases hc1
  ·rw [a0d.eq_2] at hc1;refine gq 3 ?_
   rcases oi hc1 with ⟨c51,hc1⟩ | ⟨c51,hc1⟩
   ·refine wt c51<|a0v<|a0i<|a3z ?_;refine go 4 ?_;refine a0x (o_q (.int .u64 (Int.fdiv (IntKind.u64.wrap (w64 (B + F))) (2 ^ (min (Int.toNat 1) (IntKind.bits .u64))))) rfl (show (0:Int) ≤ 1 by decide) rfl) ?_;refine s_q (.I (w64 (Int.fdiv (IntKind.u64.wrap (w64 (B + F))) (2 ^ (min (Int.toNat 1) (IntKind.bits .u64)))))) rfl tr rfl ?_;refine gq 1 ?_;refine o8 ?_
    refine a0t ?_
    obtain ⟨K,ex53,hc1⟩:=ob hc1
    obtain ⟨H,er55,hc1⟩:=ob hc1
    refine go 3 ?_;refine ix ex53 ?_;refine go 2 ?_;refine a0x (c1n (v:=(.I H)) rfl okf_cmp_3 hcf_cmp_3 (hpf_cmp_3 _ _ _ er55) rfl .r rfl) ?_;refine gq 1 ?_
    rcases oi hc1 with ⟨c56,hc1⟩ | ⟨c56,hc1⟩
    ·refine wt c56 ?_;refine go 1 ?_;refine s_q (.I (w64 ((w64 (Int.fdiv (IntKind.u64.wrap (w64 (B + F))) (2 ^ (min (Int.toNat 1) (IntKind.bits .u64))))) + 1))) rfl rfl rfl ?_;refine gd 1 ?_;refine a3w ?_;exact a5p ⟨(k,w64 ((w64 (Int.fdiv (IntKind.u64.wrap (w64 (B + F))) (2 ^ (min (Int.toNat 1) (IntKind.bits .u64))))) + 1),F),hc1⟩ (Nat.lt_succ_self _) ⟨[],[],_,_,rfl,rfl,⟨.r,⟨.r,⟨.of_eq (congrArg (AV.fn _) (hrf_cmp_3 _)),⟨.r,⟨.r,⟨.r,tr⟩⟩⟩⟩⟩⟩,.r⟩
    ·refine wf c56 ?_;refine gd 2 ?_;refine a3w ?_;exact a5p ⟨(k,B,w64 (Int.fdiv (IntKind.u64.wrap (w64 (B + F))) (2 ^ (min (Int.toNat 1) (IntKind.bits .u64))))),hc1⟩ (Nat.lt_succ_self _) ⟨[],[],_,_,rfl,rfl,⟨.r,⟨.r,⟨.of_eq (congrArg (AV.fn _) (hrf_cmp_3 _)),⟨.r,⟨.r,⟨.r,tr⟩⟩⟩⟩⟩⟩,.r⟩
   ·refine wf c51<|le ?_;cases hc1;exact ⟨[],[],_,_,rfl,rfl,⟨.r,⟨.r,⟨.of_eq (congrArg (AV.fn _) (hrf_cmp_3 _)),⟨.r,⟨.r,tr⟩⟩⟩⟩⟩,.r⟩
 ·refine go 5 ?_
  rcases oi hf with ⟨c57,hf⟩ | ⟨c57,hf⟩
  ·refine sl 39 c57 ?_;refine go 3 ?_;refine s_on rfl ?_
   obtain ⟨L,ex59,hf⟩:=ob hf
   refine ix ex59 ?_;refine go 2 ?_;refine s_on rfl ?_
   obtain ⟨J,er61,hf⟩:=ob hf
   refine a0x (c1n (v:=(.I J)) rfl okf_cmp_3 hcf_cmp_3 (hpf_cmp_3 _ _ _ er61) rfl .r rfl) ?_;refine gq 4 ?_;refine a2q ?_;cases hf;exact a8s ⟨tr,⟨tr,tr⟩⟩ rfl .r
  ·refine sf 39 c57 ?_;refine gq 11 ?_;refine a2q ?_;cases hf;exact a8s ⟨tr,⟨tr,tr⟩⟩ rfl .r
def a3v (B:a0c) (A:Int):Option Int :=
    (cmp_Compare_int B.Id A).bind fun D =>
    some D
instance w_impl_rowAt_1 (B:a0c) (A:Int) (r:Int):Wk Tryz.prog (a3v B A = some r) 248 [(l7 B),(.I A)] (.I r):=⟨fun hf => by
 unfold a3v at hf;refine coA [] [] Tryz.func248 ?_;exact W⟩
def b0y (A:(List a0c)) (B:Int):Option (Int × Bool) :=
    (a1c A B a3v).bind fun D =>
    some (D.1,D.2)
instance w_impl_rowAt (A:(List a0c)) (B:Int) (r:(Int × Bool)):Wk Tryz.prog (b0y A B = some r) 150 [(.lst 2 (A.map l7)),(.I B)] (.tup [(.I r.1),(.bool r.2)]):=⟨fun hf => by
  unfold b0y at hf;refine co [] Tryz.func150 ?_
  refine o8 ?_
  refine a0t ?_
  refine a0x (b9d (.I 0) rfl) ?_
  refine a0x (b9d (.bool false) rfl) ?_
  refine a1a ?_
  refine a0i ?_
  refine o8 ?_
  refine a0t ?_
  obtain ⟨D,er4,hf⟩:=ob hf
  refine a0x (b9d (.lst 2 (A.map l7)) rfl) ?_
  refine a0x (b9d (.I B) rfl) ?_
  refine cl (a7e _ _ _ _ er4 248 [] (by kernel_rfl) (fun _ _ => rfl) (fun _ => rfl) (fun a0 a1 r h => w_impl_rowAt_1 a0 a1 r h)) ?_
  refine a0x (o_q (.I D.1) rfl nle rfl) ?_
  refine a0x (o_q (.bool D.2) rfl nle rfl) ?_
  refine a0x (b9d (.I D.1) rfl) ?_
  refine a0x (b9d (.bool D.2) rfl) ?_
  refine a1a ?_
  refine a0i ?_
  refine a2q ?_
  cases hf
  exact a8s ⟨tr,⟨tr,tr⟩⟩ rfl .r⟩
def a2l (D:a0h) (A:Int) (B:Int):Option Bool :=
    (idx D.Tables A).bind fun E =>
    (b0y E B).bind fun F =>
    some F.2
instance w_impl_Store_hasRow (D:a0h) (A:Int) (B:Int) (r:Bool):Wk Tryz.prog (a2l D A B = some r) 82 [(a1j D),(.I A),(.I B)] (.bool r):=⟨fun hf => by
 unfold a2l at hf;refine coA [] [] Tryz.func82 ?_;exact W⟩
def a6e (B:a0c) (A:Int):Option Bool :=
    some (B.Id == A)
instance w_impl_drop_1 (B:a0c) (A:Int) (r:Bool):Wk Tryz.prog (a6e B A = some r) 251 [(l7 B),(.iptr (.I A) 0)] (.bool r):=⟨fun hf => by
 unfold a6e at hf;refine coA [] [] Tryz.func251 ?_;exact W⟩
def a0l (D:(a0c → Option Bool)):List a0c → Nat → Option (Fl Int Unit)
  | [],A =>
    some (.go ())
  | F :: xs,A =>
    (D F).bind fun E =>
    if E then
    some (.ret (A:Int))
    else
    a0l D xs (A + 1)
def a2a (B:(List a0c)) (D:(a0c → Option Bool)):Option Int :=
    (a0l D B 0).bind fun q => (match q with
    | .ret r => some r
    | .go _ =>
    some (-1))
theorem b1r (B:(List a0c)) (D:(a0c → Option Bool)) (r:Int) (hf:a2a B D = some r) (kf_f_2:Nat) (cf_f_2:List AV) (okf_f_2:c8y Tryz.prog kf_f_2 = true) (hcf_f_2:∀ h p,a2o h p cf_f_2 = some cf_f_2) (hrf_f_2:∀ f,a6g f cf_f_2 = cf_f_2) (hpf_f_2:∀ a0 r,D a0 = some r → a0k Tryz.prog kf_f_2 .flat ([(l7 a0)] ++ cf_f_2) (.bool r)):a0k Tryz.prog 178 .flat [(.lst 2 (B.map l7)),(.fn kf_f_2 cf_f_2)] (.I r):=by
 unfold a2a at hf;refine co [50] Tryz.func178 ?_;refine gq 1 ?_;refine go 1 ?_;refine ln fun hl3 => ?_;refine gq 1 ?_
 obtain ⟨p24,hb1,hf⟩:=ob hf
 refine a8v (X:={q:Unit // p24 = .go q}) (fun q => ([],[])) ?_ ?_
 ·refine a3s (X:={q:Nat // a0l D (B.drop q) q = some p24}) (fun q => ([(0,(.lst 2 (B.map l7))),(1,(.fn kf_f_2 cf_f_2)),(7,(.I (B.length:Int))),(8,(.I (q.1:Int)))],[])) (fun q => B.length - q.1) ⟨0,hb1⟩ ⟨[],[],_,_,rfl,rfl,⟨.r,⟨.of_eq (congrArg (AV.fn _) (hrf_f_2 _)),⟨.r,⟨.r,tr⟩⟩⟩⟩,.r⟩ ?_
  rintro ⟨A,hc1⟩
  dsimp only at hc1 ⊢
  rcases a6v B A with ⟨hie27,hd30⟩ | ⟨hlt25,F,hx26,hd30⟩
  ·rw [hd30,a0l.eq_1] at hc1
   refine gq 1 ?_;refine o8<|wg (dlf hie27)<|le ?_;cases hc1;exact kk ⟨_,rfl⟩ []
  ·rw [hd30,a0l.eq_2] at hc1
   refine gq 1 ?_;refine o8<|wt (dlt hlt25)<|a0v<|a0i<|o8<|a3z ?_;refine gq 2 ?_;refine o8<|a0t ?_
   obtain ⟨E,er33,hc1⟩:=ob hc1
   refine go 3 ?_;refine ia hx26 ?_;refine go 1 ?_;refine a0x (c1n (v:=(.bool E)) rfl okf_f_2 hcf_f_2 (hpf_f_2 _ _ er33) rfl .r rfl)<|a1a<|a0i ?_
   rcases oi hc1 with ⟨c34,hc1⟩ | ⟨c34,hc1⟩
   ·refine wt c34 ?_;refine gq 2 ?_;cases hc1;cases hf;exact rf
   ·refine wf c34<|a0v<|a3w<|a0i ?_;refine gd 2 ?_;exact a5p ⟨(A + 1),hc1⟩ (mul hlt25) ⟨[],[],_,_,rfl,rfl,⟨.r,⟨.of_eq (congrArg (AV.fn _) (hrf_f_2 _)),⟨.r,⟨.of_eq (congrArg (AV.int _) (a5b hlt25 hl3)),tr⟩⟩⟩⟩,.r⟩
 ·rintro ⟨_,rfl⟩
  refine gq 1 ?_;cases hf;exact rf
def c5f (a0:List a0c) (a1:Int):Option (List a0c) :=
    some (a0.filter fun x => !(x.Id == a1))
section
open Go.RowKit Go.Lib
set_option maxHeartbeats 4000000 in
set_option maxRecDepth 100000 in
theorem b2m (kf:Nat) (lb:Array Value) (v:Value) (w:World)
    (hidx:Calls Tryz.prog 178 #[v,.func (.func kf) #[] lb] w fun e w' => e = .returned (.int .i64 (-1)) ∧ Below w.heap.size w w') :
    Calls Tryz.prog 250 #[v,.func (.func kf) #[] lb] w fun e w' => e = .returned v ∧ Below w.heap.size w w':=by
  have mixed:Tryz.prog.follows .mixedOrders = true:=by kernel_rfl
  go_enter Tryz.func250,(show Tryz.f250.ntmps = 42 from rfl)
  go_wp2_with (go_at_call 178;refine hidx.mono ?_;rintro e w' ⟨rfl,hb⟩)
  go_ret
  exact ⟨rfl,hb⟩
set_option maxHeartbeats 4000000 in
set_option maxRecDepth 100000 in
theorem c1s (kf:Nat) (lb:Array Value) (eg:∀ args w,(callFunc kf args).run Tryz.prog w = .ok (.enter kf args) w) (w:World) (g n c:Nat) (e:TypeId) (rest:List Value) (d:Array (Value × Value)) (kp:Nat → Bool) (k0:Nat) (hn:d.size = n) (hnc:n ≤ c) (hc:c ≤ maxLen)
    (hrow:DW w g e rest d w) (hone:∀ x ∈ d.toList,x.1.oneCell' = true ∧ x.2.oneCell' = true) (hkeep:∀ j,j < k0 → kp j = true) (hdrop:kp k0 = false) (hk0:k0 < n)
    (hidx:Calls Tryz.prog 178 #[.slice (some ⟨g,0,none⟩) n c,.func (.func kf) #[] lb] w fun e w' => e = .returned (.int .i64 k0) ∧ Below w.heap.size w w')
    (hcall:∀ (W:World) (dk:Array (Value × Value)) (j:Nat),j < n → DW w g e rest dk W → Calls Tryz.prog kf (#[.agg #[(d[j]!).1,(d[j]!).2]] ++ lb) W fun e w' => e = .returned (.bool (!kp j)) ∧ Below W.heap.size W w')
    (hcl:∀ (W:World) (dk:Array (Value × Value)) (i:Nat),i < n → dk.size = n → DW w g e rest dk W → ∃ dk' W2,(∀ ty,(Builtin.clear_ #[34] ty #[.slice (some ⟨g,i * 2,none⟩) (n - i) (c - i)]).run Tryz.prog W = .ok (.tuple #[]) W2) ∧ DW w g e rest dk' W2 ∧ dk'.size = n ∧ dk'.toList.take i = dk.toList.take i) :
    Calls Tryz.prog 250 #[.slice (some ⟨g,0,none⟩) n c,.func (.func kf) #[] lb] w fun e' w' =>
      e' = .returned (.slice (some ⟨g,0,none⟩) (keptUpTo kp d n).length c) ∧ ∃ dk,DW w g e rest dk w' ∧ dk.size = n ∧ dk.toList.take (keptUpTo kp d n).length = keptUpTo kp d n:=by
  have mixed:Tryz.prog.follows .mixedOrders = true:=by kernel_rfl
  have hc63:c ≤ 9223372036854775807:=by unfold maxLen at hc;omega
  have hne1:((k0:Int) == -1) = false:=beq_eq_false_iff_ne.2 (by omega)
  have HC:Aside _:=hcall
  have HCL:Aside _:=hcl
  have HO:Aside _:=hone
  have H0:Aside _:=hrow
  clear hcall hcl hone hrow
  go_enter Tryz.func250,(show Tryz.f250.ntmps = 42 from rfl)
  go_wp2_with (go_at_call 178;refine hidx.mono ?_;rintro e w' ⟨rfl,hb0⟩)
  have D0:Aside (DW w g e rest d w'):=H0.out.below hb0
  clear hb0
  go_loopg [5,6,7] n (fun gg s5 s6 _ wr => ∃ (i j:Nat) (dk:Array (Value × Value)),s5 = .int .i64 i ∧ s6 = .int .i64 j ∧ j ≤ n ∧ n - j ≤ gg ∧ Aside (DW w g e rest dk wr) ∧ Aside (KeptInv kp d j i dk))
  case atStart => exact ⟨k0,k0 + 1,d,rfl,by go_num,by omega,by omega,D0,KeptInv.start hkeep hdrop⟩
  case round =>
    obtain ⟨i,j,dk,rfl,rfl,hjd,hgg,S1,I⟩:=hrel
    have hij:=I.out.lt
    have hds:=I.out.size
    by_cases hlt:j < n
    · have hltz:(j:Int) < (n:Int):=by omega
      obtain ⟨c1,c2⟩:=S1.out.cells j (by omega)
      rw [I.out.high j (by omega)] at c1 c2
      have hm:d[j]! ∈ d.toList:=by rw [getElem!_pos d j (by omega)];simp
      obtain ⟨o1,o2⟩:=HO.out _ hm
      have X:Aside (d[j]! = ((d[j]!).1,(d[j]!).2)):=rfl
      clear hm
      generalize (d[j]!).1 = x1 at c1 c2 o1 o2 X
      generalize (d[j]!).2 = x2 at c1 c2 o1 o2 X
      have st1:∀ a m W,Sem.run Tryz.prog (store a x1 m) W = stored Tryz.prog W a x1 m:=fun a m W => run_store _ _ _ _ _ o1
      have st2:∀ a m W,Sem.run Tryz.prog (store a x2 m) W = stored Tryz.prog W a x2 m:=fun a m W => run_store _ _ _ _ _ o2
      have D1:Aside (DW w g e rest dk (wr.alloc (.cells #[x1,x2] 39))):=S1.out.alloc _
      have hcall:=HC.out (wr.alloc (.cells #[x1,x2] 39)) dk j hlt D1.out
      rw [X.out] at hcall
      have hsz:(wr.alloc (.cells #[x1,x2] 39)).heap.size = wr.heap.size + 1:=Array.size_push ..
      cases hq:kp j with
      | true =>
        rw [hq] at hcall
        go_wp2_with fail
        refine hcall.mono ?_
        rintro e' w2 ⟨rfl,hb⟩
        have D2:Aside (DW w g e rest dk w2):=D1.out.below hb
        have b1:w2.cell? ⟨wr.heap.size,0,none⟩ = some x1:=by
          rw [hb.cell (p:=⟨wr.heap.size,0,none⟩) (by rw [hsz];exact Nat.lt_succ_self _)]
          exact (World.cell?_alloc_at (w:=wr) _ _ _ _ rfl).trans rfl
        have b2:w2.cell? ⟨wr.heap.size,1,none⟩ = some x2:=by
          rw [hb.cell (p:=⟨wr.heap.size,1,none⟩) (by rw [hsz];exact Nat.lt_succ_self _)]
          exact (World.cell?_alloc_at (w:=wr) _ _ _ _ rfl).trans rfl
        obtain ⟨i1,i2⟩:=D2.out.cells i (by omega)
        have f1:=D2.out.frozen (i * 2)
        have f2:=D2.out.frozen (i * 2 + 1)
        have D3:Aside _:=D2.out.put i (by omega) x1 x2
        generalize (dk[i]!).1 = y1 at i1
        generalize (dk[i]!).2 = y2 at i2
        clear hb hcall hsz c1 c2 D1 D2
        generalize wr.heap.size = bx at b1 b2 ⊢
        have hin:(i:Int) < (n:Int):=by omega
        go_wp2_with fail
        go_roundg (n - (j + 1))
        case measure => omega
        case rel =>
          have hk:=I.out.keep (by omega) hq
          rw [X.out] at hk
          exact ⟨i + 1,j + 1,dk.setIfInBounds i (x1,x2),by go_num,by go_num,by omega,Nat.le_refl _,D3,hk⟩
      | false =>
        rw [hq] at hcall
        go_wp2_with (refine hcall.mono ?_;rintro e' w2 ⟨rfl,hb⟩)
        go_roundg (n - (j + 1))
        case measure => omega
        case rel => exact ⟨i,j + 1,dk,rfl,by go_num,by omega,Nat.le_refl _,D1.out.below hb,I.out.skip hq⟩
    · have hjn:j = n:=by omega
      subst hjn
      have hltz:¬ (j:Int) < (j:Int):=by omega
      have hin:(i:Int) ≤ (j:Int):=by omega
      have hin2:i ≤ j:=by omega
      have hic:(i:Int) ≤ (c:Int):=by omega
      have hicn:i ≤ c:=by omega
      have hci:¬ c = i:=by omega
      obtain ⟨d',W2,hc1,hd,hs,ht⟩:∃ d' W2,(∀ ty,(Builtin.clear_ #[34] ty #[.slice (some ⟨g,i * 2,none⟩) (j - i) (c - i)]).run Tryz.prog wr = .ok (.tuple #[]) W2) ∧ DW w g e rest d' W2 ∧ d'.size = j ∧ d'.toList.take i = dk.toList.take i:=HCL.out wr dk i hij (by omega) S1.out
      have D:Aside (DW w g e rest d' W2 ∧ d'.size = j ∧ d'.toList.take i = dk.toList.take i):=⟨hd,hs,ht⟩
      clear hd hs ht
      go_wp2_with fail
      go_ret
      have hl:=I.out.len
      refine ⟨by rw [hl];rfl,d',D.out.1,D.out.2.1,?_⟩
      rw [hl,D.out.2.2]
      apply List.ext_getElem?
      intro t
      by_cases htt:t < i
      · rw [List.getElem?_take_of_lt htt,I.out.low t htt,getElem!_pos dk t (by omega)]
        simp
      · rw [List.getElem?_eq_none (by rw [List.length_take];omega),List.getElem?_eq_none (by omega)]
theorem c1t:∃ i:TypeInfo,Tryz.prog.info? 39 = some i ∧ i.size = 2 ∧ i.bytes = 32 ∧ i.zero = some (.agg #[.int .i64 0,.slice none 0 0]):=f0v (by kernel_rfl)
theorem c3x:Tryz.prog.underlying 34 = some (.slice 39):=by kernel_rfl
theorem b6c (id:Int):∀ (xs:List a0c) (s:Nat),(a0l (fun x => a6e x id) xs s = some (.go ()) ∧ ∀ x ∈ xs,(x.Id == id) = false) ∨
    ∃ k,k < xs.length ∧ a0l (fun x => a6e x id) xs s = some (.ret ((s + k:Nat):Int)) ∧ (∀ (j:Nat) x,j < k → xs[j]? = some x → (x.Id == id) = false) ∧ ∀ x,xs[k]? = some x → (x.Id == id) = true
  | [],s => .inl ⟨rfl,by simp⟩
  | x :: xs,s => by
    cases hx:(x.Id == id) with
    | true =>
      refine .inr ⟨0,by simp,?_,fun j y hj => by omega,fun y hy => by simp at hy;rw [← hy];exact hx⟩
      rw [a0l]
      simp only [a6e,Option.bind_some,hx,if_true]
      rfl
    | false =>
      have e:a0l (fun x => a6e x id) (x :: xs) s = a0l (fun x => a6e x id) xs (s + 1):=by
        rw [a0l]
        simp only [a6e,Option.bind_some,hx]
        rfl
      rw [e]
      rcases b6c id xs (s + 1) with ⟨h1,h2⟩ | ⟨k,h1,h2,h3,h4⟩
      · refine .inl ⟨h1,fun y hy => ?_⟩
        rcases List.mem_cons.1 hy with rfl | hy
        · exact hx
        · exact h2 y hy
      · refine .inr ⟨k + 1,by simpa using h1,by rw [h2];congr 2;omega,?_,fun y hy => h4 y (by simpa using hy)⟩
        intro j y hj hy
        rcases j with _ | j
        · simp at hy;rw [← hy];exact hx
        · exact h3 j y (by omega) (by simpa using hy)
set_option maxHeartbeats 4000000 in
set_option maxRecDepth 100000 in
theorem b0z (w:World) (v:Value) (id:Int) (R:Value → World → Prop)
    (h:Calls Tryz.prog 250 #[v,.func (.func 251) #[] #[.pointer (some ⟨w.heap.size,0,none⟩)]] (w.alloc (.cells #[.int .i64 id] 3)) fun e w' => ∃ r,e = .returned r ∧ R r w') :
    Calls Tryz.prog 151 #[v,.int .i64 id] w fun e w' => ∃ r,e = .returned r ∧ R r w':=by
  have mixed:Tryz.prog.follows .mixedOrders = true:=by kernel_rfl
  go_enter Tryz.func151,(show Tryz.f151.ntmps = 8 from rfl)
  go_wp2_with (go_at_call 250;refine h.mono ?_;rintro e w' ⟨r,rfl,hr⟩)
  go_ret
  exact ⟨_,rfl,hr⟩
set_option maxHeartbeats 4000000 in
set_option maxRecDepth 100000 in
theorem b9n (dm:Md) (xs:List a0c) (id:Int):a1l Tryz.prog dm 151 [.own 0 0 xs.length,.int .i64 id] [.row 2 (xs.map l7)] (.own 1 0 (xs.filter fun x => !(x.Id == id)).length) [.dead,.row 2 ((xs.filter fun x => !(x.Id == id)).map l7)]:=by
  intro C σ φ w vals _ _ hok hb hr hv
  simp only [RVs] at hv
  obtain ⟨v1,_,rfl,h1,v2,_,rfl,h2,rfl⟩:=hv
  have e2:v2 = .int .i64 id:=by simpa only [RV] using h2
  subst e2
  obtain ⟨ti,hti,hts,htb,htz⟩:=c1t
  have hsz:(w.alloc (.cells #[.int .i64 id] 3)).heap.size = w.heap.size + 1:=Array.size_push ..
  have hbel:Below w.heap.size w (w.alloc (.cells #[.int .i64 id] 3)):=(Below.refl _ _).alloc (Nat.le_refl _) _
  have hbx:(w.alloc (.cells #[.int .i64 id] 3)).heap[w.heap.size]? = some (.cells #[.int .i64 id] 3 (0,0)):=by
    show (w.heap.push _)[w.heap.size]? = _
    rw [Array.getElem?_push,if_pos rfl]
  have hcap:∀ W,W.heap[w.heap.size]? = some (.cells #[.int .i64 id] 3 (0,0)) → Rep false W (.iptr (.int .i64 id) 0) [.pointer (some ⟨w.heap.size,0,none⟩)] [w.heap.size]:=by
    intro W hW
    simp only [Rep]
    exact ⟨w.heap.size,0,1,_,_,_,[],rfl,hW,rfl,rfl,rfl,rfl⟩
  have hfn:∀ W,W.heap[w.heap.size]? = some (.cells #[.int .i64 id] 3 (0,0)) → Rep false W (.fn 251 [.iptr (.int .i64 id) 0]) [.func (.func 251) #[] #[.pointer (some ⟨w.heap.size,0,none⟩)]] [w.heap.size]:=by
    intro W hW
    simp only [Rep,a0z]
    exact ⟨_,rfl,_,[],[w.heap.size],[],rfl,hcap W hW,⟨rfl,rfl⟩,rfl⟩
  have hidx:∀ r,a2a xs (fun x => a6e x id) = some r → ∀ fp,b5a false (w.alloc (.cells #[.int .i64 id] 3)) (.lst 2 (xs.map l7)) v1 fp →
      Calls Tryz.prog 178 #[v1,.func (.func 251) #[] #[.pointer (some ⟨w.heap.size,0,none⟩)]] (w.alloc (.cells #[.int .i64 id] 3)) fun e w' => e = .returned (.int .i64 r) ∧ Below (w.alloc (.cells #[.int .i64 id] 3)).heap.size (w.alloc (.cells #[.int .i64 id] 3)) w':=by
    intro r hr0 fp hfp
    have hc:=b1r xs (fun x => a6e x id) r hr0 251 [.iptr (.int .i64 id) 0] (by kernel_rfl) (fun _ _ => rfl) (fun _ => rfl) (fun x r h => w_impl_drop_1 x id r h)
    have:=hc (w.alloc (.cells #[.int .i64 id] 3)) [v1,.func (.func 251) #[] #[.pointer (some ⟨w.heap.size,0,none⟩)]] (fp ++ [w.heap.size]) (by
      obtain ⟨cs,rfl,hcs⟩:=hfp
      simp only [a0z]
      exact ⟨cs,_,fp,[w.heap.size],rfl,hcs,⟨_,[],[w.heap.size],[],rfl,hfn _ hbx,⟨rfl,rfl⟩,rfl⟩,rfl⟩)
    refine this.mono ?_
    intro e w' he
    cases e with
    | returned v =>
      obtain ⟨q1,cs,rfl,q2⟩:=he
      simp only [Rep] at q2
      obtain ⟨rfl,_⟩:=q2
      exact ⟨rfl,q1⟩
    | panicked _ => exact he.elim
    | outgrown => exact he.elim
  rcases f0t hr rfl h1 (by simp) with ⟨rfl,hl,hs0,hp0⟩ | ⟨g,c,cur,e,hσ,rfl,hnc,hcm,hg,hcs,hrep⟩
  · have hx:xs = []:=by simpa using hl
    subst hx
    have hi:=hidx (-1) rfl [] ⟨_,rfl,by simp only [Rep,List.map_nil];exact .inl ⟨trivial,trivial,none,0,rfl,Nat.zero_le _,fun _ => ⟨rfl,rfl⟩⟩⟩
    refine (b0z w _ id (fun r w' => r = .slice none 0 0 ∧ Below (w.alloc (.cells #[.int .i64 id] 3)).heap.size (w.alloc (.cells #[.int .i64 id] 3)) w') ((b2m 251 _ _ _ hi).mono (fun e w' h => ⟨_,h.1,rfl,h.2⟩))).mono ?_
    rintro e' w' ⟨r,rfl,rfl,hb1⟩
    have hb2:Below w.heap.size w w':=hbel.trans (hb1.mono (by omega))
    obtain ⟨σ',φ',k1,k2,k3⟩:=f0x hr hb2
    refine ⟨σ',φ',k1,k2.x,?_,hb2.mono ?_⟩
    · simp only [List.filter_nil,List.map_nil,List.length_nil,RV,List.getElem?_cons_succ,List.getElem?_cons_zero]
      exact ⟨none,0,rfl,by simp,Nat.zero_le _,Nat.zero_le _,by rw [k3];exact ⟨rfl,rfl⟩⟩
    · exact (hb _ (Nat.le_refl _)).1
  · have hlen:=hrep.length
    rw [List.length_map] at hlen
    have hcl:cur.toList.length = c * 2:=by rw [← hcs];simp
    have hgl:g < w.heap.size:=by
      rcases Nat.lt_or_ge g w.heap.size with h | h
      · exact h
      · rw [Array.getElem?_eq_none h] at hg;cases hg
    have hge:C.mine g:=hr.base 0 _ g c rfl rfl hσ
    have hCb:C.base ≤ w.heap.size:=(hb _ (Nat.le_refl _)).1
    obtain ⟨d,hd1,hd2⟩:=e0k xs.length (cur.toList.take (xs.length * 2)) (by rw [List.length_take];omega)
    obtain ⟨rest,hrest⟩:∃ rest,rest = cur.toList.drop (xs.length * 2):=⟨_,rfl⟩
    have hcur:cur.toList = fl2 d ++ rest:=by rw [← hd2,hrest,List.take_append_drop]
    have D0:DW w g e rest d.toArray w:=⟨rfl,rfl,rfl,Nat.le_refl _,fun _ _ _ => rfl,hgl,by rw [hg];congr 2;rw [← hcur]⟩
    have D1:DW (w.alloc (.cells #[.int .i64 id] 3)) g e rest d.toArray (w.alloc (.cells #[.int .i64 id] 3)) :=
      ⟨rfl,rfl,rfl,Nat.le_refl _,fun _ _ _ => rfl,by rw [hsz];omega,(D0.alloc _).row⟩
    have hrepd:a0e C.dm w 2 (xs.map l7) (fl2 d) (φ 0):=a0e.congr (by rw [List.length_map,← hd2,List.take_take,Nat.min_self]) hrep
    have hphi:∀ b ∈ φ 0,b < w.heap.size ∧ b ≠ g:=fun b hb' => ⟨a0e.lt _ _ _ hrep b hb',b9f hr rfl hb' rfl rfl hσ⟩
    have hlst:b5a false (w.alloc (.cells #[.int .i64 id] 3)) (.lst 2 (xs.map l7)) (.slice (some ⟨g,0,none⟩) xs.length c) (g :: φ 0):=by
      refine ⟨[.slice (some ⟨g,0,none⟩) xs.length c],rfl,?_⟩
      simp only [Rep]
      refine .inr ⟨g,0,c,cur,e,(0,0),φ 0,by rw [List.length_map],by rw [List.length_map];exact hnc,hcm,by rw [hbel.block g hgl];exact hg,by simp,rfl,by decide,?_⟩
      exact a0e.weak _ _ _ (a0e.world (w:=w) _ _ _ (fun b hb' => hbel.block b (hphi b hb').1) (by simpa using hrep))
    have base:∀ w',DW (w.alloc (.cells #[.int .i64 id] 3)) g e rest d.toArray w' ∨ True → True:=fun _ _ => trivial
    have fin:∀ (w':World) (dk:List (Value × Value)) (xs':List a0c) (f:List Nat),DW (w.alloc (.cells #[.int .i64 id] 3)) g e rest dk.toArray w' → dk.length = xs.length → xs'.length ≤ xs.length → a0e C.dm w 2 (xs'.map l7) (fl2 (dk.take xs'.length)) f → List.Sublist f (φ 0) →
        ∃ σ' φ',o9 C σ' φ' [.dead,.row 2 (xs'.map l7)] w' ∧ EvX C σ [.row 2 (xs.map l7)] w σ' [.dead,.row 2 (xs'.map l7)] w' ∧ RV C σ' [.dead,.row 2 (xs'.map l7)] w' (.own 1 0 xs'.length) (.slice (some ⟨g,0,none⟩) xs'.length c) ∧ Below C.base w w':=by
      intro w' dk xs' f D hdk hx' hf hsub
      have hblk:∀ b,b < w.heap.size → b ≠ g → w'.heap[b]? = w.heap[b]?:=fun b hb' hbg => (D.block b (by rw [hsz];omega) hbg).trans (hbel.block b hb')
      have hdl:dk.length ≤ c:=by omega
      have hcs':(fl2 dk ++ rest).toArray.size = c * 2:=by
        have:(fl2 d ++ rest).length = c * 2:=by rw [← hcur];exact hcl
        rw [List.size_toArray,List.length_append,b0c,hdk,← hd1,← b0c,← List.length_append,this]
      obtain ⟨σ',φ',k1,k2,k3⟩:=f0u (w':=w') (l':=xs'.map l7) hr (Nat.le_trans (by rw [hsz];omega) D.size) hσ hcm hblk D.row hcs' hsub hf (by
        rw [List.length_map]
        simp only [List.toList_toArray]
        rw [← d0x _ _ (by omega),List.take_take,Nat.min_self,List.take_append_of_le_length (by rw [b0c];omega)])
      refine ⟨σ',φ',k1,k2.x,?_,⟨D.os,D.tape,D.output,Nat.le_trans (by rw [hsz];omega) D.size,fun k hk => hblk k (by omega) (by have:=hge.1;omega)⟩⟩
      simp only [RV,List.getElem?_cons_succ,List.getElem?_cons_zero]
      exact ⟨_,c,rfl,by rw [List.length_map];omega,by omega,hcm,by rw [k3];simp⟩
    have hidx178:=b6c id xs 0
    rcases hidx178 with ⟨q1,q2⟩ | ⟨k,q0,q1,q2,q3⟩
    · have hi:=hidx (-1) (by unfold a2a;rw [q1];rfl) _ hlst
      refine (b0z w _ id (fun r w' => r = .slice (some ⟨g,0,none⟩) xs.length c ∧ Below (w.alloc (.cells #[.int .i64 id] 3)).heap.size (w.alloc (.cells #[.int .i64 id] 3)) w') ((b2m 251 _ _ _ hi).mono (fun e w' h => ⟨_,h.1,rfl,h.2⟩))).mono ?_
      rintro e' w' ⟨r,rfl,rfl,hb1⟩
      have hfe:(xs.filter fun x => !(x.Id == id)) = xs:=List.filter_eq_self.2 (fun x hx => by rw [q2 x hx];rfl)
      rw [hfe]
      exact fin w' d xs (φ 0) (D1.below hb1) hd1 (Nat.le_refl _) (by rw [← hd1,List.take_length];exact hrepd) (List.Sublist.refl _)
    · obtain ⟨kp,hkp⟩:∃ kp:Nat → Bool,kp = fun j => !((xs[j]?).map (fun x => x.Id == id)).getD false:=⟨_,rfl⟩
      have hkx:∀ (j:Nat) x,xs[j]? = some x → kp j = !(x.Id == id):=fun j x hj => by rw [hkp];simp only [hj,Option.map_some,Option.getD_some]
      have hkg:∀ j (hj:j < xs.length),kp j = !(xs[j].Id == id):=fun j hj => hkx j _ (List.getElem?_eq_getElem hj)
      have hi:=hidx (k:Int) (by unfold a2a;rw [q1,Nat.zero_add];rfl) _ hlst
      obtain ⟨f,hf1,hf2⟩:=d0y (xs.map l7) d (φ 0) kp (by rw [List.length_map,hd1]) hrepd
      rw [← c3r (fun x => !(x.Id == id)) xs kp hkx] at hf1
      have hkept:keptUpTo kp d.toArray d.toArray.size = ((List.range d.length).filter kp).map (d.toArray[·]!):=by unfold keptUpTo;rw [List.size_toArray]
      have hkl:(keptUpTo kp d.toArray d.toArray.size).length = (xs.filter fun x => !(x.Id == id)).length:=by
        rw [hkept,List.length_map]
        have:=congrArg List.length (c3r (enc:=l7) (fun x => !(x.Id == id)) xs kp hkx)
        rw [List.length_map,List.length_map,List.length_map] at this
        rw [this,hd1]
      have hdel:=c1s 251 #[.pointer (some ⟨w.heap.size,0,none⟩)] (enters_of Tryz.func251 (by kernel_rfl) rfl) (w.alloc (.cells #[.int .i64 id] 3)) g xs.length c e rest d.toArray kp k (by rw [List.size_toArray,hd1]) hnc hcm D1
        (by
          have h1c:=a0e.oneCell hrepd
          rw [List.length_map,← hd1,← b0c,List.take_length] at h1c
          intro x hx
          simp only [List.toList_toArray] at hx
          refine ⟨h1c _ ?_,h1c _ ?_⟩ <;> exact List.mem_flatMap.2 ⟨x,hx,by simp⟩)
        (fun j hj => by rw [hkg j (by omega),q2 j _ hj (List.getElem?_eq_getElem (by omega))];rfl)
        (by rw [hkg k q0,q3 _ (List.getElem?_eq_getElem q0)];rfl) q0 hi
        (by
          intro W dk j hj DWk
          have hxj:(xs.map l7)[j]? = some (l7 xs[j]):=by rw [List.getElem?_map,List.getElem?_eq_getElem hj];rfl
          obtain ⟨fj,r1,r2,r3⟩:=hrepd.get hxj
          have hjd:j < d.length:=by omega
          have hdj:d.toArray[j]! = d[j]:=by rw [getElem!_pos d.toArray j (by simpa using hjd)];simp
          rw [c5a d j hjd] at r1
          have r1':Rep false W (l7 xs[j]) [d[j].1,d[j].2] fj:=Rep.weak _ _ _ (Rep.world (w:=w) _ _ _ (fun b hb' => (DWk.block b (by rw [hsz];have:=(hphi b (r2 b hb')).1;omega) (hphi b (r2 b hb')).2).trans (hbel.block b (hphi b (r2 b hb')).1)) r1)
          have hbW:W.heap[w.heap.size]? = some (.cells #[.int .i64 id] 3 (0,0)):=(DWk.block _ (by rw [hsz];omega) (by omega)).trans hbx
          have hc:=w_impl_drop_1 xs[j] id (xs[j].Id == id) rfl W [.agg #[d[j].1,d[j].2],.pointer (some ⟨w.heap.size,0,none⟩)] (fj ++ [w.heap.size]) (by
            simp only [a0z]
            exact ⟨_,_,fj,[w.heap.size],rfl,r1',⟨_,[],[w.heap.size],[],rfl,hcap W hbW,⟨rfl,rfl⟩,rfl⟩,rfl⟩)
          rw [hdj]
          refine hc.mono ?_
          intro e w' he
          cases e with
          | returned v =>
            obtain ⟨q1,cs,rfl,q2⟩:=he
            simp only [Rep] at q2
            obtain ⟨rfl,_⟩:=q2
            exact ⟨by rw [hkg j hj,Bool.not_not];rfl,q1⟩
          | panicked _ => exact he.elim
          | outgrown => exact he.elim)
        (by
          intro W dk i hi hn' DWk
          have hrs:(fl2 dk.toList ++ rest).toArray.size = c * 2:=by
            have:(fl2 d ++ rest).length = c * 2:=by rw [← hcur];exact hcl
            have h2:dk.toList.length = d.length:=by rw [Array.length_toList,hn',hd1]
            rw [List.size_toArray,List.length_append,b0c,h2,← b0c,← List.length_append,this]
          have hclr:=fun ty => c0c (P:=Tryz.prog) W 34 ty 39 ti _ g (i * 2) (xs.length - i) (c - i) _ e c3x hti htz (by rw [hts];rfl) (by decide) DWk.row (by omega) (by rw [hts,hrs,← Nat.add_mul];exact Nat.mul_le_mul_right _ (by omega))
          simp only [hts,List.toList_toArray] at hclr
          obtain ⟨dk',g1,g2,g3⟩:=DWk.clear i xs.length (by omega) hn' (Builtin.zeroCells (Value.agg #[.int .i64 0,.slice none 0 0]).cells (xs.length - i)).toList (by rw [Array.length_toList,size_zeroCells];rfl)
          exact ⟨dk',_,hclr,g1,g2,g3⟩)
      refine (b0z w _ id (fun r w' => r = .slice (some ⟨g,0,none⟩) (keptUpTo kp d.toArray d.toArray.size).length c ∧ ∃ dk,DW (w.alloc (.cells #[.int .i64 id] 3)) g e rest dk w' ∧ dk.size = xs.length ∧ dk.toList.take (keptUpTo kp d.toArray d.toArray.size).length = keptUpTo kp d.toArray d.toArray.size) (hdel.mono (fun e w' h => by
        obtain ⟨h1,h2⟩:=h
        rw [show xs.length = d.toArray.size by rw [List.size_toArray,hd1]] at h1 h2 ⊢
        exact ⟨_,h1,rfl,h2⟩))).mono ?_
      rintro e' w' ⟨r,rfl,rfl,dk,g1,g2,g3⟩
      rw [hkl] at g3 ⊢
      refine fin w' dk.toList _ f (by simpa using g1) (by simpa using g2) (List.length_filter_le _ _) ?_ hf2
      rw [g3,hkept]
      exact hf1
end
theorem d1m (a0:List a0c) (a1:Int) (r:List a0c) (hf:c5f a0 a1 = some r):a1l Tryz.prog true 151 [.own 0 0 a0.length,.int .i64 a1] [.row 2 (a0.map l7)] (.own 1 0 r.length) [.dead,.row 2 (r.map l7)]:=by
  unfold c5f at hf
  cases hf
  exact b9n true a0 a1
def bare (ids:List (List Int)):a0h:=⟨ids.map (List.map fun n => ⟨n,[]⟩),0⟩
def b7e (s:a0b) (x:a0h):Option a0h :=
    (c9q (s.Tables.map b7c) (fun ts => (a8d ⟨ts.map (List.map gRow),x.Next⟩).bind fun y => if y.Next = x.Next then some (y.Tables.map (List.map b7j)) else none) (fun ts i id => a5h s ⟨ts.map (List.map gRow),x.Next⟩ (i:Int) id) (fun rf => a1p s rf) (fun ids f N => a2l (bare ids) f N) (x.Tables.map (List.map b7j))).bind fun r =>
    some (⟨r.map (List.map gRow),x.Next⟩:a0h)
theorem e2y {a b:List a0c} (h:a.map a0c.Id = b.map a0c.Id) (m t:Int) {β:Type} (K:Int → Option β):((idx a m).bind fun x => (a3v x t).bind K) = ((idx b m).bind fun x => (a3v x t).bind K):=by
  have h1:(idx a m).map a0c.Id = (idx b m).map a0c.Id:=by
    unfold idx
    split
    · rw [← List.getElem?_map,h,List.getElem?_map]
    · rfl
  cases e1:idx a m with
  | none => cases e2:idx b m with
    | none => rfl
    | some y => rw [e1,e2] at h1;cases h1
  | some x => cases e2:idx b m with
    | none => rw [e1,e2] at h1;cases h1
    | some y =>
      rw [e1,e2] at h1
      simp only [Option.map_some,Option.some.injEq] at h1
      simp only [Option.bind_some,a3v,h1]
theorem e8k {a b:List a0c} (h:a.map a0c.Id = b.map a0c.Id) (t:Int):∀ (k:Nat) (i j:Int),a0d a a3v t k i j = a0d b a3v t k i j
  | 0,_,_ => rfl
  | k + 1,i,j => by simp only [a0d.eq_2,e8k h t k,e2y h]
theorem e4i {a b:List a0c} (h:a.map a0c.Id = b.map a0c.Id) (t:Int):b0y a t = b0y b t:=by
  have hl:a.length = b.length:=by have:=congrArg List.length h;simpa using this
  unfold b0y a1c
  simp only [hl,e8k h,e2y h]
theorem d1n (ts:List (List a0r)) (n f N:Int):a2l (bare (b1y ts)) f N = a2l ⟨ts.map (List.map gRow),n⟩ f N:=by
  unfold a2l bare
  have h:∀ m:Int,idx ((b1y ts).map (List.map fun n => (⟨n,[]⟩:a0c))) m = (idx ts m).map fun t => t.map fun r => ⟨r.1,[]⟩:=by
    intro m
    unfold idx b1y
    split
    · rw [List.map_map,List.getElem?_map];congr 1;funext t;simp
    · rfl
  have h':∀ m:Int,idx (ts.map (List.map gRow)) m = (idx ts m).map fun t => t.map gRow:=by
    intro m
    unfold idx
    split
    · rw [List.getElem?_map]
    · rfl
  simp only [h,h']
  cases idx ts f with
  | none => rfl
  | some t =>
    simp only [Option.map_some,Option.bind_some]
    rw [e4i (a:=t.map fun r => ⟨r.1,[]⟩) (b:=t.map gRow) (by simp [gRow,Function.comp_def])]
theorem d5k (s:a0b) (x:a0h) (r:a0h) (hf:b7e s x = some r):a0k Tryz.prog 111 .fresh [(a1h s),(a1j x)] (a1j r):=by
  unfold b7e at hf
  obtain ⟨q,eq,hf⟩:=ob hf
  cases hf
  have h:=f1k (nx:=x.Next) (fun ts ts' h => ?_) (fun ts i id n h => ?_) (fun t id => ?_) (fun rf f h => ?_) (fun ts f N b h => ?_) eq
  · rw [← c6y,← d5j,← c3w] at h
    exact h
  · obtain ⟨y,ey,h⟩:=ob h
    split at h
    · rename_i hn
      cases h
      have:=c6z _ _ ey
      rw [c3w] at this
      obtain ⟨yt,yn⟩:=y
      simp only at hn
      subst hn
      rw [d5j] at this
      exact this
    · cases h
  · have:=w_impl_strongCount _ _ _ _ _ h
    rw [c6y,c3w] at this
    exact this
  · have:=d1m (t.map gRow) id _ rfl
    have e:∀ l:List a0r,(l.map gRow).map l7 = l.map b0l:=fun l => by have:=e0w l;unfold a8n at this;exact (AV.lst.inj this).2.symm
    have e2:((t.map gRow).filter fun x => !(x.Id == id)) = (t.filter fun r => !(r.1 == id)).map gRow:=by rw [List.filter_map];rfl
    rw [e2,e,e] at this
    simpa using this
  · have:=w_impl_Schema_tableAt _ _ _ h
    rw [c6y] at this
    exact this
  · rw [d1n ts x.Next] at h
    have:=w_impl_Store_hasRow _ _ _ _ h
    rw [c3w] at this
    exact this
def b4t (B:a0b) (D:a0h):Option (a0h × Int) :=
    (b0x B D).bind fun E =>
    if (!E) then
    some ((⟨[],0⟩:a0h),1)
    else
    (b7e B D).bind fun A =>
    some (A,0)
theorem b4k (B:a0b) (D:a0h) (r:(a0h × Int)) (hf:b4t B D = some r):a0k Tryz.prog 35 .fresh [(a1h B),(a1j D)] (.tup [(a1j r.1),(.I r.2)]):=by
 unfold b4t at hf;refine co [] Tryz.func35 ?_;refine sr<|bx ?_;refine bx ?_;refine bx ?_;refine gq 1 ?_;refine o8<|o8<|a0t ?_
 obtain ⟨E,er4,hf⟩:=ob hf
 refine go 2 ?_;refine cl (w_impl_storeFits _ _ _ er4) ?_;refine gq 1 ?_
 rcases oi hf with ⟨c5,hf⟩ | ⟨c5,hf⟩
 ·refine wt c5<|sr<|s_q (.agg [.nil,(.I 0)]) rfl tr rfl<|sb ?_;refine gq 1 ?_;refine a2q ?_;cases hf;exact a4n ⟨nle,⟨tr,tr⟩⟩ rfl (by decide) (.tup (.cons (.agg (.cons (.nil _) (.cons .r .nil))) (.cons .r .nil)))
 ·refine wf c5<|a0v<|a0i<|o8<|a0t ?_
  obtain ⟨A,er7,hf⟩:=ob hf
  refine go 2 ?_;refine a0x (a2r (v:=(.agg [(.own 3 0 A.Tables.length),(.I A.Next)])) (h':=[.row 1 (A.Tables.map (a0m 2 l7))]) (d5k _ _ _ er7) rfl .r (by simp only [a1u,a1w,List.length_map,a1x,List.nil_append,List.append_nil,List.cons_append];rfl))<|sb ?_;refine go 1 ?_
  refine dk<|a2q ?_;cases hf;exact a4n ⟨nle,⟨tr,tr⟩⟩ rfl (by decide) (.tup (.cons (.agg (.cons (.of_eq (congrArg (AV.lst _) (tk (enc:=(a0m 2 l7)) A.Tables))) (.cons .r .nil))) (.cons .r .nil)))
def b5p (A:y7) (B:y7):Option Bool :=
    if (A.Kind != B.Kind) then
    some false
    else
    if (A.N != B.N) then
    some false
    else
    if (!(A.T == B.T)) then
    some false
    else
    some true
instance w_laws_eqAtom (A:y7) (B:y7) (r:Bool):Wk Tryz.prog (b5p A B = some r) 289 [(y8 A),(y8 B)] (.bool r):=⟨fun hf => by
 unfold b5p at hf;refine coA [] [] Tryz.func289 ?_;exact W⟩
def a9l (A:(List y7)):List y7 → Nat → Option (Fl Bool Unit)
  | [],D =>
    some (.go ())
  | E :: xs,D =>
    (idx A (D:Int)).bind fun F =>
    (b5p E F).bind fun G =>
    if (!G) then
    some (.ret false)
    else
    a9l A xs (D + 1)
def b4l (B:(List y7)) (A:(List y7)):Option Bool :=
    if ((B.length:Int) != (A.length:Int)) then
    some false
    else
    (a9l A B 0).bind fun q => (match q with
    | .ret r => some r
    | .go _ =>
    some true)
instance w_laws_eqAtomS (B:(List y7)) (A:(List y7)) (r:Bool):Wk Tryz.prog (b4l B A = some r) 201 [(.lst 3 (B.map y8)),(.lst 3 (A.map y8))] (.bool r):=⟨fun hf => by
 unfold b4l at hf;refine coA [13,31] [lI [0,1] fun i => [(5,(.I (i:Int)))],fA [] fun q:Unit => []] Tryz.func201 ?_ (sp:=[(5,[[17,24],[25,0],[26]])]);exact W⟩
def a8e (A:(List (List y7))):List (List y7) → Nat → Option (Fl Bool Unit)
  | [],D =>
    some (.go ())
  | E :: xs,D =>
    (idx A (D:Int)).bind fun F =>
    (b4l E F).bind fun G =>
    if (!G) then
    some (.ret false)
    else
    a8e A xs (D + 1)
def b2n (B:(List (List y7))) (A:(List (List y7))):Option Bool :=
    if ((B.length:Int) != (A.length:Int)) then
    some false
    else
    (a8e A B 0).bind fun q => (match q with
    | .ret r => some r
    | .go _ =>
    some true)
instance w_laws_eqAtomSS (B:(List (List y7))) (A:(List (List y7))) (r:Bool):Wk Tryz.prog (b2n B A = some r) 100 [(.lst 1 (B.map (a0m 3 y8))),(.lst 1 (A.map (a0m 3 y8)))] (.bool r):=⟨fun hf => by
 unfold b2n at hf;refine coA [13,31] [lI [0,1] fun i => [(5,(.I (i:Int)))],fA [] fun q:Unit => []] Tryz.func100 ?_ (sp:=[(5,[[17,24],[25,0],[26]])]);exact W⟩
def b7f (A:a0c) (B:a0c):Option Bool :=
    if (A.Id != B.Id) then
    some false
    else
    (b2n A.Cells B.Cells).bind fun D =>
    if (!D) then
    some false
    else
    some true
instance w_laws_eqRow (A:a0c) (B:a0c) (r:Bool):Wk Tryz.prog (b7f A B = some r) 25 [(l7 A),(l7 B)] (.bool r):=⟨fun hf => by
 unfold b7f at hf;refine coA [] [] Tryz.func25 ?_;exact W⟩
def b1a (A:(List a0c)):List a0c → Nat → Option (Fl Bool Unit)
  | [],D =>
    some (.go ())
  | E :: xs,D =>
    (idx A (D:Int)).bind fun F =>
    (b7f E F).bind fun G =>
    if (!G) then
    some (.ret false)
    else
    b1a A xs (D + 1)
def b5q (B:(List a0c)) (A:(List a0c)):Option Bool :=
    if ((B.length:Int) != (A.length:Int)) then
    some false
    else
    (b1a A B 0).bind fun q => (match q with
    | .ret r => some r
    | .go _ =>
    some true)
instance w_laws_eqRowS (B:(List a0c)) (A:(List a0c)) (r:Bool):Wk Tryz.prog (b5q B A = some r) 125 [(.lst 2 (B.map l7)),(.lst 2 (A.map l7))] (.bool r):=⟨fun hf => by
 unfold b5q at hf;refine coA [13,31] [lI [0,1] fun i => [(5,(.I (i:Int)))],fA [] fun q:Unit => []] Tryz.func125 ?_ (sp:=[(5,[[17,24],[25,0],[26]])]);exact W⟩
def a9m (A:(List (List a0c))):List (List a0c) → Nat → Option (Fl Bool Unit)
  | [],D =>
    some (.go ())
  | E :: xs,D =>
    (idx A (D:Int)).bind fun F =>
    (b5q E F).bind fun G =>
    if (!G) then
    some (.ret false)
    else
    a9m A xs (D + 1)
def b4m (B:(List (List a0c))) (A:(List (List a0c))):Option Bool :=
    if ((B.length:Int) != (A.length:Int)) then
    some false
    else
    (a9m A B 0).bind fun q => (match q with
    | .ret r => some r
    | .go _ =>
    some true)
instance w_laws_eqRowSS (B:(List (List a0c))) (A:(List (List a0c))) (r:Bool):Wk Tryz.prog (b4m B A = some r) 112 [(.lst 1 (B.map (a0m 2 l7))),(.lst 1 (A.map (a0m 2 l7)))] (.bool r):=⟨fun hf => by
 unfold b4m at hf;refine coA [13,31] [lI [0,1] fun i => [(5,(.I (i:Int)))],fA [] fun q:Unit => []] Tryz.func112 ?_ (sp:=[(5,[[17,24],[25,0],[26]])]);exact W⟩
def a7f (A:a0h) (B:a0h):Option Bool :=
    (b4m A.Tables B.Tables).bind fun D =>
    if (!D) then
    some false
    else
    if (A.Next != B.Next) then
    some false
    else
    some true
instance w_laws_eqStore (A:a0h) (B:a0h) (r:Bool):Wk Tryz.prog (a7f A B = some r) 36 [(a1j A),(a1j B)] (.bool r):=⟨fun hf => by
 unfold a7f at hf;refine coA [] [] Tryz.func36 ?_;exact W⟩
def b2o (A:x8) (B:x8):Option Bool :=
    if (!(A.Name == B.Name)) then
    some false
    else
    if (A.Kind != B.Kind) then
    some false
    else
    if (A.Min != B.Min) then
    some false
    else
    if (A.Max != B.Max) then
    some false
    else
    if (A.Low != B.Low) then
    some false
    else
    if (A.High != B.High) then
    some false
    else
    if (!(A.Ref == B.Ref)) then
    some false
    else
    if (!(A.Strong == B.Strong)) then
    some false
    else
    some true
instance w_laws_eqColumn (A:x8) (B:x8) (r:Bool):Wk Tryz.prog (b2o A B = some r) 348 [(a0f A),(a0f B)] (.bool r):=⟨fun hf => by
 unfold b2o at hf;refine coA [] [] Tryz.func348 ?_;exact W⟩
def a7g (A:(List x8)):List x8 → Nat → Option (Fl Bool Unit)
  | [],D =>
    some (.go ())
  | E :: xs,D =>
    (idx A (D:Int)).bind fun F =>
    (b2o E F).bind fun G =>
    if (!G) then
    some (.ret false)
    else
    a7g A xs (D + 1)
def b1b (B:(List x8)) (A:(List x8)):Option Bool :=
    if ((B.length:Int) != (A.length:Int)) then
    some false
    else
    (a7g A B 0).bind fun q => (match q with
    | .ret r => some r
    | .go _ =>
    some true)
instance w_laws_eqColumnS (B:(List x8)) (A:(List x8)) (r:Bool):Wk Tryz.prog (b1b B A = some r) 295 [(.lst 8 (B.map a0f)),(.lst 8 (A.map a0f))] (.bool r):=⟨fun hf => by
 unfold b1b at hf;refine coA [13,31] [lI [0,1] fun i => [(5,(.I (i:Int)))],fA [] fun q:Unit => []] Tryz.func295 ?_ (sp:=[(5,[[17,24],[25,0],[26]])]);exact W⟩
def b1c (A:(List Int)):List Int → Nat → Option (Fl Bool Unit)
  | [],D =>
    some (.go ())
  | E :: xs,D =>
    (idx A (D:Int)).bind fun F =>
    if (E != F) then
    some (.ret false)
    else
    b1c A xs (D + 1)
def b5r (B:(List Int)) (A:(List Int)):Option Bool :=
    if ((B.length:Int) != (A.length:Int)) then
    some false
    else
    (b1c A B 0).bind fun q => (match q with
    | .ret r => some r
    | .go _ =>
    some true)
instance w_laws_eqIntS (B:(List Int)) (A:(List Int)) (r:Bool):Wk Tryz.prog (b5r B A = some r) 296 [(.lst 1 (B.map encI)),(.lst 1 (A.map encI))] (.bool r):=⟨fun hf => by
 unfold b5r at hf;refine coA [13,31] [lI [0,1] fun i => [(5,(.I (i:Int)))],fA [] fun q:Unit => []] Tryz.func296 ?_;exact W⟩
def b4n (A:a0a) (B:a0a):Option Bool :=
    if (!(A.Name == B.Name)) then
    some false
    else
    (b1b A.Columns B.Columns).bind fun D =>
    if (!D) then
    some false
    else
    (b5r A.Unique B.Unique).bind fun E =>
    if (!E) then
    some false
    else
    if (!(A.Root == B.Root)) then
    some false
    else
    some true
instance w_laws_eqTable (A:a0a) (B:a0a) (r:Bool):Wk Tryz.prog (b4n A B = some r) 209 [(y9 A),(y9 B)] (.bool r):=⟨fun hf => by
 unfold b4n at hf;refine coA [] [] Tryz.func209 ?_;exact W⟩
def a8f (A:(List a0a)):List a0a → Nat → Option (Fl Bool Unit)
  | [],D =>
    some (.go ())
  | E :: xs,D =>
    (idx A (D:Int)).bind fun F =>
    (b4n E F).bind fun G =>
    if (!G) then
    some (.ret false)
    else
    a8f A xs (D + 1)
def b2p (B:(List a0a)) (A:(List a0a)):Option Bool :=
    if ((B.length:Int) != (A.length:Int)) then
    some false
    else
    (a8f A B 0).bind fun q => (match q with
    | .ret r => some r
    | .go _ =>
    some true)
instance w_laws_eqTableS (B:(List a0a)) (A:(List a0a)) (r:Bool):Wk Tryz.prog (b2p B A = some r) 113 [(.lst 4 (B.map y9)),(.lst 4 (A.map y9))] (.bool r):=⟨fun hf => by
 unfold b2p at hf;refine coA [13,31] [lI [0,1] fun i => [(5,(.I (i:Int)))],fA [] fun q:Unit => []] Tryz.func113 ?_ (sp:=[(5,[[17,24],[25,0],[26]])]);exact W⟩
def b2q (A:a0b) (B:a0b):Option Bool :=
    (b2p A.Tables B.Tables).bind fun D =>
    if (!D) then
    some false
    else
    some true
instance w_laws_eqSchema (A:a0b) (B:a0b) (r:Bool):Wk Tryz.prog (b2q A B = some r) 37 [(a1h A),(a1h B)] (.bool r):=⟨fun hf => by
 unfold b2q at hf;refine coA [] [] Tryz.func37 ?_;exact W⟩
def a4g :Nat → Int → Str → Option Str
  | 0,_,_ => none
  | k + 1,A,B =>
    if (decide (A > 0)) then
    if (e0j [IntKind.u8.wrap (w64 (48 + (A.tmod 10)))]).length + B.length ≤ maxLen then
    a4g k (w64 (A.tdiv 10)) ((e0j [IntKind.u8.wrap (w64 (48 + (A.tmod 10)))]) ++ B)
    else none
    else
    some B
def a3t (E:Int):Option Str :=
    if (decide (E ≤ 0)) then
    some [109,48]
    else
    (a4g FUEL E []).bind fun D =>
    if [109].length + D.length ≤ maxLen then
    some ([109] ++ D)
    else none
instance w_laws_markText (E:Int) (r:Str):Wk Tryz.prog (a3t E = some r) 101 [(.I E)] (.str r):=⟨fun hf => by
 unfold a3t at hf;refine co [50] Tryz.func101 ?_;refine gq 1 ?_;refine gq 2 ?_
 rcases oi hf with ⟨c2,hf⟩ | ⟨c2,hf⟩
 ·refine wt c2 ?_;refine gq 1 ?_;cases hf;exact rf
 ·refine wf c2<|a0v<|a0i ?_;refine gq 1 ?_;refine o8 ?_
  obtain ⟨D,hb1,hf⟩:=ob hf
  refine a1r ([(3,(.str D))],[]) ?_ ?_
  ·refine al (X:={q:(Nat × Int × Str) // a4g q.1 q.2.1 q.2.2 = some D}) (fun q => ([(0,(.I q.1.2.1)),(3,(.str q.1.2.2))],[])) (fun q => q.1.1) ⟨(FUEL,E,[]),hb1⟩ [] ?_
   rintro ⟨⟨k,A,B⟩,hc1⟩
   dsimp only at hc1 ⊢
   rcases k with _ | k
   ·rw [a4g.eq_1] at hc1
    cases hc1
   ·rw [a4g.eq_2] at hc1;refine gq 2 ?_
    rcases oi hc1 with ⟨c15,hc1⟩ | ⟨c15,hc1⟩
    ·refine wt c15<|a0v<|a0i<|a3z<|o8<|a0t ?_
     obtain ⟨g16,hc1⟩:=og hc1
     refine go 1 ?_;refine s_q (.I (A.tmod 10)) rfl ⟨rfl,by decide⟩ rfl<|s_q (.I (w64 (48 + (A.tmod 10)))) rfl rfl rfl<|s_q (.int .u8 (IntKind.u8.wrap (w64 (48 + (A.tmod 10))))) rfl tr rfl ?_;refine a0x (a5u (j:=0) (as':=[(.int .u8 (IntKind.u8.wrap (w64 (48 + (A.tmod 10)))))]) rfl (fun _ => by decide) ⟨rfl,tr⟩ .r rfl rfl rfl) ?_;refine a0x (e4c (l:=[IntKind.u8.wrap (w64 (48 + (A.tmod 10)))]) rfl rfl (by simp)) ?_;refine go 1 ?_;refine s_q (.str ((e0j [IntKind.u8.wrap (w64 (48 + (A.tmod 10)))]) ++ B)) rfl g16 rfl ?_;refine gq 1 ?_;refine go 1 ?_
     refine s_q (.I (w64 (A.tdiv 10))) rfl ⟨rfl,by decide⟩ rfl ?_;refine gd 1 ?_;refine a3w ?_;exact kl ⟨(k,w64 (A.tdiv 10),(e0j [IntKind.u8.wrap (w64 (48 + (A.tmod 10)))]) ++ B),hc1⟩ []
    ·refine wf c15<|le ?_;cases hc1;exact ck []
  ·refine o8<|a0t ?_
   obtain ⟨g17,hf⟩:=og hf
   refine go 1 ?_;refine s_q (.str ([109] ++ D)) rfl g17 rfl ?_;refine gq 1 ?_;cases hf;exact rf⟩
def a2s :Nat → Int → Int → (List x8) → Option (Int × (List x8))
  | 0,_,_,_ => none
  | k + 1,B,D,F =>
    if (decide (D < (F.length:Int))) then
    (a3t B).bind fun E =>
    if (0:Int) ≤ D ∧ D < (F.length:Int) then
    (F[(0 + D.toNat)]?).bind fun A =>
    if (0:Int) ≤ D ∧ D < (F.length:Int) then
    if (0:Int) ≤ D ∧ D < (F.length:Int) then
    if (0:Int) ≤ D ∧ D < (F.length:Int) then
    if (0:Int) ≤ D ∧ D < (F.length:Int) then
    if (0:Int) ≤ D ∧ D < (F.length:Int) then
    (a3t (w64 ((w64 ((w64 ((w64 ((w64 ((w64 (B + 1)) + 1)) + 1)) + 1)) + 1)) + 1))).bind fun G =>
    if (0:Int) ≤ D ∧ D < (F.length:Int) then
    if (0:Int) ≤ D ∧ D < (F.length:Int) then
    a2s k (w64 ((w64 ((w64 ((w64 ((w64 ((w64 ((w64 ((w64 (B + 1)) + 1)) + 1)) + 1)) + 1)) + 1)) + 1)) + 1)) (w64 (D + 1)) ((((((((F.set (0 + D.toNat) (⟨E,A.Kind,A.Min,A.Max,A.Low,A.High,A.Ref,A.Strong⟩:x8)).set (0 + D.toNat) (⟨E,w64 (B + 1),A.Min,A.Max,A.Low,A.High,A.Ref,A.Strong⟩:x8)).set (0 + D.toNat) (⟨E,w64 (B + 1),w64 ((w64 (B + 1)) + 1),A.Max,A.Low,A.High,A.Ref,A.Strong⟩:x8)).set (0 + D.toNat) (⟨E,w64 (B + 1),w64 ((w64 (B + 1)) + 1),w64 ((w64 ((w64 (B + 1)) + 1)) + 1),A.Low,A.High,A.Ref,A.Strong⟩:x8)).set (0 + D.toNat) (⟨E,w64 (B + 1),w64 ((w64 (B + 1)) + 1),w64 ((w64 ((w64 (B + 1)) + 1)) + 1),w64 ((w64 ((w64 ((w64 (B + 1)) + 1)) + 1)) + 1),A.High,A.Ref,A.Strong⟩:x8)).set (0 + D.toNat) (⟨E,w64 (B + 1),w64 ((w64 (B + 1)) + 1),w64 ((w64 ((w64 (B + 1)) + 1)) + 1),w64 ((w64 ((w64 ((w64 (B + 1)) + 1)) + 1)) + 1),w64 ((w64 ((w64 ((w64 ((w64 (B + 1)) + 1)) + 1)) + 1)) + 1),A.Ref,A.Strong⟩:x8)).set (0 + D.toNat) (⟨E,w64 (B + 1),w64 ((w64 (B + 1)) + 1),w64 ((w64 ((w64 (B + 1)) + 1)) + 1),w64 ((w64 ((w64 ((w64 (B + 1)) + 1)) + 1)) + 1),w64 ((w64 ((w64 ((w64 ((w64 (B + 1)) + 1)) + 1)) + 1)) + 1),G,A.Strong⟩:x8)).set (0 + D.toNat) (⟨E,w64 (B + 1),w64 ((w64 (B + 1)) + 1),w64 ((w64 ((w64 (B + 1)) + 1)) + 1),w64 ((w64 ((w64 ((w64 (B + 1)) + 1)) + 1)) + 1),w64 ((w64 ((w64 ((w64 ((w64 (B + 1)) + 1)) + 1)) + 1)) + 1),G,((w64 ((w64 ((w64 ((w64 ((w64 ((w64 ((w64 (B + 1)) + 1)) + 1)) + 1)) + 1)) + 1)) + 1)).tmod 3 == 0)⟩:x8))
    else none
    else none
    else none
    else none
    else none
    else none
    else none
    else none
    else
    some (B,F)
def a8g (H:(List x8)) (J:Int):Option (Int × (List x8)) :=
    (a2s FUEL J 0 H).bind fun p114 =>
    (match p114 with
    | (K,L) =>
    some (K,L))
theorem c3y (H:(List x8)) (J:Int) (r:(Int × (List x8))) (hf:a8g H J = some r):a1l Tryz.prog ⟨true,true,false⟩ 210 [(.own 0 0 H.length),(.I J)] [.row 8 (H.map a0f)] (.I r.1) [.row 8 (r.2.map a0f)]:=by
 unfold a8g at hf;refine coh [94] Tryz.func210 ?_;refine gq 1 ?_;refine gq 1 ?_
 obtain ⟨p114,hb1,hf⟩:=ob hf
 refine a1r ([(1,(.I p114.1))],[.row 8 (p114.2.map a0f)]) ?_ ?_
 ·refine al (X:={q:(Nat × Int × Int × (List x8)) // a2s q.1 q.2.1 q.2.2.1 q.2.2.2 = some p114}) (fun q => ([(0,(.own 0 0 q.1.2.2.2.length)),(1,(.I q.1.2.1)),(5,(.I q.1.2.2.1))],[.row 8 (q.1.2.2.2.map a0f)])) (fun q => q.1.1) ⟨(FUEL,J,0,H),hb1⟩ [0] ?_
  rintro ⟨⟨k,B,D,F⟩,hc1⟩
  dsimp only at hc1 ⊢
  rcases k with _ | k
  ·rw [a2s.eq_1] at hc1
   cases hc1
  ·rw [a2s.eq_2] at hc1;refine go 2 ?_;refine b1x (b5f rfl rfl) fun hl115 => s_q (.bool (decide (D < (F.length:Int)))) rfl (.of rfl tr) rfl<|a1a<|a0i ?_
   rcases oi hc1 with ⟨c116,hc1⟩ | ⟨c116,hc1⟩
   ·refine wt c116<|a0v<|a0i<|o8<|a3z<|o8<|a0t ?_
    obtain ⟨E,er118,hc1⟩:=ob hc1
    obtain ⟨g119,hc1⟩:=og hc1
    obtain ⟨A,ex121,hc1⟩:=ob hc1
    refine go 3 ?_;refine cl (w_laws_markText _ _ er118)<|a0x (a2g rfl rfl g119.1 g119.2 rfl rfl) ?_;refine go 1 ?_;refine a7p (a2d (v':=(.str E)) (e':=(⟨E,A.Kind,A.Min,A.Max,A.Low,A.High,A.Ref,A.Strong⟩:x8)) rfl rfl ex121 rfl rfl rfl (by decide) (fun _ => by decide) ⟨rfl,nle⟩ .r rfl) ?_;refine a1a<|a0i ?_;refine gq 3 ?_
    refine o8<|a0t ?_
    obtain ⟨g122,hc1⟩:=og hc1
    refine go 3 ?_;refine a0x (a2g rfl rfl g122.1 g122.2 rfl rfl)<|s_q (.ptr 0 (0 + D.toNat) 1) rfl (.of tr tr) rfl ?_;refine a7p (a2d (v':=(.I (w64 (B + 1)))) (e':=(⟨E,w64 (B + 1),A.Min,A.Max,A.Low,A.High,A.Ref,A.Strong⟩:x8)) rfl rfl (a2c ex121) rfl rfl rfl (by decide) (fun _ => by decide) ⟨rfl,nle⟩ .r rfl) ?_;refine a1a<|a0i ?_;refine gd 3 ?_
    refine a0i<|o8<|a0t ?_
    obtain ⟨g123,hc1⟩:=og hc1
    refine go 3 ?_;refine a0x (a2g rfl rfl g123.1 g123.2 rfl rfl)<|s_q (.ptr 0 (0 + D.toNat) 2) rfl (.of tr tr) rfl ?_;refine a7p (a2d (v':=(.I (w64 ((w64 (B + 1)) + 1)))) (e':=(⟨E,w64 (B + 1),w64 ((w64 (B + 1)) + 1),A.Max,A.Low,A.High,A.Ref,A.Strong⟩:x8)) rfl rfl (a2c (a2c ex121)) rfl rfl rfl (by decide) (fun _ => by decide) ⟨rfl,nle⟩ .r rfl) ?_;refine a1a<|a0i ?_;refine go 2 ?_
    refine gq 1 ?_;refine o8<|a0t ?_
    obtain ⟨g124,hc1⟩:=og hc1
    refine go 3 ?_;refine a0x (a2g rfl rfl g124.1 g124.2 rfl rfl)<|s_q (.ptr 0 (0 + D.toNat) 3) rfl (.of tr tr) rfl ?_;refine a7p (a2d (v':=(.I (w64 ((w64 ((w64 (B + 1)) + 1)) + 1)))) (e':=(⟨E,w64 (B + 1),w64 ((w64 (B + 1)) + 1),w64 ((w64 ((w64 (B + 1)) + 1)) + 1),A.Low,A.High,A.Ref,A.Strong⟩:x8)) rfl rfl (a2c (a2c (a2c ex121))) rfl rfl rfl (by decide) (fun _ => by decide) ⟨rfl,nle⟩ .r rfl) ?_;refine a1a<|a0i ?_;refine go 1 ?_
    refine gq 2 ?_;refine o8<|a0t ?_
    obtain ⟨g125,hc1⟩:=og hc1
    refine go 3 ?_;refine a0x (a2g rfl rfl g125.1 g125.2 rfl rfl)<|s_q (.ptr 0 (0 + D.toNat) 4) rfl (.of tr tr) rfl ?_;refine a7p (a2d (v':=(.I (w64 ((w64 ((w64 ((w64 (B + 1)) + 1)) + 1)) + 1)))) (e':=(⟨E,w64 (B + 1),w64 ((w64 (B + 1)) + 1),w64 ((w64 ((w64 (B + 1)) + 1)) + 1),w64 ((w64 ((w64 ((w64 (B + 1)) + 1)) + 1)) + 1),A.High,A.Ref,A.Strong⟩:x8)) rfl rfl (a2c (a2c (a2c (a2c ex121)))) rfl rfl rfl (by decide) (fun _ => by decide) ⟨rfl,nle⟩ .r rfl) ?_;refine dk<|o8 ?_
    refine gq 3 ?_;refine o8<|a0t ?_
    obtain ⟨g126,hc1⟩:=og hc1
    refine go 3 ?_;refine a0x (a2g rfl rfl g126.1 g126.2 rfl rfl)<|s_q (.ptr 0 (0 + D.toNat) 5) rfl (.of tr tr) rfl ?_;refine a7p (a2d (v':=(.I (w64 ((w64 ((w64 ((w64 ((w64 (B + 1)) + 1)) + 1)) + 1)) + 1)))) (e':=(⟨E,w64 (B + 1),w64 ((w64 (B + 1)) + 1),w64 ((w64 ((w64 (B + 1)) + 1)) + 1),w64 ((w64 ((w64 ((w64 (B + 1)) + 1)) + 1)) + 1),w64 ((w64 ((w64 ((w64 ((w64 (B + 1)) + 1)) + 1)) + 1)) + 1),A.Ref,A.Strong⟩:x8)) rfl rfl (a2c (a2c (a2c (a2c (a2c ex121))))) rfl rfl rfl (by decide) (fun _ => by decide) ⟨rfl,nle⟩ .r rfl) ?_
    refine a1a<|a0i ?_;refine gq 3 ?_;refine o8<|a0t ?_
    obtain ⟨G,er128,hc1⟩:=ob hc1
    obtain ⟨g129,hc1⟩:=og hc1
    refine go 3 ?_;refine cl (w_laws_markText _ _ er128)<|a0x (a2g rfl rfl g129.1 g129.2 rfl rfl)<|s_q (.ptr 0 (0 + D.toNat) 6) rfl (.of tr tr) rfl ?_;refine a7p (a2d (v':=(.str G)) (e':=(⟨E,w64 (B + 1),w64 ((w64 (B + 1)) + 1),w64 ((w64 ((w64 (B + 1)) + 1)) + 1),w64 ((w64 ((w64 ((w64 (B + 1)) + 1)) + 1)) + 1),w64 ((w64 ((w64 ((w64 ((w64 (B + 1)) + 1)) + 1)) + 1)) + 1),G,A.Strong⟩:x8)) rfl rfl (a2c (a2c (a2c (a2c (a2c (a2c ex121)))))) rfl rfl rfl (by decide) (fun _ => by decide) ⟨rfl,nle⟩ .r rfl) ?_
    refine a1a<|a0i ?_;refine gq 3 ?_;refine o8<|a0t ?_
    obtain ⟨g130,hc1⟩:=og hc1
    refine go 3 ?_;refine s_q (.I ((w64 ((w64 ((w64 ((w64 ((w64 ((w64 ((w64 (B + 1)) + 1)) + 1)) + 1)) + 1)) + 1)) + 1)).tmod 3)) rfl (.of ⟨rfl,by decide⟩ tr) rfl<|s_q (.bool ((w64 ((w64 ((w64 ((w64 ((w64 ((w64 ((w64 (B + 1)) + 1)) + 1)) + 1)) + 1)) + 1)) + 1)).tmod 3 == 0)) rfl (.of rfl tr) rfl<|a0x (a2g rfl rfl g130.1 g130.2 rfl rfl)<|s_q (.ptr 0 (0 + D.toNat) 7) rfl (.of tr tr) rfl ?_;refine a7p (a2d (v':=(.bool ((w64 ((w64 ((w64 ((w64 ((w64 ((w64 ((w64 (B + 1)) + 1)) + 1)) + 1)) + 1)) + 1)) + 1)).tmod 3 == 0))) (e':=(⟨E,w64 (B + 1),w64 ((w64 (B + 1)) + 1),w64 ((w64 ((w64 (B + 1)) + 1)) + 1),w64 ((w64 ((w64 ((w64 (B + 1)) + 1)) + 1)) + 1),w64 ((w64 ((w64 ((w64 ((w64 (B + 1)) + 1)) + 1)) + 1)) + 1),G,((w64 ((w64 ((w64 ((w64 ((w64 ((w64 ((w64 (B + 1)) + 1)) + 1)) + 1)) + 1)) + 1)) + 1)).tmod 3 == 0)⟩:x8)) rfl rfl (a2c (a2c (a2c (a2c (a2c (a2c (a2c ex121))))))) rfl rfl rfl (by decide) (fun _ => by decide) ⟨rfl,nle⟩ .r rfl) ?_
    refine a1a<|a0i ?_;refine gd 3 ?_;refine a3w<|a0i ?_;refine gd 3 ?_;exact a5p ⟨(k,w64 ((w64 ((w64 ((w64 ((w64 ((w64 ((w64 ((w64 (B + 1)) + 1)) + 1)) + 1)) + 1)) + 1)) + 1)) + 1),w64 (D + 1),(((((((F.set (0 + D.toNat) (⟨E,A.Kind,A.Min,A.Max,A.Low,A.High,A.Ref,A.Strong⟩:x8)).set (0 + D.toNat) (⟨E,w64 (B + 1),A.Min,A.Max,A.Low,A.High,A.Ref,A.Strong⟩:x8)).set (0 + D.toNat) (⟨E,w64 (B + 1),w64 ((w64 (B + 1)) + 1),A.Max,A.Low,A.High,A.Ref,A.Strong⟩:x8)).set (0 + D.toNat) (⟨E,w64 (B + 1),w64 ((w64 (B + 1)) + 1),w64 ((w64 ((w64 (B + 1)) + 1)) + 1),A.Low,A.High,A.Ref,A.Strong⟩:x8)).set (0 + D.toNat) (⟨E,w64 (B + 1),w64 ((w64 (B + 1)) + 1),w64 ((w64 ((w64 (B + 1)) + 1)) + 1),w64 ((w64 ((w64 ((w64 (B + 1)) + 1)) + 1)) + 1),A.High,A.Ref,A.Strong⟩:x8)).set (0 + D.toNat) (⟨E,w64 (B + 1),w64 ((w64 (B + 1)) + 1),w64 ((w64 ((w64 (B + 1)) + 1)) + 1),w64 ((w64 ((w64 ((w64 (B + 1)) + 1)) + 1)) + 1),w64 ((w64 ((w64 ((w64 ((w64 (B + 1)) + 1)) + 1)) + 1)) + 1),A.Ref,A.Strong⟩:x8)).set (0 + D.toNat) (⟨E,w64 (B + 1),w64 ((w64 (B + 1)) + 1),w64 ((w64 ((w64 (B + 1)) + 1)) + 1),w64 ((w64 ((w64 ((w64 (B + 1)) + 1)) + 1)) + 1),w64 ((w64 ((w64 ((w64 ((w64 (B + 1)) + 1)) + 1)) + 1)) + 1),G,A.Strong⟩:x8)).set (0 + D.toNat) (⟨E,w64 (B + 1),w64 ((w64 (B + 1)) + 1),w64 ((w64 ((w64 (B + 1)) + 1)) + 1),w64 ((w64 ((w64 ((w64 (B + 1)) + 1)) + 1)) + 1),w64 ((w64 ((w64 ((w64 ((w64 (B + 1)) + 1)) + 1)) + 1)) + 1),G,((w64 ((w64 ((w64 ((w64 ((w64 ((w64 ((w64 (B + 1)) + 1)) + 1)) + 1)) + 1)) + 1)) + 1)).tmod 3 == 0)⟩:x8)),hc1⟩ (Nat.lt_succ_self _) ⟨[],[0],_,_,rfl,rfl,⟨.of_eq (congrArg (AV.own _ 0) (by simp)),⟨.r,⟨.r,tr⟩⟩⟩,.r⟩
   ·refine wf c116<|le ?_;cases hc1;exact ck [0]
 ·obtain ⟨K,L⟩:=p114
  refine gq 2 ?_;refine a2q ?_;cases hf;exact b5y [] [0] rfl ⟨.of tr tr,tr⟩ rfl .r .r
def a4h :Nat → Int → Int → (List Int) → Option (Int × (List Int))
  | 0,_,_,_ => none
  | k + 1,B,A,D =>
    if (decide (A < (D.length:Int))) then
    if (0:Int) ≤ A ∧ A < (D.length:Int) then
    (D[(0 + A.toNat)]?).bind fun J =>
    a4h k (w64 (B + 1)) (w64 (A + 1)) (D.set (0 + A.toNat) B)
    else none
    else
    some (B,D)
def b2r (E:(List Int)) (F:Int):Option (Int × (List Int)) :=
    (a4h FUEL F 0 E).bind fun p48 =>
    (match p48 with
    | (G,H) =>
    some (G,H))
theorem c9f (E:(List Int)) (F:Int) (r:(Int × (List Int))) (hf:b2r E F = some r):a1l Tryz.prog ⟨true,true,false⟩ 211 [(.own 0 0 E.length),(.I F)] [.row 1 (E.map encI)] (.I r.1) [.row 1 (r.2.map encI)]:=by
 unfold b2r at hf;refine coh [38] Tryz.func211 ?_;refine gq 1 ?_;refine gq 1 ?_
 obtain ⟨p48,hb1,hf⟩:=ob hf
 refine a1r ([(1,(.I p48.1))],[.row 1 (p48.2.map encI)]) ?_ ?_
 ·refine al (X:={q:(Nat × Int × Int × (List Int)) // a4h q.1 q.2.1 q.2.2.1 q.2.2.2 = some p48}) (fun q => ([(0,(.own 0 0 q.1.2.2.2.length)),(1,(.I q.1.2.1)),(5,(.I q.1.2.2.1))],[.row 1 (q.1.2.2.2.map encI)])) (fun q => q.1.1) ⟨(FUEL,F,0,E),hb1⟩ [0] ?_
  rintro ⟨⟨k,B,A,D⟩,hc1⟩
  dsimp only at hc1 ⊢
  rcases k with _ | k
  ·rw [a4h.eq_1] at hc1
   cases hc1
  ·rw [a4h.eq_2] at hc1;refine go 2 ?_;refine b1x (b5f rfl rfl) fun hl49 => s_q (.bool (decide (A < (D.length:Int)))) rfl (.of rfl tr) rfl<|a1a<|a0i ?_
   rcases oi hc1 with ⟨c50,hc1⟩ | ⟨c50,hc1⟩
   ·refine wt c50<|a0v<|a0i<|o8<|a3z<|o8<|a0t ?_
    obtain ⟨g51,hc1⟩:=og hc1
    obtain ⟨J,ex53,hc1⟩:=ob hc1
    refine go 3 ?_;refine a0x (a2g rfl rfl g51.1 g51.2 rfl rfl) ?_;refine a7p (a2d (v':=(.I B)) (e':=B) rfl rfl ex53 rfl rfl rfl (by decide) (fun _ => by decide) ⟨rfl,rfl,rfl⟩ .r rfl) ?_;refine a1a<|a0i ?_;refine gd 3 ?_;refine a3w<|a0i ?_;refine gd 3 ?_;exact a5p ⟨(k,w64 (B + 1),w64 (A + 1),D.set (0 + A.toNat) B),hc1⟩ (Nat.lt_succ_self _) ⟨[],[0],_,_,rfl,rfl,⟨.of_eq (congrArg (AV.own _ 0) (by simp)),⟨.r,⟨.r,tr⟩⟩⟩,.r⟩
   ·refine wf c50<|le ?_;cases hc1;exact ck [0]
 ·obtain ⟨G,H⟩:=p48
  refine gq 2 ?_;refine a2q ?_;cases hf;exact b5y [] [0] rfl ⟨.of tr tr,tr⟩ rfl .r .r
end Go.R
end
section
set_option linter.all false
namespace Go.R
open Go Go.Proofs
set_option maxRecDepth 100000
set_option maxHeartbeats 8000000
def a3b :Nat → Int → Int → (List a0a) → Option (Int × (List a0a))
  | 0,_,_,_ => none
  | k + 1,H,B,G =>
    if (decide (B < (G.length:Int))) then
    (a3t H).bind fun D =>
    if (0:Int) ≤ B ∧ B < (G.length:Int) then
    (G[(0 + B.toNat)]?).bind fun A =>
    if (0:Int) ≤ B ∧ B < (G.length:Int) then
    (a8g A.Columns (w64 (H + 1))).bind fun F =>
    if (0:Int) ≤ B ∧ B < (G.length:Int) then
    (b2r A.Unique F.1).bind fun E =>
    if (0:Int) ≤ B ∧ B < (G.length:Int) then
    a3b k (w64 (E.1 + 1)) (w64 (B + 1)) ((((G.set (0 + B.toNat) (⟨D,A.Columns,A.Unique,A.Root⟩:a0a)).set (0 + B.toNat) (⟨D,F.2,A.Unique,A.Root⟩:a0a)).set (0 + B.toNat) (⟨D,F.2,E.2,A.Root⟩:a0a)).set (0 + B.toNat) (⟨D,F.2,E.2,(E.1.tmod 3 == 0)⟩:a0a))
    else none
    else none
    else none
    else none
    else
    some (H,G)
def a9n (J:(List a0a)) (K:Int):Option (Int × (List a0a)) :=
    (a3b FUEL K 0 J).bind fun p126 =>
    (match p126 with
    | (L,M) =>
    some (L,M))
theorem c5g (J:(List a0a)) (K:Int) (r:(Int × (List a0a))) (hf:a9n J K = some r):a1l Tryz.prog ⟨true,true,false⟩ 114 [(.own 0 0 J.length),(.I K)] [.row 4 (J.map y9)] (.I r.1) [.row 4 (r.2.map y9)]:=by
 unfold a9n at hf;refine coh [41,45,54] Tryz.func114 ?_;refine gq 1 ?_;refine gq 1 ?_
 obtain ⟨p126,hb1,hf⟩:=ob hf
 refine a1r ([(1,(.I p126.1))],[.row 4 (p126.2.map y9)]) ?_ ?_
 ·refine al (X:={q:(Nat × Int × Int × (List a0a)) // a3b q.1 q.2.1 q.2.2.1 q.2.2.2 = some p126}) (fun q => ([(0,(.own 0 0 q.1.2.2.2.length)),(1,(.I q.1.2.1)),(5,(.I q.1.2.2.1))],[.row 4 (q.1.2.2.2.map y9)])) (fun q => q.1.1) ⟨(FUEL,K,0,J),hb1⟩ [0] ?_
  rintro ⟨⟨k,H,B,G⟩,hc1⟩
  dsimp only at hc1 ⊢
  rcases k with _ | k
  ·rw [a3b.eq_1] at hc1
   cases hc1
  ·rw [a3b.eq_2] at hc1;refine go 2 ?_;refine b1x (b5f rfl rfl) fun hl127 => s_q (.bool (decide (B < (G.length:Int)))) rfl (.of rfl tr) rfl<|a1a<|a0i ?_
   rcases oi hc1 with ⟨c128,hc1⟩ | ⟨c128,hc1⟩
   ·refine wt c128<|a0v<|a0i<|o8<|a3z<|o8<|a0t ?_
    obtain ⟨D,er130,hc1⟩:=ob hc1
    obtain ⟨g131,hc1⟩:=og hc1
    obtain ⟨A,ex133,hc1⟩:=ob hc1
    refine go 3 ?_;refine cl (w_laws_markText _ _ er130)<|a0x (a2g rfl rfl g131.1 g131.2 rfl rfl) ?_;refine go 1 ?_;refine a7p (a2d (v':=(.str D)) (e':=(⟨D,A.Columns,A.Unique,A.Root⟩:a0a)) rfl rfl ex133 rfl rfl rfl (by decide) (fun _ => by decide) ⟨rfl,nle⟩ .r rfl) ?_;refine a1a<|a0i ?_;refine gq 3 ?_;refine o8 ?_;refine d7s (o:=0) (f:=1) (l':=A.Columns) (enc':=a0f) (el:=(.agg [(.str D),(.lst 8 (A.Columns.map a0f)),(.lst 1 (A.Unique.map encI)),(.bool A.Root)])) rfl (a2c ex133) rfl rfl fun N => ?_
    refine a0t ?_
    obtain ⟨g136,hc1⟩:=og hc1
    obtain ⟨F,er138,hc1⟩:=ob hc1
    refine go 2 ?_;refine a0x (a2g rfl rfl g136.1 g136.2 rfl rfl)<|s_q (.ptr 0 (0 + B.toNat) 1) rfl (.of tr tr) rfl<|a0x (b7z rfl rfl (c6t (a2c ex133)) nle rfl) ?_;refine go 1 ?_;refine a0x (c4y (o:=0) (l:=(G.set (0 + B.toNat) (⟨D,A.Columns,A.Unique,A.Root⟩:a0a))) (enc:=y9) (enc':=a0f) (l'':=F.2) (y:=(⟨D,F.2,A.Unique,A.Root⟩:a0a)) (j:=1) (el:=(.agg [(.str D),(.hdr N 8 (A.Columns.map a0f)),(.lst 1 (A.Unique.map encI)),(.bool A.Root)])) rfl rfl (c3y _ _ _ er138) rfl rfl (a2c ex133) rfl (by decide) rfl) ?_
    refine gq 1 ?_;refine o8 ?_;refine d7s (o:=0) (f:=2) (l':=A.Unique) (enc':=encI) (el:=(.agg [(.str D),(.lst 8 (F.2.map a0f)),(.lst 1 (A.Unique.map encI)),(.bool A.Root)])) rfl (a2c (a2c ex133)) rfl rfl fun O => ?_;refine a0t ?_
    obtain ⟨g141,hc1⟩:=og hc1
    obtain ⟨E,er143,hc1⟩:=ob hc1
    refine go 2 ?_;refine a0x (a2g rfl rfl g141.1 g141.2 rfl rfl)<|s_q (.ptr 0 (0 + B.toNat) 2) rfl (.of tr tr) rfl<|a0x (b7z rfl rfl (c6t (a2c (a2c ex133))) nle rfl) ?_;refine go 1 ?_;refine a0x (c4y (o:=0) (l:=((G.set (0 + B.toNat) (⟨D,A.Columns,A.Unique,A.Root⟩:a0a)).set (0 + B.toNat) (⟨D,F.2,A.Unique,A.Root⟩:a0a))) (enc:=y9) (enc':=encI) (l'':=E.2) (y:=(⟨D,F.2,E.2,A.Root⟩:a0a)) (j:=2) (el:=(.agg [(.str D),(.lst 8 (F.2.map a0f)),(.hdr O 1 (A.Unique.map encI)),(.bool A.Root)])) rfl rfl (c9f _ _ _ er143) rfl rfl (a2c (a2c ex133)) rfl (by decide) rfl) ?_
    refine gq 1 ?_;refine o8<|a0t ?_
    obtain ⟨g144,hc1⟩:=og hc1
    refine go 3 ?_;refine s_q (.I (E.1.tmod 3)) rfl (.of ⟨rfl,by decide⟩ tr) rfl<|s_q (.bool (E.1.tmod 3 == 0)) rfl (.of rfl tr) rfl<|a0x (a2g rfl rfl g144.1 g144.2 rfl rfl)<|s_q (.ptr 0 (0 + B.toNat) 3) rfl (.of tr tr) rfl ?_;refine a7p (a2d (v':=(.bool (E.1.tmod 3 == 0))) (e':=(⟨D,F.2,E.2,(E.1.tmod 3 == 0)⟩:a0a)) rfl rfl (a2c (a2c (a2c ex133))) rfl rfl rfl (by decide) (fun _ => by decide) ⟨rfl,nle⟩ .r rfl) ?_;refine a1a<|a0i ?_;refine go 2 ?_
    refine gd 1 ?_;refine a3w<|a0i ?_;refine gd 3 ?_;exact a5p ⟨(k,w64 (E.1 + 1),w64 (B + 1),(((G.set (0 + B.toNat) (⟨D,A.Columns,A.Unique,A.Root⟩:a0a)).set (0 + B.toNat) (⟨D,F.2,A.Unique,A.Root⟩:a0a)).set (0 + B.toNat) (⟨D,F.2,E.2,A.Root⟩:a0a)).set (0 + B.toNat) (⟨D,F.2,E.2,(E.1.tmod 3 == 0)⟩:a0a)),hc1⟩ (Nat.lt_succ_self _) ⟨[],[0],_,_,rfl,rfl,⟨.of_eq (congrArg (AV.own _ 0) (by simp)),⟨.r,⟨.r,tr⟩⟩⟩,.r⟩
   ·refine wf c128<|le ?_;cases hc1;exact ck [0]
 ·obtain ⟨L,M⟩:=p126
  refine gq 2 ?_;refine a2q ?_;cases hf;exact b5y [] [0] rfl ⟨.of tr tr,tr⟩ rfl .r .r
def a9o (A:a0b) (D:Int):Option (Int × a0b) :=
    (a9n A.Tables D).bind fun B =>
    some (B.1,(⟨B.2⟩:a0b))
theorem c5h (A:a0b) (D:Int) (r:(Int × a0b)) (hf:a9o A D = some r):a1l Tryz.prog ⟨true,true,false⟩ 38 [(.agg [(.own 0 0 A.Tables.length)]),(.I D)] [.row 4 (A.Tables.map y9)] (.I r.1) [.row 4 (r.2.Tables.map y9)]:=by
 unfold a9o at hf;refine coh [] Tryz.func38 ?_;refine sr<|bx ?_;refine gq 1 ?_;refine o8<|a0t ?_
 obtain ⟨B,er4,hf⟩:=ob hf
 refine go 3 ?_;refine b1x (b9x (v:=(.I B.1)) (h2:=[.row 4 (B.2.map y9),.box 1 (.agg [(.own 0 0 A.Tables.length)])]) [] [0] (fun _ => rfl) (c5g _ _ _ er4) rfl .r .r rfl rfl) fun hl5 => ?_;refine gq 1 ?_;refine gq 2 ?_;refine a2q ?_;cases hf;exact b5y [] [0] rfl ⟨.of tr tr,tr⟩ rfl .r .r
def a3p :Nat → Int → Int → (List y7) → Option (Int × (List y7))
  | 0,_,_,_ => none
  | k + 1,A,B,D =>
    if (decide (B < (D.length:Int))) then
    if (0:Int) ≤ B ∧ B < (D.length:Int) then
    (D[(0 + B.toNat)]?).bind fun E =>
    if (0:Int) ≤ B ∧ B < (D.length:Int) then
    (a3t (w64 ((w64 (A + 1)) + 1))).bind fun F =>
    if (0:Int) ≤ B ∧ B < (D.length:Int) then
    a3p k (w64 ((w64 ((w64 (A + 1)) + 1)) + 1)) (w64 (B + 1)) (((D.set (0 + B.toNat) (⟨A,E.N,E.T⟩:y7)).set (0 + B.toNat) (⟨A,w64 (A + 1),E.T⟩:y7)).set (0 + B.toNat) (⟨A,w64 (A + 1),F⟩:y7))
    else none
    else none
    else none
    else
    some (A,D)
def b1d (G:(List y7)) (H:Int):Option (Int × (List y7)) :=
    (a3p FUEL H 0 G).bind fun p72 =>
    (match p72 with
    | (J,K) =>
    some (J,K))
theorem c7a (G:(List y7)) (H:Int) (r:(Int × (List y7))) (hf:b1d G H = some r):a1l Tryz.prog ⟨true,true,false⟩ 202 [(.own 0 0 G.length),(.I H)] [.row 3 (G.map y8)] (.I r.1) [.row 3 (r.2.map y8)]:=by
 unfold b1d at hf;refine coh [54] Tryz.func202 ?_;refine gq 1 ?_;refine gq 1 ?_
 obtain ⟨p72,hb1,hf⟩:=ob hf
 refine a1r ([(1,(.I p72.1))],[.row 3 (p72.2.map y8)]) ?_ ?_
 ·refine al (X:={q:(Nat × Int × Int × (List y7)) // a3p q.1 q.2.1 q.2.2.1 q.2.2.2 = some p72}) (fun q => ([(0,(.own 0 0 q.1.2.2.2.length)),(1,(.I q.1.2.1)),(5,(.I q.1.2.2.1))],[.row 3 (q.1.2.2.2.map y8)])) (fun q => q.1.1) ⟨(FUEL,H,0,G),hb1⟩ [0] ?_
  rintro ⟨⟨k,A,B,D⟩,hc1⟩
  dsimp only at hc1 ⊢
  rcases k with _ | k
  ·rw [a3p.eq_1] at hc1
   cases hc1
  ·rw [a3p.eq_2] at hc1;refine go 2 ?_;refine b1x (b5f rfl rfl) fun hl73 => s_q (.bool (decide (B < (D.length:Int)))) rfl (.of rfl tr) rfl<|a1a<|a0i ?_
   rcases oi hc1 with ⟨c74,hc1⟩ | ⟨c74,hc1⟩
   ·refine wt c74<|a0v<|a0i<|o8<|a3z<|o8<|a0t ?_
    obtain ⟨g75,hc1⟩:=og hc1
    obtain ⟨E,ex77,hc1⟩:=ob hc1
    refine go 3 ?_;refine a0x (a2g rfl rfl g75.1 g75.2 rfl rfl) ?_;refine go 1 ?_;refine a7p (a2d (v':=(.I A)) (e':=(⟨A,E.N,E.T⟩:y7)) rfl rfl ex77 rfl rfl rfl (by decide) (fun _ => by decide) ⟨rfl,nle⟩ .r rfl) ?_;refine a1a<|a0i ?_;refine gq 3 ?_;refine o8<|a0t ?_
    obtain ⟨g78,hc1⟩:=og hc1
    refine go 3 ?_;refine a0x (a2g rfl rfl g78.1 g78.2 rfl rfl)<|s_q (.ptr 0 (0 + B.toNat) 1) rfl (.of tr tr) rfl ?_;refine a7p (a2d (v':=(.I (w64 (A + 1)))) (e':=(⟨A,w64 (A + 1),E.T⟩:y7)) rfl rfl (a2c ex77) rfl rfl rfl (by decide) (fun _ => by decide) ⟨rfl,nle⟩ .r rfl) ?_;refine a1a<|a0i ?_;refine gq 3 ?_;refine o8<|a0t ?_
    obtain ⟨F,er80,hc1⟩:=ob hc1
    obtain ⟨g81,hc1⟩:=og hc1
    refine go 3 ?_;refine cl (w_laws_markText _ _ er80)<|a0x (a2g rfl rfl g81.1 g81.2 rfl rfl)<|s_q (.ptr 0 (0 + B.toNat) 2) rfl (.of tr tr) rfl ?_;refine a7p (a2d (v':=(.str F)) (e':=(⟨A,w64 (A + 1),F⟩:y7)) rfl rfl (a2c (a2c ex77)) rfl rfl rfl (by decide) (fun _ => by decide) ⟨rfl,nle⟩ .r rfl) ?_;refine a1a<|a0i ?_;refine go 3 ?_
    refine a1a<|a3w<|a0i ?_;refine gd 3 ?_;exact a5p ⟨(k,w64 ((w64 ((w64 (A + 1)) + 1)) + 1),w64 (B + 1),((D.set (0 + B.toNat) (⟨A,E.N,E.T⟩:y7)).set (0 + B.toNat) (⟨A,w64 (A + 1),E.T⟩:y7)).set (0 + B.toNat) (⟨A,w64 (A + 1),F⟩:y7)),hc1⟩ (Nat.lt_succ_self _) ⟨[],[0],_,_,rfl,rfl,⟨.of_eq (congrArg (AV.own _ 0) (by simp)),⟨.r,⟨.r,tr⟩⟩⟩,.r⟩
   ·refine wf c74<|le ?_;cases hc1;exact ck [0]
 ·obtain ⟨J,K⟩:=p72
  refine gq 2 ?_;refine a2q ?_;cases hf;exact b5y [] [0] rfl ⟨.of tr tr,tr⟩ rfl .r .r
def a3c :Nat → Int → Int → (List (List y7)) → Option (Int × (List (List y7)))
  | 0,_,_,_ => none
  | k + 1,H,A,B =>
    if (decide (A < (B.length:Int))) then
    ((B[(0 + A.toNat)]?)).bind fun E =>
    if (0:Int) ≤ A ∧ A < (B.length:Int) then
    (b1d E H).bind fun D =>
    a3c k D.1 (w64 (A + 1)) (B.set (0 + A.toNat) D.2)
    else none
    else
    some (H,B)
def a9p (F:(List (List y7))) (G:Int):Option (Int × (List (List y7))) :=
    (a3c FUEL G 0 F).bind fun p72 =>
    (match p72 with
    | (J,K) =>
    some (J,K))
theorem c5i (F:(List (List y7))) (G:Int) (r:(Int × (List (List y7)))) (hf:a9p F G = some r):a1l Tryz.prog ⟨true,true,false⟩ 102 [(.own 0 0 F.length),(.I G)] [.row 1 (F.map (a0m 3 y8))] (.I r.1) [.row 1 (r.2.map (a0m 3 y8))]:=by
 unfold a9p at hf;refine coh [31,34] Tryz.func102 ?_;refine gq 1 ?_;refine gq 1 ?_
 obtain ⟨p72,hb1,hf⟩:=ob hf
 refine a1r ([(1,(.I p72.1))],[.row 1 (p72.2.map (a0m 3 y8))]) ?_ ?_
 ·refine al (X:={q:(Nat × Int × Int × (List (List y7))) // a3c q.1 q.2.1 q.2.2.1 q.2.2.2 = some p72}) (fun q => ([(0,(.own 0 0 q.1.2.2.2.length)),(1,(.I q.1.2.1)),(5,(.I q.1.2.2.1))],[.row 1 (q.1.2.2.2.map (a0m 3 y8))])) (fun q => q.1.1) ⟨(FUEL,G,0,F),hb1⟩ [0] ?_
  rintro ⟨⟨k,H,A,B⟩,hc1⟩
  dsimp only at hc1 ⊢
  rcases k with _ | k
  ·rw [a3c.eq_1] at hc1
   cases hc1
  ·rw [a3c.eq_2] at hc1;refine go 2 ?_;refine b1x (b5f rfl rfl) fun hl73 => s_q (.bool (decide (A < (B.length:Int)))) rfl (.of rfl tr) rfl<|a1a<|a0i ?_
   rcases oi hc1 with ⟨c74,hc1⟩ | ⟨c74,hc1⟩
   ·refine wt c74<|a0v<|a0i<|o8<|a3z ?_
    obtain ⟨E,ex77,hc1⟩:=ob hc1
    refine d7s (o:=0) (f:=0) (l':=E) (enc':=y8) (el:=(.lst 3 (E.map y8))) rfl ex77 rfl rfl fun L => ?_;refine a0t ?_
    obtain ⟨g79,hc1⟩:=og hc1
    obtain ⟨D,er81,hc1⟩:=ob hc1
    refine go 2 ?_;refine a0x (a2g rfl rfl g79.1 g79.2 rfl rfl)<|a0x (b7z rfl rfl (c6t ex77) ⟨rfl,rfl⟩ rfl) ?_;refine go 1 ?_;refine a0x (c4y (o:=0) (l:=B) (enc:=(a0m 3 y8)) (enc':=y8) (l'':=D.2) (y:=D.2) (j:=0) (el:=(.hdr L 3 (E.map y8))) rfl rfl (c7a _ _ _ er81) rfl rfl ex77 rfl (by decide) rfl) ?_;refine gd 1 ?_;refine a3w<|a0i ?_;refine gd 3 ?_;exact a5p ⟨(k,D.1,w64 (A + 1),B.set (0 + A.toNat) D.2),hc1⟩ (Nat.lt_succ_self _) ⟨[],[0],_,_,rfl,rfl,⟨.of_eq (congrArg (AV.own _ 0) (by simp)),⟨.r,⟨.r,tr⟩⟩⟩,.r⟩
   ·refine wf c74<|le ?_;cases hc1;exact ck [0]
 ·obtain ⟨J,K⟩:=p72
  refine gq 2 ?_;refine a2q ?_;cases hf;exact b5y [] [0] rfl ⟨.of tr tr,tr⟩ rfl .r .r
def a4i :Nat → Int → Int → (List a0c) → Option (Int × (List a0c))
  | 0,_,_,_ => none
  | k + 1,B,A,D =>
    if (decide (A < (D.length:Int))) then
    if (0:Int) ≤ A ∧ A < (D.length:Int) then
    (D[(0 + A.toNat)]?).bind fun E =>
    if (0:Int) ≤ A ∧ A < (D.length:Int) then
    (a9p E.Cells (w64 (B + 1))).bind fun F =>
    a4i k F.1 (w64 (A + 1)) ((D.set (0 + A.toNat) (⟨B,E.Cells⟩:a0c)).set (0 + A.toNat) (⟨B,F.2⟩:a0c))
    else none
    else none
    else
    some (B,D)
def b2s (G:(List a0c)) (H:Int):Option (Int × (List a0c)) :=
    (a4i FUEL H 0 G).bind fun p78 =>
    (match p78 with
    | (J,K) =>
    some (J,K))
theorem c9g (G:(List a0c)) (H:Int) (r:(Int × (List a0c))) (hf:b2s G H = some r):a1l Tryz.prog ⟨true,true,false⟩ 126 [(.own 0 0 G.length),(.I H)] [.row 2 (G.map l7)] (.I r.1) [.row 2 (r.2.map l7)]:=by
 unfold b2s at hf;refine coh [39,42] Tryz.func126 ?_;refine gq 1 ?_;refine gq 1 ?_
 obtain ⟨p78,hb1,hf⟩:=ob hf
 refine a1r ([(1,(.I p78.1))],[.row 2 (p78.2.map l7)]) ?_ ?_
 ·refine al (X:={q:(Nat × Int × Int × (List a0c)) // a4i q.1 q.2.1 q.2.2.1 q.2.2.2 = some p78}) (fun q => ([(0,(.own 0 0 q.1.2.2.2.length)),(1,(.I q.1.2.1)),(5,(.I q.1.2.2.1))],[.row 2 (q.1.2.2.2.map l7)])) (fun q => q.1.1) ⟨(FUEL,H,0,G),hb1⟩ [0] ?_
  rintro ⟨⟨k,B,A,D⟩,hc1⟩
  dsimp only at hc1 ⊢
  rcases k with _ | k
  ·rw [a4i.eq_1] at hc1
   cases hc1
  ·rw [a4i.eq_2] at hc1;refine go 2 ?_;refine b1x (b5f rfl rfl) fun hl79 => s_q (.bool (decide (A < (D.length:Int)))) rfl (.of rfl tr) rfl<|a1a<|a0i ?_
   rcases oi hc1 with ⟨c80,hc1⟩ | ⟨c80,hc1⟩
   ·refine wt c80<|a0v<|a0i<|o8<|a3z<|o8<|a0t ?_
    obtain ⟨g81,hc1⟩:=og hc1
    obtain ⟨E,ex83,hc1⟩:=ob hc1
    refine go 3 ?_;refine a0x (a2g rfl rfl g81.1 g81.2 rfl rfl) ?_;refine go 1 ?_;refine a7p (a2d (v':=(.I B)) (e':=(⟨B,E.Cells⟩:a0c)) rfl rfl ex83 rfl rfl rfl (by decide) (fun _ => by decide) ⟨rfl,nle⟩ .r rfl) ?_;refine a1a<|a0i ?_;refine gq 3 ?_;refine d7s (o:=0) (f:=1) (l':=E.Cells) (enc':=(a0m 3 y8)) (el:=(.agg [(.I B),(.lst 1 (E.Cells.map (a0m 3 y8)))])) rfl (a2c ex83) rfl rfl fun L => ?_
    refine a0t ?_
    obtain ⟨g86,hc1⟩:=og hc1
    obtain ⟨F,er88,hc1⟩:=ob hc1
    refine go 2 ?_;refine a0x (a2g rfl rfl g86.1 g86.2 rfl rfl)<|s_q (.ptr 0 (0 + A.toNat) 1) rfl (.of tr tr) rfl<|a0x (b7z rfl rfl (c6t (a2c ex83)) nle rfl) ?_;refine go 1 ?_;refine a0x (c4y (o:=0) (l:=(D.set (0 + A.toNat) (⟨B,E.Cells⟩:a0c))) (enc:=l7) (enc':=(a0m 3 y8)) (l'':=F.2) (y:=(⟨B,F.2⟩:a0c)) (j:=1) (el:=(.agg [(.I B),(.hdr L 1 (E.Cells.map (a0m 3 y8)))])) rfl rfl (c5i _ _ _ er88) rfl rfl (a2c ex83) rfl (by decide) rfl) ?_;refine gd 1 ?_;refine a3w<|a0i<|a0t ?_
    refine gd 3 ?_;exact a5p ⟨(k,F.1,w64 (A + 1),(D.set (0 + A.toNat) (⟨B,E.Cells⟩:a0c)).set (0 + A.toNat) (⟨B,F.2⟩:a0c)),hc1⟩ (Nat.lt_succ_self _) ⟨[],[0],_,_,rfl,rfl,⟨.of_eq (congrArg (AV.own _ 0) (by simp)),⟨.r,⟨.r,tr⟩⟩⟩,.r⟩
   ·refine wf c80<|le ?_;cases hc1;exact ck [0]
 ·obtain ⟨J,K⟩:=p78
  refine gq 2 ?_;refine a2q ?_;cases hf;exact b5y [] [0] rfl ⟨.of tr tr,tr⟩ rfl .r .r
def a3q :Nat → Int → Int → (List (List a0c)) → Option (Int × (List (List a0c)))
  | 0,_,_,_ => none
  | k + 1,H,A,B =>
    if (decide (A < (B.length:Int))) then
    ((B[(0 + A.toNat)]?)).bind fun E =>
    if (0:Int) ≤ A ∧ A < (B.length:Int) then
    (b2s E H).bind fun D =>
    a3q k D.1 (w64 (A + 1)) (B.set (0 + A.toNat) D.2)
    else none
    else
    some (H,B)
def b1e (F:(List (List a0c))) (G:Int):Option (Int × (List (List a0c))) :=
    (a3q FUEL G 0 F).bind fun p72 =>
    (match p72 with
    | (J,K) =>
    some (J,K))
theorem c7b (F:(List (List a0c))) (G:Int) (r:(Int × (List (List a0c)))) (hf:b1e F G = some r):a1l Tryz.prog ⟨true,true,false⟩ 115 [(.own 0 0 F.length),(.I G)] [.row 1 (F.map (a0m 2 l7))] (.I r.1) [.row 1 (r.2.map (a0m 2 l7))]:=by
 unfold b1e at hf;refine coh [31,34] Tryz.func115 ?_;refine gq 1 ?_;refine gq 1 ?_
 obtain ⟨p72,hb1,hf⟩:=ob hf
 refine a1r ([(1,(.I p72.1))],[.row 1 (p72.2.map (a0m 2 l7))]) ?_ ?_
 ·refine al (X:={q:(Nat × Int × Int × (List (List a0c))) // a3q q.1 q.2.1 q.2.2.1 q.2.2.2 = some p72}) (fun q => ([(0,(.own 0 0 q.1.2.2.2.length)),(1,(.I q.1.2.1)),(5,(.I q.1.2.2.1))],[.row 1 (q.1.2.2.2.map (a0m 2 l7))])) (fun q => q.1.1) ⟨(FUEL,G,0,F),hb1⟩ [0] ?_
  rintro ⟨⟨k,H,A,B⟩,hc1⟩
  dsimp only at hc1 ⊢
  rcases k with _ | k
  ·rw [a3q.eq_1] at hc1
   cases hc1
  ·rw [a3q.eq_2] at hc1;refine go 2 ?_;refine b1x (b5f rfl rfl) fun hl73 => s_q (.bool (decide (A < (B.length:Int)))) rfl (.of rfl tr) rfl<|a1a<|a0i ?_
   rcases oi hc1 with ⟨c74,hc1⟩ | ⟨c74,hc1⟩
   ·refine wt c74<|a0v<|a0i<|o8<|a3z ?_
    obtain ⟨E,ex77,hc1⟩:=ob hc1
    refine d7s (o:=0) (f:=0) (l':=E) (enc':=l7) (el:=(.lst 2 (E.map l7))) rfl ex77 rfl rfl fun L => ?_;refine a0t ?_
    obtain ⟨g79,hc1⟩:=og hc1
    obtain ⟨D,er81,hc1⟩:=ob hc1
    refine go 2 ?_;refine a0x (a2g rfl rfl g79.1 g79.2 rfl rfl)<|a0x (b7z rfl rfl (c6t ex77) ⟨rfl,rfl⟩ rfl) ?_;refine go 1 ?_;refine a0x (c4y (o:=0) (l:=B) (enc:=(a0m 2 l7)) (enc':=l7) (l'':=D.2) (y:=D.2) (j:=0) (el:=(.hdr L 2 (E.map l7))) rfl rfl (c9g _ _ _ er81) rfl rfl ex77 rfl (by decide) rfl) ?_;refine gd 1 ?_;refine a3w<|a0i ?_;refine gd 3 ?_;exact a5p ⟨(k,D.1,w64 (A + 1),B.set (0 + A.toNat) D.2),hc1⟩ (Nat.lt_succ_self _) ⟨[],[0],_,_,rfl,rfl,⟨.of_eq (congrArg (AV.own _ 0) (by simp)),⟨.r,⟨.r,tr⟩⟩⟩,.r⟩
   ·refine wf c74<|le ?_;cases hc1;exact ck [0]
 ·obtain ⟨J,K⟩:=p72
  refine gq 2 ?_;refine a2q ?_;cases hf;exact b5y [] [0] rfl ⟨.of tr tr,tr⟩ rfl .r .r
def a8h (A:a0h) (D:Int):Option (Int × a0h) :=
    (b1e A.Tables D).bind fun B =>
    some (B.1,(⟨B.2,A.Next⟩:a0h))
theorem b8f (A:a0h) (D:Int) (r:(Int × a0h)) (hf:a8h A D = some r):a1l Tryz.prog ⟨true,true,false⟩ 39 [(.agg [(.own 0 0 A.Tables.length),(.I A.Next)]),(.I D)] [.row 1 (A.Tables.map (a0m 2 l7))] (.I r.1) [.row 1 (r.2.Tables.map (a0m 2 l7))]:=by
 unfold a8h at hf;refine coh [] Tryz.func39 ?_;refine sr<|bx ?_;refine gq 1 ?_;refine o8<|a0t ?_
 obtain ⟨B,er4,hf⟩:=ob hf
 refine go 3 ?_;refine b1x (b9x (v:=(.I B.1)) (h2:=[.row 1 (B.2.map (a0m 2 l7)),.box 2 (.agg [(.own 0 0 A.Tables.length),(.I A.Next)])]) [] [0] (fun _ => rfl) (c7b _ _ _ er4) rfl .r .r rfl rfl) fun hl5 => ?_;refine gq 1 ?_;refine gq 2 ?_;refine a2q ?_;cases hf;exact b5y [] [0] rfl ⟨.of tr tr,tr⟩ rfl .r .r
def a7h :List y7 → Int → Option (Fl Int Int)
  | [],A =>
    some (.go A)
  | B :: xs,A =>
    if (B.Kind != A) then
    some (.ret (-1))
    else
    if (B.N != w64 (A + 1)) then
    some (.ret (-1))
    else
    (a3t (w64 ((w64 (A + 1)) + 1))).bind fun F =>
    if (!(B.T == F)) then
    some (.ret (-1))
    else
    a7h xs (w64 ((w64 ((w64 (A + 1)) + 1)) + 1)) 
def b1f (D:(List y7)) (E:Int):Option Int :=
    (a7h D E).bind fun q => (match q with
    | .ret r => some r
    | .go G =>
    some G)
instance w_laws_heldAtomS (D:(List y7)) (E:Int) (r:Int):Wk Tryz.prog (b1f D E = some r) 260 [(.lst 3 (D.map y8)),(.I E)] (.I r):=⟨fun hf => by
 unfold b1f at hf;refine coA [5,45] [lA [0] fun i (a:Int) => [(1,(.I a)),(5,(.I (i:Int)))],fA [] fun q:Int => [(1,(.I q))]] Tryz.func260 ?_ (sp:=[(3,[[12,18]]),(6,[[21,27]]),(9,[[30,35],[36,0,34,33,32],[37]])]);exact W⟩
def a6i :List (List y7) → Int → Option (Fl Int Int)
  | [],A =>
    some (.go A)
  | F :: xs,A =>
    (b1f F A).bind fun E =>
    if (decide (E < 0)) then
    some (.ret (-1))
    else
    a6i xs E 
def a9q (B:(List (List y7))) (D:Int):Option Int :=
    (a6i B D).bind fun q => (match q with
    | .ret r => some r
    | .go G =>
    some G)
instance w_laws_heldAtomSS (B:(List (List y7))) (D:Int) (r:Int):Wk Tryz.prog (a9q B D = some r) 297 [(.lst 1 (B.map (a0m 3 y8))),(.I D)] (.I r):=⟨fun hf => by
 unfold a9q at hf;refine coA [5,25] [lA [0] fun i (a:Int) => [(1,(.I a)),(5,(.I (i:Int)))],fA [] fun q:Int => [(1,(.I q))]] Tryz.func297 ?_;exact W⟩
def a8i :List a0c → Int → Option (Fl Int Int)
  | [],A =>
    some (.go A)
  | E :: xs,A =>
    if (E.Id != A) then
    some (.ret (-1))
    else
    (a9q E.Cells (w64 (A + 1))).bind fun F =>
    if (decide (F < 0)) then
    some (.ret (-1))
    else
    a8i xs F 
def b2t (B:(List a0c)) (D:Int):Option Int :=
    (a8i B D).bind fun q => (match q with
    | .ret r => some r
    | .go G =>
    some G)
instance w_laws_heldRowS (B:(List a0c)) (D:Int) (r:Int):Wk Tryz.prog (b2t B D = some r) 212 [(.lst 2 (B.map l7)),(.I D)] (.I r):=⟨fun hf => by
 unfold b2t at hf;refine coA [5,35] [lA [0] fun i (a:Int) => [(1,(.I a)),(5,(.I (i:Int)))],fA [] fun q:Int => [(1,(.I q))]] Tryz.func212 ?_;exact W⟩
def a7i :List (List a0c) → Int → Option (Fl Int Int)
  | [],A =>
    some (.go A)
  | F :: xs,A =>
    (b2t F A).bind fun E =>
    if (decide (E < 0)) then
    some (.ret (-1))
    else
    a7i xs E 
def b1g (B:(List (List a0c))) (D:Int):Option Int :=
    (a7i B D).bind fun q => (match q with
    | .ret r => some r
    | .go G =>
    some G)
instance w_laws_heldRowSS (B:(List (List a0c))) (D:Int) (r:Int):Wk Tryz.prog (b1g B D = some r) 116 [(.lst 1 (B.map (a0m 2 l7))),(.I D)] (.I r):=⟨fun hf => by
 unfold b1g at hf;refine coA [5,25] [lA [0] fun i (a:Int) => [(1,(.I a)),(5,(.I (i:Int)))],fA [] fun q:Int => [(1,(.I q))]] Tryz.func116 ?_;exact W⟩
def a8j (A:a0h) (B:Int):Option Int :=
    (b1g A.Tables B).bind fun D =>
    if (decide (D < 0)) then
    some (-1)
    else
    some D
instance w_laws_heldStore (A:a0h) (B:Int) (r:Int):Wk Tryz.prog (a8j A B = some r) 40 [(a1j A),(.I B)] (.I r):=⟨fun hf => by
 unfold a8j at hf;refine coA [] [] Tryz.func40 ?_;exact W⟩
abbrev wz0:List a2t:=[⟨(some 30),none,.load 2 true (.t 3)⟩,⟨(some 28),none,.load 1 true (.t 2)⟩]
abbrev wz1:List a2t:=[⟨(some 97),none,.load 2 true (.t 3)⟩,⟨(some 95),none,.load 1 true (.t 2)⟩]
abbrev wz2:List a2t:=[⟨(some 30),none,.load 2 true (.t 3)⟩]
abbrev wz3:List a2t:=[⟨(some 97),none,.load 2 true (.t 3)⟩]
def c5:a0w :=
 (.seq (.reg (tq 2 (.box 1 (.t 0)) (tq 3 (.box 2 (.t 1)) (tm 4 (.c (.bool false)) .done))))
 (.seq (.reg (im 5 1048576 .done))
 (.seq (.reg (la 17 1 2 (mv 18 5 (tq 19 (.call 30 [(.t 17),(.t 18)]) (mv 5 19 .done)))))
 (.seq (.seq (.reg (mv 20 5 (bi 21 .lss 20 0 .done)))
 (.cond (.t 21) (.seq (.reg (tm 4 (.c (.bool true)) .done))
 .ret)
 .skip))
 (.seq (.reg (la 22 2 3 (mv 23 5 (tq 24 (.call 31 [(.t 22),(.t 23)]) (mv 5 24 .done)))))
 (.seq (.seq (.reg (mv 25 5 (bi 26 .lss 25 0 .done)))
 (.cond (.t 26) (.seq (.reg (tm 4 (.c (.bool true)) .done))
 .ret)
 .skip))
 (.seq (.reg (la 28 1 2 (la 30 2 3 (.l ⟨(some 29),none,.call 33 [(.t 28)]⟩ wz2
 (.l ⟨(some 31),none,.call 34 [(.t 30)]⟩ []
 (.l ⟨(some 32),none,.call 32 [(.t 29),(.t 31)]⟩ []
 (mv 27 32 (tq 33 (.extract 0 (.t 27)) (tq 34 (.extract 1 (.t 27)) (.l ⟨(some 6),none,.box 2 (.c (.agg [.nil,(.int .i64 0)]))⟩ wz0
 (.l ⟨none,none,.store 2 (.t 6) (.t 33)⟩ []
 (mv 7 34 .done) .non) .non)))) (.l ⟨(some 6),none,.box 2 (.c (.agg [.nil,(.int .i64 0)]))⟩ wz0
 (.l ⟨(some 32),none,.call 32 [(.t 29),(.t 31)]⟩ []
 (mv 27 32 (tq 33 (.extract 0 (.t 27)) (tq 34 (.extract 1 (.t 27)) (.l ⟨none,none,.store 2 (.t 6) (.t 33)⟩ []
 (mv 7 34 .done) .non)))) .non) .non)) (.l ⟨(some 6),none,.box 2 (.c (.agg [.nil,(.int .i64 0)]))⟩ wz0
 (.l ⟨(some 31),none,.call 34 [(.t 30)]⟩ []
 (.l ⟨(some 32),none,.call 32 [(.t 29),(.t 31)]⟩ []
 (mv 27 32 (tq 33 (.extract 0 (.t 27)) (tq 34 (.extract 1 (.t 27)) (.l ⟨none,none,.store 2 (.t 6) (.t 33)⟩ []
 (mv 7 34 .done) .non)))) .non) .non) .non)) (.l ⟨(some 6),none,.box 2 (.c (.agg [.nil,(.int .i64 0)]))⟩ wz0
 (.l ⟨(some 29),none,.call 33 [(.t 28)]⟩ wz2
 (.l ⟨(some 31),none,.call 34 [(.t 30)]⟩ []
 (.l ⟨(some 32),none,.call 32 [(.t 29),(.t 31)]⟩ []
 (mv 27 32 (tq 33 (.extract 0 (.t 27)) (tq 34 (.extract 1 (.t 27)) (.l ⟨none,none,.store 2 (.t 6) (.t 33)⟩ []
 (mv 7 34 .done) .non)))) .non) .non) .non) .non)))))
 (.cut (.seq (.reg (la 35 1 2 (tq 36 (.call 33 [(.t 35)]) (tq 8 (.box 1 (.c (.agg [.nil]))) (.q ⟨none,none,.store 1 (.t 8) (.t 36)⟩
 .done)))))
 (.seq (.reg (la 37 2 3 (tq 38 (.call 34 [(.t 37)]) (tq 9 (.box 2 (.c (.agg [.nil,(.int .i64 0)]))) (.q ⟨none,none,.store 2 (.t 9) (.t 38)⟩
 .done)))))
 (.seq (.reg (la 40 1 8 (la 41 2 9 (tq 42 (.call 35 [(.t 40),(.t 41)]) (mv 39 42 (tq 43 (.extract 0 (.t 39)) (tq 44 (.extract 1 (.t 39)) (tq 10 (.box 2 (.c (.agg [.nil,(.int .i64 0)]))) (.q ⟨none,none,.store 2 (.t 10) (.t 43)⟩
 (mv 11 44 .done))))))))))
 (.seq (.seq (.reg (la 45 2 10 (la 46 2 6 (tq 47 (.call 36 [(.t 45),(.t 46)]) (tq 48 (.not (.t 47)) (mv 49 48 (tg 50 49 false (.mov (.t 11)) (tg 51 49 false (.mov (.t 7)) (tg 52 49 false (.bin .neq (.t 50) (.t 51)) (tq 53 (.pick (.t 49) (.c (.bool true)) (.t 52)) .done))))))))))
 (.cut (.cond (.t 53) (.seq (.reg (tm 4 (.c (.bool false)) .done))
 .ret)
 .skip)))
 (.seq (.seq (.reg (la 54 1 8 (la 55 1 2 (.l ⟨(some 56),none,.call 33 [(.t 55)]⟩ [⟨(some 54),none,.load 1 true (.t 8)⟩]
 (.l ⟨(some 57),none,.call 37 [(.t 54),(.t 56)]⟩ []
 (tq 58 (.not (.t 57)) .done) .non) .non))))
 (.cond (.t 58) (.seq (.reg (tm 4 (.c (.bool false)) .done))
 .ret)
 .skip))
 (.seq (.seq (.reg (la 59 2 9 (la 60 2 3 (.l ⟨(some 61),none,.call 34 [(.t 60)]⟩ [⟨(some 59),none,.load 2 true (.t 9)⟩]
 (.l ⟨(some 62),none,.call 36 [(.t 59),(.t 61)]⟩ []
 (tq 63 (.not (.t 62)) .done) .non) .non))))
 (.cond (.t 63) (.seq (.reg (tm 4 (.c (.bool false)) .done))
 .ret)
 .skip))
 (.seq (.reg (im 12 1 .done))
 (.seq (.reg (la 64 1 8 (mv 65 12 (tq 66 (.call 38 [(.t 64),(.t 65)]) (mv 12 66 .done)))))
 (.seq (.reg (la 67 2 9 (mv 68 12 (tq 69 (.call 39 [(.t 67),(.t 68)]) (mv 12 69 .done)))))
 (.seq (.seq (.reg (mv 70 12 (bi 71 .lss 70 0 (mv 72 71 (tg 73 72 false (.load 2 true (.t 10)) (tg 74 72 false (.load 2 true (.t 6)) (tg 75 72 false (.call 36 [(.t 73),(.t 74)]) (tg 76 72 false (.not (.t 75)) (tq 77 (.pick (.t 72) (.c (.bool true)) (.t 76)) (mv 78 77 (tg 79 78 false (.mov (.t 11)) (tg 80 78 false (.mov (.t 7)) (tg 81 78 false (.bin .neq (.t 79) (.t 80)) (tq 82 (.pick (.t 78) (.c (.bool true)) (.t 81)) .done))))))))))))))
 (.cut (.cond (.t 82) (.seq (.reg (tm 4 (.c (.bool false)) .done))
 .ret)
 .skip)))
 (.seq (.reg (im 13 1 .done))
 (.seq (.reg (la 83 2 10 (mv 84 13 (tq 85 (.call 39 [(.t 83),(.t 84)]) (mv 13 85 .done)))))
 (.seq (.reg (im 14 1 .done))
 (.seq (.reg (la 86 2 10 (mv 87 14 (tq 88 (.call 40 [(.t 86),(.t 87)]) (mv 14 88 .done)))))
 (.seq (.seq (.reg (mv 89 14 (bi 90 .lss 89 0 .done)))
 (.cond (.t 90) (.seq (.reg (tm 4 (.c (.bool false)) .done))
 .ret)
 .skip))
 (.seq (.seq (.reg (mv 91 14 (mv 92 13 (bt 93 .neq 91 92 .done))))
 (.cond (.t 93) (.seq (.reg (tm 4 (.c (.bool false)) .done))
 .ret)
 .skip))
 (.seq (.reg (la 95 1 2 (la 97 2 3 (.l ⟨(some 96),none,.call 33 [(.t 95)]⟩ wz3
 (.l ⟨(some 98),none,.call 34 [(.t 97)]⟩ []
 (.l ⟨(some 99),none,.call 35 [(.t 96),(.t 98)]⟩ []
 (mv 94 99 (tq 100 (.extract 0 (.t 94)) (tq 101 (.extract 1 (.t 94)) (.l ⟨(some 15),none,.box 2 (.c (.agg [.nil,(.int .i64 0)]))⟩ wz1
 (.l ⟨none,none,.store 2 (.t 15) (.t 100)⟩ []
 (mv 16 101 .done) .non) .non)))) (.l ⟨(some 15),none,.box 2 (.c (.agg [.nil,(.int .i64 0)]))⟩ wz1
 (.l ⟨(some 99),none,.call 35 [(.t 96),(.t 98)]⟩ []
 (mv 94 99 (tq 100 (.extract 0 (.t 94)) (tq 101 (.extract 1 (.t 94)) (.l ⟨none,none,.store 2 (.t 15) (.t 100)⟩ []
 (mv 16 101 .done) .non)))) .non) .non)) (.l ⟨(some 15),none,.box 2 (.c (.agg [.nil,(.int .i64 0)]))⟩ wz1
 (.l ⟨(some 98),none,.call 34 [(.t 97)]⟩ []
 (.l ⟨(some 99),none,.call 35 [(.t 96),(.t 98)]⟩ []
 (mv 94 99 (tq 100 (.extract 0 (.t 94)) (tq 101 (.extract 1 (.t 94)) (.l ⟨none,none,.store 2 (.t 15) (.t 100)⟩ []
 (mv 16 101 .done) .non)))) .non) .non) .non)) (.l ⟨(some 15),none,.box 2 (.c (.agg [.nil,(.int .i64 0)]))⟩ wz1
 (.l ⟨(some 96),none,.call 33 [(.t 95)]⟩ wz3
 (.l ⟨(some 98),none,.call 34 [(.t 97)]⟩ []
 (.l ⟨(some 99),none,.call 35 [(.t 96),(.t 98)]⟩ []
 (mv 94 99 (tq 100 (.extract 0 (.t 94)) (tq 101 (.extract 1 (.t 94)) (.l ⟨none,none,.store 2 (.t 15) (.t 100)⟩ []
 (mv 16 101 .done) .non)))) .non) .non) .non) .non)))))
 (.cut (.seq (.seq (.reg (la 102 2 15 (la 103 2 6 (tq 104 (.call 36 [(.t 102),(.t 103)]) (tq 105 (.not (.t 104)) (mv 106 105 (tg 107 106 false (.mov (.t 16)) (tg 108 106 false (.mov (.t 7)) (tg 109 106 false (.bin .neq (.t 107) (.t 108)) (tq 110 (.pick (.t 106) (.c (.bool true)) (.t 109)) .done))))))))))
 (.cut (.cond (.t 110) (.seq (.reg (tm 4 (.c (.bool false)) .done))
 .ret)
 .skip)))
 (.seq (.reg (im 14 1 .done))
 (.seq (.reg (la 111 2 10 (mv 112 14 (tq 113 (.call 40 [(.t 111),(.t 112)]) (mv 14 113 .done)))))
 (.seq (.seq (.reg (mv 114 14 (bi 115 .lss 114 0 .done)))
 (.cond (.t 115) (.seq (.reg (tm 4 (.c (.bool false)) .done))
 .ret)
 .skip))
 (.seq (.seq (.reg (mv 116 14 (mv 117 13 (bt 118 .neq 116 117 .done))))
 (.cond (.t 118) (.seq (.reg (tm 4 (.c (.bool false)) .done))
 .ret)
 .skip))
 (.seq (.reg (tm 4 (.c (.bool true)) .done))
 .ret))))))))))))))))))))))))))))))))
theorem fc5:b7m Tryz.prog Tryz.f5 = some (c5.erase,[.mov (.t 4)],119):=by kernel_rfl
def b0g (H:a0b) (E:a0h):Option Bool :=
    (b2b H 1048576).bind fun Ah =>
    if (decide (Ah < 0)) then
    some true
    else
    (b3x E Ah).bind fun Ao =>
    if (decide (Ao < 0)) then
    some true
    else
    (((a6d H).bind fun O =>
    (a6z E).bind fun J =>
    (b7d O J).bind fun A =>
    some (A.2,A.1.Next,A.1.Tables):Option (Int × Int × (List (List a0c))))).bind fun p18 =>
    (match p18 with
    | (M,P,F) =>
    (a6d H).bind fun N =>
    (a6z E).bind fun G =>
    (b4t N G).bind fun D =>
    (((a7f D.1 (⟨F,P⟩:a0h)).bind fun Ai =>
    if (!Ai) then
    some true
    else
    some (D.2 != M):Option Bool)).bind fun Y =>
    if Y then
    some false
    else
    (a6d H).bind fun U =>
    (b2q N U).bind fun Aj =>
    if (!Aj) then
    some false
    else
    (a6z E).bind fun T =>
    (a7f G T).bind fun Ak =>
    if (!Ak) then
    some false
    else
    (a9o N 1).bind fun Z =>
    (a8h G Z.1).bind fun Ac =>
    ((if (decide (Ac.1 < 0)) then
    some true
    else
    (a7f D.1 (⟨F,P⟩:a0h)).bind fun Aa =>
    some (bif (!Aa) then true else (D.2 != M)):Option Bool)).bind fun Ab =>
    if Ab then
    some false
    else
    (a8h D.1 1).bind fun L =>
    (a8j (⟨L.2.Tables,D.1.Next⟩:a0h) 1).bind fun Ae =>
    if (decide (Ae < 0)) then
    some false
    else
    if (Ae != L.1) then
    some false
    else
    (((a6d H).bind fun S =>
    (a6z E).bind fun K =>
    (b4t S K).bind fun B =>
    some (B.2,B.1.Next,B.1.Tables):Option (Int × Int × (List (List a0c))))).bind fun p81 =>
    (match p81 with
    | (Ag,Al,Ad) =>
    (((a7f (⟨Ad,Al⟩:a0h) (⟨F,P⟩:a0h)).bind fun Am =>
    if (!Am) then
    some true
    else
    some (Ag != M):Option Bool)).bind fun V =>
    if V then
    some false
    else
    (a8j (⟨L.2.Tables,D.1.Next⟩:a0h) 1).bind fun Af =>
    if (decide (Af < 0)) then
    some false
    else
    if (Af != L.1) then
    some false
    else
    some true))
instance w_laws_FnExactPrune (H:a0b) (E:a0h) (r:Bool):Wk Tryz.prog (b0g H E = some r) 5 [(a1h H),(a1j E)] (.bool r):=⟨fun hf => by
 refine a0k.of_awp' (md:=⟨true,true,true⟩) (fun _ => rfl) (fun _ => rfl) (fun h => by cases h) mixed Tryz.func5 fc5 nle ?_;rw [c4z];unfold b0g at hf;unfold c5;refine (show awp Tryz.prog ⟨true,true,true⟩ 0 _ (ofL [(0,(a1h H)),(1,(a1j E))]) [] _ from ?_);refine sr<|bx ?_;refine bx ?_;refine gq 1 ?_;refine gq 1 ?_;refine o8<|a0t ?_
 obtain ⟨Ah,er4,hf⟩:=ob hf
 refine go 2 ?_;refine cl (w_laws_szSchema _ _ _ er4) ?_;refine gq 1 ?_;refine gq 2 ?_
 rcases oi hf with ⟨c5,hf⟩ | ⟨c5,hf⟩
 ·refine wt c5 ?_;refine gq 1 ?_;refine a2q ?_;cases hf;exact a8s ⟨.of tr tr,tr⟩ rfl .r
 ·refine wf c5<|a0v<|a0i<|o8<|a0t ?_
  obtain ⟨Ao,er7,hf⟩:=ob hf
  refine go 2 ?_;refine cl (w_laws_szStore _ _ _ er7) ?_;refine gq 1 ?_;refine gq 2 ?_
  rcases oi hf with ⟨c8,hf⟩ | ⟨c8,hf⟩
  ·refine wt c8 ?_;refine gq 1 ?_;refine a2q ?_;cases hf;exact a8s ⟨.of tr tr,tr⟩ rfl .r
  ·refine wf c8<|a0v<|a0i<|o8 ?_
   obtain ⟨p18,hb1,hf⟩:=ob hf
   refine a1r ([(2,(.ptr 0 0 0)),(3,(.ptr 1 0 0)),(6,(.ptr 2 0 0)),(7,(.I p18.1))],[.box 1 (.agg [(.lst 4 (H.Tables.map y9))]),.box 2 (.agg [(.lst 1 (E.Tables.map (a0m 2 l7))),(.I E.Next)]),.box 2 (.agg [(.own 3 0 p18.2.2.length),(.I p18.2.1)]),.row 1 (p18.2.2.map (a0m 2 l7))]) ?_ ?_
   ·refine a0t ?_
    obtain ⟨O,er20,hb1⟩:=ob hb1
    obtain ⟨J,er22,hb1⟩:=ob hb1
    obtain ⟨A,er24,hb1⟩:=ob hb1
    refine go 2 ?_;refine a4s (a2r (v:=(.agg [(.own 2 0 O.Tables.length)])) (h':=[.row 4 (O.Tables.map y9)]) (a6r _ _ er20) rfl .r (by simp only [a1u,a1w,List.length_map,a9v,List.nil_append,List.append_nil,List.cons_append];rfl)) (.inr ⟨⟨(.of nle tr),rfl⟩,tr⟩) ?_ ?_
    ·refine a4s (b6w (j:=2) (c:=(.agg [.nil,(.I 0)])) rfl tr rfl rfl) (.inr ⟨⟨(.of nle tr),rfl⟩,⟨⟨(.of nle tr),rfl⟩,tr⟩⟩) tr<|a4s (a2r (v:=(.agg [(.own 3 0 O.Tables.length)])) (h':=[.row 4 (O.Tables.map y9)]) (a6r _ _ er20) rfl .r (by simp only [a1u,a1w,List.length_map,a9v,List.nil_append,List.append_nil,List.cons_append];rfl)) (.inr ⟨⟨(.of nle tr),rfl⟩,tr⟩) tr<|a4s (a2r (v:=(.agg [(.own 4 0 J.Tables.length),(.I J.Next)])) (h':=[.row 1 (J.Tables.map (a0m 2 l7))]) (a5k _ _ er22) rfl .r (by simp only [a1u,a1w,List.length_map,a1x,List.nil_append,List.append_nil,List.cons_append];rfl)) tr tr ?_
     refine a4s (a2r (v:=(.tup [(.agg [(.own 5 0 A.1.Tables.length),(.I A.1.Next)]),(.I A.2)])) (h':=[.row 1 (A.1.Tables.map (a0m 2 l7))]) (b6i _ _ _ er24) rfl (.cons (.agg (.cons (.of_eq (congrArg (AV.lst _) (tko (enc:=y9) O.Tables))) .nil)) (.cons (.agg (.cons (.of_eq (congrArg (AV.lst _) (tko (enc:=(a0m 2 l7)) J.Tables))) (.cons .r .nil))) .nil)) (by simp only [a1u,a1w,List.length_map,a1x,List.nil_append,List.append_nil,List.cons_append];rfl)) tr tr ?_;refine go 2 ?_
     refine go 1 ?_;refine b8p (a3y (v:=(.agg [(.own 5 0 A.1.Tables.length),(.I A.1.Next)])) (y':=(.agg [(.own 5 0 A.1.Tables.length),(.I A.1.Next)])) rfl rfl rfl tr ⟨rfl,nle⟩ ⟨⟨rfl,tr⟩,⟨⟨rfl,tr⟩,tr⟩⟩ rfl) tr tr ?_;refine gd 1 ?_;cases hb1;exact ck [0,1,2,5]
    ·refine a4s (a2r (v:=(.agg [(.own 3 0 J.Tables.length),(.I J.Next)])) (h':=[.row 1 (J.Tables.map (a0m 2 l7))]) (a5k _ _ er22) rfl .r (by simp only [a1u,a1w,List.length_map,a1x,List.nil_append,List.append_nil,List.cons_append];rfl)) tr ?_ ?_
     ·refine a4s (b6w (j:=3) (c:=(.agg [.nil,(.I 0)])) rfl tr rfl rfl) (.inr ⟨⟨(.of nle tr),rfl⟩,⟨⟨(.of nle tr),rfl⟩,tr⟩⟩) tr<|a4s (a2r (v:=(.agg [(.own 4 0 J.Tables.length),(.I J.Next)])) (h':=[.row 1 (J.Tables.map (a0m 2 l7))]) (a5k _ _ er22) rfl .r (by simp only [a1u,a1w,List.length_map,a1x,List.nil_append,List.append_nil,List.cons_append];rfl)) tr tr<|a4s (a2r (v:=(.tup [(.agg [(.own 5 0 A.1.Tables.length),(.I A.1.Next)]),(.I A.2)])) (h':=[.row 1 (A.1.Tables.map (a0m 2 l7))]) (b6i _ _ _ er24) rfl (.cons (.agg (.cons (.of_eq (congrArg (AV.lst _) (tko (enc:=y9) O.Tables))) .nil)) (.cons (.agg (.cons (.of_eq (congrArg (AV.lst _) (tko (enc:=(a0m 2 l7)) J.Tables))) (.cons .r .nil))) .nil)) (by simp only [a1u,a1w,List.length_map,a1x,List.nil_append,List.append_nil,List.cons_append];rfl)) tr tr ?_
      refine go 3 ?_;refine b8p (a3y (v:=(.agg [(.own 5 0 A.1.Tables.length),(.I A.1.Next)])) (y':=(.agg [(.own 5 0 A.1.Tables.length),(.I A.1.Next)])) rfl rfl rfl tr ⟨rfl,nle⟩ ⟨⟨rfl,tr⟩,⟨⟨rfl,tr⟩,tr⟩⟩ rfl) tr tr ?_;refine gd 1 ?_;cases hb1;exact ck [0,1,3,5]
     ·refine a4s (a2r (v:=(.tup [(.agg [(.own 4 0 A.1.Tables.length),(.I A.1.Next)]),(.I A.2)])) (h':=[.row 1 (A.1.Tables.map (a0m 2 l7))]) (b6i _ _ _ er24) rfl (.cons (.agg (.cons (.of_eq (congrArg (AV.lst _) (tko (enc:=y9) O.Tables))) .nil)) (.cons (.agg (.cons (.of_eq (congrArg (AV.lst _) (tko (enc:=(a0m 2 l7)) J.Tables))) (.cons .r .nil))) .nil)) (by simp only [a1u,a1w,List.length_map,a1x,List.nil_append,List.append_nil,List.cons_append];rfl)) tr ?_ ?_
      ·refine a4s (b6w (j:=4) (c:=(.agg [.nil,(.I 0)])) rfl tr rfl rfl) (.inr ⟨⟨(.of nle tr),rfl⟩,⟨⟨(.of nle tr),rfl⟩,tr⟩⟩) tr<|a4s (a2r (v:=(.tup [(.agg [(.own 5 0 A.1.Tables.length),(.I A.1.Next)]),(.I A.2)])) (h':=[.row 1 (A.1.Tables.map (a0m 2 l7))]) (b6i _ _ _ er24) rfl (.cons (.agg (.cons (.of_eq (congrArg (AV.lst _) (tko (enc:=y9) O.Tables))) .nil)) (.cons (.agg (.cons (.of_eq (congrArg (AV.lst _) (tko (enc:=(a0m 2 l7)) J.Tables))) (.cons .r .nil))) .nil)) (by simp only [a1u,a1w,List.length_map,a1x,List.nil_append,List.append_nil,List.cons_append];rfl)) tr tr ?_
       refine go 3 ?_;refine b8p (a3y (v:=(.agg [(.own 5 0 A.1.Tables.length),(.I A.1.Next)])) (y':=(.agg [(.own 5 0 A.1.Tables.length),(.I A.1.Next)])) rfl rfl rfl tr ⟨rfl,nle⟩ ⟨⟨rfl,tr⟩,⟨⟨rfl,tr⟩,tr⟩⟩ rfl) tr tr ?_;refine gd 1 ?_;cases hb1;exact ck [0,1,4,5]
      ·refine go 3 ?_;refine a4s (b6w (j:=5) (c:=(.agg [.nil,(.I 0)])) rfl tr rfl rfl) (.inr ⟨⟨(.of nle tr),rfl⟩,⟨⟨(.of nle tr),rfl⟩,tr⟩⟩) tr<|b8p (a3y (v:=(.agg [(.own 4 0 A.1.Tables.length),(.I A.1.Next)])) (y':=(.agg [(.own 4 0 A.1.Tables.length),(.I A.1.Next)])) rfl rfl rfl tr ⟨rfl,nle⟩ ⟨⟨rfl,tr⟩,⟨⟨rfl,tr⟩,tr⟩⟩ rfl) tr tr ?_;refine go 1 ?_
       refine a1a ?_;cases hb1;exact ck [0,1,5,4]
   ·obtain ⟨M,P,F⟩:=p18
    refine o8<|a0t ?_
    obtain ⟨N,er26,hf⟩:=ob hf
    refine go 1 ?_;refine a0x (a2r (v:=(.agg [(.own 4 0 N.Tables.length)])) (h':=[.row 4 (N.Tables.map y9)]) (a6r _ _ er26) rfl .r (by simp only [a1u,a1w,List.length_map,a9v,List.nil_append,List.append_nil,List.cons_append];rfl))<|bx ?_;refine sb ?_;refine dk<|o8<|a0t ?_
    obtain ⟨G,er28,hf⟩:=ob hf
    refine go 1 ?_;refine a0x (a2r (v:=(.agg [(.own 6 0 G.Tables.length),(.I G.Next)])) (h':=[.row 1 (G.Tables.map (a0m 2 l7))]) (a5k _ _ er28) rfl .r (by simp only [a1u,a1w,List.length_map,a1x,List.nil_append,List.append_nil,List.cons_append];rfl))<|bx ?_;refine sb ?_
    refine dk<|o8<|a0t ?_
    obtain ⟨D,er30,hf⟩:=ob hf
    refine go 2 ?_;refine a0x (a2r (v:=(.tup [(.agg [(.own 8 0 D.1.Tables.length),(.I D.1.Next)]),(.I D.2)])) (h':=[.row 1 (D.1.Tables.map (a0m 2 l7))]) (b4k _ _ _ er30) rfl (.cons (.agg (.cons (.of_eq (congrArg (AV.lst _) (tko (enc:=y9) N.Tables))) .nil)) (.cons (.agg (.cons (.of_eq (congrArg (AV.lst _) (tko (enc:=(a0m 2 l7)) G.Tables))) (.cons .r .nil))) .nil)) (by simp only [a1u,a1w,List.length_map,a1x,List.nil_append,List.append_nil,List.cons_append];rfl)) ?_
    refine go 3 ?_;refine bx ?_;refine sb ?_;refine gq 1 ?_;refine o8<|o8 ?_
    obtain ⟨Y,hb1,hf⟩:=ob hf
    refine a1r ([(2,(.ptr 0 0 0)),(3,(.ptr 1 0 0)),(6,(.ptr 2 0 0)),(7,(.I M)),(8,(.ptr 3 0 0)),(9,(.ptr 4 0 0)),(10,(.ptr 5 0 0)),(11,(.I D.2)),(53,(.bool Y))],[.box 1 (.agg [(.lst 4 (H.Tables.map y9))]),.box 2 (.agg [(.lst 1 (E.Tables.map (a0m 2 l7))),(.I E.Next)]),.box 2 (.agg [(.own 6 0 F.length),(.I P)]),.box 1 (.agg [(.own 7 0 N.Tables.length)]),.box 2 (.agg [(.own 8 0 G.Tables.length),(.I G.Next)]),.box 2 (.agg [(.own 9 0 D.1.Tables.length),(.I D.1.Next)]),.row 1 (F.map (a0m 2 l7)),.row 4 (N.Tables.map y9),.row 1 (G.Tables.map (a0m 2 l7)),.row 1 (D.1.Tables.map (a0m 2 l7))]) ?_ ?_
    ·refine a0t ?_
     obtain ⟨Ai,er37,hb1⟩:=ob hb1
     rcases oi hb1 with ⟨c38,hb1⟩ | ⟨c38,hb1⟩
     ·refine go 2 ?_;refine a0x (b3c (w_laws_eqStore _ _ _ er37) rfl (.cons (.agg (.cons (.of_eq (congrArg (AV.lst _) (tko (enc:=(a0m 2 l7)) D.1.Tables))) (.cons .r .nil))) (.cons (.agg (.cons (.of_eq (congrArg (AV.lst _) (tko (enc:=(a0m 2 l7)) F))) (.cons .r .nil))) .nil)) rfl) ?_;refine go 2 ?_;refine sl 49 c38 ?_;refine gd 4 ?_
      cases hb1;exact ck [0,1,2,5,7,9,3,4,6,8]
     ·refine go 2 ?_;refine a0x (b3c (w_laws_eqStore _ _ _ er37) rfl (.cons (.agg (.cons (.of_eq (congrArg (AV.lst _) (tko (enc:=(a0m 2 l7)) D.1.Tables))) (.cons .r .nil))) (.cons (.agg (.cons (.of_eq (congrArg (AV.lst _) (tko (enc:=(a0m 2 l7)) F))) (.cons .r .nil))) .nil)) rfl) ?_;refine go 2 ?_;refine sf 49 c38 ?_;refine go 3 ?_
      refine gd 1 ?_;cases hb1;exact ck [0,1,2,5,7,9,3,4,6,8]
    ·rcases oi hf with ⟨c39,hf⟩ | ⟨c39,hf⟩
     ·refine wt c39 ?_;refine gq 1 ?_;refine a2q ?_;cases hf;exact a8s ⟨.of tr tr,tr⟩ rfl .r
     ·refine wf c39<|a0v<|a0i<|o8<|o8<|a0t ?_
      obtain ⟨U,er41,hf⟩:=ob hf
      obtain ⟨Aj,er43,hf⟩:=ob hf
      refine go 2 ?_;refine a4s (a2r (v:=(.agg [(.own 10 0 U.Tables.length)])) (h':=[.row 4 (U.Tables.map y9)]) (a6r _ _ er41) rfl .r (by simp only [a1u,a1w,List.length_map,a9v,List.nil_append,List.append_nil,List.cons_append];rfl)) (.inr ⟨⟨(.of nle tr),rfl⟩,tr⟩) tr<|a4s (b3c (w_laws_eqSchema _ _ _ er43) rfl (.cons (.agg (.cons (.of_eq (congrArg (AV.lst _) (tko (enc:=y9) N.Tables))) .nil)) (.cons (.agg (.cons (.of_eq (congrArg (AV.lst _) (tko (enc:=y9) U.Tables))) .nil)) .nil)) rfl) c6r tr ?_
      refine gq 1 ?_
      rcases oi hf with ⟨c44,hf⟩ | ⟨c44,hf⟩
      ·refine wt c44 ?_;refine gq 1 ?_;refine a2q ?_;cases hf;exact a8s ⟨.of tr tr,tr⟩ rfl .r
      ·refine wf c44<|a0v<|a0i<|o8<|o8<|a0t ?_
       obtain ⟨T,er46,hf⟩:=ob hf
       obtain ⟨Ak,er48,hf⟩:=ob hf
       refine go 2 ?_;refine a4s (a2r (v:=(.agg [(.own 11 0 T.Tables.length),(.I T.Next)])) (h':=[.row 1 (T.Tables.map (a0m 2 l7))]) (a5k _ _ er46) rfl .r (by simp only [a1u,a1w,List.length_map,a1x,List.nil_append,List.append_nil,List.cons_append];rfl)) (.inr ⟨⟨(.of nle tr),rfl⟩,tr⟩) tr<|a4s (b3c (w_laws_eqStore _ _ _ er48) rfl (.cons (.agg (.cons (.of_eq (congrArg (AV.lst _) (tko (enc:=(a0m 2 l7)) G.Tables))) (.cons .r .nil))) (.cons (.agg (.cons (.of_eq (congrArg (AV.lst _) (tko (enc:=(a0m 2 l7)) T.Tables))) (.cons .r .nil))) .nil)) rfl) c6r tr ?_
       refine gq 1 ?_
       rcases oi hf with ⟨c49,hf⟩ | ⟨c49,hf⟩
       ·refine wt c49 ?_;refine gq 1 ?_;refine a2q ?_;cases hf;exact a8s ⟨.of tr tr,tr⟩ rfl .r
       ·refine wf c49<|a0v<|a0i ?_;refine gq 1 ?_;refine o8<|a0t ?_
        obtain ⟨Z,er51,hf⟩:=ob hf
        refine go 2 ?_;refine b1x (b9x (v:=(.I Z.1)) (h2:=[.box 1 (.agg [(.lst 4 (H.Tables.map y9))]),.box 2 (.agg [(.lst 1 (E.Tables.map (a0m 2 l7))),(.I E.Next)]),.box 2 (.agg [(.own 6 0 F.length),(.I P)]),.box 1 (.agg [(.own 7 0 N.Tables.length)]),.box 2 (.agg [(.own 8 0 G.Tables.length),(.I G.Next)]),.box 2 (.agg [(.own 9 0 D.1.Tables.length),(.I D.1.Next)]),.row 1 (F.map (a0m 2 l7)),.row 4 (Z.2.Tables.map y9),.row 1 (G.Tables.map (a0m 2 l7)),.row 1 (D.1.Tables.map (a0m 2 l7)),.row 4 (U.Tables.map y9),.row 1 (T.Tables.map (a0m 2 l7))]) [] [7] (fun _ => rfl) (c5h _ _ _ er51) rfl .r .r rfl rfl) fun hl52 => ?_
        refine gq 1 ?_;refine o8<|a0t ?_
        obtain ⟨Ac,er54,hf⟩:=ob hf
        refine go 2 ?_;refine b1x (b9x (v:=(.I Ac.1)) (h2:=[.box 1 (.agg [(.lst 4 (H.Tables.map y9))]),.box 2 (.agg [(.lst 1 (E.Tables.map (a0m 2 l7))),(.I E.Next)]),.box 2 (.agg [(.own 6 0 F.length),(.I P)]),.box 1 (.agg [(.own 7 0 N.Tables.length)]),.box 2 (.agg [(.own 8 0 G.Tables.length),(.I G.Next)]),.box 2 (.agg [(.own 9 0 D.1.Tables.length),(.I D.1.Next)]),.row 1 (F.map (a0m 2 l7)),.row 4 (Z.2.Tables.map y9),.row 1 (Ac.2.Tables.map (a0m 2 l7)),.row 1 (D.1.Tables.map (a0m 2 l7)),.row 4 (U.Tables.map y9),.row 1 (T.Tables.map (a0m 2 l7))]) [] [8] (fun _ => rfl) (b8f _ _ _ er54) rfl .r .r rfl rfl) fun hl55 => ?_
        refine gq 1 ?_;refine o8<|o8 ?_
        obtain ⟨Ab,hb1,hf⟩:=ob hf
        refine a1r ([(2,(.ptr 0 0 0)),(3,(.ptr 1 0 0)),(6,(.ptr 2 0 0)),(7,(.I M)),(10,(.ptr 3 0 0)),(82,(.bool Ab))],[.box 1 (.agg [(.lst 4 (H.Tables.map y9))]),.box 2 (.agg [(.lst 1 (E.Tables.map (a0m 2 l7))),(.I E.Next)]),.box 2 (.agg [(.own 4 0 F.length),(.I P)]),.box 2 (.agg [(.own 5 0 D.1.Tables.length),(.I D.1.Next)]),.row 1 (F.map (a0m 2 l7)),.row 1 (D.1.Tables.map (a0m 2 l7))]) ?_ ?_
        ·refine go 3 ?_
         rcases oi hb1 with ⟨c61,hb1⟩ | ⟨c61,hb1⟩
         ·refine sl 72 c61 ?_;refine gd 10 ?_;cases hb1;exact ck [0,1,2,5,6,9]
         ·refine sf 72 c61 ?_;refine go 2 ?_;refine s_on rfl ?_
          obtain ⟨Aa,er63,hb1⟩:=ob hb1
          refine a0x (b3c (w_laws_eqStore _ _ _ er63) rfl (.cons (.agg (.cons (.of_eq (congrArg (AV.lst _) (tko (enc:=(a0m 2 l7)) D.1.Tables))) (.cons .r .nil))) (.cons (.agg (.cons (.of_eq (congrArg (AV.lst _) (tko (enc:=(a0m 2 l7)) F))) (.cons .r .nil))) .nil)) rfl) ?_;refine go 3 ?_;refine s_g (v:=(!Aa)) (.I D.2) rfl (fun hv => by (try simp only [a2u hv]);exact ⟨rfl,.of tr tr,rfl⟩) ?_;refine s_g (v:=(!Aa)) (.I M) rfl (fun hv => by (try simp only [a2u hv]);exact ⟨rfl,.of tr tr,rfl⟩) ?_
          refine s_g (v:=(!Aa)) (.bool (D.2 != M)) rfl (fun hv => by (try simp only [a2u hv]);exact ⟨rfl,(.of rfl tr),rfl⟩) ?_;refine b9z (x:=true) (y:=(D.2 != M)) rfl (fun hv => by (try simp only [a2u hv]);rfl) (fun hv => by (try simp only [a2u hv]);rfl) ?_;refine a1a ?_;cases hb1;exact ck [0,1,2,5,6,9]
        ·rcases oi hf with ⟨c64,hf⟩ | ⟨c64,hf⟩
         ·refine wt c64 ?_;refine gq 1 ?_;refine a2q ?_;cases hf;exact a8s ⟨.of tr tr,tr⟩ rfl .r
         ·refine wf c64<|a0v<|a0i ?_;refine gq 1 ?_;refine o8<|a0t ?_
          obtain ⟨L,er66,hf⟩:=ob hf
          refine go 2 ?_;refine b1x (b9x (v:=(.I L.1)) (h2:=[.box 1 (.agg [(.lst 4 (H.Tables.map y9))]),.box 2 (.agg [(.lst 1 (E.Tables.map (a0m 2 l7))),(.I E.Next)]),.box 2 (.agg [(.own 4 0 F.length),(.I P)]),.box 2 (.agg [(.own 5 0 D.1.Tables.length),(.I D.1.Next)]),.row 1 (F.map (a0m 2 l7)),.row 1 (L.2.Tables.map (a0m 2 l7))]) [] [5] (fun _ => rfl) (b8f _ _ _ er66) rfl .r .r rfl rfl) fun hl67 => ?_;refine gq 1 ?_;refine go 1 ?_
          refine dk<|o8<|a0t ?_
          obtain ⟨Ae,er69,hf⟩:=ob hf
          refine go 2 ?_;refine a0x (b3c (w_laws_heldStore _ _ _ er69) rfl (.cons (.agg (.cons (.of_eq (congrArg (AV.lst _) (f5u (hl67 0 _ _ _ _ rfl rfl)))) (.cons .r .nil))) (.cons .r .nil)) rfl) ?_;refine gq 1 ?_;refine gq 2 ?_
          rcases oi hf with ⟨c70,hf⟩ | ⟨c70,hf⟩
          ·refine wt c70 ?_;refine gq 1 ?_;refine a2q ?_;cases hf;exact a8s ⟨.of tr tr,tr⟩ rfl .r
          ·refine wf c70<|a0v<|a0i ?_;refine gq 3 ?_
           rcases oi hf with ⟨c71,hf⟩ | ⟨c71,hf⟩
           ·refine wt c71 ?_;refine gq 1 ?_;refine a2q ?_;cases hf;exact a8s ⟨.of tr tr,tr⟩ rfl .r
           ·refine wf c71<|a0v<|a0i<|o8 ?_
            obtain ⟨p81,hb1,hf⟩:=ob hf
            refine a1r ([(6,(.ptr 0 0 0)),(7,(.I M)),(10,(.ptr 1 0 0)),(13,(.I L.1)),(15,(.ptr 2 0 0)),(16,(.I p81.1))],[.box 2 (.agg [(.own 3 0 F.length),(.I P)]),.box 2 (.agg [(.own 4 0 L.2.Tables.length),(.I D.1.Next)]),.box 2 (.agg [(.own 5 0 p81.2.2.length),(.I p81.2.1)]),.row 1 (F.map (a0m 2 l7)),.row 1 (L.2.Tables.map (a0m 2 l7)),.row 1 (p81.2.2.map (a0m 2 l7))]) ?_ ?_
            ·refine a0t ?_
             obtain ⟨S,er83,hb1⟩:=ob hb1
             obtain ⟨K,er85,hb1⟩:=ob hb1
             obtain ⟨B,er87,hb1⟩:=ob hb1
             refine go 2 ?_;refine a4s (a2r (v:=(.agg [(.own 6 0 S.Tables.length)])) (h':=[.row 4 (S.Tables.map y9)]) (a6r _ _ er83) rfl .r (by simp only [a1u,a1w,List.length_map,a9v,List.nil_append,List.append_nil,List.cons_append];rfl)) (.inr ⟨⟨(.of nle tr),rfl⟩,tr⟩) ?_ ?_
             ·refine a4s (b6w (j:=6) (c:=(.agg [.nil,(.I 0)])) rfl tr rfl rfl) (.inr ⟨⟨(.of nle tr),rfl⟩,⟨⟨(.of nle tr),rfl⟩,tr⟩⟩) tr<|a4s (a2r (v:=(.agg [(.own 7 0 S.Tables.length)])) (h':=[.row 4 (S.Tables.map y9)]) (a6r _ _ er83) rfl .r (by simp only [a1u,a1w,List.length_map,a9v,List.nil_append,List.append_nil,List.cons_append];rfl)) (.inr ⟨⟨(.of nle tr),rfl⟩,tr⟩) tr<|a4s (a2r (v:=(.agg [(.own 8 0 K.Tables.length),(.I K.Next)])) (h':=[.row 1 (K.Tables.map (a0m 2 l7))]) (a5k _ _ er85) rfl .r (by simp only [a1u,a1w,List.length_map,a1x,List.nil_append,List.append_nil,List.cons_append];rfl)) tr tr ?_
              refine a4s (a2r (v:=(.tup [(.agg [(.own 9 0 B.1.Tables.length),(.I B.1.Next)]),(.I B.2)])) (h':=[.row 1 (B.1.Tables.map (a0m 2 l7))]) (b4k _ _ _ er87) rfl (.cons (.agg (.cons (.of_eq (congrArg (AV.lst _) (tko (enc:=y9) S.Tables))) .nil)) (.cons (.agg (.cons (.of_eq (congrArg (AV.lst _) (tko (enc:=(a0m 2 l7)) K.Tables))) (.cons .r .nil))) .nil)) (by simp only [a1u,a1w,List.length_map,a1x,List.nil_append,List.append_nil,List.cons_append];rfl)) tr tr ?_;refine go 2 ?_
              refine go 1 ?_;refine b8p (a3y (v:=(.agg [(.own 9 0 B.1.Tables.length),(.I B.1.Next)])) (y':=(.agg [(.own 9 0 B.1.Tables.length),(.I B.1.Next)])) rfl rfl rfl tr ⟨rfl,nle⟩ ⟨⟨rfl,tr⟩,⟨⟨rfl,tr⟩,tr⟩⟩ rfl) tr tr ?_;refine gd 1 ?_;cases hb1;exact ⟨[],[2,3,6,4,5,9],_,_,rfl,rfl,⟨.r,⟨.r,⟨.r,⟨.r,⟨.r,⟨.r,tr⟩⟩⟩⟩⟩⟩,(.cons .r (.cons (.box (.agg (.cons (.of_eq (congrArg (AV.own _ 0) (by have h:=(hl67 0 _ _ _ _ rfl rfl);simpa using h.symm))) (.cons .r .nil)))) (.cons .r (.cons .r (.cons .r (.cons .r .nil))))))⟩
             ·refine a4s (a2r (v:=(.agg [(.own 7 0 K.Tables.length),(.I K.Next)])) (h':=[.row 1 (K.Tables.map (a0m 2 l7))]) (a5k _ _ er85) rfl .r (by simp only [a1u,a1w,List.length_map,a1x,List.nil_append,List.append_nil,List.cons_append];rfl)) tr ?_ ?_
              ·refine a4s (b6w (j:=7) (c:=(.agg [.nil,(.I 0)])) rfl tr rfl rfl) (.inr ⟨⟨(.of nle tr),rfl⟩,⟨⟨(.of nle tr),rfl⟩,tr⟩⟩) tr<|a4s (a2r (v:=(.agg [(.own 8 0 K.Tables.length),(.I K.Next)])) (h':=[.row 1 (K.Tables.map (a0m 2 l7))]) (a5k _ _ er85) rfl .r (by simp only [a1u,a1w,List.length_map,a1x,List.nil_append,List.append_nil,List.cons_append];rfl)) tr tr<|a4s (a2r (v:=(.tup [(.agg [(.own 9 0 B.1.Tables.length),(.I B.1.Next)]),(.I B.2)])) (h':=[.row 1 (B.1.Tables.map (a0m 2 l7))]) (b4k _ _ _ er87) rfl (.cons (.agg (.cons (.of_eq (congrArg (AV.lst _) (tko (enc:=y9) S.Tables))) .nil)) (.cons (.agg (.cons (.of_eq (congrArg (AV.lst _) (tko (enc:=(a0m 2 l7)) K.Tables))) (.cons .r .nil))) .nil)) (by simp only [a1u,a1w,List.length_map,a1x,List.nil_append,List.append_nil,List.cons_append];rfl)) tr tr ?_
               refine go 3 ?_;refine b8p (a3y (v:=(.agg [(.own 9 0 B.1.Tables.length),(.I B.1.Next)])) (y':=(.agg [(.own 9 0 B.1.Tables.length),(.I B.1.Next)])) rfl rfl rfl tr ⟨rfl,nle⟩ ⟨⟨rfl,tr⟩,⟨⟨rfl,tr⟩,tr⟩⟩ rfl) tr tr ?_;refine gd 1 ?_;cases hb1;exact ⟨[],[2,3,7,4,5,9],_,_,rfl,rfl,⟨.r,⟨.r,⟨.r,⟨.r,⟨.r,⟨.r,tr⟩⟩⟩⟩⟩⟩,(.cons .r (.cons (.box (.agg (.cons (.of_eq (congrArg (AV.own _ 0) (by have h:=(hl67 0 _ _ _ _ rfl rfl);simpa using h.symm))) (.cons .r .nil)))) (.cons .r (.cons .r (.cons .r (.cons .r .nil))))))⟩
              ·refine a4s (a2r (v:=(.tup [(.agg [(.own 8 0 B.1.Tables.length),(.I B.1.Next)]),(.I B.2)])) (h':=[.row 1 (B.1.Tables.map (a0m 2 l7))]) (b4k _ _ _ er87) rfl (.cons (.agg (.cons (.of_eq (congrArg (AV.lst _) (tko (enc:=y9) S.Tables))) .nil)) (.cons (.agg (.cons (.of_eq (congrArg (AV.lst _) (tko (enc:=(a0m 2 l7)) K.Tables))) (.cons .r .nil))) .nil)) (by simp only [a1u,a1w,List.length_map,a1x,List.nil_append,List.append_nil,List.cons_append];rfl)) tr ?_ ?_
               ·refine a4s (b6w (j:=8) (c:=(.agg [.nil,(.I 0)])) rfl tr rfl rfl) (.inr ⟨⟨(.of nle tr),rfl⟩,⟨⟨(.of nle tr),rfl⟩,tr⟩⟩) tr<|a4s (a2r (v:=(.tup [(.agg [(.own 9 0 B.1.Tables.length),(.I B.1.Next)]),(.I B.2)])) (h':=[.row 1 (B.1.Tables.map (a0m 2 l7))]) (b4k _ _ _ er87) rfl (.cons (.agg (.cons (.of_eq (congrArg (AV.lst _) (tko (enc:=y9) S.Tables))) .nil)) (.cons (.agg (.cons (.of_eq (congrArg (AV.lst _) (tko (enc:=(a0m 2 l7)) K.Tables))) (.cons .r .nil))) .nil)) (by simp only [a1u,a1w,List.length_map,a1x,List.nil_append,List.append_nil,List.cons_append];rfl)) tr tr ?_
                refine go 3 ?_;refine b8p (a3y (v:=(.agg [(.own 9 0 B.1.Tables.length),(.I B.1.Next)])) (y':=(.agg [(.own 9 0 B.1.Tables.length),(.I B.1.Next)])) rfl rfl rfl tr ⟨rfl,nle⟩ ⟨⟨rfl,tr⟩,⟨⟨rfl,tr⟩,tr⟩⟩ rfl) tr tr ?_;refine gd 1 ?_;cases hb1;exact ⟨[],[2,3,8,4,5,9],_,_,rfl,rfl,⟨.r,⟨.r,⟨.r,⟨.r,⟨.r,⟨.r,tr⟩⟩⟩⟩⟩⟩,(.cons .r (.cons (.box (.agg (.cons (.of_eq (congrArg (AV.own _ 0) (by have h:=(hl67 0 _ _ _ _ rfl rfl);simpa using h.symm))) (.cons .r .nil)))) (.cons .r (.cons .r (.cons .r (.cons .r .nil))))))⟩
               ·refine go 3 ?_;refine a4s (b6w (j:=9) (c:=(.agg [.nil,(.I 0)])) rfl tr rfl rfl) (.inr ⟨⟨(.of nle tr),rfl⟩,⟨⟨(.of nle tr),rfl⟩,tr⟩⟩) tr<|b8p (a3y (v:=(.agg [(.own 8 0 B.1.Tables.length),(.I B.1.Next)])) (y':=(.agg [(.own 8 0 B.1.Tables.length),(.I B.1.Next)])) rfl rfl rfl tr ⟨rfl,nle⟩ ⟨⟨rfl,tr⟩,⟨⟨rfl,tr⟩,tr⟩⟩ rfl) tr tr ?_;refine go 1 ?_
                refine a1a ?_;cases hb1;exact ⟨[],[2,3,9,4,5,8],_,_,rfl,rfl,⟨.r,⟨.r,⟨.r,⟨.r,⟨.r,⟨.r,tr⟩⟩⟩⟩⟩⟩,(.cons .r (.cons (.box (.agg (.cons (.of_eq (congrArg (AV.own _ 0) (by have h:=(hl67 0 _ _ _ _ rfl rfl);simpa using h.symm))) (.cons .r .nil)))) (.cons .r (.cons .r (.cons .r (.cons .r .nil))))))⟩
            ·obtain ⟨Ag,Al,Ad⟩:=p81
             refine o8<|o8 ?_
             obtain ⟨V,hb1,hf⟩:=ob hf
             refine a1r ([(10,(.ptr 0 0 0)),(13,(.I L.1)),(110,(.bool V))],[.box 2 (.agg [(.own 1 0 L.2.Tables.length),(.I D.1.Next)]),.row 1 (L.2.Tables.map (a0m 2 l7))]) ?_ ?_
             ·refine a0t ?_
              obtain ⟨Am,er94,hb1⟩:=ob hb1
              rcases oi hb1 with ⟨c95,hb1⟩ | ⟨c95,hb1⟩
              ·refine go 2 ?_;refine a0x (b3c (w_laws_eqStore _ _ _ er94) rfl (.cons (.agg (.cons (.of_eq (congrArg (AV.lst _) (tko (enc:=(a0m 2 l7)) Ad))) (.cons .r .nil))) (.cons (.agg (.cons (.of_eq (congrArg (AV.lst _) (tko (enc:=(a0m 2 l7)) F))) (.cons .r .nil))) .nil)) rfl) ?_;refine go 2 ?_;refine sl 106 c95 ?_;refine gd 4 ?_;cases hb1
               exact ck [1,4]
              ·refine go 2 ?_;refine a0x (b3c (w_laws_eqStore _ _ _ er94) rfl (.cons (.agg (.cons (.of_eq (congrArg (AV.lst _) (tko (enc:=(a0m 2 l7)) Ad))) (.cons .r .nil))) (.cons (.agg (.cons (.of_eq (congrArg (AV.lst _) (tko (enc:=(a0m 2 l7)) F))) (.cons .r .nil))) .nil)) rfl) ?_;refine go 2 ?_;refine sf 106 c95 ?_;refine go 3 ?_
               refine gd 1 ?_;cases hb1;exact ck [1,4]
             ·rcases oi hf with ⟨c96,hf⟩ | ⟨c96,hf⟩
              ·refine wt c96 ?_;refine gq 1 ?_;refine a2q ?_;cases hf;exact a8s ⟨.of tr tr,tr⟩ rfl .r
              ·refine wf c96<|a0v<|a0i ?_;refine gq 1 ?_;refine o8<|a0t ?_
               obtain ⟨Af,er98,hf⟩:=ob hf
               refine go 2 ?_;refine a0x (b3c (w_laws_heldStore _ _ _ er98) rfl (.cons (.agg (.cons (.of_eq (congrArg (AV.lst _) (tko (enc:=(a0m 2 l7)) L.2.Tables))) (.cons .r .nil))) (.cons .r .nil)) rfl) ?_;refine gq 1 ?_;refine gq 2 ?_
               rcases oi hf with ⟨c99,hf⟩ | ⟨c99,hf⟩
               ·refine wt c99 ?_;refine gq 1 ?_;refine a2q ?_;cases hf;exact a8s ⟨.of tr tr,tr⟩ rfl .r
               ·refine wf c99<|a0v<|a0i ?_;refine gq 3 ?_
                rcases oi hf with ⟨c100,hf⟩ | ⟨c100,hf⟩
                ·refine wt c100 ?_;refine gq 1 ?_;refine a2q ?_;cases hf;exact a8s ⟨.of tr tr,tr⟩ rfl .r
                ·refine wf c100<|a0v<|a0i ?_;refine gq 1 ?_;refine a2q ?_;cases hf;exact a8s ⟨.of tr tr,tr⟩ rfl .r⟩
end Go.R
end
