/- Part of the proof. -/
import Derived.Test.YtldahjcikmpifaaGreatG3
import Derived.Test.YtldahjcikmpifaaGreatG4
import Derived.Test.YtldahjcikmpifaaGreatG5
import Derived.Test.YtldahjcikmpifaaGreatG7

section
set_option linter.all false
namespace Go.R
open Go Go.Proofs
set_option maxRecDepth 100000
set_option maxHeartbeats 8000000
def a7z (A:a0b):List x8 → Option (Fl Bool Unit)
  | [] =>
    some (.go ())
  | E :: xs =>
    ((if (!(E.Ref == [])) then
    (a6b A E.Ref).bind fun H =>
    some (decide (H < 0))
    else
    some false:Option Bool)).bind fun F =>
    if F then
    some (.ret false)
    else
    a7z A xs 
def a8a (A:a0b):List a0a → Nat → Option (Fl Bool Unit)
  | [],B =>
    some (.go ())
  | D :: xs,B =>
    (((a9w D).bind fun J =>
    if (!J) then
    some true
    else
    if (decide ((B:Int) > 0)) then
    (idx A.Tables (w64 ((B:Int) - 1))).bind fun K =>
    some (!Op.bytesLess K.Name D.Name)
    else
    some false:Option Bool)).bind fun G =>
    if G then
    some (.ret false)
    else
    (a7z A D.Columns ).bind fun q => (match q with
    | .ret r => some (.ret r)
    | .go _ =>
    a8a A xs (B + 1))
def a9x (A:a0b):Option Bool :=
    (a2k (A.Tables.length:Int) 1 4).bind fun L =>
    if (!L) then
    some false
    else
    (a8a A A.Tables 0).bind fun q => (match q with
    | .ret r => some r
    | .go _ =>
    some true)
instance w_spec_SchemaOK (A:a0b) (r:Bool):Wk Tryz.prog (a9x A = some r) 83 [(a1h A)] (.bool r):=⟨fun hf => by
 unfold a9x at hf;refine coA [13,26,33,47,53,54] [lI [1] fun i => [(3,(.I (i:Int)))],cA [1,3] fun v:Bool => [(44,(.bool v))],lN [1,3] fun i => [(4,(.I (i:Int)))],cA [1,3,4] fun v:Bool => [(74,(.bool v))],fA [1,3] fun q:Unit => [],fA [] fun q:Unit => []] Tryz.func83 ?_ (sp:=[(5,[[18,22],[23,0],[24,44]]),(8,[[45,53]]),(9,[[56,64],[5],[1000]]),(10,[[65,74]])]);exact W⟩
def a8z :List UInt8 → Option (Fl Bool Unit)
  | [] =>
    some (.go ())
  | B :: xs =>
    ((if (decide ((B.toNat:Int) < 32)) then
    some true
    else
    some (decide ((B.toNat:Int) > 126)):Option Bool)).bind fun D =>
    if D then
    some (.ret false)
    else
    a8z xs 
def b4c (A:Str):Option Bool :=
    (a8z A ).bind fun q => (match q with
    | .ret r => some r
    | .go _ =>
    some (decide ((A.length:Int) ≤ 200)))
instance w_spec_l01Text (A:Str) (r:Bool):Wk Tryz.prog (b4c A = some r) 298 [(.str A)] (.bool r):=⟨fun hf => by
 unfold b4c at hf;refine coA [5,17,23] [lN [0] fun i => [(3,(.I (i:Int)))],cA [0,3] fun v:Bool => [(19,(.bool v))],fA [0] fun q:Unit => []] Tryz.func298 ?_;exact W⟩
def b3j (A:y7):Option Bool :=
    if (A.Kind == 1) then
    (a2k A.N (-1000000000) 1000000000).bind fun E =>
    if E then
    some (A.T == [])
    else
    some false
    else
    if (A.Kind == 2) then
    if (A.N == 0) then
    (b4c A.T).bind fun F =>
    some F
    else
    some false
    else
    if (A.Kind == 3) then
    (a2k A.N 0 1).bind fun B =>
    if B then
    some (A.T == [])
    else
    some false
    else
    if (A.Kind == 4) then
    (a2k A.N 1 1000000).bind fun D =>
    if D then
    some (A.T == [])
    else
    some false
    else
    some false
instance w_spec_AtomOK (A:y7) (r:Bool):Wk Tryz.prog (b3j A = some r) 228 [(y8 A)] (.bool r):=⟨fun hf => by
 unfold b3j at hf;refine coA [] [] Tryz.func228 ?_;exact W⟩
def a7a (A:Bool):Option Int :=
    if A then
    some 1
    else
    some 0
instance w_spec_l01Bit (A:Bool) (r:Int):Wk Tryz.prog (a7a A = some r) 184 [(.bool A)] (.I r):=⟨fun hf => by
 unfold a7a at hf;refine coA [] [] Tryz.func184 ?_;exact W⟩
def a9y (A:y7) (B:y7):Option Int :=
    if (A.Kind != B.Kind) then
    (a7a (decide (A.Kind < B.Kind))).bind fun E =>
    some (w64 (1 - (w64 (2 * E))))
    else
    if (A.N != B.N) then
    (a7a (decide (A.N < B.N))).bind fun F =>
    some (w64 (1 - (w64 (2 * F))))
    else
    if (!(A.T == B.T)) then
    (a7a (Op.bytesLess A.T B.T)).bind fun D =>
    some (w64 (1 - (w64 (2 * D))))
    else
    some 0
instance w_spec_l03Order (A:y7) (B:y7) (r:Int):Wk Tryz.prog (a9y A B = some r) 229 [(y8 A),(y8 B)] (.I r):=⟨fun hf => by
 unfold a9y at hf;refine coA [] [] Tryz.func229 ?_;exact W⟩
def a9a (A:(List y7)):List y7 → Nat → Option (Fl Bool Unit)
  | [],B =>
    some (.go ())
  | D :: xs,B =>
    (((b3j D).bind fun F =>
    if (!F) then
    some true
    else
    (idx A 0).bind fun G =>
    if (D.Kind != G.Kind) then
    some true
    else
    if (decide ((B:Int) > 0)) then
    (idx A (w64 ((B:Int) - 1))).bind fun H =>
    (a9y H D).bind fun J =>
    some (decide (J ≥ 0))
    else
    some false:Option Bool)).bind fun E =>
    if E then
    some (.ret false)
    else
    a9a A xs (B + 1)
def b4d (A:(List y7)):Option Bool :=
    if (decide ((A.length:Int) > 4096)) then
    some false
    else
    (a9a A A 0).bind fun q => (match q with
    | .ret r => some r
    | .go _ =>
    some (decide ((A.length:Int) ≤ 8)))
instance w_spec_DatumOK (A:(List y7)) (r:Bool):Wk Tryz.prog (b4d A = some r) 131 [(.lst 3 (A.map y8))] (.bool r):=⟨fun hf => by
 unfold b4d at hf;refine coA [13,25,31] [lI [0] fun i => [(3,(.I (i:Int)))],cA [0,3] fun v:Bool => [(47,(.bool v))],fA [0] fun q:Unit => []] Tryz.func131 ?_ (sp:=[(5,[[13,16],[17,0],[18,43],[44,0],[45,47]])]);exact W⟩
def a9b (A:x8):List y7 → Option (Fl Int Unit)
  | [] =>
    some (.go ())
  | F :: xs =>
    ((if (A.Kind == 1) then
    (a2k F.N A.Low A.High).bind fun G =>
    some (!G)
    else
    some false:Option Bool)).bind fun D =>
    if D then
    some (.ret 4)
    else
    a9b A xs 
def b4e (A:x8) (B:(List y7)):Option Int :=
    ((if (decide ((B.length:Int) > 0)) then
    (idx B 0).bind fun H =>
    some (H.Kind != A.Kind)
    else
    some false:Option Bool)).bind fun E =>
    if E then
    some 9
    else
    (a2k (B.length:Int) A.Min A.Max).bind fun J =>
    if (!J) then
    some 6
    else
    (a9b A B ).bind fun q => (match q with
    | .ret r => some r
    | .go _ =>
    some 0)
instance w_spec_l04Fits (A:x8) (B:(List y7)) (r:Int):Wk Tryz.prog (b4e A B = some r) 277 [(a0f A),(.lst 3 (B.map y8))] (.I r):=⟨fun hf => by
 unfold b4e at hf;refine coA [5,21,33,39] [cA [1,2] fun v:Bool => [(17,(.bool v))],lN [1,2] fun i => [(5,(.I (i:Int)))],cA [1,2,5] fun v:Bool => [(47,(.bool v))],fA [] fun q:Unit => []] Tryz.func277 ?_ (sp:=[(1,[[6,17]]),(3,[[18,25]]),(7,[[32,44],[45,0],[46,47]])]);exact W⟩
def b0q (A:a0a):List (List y7) → Nat → Option (Fl Bool Unit)
  | [],D =>
    some (.go ())
  | E :: xs,D =>
    (((b4d E).bind fun G =>
    if (!G) then
    some true
    else
    (idx A.Columns (D:Int)).bind fun H =>
    (b4e H E).bind fun J =>
    some (J != 0):Option Bool)).bind fun F =>
    if F then
    some (.ret false)
    else
    b0q A xs (D + 1)
def b5n (A:a0a) (B:a0c):Option Bool :=
    (((a2k B.Id 1 1000000).bind fun L =>
    some (bif (!L) then true else ((B.Cells.length:Int) != (A.Columns.length:Int))):Option Bool)).bind fun K =>
    if K then
    some false
    else
    (b0q A B.Cells 0).bind fun q => (match q with
    | .ret r => some r
    | .go _ =>
    some true)
instance w_spec_l05Row (A:a0a) (B:a0c) (r:Bool):Wk Tryz.prog (b5n A B = some r) 183 [(y9 A),(l7 B)] (.bool r):=⟨fun hf => by
 unfold b5n at hf;refine coA [5,13,25,31] [cA [2,3] fun v:Bool => [(18,(.bool v))],lI [2,3] fun i => [(5,(.I (i:Int)))],cA [2,3,5] fun v:Bool => [(46,(.bool v))],fA [] fun q:Unit => []] Tryz.func183 ?_ (sp:=[(1,[[6,18]]),(5,[[26,30],[31,0],[32,43],[44,0],[45,46]])]);exact W⟩
def a9c (B:a0b) (D:Nat) (A:a0h) (E:(List a0c)):List a0c → Nat → Option (Fl Bool Unit)
  | [],F =>
    some (.go ())
  | G :: xs,F =>
    (((idx B.Tables (D:Int)).bind fun J =>
    (b5n J G).bind fun K =>
    if (bif (!K) then true else (decide (G.Id ≥ A.Next))) then
    some true
    else
    if (decide ((F:Int) > 0)) then
    (idx E (w64 ((F:Int) - 1))).bind fun L =>
    some (decide (L.Id ≥ G.Id))
    else
    some false:Option Bool)).bind fun H =>
    if H then
    some (.ret false)
    else
    a9c B D A E xs (F + 1)
def a9d (B:a0b) (A:a0h):List (List a0c) → Nat → Option (Fl Bool Unit)
  | [],D =>
    some (.go ())
  | E :: xs,D =>
    if (decide ((E.length:Int) > 12)) then
    some (.ret false)
    else
    (a9c B D A E E 0).bind fun q => (match q with
    | .ret r => some (.ret r)
    | .go _ =>
    a9d B A xs (D + 1))
def b1m (B:a0b) (A:a0h):Option Bool :=
    ((if ((A.Tables.length:Int) != (B.Tables.length:Int)) then
    some true
    else
    (a2k A.Next 1 1000000).bind fun N =>
    some (!N):Option Bool)).bind fun M =>
    if M then
    some false
    else
    (a9d B A A.Tables 0).bind fun q => (match q with
    | .ret r => some r
    | .go _ =>
    some true)
instance w_spec_l05Form (B:a0b) (A:a0h) (r:Bool):Wk Tryz.prog (b1m B A = some r) 84 [(a1h B),(a1j A)] (.bool r):=⟨fun hf => by
 unfold b1m at hf;refine coA [5,13,33,47,53,54] [cA [2,3] fun v:Bool => [(20,(.bool v))],lI [2,3] fun i => [(5,(.I (i:Int)))],lI [2,3,5] fun i => [(6,(.I (i:Int)))],cA [2,3,5,6] fun v:Bool => [(86,(.bool v))],fA [2,3,5] fun q:Unit => [],fA [] fun q:Unit => []] Tryz.func84 ?_ (sp:=[(1,[[8,20]]),(5,[[28,34]]),(8,[[35,42]]),(9,[[45,52],[7],[1000]]),(10,[[53,58],[59,0],[60,86]])]);exact W⟩
def a8b (A:Int):List a0c → Nat → Option (Fl Int Unit)
  | [],D =>
    some (.go ())
  | E :: xs,D =>
    if (E.Id == A) then
    some (.ret (D:Int))
    else
    a8b A xs (D + 1)
def a7l (B:(List a0c)) (A:Int):Option Int :=
    (a8b A B 0).bind fun q => (match q with
    | .ret r => some r
    | .go _ =>
    some (-1))
instance w_spec_l05Place (B:(List a0c)) (A:Int) (r:Int):Wk Tryz.prog (a7l B A = some r) 86 [(.lst 2 (B.map l7)),(.I A)] (.I r):=⟨fun hf => by
 unfold a7l at hf;refine coA [5,23] [lI [0,1] fun i => [(5,(.I (i:Int)))],fA [] fun q:Unit => []] Tryz.func86 ?_;exact W⟩
def b0r (A:y7):List y7 → Option (Fl Bool Unit)
  | [] =>
    some (.go ())
  | B :: xs =>
    if (B.Kind == A.Kind && (B.N == A.N && (B.T == A.T && true))) then
    some (.ret true)
    else
    b0r A xs 
def b5o (D:(List y7)) (A:y7):Option Bool :=
    (b0r A D ).bind fun q => (match q with
    | .ret r => some r
    | .go _ =>
    some false)
instance w_spec_l03Has (D:(List y7)) (A:y7) (r:Bool):Wk Tryz.prog (b5o D A = some r) 185 [(.lst 3 (D.map y8)),(y8 A)] (.bool r):=⟨fun hf => by
 unfold b5o at hf;refine coA [5,23] [lN [0,3] fun i => [(5,(.I (i:Int)))],fA [] fun q:Unit => []] Tryz.func185 ?_;exact W⟩
def a3j (E:Int) (D:Int):List a0c → Int → Option Int
  | [],K =>
    some K
  | U :: xs,K =>
    (idx U.Cells E).bind fun R =>
    (b5o R (⟨4,D,[]⟩:y7)).bind fun V =>
    (a7a V).bind fun S =>
    a3j E D xs (w64 (K + S)) 
def a3k (F:a0b) (B:Nat) (A:Int) (D:Int) (G:(List a0c)):Nat → Int → Int → Option Int
  | 0,_,_ => none
  | k + 1,J,E =>
    (idx F.Tables (B:Int)).bind fun Y =>
    if (decide (E < (Y.Columns.length:Int))) then
    (idx F.Tables (B:Int)).bind fun Z =>
    (idx Z.Columns E).bind fun T =>
    ((if (!T.Strong) then
    some true
    else
    (idx F.Tables A).bind fun Aa =>
    some (!(T.Ref == Aa.Name)):Option Bool)).bind fun O =>
    if O then
    a3k F B A D G k J (w64 (E + 1))
    else
    (a3j E D G J).bind fun L =>
    a3k F B A D G k L (w64 (E + 1))
    else
    some J
def a3l (F:a0b) (A:Int) (D:Int):List (List a0c) → Int → Nat → Option Int
  | [],M,B =>
    some M
  | G :: xs,M,B =>
    (a3k F B A D G FUEL M 0).bind fun N =>
    a3l F A D xs N (B + 1)
def a6h (F:a0b) (H:a0h) (A:Int) (D:Int):Option Int :=
    (a3l F A D H.Tables 0 0).bind fun P =>
    some P
instance w_spec_l05Strong (F:a0b) (H:a0h) (A:Int) (D:Int) (r:Int):Wk Tryz.prog (a6h F H A D = some r) 87 [(a1h F),(a1j H),(.I A),(.I D)] (.I r):=⟨fun hf => by
 unfold a6h at hf;refine co [68,102,104,106] Tryz.func87 ?_;refine sr<|bx ?_;refine bx ?_;refine gq 1 ?_;refine gq 1 ?_;refine gq 1 ?_
 obtain ⟨P,hb1,hf⟩:=ob hf
 refine a1r ([(9,(.I P))],[]) ?_ ?_
 ·refine al (X:={q:(Int × Nat) // a3l F A D (H.Tables.drop q.2) q.1 q.2 = some P}) (fun q => ([(2,(.I A)),(3,(.I D)),(4,(.ptr 0 0 0)),(5,(.ptr 1 0 0)),(9,(.I q.1.1)),(10,(.I (q.1.2:Int)))],[.box 1 (.agg [(.lst 4 (F.Tables.map y9))]),.box 2 (.agg [(.lst 1 (H.Tables.map (a0m 2 l7))),(.I H.Next)])])) (fun q => H.Tables.length - q.1.2) ⟨(0,0),hb1⟩ [0,1] ?_
  rintro ⟨⟨M,B⟩,hc1⟩
  dsimp only at hc1 ⊢
  rcases a6v H.Tables B with ⟨hie2747,hd2750⟩ | ⟨hlt2745,G,hx2746,hd2750⟩
  ·rw [hd2750,a3l.eq_1] at hc1
   refine go 3 ?_;refine ln fun hl2752 => ?_;refine gq 1 ?_;refine wg (dlf hie2747)<|le ?_;cases hc1;exact ck []
  ·rw [hd2750,a3l.eq_2] at hc1
   refine go 3 ?_;refine ln fun hl2753 => ?_;refine gq 1 ?_;refine wt (dlt hlt2745)<|a0v<|a0i<|o8<|a3z ?_;refine gq 1 ?_
   obtain ⟨N,hb2,hc1⟩:=ob hc1
   refine b7x ([(2,(.I A)),(3,(.I D)),(4,(.ptr 0 0 0)),(5,(.ptr 1 0 0)),(9,(.I N)),(10,(.I (B:Int)))],[.box 1 (.agg [(.lst 4 (F.Tables.map y9))]),.box 2 (.agg [(.lst 1 (H.Tables.map (a0m 2 l7))),(.I H.Next)])]) ?_ ?_
   ·refine al (X:={q:(Nat × Int × Int) // a3k F B A D G q.1 q.2.1 q.2.2 = some N}) (fun q => ([(2,(.I A)),(3,(.I D)),(4,(.ptr 0 0 0)),(5,(.ptr 1 0 0)),(9,(.I q.1.2.1)),(10,(.I (B:Int))),(11,(.I q.1.2.2))],[.box 1 (.agg [(.lst 4 (F.Tables.map y9))]),.box 2 (.agg [(.lst 1 (H.Tables.map (a0m 2 l7))),(.I H.Next)])])) (fun q => q.1.1) ⟨(FUEL,M,0),hb2⟩ [0,1] ?_
    rintro ⟨⟨k,J,E⟩,hc2⟩
    dsimp only at hc2 ⊢
    rcases k with _ | k
    ·rw [a3k.eq_1] at hc2
     cases hc2
    ·rw [a3k.eq_2] at hc2;refine o8<|o8<|a0t ?_
     obtain ⟨Y,ex3182,hc2⟩:=ob hc2
     refine go 4 ?_;refine ix ex3182 ?_;refine go 2 ?_;refine ln fun hl3183 => ?_;refine gq 1 ?_
     rcases oi hc2 with ⟨c3184,hc2⟩ | ⟨c3184,hc2⟩
     ·refine wt c3184<|a0v<|a0i<|o8<|a3z<|o8<|a0t ?_
      obtain ⟨Z,ex3186,hc2⟩:=ob hc2
      obtain ⟨T,ex3188,hc2⟩:=ob hc2
      refine go 3 ?_;refine ix ex3186 ?_;refine go 3 ?_;refine ix ex3188 ?_;refine go 1 ?_;refine bx ?_;refine sb ?_
      refine dk<|o8<|o8 ?_
      obtain ⟨O,hb3,hc2⟩:=ob hc2
      refine a1r ([(2,(.I A)),(3,(.I D)),(4,(.ptr 0 0 0)),(5,(.ptr 1 0 0)),(9,(.I J)),(10,(.I (B:Int))),(11,(.I E)),(54,(.bool O))],[.box 1 (.agg [(.lst 4 (F.Tables.map y9))]),.box 2 (.agg [(.lst 1 (H.Tables.map (a0m 2 l7))),(.I H.Next)])]) ?_ ?_
      ·refine go 4 ?_
       rcases oi hb3 with ⟨c3194,hb3⟩ | ⟨c3194,hb3⟩
       ·refine sl 44 c3194 ?_;refine gd 10 ?_;cases hb3;exact ck [0,1]
       ·refine sf 44 c3194 ?_;refine go 5 ?_;refine s_on rfl ?_
        obtain ⟨Aa,ex3196,hb3⟩:=ob hb3
        refine ix ex3196 ?_;refine gd 4 ?_;cases hb3;exact ck [0,1]
      ·rcases oi hc2 with ⟨c3197,hc2⟩ | ⟨c3197,hc2⟩
       ·refine wt c3197<|c3q<|c3p<|c3o ?_;refine a0i<|wc ([(2,(.I A)),(3,(.I D)),(4,(.ptr 0 0 0)),(5,(.ptr 1 0 0)),(9,(.I J)),(10,(.I (B:Int))),(11,(.I E))],[.box 1 (.agg [(.lst 4 (F.Tables.map y9))]),.box 2 (.agg [(.lst 1 (H.Tables.map (a0m 2 l7))),(.I H.Next)])]) [0,1] ?_;refine gd 3 ?_;exact kl ⟨(k,J,w64 (E + 1)),hc2⟩ [0,1]
       ·refine wf c3197<|a0v<|a0i ?_;refine gq 1 ?_
        obtain ⟨L,hb3,hc2⟩:=ob hc2
        refine b7x ([(2,(.I A)),(3,(.I D)),(4,(.ptr 0 0 0)),(5,(.ptr 1 0 0)),(9,(.I L)),(10,(.I (B:Int))),(11,(.I E))],[.box 1 (.agg [(.lst 4 (F.Tables.map y9))]),.box 2 (.agg [(.lst 1 (H.Tables.map (a0m 2 l7))),(.I H.Next)])]) ?_ ?_
        ·refine al (X:={q:(Int × Nat) // a3j E D (G.drop q.2) q.1 = some L}) (fun q => ([(2,(.I A)),(3,(.I D)),(4,(.ptr 0 0 0)),(5,(.ptr 1 0 0)),(9,(.I q.1.1)),(10,(.I (B:Int))),(11,(.I E)),(13,(.I (q.1.2:Int)))],[.box 1 (.agg [(.lst 4 (F.Tables.map y9))]),.box 2 (.agg [(.lst 1 (H.Tables.map (a0m 2 l7))),(.I H.Next)])])) (fun q => G.length - q.1.2) ⟨(J,0),hb3⟩ [0,1] ?_
         rintro ⟨⟨K,Ab⟩,hc3⟩
         dsimp only at hc3 ⊢
         rcases a6v G Ab with ⟨hie3237,hd3240⟩ | ⟨hlt3235,U,hx3236,hd3240⟩
         ·rw [hd3240,a3j.eq_1] at hc3
          refine go 4 ?_;refine ia hx2746 ?_;refine go 1 ?_;refine ln fun hl3242 => ?_;refine gq 1 ?_;refine wg (dlf hie3237)<|le ?_;refine a3w ?_;cases hc3;exact ck [0,1]
         ·rw [hd3240,a3j.eq_2] at hc3
          refine go 4 ?_;refine ia hx2746 ?_;refine go 1 ?_;refine ln fun hl3243 => ?_;refine gq 1 ?_;refine wt (dlt hlt3235)<|a0v<|a0i<|o8<|a3z ?_;refine go 4 ?_
          refine ia hx2746 ?_;refine go 2 ?_;refine ia hx3236 ?_;refine go 3 ?_
          obtain ⟨R,ex3245,hc3⟩:=ob hc3
          refine ix ex3245 ?_;refine s_q (.lst 3 (R.map y8)) rfl ⟨rfl,rfl⟩ rfl<|e6x (.I D) rfl<|s_q (.agg [(.I 4),(.I D),(.str [])]) rfl ⟨⟨rfl,nle,tr⟩,⟨⟨rfl,nle,tr⟩,tr⟩⟩ rfl ?_
          obtain ⟨V,er3247,hc3⟩:=ob hc3
          refine cl (w_spec_l03Has _ _ _ er3247) ?_
          obtain ⟨S,er3249,hc3⟩:=ob hc3
          refine cl (w_spec_l01Bit _ _ er3249) ?_;refine gd 2 ?_;refine a3w<|a0i ?_;refine gd 3 ?_;exact kl ⟨(w64 (K + S),(Ab + 1)),hc3⟩ [0,1]
        ·refine gd 3 ?_;exact kl ⟨(k,L,w64 (E + 1)),hc2⟩ [0,1]
     ·refine wf c3184<|le ?_;refine a3w ?_;cases hc2;exact ck [0,1]
   ·refine gd 3 ?_;exact kl ⟨(N,(B + 1)),hc1⟩ [0,1]
 ·refine gq 2 ?_;cases hf;exact rf⟩
def a3m :List (List y7) → (List (List y7)) → Option (List (List y7))
  | [],D =>
    some D
  | B :: xs,D =>
    if ([] ++ B).length ≤ 2 ^ 30 then
    if (D ++ [[] ++ B]).length ≤ 2 ^ 30 then
    a3m xs  (D ++ [[] ++ B])
    else none
    else none
def b0s (A:a0c):Option a0c :=
    (a3m A.Cells []).bind fun E =>
    some (⟨A.Id,E⟩:a0c)
theorem c6x (A:a0c) (r:a0c) (hf:b0s A = some r):a0k Tryz.prog 245 .fresh [(l7 A)] (l7 r):=by
 unfold b0s at hf;refine co [38] Tryz.func245 ?_ (sp:=[(1,[[5,8],[3],[1000]]),(4,[[16,17],[19,23],[18,0,23,22,20,19,17,16],[24,0,17,16],[25,0,17,16],[26,0],[27],[1000,0]])]);refine sr<|a0x (b6w (j:=0) (c:=(.agg [(.I A.Id),(.lst 1 (A.Cells.map (a0m 3 y8)))])) rfl tr rfl rfl)<|a0x (b6w (j:=1) (c:=(.agg [(.I 0),.nil])) rfl tr rfl rfl)<|a1a<|a0i ?_;refine go 2 ?_;refine a0x (a5u (j:=2) (as':=[]) rfl (fun _ => by decide) tr .r rfl rfl rfl) ?_;refine s_q (.agg [(.I A.Id),(.own 2 0 0)]) rfl ⟨⟨rfl,nle,tr⟩,⟨⟨rfl,nle,tr⟩,tr⟩⟩ rfl ?_
 refine a0x (b6w (j:=3) (c:=(.agg [(.I 0),.nil])) rfl tr rfl rfl)<|a7p (a3y (v:=(.agg [(.I A.Id),(.own 2 0 0)])) (y':=(.agg [(.I A.Id),(.own 2 0 0)])) rfl rfl rfl tr ⟨rfl,nle⟩ ⟨⟨rfl,tr⟩,⟨⟨rfl,tr⟩,tr⟩⟩ rfl)<|a1a<|a0i ?_;refine gq 1 ?_
 obtain ⟨E,hb1,hf⟩:=ob hf
 refine a1r ([(2,(.ptr 0 0 0)),(3,(.ptr 1 0 0))],[.box 2 (.agg [(.I 0),.nil]),.box 2 (.agg [(.I A.Id),(.own 2 0 E.length)]),.row 1 (E.map (a0m 3 y8))]) ?_ ?_
 ·refine a3s (X:={q:(Nat × (List (List y7))) // a3m (A.Cells.drop q.1) q.2 = some E}) (fun q => ([(1,(.ptr 0 0 0)),(2,(.ptr 1 0 0)),(3,(.ptr 2 0 0)),(4,(.I (q.1.1:Int)))],[.box 2 (.agg [(.I A.Id),(.lst 1 (A.Cells.map (a0m 3 y8)))]),.box 2 (.agg [(.I 0),.nil]),.box 2 (.agg [(.I A.Id),(.own 3 0 q.1.2.length)]),.row 1 (q.1.2.map (a0m 3 y8))])) (fun q => A.Cells.length - q.1.1) ⟨(0,[]),hb1⟩ ⟨[],[0,1,3,2],_,_,rfl,rfl,⟨.r,⟨.r,⟨.r,⟨.r,tr⟩⟩⟩⟩,(.cons .r (.cons .r (.cons (.box (.agg (.cons .r (.cons (.of_eq (congrArg (AV.own _ 0) (by simp))) .nil)))) (.cons .r .nil))))⟩ ?_
  rintro ⟨⟨F,D⟩,hc1⟩
  dsimp only at hc1 ⊢
  rcases a6v A.Cells F with ⟨hie29,hd32⟩ | ⟨hlt27,B,hx28,hd32⟩
  ·rw [hd32,a3m.eq_1] at hc1
   have hq31:=dlf hie29
   refine go 3 ?_;refine b1x (d0w (enc:=(a0m 3 y8)) rfl) fun hl34 => s_q (.bool (decide ((F:Int) < (A.Cells.length:Int)))) rfl rfl rfl<|dk<|c4w rfl hq31<|c3q<|c3p<|c4v<|c3o ?_;cases hc1;exact ck [1,2,3]
  ·rw [hd32,a3m.eq_2] at hc1
   have hq31:=dlt hlt27
   refine go 3 ?_;refine b1x (d0w (enc:=(a0m 3 y8)) rfl) fun hl35 => s_q (.bool (decide ((F:Int) < (A.Cells.length:Int)))) rfl rfl rfl<|dk<|c9n rfl hq31<|a0v<|a0i<|o8<|a3z ?_;refine go 5 ?_;refine a0x (b6v (enc:=(a0m 3 y8)) rfl rfl hx28) ?_;refine go 1 ?_
   refine a4s (a5u (j:=4) (as':=[]) rfl (fun _ => by decide) tr .r rfl rfl rfl) (.inr ⟨⟨⟨rfl,rfl⟩,rfl⟩,⟨(e3y (enc:=(a0m 3 y8)) rfl rfl hx28),⟨⟨nle,rfl⟩,⟨⟨tr,rfl⟩,⟨⟨nle,rfl⟩,⟨⟨tr,rfl⟩,tr⟩⟩⟩⟩⟩⟩) tr ?_
   obtain ⟨g36,hc1⟩:=og hc1
   refine a4s (b3i (j:=5) (L:=(([] ++ B).map y8)) (len:=([] ++ B).length) rfl false rfl rfl (fun _ => flm (fun _ => rfl) _) (fun _ _ _ => flm (fun _ => rfl) _) (by decide) ((by simp)) (by simp <;> omega) g36 rfl rfl) (.inr ⟨⟨nle,rfl⟩,⟨⟨tr,rfl⟩,tr⟩⟩) tr ?_
   refine a4s (a5u (j:=6) (as':=[(.lst 3 (([] ++ B).map y8))]) rfl (fun _ => by decide) ⟨rfl,tr⟩ (.cons (.of_eq (congrArg (AV.lst _) (tk (enc:=y8) ([] ++ B)))) .nil) rfl rfl rfl) (.inr ⟨⟨nle,rfl⟩,⟨⟨tr,rfl⟩,tr⟩⟩) tr ?_
   obtain ⟨g37,hc1⟩:=og hc1
   refine a4s (b3i (j:=7) (L:=((D ++ [[] ++ B]).map (a0m 3 y8))) (len:=(D ++ [[] ++ B]).length) rfl true rfl rfl (fun h => Bool.noConfusion h) (fun _ _ h => (e3z (show AV.own _ _ _ = AV.lst _ _ from h)).elim) (by decide) (e4a (enc:=(a0m 3 y8)) D [[] ++ B] _ (by rfl)) (by simp <;> omega) g37 rfl rfl) tr tr ?_
   refine s_q (.ptr 2 0 1) rfl tr rfl<|b8p (a3y (v:=(.own 7 0 ((D ++ [[] ++ B]).length))) (y':=(.agg [(.I A.Id),(.own 7 0 ((D ++ [[] ++ B]).length))])) rfl rfl rfl tr ⟨rfl,nle⟩ ⟨⟨rfl,tr⟩,tr⟩ rfl) tr tr<|a1a<|a3w<|a0i ?_;refine gd 3 ?_;exact kl ⟨((F + 1),D ++ [[] ++ B]),hc1⟩ [0,1,2,7]
 ·refine go 1 ?_;refine a7p (a3y (v:=(.agg [(.I A.Id),(.own 2 0 E.length)])) (y':=(.agg [(.I A.Id),(.own 2 0 E.length)])) rfl rfl rfl tr ⟨rfl,nle⟩ ⟨⟨rfl,tr⟩,⟨⟨rfl,tr⟩,tr⟩⟩ rfl)<|dk<|a2q ?_;cases hf;exact a4n ⟨nle,tr⟩ rfl (by decide) (.agg (.cons .r (.cons (.of_eq (congrArg (AV.lst _) (tk (enc:=(a0m 3 y8)) E))) .nil)))
def a5l :List a0c → (List a0c) → Option (List a0c)
  | [],D =>
    some D
  | M :: xs,D =>
    (b0s M).bind fun F =>
    if (D ++ [F]).length ≤ 2 ^ 30 then
    a5l xs  (D ++ [F])
    else none
def a5m :List (List a0c) → (List (List a0c)) → Option (List (List a0c))
  | [],E =>
    some E
  | H :: xs,E =>
    (a5l H []).bind fun A =>
    if (E ++ [A]).length ≤ 2 ^ 30 then
    a5m xs  (E ++ [A])
    else none
def b0t (B:a0h):Option a0h :=
    (a5m B.Tables []).bind fun G =>
    some (⟨G,B.Next⟩:a0h)
theorem d2t (B:a0h) (r:a0h) (hf:b0t B = some r):a0k Tryz.prog 147 .fresh [(a1j B)] (a1j r):=by
 unfold b0t at hf;refine co [68,72] Tryz.func147 ?_;refine sr<|a0x (b6w (j:=0) (c:=(.agg [(.lst 1 (B.Tables.map (a0m 2 l7))),(.I B.Next)])) rfl tr rfl rfl)<|a0x (b6w (j:=1) (c:=(.agg [.nil,(.I 0)])) rfl tr rfl rfl)<|dk<|o8<|a0t ?_;refine a0x (a5u (j:=2) (as':=[]) rfl (fun _ => by decide) tr .r rfl rfl rfl) ?_;refine s_q (.ptr 0 0 1) rfl tr rfl<|s_q (.I B.Next) rfl nle rfl<|s_q (.agg [(.own 2 0 0),(.I B.Next)]) rfl ⟨⟨rfl,nle,tr⟩,⟨⟨rfl,nle,tr⟩,tr⟩⟩ rfl ?_
 refine a0x (b6w (j:=3) (c:=(.agg [.nil,(.I 0)])) rfl tr rfl rfl)<|a7p (a3y (v:=(.agg [(.own 2 0 0),(.I B.Next)])) (y':=(.agg [(.own 2 0 0),(.I B.Next)])) rfl rfl rfl tr ⟨rfl,nle⟩ ⟨⟨rfl,tr⟩,⟨⟨rfl,tr⟩,tr⟩⟩ rfl)<|a1a<|a0i ?_;refine gq 1 ?_
 obtain ⟨G,hb1,hf⟩:=ob hf
 refine a1r ([(2,(.ptr 0 0 0)),(3,(.ptr 1 0 0))],[.box 2 (.agg [.nil,(.I 0)]),.box 2 (.agg [(.own 2 0 G.length),(.I B.Next)]),.row 1 (G.map (a0m 2 l7))]) ?_ ?_
 ·refine a3s (X:={q:(Nat × (List (List a0c))) // a5m (B.Tables.drop q.1) q.2 = some G}) (fun q => ([(1,(.ptr 0 0 0)),(2,(.ptr 1 0 0)),(3,(.ptr 2 0 0)),(4,(.I (q.1.1:Int)))],[.box 2 (.agg [(.lst 1 (B.Tables.map (a0m 2 l7))),(.I B.Next)]),.box 2 (.agg [.nil,(.I 0)]),.box 2 (.agg [(.own 3 0 q.1.2.length),(.I B.Next)]),.row 1 (q.1.2.map (a0m 2 l7))])) (fun q => B.Tables.length - q.1.1) ⟨(0,[]),hb1⟩ ⟨[],[0,1,3,2],_,_,rfl,rfl,⟨.r,⟨.r,⟨.r,⟨.r,tr⟩⟩⟩⟩,(.cons .r (.cons .r (.cons (.box (.agg (.cons (.of_eq (congrArg (AV.own _ 0) (by simp))) (.cons .r .nil)))) (.cons .r .nil))))⟩ ?_
  rintro ⟨⟨J,E⟩,hc1⟩
  dsimp only at hc1 ⊢
  rcases a6v B.Tables J with ⟨hie290,hd293⟩ | ⟨hlt288,H,hx289,hd293⟩
  ·rw [hd293,a5m.eq_1] at hc1
   have hq292:=dlf hie290
   refine go 3 ?_;refine b1x (d0w (enc:=(a0m 2 l7)) rfl) fun hl295 => s_q (.bool (decide ((J:Int) < (B.Tables.length:Int)))) rfl rfl rfl<|dk<|c4w rfl hq292<|c3q<|c3p<|c4v<|c3o ?_;cases hc1;exact ck [1,2,3]
  ·rw [hd293,a5m.eq_2] at hc1
   have hq292:=dlt hlt288
   refine go 3 ?_;refine b1x (d0w (enc:=(a0m 2 l7)) rfl) fun hl296 => s_q (.bool (decide ((J:Int) < (B.Tables.length:Int)))) rfl rfl rfl<|dk<|c9n rfl hq292<|a0v<|a0i<|o8<|a3z<|o8<|a0t ?_;refine a0x (a5u (j:=4) (as':=[]) rfl (fun _ => by decide) tr .r rfl rfl rfl) ?_;refine gq 1 ?_;refine gq 1 ?_
   obtain ⟨A,hb2,hc1⟩:=ob hc1
   refine a1r ([(1,(.ptr 0 0 0)),(2,(.ptr 1 0 0)),(3,(.ptr 2 0 0)),(4,(.I (J:Int))),(5,(.own 3 0 A.length))],[.box 2 (.agg [(.lst 1 (B.Tables.map (a0m 2 l7))),(.I B.Next)]),.box 2 (.agg [.nil,(.I 0)]),.box 2 (.agg [(.own 4 0 E.length),(.I B.Next)]),.row 2 (A.map l7),.row 1 (E.map (a0m 2 l7))]) ?_ ?_
   ·refine a3s (X:={q:(Nat × (List a0c)) // a5l (H.drop q.1) q.2 = some A}) (fun q => ([(1,(.ptr 0 0 0)),(2,(.ptr 1 0 0)),(3,(.ptr 2 0 0)),(4,(.I (J:Int))),(5,(.own 3 0 q.1.2.length)),(6,(.I (q.1.1:Int)))],[.box 2 (.agg [(.lst 1 (B.Tables.map (a0m 2 l7))),(.I B.Next)]),.box 2 (.agg [.nil,(.I 0)]),.box 2 (.agg [(.own 4 0 E.length),(.I B.Next)]),.row 2 (q.1.2.map l7),.row 1 (E.map (a0m 2 l7))])) (fun q => H.length - q.1.1) ⟨(0,[]),hb2⟩ ⟨[],[0,1,2,4,3],_,_,rfl,rfl,⟨.r,⟨.r,⟨.r,⟨.r,⟨.of_eq (congrArg (AV.own _ 0) (by simp)),⟨.r,tr⟩⟩⟩⟩⟩⟩,.r⟩ ?_
    rintro ⟨⟨K,D⟩,hc2⟩
    dsimp only at hc2 ⊢
    rcases a6v H K with ⟨hie327,hd330⟩ | ⟨hlt325,M,hx326,hd330⟩
    ·rw [hd330,a5l.eq_1] at hc2
     have hq329:=dlf hie327
     refine go 4 ?_;refine a0x (b6v (enc:=(a0m 2 l7)) rfl rfl hx289) ?_;refine go 1 ?_;refine b1x (d0w (enc:=l7) rfl) fun hl332 => s_q (.bool (decide ((K:Int) < (H.length:Int)))) rfl rfl rfl<|dk<|c4w rfl hq329<|c3q<|c3p<|c4v<|c3o ?_;cases hc2;exact ck [0,1,2,3,4]
    ·rw [hd330,a5l.eq_2] at hc2
     have hq329:=dlt hlt325
     refine go 4 ?_;refine a0x (b6v (enc:=(a0m 2 l7)) rfl rfl hx289) ?_;refine go 1 ?_;refine b1x (d0w (enc:=l7) rfl) fun hl333 => s_q (.bool (decide ((K:Int) < (H.length:Int)))) rfl rfl rfl<|dk<|c9n rfl hq329<|a0v<|a0i<|o8<|a3z ?_;refine go 4 ?_
     refine a0x (b6v (enc:=(a0m 2 l7)) rfl rfl hx289) ?_;refine go 2 ?_;refine a0x (b6v (enc:=l7) rfl rfl hx326) ?_;refine go 1 ?_
     obtain ⟨F,er335,hc2⟩:=ob hc2
     refine a0x (a2r (v:=(.agg [(.I F.Id),(.own 5 0 F.Cells.length)])) (h':=[.row 1 (F.Cells.map (a0m 3 y8))]) (c6x _ _ er335) rfl .r (by simp only [a1u,a1w,List.length_map,c3v,List.nil_append,List.append_nil,List.cons_append];rfl)) ?_;refine a0x (a5u (j:=6) (as':=[(l7 F)]) rfl (fun _ => by decide) ⟨rfl,tr⟩ (.cons (.agg (.cons .r (.cons (.of_eq (congrArg (AV.lst _) (tk (enc:=(a0m 3 y8)) F.Cells))) .nil))) .nil) rfl rfl rfl) ?_
     obtain ⟨g336,hc2⟩:=og hc2
     refine a0x (b3i (j:=7) (L:=((D ++ [F]).map l7)) (len:=(D ++ [F]).length) rfl true rfl rfl (fun h => Bool.noConfusion h) (fun _ _ h => (e3z (show AV.own _ _ _ = AV.lst _ _ from h)).elim) (by decide) (e4a (enc:=l7) D [F] _ (by rfl)) (by simp <;> omega) g336 rfl rfl) ?_
     refine gd 1 ?_;refine a3w<|a0i ?_;refine gd 3 ?_;exact kl ⟨((K + 1),D ++ [F]),hc2⟩ [0,1,2,7,4]
   ·refine a0t ?_
    obtain ⟨g337,hc1⟩:=og hc1
    refine go 3 ?_;refine a0x (a5u (j:=5) (as':=[(.lst 2 (A.map l7))]) rfl (fun _ => by decide) ⟨rfl,tr⟩ (.cons (.of_eq (congrArg (AV.lst _) (tk (enc:=l7) A))) .nil) rfl rfl rfl) ?_
    refine a0x (b3i (j:=6) (L:=((E ++ [A]).map (a0m 2 l7))) (len:=(E ++ [A]).length) rfl true rfl rfl (fun h => Bool.noConfusion h) (fun _ _ h => (e3z (show AV.own _ _ _ = AV.lst _ _ from h)).elim) (by decide) (e4a (enc:=(a0m 2 l7)) E [A] _ (by rfl)) (by simp <;> omega) g337 rfl rfl) ?_
    refine s_q (.ptr 2 0 0) rfl tr rfl<|a7p (a3y (v:=(.own 6 0 ((E ++ [A]).length))) (y':=(.agg [(.own 6 0 ((E ++ [A]).length)),(.I B.Next)])) rfl rfl rfl tr ⟨rfl,nle⟩ ⟨⟨rfl,tr⟩,tr⟩ rfl)<|a1a<|a3w<|a0i ?_;refine gd 3 ?_;exact kl ⟨((J + 1),E ++ [A]),hc1⟩ [0,1,2,6]
 ·refine go 1 ?_;refine a7p (a3y (v:=(.agg [(.own 2 0 G.length),(.I B.Next)])) (y':=(.agg [(.own 2 0 G.length),(.I B.Next)])) rfl rfl rfl tr ⟨rfl,nle⟩ ⟨⟨rfl,tr⟩,⟨⟨rfl,tr⟩,tr⟩⟩ rfl)<|dk<|a2q ?_;cases hf;exact a4n ⟨nle,tr⟩ rfl (by decide) (.agg (.cons (.of_eq (congrArg (AV.lst _) (tk (enc:=(a0m 2 l7)) G))) (.cons .r .nil)))
def d4b (a:y7):a2h:=(a.Kind,a.N,a.T)
def b7p (a:a2h):y7:=⟨a.1,a.2.1,a.2.2⟩
def gRow (r:a0r):a0c:=⟨r.1,r.2.map (List.map b7p)⟩
def b7j (r:a0c):a0r:=(r.Id,r.Cells.map (List.map d4b))
def b7c (t:a0a):a7q:=⟨t.Name,t.Columns.map (fun c => ⟨c.Name,c.Kind,c.Min,c.Max,c.Low,c.High,c.Ref,c.Strong⟩),t.Unique,t.Root⟩
def b2i (s:a0b) (x:a0h):Option a0h :=
    (c5c (s.Tables.map b7c) (fun ts i id => a6h s ⟨ts.map (List.map gRow),x.Next⟩ (i:Int) id) (fun ts => (b0t ⟨ts.map (List.map gRow),x.Next⟩).bind fun y => if y.Next = x.Next then some (y.Tables.map (List.map b7j)) else none) (fun rf => a6b s rf) (fun rows n => a7l (rows.map gRow) n) (x.Tables.map (List.map b7j))).bind fun r =>
    some (⟨r.map (List.map gRow),x.Next⟩:a0h)
theorem e0w (t:List a0r):a8n t = .lst 2 ((t.map gRow).map l7):=by
  simp [a8n,a0m,b0l,l7,gRow,a6o,eA,y8,b7p,Function.comp_def]
theorem c3w (ts:List (List a0r)) (n:Int):a1j ⟨ts.map (List.map gRow),n⟩ = .agg [a1s ts,.I n]:=by
  simp [a1j,a1s,a0m,e0w,Function.comp_def]
theorem d5j (T:List (List a0c)) (n:Int):a1j ⟨T,n⟩ = .agg [a1s (T.map (List.map b7j)),.I n]:=by
  simp [a1j,a1s,a8n,a0m,b0l,l7,b7j,a6o,eA,y8,d4b,Function.comp_def]
theorem c6y (s:a0b):a1h s = b3s (s.Tables.map b7c):=by
  simp [a1h,b3s,eTb,eCol,b7c,y9,a0f,encI,Function.comp_def]
theorem c9d (s:a0b) (x:a0h) (r:a0h) (hf:b2i s x = some r):a0k Tryz.prog 108 .fresh [(a1h s),(a1j x)] (a1j r):=by
  unfold b2i at hf
  obtain ⟨q,eq,hf⟩:=ob hf
  cases hf
  have h:=e7v (nx:=x.Next) (fun ts i id n h => ?_) (fun ts ts' h => ?_) (fun rows N p h => ?_) (fun rf f h => ?_) eq
  · rw [← c6y,← d5j,← c3w] at h
    exact h
  · have:=w_spec_l05Strong _ _ _ _ _ h
    rw [c6y,c3w] at this
    exact this
  · obtain ⟨y,ey,h⟩:=ob h
    split at h
    · rename_i hn
      cases h
      have:=d2t _ _ ey
      rw [c3w] at this
      obtain ⟨yt,yn⟩:=y
      simp only at hn
      subst hn
      rw [d5j] at this
      exact this
    · cases h
  · have:=w_spec_l05Place _ _ _ h
    rw [← e0w] at this
    exact this
  · have:=w_spec_l04Find _ _ _ h
    rw [c6y] at this
    exact this
def b7d (B:a0b) (D:a0h):Option (a0h × Int) :=
    (((a9x B).bind fun F =>
    if (!F) then
    some true
    else
    (b1m B D).bind fun G =>
    some (!G):Option Bool)).bind fun E =>
    if E then
    some ((⟨[],0⟩:a0h),1)
    else
    (b2i B D).bind fun A =>
    some (A,0)
theorem b6i (B:a0b) (D:a0h) (r:(a0h × Int)) (hf:b7d B D = some r):a0k Tryz.prog 32 .fresh [(a1h B),(a1j D)] (.tup [(a1j r.1),(.I r.2)]):=by
 unfold b7d at hf;refine co [10] Tryz.func32 ?_;refine sr<|bx ?_;refine bx ?_;refine bx ?_;refine gq 1 ?_;refine o8<|o8 ?_
 obtain ⟨E,hb1,hf⟩:=ob hf
 refine a1r ([(2,(.ptr 0 0 0)),(3,(.ptr 1 0 0)),(4,(.ptr 2 0 0)),(14,(.bool E))],[.box 1 (.agg [(.lst 4 (B.Tables.map y9))]),.box 2 (.agg [(.lst 1 (D.Tables.map (a0m 2 l7))),(.I D.Next)]),.box 2 (.agg [.nil,(.I 0)])]) ?_ ?_
 ·refine a0t ?_
  obtain ⟨F,er11,hb1⟩:=ob hb1
  rcases oi hb1 with ⟨c12,hb1⟩ | ⟨c12,hb1⟩
  ·refine go 1 ?_;refine cl (w_spec_SchemaOK _ _ er11) ?_;refine go 2 ?_;refine sl 9 c12 ?_;refine gd 5 ?_;cases hb1;exact ck [0,1,2]
  ·obtain ⟨G,er14,hb1⟩:=ob hb1
   refine go 1 ?_;refine cl (w_spec_SchemaOK _ _ er11) ?_;refine go 2 ?_;refine sf 9 c12 ?_;refine go 2 ?_;refine s_on rfl<|cl (w_spec_l05Form _ _ _ er14) ?_;refine gd 2 ?_;cases hb1;exact ck [0,1,2]
 ·rcases oi hf with ⟨c15,hf⟩ | ⟨c15,hf⟩
  ·refine wt c15<|sr<|s_q (.agg [.nil,(.I 0)]) rfl tr rfl<|sb ?_;refine gq 1 ?_;refine a2q ?_;cases hf;exact a4n ⟨nle,⟨tr,tr⟩⟩ rfl (by decide) (.tup (.cons (.agg (.cons (.nil _) (.cons .r .nil))) (.cons .r .nil)))
  ·refine wf c15<|a0v<|a0i<|o8<|a0t ?_
   obtain ⟨A,er17,hf⟩:=ob hf
   refine go 2 ?_;refine a0x (a2r (v:=(.agg [(.own 3 0 A.Tables.length),(.I A.Next)])) (h':=[.row 1 (A.Tables.map (a0m 2 l7))]) (c9d _ _ _ er17) rfl .r (by simp only [a1u,a1w,List.length_map,a1x,List.nil_append,List.append_nil,List.cons_append];rfl))<|sb ?_;refine go 1 ?_
   refine dk<|a2q ?_;cases hf;exact a4n ⟨nle,⟨tr,tr⟩⟩ rfl (by decide) (.tup (.cons (.agg (.cons (.of_eq (congrArg (AV.lst _) (tk (enc:=(a0m 2 l7)) A.Tables))) (.cons .r .nil))) (.cons .r .nil)))
def a2m (D:Int) (B:Int) (A:Int):Option Bool :=
    if (decide (D ≥ B)) then
    some (decide (D ≤ A))
    else
    some false
instance w_impl_within (D:Int) (B:Int) (A:Int) (r:Bool):Wk Tryz.prog (a2m D B A = some r) 81 [(.I D),(.I B),(.I A)] (.bool r):=⟨fun hf => by
 unfold a2m at hf;refine coA [] [] Tryz.func81 ?_;exact W⟩
def b4f (A:Int):Option Bool :=
    if (decide (A ≥ 48)) then
    some (decide (A ≤ 57))
    else
    some false
instance w_impl_isDigit (A:Int) (r:Bool):Wk Tryz.prog (b4f A = some r) 278 [(.int .u8 A)] (.bool r):=⟨fun hf => by
 unfold b4f at hf;refine coA [] [] Tryz.func278 ?_;exact W⟩
def a5n :List UInt8 → Nat → Option (Fl Bool Unit)
  | [],B =>
    some (.go ())
  | A :: xs,B =>
    ((some ():Option Unit)).bind fun _ =>
    ((if (!(bif (bif (bif (decide ((A.toNat:Int) ≥ 97)) then (decide ((A.toNat:Int) ≤ 122)) else false) then true else (bif (decide ((A.toNat:Int) ≥ 65)) then (decide ((A.toNat:Int) ≤ 90)) else false)) then true else ((A.toNat:Int) == 95))) then
    if ((B:Int) == 0) then
    some true
    else
    (b4f (A.toNat:Int)).bind fun F =>
    some (!F)
    else
    some false:Option Bool)).bind fun E =>
    if E then
    some (.ret false)
    else
    a5n xs (B + 1)
def b0u (D:Str):Option Bool :=
    (a5n D 0).bind fun q => (match q with
    | .ret r => some r
    | .go _ =>
    (a2m (D.length:Int) 1 40).bind fun G =>
    some G)
instance w_impl_NameOK (D:Str) (r:Bool):Wk Tryz.prog (b0u D = some r) 186 [(.str D)] (.bool r):=⟨fun hf => by
 unfold b0u at hf;refine co [42,46,58] Tryz.func186 ?_;refine gq 1 ?_;refine go 1 ?_;refine lnS fun hl2 => ?_;refine gq 1 ?_
 obtain ⟨p44,hb1,hf⟩:=ob hf
 refine a8v (X:={q:Unit // p44 = .go q}) (fun q => ([(0,(.str D))],[])) ?_ ?_
 ·refine al (X:={q:Nat // a5n (D.drop q) q = some p44}) (fun q => ([(0,(.str D)),(7,(.I (D.length:Int))),(8,(.I (q.1:Int)))],[])) (fun q => D.length - q.1) ⟨0,hb1⟩ [] ?_
  rintro ⟨B,hc1⟩
  dsimp only at hc1 ⊢
  rcases a6v D B with ⟨hie47,hd50⟩ | ⟨hlt45,A,hx46,hd50⟩
  ·rw [hd50,a5n.eq_1] at hc1
   refine gq 1 ?_;refine o8<|wg (dlf hie47)<|le ?_;cases hc1;exact kk ⟨_,rfl⟩ []
  ·rw [hd50,a5n.eq_2] at hc1
   refine gq 1 ?_;refine o8<|wt (dlt hlt45)<|a0v<|a0i<|o8<|a3z ?_;refine gq 2 ?_;refine go 2 ?_;refine a0x (c4x rfl rfl hx46) ?_;refine gq 1 ?_;refine o8 ?_
   obtain ⟨p52,hb2,hc1⟩:=ob hc1
   refine a1r ([(0,(.str D)),(3,(.I (B:Int))),(4,(.int .u8 (A.toNat:Int))),(5,(.bool (bif (bif (bif (decide ((A.toNat:Int) ≥ 97)) then (decide ((A.toNat:Int) ≤ 122)) else false) then true else (bif (decide ((A.toNat:Int) ≥ 65)) then (decide ((A.toNat:Int) ≤ 90)) else false)) then true else ((A.toNat:Int) == 95)))),(7,(.I (D.length:Int))),(8,(.I (B:Int)))],[]) ?_ ?_
   ·refine go 3 ?_;refine sg (.int .u8 (A.toNat:Int)) ?_;refine sg (.bool (decide ((A.toNat:Int) ≤ 122))) ?_;refine b9z (x:=(decide ((A.toNat:Int) ≤ 122))) (y:=false) rfl (fun hv => by (try simp only [a2u hv]);rfl) (fun hv => by (try simp only [a2u hv]);rfl) ?_;refine go 1 ?_
    refine s_g (v:=(bif (decide ((A.toNat:Int) ≥ 97)) then (decide ((A.toNat:Int) ≤ 122)) else false)) (.int .u8 (A.toNat:Int)) rfl (fun hv => by (try simp only [a2u hv]);exact ⟨rfl,tr,rfl⟩) ?_;refine s_g (v:=(bif (decide ((A.toNat:Int) ≥ 97)) then (decide ((A.toNat:Int) ≤ 122)) else false)) (.bool (decide ((A.toNat:Int) ≥ 65))) rfl (fun hv => by (try simp only [a2u hv]);exact ⟨rfl,rfl,rfl⟩) ?_;refine s_g (v:=(bif (decide ((A.toNat:Int) ≥ 97)) then (decide ((A.toNat:Int) ≤ 122)) else false)) (.bool (decide ((A.toNat:Int) ≥ 65))) rfl (fun hv => by (try simp only [a2u hv]);exact ⟨rfl,tr,rfl⟩) ?_;refine f4n (v1:=(bif (decide ((A.toNat:Int) ≥ 97)) then (decide ((A.toNat:Int) ≤ 122)) else false)) (b1:=false) (v2:=(decide ((A.toNat:Int) ≥ 65))) (.int .u8 (A.toNat:Int)) rfl (fun hv hw => by (try simp only [a2u hv,a2u hw]);exact ⟨rfl,tr,rfl⟩) ?_
    refine f4n (v1:=(bif (decide ((A.toNat:Int) ≥ 97)) then (decide ((A.toNat:Int) ≤ 122)) else false)) (b1:=false) (v2:=(decide ((A.toNat:Int) ≥ 65))) (.bool (decide ((A.toNat:Int) ≤ 90))) rfl (fun hv hw => by (try simp only [a2u hv,a2u hw]);exact ⟨rfl,rfl,rfl⟩) ?_;refine f4o (v1:=(bif (decide ((A.toNat:Int) ≥ 97)) then (decide ((A.toNat:Int) ≤ 122)) else false)) (b1:=false) (v2:=(decide ((A.toNat:Int) ≥ 65))) (x:=(decide ((A.toNat:Int) ≤ 90))) (y:=false) rfl (fun hv => by (try simp only [a2u hv]);rfl) (fun hv hw => by (try simp only [a2u hv,a2u hw]);rfl) (fun hv hw => by (try simp only [a2u hv,a2u hw]);rfl) ?_;refine b9z (x:=true) (y:=(bif (decide ((A.toNat:Int) ≥ 65)) then (decide ((A.toNat:Int) ≤ 90)) else false)) rfl (fun hv => by (try simp only [a2u hv]);rfl) (fun hv => by (try simp only [a2u hv]);rfl) ?_
    refine go 1 ?_;refine s_g (v:=(bif (bif (decide ((A.toNat:Int) ≥ 97)) then (decide ((A.toNat:Int) ≤ 122)) else false) then true else (bif (decide ((A.toNat:Int) ≥ 65)) then (decide ((A.toNat:Int) ≤ 90)) else false))) (.int .u8 (A.toNat:Int)) rfl (fun hv => by (try simp only [a2u hv]);exact ⟨rfl,tr,rfl⟩) ?_;refine s_g (v:=(bif (bif (decide ((A.toNat:Int) ≥ 97)) then (decide ((A.toNat:Int) ≤ 122)) else false) then true else (bif (decide ((A.toNat:Int) ≥ 65)) then (decide ((A.toNat:Int) ≤ 90)) else false))) (.bool ((A.toNat:Int) == 95)) rfl (fun hv => by (try simp only [a2u hv]);exact ⟨rfl,rfl,rfl⟩) ?_
    refine b9z (x:=true) (y:=((A.toNat:Int) == 95)) rfl (fun hv => by (try simp only [a2u hv]);rfl) (fun hv => by (try simp only [a2u hv]);rfl) ?_;refine gd 1 ?_;cases hb2;exact ck []
   ·refine o8 ?_
    obtain ⟨E,hb2,hc1⟩:=ob hc1
    refine a1r ([(0,(.str D)),(7,(.I (D.length:Int))),(8,(.I (B:Int))),(42,(.bool E))],[]) ?_ ?_
    ·refine a0t ?_
     rcases oi hb2 with ⟨c59,hb2⟩ | ⟨c59,hb2⟩
     ·rcases oi hb2 with ⟨c60,hb2⟩ | ⟨c60,hb2⟩
      ·refine go 3 ?_
       refine sl 34 c59 ?_;refine go 3 ?_;refine sl 37 c60 ?_;refine gd 5 ?_;cases hb2;exact ck []
      ·obtain ⟨F,er62,hb2⟩:=ob hb2
       refine go 3 ?_
       refine sl 34 c59 ?_;refine go 3 ?_;refine sf 37 c60 ?_;refine go 1 ?_;refine s_on rfl<|cl (w_impl_isDigit _ _ er62) ?_;refine gd 3 ?_;cases hb2;exact ck []
     ·refine go 3 ?_
      refine sf 34 c59 ?_;refine gd 8 ?_;cases hb2;exact ck []
    ·rcases oi hc1 with ⟨c63,hc1⟩ | ⟨c63,hc1⟩
     ·refine wt c63 ?_;refine gq 1 ?_;cases hc1;cases hf;exact rf
     ·refine wf c63<|a0v<|a3w<|a0i ?_;refine gd 2 ?_;exact kl ⟨(B + 1),hc1⟩ []
 ·rintro ⟨_,rfl⟩
  refine o8<|a0t ?_
  obtain ⟨G,er66,hf⟩:=ob hf
  refine go 1 ?_;refine lnS fun hl64 => ?_;refine cl (w_impl_within _ _ _ _ er66) ?_;refine gq 1 ?_;cases hf;exact rf⟩
def a7m (A:Int):Option Bool :=
    (a2m A (-1000000000) 1000000000).bind fun B =>
    some B
instance w_impl_isNumber (A:Int) (r:Bool):Wk Tryz.prog (a7m A = some r) 233 [(.I A)] (.bool r):=⟨fun hf => by
 unfold a7m at hf;refine coA [] [] Tryz.func233 ?_;exact W⟩
end Go.R
end
section
set_option linter.all false
namespace Go.R
open Go Go.Proofs
set_option maxRecDepth 100000
set_option maxHeartbeats 8000000
def b2j (A:x8):Option Bool :=
    (((b0u A.Name).bind fun E =>
    if (!E) then
    some true
    else
    (a2m A.Min 0 1).bind fun F =>
    if (!F) then
    some true
    else
    (a2m A.Max 1 8).bind fun G =>
    some (!G):Option Bool)).bind fun B =>
    if B then
    some false
    else
    if (A.Kind == 1) then
    (a7m A.Low).bind fun H =>
    if H then
    (a7m A.High).bind fun I =>
    some (bif (bif (bif I then (decide (A.Low ≤ A.High)) else false) then (A.Ref == []) else false) then (!A.Strong) else false)
    else
    some false
    else
    ((if (A.Kind == 2) then
    some true
    else
    some (A.Kind == 3):Option Bool)).bind fun D =>
    if D then
    some (bif (bif (bif (A.Low == 0) then (A.High == 0) else false) then (A.Ref == []) else false) then (!A.Strong) else false)
    else
    if (A.Kind == 4) then
    if (bif (A.Low == 0) then (A.High == 0) else false) then
    (b0u A.Ref).bind fun J =>
    some (bif J then (A.Min == 0) else false)
    else
    some false
    else
    some false
instance w_impl_ColumnOK (A:x8) (r:Bool):Wk Tryz.prog (b2j A = some r) 187 [(a0f A)] (.bool r):=⟨fun hf => by
 unfold b2j at hf;refine coA [5,26] [cA [1] fun v:Bool => [(18,(.bool v))],cA [1,20] fun v:Bool => [(48,(.bool v))]] Tryz.func187 ?_;exact W⟩
def a0q (D:(x8 → Option Bool)):List x8 → Nat → Option (Fl Int Unit)
  | [],A =>
    some (.go ())
  | F :: xs,A =>
    (D F).bind fun E =>
    if E then
    some (.ret (A:Int))
    else
    a0q D xs (A + 1)
def a1b (B:(List x8)) (D:(x8 → Option Bool)):Option Int :=
    (a0q D B 0).bind fun q => (match q with
    | .ret r => some r
    | .go _ =>
    some (-1))
theorem a4o (B:(List x8)) (D:(x8 → Option Bool)) (r:Int) (hf:a1b B D = some r) (kf_f_2:Nat) (cf_f_2:List AV) (okf_f_2:c8y Tryz.prog kf_f_2 = true) (hcf_f_2:∀ h p,a2o h p cf_f_2 = some cf_f_2) (hrf_f_2:∀ f,a6g f cf_f_2 = cf_f_2) (hpf_f_2:∀ a0 r,D a0 = some r → a0k Tryz.prog kf_f_2 .flat ([(a0f a0)] ++ cf_f_2) (.bool r)):a0k Tryz.prog 268 .flat [(.lst 8 (B.map a0f)),(.fn kf_f_2 cf_f_2)] (.I r):=by
 unfold a1b at hf;refine co [50] Tryz.func268 ?_;refine gq 1 ?_;refine go 1 ?_;refine ln fun hl3 => ?_;refine gq 1 ?_
 obtain ⟨p24,hb1,hf⟩:=ob hf
 refine a8v (X:={q:Unit // p24 = .go q}) (fun q => ([],[])) ?_ ?_
 ·refine a3s (X:={q:Nat // a0q D (B.drop q) q = some p24}) (fun q => ([(0,(.lst 8 (B.map a0f))),(1,(.fn kf_f_2 cf_f_2)),(7,(.I (B.length:Int))),(8,(.I (q.1:Int)))],[])) (fun q => B.length - q.1) ⟨0,hb1⟩ ⟨[],[],_,_,rfl,rfl,⟨.r,⟨.of_eq (congrArg (AV.fn _) (hrf_f_2 _)),⟨.r,⟨.r,tr⟩⟩⟩⟩,.r⟩ ?_
  rintro ⟨A,hc1⟩
  dsimp only at hc1 ⊢
  rcases a6v B A with ⟨hie27,hd30⟩ | ⟨hlt25,F,hx26,hd30⟩
  ·rw [hd30,a0q.eq_1] at hc1
   refine gq 1 ?_;refine o8<|wg (dlf hie27)<|le ?_;cases hc1;exact kk ⟨_,rfl⟩ []
  ·rw [hd30,a0q.eq_2] at hc1
   refine gq 1 ?_;refine o8<|wt (dlt hlt25)<|a0v<|a0i<|o8<|a3z ?_;refine gq 2 ?_;refine o8<|a0t ?_
   obtain ⟨E,er33,hc1⟩:=ob hc1
   refine go 3 ?_;refine ia hx26 ?_;refine go 1 ?_;refine a0x (c1n (v:=(.bool E)) rfl okf_f_2 hcf_f_2 (hpf_f_2 _ _ er33) rfl .r rfl)<|a1a<|a0i ?_
   rcases oi hc1 with ⟨c34,hc1⟩ | ⟨c34,hc1⟩
   ·refine wt c34 ?_;refine gq 2 ?_;cases hc1;cases hf;exact rf
   ·refine wf c34<|a0v<|a3w<|a0i ?_;refine gd 2 ?_;exact a5p ⟨(A + 1),hc1⟩ (mul hlt25) ⟨[],[],_,_,rfl,rfl,⟨.r,⟨.of_eq (congrArg (AV.fn _) (hrf_f_2 _)),⟨.r,⟨.of_eq (congrArg (AV.int _) (a5b hlt25 hl3)),tr⟩⟩⟩⟩,.r⟩
 ·rintro ⟨_,rfl⟩
  refine gq 1 ?_;cases hf;exact rf
def a6k (B:x8) (A:Str):Option Bool :=
    some (B.Name == A)
instance w_impl_Table_columnAt_1 (B:x8) (A:Str) (r:Bool):Wk Tryz.prog (a6k B A = some r) 279 [(a0f B),(.iptr (.str A) 0)] (.bool r):=⟨fun hf => by
 unfold a6k at hf;refine coA [] [] Tryz.func279 ?_;exact W⟩
def a5v (B:a0a) (A:Str):Option Int :=
    (a1b B.Columns (fun a0 => a6k a0 A)).bind fun D =>
    some D
instance w_impl_Table_columnAt (B:a0a) (A:Str) (r:Int):Wk Tryz.prog (a5v B A = some r) 188 [(y9 B),(.str A)] (.I r):=⟨fun hf => by
  unfold a5v at hf;refine co [] Tryz.func188 ?_
  refine o8 ?_
  refine a0t ?_
  refine bx ?_
  refine bx ?_
  refine a0x (b9d (.I 0) rfl) ?_
  refine a1a ?_
  refine a0i ?_
  refine o8 ?_
  refine a0t ?_
  obtain ⟨D,er4,hf⟩:=ob hf
  refine a0x (o_q (.ptr 0 0 1) rfl tr rfl) ?_
  refine a0x (o_q (.lst 8 (B.Columns.map a0f)) rfl nle rfl) ?_
  refine a0x (o_q (.fn 279 [(.ptr 1 0 0)]) rfl tr rfl) ?_
  refine cl (a4o _ _ _ er4 279 [(.iptr (.str A) 0)] (by kernel_rfl) (fun _ _ => rfl) (fun _ => rfl) (fun a0 r h => w_impl_Table_columnAt_1 a0 A r h)) ?_
  refine a0x (b9d (.I D) rfl) ?_
  refine a1a ?_
  refine a0i ?_
  refine a2q ?_
  cases hf
  exact rf⟩
def a9e (A:a0a):List x8 → Nat → Option (Fl Bool Unit)
  | [],D =>
    some (.go ())
  | G :: xs,D =>
    (((b2j G).bind fun M =>
    if (!M) then
    some true
    else
    (a5v A G.Name).bind fun N =>
    some (N != (D:Int)):Option Bool)).bind fun H =>
    if H then
    some (.ret false)
    else
    a9e A xs (D + 1)
def a9f (A:a0a):List Int → Nat → Option (Fl Bool Unit)
  | [],B =>
    some (.go ())
  | E :: xs,B =>
    (((a2m E 0 (w64 ((A.Columns.length:Int) - 1))).bind fun K =>
    if (!K) then
    some true
    else
    if (decide ((B:Int) > 0)) then
    (idx A.Unique (w64 ((B:Int) - 1))).bind fun L =>
    some (decide (L ≥ E))
    else
    some false:Option Bool)).bind fun F =>
    if F then
    some (.ret false)
    else
    a9f A xs (B + 1)
def b1n (A:a0a):Option Bool :=
    (((b0u A.Name).bind fun O =>
    if (!O) then
    some true
    else
    (a2m (A.Columns.length:Int) 1 6).bind fun P =>
    some (bif (!P) then true else (decide ((A.Unique.length:Int) > (A.Columns.length:Int)))):Option Bool)).bind fun J =>
    if J then
    some false
    else
    (a9e A A.Columns 0).bind fun q => (match q with
    | .ret r => some r
    | .go _ =>
    (a9f A A.Unique 0).bind fun q => (match q with
    | .ret r => some r
    | .go _ =>
    some true))
instance w_impl_isTable (A:a0a) (r:Bool):Wk Tryz.prog (b1n A = some r) 88 [(y9 A)] (.bool r):=⟨fun hf => by
 unfold b1n at hf;refine coA [5,13,27,33,36,50,56] [cA [1] fun v:Bool => [(26,(.bool v))],lI [1,28,29] fun i => [(30,(.I (i:Int)))],cA [1,28,29,30] fun v:Bool => [(45,(.bool v))],fA [1] fun q:Unit => [],lI [1,48,49] fun i => [(50,(.I (i:Int)))],cA [1,48,49,50] fun v:Bool => [(75,(.bool v))],fA [] fun q:Unit => []] Tryz.func88 ?_;exact W⟩
def a0s (D:(a0a → Option Bool)):List a0a → Nat → Option (Fl Int Unit)
  | [],A =>
    some (.go ())
  | F :: xs,A =>
    (D F).bind fun E =>
    if E then
    some (.ret (A:Int))
    else
    a0s D xs (A + 1)
def a1e (B:(List a0a)) (D:(a0a → Option Bool)):Option Int :=
    (a0s D B 0).bind fun q => (match q with
    | .ret r => some r
    | .go _ =>
    some (-1))
theorem a5c (B:(List a0a)) (D:(a0a → Option Bool)) (r:Int) (hf:a1e B D = some r) (kf_f_2:Nat) (cf_f_2:List AV) (okf_f_2:c8y Tryz.prog kf_f_2 = true) (hcf_f_2:∀ h p,a2o h p cf_f_2 = some cf_f_2) (hrf_f_2:∀ f,a6g f cf_f_2 = cf_f_2) (hpf_f_2:∀ a0 r,D a0 = some r → a0k Tryz.prog kf_f_2 .flat ([(y9 a0)] ++ cf_f_2) (.bool r)):a0k Tryz.prog 267 .flat [(.lst 4 (B.map y9)),(.fn kf_f_2 cf_f_2)] (.I r):=by
 unfold a1e at hf;refine co [50] Tryz.func267 ?_;refine gq 1 ?_;refine go 1 ?_;refine ln fun hl3 => ?_;refine gq 1 ?_
 obtain ⟨p24,hb1,hf⟩:=ob hf
 refine a8v (X:={q:Unit // p24 = .go q}) (fun q => ([],[])) ?_ ?_
 ·refine a3s (X:={q:Nat // a0s D (B.drop q) q = some p24}) (fun q => ([(0,(.lst 4 (B.map y9))),(1,(.fn kf_f_2 cf_f_2)),(7,(.I (B.length:Int))),(8,(.I (q.1:Int)))],[])) (fun q => B.length - q.1) ⟨0,hb1⟩ ⟨[],[],_,_,rfl,rfl,⟨.r,⟨.of_eq (congrArg (AV.fn _) (hrf_f_2 _)),⟨.r,⟨.r,tr⟩⟩⟩⟩,.r⟩ ?_
  rintro ⟨A,hc1⟩
  dsimp only at hc1 ⊢
  rcases a6v B A with ⟨hie27,hd30⟩ | ⟨hlt25,F,hx26,hd30⟩
  ·rw [hd30,a0s.eq_1] at hc1
   refine gq 1 ?_;refine o8<|wg (dlf hie27)<|le ?_;cases hc1;exact kk ⟨_,rfl⟩ []
  ·rw [hd30,a0s.eq_2] at hc1
   refine gq 1 ?_;refine o8<|wt (dlt hlt25)<|a0v<|a0i<|o8<|a3z ?_;refine gq 2 ?_;refine o8<|a0t ?_
   obtain ⟨E,er33,hc1⟩:=ob hc1
   refine go 3 ?_;refine ia hx26 ?_;refine go 1 ?_;refine a0x (c1n (v:=(.bool E)) rfl okf_f_2 hcf_f_2 (hpf_f_2 _ _ er33) rfl .r rfl)<|a1a<|a0i ?_
   rcases oi hc1 with ⟨c34,hc1⟩ | ⟨c34,hc1⟩
   ·refine wt c34 ?_;refine gq 2 ?_;cases hc1;cases hf;exact rf
   ·refine wf c34<|a0v<|a3w<|a0i ?_;refine gd 2 ?_;exact a5p ⟨(A + 1),hc1⟩ (mul hlt25) ⟨[],[],_,_,rfl,rfl,⟨.r,⟨.of_eq (congrArg (AV.fn _) (hrf_f_2 _)),⟨.r,⟨.of_eq (congrArg (AV.int _) (a5b hlt25 hl3)),tr⟩⟩⟩⟩,.r⟩
 ·rintro ⟨_,rfl⟩
  refine gq 1 ?_;cases hf;exact rf
def a1i (A:(List a0a)) (B:(a0a → Option Bool)):Option Bool :=
    (a1e A B).bind fun D =>
    some (decide (D ≥ 0))
theorem a8o (A:(List a0a)) (B:(a0a → Option Bool)) (r:Bool) (hf:a1i A B = some r) (kf_f_2:Nat) (cf_f_2:List AV) (okf_f_2:c8y Tryz.prog kf_f_2 = true) (hcf_f_2:∀ h p,a2o h p cf_f_2 = some cf_f_2) (hrf_f_2:∀ f,a6g f cf_f_2 = cf_f_2) (hpf_f_2:∀ a0 r,B a0 = some r → a0k Tryz.prog kf_f_2 .flat ([(y9 a0)] ++ cf_f_2) (.bool r)):a0k Tryz.prog 167 .flat [(.lst 4 (A.map y9)),(.fn kf_f_2 cf_f_2)] (.bool r):=by
 unfold a1i at hf;refine co [] Tryz.func167 ?_;refine gq 1 ?_;refine o8<|a0t ?_
 obtain ⟨D,er4,hf⟩:=ob hf
 refine go 2 ?_;refine a0x (b3c (a5c _ _ _ er4 kf_f_2 cf_f_2 okf_f_2 hcf_f_2 hrf_f_2 hpf_f_2) (b7y rfl (b7y (e0i hcf_f_2) rfl)) .r rfl) ?_;refine gq 2 ?_;cases hf;exact rf
def a1f (A:(List x8)) (B:(x8 → Option Bool)):Option Bool :=
    (a1b A B).bind fun D =>
    some (decide (D ≥ 0))
theorem a7r (A:(List x8)) (B:(x8 → Option Bool)) (r:Bool) (hf:a1f A B = some r) (kf_f_2:Nat) (cf_f_2:List AV) (okf_f_2:c8y Tryz.prog kf_f_2 = true) (hcf_f_2:∀ h p,a2o h p cf_f_2 = some cf_f_2) (hrf_f_2:∀ f,a6g f cf_f_2 = cf_f_2) (hpf_f_2:∀ a0 r,B a0 = some r → a0k Tryz.prog kf_f_2 .flat ([(a0f a0)] ++ cf_f_2) (.bool r)):a0k Tryz.prog 169 .flat [(.lst 8 (A.map a0f)),(.fn kf_f_2 cf_f_2)] (.bool r):=by
 unfold a1f at hf;refine co [] Tryz.func169 ?_;refine gq 1 ?_;refine o8<|a0t ?_
 obtain ⟨D,er4,hf⟩:=ob hf
 refine go 2 ?_;refine a0x (b3c (a4o _ _ _ er4 kf_f_2 cf_f_2 okf_f_2 hcf_f_2 hrf_f_2 hpf_f_2) (b7y rfl (b7y (e0i hcf_f_2) rfl)) .r rfl) ?_;refine gq 2 ?_;cases hf;exact rf
def a6l (B:a0a) (A:Str):Option Bool :=
    some (B.Name == A)
instance w_impl_Schema_tableAt_1 (B:a0a) (A:Str) (r:Bool):Wk Tryz.prog (a6l B A = some r) 269 [(y9 B),(.iptr (.str A) 0)] (.bool r):=⟨fun hf => by
 unfold a6l at hf;refine coA [] [] Tryz.func269 ?_;exact W⟩
def a1p (B:a0b) (A:Str):Option Int :=
    (a1e B.Tables (fun a0 => a6l a0 A)).bind fun D =>
    some D
instance w_impl_Schema_tableAt (B:a0b) (A:Str) (r:Int):Wk Tryz.prog (a1p B A = some r) 171 [(a1h B),(.str A)] (.I r):=⟨fun hf => by
  unfold a1p at hf;refine co [] Tryz.func171 ?_
  refine o8 ?_
  refine a0t ?_
  refine bx ?_
  refine bx ?_
  refine a0x (b9d (.I 0) rfl) ?_
  refine a1a ?_
  refine a0i ?_
  refine o8 ?_
  refine a0t ?_
  obtain ⟨D,er4,hf⟩:=ob hf
  refine a0x (o_q (.ptr 0 0 0) rfl tr rfl) ?_
  refine a0x (o_q (.lst 4 (B.Tables.map y9)) rfl nle rfl) ?_
  refine a0x (o_q (.fn 269 [(.ptr 1 0 0)]) rfl tr rfl) ?_
  refine cl (a5c _ _ _ er4 269 [(.iptr (.str A) 0)] (by kernel_rfl) (fun _ _ => rfl) (fun _ => rfl) (fun a0 r h => w_impl_Schema_tableAt_1 a0 A r h)) ?_
  refine a0x (b9d (.I D) rfl) ?_
  refine a1a ?_
  refine a0i ?_
  refine a2q ?_
  cases hf
  exact rf⟩
def a7b (B:x8) (A:a0b):Option Bool :=
    if (B.Kind == 4) then
    (a1p A B.Ref).bind fun D =>
    some (decide (D < 0))
    else
    some false
instance w_impl_SchemaOK_1_1 (B:x8) (A:a0b) (r:Bool):Wk Tryz.prog (a7b B A = some r) 170 [(a0f B),(.iptr (a1h A) 0)] (.bool r):=⟨fun hf => by
 unfold a7b at hf;refine coA [] [] Tryz.func170 ?_;exact W⟩
def a9g (B:a0a) (A:a0b):Option Bool :=
    (a1f B.Columns (fun a0 => a7b a0 A)).bind fun D =>
    some D
instance w_impl_SchemaOK_1 (B:a0a) (A:a0b) (r:Bool):Wk Tryz.prog (a9g B A = some r) 168 [(y9 B),(.iptr (a1h A) 0)] (.bool r):=⟨fun hf => by
  unfold a9g at hf;refine co [] Tryz.func168 ?_
  refine o8 ?_
  refine a0t ?_
  refine bx ?_
  refine a0x (b9d (.bool false) rfl) ?_
  refine a1a ?_
  refine a0i ?_
  refine o8 ?_
  refine a0t ?_
  obtain ⟨D,er4,hf⟩:=ob hf
  refine a0x (o_q (.ptr 0 0 1) rfl tr rfl) ?_
  refine a0x (o_q (.lst 8 (B.Columns.map a0f)) rfl nle rfl) ?_
  refine a0x (o_q (.fn 170 [(.iptr (a1h A) 0)]) rfl tr rfl) ?_
  refine cl (a7r _ _ _ er4 170 [(.iptr (a1h A) 0)] (by kernel_rfl) (fun _ _ => rfl) (fun _ => rfl) (fun a0 r h => w_impl_SchemaOK_1_1 a0 A r h)) ?_
  refine a0x (b9d (.bool D) rfl) ?_
  refine a1a ?_
  refine a0i ?_
  refine a2q ?_
  cases hf
  exact rf⟩
def a4e (A:a0b):List a0a → Nat → Option (Fl Bool Unit)
  | [],B =>
    some (.go ())
  | D :: xs,B =>
    (((b1n D).bind fun G =>
    if (!G) then
    some true
    else
    if (decide ((B:Int) > 0)) then
    (idx A.Tables (w64 ((B:Int) - 1))).bind fun E =>
    some (!Op.bytesLess E.Name D.Name)
    else
    some false:Option Bool)).bind fun F =>
    if F then
    some (.ret false)
    else
    a4e A xs (B + 1)
def b2k (A:a0b):Option Bool :=
    (a2m (A.Tables.length:Int) 1 4).bind fun J =>
    if (!J) then
    some false
    else
    (a4e A A.Tables 0).bind fun q => (match q with
    | .ret r => some r
    | .go _ =>
    (a1i A.Tables (fun a0 => a9g a0 A)).bind fun H =>
    some (!H))
instance w_impl_SchemaOK (A:a0b) (r:Bool):Wk Tryz.prog (b2k A = some r) 74 [(a1h A)] (.bool r):=⟨fun hf => by
 unfold b2k at hf;refine co [54,66] Tryz.func74 ?_ (sp:=[(5,[[15,17],[4],[3],[1000]]),(6,[[18],[19,0],[20,36]]),(9,[[38,42],[2]])]);refine sr<|bx ?_;refine gq 1 ?_;refine o8<|o8<|a0t ?_
 obtain ⟨J,er4,hf⟩:=ob hf
 refine go 2 ?_;refine ln fun hl2 => ?_;refine cl (w_impl_within _ _ _ _ er4) ?_;refine gq 1 ?_
 rcases oi hf with ⟨c5,hf⟩ | ⟨c5,hf⟩
 ·refine wt c5 ?_;refine gq 1 ?_;cases hf;exact rf
 ·refine wf c5<|a0v<|a0i ?_;refine go 2 ?_;refine ln fun hl6 => ?_;refine gq 1 ?_
  obtain ⟨p57,hb1,hf⟩:=ob hf
  refine a8v (X:={q:Unit // p57 = .go q}) (fun q => ([(1,(.ptr 0 0 0))],[.box 1 (.agg [(.lst 4 (A.Tables.map y9))])])) ?_ ?_
  ·refine al (X:={q:Nat // a4e A (A.Tables.drop q) q = some p57}) (fun q => ([(1,(.ptr 0 0 0)),(11,(.lst 4 (A.Tables.map y9))),(12,(.I (A.Tables.length:Int))),(13,(.I (q.1:Int)))],[.box 1 (.agg [(.lst 4 (A.Tables.map y9))])])) (fun q => A.Tables.length - q.1) ⟨0,hb1⟩ [0] ?_
   rintro ⟨B,hc1⟩
   dsimp only at hc1 ⊢
   rcases a6v A.Tables B with ⟨hie60,hd63⟩ | ⟨hlt58,D,hx59,hd63⟩
   ·rw [hd63,a4e.eq_1] at hc1
    refine gq 1 ?_;refine o8<|wg (dlf hie60)<|le ?_;cases hc1;exact kk ⟨_,rfl⟩ [0]
   ·rw [hd63,a4e.eq_2] at hc1
    refine gq 1 ?_;refine o8<|wt (dlt hlt58)<|a0v<|a0i<|o8<|a3z ?_;refine go 1 ?_;refine ia hx59 ?_;refine go 1 ?_;refine bx ?_;refine go 1 ?_;refine sb ?_
    refine dk<|o8 ?_
    obtain ⟨F,hb2,hc1⟩:=ob hc1
    refine a1r ([(1,(.ptr 0 0 0)),(11,(.lst 4 (A.Tables.map y9))),(12,(.I (A.Tables.length:Int))),(13,(.I (B:Int))),(36,(.bool F))],[.box 1 (.agg [(.lst 4 (A.Tables.map y9))])]) ?_ ?_
    ·refine go 1 ?_
     obtain ⟨G,er74,hb2⟩:=ob hb2
     refine cll (w_impl_isTable _ _ er74) ?_;refine go 2 ?_
     rcases oi hb2 with ⟨c75,hb2⟩ | ⟨c75,hb2⟩
     ·refine sl 21 c75 ?_;refine gd 15 ?_;cases hb2;exact ck [0]
     ·refine sf 21 c75 ?_;refine go 3 ?_
      rcases oi hb2 with ⟨c76,hb2⟩ | ⟨c76,hb2⟩
      ·refine sl 24 c76 ?_;refine go 4 ?_;refine s_on rfl ?_
       obtain ⟨E,ex78,hb2⟩:=ob hb2
       refine ix ex78<|s_on rfl<|s_q (.iptr (y9 E) 0) rfl tr rfl<|s_on rfl<|s_q (.str E.Name) rfl nle rfl<|s_on rfl<|s_q (.ptr 1 0 0) rfl tr rfl<|s_on rfl<|s_q (.str D.Name) rfl nle rfl<|s_on rfl<|s_q (.bool (!Op.bytesLess E.Name D.Name)) rfl tr rfl<|s_on rfl<|s_q (.bool (!Op.bytesLess E.Name D.Name)) rfl tr rfl<|s_q (.bool (!Op.bytesLess E.Name D.Name)) rfl tr rfl<|a1a ?_;cases hb2;exact ck [0]
      ·refine sf 24 c76 ?_;refine gd 12 ?_;cases hb2;exact ck [0]
    ·rcases oi hc1 with ⟨c79,hc1⟩ | ⟨c79,hc1⟩
     ·refine wt c79 ?_;refine gq 1 ?_;cases hc1;cases hf;exact rf
     ·refine wf c79<|a0v<|a3w<|a0i ?_;refine gd 2 ?_;exact kl ⟨(B + 1),hc1⟩ [0]
  ·rintro ⟨_,rfl⟩
   refine o8<|a0t ?_
   obtain ⟨H,er81,hf⟩:=ob hf
   refine go 3 ?_;refine cl (a8o _ _ _ er81 168 [(.iptr (a1h A) 0)] (by kernel_rfl) (fun _ _ => rfl) (fun _ => rfl) (fun a0 r h => w_impl_SchemaOK_1 a0 A r h)) ?_;refine gq 2 ?_;cases hf;exact rf⟩
def b6o (A:Int):Option Bool :=
    (a2m A 1 1000000).bind fun B =>
    some B
instance w_impl_isId (A:Int) (r:Bool):Wk Tryz.prog (b6o A = some r) 89 [(.I A)] (.bool r):=⟨fun hf => by
 unfold b6o at hf;refine coA [] [] Tryz.func89 ?_;exact W⟩
def a3n (A:(List a0c)):List a0c → Nat → Option (Fl Bool Unit)
  | [],B =>
    some (.go ())
  | D :: xs,B =>
    (idx A (w64 ((B:Int) - 1))).bind fun E =>
    if (decide (E.Id ≥ D.Id)) then
    some (.ret false)
    else
    a3n A xs (B + 1)
def b0v (A:(List a0c)):Option Bool :=
    (a3n A (A.drop 1) 1).bind fun q => (match q with
    | .ret r => some r
    | .go _ =>
    some true)
instance w_impl_areRising (A:(List a0c)) (r:Bool):Wk Tryz.prog (b0v A = some r) 172 [(.lst 2 (A.map l7))] (.bool r):=⟨fun hf => by
 unfold b0v at hf;refine co [46] Tryz.func172 ?_;refine gq 1 ?_;refine gq 1 ?_
 obtain ⟨p26,hb1,hf⟩:=ob hf
 refine a8v (X:={q:Unit // p26 = .go q}) (fun q => ([],[])) ?_ ?_
 ·refine al (X:={q:Nat // a3n A (A.drop q) q = some p26}) (fun q => ([(0,(.lst 2 (A.map l7))),(3,(.I (q.1:Int)))],[])) (fun q => A.length - q.1) ⟨1,hb1⟩ [] ?_
  rintro ⟨B,hc1⟩
  dsimp only at hc1 ⊢
  rcases a6v A B with ⟨hie29,hd32⟩ | ⟨hlt27,D,hx28,hd32⟩
  ·rw [hd32,a3n.eq_1] at hc1
   refine go 2 ?_;refine ln fun hl34 => ?_;refine gq 1 ?_;refine wg (dlf hie29)<|le ?_;cases hc1;exact kk ⟨_,rfl⟩ []
  ·rw [hd32,a3n.eq_2] at hc1
   refine go 2 ?_;refine ln fun hl35 => ?_;refine gq 1 ?_;refine wt (dlt hlt27)<|a0v<|a0i<|o8<|a3z<|o8<|a0t ?_
   obtain ⟨E,ex37,hc1⟩:=ob hc1
   refine go 3 ?_;refine ix ex37 ?_;refine go 4 ?_;refine ia hx28 ?_;refine gq 3 ?_
   rcases oi hc1 with ⟨c38,hc1⟩ | ⟨c38,hc1⟩
   ·refine wt c38 ?_;refine gq 1 ?_;cases hc1;cases hf;exact rf
   ·refine wf c38<|a0v<|a3w<|a0i ?_;refine gd 3 ?_;exact kl ⟨(B + 1),hc1⟩ []
 ·rintro ⟨_,rfl⟩
  refine gq 1 ?_;cases hf;exact rf⟩
def a9h :List UInt8 → Option (Fl Bool Unit)
  | [] =>
    some (.go ())
  | B :: xs =>
    ((if (decide ((B.toNat:Int) < 32)) then
    some true
    else
    some (decide ((B.toNat:Int) > 126)):Option Bool)).bind fun D =>
    if D then
    some (.ret false)
    else
    a9h xs 
def b4g (A:Str):Option Bool :=
    (a9h A ).bind fun q => (match q with
    | .ret r => some r
    | .go _ =>
    some (decide ((A.length:Int) ≤ 200)))
instance w_impl_isPlain (A:Str) (r:Bool):Wk Tryz.prog (b4g A = some r) 234 [(.str A)] (.bool r):=⟨fun hf => by
 unfold b4g at hf;refine coA [5,19,25] [lN [0,5] fun i => [(6,(.I (i:Int)))],cA [0,5,6] fun v:Bool => [(18,(.bool v))],fA [0] fun q:Unit => []] Tryz.func234 ?_;exact W⟩
def b3k (A:y7):Option Bool :=
    if (A.Kind == 1) then
    (a7m A.N).bind fun E =>
    if E then
    some (A.T == [])
    else
    some false
    else
    if (A.Kind == 2) then
    if (A.N == 0) then
    (b4g A.T).bind fun F =>
    some F
    else
    some false
    else
    if (A.Kind == 3) then
    (a2m A.N 0 1).bind fun B =>
    if B then
    some (A.T == [])
    else
    some false
    else
    if (A.Kind == 4) then
    (b6o A.N).bind fun D =>
    if D then
    some (A.T == [])
    else
    some false
    else
    some false
instance w_impl_AtomOK (A:y7) (r:Bool):Wk Tryz.prog (b3k A = some r) 135 [(y8 A)] (.bool r):=⟨fun hf => by
 unfold b3k at hf;refine coA [] [] Tryz.func135 ?_;exact W⟩
def cmp_isNaN_int (A:Int):Option Bool :=
    some (A != A)
instance w_cmp_isNaN_int (A:Int) (r:Bool):Wk Tryz.prog (cmp_isNaN_int A = some r) 311 [(.I A)] (.bool r):=⟨fun hf => by
 unfold cmp_isNaN_int at hf;refine coA [] [] Tryz.func311 ?_;exact W⟩
def cmp_Compare_int (A:Int) (B:Int):Option Int :=
    (cmp_isNaN_int A).bind fun E =>
    (cmp_isNaN_int B).bind fun D =>
    if E then
    if D then
    some 0
    else
    some (-1)
    else
    if D then
    some 1
    else
    if (decide (A < B)) then
    some (-1)
    else
    if (decide (A > B)) then
    some 1
    else
    some 0
instance w_cmp_Compare_int (A:Int) (B:Int) (r:Int):Wk Tryz.prog (cmp_Compare_int A B = some r) 249 [(.I A),(.I B)] (.I r):=⟨fun hf => by
 unfold cmp_Compare_int at hf;refine coA [] [] Tryz.func249 ?_;exact W⟩
def a3e (a b:Str):Option Int:=some (Lib.compareBytes a b)
set_option maxRecDepth 100000 in
open Go.RowKit in
theorem e8j (a b:ByteArray) (w:World):Calls Tryz.prog 351 #[.string a,.string b] w fun e w' => e = .returned (.int .i64 (Lib.compareBytes a.data.toList b.data.toList)) ∧ w' = w:=by
  go_enter Tryz.func351,(show Tryz.f351.ntmps = _ from rfl)
  go_wp2
  rw [run_callFunc_extern Tryz.func384 (by kernel_rfl) (by kernel_rfl) (by kernel_rfl) (e:=Extern.BytealgCompare.compare) (by kernel_rfl),Lib.run_compareString]
  simp only [Result.andThen]
  rw [Oper.upon_value]
  go_wp2
  go_ret
  exact ⟨rfl,rfl⟩
open Go.RowKit in
instance w_internal_bytealg_CompareString (a b:Str) (r:Int):Wk Tryz.prog (a3e a b = some r) 351 [(.str a),(.str b)] (.int .i64 r):=⟨fun hf => by
  intro w vals fps hr
  simp only [a0z,Rep] at hr
  obtain ⟨v1,vs1,f1,f2,rfl,⟨rfl,h1,rfl⟩,⟨v2,vs2,f3,f4,rfl,⟨rfl,h2,rfl⟩,⟨rfl,rfl⟩,rfl⟩,rfl⟩:=hr
  unfold a3e at hf
  cases hf
  refine (e8j ⟨a.toArray⟩ ⟨b.toArray⟩ w).mono ?_
  rintro e w' ⟨rfl,rfl⟩
  refine ⟨Below.refl _ _,?_⟩
  exact ⟨[.int .i64 (Lib.compareBytes a b)],rfl,by simp [Rep]⟩⟩
def strings_Compare (A:Str) (B:Str):Option Int :=
    (a3e A B).bind fun D =>
    some D
instance w_strings_Compare (A:Str) (B:Str) (r:Int):Wk Tryz.prog (strings_Compare A B = some r) 305 [(.str A),(.str B)] (.I r):=⟨fun hf => by
 unfold strings_Compare at hf;refine coA [] [] Tryz.func305 ?_;exact W⟩
def a7n :List Int → Option (Fl Int Unit)
  | [] =>
    some (.go ())
  | B :: xs =>
    if (B != 0) then
    some (.ret B)
    else
    a7n xs 
def b8s (A:(List Int)):Option Int :=
    (a7n A ).bind fun q => (match q with
    | .ret r => some r
    | .go _ =>
    some 0)
instance w_cmp_Or_int (A:(List Int)) (r:Int):Wk Tryz.prog (b8s A = some r) 304 [(.lst 1 (A.map encI))] (.I r):=⟨fun hf => by
 unfold b8s at hf;refine coA [7,27] [lN [3,6,7] fun i => [(8,(.I (i:Int)))],fA [3] fun q:Unit => []] Tryz.func304 ?_;exact W⟩
def a5r (A:y7) (B:y7):Option Int :=
    (cmp_Compare_int A.Kind B.Kind).bind fun D =>
    (cmp_Compare_int A.N B.N).bind fun E =>
    (strings_Compare A.T B.T).bind fun F =>
    (b8s [D,E,F]).bind fun G =>
    some G
instance w_impl_compareAtoms (A:y7) (B:y7) (r:Int):Wk Tryz.prog (a5r A B = some r) 227 [(y8 A),(y8 B)] (.I r):=⟨fun hf => by
 unfold a5r at hf;refine co [] Tryz.func227 ?_ (sp:=[(1,[[5,8],[10,13],[15,18],[9,0,18,17,16,15,13,12,11,10],[14,0,18,17,16,15],[19,0],[20,0],[21,0],[4]])]);refine sr<|bx ?_;refine bx ?_;refine gq 1 ?_;refine go 6 ?_
 refine go 6 ?_
 obtain ⟨D,er4,hf⟩:=ob hf
 refine cll (w_cmp_Compare_int _ _ _ er4) ?_
 obtain ⟨E,er6,hf⟩:=ob hf
 refine cll (w_cmp_Compare_int _ _ _ er6) ?_
 obtain ⟨F,er8,hf⟩:=ob hf
 refine cll (w_strings_Compare _ _ _ er8) ?_;refine a4s (a5u (j:=2) (as':=[(.I D),(.I E),(.I F)]) rfl (fun _ => by decide) ⟨rfl,⟨rfl,⟨rfl,tr⟩⟩⟩ .r rfl rfl rfl) tr tr ?_
 obtain ⟨G,er10,hf⟩:=ob hf
 refine a4s (b3c (w_cmp_Or_int _ _ er10) rfl (.cons (.of_eq (congrArg (AV.lst _) (by rfl))) .nil) rfl) c6r tr ?_;refine gq 1 ?_;cases hf;exact rf⟩
def a9i (A:(List y7)):List y7 → Nat → Option (Fl Bool Unit)
  | [],B =>
    some (.go ())
  | D :: xs,B =>
    (((b3k D).bind fun F =>
    if (!F) then
    some true
    else
    (idx A 0).bind fun G =>
    if (D.Kind != G.Kind) then
    some true
    else
    if (decide ((B:Int) > 0)) then
    (idx A (w64 ((B:Int) - 1))).bind fun H =>
    (a5r H D).bind fun J =>
    some (decide (J ≥ 0))
    else
    some false:Option Bool)).bind fun E =>
    if E then
    some (.ret false)
    else
    a9i A xs (B + 1)
def b4h (A:(List y7)):Option Bool :=
    (a9i A A 0).bind fun q => (match q with
    | .ret r => some r
    | .go _ =>
    some (decide ((A.length:Int) ≤ 8)))
instance w_impl_DatumOK (A:(List y7)) (r:Bool):Wk Tryz.prog (b4h A = some r) 129 [(.lst 3 (A.map y8))] (.bool r):=⟨fun hf => by
 unfold b4h at hf;refine coA [5,19,25] [lI [0,5,6] fun i => [(7,(.I (i:Int)))],cA [0,5,6,7] fun v:Bool => [(37,(.bool v))],fA [0] fun q:Unit => []] Tryz.func129 ?_ (sp:=[(3,[[9,11],[4],[3],[1000]]),(4,[[12],[13,0],[14,33],[34,0],[35,37]])]);exact W⟩
def a0p (D:(y7 → Option Bool)):List y7 → Nat → Option (Fl Int Unit)
  | [],A =>
    some (.go ())
  | F :: xs,A =>
    (D F).bind fun E =>
    if E then
    some (.ret (A:Int))
    else
    a0p D xs (A + 1)
def a2i (B:(List y7)) (D:(y7 → Option Bool)):Option Int :=
    (a0p D B 0).bind fun q => (match q with
    | .ret r => some r
    | .go _ =>
    some (-1))
theorem b0w (B:(List y7)) (D:(y7 → Option Bool)) (r:Int) (hf:a2i B D = some r) (kf_f_2:Nat) (cf_f_2:List AV) (okf_f_2:c8y Tryz.prog kf_f_2 = true) (hcf_f_2:∀ h p,a2o h p cf_f_2 = some cf_f_2) (hrf_f_2:∀ f,a6g f cf_f_2 = cf_f_2) (hpf_f_2:∀ a0 r,D a0 = some r → a0k Tryz.prog kf_f_2 .flat ([(y8 a0)] ++ cf_f_2) (.bool r)):a0k Tryz.prog 294 .flat [(.lst 3 (B.map y8)),(.fn kf_f_2 cf_f_2)] (.I r):=by
 unfold a2i at hf;refine co [50] Tryz.func294 ?_;refine gq 1 ?_;refine go 1 ?_;refine ln fun hl3 => ?_;refine gq 1 ?_
 obtain ⟨p24,hb1,hf⟩:=ob hf
 refine a8v (X:={q:Unit // p24 = .go q}) (fun q => ([],[])) ?_ ?_
 ·refine a3s (X:={q:Nat // a0p D (B.drop q) q = some p24}) (fun q => ([(0,(.lst 3 (B.map y8))),(1,(.fn kf_f_2 cf_f_2)),(7,(.I (B.length:Int))),(8,(.I (q.1:Int)))],[])) (fun q => B.length - q.1) ⟨0,hb1⟩ ⟨[],[],_,_,rfl,rfl,⟨.r,⟨.of_eq (congrArg (AV.fn _) (hrf_f_2 _)),⟨.r,⟨.r,tr⟩⟩⟩⟩,.r⟩ ?_
  rintro ⟨A,hc1⟩
  dsimp only at hc1 ⊢
  rcases a6v B A with ⟨hie27,hd30⟩ | ⟨hlt25,F,hx26,hd30⟩
  ·rw [hd30,a0p.eq_1] at hc1
   refine gq 1 ?_;refine o8<|wg (dlf hie27)<|le ?_;cases hc1;exact kk ⟨_,rfl⟩ []
  ·rw [hd30,a0p.eq_2] at hc1
   refine gq 1 ?_;refine o8<|wt (dlt hlt25)<|a0v<|a0i<|o8<|a3z ?_;refine gq 2 ?_;refine o8<|a0t ?_
   obtain ⟨E,er33,hc1⟩:=ob hc1
   refine go 3 ?_;refine ia hx26 ?_;refine go 1 ?_;refine a0x (c1n (v:=(.bool E)) rfl okf_f_2 hcf_f_2 (hpf_f_2 _ _ er33) rfl .r rfl)<|a1a<|a0i ?_
   rcases oi hc1 with ⟨c34,hc1⟩ | ⟨c34,hc1⟩
   ·refine wt c34 ?_;refine gq 2 ?_;cases hc1;cases hf;exact rf
   ·refine wf c34<|a0v<|a3w<|a0i ?_;refine gd 2 ?_;exact a5p ⟨(A + 1),hc1⟩ (mul hlt25) ⟨[],[],_,_,rfl,rfl,⟨.r,⟨.of_eq (congrArg (AV.fn _) (hrf_f_2 _)),⟨.r,⟨.of_eq (congrArg (AV.int _) (a5b hlt25 hl3)),tr⟩⟩⟩⟩,.r⟩
 ·rintro ⟨_,rfl⟩
  refine gq 1 ?_;cases hf;exact rf
def a1n (A:(List y7)) (B:(y7 → Option Bool)):Option Bool :=
    (a2i A B).bind fun D =>
    some (decide (D ≥ 0))
theorem a9j (A:(List y7)) (B:(y7 → Option Bool)) (r:Bool) (hf:a1n A B = some r) (kf_f_2:Nat) (cf_f_2:List AV) (okf_f_2:c8y Tryz.prog kf_f_2 = true) (hcf_f_2:∀ h p,a2o h p cf_f_2 = some cf_f_2) (hrf_f_2:∀ f,a6g f cf_f_2 = cf_f_2) (hpf_f_2:∀ a0 r,B a0 = some r → a0k Tryz.prog kf_f_2 .flat ([(y8 a0)] ++ cf_f_2) (.bool r)):a0k Tryz.prog 270 .flat [(.lst 3 (A.map y8)),(.fn kf_f_2 cf_f_2)] (.bool r):=by
 unfold a1n at hf;refine co [] Tryz.func270 ?_;refine gq 1 ?_;refine o8<|a0t ?_
 obtain ⟨D,er4,hf⟩:=ob hf
 refine go 2 ?_;refine a0x (b3c (b0w _ _ _ er4 kf_f_2 cf_f_2 okf_f_2 hcf_f_2 hrf_f_2 hpf_f_2) (b7y rfl (b7y (e0i hcf_f_2) rfl)) .r rfl) ?_;refine gq 2 ?_;cases hf;exact rf
def a2y (B:y7) (A:x8):Option Bool :=
    (a2m B.N A.Low A.High).bind fun D =>
    some (!D)
instance w_impl_Column_fits_1 (B:y7) (A:x8) (r:Bool):Wk Tryz.prog (a2y B A = some r) 280 [(y8 B),(.iptr (a0f A) 0)] (.bool r):=⟨fun hf => by
 unfold a2y at hf;refine coA [] [] Tryz.func280 ?_;exact W⟩
def a8c (A:x8) (B:(List y7)):Option Int :=
    ((if (decide ((B.length:Int) > 0)) then
    (idx B 0).bind fun F =>
    some (F.Kind != A.Kind)
    else
    some false:Option Bool)).bind fun E =>
    if E then
    some 9
    else
    (a2m (B.length:Int) A.Min A.Max).bind fun G =>
    if (!G) then
    some 6
    else
    ((if (A.Kind == 1) then
    (a1n B (fun a0 => a2y a0 A)).bind fun H =>
    some H
    else
    some false:Option Bool)).bind fun D =>
    if D then
    some 4
    else
    some 0
instance w_impl_Column_fits (A:x8) (B:(List y7)) (r:Int):Wk Tryz.prog (a8c A B = some r) 189 [(a0f A),(.lst 3 (B.map y8))] (.I r):=⟨fun hf => by
 unfold a8c at hf;refine co [12,36] Tryz.func189 ?_;refine sr<|bx ?_;refine gq 1 ?_;refine o8<|a3z<|o8 ?_
 obtain ⟨E,hb1,hf⟩:=ob hf
 refine a1r ([(1,(.lst 3 (B.map y8))),(2,(.ptr 0 0 0)),(5,(.bool E))],[.box 8 (.agg [(.str A.Name),(.I A.Kind),(.I A.Min),(.I A.Max),(.I A.Low),(.I A.High),(.str A.Ref),(.bool A.Strong)])]) ?_ ?_
 ·refine go 1 ?_;refine ln fun hl9 => ?_;refine go 1 ?_;refine go 1 ?_
  rcases oi hb1 with ⟨c10,hb1⟩ | ⟨c10,hb1⟩
  ·refine sl 9 c10 ?_;refine go 1 ?_;refine s_on rfl ?_
   obtain ⟨F,ex12,hb1⟩:=ob hb1
   refine ix ex12 ?_;refine gd 7 ?_;cases hb1;exact ck [0]
  ·refine sf 9 c10 ?_;refine gd 9 ?_;cases hb1;exact ck [0]
 ·rcases oi hf with ⟨c13,hf⟩ | ⟨c13,hf⟩
  ·refine wt c13 ?_;refine gq 1 ?_;cases hf;exact rf
  ·refine wf c13<|o8<|a0t ?_
   obtain ⟨G,er16,hf⟩:=ob hf
   refine go 1 ?_;refine ln fun hl14 => ?_;refine go 1 ?_;refine go 3 ?_;refine cl (w_impl_within _ _ _ _ er16) ?_;refine gq 2 ?_
   rcases oi hf with ⟨c17,hf⟩ | ⟨c17,hf⟩
   ·refine wt c17 ?_;refine gq 1 ?_;cases hf;exact rf
   ·refine wf c17<|o8 ?_
    obtain ⟨D,hb1,hf⟩:=ob hf
    refine a1r ([(27,(.bool D))],[]) ?_ ?_
    ·refine a0t ?_
     rcases oi hb1 with ⟨c23,hb1⟩ | ⟨c23,hb1⟩
     ·obtain ⟨H,er25,hb1⟩:=ob hb1
      refine go 4 ?_;refine sl 31 c23 ?_;refine go 2 ?_;refine s_on rfl ?_;refine cl (a9j _ _ _ er25 280 [(.iptr (a0f A) 0)] (by kernel_rfl) (fun _ _ => rfl) (fun _ => rfl) (fun a0 r h => w_impl_Column_fits_1 a0 A r h)) ?_;refine gd 2 ?_;cases hb1;exact ck []
     ·refine go 4 ?_;refine sf 31 c23 ?_;refine gd 5 ?_;cases hb1;exact ck []
    ·rcases oi hf with ⟨c26,hf⟩ | ⟨c26,hf⟩
     ·refine wt c26 ?_;refine gq 1 ?_;cases hf;exact rf
     ·refine wf c26<|a0v<|a3w<|a0i ?_;refine gq 1 ?_;cases hf;exact rf⟩
def a9k (A:a0a):List (List y7) → Nat → Option (Fl Bool Unit)
  | [],B =>
    some (.go ())
  | E :: xs,B =>
    (((b4h E).bind fun G =>
    if (!G) then
    some true
    else
    (idx A.Columns (B:Int)).bind fun H =>
    (a8c H E).bind fun J =>
    some (J != 0):Option Bool)).bind fun F =>
    if F then
    some (.ret false)
    else
    a9k A xs (B + 1)
def b4i (A:a0a) (D:a0c):Option Bool :=
    if ((D.Cells.length:Int) != (A.Columns.length:Int)) then
    some false
    else
    (a9k A D.Cells 0).bind fun q => (match q with
    | .ret r => some r
    | .go _ =>
    some true)
instance w_impl_cellsOK (A:a0a) (D:a0c) (r:Bool):Wk Tryz.prog (b4i A D = some r) 90 [(y9 A),(l7 D)] (.bool r):=⟨fun hf => by
 unfold b4i at hf;refine coA [13,27,33] [lI [2,15,16] fun i => [(17,(.I (i:Int)))],cA [2,15,16,17] fun v:Bool => [(34,(.bool v))],fA [] fun q:Unit => []] Tryz.func90 ?_;exact W⟩
def a7c (B:a0h) (D:a0b) (A:Nat):List a0c → Option (Fl Bool Unit)
  | [] =>
    some (.go ())
  | F :: xs =>
    (((a2m F.Id 1 (w64 (B.Next - 1))).bind fun K =>
    if (!K) then
    some true
    else
    (idx D.Tables (A:Int)).bind fun L =>
    (b4i L F).bind fun M =>
    some (!M):Option Bool)).bind fun G =>
    if G then
    some (.ret false)
    else
    a7c B D A xs 
def a7d (B:a0h) (D:a0b):List (List a0c) → Nat → Option (Fl Bool Unit)
  | [],A =>
    some (.go ())
  | E :: xs,A =>
    ((if (decide ((E.length:Int) > 12)) then
    some true
    else
    (b0v E).bind fun N =>
    some (!N):Option Bool)).bind fun H =>
    if H then
    some (.ret false)
    else
    (a7c B D A E ).bind fun q => (match q with
    | .ret r => some (.ret r)
    | .go _ =>
    a7d B D xs (A + 1))
def b0x (D:a0b) (B:a0h):Option Bool :=
    (((b2k D).bind fun O =>
    if (bif (!O) then true else ((B.Tables.length:Int) != (D.Tables.length:Int))) then
    some true
    else
    (b6o B.Next).bind fun P =>
    some (!P):Option Bool)).bind fun J =>
    if J then
    some false
    else
    (a7d B D B.Tables 0).bind fun q => (match q with
    | .ret r => some r
    | .go _ =>
    some true)
instance w_impl_storeFits (D:a0b) (B:a0h) (r:Bool):Wk Tryz.prog (b0x D B = some r) 75 [(a1h D),(a1j B)] (.bool r):=⟨fun hf => by
 unfold b0x at hf;refine coA [5,13,28,35,49,55,56] [cA [2,3] fun v:Bool => [(26,(.bool v))],lI [2,3,28,29] fun i => [(30,(.I (i:Int)))],cA [2,3,5,6,28,29,30] fun v:Bool => [(42,(.bool v))],lN [2,3,5,28,29,30,43,44] fun i => [(45,(.I (i:Int)))],cA [2,3,5,28,29,30,43,44,45] fun v:Bool => [(65,(.bool v))],fA [2,3,28,29,30] fun q:Unit => [],fA [] fun q:Unit => []] Tryz.func75 ?_ (sp:=[(1,[[9,26]]),(6,[[35,42]]),(11,[[49,53],[54,0],[55,62],[63,0],[64,65]])]);exact W⟩
def a2v (A:(List y7)):Option (List y7) :=
    if ([] ++ A).length ≤ 2 ^ 30 then
    some ([] ++ A)
    else none
theorem b3f (A:(List y7)) (r:(List y7)) (hf:a2v A = some r):a0k Tryz.prog 244 .fresh [(.lst 3 (A.map y8))] (.lst 3 (r.map y8)):=by
 unfold a2v at hf;refine co [] Tryz.func244 ?_;refine gq 1 ?_;refine go 1 ?_;refine f4j (l:=A.map y8) rfl ?_
 intro b hb3
 rcases b with _ | _
 ·refine dk<|wg rfl<|a0v<|a0i<|o8<|a0t ?_
  obtain ⟨g2,hf⟩:=og hf
  refine a0x (a5u (j:=0) (as':=[]) rfl (fun _ => by decide) tr .r rfl rfl rfl) ?_;refine go 1 ?_
  refine a0x (b3i (j:=1) (L:=(([] ++ A).map y8)) (len:=([] ++ A).length) rfl false rfl rfl (fun _ => flm (fun _ => rfl) _) (fun _ _ _ => flm (fun _ => rfl) _) (by decide) ((by simp)) (by simp <;> omega) g2 rfl rfl) ?_
  refine gq 1 ?_;refine a2q ?_;cases hf;exact a4n ⟨tr,tr⟩ rfl (by decide) (.of_eq (congrArg (AV.lst _) (tk (enc:=y8) ([] ++ A))))
 ·have he4:A = []:=f3b (hb3 rfl)
  have hE:(if ([] ++ A).length ≤ 2 ^ 30 then some ([] ++ A) else none) = (some []):=by simp [he4]
  rw [hE] at hf;refine dk<|wt rfl ?_;refine gq 1 ?_;refine a2q ?_;cases hf;exact a4n ⟨tr,tr⟩ rfl (by decide) (.nil _)
def a4w :List (List y7) → (List (List y7)) → Option (List (List y7))
  | [],A =>
    some A
  | G :: xs,A =>
    (a2v G).bind fun E =>
    if (A ++ [E]).length ≤ 2 ^ 30 then
    a4w xs  (A ++ [E])
    else none
def b4j (D:a0c):Option a0c :=
    (a4w D.Cells []).bind fun B =>
    if (decide ((B.length:Int) > 0)) then
    some (⟨D.Id,B⟩:a0c)
    else
    some (⟨D.Id,[]⟩:a0c)
theorem d1l (D:a0c) (r:a0c) (hf:b4j D = some r):a0k Tryz.prog 145 .fresh [(l7 D)] (l7 r):=by
 unfold b4j at hf;refine co [42] Tryz.func145 ?_;refine sr<|bx ?_;refine bx ?_;refine dk<|o8<|a0t ?_;refine a0x (a5u (j:=2) (as':=[]) rfl (fun _ => by decide) tr .r rfl rfl rfl) ?_;refine gq 1 ?_;refine o8<|sr<|s_q (.ptr 0 0 1) rfl tr rfl<|s_q (.lst 1 (D.Cells.map (a0m 3 y8))) rfl nle rfl<|ln fun hl2 => ?_
 refine gq 1 ?_
 obtain ⟨B,hb1,hf⟩:=ob hf
 refine a1r ([(1,(.ptr 0 0 0)),(2,(.ptr 1 0 0)),(3,(.own 2 0 B.length))],[.box 2 (.agg [(.I D.Id),(.lst 1 (D.Cells.map (a0m 3 y8)))]),.box 2 (.agg [(.I 0),.nil]),.row 1 (B.map (a0m 3 y8))]) ?_ ?_
 ·refine a3s (X:={q:(Nat × (List (List y7))) // a4w (D.Cells.drop q.1) q.2 = some B}) (fun q => ([(1,(.ptr 0 0 0)),(2,(.ptr 1 0 0)),(3,(.own 2 0 q.1.2.length)),(8,(.lst 1 (D.Cells.map (a0m 3 y8)))),(9,(.I (D.Cells.length:Int))),(10,(.I (q.1.1:Int)))],[.box 2 (.agg [(.I D.Id),(.lst 1 (D.Cells.map (a0m 3 y8)))]),.box 2 (.agg [(.I 0),.nil]),.row 1 (q.1.2.map (a0m 3 y8))])) (fun q => D.Cells.length - q.1.1) ⟨(0,[]),hb1⟩ ⟨[],[0,1,2],_,_,rfl,rfl,⟨.r,⟨.r,⟨.of_eq (congrArg (AV.own _ 0) (by simp)),⟨.r,⟨.r,⟨.r,tr⟩⟩⟩⟩⟩⟩,.r⟩ ?_
  rintro ⟨⟨F,A⟩,hc1⟩
  dsimp only at hc1 ⊢
  rcases a6v D.Cells F with ⟨hie29,hd32⟩ | ⟨hlt27,G,hx28,hd32⟩
  ·rw [hd32,a4w.eq_1] at hc1
   refine gq 1 ?_;refine o8<|wg (dlf hie29)<|le ?_;cases hc1;exact ck [0,1,2]
  ·rw [hd32,a4w.eq_2] at hc1
   refine gq 1 ?_;refine o8<|wt (dlt hlt27)<|a0v<|a0i<|o8<|a3z<|sr<|ia hx28 ?_;refine gq 2 ?_;refine a0t ?_
   obtain ⟨E,er35,hc1⟩:=ob hc1
   obtain ⟨g36,hc1⟩:=og hc1
   refine go 2 ?_;refine cf (.own 3 0 E.length) [.row 3 (E.map y8)] (b3f _ _ er35) ?_;refine a0x (a5u (j:=4) (as':=[(.lst 3 (E.map y8))]) rfl (fun _ => by decide) ⟨rfl,tr⟩ (.cons (.of_eq (congrArg (AV.lst _) (tk (enc:=y8) E))) .nil) rfl rfl rfl) ?_
   refine a0x (b3i (j:=5) (L:=((A ++ [E]).map (a0m 3 y8))) (len:=(A ++ [E]).length) rfl true rfl rfl (fun h => Bool.noConfusion h) (fun _ _ h => (e3z (show AV.own _ _ _ = AV.lst _ _ from h)).elim) (by decide) (e4a (enc:=(a0m 3 y8)) A [E] _ (by rfl)) (by simp <;> omega) g36 rfl rfl) ?_
   refine gd 1 ?_;refine a3w<|a0i ?_;refine gd 2 ?_;exact kl ⟨((F + 1),A ++ [E]),hc1⟩ [0,1,5]
 ·refine go 1 ?_;refine sb ?_;refine a1a<|a0i ?_;refine go 1 ?_;refine b1x (b5f rfl rfl) fun hl37 => s_q (.bool (decide ((B.length:Int) > 0))) rfl rfl rfl<|a1a<|a0i ?_
  rcases oi hf with ⟨c38,hf⟩ | ⟨c38,hf⟩
  ·refine wt c38 ?_;refine go 2 ?_;refine sb ?_;refine a1a<|a0i ?_;refine go 1 ?_;refine sb ?_;refine dk<|a2q ?_;cases hf;exact a4n ⟨nle,tr⟩ rfl (by decide) (.agg (.cons .r (.cons (.of_eq (congrArg (AV.lst _) (tk (enc:=(a0m 3 y8)) B))) .nil)))
  ·refine wf c38<|a0v<|a0i ?_;refine go 1 ?_;refine sb ?_;refine dk<|a2q ?_;cases hf;exact a4n ⟨nle,tr⟩ rfl (by decide) (.agg (.cons .r (.cons (.nil _) .nil)))
def a4f :List a0c → (List a0c) → Option (List a0c)
  | [],A =>
    some A
  | G :: xs,A =>
    (b4j G).bind fun D =>
    if (A ++ [D]).length ≤ 2 ^ 30 then
    a4f xs  (A ++ [D])
    else none
def b2l (B:(List a0c)):Option (List a0c) :=
    (a4f B []).bind fun E =>
    some E
theorem c9e (B:(List a0c)) (r:(List a0c)) (hf:b2l B = some r):a0k Tryz.prog 242 .fresh [(.lst 2 (B.map l7))] (.lst 2 (r.map l7)):=by
 unfold b2l at hf;refine co [42] Tryz.func242 ?_;refine gq 1 ?_;refine o8<|a0t ?_;refine a0x (a5u (j:=0) (as':=[]) rfl (fun _ => by decide) tr .r rfl rfl rfl) ?_;refine gq 1 ?_;refine go 1 ?_;refine ln fun hl2 => ?_;refine gq 1 ?_
 obtain ⟨E,hb1,hf⟩:=ob hf
 refine a1r ([(3,(.own 0 0 E.length))],[.row 2 (E.map l7)]) ?_ ?_
 ·refine a3s (X:={q:(Nat × (List a0c)) // a4f (B.drop q.1) q.2 = some E}) (fun q => ([(3,(.own 0 0 q.1.2.length)),(7,(.lst 2 (B.map l7))),(8,(.I (B.length:Int))),(9,(.I (q.1.1:Int)))],[.row 2 (q.1.2.map l7)])) (fun q => B.length - q.1.1) ⟨(0,[]),hb1⟩ ⟨[],[0],_,_,rfl,rfl,⟨.of_eq (congrArg (AV.own _ 0) (by simp)),⟨.r,⟨.r,⟨.r,tr⟩⟩⟩⟩,.r⟩ ?_
  rintro ⟨⟨F,A⟩,hc1⟩
  dsimp only at hc1 ⊢
  rcases a6v B F with ⟨hie29,hd32⟩ | ⟨hlt27,G,hx28,hd32⟩
  ·rw [hd32,a4f.eq_1] at hc1
   refine gq 1 ?_;refine o8<|wg (dlf hie29)<|le ?_;obtain rfl:=os hc1;exact ck [0]
  ·rw [hd32,a4f.eq_2] at hc1
   refine gq 1 ?_;refine o8<|wt (dlt hlt27)<|a0v<|a0i<|o8<|a3z<|sr<|ia hx28 ?_;refine go 1 ?_;refine bx ?_;refine sb ?_;refine dk<|a0t ?_
   obtain ⟨D,er35,hc1⟩:=ob hc1
   obtain ⟨g36,hc1⟩:=og hc1
   refine go 2 ?_;refine a0x (a2r (v:=(.agg [(.I D.Id),(.own 2 0 D.Cells.length)])) (h':=[.row 1 (D.Cells.map (a0m 3 y8))]) (d1l _ _ er35) rfl .r (by simp only [a1u,a1w,List.length_map,c3v,List.nil_append,List.append_nil,List.cons_append];rfl)) ?_;refine a0x (a5u (j:=3) (as':=[(l7 D)]) rfl (fun _ => by decide) ⟨rfl,tr⟩ (.cons (.agg (.cons .r (.cons (.of_eq (congrArg (AV.lst _) (tk (enc:=(a0m 3 y8)) D.Cells))) .nil))) .nil) rfl rfl rfl) ?_
   refine a0x (b3i (j:=4) (L:=((A ++ [D]).map l7)) (len:=(A ++ [D]).length) rfl true rfl rfl (fun h => Bool.noConfusion h) (fun _ _ h => (e3z (show AV.own _ _ _ = AV.lst _ _ from h)).elim) (by decide) (e4a (enc:=l7) A [D] _ (by rfl)) (by simp <;> omega) g36 rfl rfl) ?_
   refine gd 1 ?_;refine a3w<|a0i ?_;refine gd 2 ?_;exact kl ⟨((F + 1),A ++ [D]),hc1⟩ [4]
 ·refine gq 2 ?_;refine a2q ?_;obtain rfl:=os hf;exact a4n ⟨tr,tr⟩ rfl (by decide) (.of_eq (congrArg (AV.lst _) (tk (enc:=l7) E)))
def a3o :List (List a0c) → (List (List a0c)) → Option (List (List a0c))
  | [],A =>
    some A
  | G :: xs,A =>
    (b2l G).bind fun E =>
    if (A ++ [E]).length ≤ 2 ^ 30 then
    a3o xs  (A ++ [E])
    else none
def a8d (D:a0h):Option a0h :=
    (a3o D.Tables []).bind fun B =>
    some (⟨B,D.Next⟩:a0h)
theorem c6z (D:a0h) (r:a0h) (hf:a8d D = some r):a0k Tryz.prog 143 .fresh [(a1j D)] (a1j r):=by
 unfold a8d at hf;refine co [42] Tryz.func143 ?_;refine sr<|bx ?_;refine bx ?_;refine dk<|o8<|a0t ?_;refine a0x (a5u (j:=2) (as':=[]) rfl (fun _ => by decide) tr .r rfl rfl rfl) ?_;refine gq 1 ?_;refine o8<|sr<|s_q (.ptr 0 0 0) rfl tr rfl<|s_q (.lst 1 (D.Tables.map (a0m 2 l7))) rfl nle rfl ?_
 refine ln fun hl2 => ?_;refine gq 1 ?_
 obtain ⟨B,hb1,hf⟩:=ob hf
 refine a1r ([(1,(.ptr 0 0 0)),(2,(.ptr 1 0 0)),(3,(.own 2 0 B.length))],[.box 2 (.agg [(.lst 1 (D.Tables.map (a0m 2 l7))),(.I D.Next)]),.box 2 (.agg [.nil,(.I 0)]),.row 1 (B.map (a0m 2 l7))]) ?_ ?_
 ·refine a3s (X:={q:(Nat × (List (List a0c))) // a3o (D.Tables.drop q.1) q.2 = some B}) (fun q => ([(1,(.ptr 0 0 0)),(2,(.ptr 1 0 0)),(3,(.own 2 0 q.1.2.length)),(8,(.lst 1 (D.Tables.map (a0m 2 l7)))),(9,(.I (D.Tables.length:Int))),(10,(.I (q.1.1:Int)))],[.box 2 (.agg [(.lst 1 (D.Tables.map (a0m 2 l7))),(.I D.Next)]),.box 2 (.agg [.nil,(.I 0)]),.row 1 (q.1.2.map (a0m 2 l7))])) (fun q => D.Tables.length - q.1.1) ⟨(0,[]),hb1⟩ ⟨[],[0,1,2],_,_,rfl,rfl,⟨.r,⟨.r,⟨.of_eq (congrArg (AV.own _ 0) (by simp)),⟨.r,⟨.r,⟨.r,tr⟩⟩⟩⟩⟩⟩,.r⟩ ?_
  rintro ⟨⟨F,A⟩,hc1⟩
  dsimp only at hc1 ⊢
  rcases a6v D.Tables F with ⟨hie29,hd32⟩ | ⟨hlt27,G,hx28,hd32⟩
  ·rw [hd32,a3o.eq_1] at hc1
   refine gq 1 ?_;refine o8<|wg (dlf hie29)<|le ?_;cases hc1;exact ck [0,1,2]
  ·rw [hd32,a3o.eq_2] at hc1
   refine gq 1 ?_;refine o8<|wt (dlt hlt27)<|a0v<|a0i<|o8<|a3z<|sr<|ia hx28 ?_;refine gq 2 ?_;refine a0t ?_
   obtain ⟨E,er35,hc1⟩:=ob hc1
   obtain ⟨g36,hc1⟩:=og hc1
   refine go 2 ?_;refine cf (.own 3 0 E.length) [.row 2 (E.map l7)] (c9e _ _ er35) ?_;refine a0x (a5u (j:=4) (as':=[(.lst 2 (E.map l7))]) rfl (fun _ => by decide) ⟨rfl,tr⟩ (.cons (.of_eq (congrArg (AV.lst _) (tk (enc:=l7) E))) .nil) rfl rfl rfl) ?_
   refine a0x (b3i (j:=5) (L:=((A ++ [E]).map (a0m 2 l7))) (len:=(A ++ [E]).length) rfl true rfl rfl (fun h => Bool.noConfusion h) (fun _ _ h => (e3z (show AV.own _ _ _ = AV.lst _ _ from h)).elim) (by decide) (e4a (enc:=(a0m 2 l7)) A [E] _ (by rfl)) (by simp <;> omega) g36 rfl rfl) ?_
   refine gd 1 ?_;refine a3w<|a0i ?_;refine gd 2 ?_;exact kl ⟨((F + 1),A ++ [E]),hc1⟩ [0,1,5]
 ·refine sr<|e6x (.own 2 0 B.length) rfl<|s_q (.ptr 0 0 1) rfl tr rfl<|s_q (.I D.Next) rfl nle rfl<|s_q (.agg [(.own 2 0 B.length),(.I D.Next)]) rfl ⟨⟨rfl,nle,tr⟩,⟨⟨rfl,nle,tr⟩,tr⟩⟩ rfl<|sb ?_;refine dk<|a2q ?_;cases hf;exact a4n ⟨nle,tr⟩ rfl (by decide) (.agg (.cons (.of_eq (congrArg (AV.lst _) (tk (enc:=(a0m 2 l7)) B))) (.cons .r .nil)))
end Go.R
end
