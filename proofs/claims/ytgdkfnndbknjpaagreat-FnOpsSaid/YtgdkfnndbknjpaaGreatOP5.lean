/- Walks. -/
import Derived.Test.YtgdkfnndbknjpaaGreatOP4
set_option linter.all false
namespace Go.R
open Go Go.Proofs
set_option linter.unusedVariables false
set_option linter.unusedSimpArgs false
set_option maxHeartbeats 8000000
/- spec.SchemaOK -/
def d5k:a0s :=
 (.seq (.reg (tq 1 (.box 1 (.t 0)) (tm 2 (.c (.bool false)) .done)))
 (.seq (.seq (.reg (tq 6 (.faddr 0 (.t 1)) (tq 7 (.load 1 false (.t 6)) (tq 8 (.len (.t 7)) (tq 9 (.call 158 [(.t 8),(.c (.int .i64 1)),(.c (.int .i64 4))]) (tq 10 (.not (.t 9)) .done))))))
 (.cond (.t 10) (.seq (.reg (tm 2 (.c (.bool false)) .done))
 .ret)
 .skip))
 (.seq (.seq (.reg (tm 3 (.c (.int .i64 0)) .done))
 (.block 0 (.loop (.seq (.seq (.reg (tm 11 (.t 3) (tq 12 (.faddr 0 (.t 1)) (tq 13 (.load 1 false (.t 12)) (tq 14 (.len (.t 13)) (tq 15 (.bin .lss (.t 11) (.t 14)) .done))))))
 (.cond (.t 15) .skip
 (.exit 0)))
 (.seq (.block 1 (.seq (.seq (.reg (tq 18 (.faddr 0 (.t 1)) (tq 19 (.load 1 false (.t 18)) (tm 20 (.t 3) (tq 21 (.iaddr 4 (.t 19) (.t 20)) (tq 22 (.load 4 true (.t 21)) (.l ⟨(some 23),none,.call 137 [(.t 22)]⟩ []
 (tq 24 (.not (.t 23)) (tm 25 (.t 24) (tg 26 25 false (.mov (.t 3)) (tg 27 25 false (.bin .gtr (.t 26) (.c (.int .i64 0))) (tg 28 25 false (.mov (.t 27)) (tg 29 28 true (.faddr 0 (.t 1)) (tg 30 28 true (.load 1 false (.t 29)) (tg 31 28 true (.mov (.t 3)) (tg 32 28 true (.bin .sub (.t 31) (.c (.int .i64 1))) (tg 33 28 true (.iaddr 4 (.t 30) (.t 32)) (tg 34 28 true (.faddr 0 (.t 33)) (tg 35 28 true (.load 1 false (.t 34)) (tg 36 28 true (.faddr 0 (.t 1)) (tg 37 28 true (.load 1 false (.t 36)) (tg 38 28 true (.mov (.t 3)) (tg 39 28 true (.iaddr 4 (.t 37) (.t 38)) (tg 40 28 true (.faddr 0 (.t 39)) (tg 41 28 true (.load 1 false (.t 40)) (tg 42 28 true (.bin .geq (.t 35) (.t 41)) (tg 43 25 false (.pick (.t 28) (.t 42) (.c (.bool false))) (tq 44 (.pick (.t 25) (.c (.bool true)) (.t 43)) .done))))))))))))))))))))) .non)))))))
 (.cut (.cond (.t 44) (.seq (.reg (tm 2 (.c (.bool false)) .done))
 .ret)
 .skip)))
 (.seq (.reg (tm 4 (.c (.int .i64 0)) .done))
 (.block 2 (.loop (.seq (.seq (.reg (tm 45 (.t 4) (tq 46 (.faddr 0 (.t 1)) (tq 47 (.load 1 false (.t 46)) (tm 48 (.t 3) (tq 49 (.iaddr 4 (.t 47) (.t 48)) (tq 50 (.faddr 1 (.t 49)) (tq 51 (.load 1 false (.t 50)) (tq 52 (.len (.t 51)) (tq 53 (.bin .lss (.t 45) (.t 52)) .done))))))))))
 (.cond (.t 53) .skip
 (.exit 2)))
 (.seq (.block 3 (.seq (.reg (tq 56 (.faddr 0 (.t 1)) (tq 57 (.load 1 false (.t 56)) (tm 58 (.t 3) (tq 59 (.iaddr 4 (.t 57) (.t 58)) (tq 60 (.faddr 1 (.t 59)) (tq 61 (.load 1 false (.t 60)) (tm 62 (.t 4) (tq 63 (.iaddr 8 (.t 61) (.t 62)) (tq 64 (.load 8 true (.t 63)) (tq 5 (.box 8 (.c (.agg [(.str []),(.int .i64 0),(.int .i64 0),(.int .i64 0),(.int .i64 0),(.int .i64 0),(.str []),(.bool false)]))) (.q ⟨none,none,.store 8 (.t 5) (.t 64)⟩
 .done))))))))))))
 (.seq (.reg (tq 65 (.faddr 6 (.t 5)) (tq 66 (.load 1 false (.t 65)) (tq 67 (.bin .neq (.t 66) (.c (.str []))) (tm 68 (.t 67) (tg 69 68 true (.load 1 true (.t 1)) (tg 70 68 true (.faddr 6 (.t 5)) (tg 71 68 true (.load 1 false (.t 70)) (tg 72 68 true (.call 232 [(.t 69),(.t 71)]) (tg 73 68 true (.bin .lss (.t 72) (.c (.int .i64 0))) (tq 74 (.pick (.t 68) (.t 73) (.c (.bool false))) .done)))))))))))
 (.cut (.cond (.t 74) (.seq (.reg (tm 2 (.c (.bool false)) .done))
 .ret)
 .skip)))))
 (.reg (tm 54 (.t 4) (tq 55 (.bin .add (.t 54) (.c (.int .i64 1))) (tm 4 (.t 55) .done)))))))))))
 (.cut (.reg (tm 16 (.t 3) (tq 17 (.bin .add (.t 16) (.c (.int .i64 1))) (tm 3 (.t 17) .done))))))))))
 (.cut (.seq (.reg (tm 2 (.c (.bool true)) .done))
 .ret)))))
theorem e6u:a1e Tryz.prog Tryz.f106 = some (d5k.erase,[.mov (.t 2)],75):=by kernel_rfl
def a5d (D:a2q):List a0v → Option (Fl Bool Unit)
  | [] =>
    some (.go ())
  | B :: xs =>
    ((if (!(B.Ref == [])) then
    (b0t D B.Ref).bind fun K =>
    some (decide (K < 0))
    else
    some false:Option Bool)).bind fun H =>
    if H then
    some (.ret false)
    else
    a5d D xs 

def a5e (D:a2q):List a0q → Nat → Option (Fl Bool Unit)
  | [],A =>
    some (.go ())
  | E :: xs,A =>
    (((a9z E).bind fun L =>
    if (!L) then
    some true
    else
    if (decide ((A:Int) > 0)) then
    (idx D.Tables (w64 ((A:Int) - 1))).bind fun G =>
    some (!Op.bytesLess G.Name E.Name)
    else
    some false:Option Bool)).bind fun J =>
    if J then
    some (.ret false)
    else
    (a5d D E.Columns ).bind fun q => (match q with
    | .ret r => some (.ret r)
    | .go _ =>
    a5e D xs (A + 1))

def b1m (D:a2q):Option Bool :=
    (a3f (D.Tables.length:Int) 1 4).bind fun M =>
    if (!M) then
    some false
    else
    (a5e D D.Tables 0).bind fun q => (match q with
    | .ret r => some r
    | .go _ =>
    some true)
theorem b7g (D:a2q) (r:Bool) (hf:b1m D = some r):a0a Tryz.prog 106 .flat [(a2x D)] (.bool r):=by
 refine a0a.of_awp mixed Tryz.func106 e6u nle ?_;rw [a0n];unfold b1m at hf;unfold d5k;refine (show awp Tryz.prog false 0 _ (ofL [(0,(a2x D))]) [] _ from ?_);refine sr<|x8 (a1j (j:=0) (c:=(.agg [(.lst 4 (D.Tables.map x9))])) rfl tr rfl rfl)<|l7 (.bool false) rfl<|dk<|o7<|sr<|?_
 obtain ⟨M,er4,hf⟩:=ob hf
 refine o8 (.ptr 0 0 0) rfl tr rfl<|o8 (.lst 4 (D.Tables.map x9)) rfl nle rfl<|a1i (a1p (enc:=x9) rfl) fun hl2 => x8 (a0j (a2f _ _ _ _ er4) rfl .r rfl)<|o8 (.bool (!M)) rfl tr rfl<|dk<|?_
 rcases oi hf with ⟨c5,hf⟩ | ⟨c5,hf⟩
 ·refine y8 rfl c5<|sr<|l7 (.bool false) rfl<|dk<|a0b<|?_;obtain rfl:=os hf;exact y7 ⟨tr,tr⟩ rfl .r
 ·refine y9 rfl (bf c5)<|a0k<|a0m<|o7<|sr<|l7 (.I 0) rfl<|dk<|?_
  obtain ⟨p465,hb1,hf⟩:=ob hf
  refine a2c (X:={q:Unit // p465 = .go q}) (fun q => ([],[])) ?_ ?_
  ·refine a1v (X:={q:Nat // a5e D (D.Tables.drop q) q = some p465}) (fun q => ([(1,(.ptr 0 0 0)),(3,(.I (q.1:Int)))],[.box 1 (.agg [(.lst 4 (D.Tables.map x9))])])) (fun q => D.Tables.length - q.1) ⟨0,hb1⟩ ⟨[],[0],_,_,rfl,rfl,⟨.r,⟨.r,tr⟩⟩,.r⟩ ?_
   rintro ⟨A,hc1⟩
   have hc1:a5e D (D.Tables.drop A) A = some p465:=hc1
   refine (show awp Tryz.prog false 0 _ (ofL [(1,(.ptr 0 0 0)),(3,(.I (A:Int)))]) [.box 1 (.agg [(.lst 4 (D.Tables.map x9))])] _ from ?_)
   rcases a6c D.Tables A with ⟨hie468,hd471⟩ | ⟨hlt466,E,hx467,hd471⟩
   ·rw [hd471,a5e.eq_1] at hc1
    have hq470:=dlf hie468
    refine o7<|sr<|l7 (.I (A:Int)) rfl<|o8 (.ptr 0 0 0) rfl tr rfl<|o8 (.lst 4 (D.Tables.map x9)) rfl nle rfl<|a1i (a1p (enc:=x9) rfl) fun hl473 => o8 (.bool (decide ((A:Int) < (D.Tables.length:Int)))) rfl rfl rfl<|dk<|y9 rfl hq470<|a3i<|a3h<|a2e<|a3g<|?_;obtain rfl:=os hc1;exact a4b ⟨_,rfl⟩ ⟨[],[],_,_,rfl,rfl,tr,.r⟩
   ·rw [hd471,a5e.eq_2] at hc1
    have hq470:=dlt hlt466
    refine o7<|sr<|l7 (.I (A:Int)) rfl<|o8 (.ptr 0 0 0) rfl tr rfl<|o8 (.lst 4 (D.Tables.map x9)) rfl nle rfl<|a1i (a1p (enc:=x9) rfl) fun hl474 => o8 (.bool (decide ((A:Int) < (D.Tables.length:Int)))) rfl rfl rfl<|dk<|y8 rfl hq470<|a0k<|a0m<|o7<|a3y<|o7<|o7<|?_
    obtain ⟨J,hb2,hc1⟩:=ob hc1
    refine a1k ([(1,(.ptr 0 0 0)),(3,(.I (A:Int))),(44,(.bool J))],[.box 1 (.agg [(.lst 4 (D.Tables.map x9))])]) ?_ ?_
    ·refine a0r<|o8 (.ptr 0 0 0) rfl tr rfl<|o8 (.lst 4 (D.Tables.map x9)) rfl nle rfl<|l7 (.I (A:Int)) rfl<|x8 (a1o (enc:=x9) rfl rfl hx467)<|o8 (x9 E) rfl nle rfl<|?_
     obtain ⟨L,er484,hb2⟩:=ob hb2
     refine a1a (a0j (c3e _ _ er484) rfl .r rfl) a7h tr<|o8 (.bool (!L)) rfl tr rfl<|l7 (.bool (!L)) rfl<|?_
     rcases oi hb2 with ⟨c485,hb2⟩ | ⟨c485,hb2⟩
     ·refine a0i (s:=25) (b:=true) rfl c485<|o6 rfl rfl<|o6 rfl rfl<|o6 rfl rfl<|a0x rfl<|a0x rfl<|a0x rfl<|a0x rfl<|a0x rfl<|a0x rfl<|a0x rfl<|a0x rfl<|a0x rfl<|a0x rfl<|a0x rfl<|a0x rfl<|a0x rfl<|a0x rfl<|o6 rfl rfl<|o8 (.bool true) rfl tr rfl<|y5<|?_;obtain rfl:=os hb2;exact ⟨[],[0],_,_,rfl,rfl,⟨.r,⟨.r,⟨.r,tr⟩⟩⟩,.r⟩
     ·refine a0i (s:=25) (b:=false) rfl (bf c485)<|s_on rfl<|l7 (.I (A:Int)) rfl<|s_on rfl<|o8 (.bool (decide ((A:Int) > 0))) rfl rfl rfl<|s_on rfl<|l7 (.bool (decide ((A:Int) > 0))) rfl<|?_
      rcases oi hb2 with ⟨c486,hb2⟩ | ⟨c486,hb2⟩
      ·refine a0i (s:=28) (b:=true) rfl c486<|s_on rfl<|o8 (.ptr 0 0 0) rfl tr rfl<|s_on rfl<|o8 (.lst 4 (D.Tables.map x9)) rfl nle rfl<|s_on rfl<|l7 (.I (A:Int)) rfl<|s_on rfl<|o8 (.I (w64 ((A:Int) - 1))) rfl rfl rfl<|s_on rfl<|?_
       obtain ⟨G,ex488,hb2⟩:=ob hb2
       refine x8 (a2t (enc:=x9) rfl rfl (a8n ex488) (a8o ex488))<|s_on rfl<|o8 (.iptr (x9 G) 0) rfl tr rfl<|s_on rfl<|o8 (.str G.Name) rfl nle rfl<|s_on rfl<|o8 (.ptr 0 0 0) rfl tr rfl<|s_on rfl<|o8 (.lst 4 (D.Tables.map x9)) rfl nle rfl<|s_on rfl<|l7 (.I (A:Int)) rfl<|s_on rfl<|x8 (a1o (enc:=x9) rfl rfl hx467)<|s_on rfl<|o8 (.iptr (x9 E) 0) rfl tr rfl<|s_on rfl<|o8 (.str E.Name) rfl nle rfl<|s_on rfl<|o8 (.bool (!Op.bytesLess G.Name E.Name)) rfl tr rfl<|s_on rfl<|o8 (.bool (!Op.bytesLess G.Name E.Name)) rfl tr rfl<|o8 (.bool (!Op.bytesLess G.Name E.Name)) rfl tr rfl<|?_
       refine y5 ?_;obtain rfl:=os hb2;exact ⟨[],[0],_,_,rfl,rfl,⟨.r,⟨.r,⟨.r,tr⟩⟩⟩,.r⟩
      ·refine a0i (s:=28) (b:=false) rfl (bf c486)<|o6 rfl rfl<|o6 rfl rfl<|o6 rfl rfl<|o6 rfl rfl<|o6 rfl rfl<|o6 rfl rfl<|o6 rfl rfl<|o6 rfl rfl<|o6 rfl rfl<|o6 rfl rfl<|o6 rfl rfl<|o6 rfl rfl<|o6 rfl rfl<|o6 rfl rfl<|s_on rfl<|o8 (.bool false) rfl tr rfl<|o8 (.bool false) rfl tr rfl<|y5<|?_;obtain rfl:=os hb2;exact ⟨[],[0],_,_,rfl,rfl,⟨.r,⟨.r,⟨.r,tr⟩⟩⟩,.r⟩
    ·rcases oi hc1 with ⟨c489,hc1⟩ | ⟨c489,hc1⟩
     ·refine y8 rfl c489<|sr<|l7 (.bool false) rfl<|dk<|a0b<|?_;obtain rfl:=os hc1;obtain rfl:=os hf;exact y7 ⟨tr,tr⟩ rfl .r
     ·refine y9 rfl (bf c489)<|a0k<|a0m<|sr<|l7 (.I 0) rfl<|dk<|?_
      obtain ⟨p532,hb2,hc1⟩:=ob hc1
      refine c7u (X:={q:Unit // p532 = .go q}) (fun q => ([(1,(.ptr 0 0 0)),(3,(.I (A:Int)))],[.box 1 (.agg [(.lst 4 (D.Tables.map x9))])])) ?_ ?_
      ·refine a1v (X:={q:Nat // a5d D (E.Columns.drop q)  = some p532}) (fun q => ([(1,(.ptr 0 0 0)),(3,(.I (A:Int))),(4,(.I (q.1:Int)))],[.box 1 (.agg [(.lst 4 (D.Tables.map x9))])])) (fun q => E.Columns.length - q.1) ⟨0,hb2⟩ ⟨[],[0],_,_,rfl,rfl,⟨.r,⟨.r,⟨.r,tr⟩⟩⟩,.r⟩ ?_
       rintro ⟨F,hc2⟩
       have hc2:a5d D (E.Columns.drop F)  = some p532:=hc2
       refine (show awp Tryz.prog false 0 _ (ofL [(1,(.ptr 0 0 0)),(3,(.I (A:Int))),(4,(.I (F:Int)))]) [.box 1 (.agg [(.lst 4 (D.Tables.map x9))])] _ from ?_)
       rcases a6c E.Columns F with ⟨hie535,hd538⟩ | ⟨hlt533,B,hx534,hd538⟩
       ·rw [hd538,a5d.eq_1] at hc2
        have hq537:=dlf hie535
        refine o7<|sr<|l7 (.I (F:Int)) rfl<|o8 (.ptr 0 0 0) rfl tr rfl<|o8 (.lst 4 (D.Tables.map x9)) rfl nle rfl<|l7 (.I (A:Int)) rfl<|x8 (a1o (enc:=x9) rfl rfl hx467)<|o8 (.iptr (x9 E) 1) rfl tr rfl<|o8 (.lst 8 (E.Columns.map o5)) rfl nle rfl<|a1i (a1p (enc:=o5) rfl) fun hl540 => o8 (.bool (decide ((F:Int) < (E.Columns.length:Int)))) rfl rfl rfl<|dk<|y9 rfl hq537<|a3i<|a3h<|a2e<|a3g<|?_;refine a2y ?_;obtain rfl:=os hc2;exact a4b ⟨_,rfl⟩ ⟨[],[0],_,_,rfl,rfl,⟨.r,⟨.r,tr⟩⟩,.r⟩
       ·rw [hd538,a5d.eq_2] at hc2
        have hq537:=dlt hlt533
        refine o7<|sr<|l7 (.I (F:Int)) rfl<|o8 (.ptr 0 0 0) rfl tr rfl<|o8 (.lst 4 (D.Tables.map x9)) rfl nle rfl<|l7 (.I (A:Int)) rfl<|x8 (a1o (enc:=x9) rfl rfl hx467)<|o8 (.iptr (x9 E) 1) rfl tr rfl<|o8 (.lst 8 (E.Columns.map o5)) rfl nle rfl<|a1i (a1p (enc:=o5) rfl) fun hl541 => o8 (.bool (decide ((F:Int) < (E.Columns.length:Int)))) rfl rfl rfl<|dk<|y8 rfl hq537<|a0k<|a0m<|o7<|a3y<|sr<|o8 (.ptr 0 0 0) rfl tr rfl<|o8 (.lst 4 (D.Tables.map x9)) rfl nle rfl<|l7 (.I (A:Int)) rfl<|?_
        refine x8 (a1o (enc:=x9) rfl rfl hx467)<|o8 (.iptr (x9 E) 1) rfl tr rfl<|o8 (.lst 8 (E.Columns.map o5)) rfl nle rfl<|l7 (.I (F:Int)) rfl<|x8 (a1o (enc:=o5) rfl rfl hx534)<|o8 (o5 B) rfl nle rfl<|x8 (a1j (j:=1) (c:=(.agg [(.str []),(.I 0),(.I 0),(.I 0),(.I 0),(.I 0),(.str []),(.bool false)])) rfl tr rfl rfl)<|a3o (a0e (v:=(.agg [(.str B.Name),(.I B.Kind),(.I B.Min),(.I B.Max),(.I B.Low),(.I B.High),(.str B.Ref),(.bool B.Strong)])) (y':=(.agg [(.str B.Name),(.I B.Kind),(.I B.Min),(.I B.Max),(.I B.Low),(.I B.High),(.str B.Ref),(.bool B.Strong)])) rfl rfl rfl tr ⟨rfl,nle⟩ ⟨⟨rfl,tr⟩,⟨⟨rfl,tr⟩,⟨⟨rfl,tr⟩,⟨⟨rfl,tr⟩,⟨⟨rfl,tr⟩,⟨⟨rfl,tr⟩,⟨⟨rfl,tr⟩,⟨⟨rfl,tr⟩,tr⟩⟩⟩⟩⟩⟩⟩⟩ rfl)<|?_
        refine dk<|o7<|?_
        obtain ⟨H,hb3,hc2⟩:=ob hc2
        refine a1k ([(1,(.ptr 0 0 0)),(3,(.I (A:Int))),(4,(.I (F:Int))),(74,(.bool H))],[.box 1 (.agg [(.lst 4 (D.Tables.map x9))])]) ?_ ?_
        ·refine a0r ?_
         rcases oi hb3 with ⟨c547,hb3⟩ | ⟨c547,hb3⟩
         ·obtain ⟨K,er549,hb3⟩:=ob hb3
          refine o8 (.ptr 1 0 6) rfl tr rfl<|o8 (.str B.Ref) rfl nle rfl<|o8 (.bool (!(B.Ref == []))) rfl tr rfl<|l7 (.bool (!(B.Ref == []))) rfl<|a0i (s:=68) (b:=true) rfl c547<|s_on rfl<|o8 (.agg [(.lst 4 (D.Tables.map x9))]) rfl nle rfl<|s_on rfl<|o8 (.ptr 1 0 6) rfl tr rfl<|s_on rfl<|o8 (.str B.Ref) rfl nle rfl<|s_on rfl<|x8 (a0j (b7q _ _ _ er549) rfl .r rfl)<|s_on rfl<|o8 (.bool (decide (K < 0))) rfl rfl rfl<|o8 (.bool (decide (K < 0))) rfl tr rfl<|y5<|?_;obtain rfl:=os hb3;exact ⟨[],[0],_,_,rfl,rfl,⟨.r,⟨.r,⟨.r,⟨.r,tr⟩⟩⟩⟩,.r⟩
         ·refine o8 (.ptr 1 0 6) rfl tr rfl<|o8 (.str B.Ref) rfl nle rfl<|o8 (.bool (!(B.Ref == []))) rfl tr rfl<|l7 (.bool (!(B.Ref == []))) rfl<|a0i (s:=68) (b:=false) rfl (bf c547)<|o6 rfl rfl<|o6 rfl rfl<|o6 rfl rfl<|o6 rfl rfl<|o6 rfl rfl<|o8 (.bool false) rfl tr rfl<|y5<|?_;obtain rfl:=os hb3;exact ⟨[],[0],_,_,rfl,rfl,⟨.r,⟨.r,⟨.r,⟨.r,tr⟩⟩⟩⟩,.r⟩
        ·rcases oi hc2 with ⟨c550,hc2⟩ | ⟨c550,hc2⟩
         ·refine y8 rfl c550<|sr<|l7 (.bool false) rfl<|dk<|a0b<|?_;obtain rfl:=os hc2;obtain rfl:=os hc1;obtain rfl:=os hf;exact y7 ⟨tr,tr⟩ rfl .r
         ·refine y9 rfl (bf c550)<|a0k<|a2y<|a0m<|a0r<|l7 (.I (F:Int)) rfl<|o8 (.I (w64 ((F:Int) + 1))) rfl rfl rfl<|l7 (.I (w64 ((F:Int) + 1))) rfl<|y5<|?_;exact a1z ⟨(F + 1),hc2⟩ (mul hlt533) ⟨[],[0],_,_,rfl,rfl,⟨.r,⟨.r,⟨.of_eq (congrArg (AV.int _) (a1x hlt533 hl541)),tr⟩⟩⟩,.r⟩
      ·rintro ⟨_,rfl⟩
       refine a0r<|l7 (.I (A:Int)) rfl<|o8 (.I (w64 ((A:Int) + 1))) rfl rfl rfl<|l7 (.I (w64 ((A:Int) + 1))) rfl<|y5<|?_;exact a1z ⟨(A + 1),hc1⟩ (mul hlt466) ⟨[],[0],_,_,rfl,rfl,⟨.r,⟨.of_eq (congrArg (AV.int _) (a1x hlt466 hl474)),tr⟩⟩,.r⟩
  ·rintro ⟨_,rfl⟩
   refine sr<|l7 (.bool true) rfl<|dk<|a0b<|?_;obtain rfl:=os hf;exact y7 ⟨tr,tr⟩ rfl .r

/- spec.l01Text -/
def e6v:a0s :=
 (.seq (.reg (tm 2 (.c (.bool false)) .done))
 (.seq (.seq (.reg (tm 3 (.c (.int .i64 0)) .done))
 (.block 0 (.loop (.seq (.seq (.reg (tm 4 (.t 3) (tm 5 (.t 0) (tq 6 (.lenS (.t 5)) (tq 7 (.bin .lss (.t 4) (.t 6)) .done)))))
 (.cond (.t 7) .skip
 (.exit 0)))
 (.seq (.block 1 (.seq (.reg (tm 10 (.t 0) (tm 11 (.t 3) (tq 12 (.idxs (.t 10) (.t 11)) (tq 13 (.bin .lss (.t 12) (.c (.int .u8 32))) (tm 14 (.t 13) (tg 15 14 false (.mov (.t 0)) (tg 16 14 false (.mov (.t 3)) (tg 17 14 false (.idxs (.t 15) (.t 16)) (tg 18 14 false (.bin .gtr (.t 17) (.c (.int .u8 126))) (tq 19 (.pick (.t 14) (.c (.bool true)) (.t 18)) .done)))))))))))
 (.cut (.cond (.t 19) (.seq (.reg (tm 2 (.c (.bool false)) .done))
 .ret)
 .skip))))
 (.reg (tm 8 (.t 3) (tq 9 (.bin .add (.t 8) (.c (.int .i64 1))) (tm 3 (.t 9) .done)))))))))
 (.cut (.seq (.reg (tm 20 (.t 0) (tq 21 (.lenS (.t 20)) (tq 22 (.bin .leq (.t 21) (.c (.int .i64 200))) (tm 2 (.t 22) .done)))))
 .ret))))
theorem e6w:a1e Tryz.prog Tryz.f370 = some (e6v.erase,[.mov (.t 2)],23):=by kernel_rfl
def a5w :List UInt8 → Option (Fl Bool Unit)
  | [] =>
    some (.go ())
  | D :: xs =>
    ((if (decide ((D.toNat:Int) < 32)) then
    some true
    else
    some (decide ((D.toNat:Int) > 126)):Option Bool)).bind fun E =>
    if E then
    some (.ret false)
    else
    a5w xs 

def b2u (A:Str):Option Bool :=
    (a5w A ).bind fun q => (match q with
    | .ret r => some r
    | .go _ =>
    some (decide ((A.length:Int) ≤ 200)))
theorem c5g (A:Str) (r:Bool) (hf:b2u A = some r):a0a Tryz.prog 370 .flat [(.str A)] (.bool r):=by
 refine a0a.of_awp mixed Tryz.func370 e6w nle ?_;rw [a0n];unfold b2u at hf;unfold e6v;refine (show awp Tryz.prog false 0 _ (ofL [(0,(.str A))]) [] _ from ?_);refine sr<|l7 (.bool false) rfl<|dk<|o7<|sr<|l7 (.I 0) rfl<|dk<|?_
 obtain ⟨p50,hb1,hf⟩:=ob hf
 refine a2c (X:={q:Unit // p50 = .go q}) (fun q => ([(0,(.str A))],[])) ?_ ?_
 ·refine a1v (X:={q:Nat // a5w (A.drop q)  = some p50}) (fun q => ([(0,(.str A)),(3,(.I (q.1:Int)))],[])) (fun q => A.length - q.1) ⟨0,hb1⟩ ⟨[],[],_,_,rfl,rfl,⟨.r,⟨.r,tr⟩⟩,.r⟩ ?_
  rintro ⟨B,hc1⟩
  have hc1:a5w (A.drop B)  = some p50:=hc1
  refine (show awp Tryz.prog false 0 _ (ofL [(0,(.str A)),(3,(.I (B:Int)))]) [] _ from ?_)
  rcases a6c A B with ⟨hie53,hd56⟩ | ⟨hlt51,D,hx52,hd56⟩
  ·rw [hd56,a5w.eq_1] at hc1
   have hq55:=dlf hie53
   refine o7<|sr<|l7 (.I (B:Int)) rfl<|l7 (.str A) rfl<|a1i (b3i rfl) fun hl58 => o8 (.bool (decide ((B:Int) < (A.length:Int)))) rfl rfl rfl<|dk<|y9 rfl hq55<|a3i<|a3h<|a2e<|a3g<|?_;obtain rfl:=os hc1;exact a4b ⟨_,rfl⟩ ⟨[],[],_,_,rfl,rfl,⟨.r,tr⟩,.r⟩
  ·rw [hd56,a5w.eq_2] at hc1
   have hq55:=dlt hlt51
   refine o7<|sr<|l7 (.I (B:Int)) rfl<|l7 (.str A) rfl<|a1i (b3i rfl) fun hl59 => o8 (.bool (decide ((B:Int) < (A.length:Int)))) rfl rfl rfl<|dk<|y8 rfl hq55<|a0k<|a0m<|o7<|a3y<|o7<|?_
   obtain ⟨E,hb2,hc1⟩:=ob hc1
   refine a1k ([(0,(.str A)),(3,(.I (B:Int))),(19,(.bool E))],[]) ?_ ?_
   ·refine a0r ?_
    rcases oi hb2 with ⟨c63,hb2⟩ | ⟨c63,hb2⟩
    ·refine l7 (.str A) rfl<|l7 (.I (B:Int)) rfl<|x8 (b3m rfl rfl hx52)<|o8 (.bool (decide ((D.toNat:Int) < 32))) rfl rfl rfl<|l7 (.bool (decide ((D.toNat:Int) < 32))) rfl<|a0i (s:=14) (b:=true) rfl c63<|o6 rfl rfl<|o6 rfl rfl<|o6 rfl rfl<|o6 rfl rfl<|o8 (.bool true) rfl tr rfl<|y5<|?_;obtain rfl:=os hb2;exact ⟨[],[],_,_,rfl,rfl,⟨.r,⟨.r,⟨.r,tr⟩⟩⟩,.r⟩
    ·refine l7 (.str A) rfl<|l7 (.I (B:Int)) rfl<|x8 (b3m rfl rfl hx52)<|o8 (.bool (decide ((D.toNat:Int) < 32))) rfl rfl rfl<|l7 (.bool (decide ((D.toNat:Int) < 32))) rfl<|a0i (s:=14) (b:=false) rfl (bf c63)<|s_on rfl<|l7 (.str A) rfl<|s_on rfl<|l7 (.I (B:Int)) rfl<|s_on rfl<|x8 (b3m rfl rfl hx52)<|s_on rfl<|o8 (.bool (decide ((D.toNat:Int) > 126))) rfl rfl rfl<|o8 (.bool (decide ((D.toNat:Int) > 126))) rfl tr rfl<|y5<|?_;obtain rfl:=os hb2;exact ⟨[],[],_,_,rfl,rfl,⟨.r,⟨.r,⟨.r,tr⟩⟩⟩,.r⟩
   ·rcases oi hc1 with ⟨c64,hc1⟩ | ⟨c64,hc1⟩
    ·refine y8 rfl c64<|sr<|l7 (.bool false) rfl<|dk<|a0b<|?_;obtain rfl:=os hc1;obtain rfl:=os hf;exact y7 ⟨tr,tr⟩ rfl .r
    ·refine y9 rfl (bf c64)<|a0k<|a2y<|a0m<|a0r<|l7 (.I (B:Int)) rfl<|o8 (.I (w64 ((B:Int) + 1))) rfl rfl rfl<|l7 (.I (w64 ((B:Int) + 1))) rfl<|y5<|?_;exact a1z ⟨(B + 1),hc1⟩ (mul hlt51) ⟨[],[],_,_,rfl,rfl,⟨.r,⟨.of_eq (congrArg (AV.int _) (a1x hlt51 hl59)),tr⟩⟩,.r⟩
 ·rintro ⟨_,rfl⟩
  refine sr<|l7 (.str A) rfl<|a1i (b3i rfl) fun hl65 => o8 (.bool (decide ((A.length:Int) ≤ 200))) rfl rfl rfl<|l7 (.bool (decide ((A.length:Int) ≤ 200))) rfl<|dk<|a0b<|?_;obtain rfl:=os hf;exact y7 ⟨tr,tr⟩ rfl .r

/- spec.AtomOK -/
def e6x:a0s :=
 (.seq (.reg (tq 1 (.box 3 (.t 0)) (tm 2 (.c (.bool false)) .done)))
 (.seq (.seq (.reg (tq 3 (.faddr 0 (.t 1)) (tq 4 (.load 1 false (.t 3)) .done)))
 (.block 0 (.seq (.reg (tq 6 (.bin .eql (.t 4) (.c (.int .i64 1))) (tm 5 (.t 6) .done)))
 (.cond (.t 5) (.seq (.reg (tq 7 (.faddr 1 (.t 1)) (tq 8 (.load 1 false (.t 7)) (tq 9 (.call 158 [(.t 8),(.c (.int .i64 (-1000000000))),(.c (.int .i64 1000000000))]) (tm 10 (.t 9) (tg 11 10 true (.faddr 2 (.t 1)) (tg 12 10 true (.load 1 false (.t 11)) (tg 13 10 true (.bin .eql (.t 12) (.c (.str []))) (tq 14 (.pick (.t 10) (.t 13) (.c (.bool false))) (tm 2 (.t 14) .done))))))))))
 .ret)
 (.seq (.reg (tq 16 (.bin .eql (.t 4) (.c (.int .i64 2))) (tm 15 (.t 16) .done)))
 (.cond (.t 15) (.seq (.reg (tq 17 (.faddr 1 (.t 1)) (tq 18 (.load 1 false (.t 17)) (tq 19 (.bin .eql (.t 18) (.c (.int .i64 0))) (tm 20 (.t 19) (tg 21 20 true (.faddr 2 (.t 1)) (tg 22 20 true (.load 1 false (.t 21)) (tg 23 20 true (.call 370 [(.t 22)]) (tq 24 (.pick (.t 20) (.t 23) (.c (.bool false))) (tm 2 (.t 24) .done))))))))))
 .ret)
 (.seq (.reg (tq 26 (.bin .eql (.t 4) (.c (.int .i64 3))) (tm 25 (.t 26) .done)))
 (.cond (.t 25) (.seq (.reg (tq 27 (.faddr 1 (.t 1)) (tq 28 (.load 1 false (.t 27)) (tq 29 (.call 158 [(.t 28),(.c (.int .i64 0)),(.c (.int .i64 1))]) (tm 30 (.t 29) (tg 31 30 true (.faddr 2 (.t 1)) (tg 32 30 true (.load 1 false (.t 31)) (tg 33 30 true (.bin .eql (.t 32) (.c (.str []))) (tq 34 (.pick (.t 30) (.t 33) (.c (.bool false))) (tm 2 (.t 34) .done))))))))))
 .ret)
 (.seq (.reg (tq 36 (.bin .eql (.t 4) (.c (.int .i64 4))) (tm 35 (.t 36) .done)))
 (.cond (.t 35) (.seq (.reg (tq 37 (.faddr 1 (.t 1)) (tq 38 (.load 1 false (.t 37)) (tq 39 (.call 158 [(.t 38),(.c (.int .i64 1)),(.c (.int .i64 1000000))]) (tm 40 (.t 39) (tg 41 40 true (.faddr 2 (.t 1)) (tg 42 40 true (.load 1 false (.t 41)) (tg 43 40 true (.bin .eql (.t 42) (.c (.str []))) (tq 44 (.pick (.t 40) (.t 43) (.c (.bool false))) (tm 2 (.t 44) .done))))))))))
 .ret)
 .skip))))))))))
 (.seq (.reg (tm 2 (.c (.bool false)) .done))
 .ret)))
theorem e6y:a1e Tryz.prog Tryz.f287 = some (e6x.erase,[.mov (.t 2)],45):=by kernel_rfl
def b2f (A:a1c):Option Bool :=
    if (A.Kind == 1) then
    (a3f A.N (-1000000000) 1000000000).bind fun E =>
    if E then
    some (A.T == [])
    else
    some false
    else
    if (A.Kind == 2) then
    if (A.N == 0) then
    (b2u A.T).bind fun F =>
    some F
    else
    some false
    else
    if (A.Kind == 3) then
    (a3f A.N 0 1).bind fun B =>
    if B then
    some (A.T == [])
    else
    some false
    else
    if (A.Kind == 4) then
    (a3f A.N 1 1000000).bind fun D =>
    if D then
    some (A.T == [])
    else
    some false
    else
    some false
theorem c6r (A:a1c) (r:Bool) (hf:b2f A = some r):a0a Tryz.prog 287 .flat [(l9 A)] (.bool r):=by
 refine a0a.of_awp mixed Tryz.func287 e6y nle ?_;rw [a0n];unfold b2f at hf;unfold e6x;refine (show awp Tryz.prog false 0 _ (ofL [(0,(l9 A))]) [] _ from ?_);refine sr<|x8 (a1j (j:=0) (c:=(.agg [(.I A.Kind),(.I A.N),(.str A.T)])) rfl tr rfl rfl)<|l7 (.bool false) rfl<|dk<|o7<|sr<|o8 (.ptr 0 0 0) rfl tr rfl<|o8 (.I A.Kind) rfl nle rfl<|dk<|a3y<|sr<|o8 (.bool (A.Kind == 1)) rfl rfl rfl<|l7 (.bool (A.Kind == 1)) rfl<|dk<|?_
 rcases oi hf with ⟨c2,hf⟩ | ⟨c2,hf⟩
 ·refine y8 rfl c2<|sr<|?_
  obtain ⟨E,er4,hf⟩:=ob hf
  rcases oi hf with ⟨c5,hf⟩ | ⟨c5,hf⟩
  ·refine o8 (.ptr 0 0 1) rfl tr rfl<|o8 (.I A.N) rfl nle rfl<|x8 (a0j (a2f _ _ _ _ er4) rfl .r rfl)<|l7 (.bool E) rfl<|a0i (s:=10) (b:=true) rfl c5<|s_on rfl<|o8 (.ptr 0 0 2) rfl tr rfl<|s_on rfl<|o8 (.str A.T) rfl nle rfl<|s_on rfl<|o8 (.bool (A.T == [])) rfl tr rfl<|o8 (.bool (A.T == [])) rfl tr rfl<|l7 (.bool (A.T == [])) rfl<|dk<|a0b<|?_;obtain rfl:=os hf;exact y7 ⟨tr,tr⟩ rfl .r
  ·refine o8 (.ptr 0 0 1) rfl tr rfl<|o8 (.I A.N) rfl nle rfl<|x8 (a0j (a2f _ _ _ _ er4) rfl .r rfl)<|l7 (.bool E) rfl<|a0i (s:=10) (b:=false) rfl (bf c5)<|o6 rfl rfl<|o6 rfl rfl<|o6 rfl rfl<|o8 (.bool false) rfl tr rfl<|l7 (.bool false) rfl<|dk<|a0b<|?_;obtain rfl:=os hf;exact y7 ⟨tr,tr⟩ rfl .r
 ·refine y9 rfl (bf c2)<|sr<|o8 (.bool (A.Kind == 2)) rfl rfl rfl<|l7 (.bool (A.Kind == 2)) rfl<|dk<|?_
  rcases oi hf with ⟨c6,hf⟩ | ⟨c6,hf⟩
  ·refine y8 rfl c6<|sr<|?_
   rcases oi hf with ⟨c7,hf⟩ | ⟨c7,hf⟩
   ·obtain ⟨F,er9,hf⟩:=ob hf
    refine o8 (.ptr 0 0 1) rfl tr rfl<|o8 (.I A.N) rfl nle rfl<|o8 (.bool (A.N == 0)) rfl rfl rfl<|l7 (.bool (A.N == 0)) rfl<|a0i (s:=20) (b:=true) rfl c7<|s_on rfl<|o8 (.ptr 0 0 2) rfl tr rfl<|s_on rfl<|o8 (.str A.T) rfl nle rfl<|s_on rfl<|x8 (a0j (c5g _ _ er9) rfl .r rfl)<|o8 (.bool F) rfl tr rfl<|l7 (.bool F) rfl<|dk<|a0b<|?_;obtain rfl:=os hf;exact y7 ⟨tr,tr⟩ rfl .r
   ·refine o8 (.ptr 0 0 1) rfl tr rfl<|o8 (.I A.N) rfl nle rfl<|o8 (.bool (A.N == 0)) rfl rfl rfl<|l7 (.bool (A.N == 0)) rfl<|a0i (s:=20) (b:=false) rfl (bf c7)<|o6 rfl rfl<|o6 rfl rfl<|o6 rfl rfl<|o8 (.bool false) rfl tr rfl<|l7 (.bool false) rfl<|dk<|a0b<|?_;obtain rfl:=os hf;exact y7 ⟨tr,tr⟩ rfl .r
  ·refine y9 rfl (bf c6)<|sr<|o8 (.bool (A.Kind == 3)) rfl rfl rfl<|l7 (.bool (A.Kind == 3)) rfl<|dk<|?_
   rcases oi hf with ⟨c10,hf⟩ | ⟨c10,hf⟩
   ·refine y8 rfl c10<|sr<|?_
    obtain ⟨B,er12,hf⟩:=ob hf
    rcases oi hf with ⟨c13,hf⟩ | ⟨c13,hf⟩
    ·refine o8 (.ptr 0 0 1) rfl tr rfl<|o8 (.I A.N) rfl nle rfl<|x8 (a0j (a2f _ _ _ _ er12) rfl .r rfl)<|l7 (.bool B) rfl<|a0i (s:=30) (b:=true) rfl c13<|s_on rfl<|o8 (.ptr 0 0 2) rfl tr rfl<|s_on rfl<|o8 (.str A.T) rfl nle rfl<|s_on rfl<|o8 (.bool (A.T == [])) rfl tr rfl<|o8 (.bool (A.T == [])) rfl tr rfl<|l7 (.bool (A.T == [])) rfl<|dk<|a0b<|?_;obtain rfl:=os hf;exact y7 ⟨tr,tr⟩ rfl .r
    ·refine o8 (.ptr 0 0 1) rfl tr rfl<|o8 (.I A.N) rfl nle rfl<|x8 (a0j (a2f _ _ _ _ er12) rfl .r rfl)<|l7 (.bool B) rfl<|a0i (s:=30) (b:=false) rfl (bf c13)<|o6 rfl rfl<|o6 rfl rfl<|o6 rfl rfl<|o8 (.bool false) rfl tr rfl<|l7 (.bool false) rfl<|dk<|a0b<|?_;obtain rfl:=os hf;exact y7 ⟨tr,tr⟩ rfl .r
   ·refine y9 rfl (bf c10)<|sr<|o8 (.bool (A.Kind == 4)) rfl rfl rfl<|l7 (.bool (A.Kind == 4)) rfl<|dk<|?_
    rcases oi hf with ⟨c14,hf⟩ | ⟨c14,hf⟩
    ·refine y8 rfl c14<|sr<|?_
     obtain ⟨D,er16,hf⟩:=ob hf
     rcases oi hf with ⟨c17,hf⟩ | ⟨c17,hf⟩
     ·refine o8 (.ptr 0 0 1) rfl tr rfl<|o8 (.I A.N) rfl nle rfl<|x8 (a0j (a2f _ _ _ _ er16) rfl .r rfl)<|l7 (.bool D) rfl<|a0i (s:=40) (b:=true) rfl c17<|s_on rfl<|o8 (.ptr 0 0 2) rfl tr rfl<|s_on rfl<|o8 (.str A.T) rfl nle rfl<|s_on rfl<|o8 (.bool (A.T == [])) rfl tr rfl<|o8 (.bool (A.T == [])) rfl tr rfl<|l7 (.bool (A.T == [])) rfl<|dk<|a0b<|?_;obtain rfl:=os hf;exact y7 ⟨tr,tr⟩ rfl .r
     ·refine o8 (.ptr 0 0 1) rfl tr rfl<|o8 (.I A.N) rfl nle rfl<|x8 (a0j (a2f _ _ _ _ er16) rfl .r rfl)<|l7 (.bool D) rfl<|a0i (s:=40) (b:=false) rfl (bf c17)<|o6 rfl rfl<|o6 rfl rfl<|o6 rfl rfl<|o8 (.bool false) rfl tr rfl<|l7 (.bool false) rfl<|dk<|a0b<|?_;obtain rfl:=os hf;exact y7 ⟨tr,tr⟩ rfl .r
    ·refine y9 rfl (bf c14)<|a0k<|a2y<|a0m<|sr<|l7 (.bool false) rfl<|dk<|a0b<|?_;obtain rfl:=os hf;exact y7 ⟨tr,tr⟩ rfl .r

/- spec.DatumOK -/
def e6z:a0s :=
 (.seq (.reg (tm 2 (.c (.bool false)) .done))
 (.seq (.seq (.reg (tm 4 (.t 0) (tq 5 (.len (.t 4)) (tq 6 (.bin .gtr (.t 5) (.c (.int .i64 4096))) .done))))
 (.cond (.t 6) (.seq (.reg (tm 2 (.c (.bool false)) .done))
 .ret)
 .skip))
 (.seq (.seq (.reg (tm 3 (.c (.int .i64 0)) .done))
 (.block 0 (.loop (.seq (.seq (.reg (tm 7 (.t 3) (tm 8 (.t 0) (tq 9 (.len (.t 8)) (tq 10 (.bin .lss (.t 7) (.t 9)) .done)))))
 (.cond (.t 10) .skip
 (.exit 0)))
 (.seq (.block 1 (.seq (.reg (tm 13 (.t 0) (tm 14 (.t 3) (tq 15 (.iaddr 3 (.t 13) (.t 14)) (tq 16 (.load 3 true (.t 15)) (.l ⟨(some 17),none,.call 287 [(.t 16)]⟩ []
 (tq 18 (.not (.t 17)) (tm 19 (.t 18) (tg 20 19 false (.mov (.t 0)) (tg 21 19 false (.mov (.t 3)) (tg 22 19 false (.iaddr 3 (.t 20) (.t 21)) (tg 23 19 false (.faddr 0 (.t 22)) (tg 24 19 false (.load 1 false (.t 23)) (tg 25 19 false (.mov (.t 0)) (tg 26 19 false (.iaddr 3 (.t 25) (.c (.int .i64 0))) (tg 27 19 false (.faddr 0 (.t 26)) (tg 28 19 false (.load 1 false (.t 27)) (tg 29 19 false (.bin .neq (.t 24) (.t 28)) (tq 30 (.pick (.t 19) (.c (.bool true)) (.t 29)) (tm 31 (.t 30) (tg 32 31 false (.mov (.t 3)) (tg 33 31 false (.bin .gtr (.t 32) (.c (.int .i64 0))) (tg 34 31 false (.mov (.t 33)) (tg 35 34 true (.mov (.t 0)) (tg 36 34 true (.mov (.t 3)) (tg 37 34 true (.bin .sub (.t 36) (.c (.int .i64 1))) (tg 38 34 true (.iaddr 3 (.t 35) (.t 37)) (tg 39 34 true (.load 3 true (.t 38)) (tg 40 34 true (.mov (.t 0)) (tg 41 34 true (.mov (.t 3)) (tg 42 34 true (.iaddr 3 (.t 40) (.t 41)) (tg 43 34 true (.load 3 true (.t 42)) (.l ⟨(some 44),(some (34,true)),.call 288 [(.t 39),(.t 43)]⟩ []
 (tg 45 34 true (.bin .geq (.t 44) (.c (.int .i64 0))) (tg 46 31 false (.pick (.t 34) (.t 45) (.c (.bool false))) (tq 47 (.pick (.t 31) (.c (.bool true)) (.t 46)) .done))) .non))))))))))))))))))))))))))) .non))))))
 (.cut (.cond (.t 47) (.seq (.reg (tm 2 (.c (.bool false)) .done))
 .ret)
 .skip))))
 (.reg (tm 11 (.t 3) (tq 12 (.bin .add (.t 11) (.c (.int .i64 1))) (tm 3 (.t 12) .done)))))))))
 (.cut (.seq (.reg (tm 48 (.t 0) (tq 49 (.len (.t 48)) (tq 50 (.bin .leq (.t 49) (.c (.int .i64 8))) (tm 2 (.t 50) .done)))))
 .ret)))))
theorem e7a:a1e Tryz.prog Tryz.f170 = some (e6z.erase,[.mov (.t 2)],51):=by kernel_rfl
def a5x (A:(List a1c)):List a1c → Nat → Option (Fl Bool Unit)
  | [],B =>
    some (.go ())
  | D :: xs,B =>
    (((b2f D).bind fun H =>
    if (!H) then
    some true
    else
    (idx A 0).bind fun E =>
    if (D.Kind != E.Kind) then
    some true
    else
    if (decide ((B:Int) > 0)) then
    (idx A (w64 ((B:Int) - 1))).bind fun J =>
    (a8s J D).bind fun F =>
    some (decide (F ≥ 0))
    else
    some false:Option Bool)).bind fun G =>
    if G then
    some (.ret false)
    else
    a5x A xs (B + 1)

def a9n (A:(List a1c)):Option Bool :=
    if (decide ((A.length:Int) > 4096)) then
    some false
    else
    (a5x A A 0).bind fun q => (match q with
    | .ret r => some r
    | .go _ =>
    some (decide ((A.length:Int) ≤ 8)))
theorem b5a (A:(List a1c)) (r:Bool) (hf:a9n A = some r):a0a Tryz.prog 170 .flat [(.lst 3 (A.map l9))] (.bool r):=by
 refine a0a.of_awp mixed Tryz.func170 e7a nle ?_;rw [a0n];unfold a9n at hf;unfold e6z;refine (show awp Tryz.prog false 0 _ (ofL [(0,(.lst 3 (A.map l9)))]) [] _ from ?_);refine sr<|l7 (.bool false) rfl<|dk<|o7<|sr<|l7 (.lst 3 (A.map l9)) rfl<|a1i (a1p (enc:=l9) rfl) fun hl2 => o8 (.bool (decide ((A.length:Int) > 4096))) rfl rfl rfl<|dk<|?_
 rcases oi hf with ⟨c3,hf⟩ | ⟨c3,hf⟩
 ·refine y8 rfl c3<|sr<|l7 (.bool false) rfl<|dk<|a0b<|?_;obtain rfl:=os hf;exact y7 ⟨tr,tr⟩ rfl .r
 ·refine y9 rfl (bf c3)<|a0k<|a0m<|o7<|sr<|l7 (.I 0) rfl<|dk<|?_
  obtain ⟨p124,hb1,hf⟩:=ob hf
  refine a2c (X:={q:Unit // p124 = .go q}) (fun q => ([(0,(.lst 3 (A.map l9)))],[])) ?_ ?_
  ·refine a1v (X:={q:Nat // a5x A (A.drop q) q = some p124}) (fun q => ([(0,(.lst 3 (A.map l9))),(3,(.I (q.1:Int)))],[])) (fun q => A.length - q.1) ⟨0,hb1⟩ ⟨[],[],_,_,rfl,rfl,⟨.r,⟨.r,tr⟩⟩,.r⟩ ?_
   rintro ⟨B,hc1⟩
   have hc1:a5x A (A.drop B) B = some p124:=hc1
   refine (show awp Tryz.prog false 0 _ (ofL [(0,(.lst 3 (A.map l9))),(3,(.I (B:Int)))]) [] _ from ?_)
   rcases a6c A B with ⟨hie127,hd130⟩ | ⟨hlt125,D,hx126,hd130⟩
   ·rw [hd130,a5x.eq_1] at hc1
    have hq129:=dlf hie127
    refine o7<|sr<|l7 (.I (B:Int)) rfl<|l7 (.lst 3 (A.map l9)) rfl<|a1i (a1p (enc:=l9) rfl) fun hl132 => o8 (.bool (decide ((B:Int) < (A.length:Int)))) rfl rfl rfl<|dk<|y9 rfl hq129<|a3i<|a3h<|a2e<|a3g<|?_;obtain rfl:=os hc1;exact a4b ⟨_,rfl⟩ ⟨[],[],_,_,rfl,rfl,⟨.r,tr⟩,.r⟩
   ·rw [hd130,a5x.eq_2] at hc1
    have hq129:=dlt hlt125
    refine o7<|sr<|l7 (.I (B:Int)) rfl<|l7 (.lst 3 (A.map l9)) rfl<|a1i (a1p (enc:=l9) rfl) fun hl133 => o8 (.bool (decide ((B:Int) < (A.length:Int)))) rfl rfl rfl<|dk<|y8 rfl hq129<|a0k<|a0m<|o7<|a3y<|o7<|?_
    obtain ⟨G,hb2,hc1⟩:=ob hc1
    refine a1k ([(0,(.lst 3 (A.map l9))),(3,(.I (B:Int))),(47,(.bool G))],[]) ?_ ?_
    ·refine a0r<|l7 (.lst 3 (A.map l9)) rfl<|l7 (.I (B:Int)) rfl<|x8 (a1o (enc:=l9) rfl rfl hx126)<|o8 (l9 D) rfl nle rfl<|?_
     obtain ⟨H,er148,hb2⟩:=ob hb2
     refine a1a (a0j (c6r _ _ er148) rfl .r rfl) a7h tr<|o8 (.bool (!H)) rfl tr rfl<|l7 (.bool (!H)) rfl<|?_
     rcases oi hb2 with ⟨c149,hb2⟩ | ⟨c149,hb2⟩
     ·refine a0i (s:=19) (b:=true) rfl c149<|o6 rfl rfl<|o6 rfl rfl<|o6 rfl rfl<|o6 rfl rfl<|o6 rfl rfl<|o6 rfl rfl<|o6 rfl rfl<|o6 rfl rfl<|o6 rfl rfl<|o6 rfl rfl<|o8 (.bool true) rfl tr rfl<|l7 (.bool true) rfl<|o6 rfl rfl<|o6 rfl rfl<|o6 rfl rfl<|a0x rfl<|a0x rfl<|a0x rfl<|a0x rfl<|a0x rfl<|a0x rfl<|a0x rfl<|a0x rfl<|a0x rfl<|c3o rfl tr<|a0x rfl<|o6 rfl rfl<|o8 (.bool true) rfl tr rfl<|y5<|?_;obtain rfl:=os hb2;exact ⟨[],[],_,_,rfl,rfl,⟨.r,⟨.r,⟨.r,tr⟩⟩⟩,.r⟩
     ·refine a0i (s:=19) (b:=false) rfl (bf c149)<|s_on rfl<|l7 (.lst 3 (A.map l9)) rfl<|s_on rfl<|l7 (.I (B:Int)) rfl<|s_on rfl<|x8 (a1o (enc:=l9) rfl rfl hx126)<|s_on rfl<|o8 (.iptr (l9 D) 0) rfl tr rfl<|s_on rfl<|o8 (.I D.Kind) rfl nle rfl<|s_on rfl<|l7 (.lst 3 (A.map l9)) rfl<|s_on rfl<|?_
      obtain ⟨E,ex151,hb2⟩:=ob hb2
      refine x8 (a2t (enc:=l9) rfl rfl (a8n ex151) (a8o ex151))<|s_on rfl<|o8 (.iptr (l9 E) 0) rfl tr rfl<|s_on rfl<|o8 (.I E.Kind) rfl nle rfl<|s_on rfl<|o8 (.bool (D.Kind != E.Kind)) rfl rfl rfl<|o8 (.bool (D.Kind != E.Kind)) rfl tr rfl<|l7 (.bool (D.Kind != E.Kind)) rfl<|?_
      rcases oi hb2 with ⟨c152,hb2⟩ | ⟨c152,hb2⟩
      ·refine a0i (s:=31) (b:=true) rfl c152<|o6 rfl rfl<|o6 rfl rfl<|o6 rfl rfl<|a0x rfl<|a0x rfl<|a0x rfl<|a0x rfl<|a0x rfl<|a0x rfl<|a0x rfl<|a0x rfl<|a0x rfl<|c3o rfl tr<|a0x rfl<|o6 rfl rfl<|o8 (.bool true) rfl tr rfl<|y5<|?_;obtain rfl:=os hb2;exact ⟨[],[],_,_,rfl,rfl,⟨.r,⟨.r,⟨.r,tr⟩⟩⟩,.r⟩
      ·refine a0i (s:=31) (b:=false) rfl (bf c152)<|s_on rfl<|l7 (.I (B:Int)) rfl<|s_on rfl<|o8 (.bool (decide ((B:Int) > 0))) rfl rfl rfl<|s_on rfl<|l7 (.bool (decide ((B:Int) > 0))) rfl<|?_
       rcases oi hb2 with ⟨c153,hb2⟩ | ⟨c153,hb2⟩
       ·refine a0i (s:=34) (b:=true) rfl c153<|s_on rfl<|l7 (.lst 3 (A.map l9)) rfl<|s_on rfl<|l7 (.I (B:Int)) rfl<|s_on rfl<|o8 (.I (w64 ((B:Int) - 1))) rfl rfl rfl<|s_on rfl<|?_
        obtain ⟨J,ex155,hb2⟩:=ob hb2
        refine x8 (a2t (enc:=l9) rfl rfl (a8n ex155) (a8o ex155))<|s_on rfl<|o8 (l9 J) rfl nle rfl<|s_on rfl<|l7 (.lst 3 (A.map l9)) rfl<|s_on rfl<|l7 (.I (B:Int)) rfl<|s_on rfl<|x8 (a1o (enc:=l9) rfl rfl hx126)<|s_on rfl<|o8 (l9 D) rfl nle rfl<|d3d rfl<|?_
        obtain ⟨F,er157,hb2⟩:=ob hb2
        refine a1a (a0j (b7c _ _ _ er157) rfl .r rfl) a7h tr<|s_on rfl<|o8 (.bool (decide (F ≥ 0))) rfl rfl rfl<|s_on rfl<|o8 (.bool (decide (F ≥ 0))) rfl tr rfl<|o8 (.bool (decide (F ≥ 0))) rfl tr rfl<|y5<|?_;obtain rfl:=os hb2;exact ⟨[],[],_,_,rfl,rfl,⟨.r,⟨.r,⟨.r,tr⟩⟩⟩,.r⟩
       ·refine a0i (s:=34) (b:=false) rfl (bf c153)<|o6 rfl rfl<|o6 rfl rfl<|o6 rfl rfl<|o6 rfl rfl<|o6 rfl rfl<|o6 rfl rfl<|o6 rfl rfl<|o6 rfl rfl<|o6 rfl rfl<|c9c rfl rfl tr<|o6 rfl rfl<|s_on rfl<|o8 (.bool false) rfl tr rfl<|o8 (.bool false) rfl tr rfl<|y5<|?_;obtain rfl:=os hb2;exact ⟨[],[],_,_,rfl,rfl,⟨.r,⟨.r,⟨.r,tr⟩⟩⟩,.r⟩
    ·rcases oi hc1 with ⟨d4y,hc1⟩ | ⟨d4y,hc1⟩
     ·refine y8 rfl d4y<|sr<|l7 (.bool false) rfl<|dk<|a0b<|?_;obtain rfl:=os hc1;obtain rfl:=os hf;exact y7 ⟨tr,tr⟩ rfl .r
     ·refine y9 rfl (bf d4y)<|a0k<|a2y<|a0m<|a0r<|l7 (.I (B:Int)) rfl<|o8 (.I (w64 ((B:Int) + 1))) rfl rfl rfl<|l7 (.I (w64 ((B:Int) + 1))) rfl<|y5<|?_;exact a1z ⟨(B + 1),hc1⟩ (mul hlt125) ⟨[],[],_,_,rfl,rfl,⟨.r,⟨.of_eq (congrArg (AV.int _) (a1x hlt125 hl133)),tr⟩⟩,.r⟩
  ·rintro ⟨_,rfl⟩
   refine sr<|l7 (.lst 3 (A.map l9)) rfl<|a1i (a1p (enc:=l9) rfl) fun hl159 => o8 (.bool (decide ((A.length:Int) ≤ 8))) rfl rfl rfl<|l7 (.bool (decide ((A.length:Int) ≤ 8))) rfl<|dk<|a0b<|?_;obtain rfl:=os hf;exact y7 ⟨tr,tr⟩ rfl .r

/- spec.l06OK -/
def e7b:a0s :=
 (.seq (.reg (tq 1 (.box 3 (.t 0)) (tm 2 (.c (.bool false)) .done)))
 (.seq (.reg (tq 3 (.faddr 1 (.t 1)) (tq 4 (.load 1 false (.t 3)) (tq 5 (.call 158 [(.t 4),(.c (.int .i64 1)),(.c (.int .i64 8))]) (tm 6 (.t 5) (tg 7 6 true (.faddr 2 (.t 1)) (tg 8 6 true (.load 1 false (.t 7)) (tg 9 6 true (.call 170 [(.t 8)]) (tq 10 (.pick (.t 6) (.t 9) (.c (.bool false))) (tm 11 (.t 10) (tg 12 11 true (.faddr 0 (.t 1)) (tg 13 11 true (.load 1 false (.t 12)) (tg 14 11 true (.lenS (.t 13)) (tg 15 11 true (.bin .leq (.t 14) (.c (.int .i64 40))) (tq 16 (.pick (.t 11) (.t 15) (.c (.bool false))) (tm 2 (.t 16) .done))))))))))))))))
 .ret))
theorem e7c:a1e Tryz.prog Tryz.f343 = some (e7b.erase,[.mov (.t 2)],17):=by kernel_rfl
def b5b (A:a2v):Option Bool :=
    (a3f A.Func 1 8).bind fun D =>
    if D then
    (a9n A.Value).bind fun B =>
    some (bif B then (decide ((A.Column.length:Int) ≤ 40)) else false)
    else
    some false
theorem c9i (A:a2v) (r:Bool) (hf:b5b A = some r):a0a Tryz.prog 343 .flat [(a0d A)] (.bool r):=by
 refine a0a.of_awp mixed Tryz.func343 e7c nle ?_;rw [a0n];unfold b5b at hf;unfold e7b;refine (show awp Tryz.prog false 0 _ (ofL [(0,(a0d A))]) [] _ from ?_);refine sr<|x8 (a1j (j:=0) (c:=(.agg [(.str A.Column),(.I A.Func),(.lst 3 (A.Value.map l9))])) rfl tr rfl rfl)<|l7 (.bool false) rfl<|dk<|sr<|o8 (.ptr 0 0 1) rfl tr rfl<|o8 (.I A.Func) rfl nle rfl<|?_
 obtain ⟨D,er3,hf⟩:=ob hf
 refine x8 (a0j (a2f _ _ _ _ er3) rfl .r rfl)<|l7 (.bool D) rfl<|?_
 rcases oi hf with ⟨c4,hf⟩ | ⟨c4,hf⟩
 ·refine a0i (s:=6) (b:=true) rfl c4<|s_on rfl<|o8 (.ptr 0 0 2) rfl tr rfl<|s_on rfl<|o8 (.lst 3 (A.Value.map l9)) rfl nle rfl<|s_on rfl<|?_
  obtain ⟨B,er6,hf⟩:=ob hf
  refine x8 (a0j (b5a _ _ er6) rfl .r rfl)<|o8 (.bool B) rfl tr rfl<|l7 (.bool B) rfl<|?_;refine s_g (v:=B) (.ptr 0 0 0) rfl (fun hv => by (try simp only [o9 hv]);exact ⟨rfl,tr,rfl⟩) ?_;refine s_g (v:=B) (.str A.Column) rfl (fun hv => by (try simp only [o9 hv]);exact ⟨rfl,nle,rfl⟩) ?_;refine s_g (v:=B) (.I (A.Column.length:Int)) rfl (fun hv => by (try simp only [o9 hv]);exact ⟨rfl,tr,rfl⟩) ?_;refine s_g (v:=B) (.bool (decide ((A.Column.length:Int) ≤ 40))) rfl (fun hv => by (try simp only [o9 hv]);exact ⟨rfl,rfl,rfl⟩) ?_;refine a2a (x:=(decide ((A.Column.length:Int) ≤ 40))) (y:=false) rfl (fun hv => by (try simp only [o9 hv]);rfl) (fun hv => by (try simp only [o9 hv]);rfl) ?_
  refine l7 (.bool (bif B then (decide ((A.Column.length:Int) ≤ 40)) else false)) rfl<|dk<|a0b<|?_;obtain rfl:=os hf;exact y7 ⟨tr,tr⟩ rfl .r
 ·refine a0i (s:=6) (b:=false) rfl (bf c4)<|o6 rfl rfl<|o6 rfl rfl<|o6 rfl rfl<|o8 (.bool false) rfl tr rfl<|l7 (.bool false) rfl<|o6 rfl rfl<|o6 rfl rfl<|o6 rfl rfl<|o6 rfl rfl<|o8 (.bool false) rfl tr rfl<|l7 (.bool false) rfl<|dk<|a0b<|?_;obtain rfl:=os hf;exact y7 ⟨tr,tr⟩ rfl .r

/- spec.l06List -/
def c233:a0s :=
 (.seq (.reg (tm 2 (.c (.bool false)) .done))
 (.seq (.seq (.reg (tm 3 (.c (.int .i64 0)) .done))
 (.block 0 (.loop (.seq (.seq (.reg (tm 4 (.t 3) (tm 5 (.t 0) (tq 6 (.len (.t 5)) (tq 7 (.bin .lss (.t 4) (.t 6)) .done)))))
 (.cond (.t 7) .skip
 (.exit 0)))
 (.seq (.block 1 (.seq (.reg (tm 10 (.t 0) (tm 11 (.t 3) (tq 12 (.iaddr 3 (.t 10) (.t 11)) (tq 13 (.load 3 true (.t 12)) (tq 14 (.call 343 [(.t 13)]) (tq 15 (.not (.t 14)) .done)))))))
 (.cond (.t 15) (.seq (.reg (tm 2 (.c (.bool false)) .done))
 .ret)
 .skip)))
 (.reg (tm 8 (.t 3) (tq 9 (.bin .add (.t 8) (.c (.int .i64 1))) (tm 3 (.t 9) .done)))))))))
 (.cut (.seq (.reg (tm 16 (.t 0) (tq 17 (.len (.t 16)) (tq 18 (.bin .leq (.t 17) (.c (.int .i64 8))) (tm 2 (.t 18) .done)))))
 .ret))))
theorem e7d:a1e Tryz.prog Tryz.f233 = some (c233.erase,[.mov (.t 2)],19):=by kernel_rfl
def a5y :List a2v → Option (Fl Bool Unit)
  | [] =>
    some (.go ())
  | D :: xs =>
    (b5b D).bind fun E =>
    if (!E) then
    some (.ret false)
    else
    a5y xs 

def b2v (A:(List a2v)):Option Bool :=
    (a5y A ).bind fun q => (match q with
    | .ret r => some r
    | .go _ =>
    some (decide ((A.length:Int) ≤ 8)))
theorem c5h (A:(List a2v)) (r:Bool) (hf:b2v A = some r):a0a Tryz.prog 233 .flat [(.lst 3 (A.map a0d))] (.bool r):=by
 refine a0a.of_awp mixed Tryz.func233 e7d nle ?_;rw [a0n];unfold b2v at hf;unfold c233;refine (show awp Tryz.prog false 0 _ (ofL [(0,(.lst 3 (A.map a0d)))]) [] _ from ?_);refine sr<|l7 (.bool false) rfl<|dk<|o7<|sr<|l7 (.I 0) rfl<|dk<|?_
 obtain ⟨p26,hb1,hf⟩:=ob hf
 refine a2c (X:={q:Unit // p26 = .go q}) (fun q => ([(0,(.lst 3 (A.map a0d)))],[])) ?_ ?_
 ·refine a1v (X:={q:Nat // a5y (A.drop q)  = some p26}) (fun q => ([(0,(.lst 3 (A.map a0d))),(3,(.I (q.1:Int)))],[])) (fun q => A.length - q.1) ⟨0,hb1⟩ ⟨[],[],_,_,rfl,rfl,⟨.r,⟨.r,tr⟩⟩,.r⟩ ?_
  rintro ⟨B,hc1⟩
  have hc1:a5y (A.drop B)  = some p26:=hc1
  refine (show awp Tryz.prog false 0 _ (ofL [(0,(.lst 3 (A.map a0d))),(3,(.I (B:Int)))]) [] _ from ?_)
  rcases a6c A B with ⟨hie29,hd32⟩ | ⟨hlt27,D,hx28,hd32⟩
  ·rw [hd32,a5y.eq_1] at hc1
   have hq31:=dlf hie29
   refine o7<|sr<|l7 (.I (B:Int)) rfl<|l7 (.lst 3 (A.map a0d)) rfl<|a1i (a1p (enc:=a0d) rfl) fun hl34 => o8 (.bool (decide ((B:Int) < (A.length:Int)))) rfl rfl rfl<|dk<|y9 rfl hq31<|a3i<|a3h<|a2e<|a3g<|?_;obtain rfl:=os hc1;exact a4b ⟨_,rfl⟩ ⟨[],[],_,_,rfl,rfl,⟨.r,tr⟩,.r⟩
  ·rw [hd32,a5y.eq_2] at hc1
   have hq31:=dlt hlt27
   refine o7<|sr<|l7 (.I (B:Int)) rfl<|l7 (.lst 3 (A.map a0d)) rfl<|a1i (a1p (enc:=a0d) rfl) fun hl35 => o8 (.bool (decide ((B:Int) < (A.length:Int)))) rfl rfl rfl<|dk<|y8 rfl hq31<|a0k<|a0m<|o7<|a3y<|sr<|?_
   obtain ⟨E,er37,hc1⟩:=ob hc1
   refine l7 (.lst 3 (A.map a0d)) rfl<|l7 (.I (B:Int)) rfl<|x8 (a1o (enc:=a0d) rfl rfl hx28)<|o8 (a0d D) rfl nle rfl<|x8 (a0j (c9i _ _ er37) rfl .r rfl)<|o8 (.bool (!E)) rfl tr rfl<|dk<|?_
   rcases oi hc1 with ⟨c38,hc1⟩ | ⟨c38,hc1⟩
   ·refine y8 rfl c38<|sr<|l7 (.bool false) rfl<|dk<|a0b<|?_;obtain rfl:=os hc1;obtain rfl:=os hf;exact y7 ⟨tr,tr⟩ rfl .r
   ·refine y9 rfl (bf c38)<|a0k<|a2y<|a0m<|a0r<|l7 (.I (B:Int)) rfl<|o8 (.I (w64 ((B:Int) + 1))) rfl rfl rfl<|l7 (.I (w64 ((B:Int) + 1))) rfl<|y5<|?_;exact a1z ⟨(B + 1),hc1⟩ (mul hlt27) ⟨[],[],_,_,rfl,rfl,⟨.r,⟨.of_eq (congrArg (AV.int _) (a1x hlt27 hl35)),tr⟩⟩,.r⟩
 ·rintro ⟨_,rfl⟩
  refine sr<|l7 (.lst 3 (A.map a0d)) rfl<|a1i (a1p (enc:=a0d) rfl) fun hl39 => o8 (.bool (decide ((A.length:Int) ≤ 8))) rfl rfl rfl<|l7 (.bool (decide ((A.length:Int) ≤ 8))) rfl<|dk<|a0b<|?_;obtain rfl:=os hf;exact y7 ⟨tr,tr⟩ rfl .r

/- spec.l07OK -/
def c138:a0s :=
 (.seq (.reg (tq 1 (.box 3 (.t 0)) (tm 2 (.c (.bool false)) .done)))
 (.seq (.reg (tq 3 (.faddr 1 (.t 1)) (tq 4 (.load 1 false (.t 3)) (tq 5 (.call 158 [(.t 4),(.c (.int .i64 1)),(.c (.int .i64 7))]) (tm 6 (.t 5) (tg 7 6 true (.faddr 2 (.t 1)) (tg 8 6 true (.load 1 false (.t 7)) (tg 9 6 true (.call 170 [(.t 8)]) (tq 10 (.pick (.t 6) (.t 9) (.c (.bool false))) (tm 11 (.t 10) (tg 12 11 true (.faddr 0 (.t 1)) (tg 13 11 true (.load 1 false (.t 12)) (tg 14 11 true (.lenS (.t 13)) (tg 15 11 true (.bin .leq (.t 14) (.c (.int .i64 40))) (tq 16 (.pick (.t 11) (.t 15) (.c (.bool false))) (tm 2 (.t 16) .done))))))))))))))))
 .ret))
theorem e7e:a1e Tryz.prog Tryz.f138 = some (c138.erase,[.mov (.t 2)],17):=by kernel_rfl
def b5c (A:a5i):Option Bool :=
    (a3f A.Func 1 7).bind fun D =>
    if D then
    (a9n A.Value).bind fun B =>
    some (bif B then (decide ((A.Column.length:Int) ≤ 40)) else false)
    else
    some false
theorem c9j (A:a5i) (r:Bool) (hf:b5c A = some r):a0a Tryz.prog 138 .flat [(a0o A)] (.bool r):=by
 refine a0a.of_awp mixed Tryz.func138 e7e nle ?_;rw [a0n];unfold b5c at hf;unfold c138;refine (show awp Tryz.prog false 0 _ (ofL [(0,(a0o A))]) [] _ from ?_);refine sr<|x8 (a1j (j:=0) (c:=(.agg [(.str A.Column),(.I A.Func),(.lst 3 (A.Value.map l9))])) rfl tr rfl rfl)<|l7 (.bool false) rfl<|dk<|sr<|o8 (.ptr 0 0 1) rfl tr rfl<|o8 (.I A.Func) rfl nle rfl<|?_
 obtain ⟨D,er3,hf⟩:=ob hf
 refine x8 (a0j (a2f _ _ _ _ er3) rfl .r rfl)<|l7 (.bool D) rfl<|?_
 rcases oi hf with ⟨c4,hf⟩ | ⟨c4,hf⟩
 ·refine a0i (s:=6) (b:=true) rfl c4<|s_on rfl<|o8 (.ptr 0 0 2) rfl tr rfl<|s_on rfl<|o8 (.lst 3 (A.Value.map l9)) rfl nle rfl<|s_on rfl<|?_
  obtain ⟨B,er6,hf⟩:=ob hf
  refine x8 (a0j (b5a _ _ er6) rfl .r rfl)<|o8 (.bool B) rfl tr rfl<|l7 (.bool B) rfl<|?_;refine s_g (v:=B) (.ptr 0 0 0) rfl (fun hv => by (try simp only [o9 hv]);exact ⟨rfl,tr,rfl⟩) ?_;refine s_g (v:=B) (.str A.Column) rfl (fun hv => by (try simp only [o9 hv]);exact ⟨rfl,nle,rfl⟩) ?_;refine s_g (v:=B) (.I (A.Column.length:Int)) rfl (fun hv => by (try simp only [o9 hv]);exact ⟨rfl,tr,rfl⟩) ?_;refine s_g (v:=B) (.bool (decide ((A.Column.length:Int) ≤ 40))) rfl (fun hv => by (try simp only [o9 hv]);exact ⟨rfl,rfl,rfl⟩) ?_;refine a2a (x:=(decide ((A.Column.length:Int) ≤ 40))) (y:=false) rfl (fun hv => by (try simp only [o9 hv]);rfl) (fun hv => by (try simp only [o9 hv]);rfl) ?_
  refine l7 (.bool (bif B then (decide ((A.Column.length:Int) ≤ 40)) else false)) rfl<|dk<|a0b<|?_;obtain rfl:=os hf;exact y7 ⟨tr,tr⟩ rfl .r
 ·refine a0i (s:=6) (b:=false) rfl (bf c4)<|o6 rfl rfl<|o6 rfl rfl<|o6 rfl rfl<|o8 (.bool false) rfl tr rfl<|l7 (.bool false) rfl<|o6 rfl rfl<|o6 rfl rfl<|o6 rfl rfl<|o6 rfl rfl<|o8 (.bool false) rfl tr rfl<|l7 (.bool false) rfl<|dk<|a0b<|?_;obtain rfl:=os hf;exact y7 ⟨tr,tr⟩ rfl .r

/- spec.l07List -/
def e7f:a0s :=
 (.seq (.reg (tm 2 (.c (.bool false)) .done))
 (.seq (.seq (.reg (tm 3 (.c (.int .i64 0)) .done))
 (.block 0 (.loop (.seq (.seq (.reg (tm 4 (.t 3) (tm 5 (.t 0) (tq 6 (.len (.t 5)) (tq 7 (.bin .lss (.t 4) (.t 6)) .done)))))
 (.cond (.t 7) .skip
 (.exit 0)))
 (.seq (.block 1 (.seq (.reg (tm 10 (.t 0) (tm 11 (.t 3) (tq 12 (.iaddr 3 (.t 10) (.t 11)) (tq 13 (.load 3 true (.t 12)) (tq 14 (.call 138 [(.t 13)]) (tq 15 (.not (.t 14)) .done)))))))
 (.cond (.t 15) (.seq (.reg (tm 2 (.c (.bool false)) .done))
 .ret)
 .skip)))
 (.reg (tm 8 (.t 3) (tq 9 (.bin .add (.t 8) (.c (.int .i64 1))) (tm 3 (.t 9) .done)))))))))
 (.cut (.seq (.reg (tm 16 (.t 0) (tq 17 (.len (.t 16)) (tq 18 (.bin .leq (.t 17) (.c (.int .i64 8))) (tm 2 (.t 18) .done)))))
 .ret))))
theorem e7g:a1e Tryz.prog Tryz.f129 = some (e7f.erase,[.mov (.t 2)],19):=by kernel_rfl
def a5z :List a5i → Option (Fl Bool Unit)
  | [] =>
    some (.go ())
  | D :: xs =>
    (b5c D).bind fun E =>
    if (!E) then
    some (.ret false)
    else
    a5z xs 

def b2w (A:(List a5i)):Option Bool :=
    (a5z A ).bind fun q => (match q with
    | .ret r => some r
    | .go _ =>
    some (decide ((A.length:Int) ≤ 8)))
theorem c5i (A:(List a5i)) (r:Bool) (hf:b2w A = some r):a0a Tryz.prog 129 .flat [(.lst 3 (A.map a0o))] (.bool r):=by
 refine a0a.of_awp mixed Tryz.func129 e7g nle ?_;rw [a0n];unfold b2w at hf;unfold e7f;refine (show awp Tryz.prog false 0 _ (ofL [(0,(.lst 3 (A.map a0o)))]) [] _ from ?_);refine sr<|l7 (.bool false) rfl<|dk<|o7<|sr<|l7 (.I 0) rfl<|dk<|?_
 obtain ⟨p26,hb1,hf⟩:=ob hf
 refine a2c (X:={q:Unit // p26 = .go q}) (fun q => ([(0,(.lst 3 (A.map a0o)))],[])) ?_ ?_
 ·refine a1v (X:={q:Nat // a5z (A.drop q)  = some p26}) (fun q => ([(0,(.lst 3 (A.map a0o))),(3,(.I (q.1:Int)))],[])) (fun q => A.length - q.1) ⟨0,hb1⟩ ⟨[],[],_,_,rfl,rfl,⟨.r,⟨.r,tr⟩⟩,.r⟩ ?_
  rintro ⟨B,hc1⟩
  have hc1:a5z (A.drop B)  = some p26:=hc1
  refine (show awp Tryz.prog false 0 _ (ofL [(0,(.lst 3 (A.map a0o))),(3,(.I (B:Int)))]) [] _ from ?_)
  rcases a6c A B with ⟨hie29,hd32⟩ | ⟨hlt27,D,hx28,hd32⟩
  ·rw [hd32,a5z.eq_1] at hc1
   have hq31:=dlf hie29
   refine o7<|sr<|l7 (.I (B:Int)) rfl<|l7 (.lst 3 (A.map a0o)) rfl<|a1i (a1p (enc:=a0o) rfl) fun hl34 => o8 (.bool (decide ((B:Int) < (A.length:Int)))) rfl rfl rfl<|dk<|y9 rfl hq31<|a3i<|a3h<|a2e<|a3g<|?_;obtain rfl:=os hc1;exact a4b ⟨_,rfl⟩ ⟨[],[],_,_,rfl,rfl,⟨.r,tr⟩,.r⟩
  ·rw [hd32,a5z.eq_2] at hc1
   have hq31:=dlt hlt27
   refine o7<|sr<|l7 (.I (B:Int)) rfl<|l7 (.lst 3 (A.map a0o)) rfl<|a1i (a1p (enc:=a0o) rfl) fun hl35 => o8 (.bool (decide ((B:Int) < (A.length:Int)))) rfl rfl rfl<|dk<|y8 rfl hq31<|a0k<|a0m<|o7<|a3y<|sr<|?_
   obtain ⟨E,er37,hc1⟩:=ob hc1
   refine l7 (.lst 3 (A.map a0o)) rfl<|l7 (.I (B:Int)) rfl<|x8 (a1o (enc:=a0o) rfl rfl hx28)<|o8 (a0o D) rfl nle rfl<|x8 (a0j (c9j _ _ er37) rfl .r rfl)<|o8 (.bool (!E)) rfl tr rfl<|dk<|?_
   rcases oi hc1 with ⟨c38,hc1⟩ | ⟨c38,hc1⟩
   ·refine y8 rfl c38<|sr<|l7 (.bool false) rfl<|dk<|a0b<|?_;obtain rfl:=os hc1;obtain rfl:=os hf;exact y7 ⟨tr,tr⟩ rfl .r
   ·refine y9 rfl (bf c38)<|a0k<|a2y<|a0m<|a0r<|l7 (.I (B:Int)) rfl<|o8 (.I (w64 ((B:Int) + 1))) rfl rfl rfl<|l7 (.I (w64 ((B:Int) + 1))) rfl<|y5<|?_;exact a1z ⟨(B + 1),hc1⟩ (mul hlt27) ⟨[],[],_,_,rfl,rfl,⟨.r,⟨.of_eq (congrArg (AV.int _) (a1x hlt27 hl35)),tr⟩⟩,.r⟩
 ·rintro ⟨_,rfl⟩
  refine sr<|l7 (.lst 3 (A.map a0o)) rfl<|a1i (a1p (enc:=a0o) rfl) fun hl39 => o8 (.bool (decide ((A.length:Int) ≤ 8))) rfl rfl rfl<|l7 (.bool (decide ((A.length:Int) ≤ 8))) rfl<|dk<|a0b<|?_;obtain rfl:=os hf;exact y7 ⟨tr,tr⟩ rfl .r

/- spec.l08Names -/
def e7h:a0s :=
 (.seq (.reg (tm 2 (.c (.bool false)) .done))
 (.seq (.seq (.reg (tm 3 (.c (.int .i64 0)) .done))
 (.block 0 (.loop (.seq (.seq (.reg (tm 4 (.t 3) (tm 5 (.t 0) (tq 6 (.len (.t 5)) (tq 7 (.bin .lss (.t 4) (.t 6)) .done)))))
 (.cond (.t 7) .skip
 (.exit 0)))
 (.seq (.block 1 (.seq (.reg (tm 10 (.t 0) (tm 11 (.t 3) (tq 12 (.iaddr 1 (.t 10) (.t 11)) (tq 13 (.load 1 false (.t 12)) (tq 14 (.call 210 [(.t 13)]) (tq 15 (.not (.t 14)) .done)))))))
 (.cond (.t 15) (.seq (.reg (tm 2 (.c (.bool false)) .done))
 .ret)
 .skip)))
 (.reg (tm 8 (.t 3) (tq 9 (.bin .add (.t 8) (.c (.int .i64 1))) (tm 3 (.t 9) .done)))))))))
 (.cut (.seq (.reg (tm 16 (.t 0) (tq 17 (.len (.t 16)) (tq 18 (.bin .leq (.t 17) (.c (.int .i64 8))) (tm 2 (.t 18) .done)))))
 .ret))))
theorem e7i:a1e Tryz.prog Tryz.f344 = some (e7h.erase,[.mov (.t 2)],19):=by kernel_rfl
def a5f :List Str → Option (Fl Bool Unit)
  | [] =>
    some (.go ())
  | D :: xs =>
    (a7x D).bind fun E =>
    if (!E) then
    some (.ret false)
    else
    a5f xs 

def b1n (A:(List Str)):Option Bool :=
    (a5f A ).bind fun q => (match q with
    | .ret r => some r
    | .go _ =>
    some (decide ((A.length:Int) ≤ 8)))
theorem c3f (A:(List Str)) (r:Bool) (hf:b1n A = some r):a0a Tryz.prog 344 .flat [(.lst 1 (A.map AV.str))] (.bool r):=by
 refine a0a.of_awp mixed Tryz.func344 e7i nle ?_;rw [a0n];unfold b1n at hf;unfold e7h;refine (show awp Tryz.prog false 0 _ (ofL [(0,(.lst 1 (A.map AV.str)))]) [] _ from ?_);refine sr<|l7 (.bool false) rfl<|dk<|o7<|sr<|l7 (.I 0) rfl<|dk<|?_
 obtain ⟨p26,hb1,hf⟩:=ob hf
 refine a2c (X:={q:Unit // p26 = .go q}) (fun q => ([(0,(.lst 1 (A.map AV.str)))],[])) ?_ ?_
 ·refine a1v (X:={q:Nat // a5f (A.drop q)  = some p26}) (fun q => ([(0,(.lst 1 (A.map AV.str))),(3,(.I (q.1:Int)))],[])) (fun q => A.length - q.1) ⟨0,hb1⟩ ⟨[],[],_,_,rfl,rfl,⟨.r,⟨.r,tr⟩⟩,.r⟩ ?_
  rintro ⟨B,hc1⟩
  have hc1:a5f (A.drop B)  = some p26:=hc1
  refine (show awp Tryz.prog false 0 _ (ofL [(0,(.lst 1 (A.map AV.str))),(3,(.I (B:Int)))]) [] _ from ?_)
  rcases a6c A B with ⟨hie29,hd32⟩ | ⟨hlt27,D,hx28,hd32⟩
  ·rw [hd32,a5f.eq_1] at hc1
   have hq31:=dlf hie29
   refine o7<|sr<|l7 (.I (B:Int)) rfl<|l7 (.lst 1 (A.map AV.str)) rfl<|a1i (a1p (enc:=AV.str) rfl) fun hl34 => o8 (.bool (decide ((B:Int) < (A.length:Int)))) rfl rfl rfl<|dk<|y9 rfl hq31<|a3i<|a3h<|a2e<|a3g<|?_;obtain rfl:=os hc1;exact a4b ⟨_,rfl⟩ ⟨[],[],_,_,rfl,rfl,⟨.r,tr⟩,.r⟩
  ·rw [hd32,a5f.eq_2] at hc1
   have hq31:=dlt hlt27
   refine o7<|sr<|l7 (.I (B:Int)) rfl<|l7 (.lst 1 (A.map AV.str)) rfl<|a1i (a1p (enc:=AV.str) rfl) fun hl35 => o8 (.bool (decide ((B:Int) < (A.length:Int)))) rfl rfl rfl<|dk<|y8 rfl hq31<|a0k<|a0m<|o7<|a3y<|sr<|?_
   obtain ⟨E,er37,hc1⟩:=ob hc1
   refine l7 (.lst 1 (A.map AV.str)) rfl<|l7 (.I (B:Int)) rfl<|x8 (a1o (enc:=AV.str) rfl rfl hx28)<|o8 (.str D) rfl ⟨rfl,rfl⟩ rfl<|x8 (a0j (a8v _ _ er37) rfl .r rfl)<|o8 (.bool (!E)) rfl tr rfl<|dk<|?_
   rcases oi hc1 with ⟨c38,hc1⟩ | ⟨c38,hc1⟩
   ·refine y8 rfl c38<|sr<|l7 (.bool false) rfl<|dk<|a0b<|?_;obtain rfl:=os hc1;obtain rfl:=os hf;exact y7 ⟨tr,tr⟩ rfl .r
   ·refine y9 rfl (bf c38)<|a0k<|a2y<|a0m<|a0r<|l7 (.I (B:Int)) rfl<|o8 (.I (w64 ((B:Int) + 1))) rfl rfl rfl<|l7 (.I (w64 ((B:Int) + 1))) rfl<|y5<|?_;exact a1z ⟨(B + 1),hc1⟩ (mul hlt27) ⟨[],[],_,_,rfl,rfl,⟨.r,⟨.of_eq (congrArg (AV.int _) (a1x hlt27 hl35)),tr⟩⟩,.r⟩
 ·rintro ⟨_,rfl⟩
  refine sr<|l7 (.lst 1 (A.map AV.str)) rfl<|a1i (a1p (enc:=AV.str) rfl) fun hl39 => o8 (.bool (decide ((A.length:Int) ≤ 8))) rfl rfl rfl<|l7 (.bool (decide ((A.length:Int) ≤ 8))) rfl<|dk<|a0b<|?_;obtain rfl:=os hf;exact y7 ⟨tr,tr⟩ rfl .r

/- spec.l08Set -/
def c234:a0s :=
 (.seq (.reg (tq 1 (.box 3 (.t 0)) (tm 2 (.c (.bool false)) .done)))
 (.seq (.reg (tq 3 (.faddr 0 (.t 1)) (tq 4 (.load 1 false (.t 3)) (tq 5 (.lenS (.t 4)) (tq 6 (.bin .leq (.t 5) (.c (.int .i64 40))) (tm 7 (.t 6) (tg 8 7 true (.faddr 1 (.t 1)) (tg 9 7 true (.load 1 false (.t 8)) (tg 10 7 true (.call 170 [(.t 9)]) (tq 11 (.pick (.t 7) (.t 10) (.c (.bool false))) (tm 12 (.t 11) (tg 13 12 true (.faddr 2 (.t 1)) (tg 14 12 true (.load 1 false (.t 13)) (tg 15 12 true (.call 344 [(.t 14)]) (tq 16 (.pick (.t 12) (.t 15) (.c (.bool false))) (tm 17 (.t 16) (tg 18 17 true (.faddr 2 (.t 1)) (tg 19 17 true (.load 1 false (.t 18)) (tg 20 17 true (.len (.t 19)) (tg 21 17 true (.bin .eql (.t 20) (.c (.int .i64 0))) (tg 22 17 true (.mov (.t 21)) (tg 23 22 false (.faddr 1 (.t 1)) (tg 24 22 false (.load 1 false (.t 23)) (tg 25 22 false (.len (.t 24)) (tg 26 22 false (.bin .eql (.t 25) (.c (.int .i64 0))) (tg 27 17 true (.pick (.t 22) (.c (.bool true)) (.t 26)) (tq 28 (.pick (.t 17) (.t 27) (.c (.bool false))) (tm 2 (.t 28) .done))))))))))))))))))))))))))))
 .ret))
theorem e7j:a1e Tryz.prog Tryz.f234 = some (c234.erase,[.mov (.t 2)],29):=by kernel_rfl
def b4b (A:a3l):Option Bool :=
    if (decide ((A.Column.length:Int) ≤ 40)) then
    (a9n A.Value).bind fun D =>
    if D then
    (b1n A.Names).bind fun B =>
    some (bif B then (bif ((A.Names.length:Int) == 0) then true else ((A.Value.length:Int) == 0)) else false)
    else
    some false
    else
    some false
theorem c6s (A:a3l) (r:Bool) (hf:b4b A = some r):a0a Tryz.prog 234 .flat [(a0f A)] (.bool r):=by
 refine a0a.of_awp mixed Tryz.func234 e7j nle ?_;rw [a0n];unfold b4b at hf;unfold c234;refine (show awp Tryz.prog false 0 _ (ofL [(0,(a0f A))]) [] _ from ?_);refine sr<|x8 (a1j (j:=0) (c:=(.agg [(.str A.Column),(.lst 3 (A.Value.map l9)),(.lst 1 (A.Names.map AV.str))])) rfl tr rfl rfl)<|l7 (.bool false) rfl<|dk<|sr<|o8 (.ptr 0 0 0) rfl tr rfl<|o8 (.str A.Column) rfl nle rfl<|a1i (b3i rfl) fun hl2 => o8 (.bool (decide ((A.Column.length:Int) ≤ 40))) rfl rfl rfl<|l7 (.bool (decide ((A.Column.length:Int) ≤ 40))) rfl<|?_
 rcases oi hf with ⟨c3,hf⟩ | ⟨c3,hf⟩
 ·refine a0i (s:=7) (b:=true) rfl c3<|s_on rfl<|o8 (.ptr 0 0 1) rfl tr rfl<|s_on rfl<|o8 (.lst 3 (A.Value.map l9)) rfl nle rfl<|s_on rfl<|?_
  obtain ⟨D,er5,hf⟩:=ob hf
  refine x8 (a0j (b5a _ _ er5) rfl .r rfl)<|o8 (.bool D) rfl tr rfl<|l7 (.bool D) rfl<|?_
  rcases oi hf with ⟨c6,hf⟩ | ⟨c6,hf⟩
  ·refine a0i (s:=12) (b:=true) rfl c6<|s_on rfl<|o8 (.ptr 0 0 2) rfl tr rfl<|s_on rfl<|o8 (.lst 1 (A.Names.map AV.str)) rfl nle rfl<|s_on rfl<|?_
   obtain ⟨B,er8,hf⟩:=ob hf
   refine x8 (a0j (c3f _ _ er8) rfl .r rfl)<|o8 (.bool B) rfl tr rfl<|l7 (.bool B) rfl<|?_;refine s_g (v:=B) (.ptr 0 0 2) rfl (fun hv => by (try simp only [o9 hv]);exact ⟨rfl,tr,rfl⟩) ?_;refine s_g (v:=B) (.lst 1 (A.Names.map AV.str)) rfl (fun hv => by (try simp only [o9 hv]);exact ⟨rfl,nle,rfl⟩) ?_;refine s_g (v:=B) (.I (A.Names.length:Int)) rfl (fun hv => by (try simp only [o9 hv]);exact ⟨rfl,tr,lenV _ _⟩) ?_;refine s_g (v:=B) (.bool ((A.Names.length:Int) == 0)) rfl (fun hv => by (try simp only [o9 hv]);exact ⟨rfl,rfl,rfl⟩) ?_;refine s_g (v:=B) (.bool ((A.Names.length:Int) == 0)) rfl (fun hv => by (try simp only [o9 hv]);exact ⟨rfl,tr,rfl⟩) ?_
   refine a7t (v1:=B) (b1:=true) (v2:=((A.Names.length:Int) == 0)) (.ptr 0 0 1) rfl (fun hv hw => by (try simp only [o9 hv,o9 hw]);exact ⟨rfl,tr,rfl⟩) ?_;refine a7t (v1:=B) (b1:=true) (v2:=((A.Names.length:Int) == 0)) (.lst 3 (A.Value.map l9)) rfl (fun hv hw => by (try simp only [o9 hv,o9 hw]);exact ⟨rfl,nle,rfl⟩) ?_;refine a7t (v1:=B) (b1:=true) (v2:=((A.Names.length:Int) == 0)) (.I (A.Value.length:Int)) rfl (fun hv hw => by (try simp only [o9 hv,o9 hw]);exact ⟨rfl,tr,lenV _ _⟩) ?_;refine a7t (v1:=B) (b1:=true) (v2:=((A.Names.length:Int) == 0)) (.bool ((A.Value.length:Int) == 0)) rfl (fun hv hw => by (try simp only [o9 hv,o9 hw]);exact ⟨rfl,rfl,rfl⟩) ?_
   refine c0q (v1:=B) (b1:=true) (v2:=((A.Names.length:Int) == 0)) (x:=true) (y:=((A.Value.length:Int) == 0)) rfl (fun hv => by (try simp only [o9 hv]);rfl) (fun hv hw => by (try simp only [o9 hv,o9 hw]);rfl) (fun hv hw => by (try simp only [o9 hv,o9 hw]);rfl) ?_;refine a2a (x:=(bif ((A.Names.length:Int) == 0) then true else ((A.Value.length:Int) == 0))) (y:=false) rfl (fun hv => by (try simp only [o9 hv]);rfl) (fun hv => by (try simp only [o9 hv]);rfl) ?_;refine l7 (.bool (bif B then (bif ((A.Names.length:Int) == 0) then true else ((A.Value.length:Int) == 0)) else false)) rfl<|dk<|a0b<|?_;obtain rfl:=os hf;exact y7 ⟨tr,tr⟩ rfl .r
  ·refine a0i (s:=12) (b:=false) rfl (bf c6)<|o6 rfl rfl<|o6 rfl rfl<|o6 rfl rfl<|o8 (.bool false) rfl tr rfl<|l7 (.bool false) rfl<|o6 rfl rfl<|o6 rfl rfl<|o6 rfl rfl<|o6 rfl rfl<|o6 rfl rfl<|a0x rfl<|a0x rfl<|a0x rfl<|a0x rfl<|o6 rfl rfl<|o8 (.bool false) rfl tr rfl<|l7 (.bool false) rfl<|dk<|a0b<|?_;obtain rfl:=os hf;exact y7 ⟨tr,tr⟩ rfl .r
 ·refine a0i (s:=7) (b:=false) rfl (bf c3)<|o6 rfl rfl<|o6 rfl rfl<|o6 rfl rfl<|o8 (.bool false) rfl tr rfl<|l7 (.bool false) rfl<|o6 rfl rfl<|o6 rfl rfl<|o6 rfl rfl<|o8 (.bool false) rfl tr rfl<|l7 (.bool false) rfl<|o6 rfl rfl<|o6 rfl rfl<|o6 rfl rfl<|o6 rfl rfl<|o6 rfl rfl<|a0x rfl<|a0x rfl<|a0x rfl<|a0x rfl<|o6 rfl rfl<|o8 (.bool false) rfl tr rfl<|l7 (.bool false) rfl<|dk<|a0b<|?_;obtain rfl:=os hf;exact y7 ⟨tr,tr⟩ rfl .r

/- spec.OpOK -/
def c107:a0s :=
 (.seq (.reg (tq 1 (.box 8 (.t 0)) (tm 2 (.c (.bool false)) .done)))
 (.seq (.seq (.reg (tq 9 (.faddr 0 (.t 1)) (tq 10 (.load 1 false (.t 9)) (tq 11 (.call 158 [(.t 10),(.c (.int .i64 1)),(.c (.int .i64 10))]) (tq 12 (.not (.t 11)) (tm 13 (.t 12) (tg 14 13 false (.faddr 1 (.t 1)) (tg 15 13 false (.load 1 false (.t 14)) (tg 16 13 false (.lenS (.t 15)) (tg 17 13 false (.bin .gtr (.t 16) (.c (.int .i64 40))) (tq 18 (.pick (.t 13) (.c (.bool true)) (.t 17)) (tm 19 (.t 18) (tg 20 19 false (.faddr 2 (.t 1)) (tg 21 19 false (.load 1 false (.t 20)) (tg 22 19 false (.lenS (.t 21)) (tg 23 19 false (.bin .gtr (.t 22) (.c (.int .i64 40))) (tq 24 (.pick (.t 19) (.c (.bool true)) (.t 23)) (tm 25 (.t 24) (tg 26 25 false (.faddr 3 (.t 1)) (tg 27 25 false (.load 1 false (.t 26)) (tg 28 25 false (.call 233 [(.t 27)]) (tg 29 25 false (.not (.t 28)) (tq 30 (.pick (.t 25) (.c (.bool true)) (.t 29)) (tm 31 (.t 30) (tg 32 31 false (.faddr 5 (.t 1)) (tg 33 31 false (.load 1 false (.t 32)) (tg 34 31 false (.call 129 [(.t 33)]) (tg 35 31 false (.not (.t 34)) (tq 36 (.pick (.t 31) (.c (.bool true)) (.t 35)) (tm 37 (.t 36) (tg 38 37 false (.faddr 4 (.t 1)) (tg 39 37 false (.load 1 false (.t 38)) (tg 40 37 false (.len (.t 39)) (tg 41 37 false (.bin .gtr (.t 40) (.c (.int .i64 6))) (tq 42 (.pick (.t 37) (.c (.bool true)) (.t 41)) (tm 43 (.t 42) (tg 44 43 false (.faddr 6 (.t 1)) (tg 45 43 false (.load 1 false (.t 44)) (tg 46 43 false (.len (.t 45)) (tg 47 43 false (.bin .gtr (.t 46) (.c (.int .i64 6))) (tq 48 (.pick (.t 43) (.c (.bool true)) (.t 47)) .done)))))))))))))))))))))))))))))))))))))))))
 (.cut (.cond (.t 48) (.seq (.reg (tm 2 (.c (.bool false)) .done))
 .ret)
 .skip)))
 (.seq (.seq (.reg (tm 3 (.c (.int .i64 0)) .done))
 (.block 0 (.loop (.seq (.seq (.reg (tm 49 (.t 3) (tq 50 (.faddr 4 (.t 1)) (tq 51 (.load 1 false (.t 50)) (tq 52 (.len (.t 51)) (tq 53 (.bin .lss (.t 49) (.t 52)) .done))))))
 (.cond (.t 53) .skip
 (.exit 0)))
 (.seq (.block 1 (.seq (.reg (tq 56 (.faddr 4 (.t 1)) (tq 57 (.load 1 false (.t 56)) (tm 58 (.t 3) (tq 59 (.iaddr 3 (.t 57) (.t 58)) (tq 60 (.load 3 true (.t 59)) (tq 61 (.call 234 [(.t 60)]) (tq 62 (.not (.t 61)) .done))))))))
 (.cond (.t 62) (.seq (.reg (tm 2 (.c (.bool false)) .done))
 .ret)
 .skip)))
 (.reg (tm 54 (.t 3) (tq 55 (.bin .add (.t 54) (.c (.int .i64 1))) (tm 3 (.t 55) .done)))))))))
 (.cut (.seq (.seq (.reg (tm 4 (.c (.int .i64 0)) .done))
 (.block 2 (.loop (.seq (.seq (.reg (tm 63 (.t 4) (tq 64 (.faddr 6 (.t 1)) (tq 65 (.load 1 false (.t 64)) (tq 66 (.len (.t 65)) (tq 67 (.bin .lss (.t 63) (.t 66)) .done))))))
 (.cond (.t 67) .skip
 (.exit 2)))
 (.seq (.block 3 (.seq (.reg (tq 70 (.faddr 6 (.t 1)) (tq 71 (.load 1 false (.t 70)) (tm 72 (.t 4) (tq 73 (.iaddr 1 (.t 71) (.t 72)) (tq 74 (.load 1 false (.t 73)) (tq 75 (.lenS (.t 74)) (tq 76 (.bin .gtr (.t 75) (.c (.int .i64 40))) .done))))))))
 (.cond (.t 76) (.seq (.reg (tm 2 (.c (.bool false)) .done))
 .ret)
 .skip)))
 (.reg (tm 68 (.t 4) (tq 69 (.bin .add (.t 68) (.c (.int .i64 1))) (tm 4 (.t 69) .done)))))))))
 (.cut (.seq (.reg (tq 77 (.faddr 0 (.t 1)) (tq 78 (.load 1 false (.t 77)) (tq 79 (.call 158 [(.t 78),(.c (.int .i64 1)),(.c (.int .i64 6))]) (tm 5 (.t 79) .done)))))
 (.seq (.reg (tq 80 (.faddr 0 (.t 1)) (tq 81 (.load 1 false (.t 80)) (tq 82 (.call 158 [(.t 81),(.c (.int .i64 2)),(.c (.int .i64 6))]) (tm 6 (.t 82) .done)))))
 (.seq (.reg (tq 83 (.faddr 0 (.t 1)) (tq 84 (.load 1 false (.t 83)) (tq 85 (.bin .eql (.t 84) (.c (.int .i64 1))) (tm 86 (.t 85) (tg 87 86 false (.faddr 0 (.t 1)) (tg 88 86 false (.load 1 false (.t 87)) (tg 89 86 false (.bin .geq (.t 88) (.c (.int .i64 9))) (tq 90 (.pick (.t 86) (.c (.bool true)) (.t 89)) (tm 7 (.t 90) .done))))))))))
 (.cut (.seq (.reg (tq 91 (.faddr 0 (.t 1)) (tq 92 (.load 1 false (.t 91)) (tq 93 (.bin .eql (.t 92) (.c (.int .i64 1))) (tm 94 (.t 93) (tg 95 94 false (.faddr 0 (.t 1)) (tg 96 94 false (.load 1 false (.t 95)) (tg 97 94 false (.bin .eql (.t 96) (.c (.int .i64 3))) (tq 98 (.pick (.t 94) (.c (.bool true)) (.t 97)) (tm 99 (.t 98) (tg 100 99 false (.faddr 0 (.t 1)) (tg 101 99 false (.load 1 false (.t 100)) (tg 102 99 false (.bin .eql (.t 101) (.c (.int .i64 6))) (tq 103 (.pick (.t 99) (.c (.bool true)) (.t 102)) (tm 8 (.t 103) .done)))))))))))))))
 (.cut (.seq (.reg (tm 104 (.t 5) (tm 105 (.t 104) (tg 106 105 false (.faddr 1 (.t 1)) (tg 107 105 false (.load 1 false (.t 106)) (tg 108 105 false (.bin .eql (.t 107) (.c (.str []))) (tq 109 (.pick (.t 105) (.c (.bool true)) (.t 108)) (tm 110 (.t 109) (tg 111 110 true (.mov (.t 6)) (tg 112 110 true (.mov (.t 111)) (tg 113 112 false (.faddr 3 (.t 1)) (tg 114 112 false (.load 1 false (.t 113)) (tg 115 112 false (.len (.t 114)) (tg 116 112 false (.bin .eql (.t 115) (.c (.int .i64 0))) (tg 117 110 true (.pick (.t 112) (.c (.bool true)) (.t 116)) (tq 118 (.pick (.t 110) (.t 117) (.c (.bool false))) (tm 119 (.t 118) (tg 120 119 true (.mov (.t 7)) (tg 121 119 true (.mov (.t 120)) (tg 122 121 false (.faddr 2 (.t 1)) (tg 123 121 false (.load 1 false (.t 122)) (tg 124 121 false (.bin .eql (.t 123) (.c (.str []))) (tg 125 119 true (.pick (.t 121) (.c (.bool true)) (.t 124)) (tq 126 (.pick (.t 119) (.t 125) (.c (.bool false))) (tm 127 (.t 126) (tg 128 127 true (.mov (.t 8)) (tg 129 127 true (.mov (.t 128)) (tg 130 129 false (.faddr 4 (.t 1)) (tg 131 129 false (.load 1 false (.t 130)) (tg 132 129 false (.len (.t 131)) (tg 133 129 false (.bin .eql (.t 132) (.c (.int .i64 0))) (tg 134 127 true (.pick (.t 129) (.c (.bool true)) (.t 133)) (tq 135 (.pick (.t 127) (.t 134) (.c (.bool false))) (tm 136 (.t 135) (tg 137 136 true (.faddr 0 (.t 1)) (tg 138 136 true (.load 1 false (.t 137)) (tg 139 136 true (.bin .eql (.t 138) (.c (.int .i64 4))) (tg 140 136 true (.mov (.t 139)) (tg 141 140 false (.faddr 5 (.t 1)) (tg 142 140 false (.load 1 false (.t 141)) (tg 143 140 false (.len (.t 142)) (tg 144 140 false (.bin .eql (.t 143) (.c (.int .i64 0))) (tg 145 136 true (.pick (.t 140) (.c (.bool true)) (.t 144)) (tq 146 (.pick (.t 136) (.t 145) (.c (.bool false))) (tm 147 (.t 146) (tg 148 147 true (.faddr 0 (.t 1)) (tg 149 147 true (.load 1 false (.t 148)) (tg 150 147 true (.bin .eql (.t 149) (.c (.int .i64 2))) (tg 151 147 true (.mov (.t 150)) (tg 152 151 false (.faddr 6 (.t 1)) (tg 153 151 false (.load 1 false (.t 152)) (tg 154 151 false (.len (.t 153)) (tg 155 151 false (.bin .eql (.t 154) (.c (.int .i64 0))) (tg 156 147 true (.pick (.t 151) (.c (.bool true)) (.t 155)) (tq 157 (.pick (.t 147) (.t 156) (.c (.bool false))) (tm 158 (.t 157) (tg 159 158 true (.faddr 0 (.t 1)) (tg 160 158 true (.load 1 false (.t 159)) (tg 161 158 true (.bin .eql (.t 160) (.c (.int .i64 6))) (tg 162 158 true (.mov (.t 161)) (tg 163 162 false (.faddr 7 (.t 1)) (tg 164 162 false (.load 1 false (.t 163)) (tg 165 162 false (.not (.t 164)) (tg 166 158 true (.pick (.t 162) (.c (.bool true)) (.t 165)) (tq 167 (.pick (.t 158) (.t 166) (.c (.bool false))) (tm 2 (.t 167) .done))))))))))))))))))))))))))))))))))))))))))))))))))))))))))))))))))
 .ret)))))))))))))
theorem e7k:a1e Tryz.prog Tryz.f107 = some (c107.erase,[.mov (.t 2)],168):=by kernel_rfl
def a7u :List a3l → Option (Fl Bool Unit)
  | [] =>
    some (.go ())
  | N :: xs =>
    (b4b N).bind fun O =>
    if (!O) then
    some (.ret false)
    else
    a7u xs 

def a7v :List Str → Option (Fl Bool Unit)
  | [] =>
    some (.go ())
  | M :: xs =>
    if (decide ((M.length:Int) > 40)) then
    some (.ret false)
    else
    a7v xs 

def b6m (A:GOp):Option Bool :=
    (((a3f A.Kind 1 10).bind fun F =>
    if (bif (bif (!F) then true else (decide ((A.Table.length:Int) > 40))) then true else (decide ((A.Name.length:Int) > 40))) then
    some true
    else
    (b2v A.Where).bind fun K =>
    if (!K) then
    some true
    else
    (b2w A.Muts).bind fun G =>
    some (bif (bif (!G) then true else (decide ((A.Row.length:Int) > 6))) then true else (decide ((A.Columns.length:Int) > 6))):Option Bool)).bind fun L =>
    if L then
    some false
    else
    (a7u A.Row ).bind fun q => (match q with
    | .ret r => some r
    | .go _ =>
    (a7v A.Columns ).bind fun q => (match q with
    | .ret r => some r
    | .go _ =>
    (a3f A.Kind 1 6).bind fun E =>
    (a3f A.Kind 2 6).bind fun D =>
    ((if (A.Kind == 1) then
    some true
    else
    some (decide (A.Kind ≥ 9)):Option Bool)).bind fun B =>
    ((some ():Option Unit)).bind fun _ =>
    some (bif (bif (bif (bif (bif (bif (bif E then true else (A.Table == [])) then (bif D then true else ((A.Where.length:Int) == 0)) else false) then (bif B then true else (A.Name == [])) else false) then (bif (bif (bif (A.Kind == 1) then true else (A.Kind == 3)) then true else (A.Kind == 6)) then true else ((A.Row.length:Int) == 0)) else false) then (bif (A.Kind == 4) then true else ((A.Muts.length:Int) == 0)) else false) then (bif (A.Kind == 2) then true else ((A.Columns.length:Int) == 0)) else false) then (bif (A.Kind == 6) then true else (!A.Until)) else false)))
theorem d1c (A:GOp) (r:Bool) (hf:b6m A = some r):a0a Tryz.prog 107 .flat [(a2u A)] (.bool r):=by
 refine a0a.of_awp mixed Tryz.func107 e7k nle ?_;rw [a0n];unfold b6m at hf;unfold c107;refine (show awp Tryz.prog false 0 _ (ofL [(0,(a2u A))]) [] _ from ?_);refine sr<|x8 (a1j (j:=0) (c:=(.agg [(.I A.Kind),(.str A.Table),(.str A.Name),(.lst 3 (A.Where.map a0d)),(.lst 3 (A.Row.map a0f)),(.lst 3 (A.Muts.map a0o)),(.lst 1 (A.Columns.map AV.str)),(.bool A.Until)])) rfl tr rfl rfl)<|l7 (.bool false) rfl<|dk<|o7<|o7<|?_
 obtain ⟨L,hb1,hf⟩:=ob hf
 refine a1k ([(1,(.ptr 0 0 0)),(48,(.bool L))],[.box 8 (.agg [(.I A.Kind),(.str A.Table),(.str A.Name),(.lst 3 (A.Where.map a0d)),(.lst 3 (A.Row.map a0f)),(.lst 3 (A.Muts.map a0o)),(.lst 1 (A.Columns.map AV.str)),(.bool A.Until)])]) ?_ ?_
 ·refine a0r<|o8 (.ptr 0 0 0) rfl tr rfl<|o8 (.I A.Kind) rfl nle rfl<|?_
  obtain ⟨F,er17,hb1⟩:=ob hb1
  refine x8 (a0j (a2f _ _ _ _ er17) rfl .r rfl)<|o8 (.bool (!F)) rfl tr rfl<|l7 (.bool (!F)) rfl<|?_;refine s_g (v:=(!F)) (.ptr 0 0 1) rfl (fun hv => by (try simp only [o9 hv]);exact ⟨rfl,tr,rfl⟩) ?_;refine s_g (v:=(!F)) (.str A.Table) rfl (fun hv => by (try simp only [o9 hv]);exact ⟨rfl,nle,rfl⟩) ?_;refine s_g (v:=(!F)) (.I (A.Table.length:Int)) rfl (fun hv => by (try simp only [o9 hv]);exact ⟨rfl,tr,rfl⟩) ?_;refine s_g (v:=(!F)) (.bool (decide ((A.Table.length:Int) > 40))) rfl (fun hv => by (try simp only [o9 hv]);exact ⟨rfl,rfl,rfl⟩) ?_;refine a2a (x:=true) (y:=(decide ((A.Table.length:Int) > 40))) rfl (fun hv => by (try simp only [o9 hv]);rfl) (fun hv => by (try simp only [o9 hv]);rfl) ?_
  refine l7 (.bool (bif (!F) then true else (decide ((A.Table.length:Int) > 40)))) rfl ?_;refine s_g (v:=(bif (!F) then true else (decide ((A.Table.length:Int) > 40)))) (.ptr 0 0 2) rfl (fun hv => by (try simp only [o9 hv]);exact ⟨rfl,tr,rfl⟩) ?_;refine s_g (v:=(bif (!F) then true else (decide ((A.Table.length:Int) > 40)))) (.str A.Name) rfl (fun hv => by (try simp only [o9 hv]);exact ⟨rfl,nle,rfl⟩) ?_;refine s_g (v:=(bif (!F) then true else (decide ((A.Table.length:Int) > 40)))) (.I (A.Name.length:Int)) rfl (fun hv => by (try simp only [o9 hv]);exact ⟨rfl,tr,rfl⟩) ?_;refine s_g (v:=(bif (!F) then true else (decide ((A.Table.length:Int) > 40)))) (.bool (decide ((A.Name.length:Int) > 40))) rfl (fun hv => by (try simp only [o9 hv]);exact ⟨rfl,rfl,rfl⟩) ?_
  refine a2a (x:=true) (y:=(decide ((A.Name.length:Int) > 40))) rfl (fun hv => by (try simp only [o9 hv]);rfl) (fun hv => by (try simp only [o9 hv]);rfl) ?_;refine l7 (.bool (bif (bif (!F) then true else (decide ((A.Table.length:Int) > 40))) then true else (decide ((A.Name.length:Int) > 40)))) rfl ?_
  rcases oi hb1 with ⟨c20,hb1⟩ | ⟨c20,hb1⟩
  ·refine a0i (s:=25) (b:=true) rfl c20<|o6 rfl rfl<|o6 rfl rfl<|o6 rfl rfl<|o6 rfl rfl<|o8 (.bool true) rfl tr rfl<|l7 (.bool true) rfl<|o6 rfl rfl<|o6 rfl rfl<|o6 rfl rfl<|o6 rfl rfl<|o8 (.bool true) rfl tr rfl<|l7 (.bool true) rfl<|o6 rfl rfl<|o6 rfl rfl<|o6 rfl rfl<|o6 rfl rfl<|o8 (.bool true) rfl tr rfl<|l7 (.bool true) rfl<|o6 rfl rfl<|o6 rfl rfl<|o6 rfl rfl<|o6 rfl rfl<|o8 (.bool true) rfl tr rfl<|y5<|?_;obtain rfl:=os hb1;exact ⟨[],[0],_,_,rfl,rfl,⟨.r,⟨.r,tr⟩⟩,.r⟩
  ·refine a0i (s:=25) (b:=false) rfl (bf c20)<|s_on rfl<|o8 (.ptr 0 0 3) rfl tr rfl<|s_on rfl<|o8 (.lst 3 (A.Where.map a0d)) rfl nle rfl<|s_on rfl<|?_
   obtain ⟨K,er22,hb1⟩:=ob hb1
   refine x8 (a0j (c5h _ _ er22) rfl .r rfl)<|s_on rfl<|o8 (.bool (!K)) rfl tr rfl<|o8 (.bool (!K)) rfl tr rfl<|l7 (.bool (!K)) rfl<|?_
   rcases oi hb1 with ⟨c23,hb1⟩ | ⟨c23,hb1⟩
   ·refine a0i (s:=31) (b:=true) rfl c23<|o6 rfl rfl<|o6 rfl rfl<|o6 rfl rfl<|o6 rfl rfl<|o8 (.bool true) rfl tr rfl<|l7 (.bool true) rfl<|o6 rfl rfl<|o6 rfl rfl<|o6 rfl rfl<|o6 rfl rfl<|o8 (.bool true) rfl tr rfl<|l7 (.bool true) rfl<|o6 rfl rfl<|o6 rfl rfl<|o6 rfl rfl<|o6 rfl rfl<|o8 (.bool true) rfl tr rfl<|y5<|?_;obtain rfl:=os hb1;exact ⟨[],[0],_,_,rfl,rfl,⟨.r,⟨.r,tr⟩⟩,.r⟩
   ·refine a0i (s:=31) (b:=false) rfl (bf c23)<|s_on rfl<|o8 (.ptr 0 0 5) rfl tr rfl<|s_on rfl<|o8 (.lst 3 (A.Muts.map a0o)) rfl nle rfl<|s_on rfl<|?_
    obtain ⟨G,er25,hb1⟩:=ob hb1
    refine x8 (a0j (c5i _ _ er25) rfl .r rfl)<|s_on rfl<|o8 (.bool (!G)) rfl tr rfl<|o8 (.bool (!G)) rfl tr rfl<|l7 (.bool (!G)) rfl<|?_;refine s_g (v:=(!G)) (.ptr 0 0 4) rfl (fun hv => by (try simp only [o9 hv]);exact ⟨rfl,tr,rfl⟩) ?_;refine s_g (v:=(!G)) (.lst 3 (A.Row.map a0f)) rfl (fun hv => by (try simp only [o9 hv]);exact ⟨rfl,nle,rfl⟩) ?_;refine s_g (v:=(!G)) (.I (A.Row.length:Int)) rfl (fun hv => by (try simp only [o9 hv]);exact ⟨rfl,tr,lenV _ _⟩) ?_;refine s_g (v:=(!G)) (.bool (decide ((A.Row.length:Int) > 6))) rfl (fun hv => by (try simp only [o9 hv]);exact ⟨rfl,rfl,rfl⟩) ?_
    refine a2a (x:=true) (y:=(decide ((A.Row.length:Int) > 6))) rfl (fun hv => by (try simp only [o9 hv]);rfl) (fun hv => by (try simp only [o9 hv]);rfl) ?_;refine l7 (.bool (bif (!G) then true else (decide ((A.Row.length:Int) > 6)))) rfl ?_;refine s_g (v:=(bif (!G) then true else (decide ((A.Row.length:Int) > 6)))) (.ptr 0 0 6) rfl (fun hv => by (try simp only [o9 hv]);exact ⟨rfl,tr,rfl⟩) ?_;refine s_g (v:=(bif (!G) then true else (decide ((A.Row.length:Int) > 6)))) (.lst 1 (A.Columns.map AV.str)) rfl (fun hv => by (try simp only [o9 hv]);exact ⟨rfl,nle,rfl⟩) ?_;refine s_g (v:=(bif (!G) then true else (decide ((A.Row.length:Int) > 6)))) (.I (A.Columns.length:Int)) rfl (fun hv => by (try simp only [o9 hv]);exact ⟨rfl,tr,lenV _ _⟩) ?_
    refine s_g (v:=(bif (!G) then true else (decide ((A.Row.length:Int) > 6)))) (.bool (decide ((A.Columns.length:Int) > 6))) rfl (fun hv => by (try simp only [o9 hv]);exact ⟨rfl,rfl,rfl⟩) ?_;refine a2a (x:=true) (y:=(decide ((A.Columns.length:Int) > 6))) rfl (fun hv => by (try simp only [o9 hv]);rfl) (fun hv => by (try simp only [o9 hv]);rfl) ?_;refine y5 ?_;obtain rfl:=os hb1;exact ⟨[],[0],_,_,rfl,rfl,⟨.r,⟨.r,tr⟩⟩,.r⟩
 ·rcases oi hf with ⟨c28,hf⟩ | ⟨c28,hf⟩
  ·refine y8 rfl c28<|sr<|l7 (.bool false) rfl<|dk<|a0b<|?_;obtain rfl:=os hf;exact y7 ⟨tr,tr⟩ rfl .r
  ·refine y9 rfl (bf c28)<|a0k<|a0m<|o7<|sr<|l7 (.I 0) rfl<|dk<|?_
   obtain ⟨p53,hb1,hf⟩:=ob hf
   refine a2c (X:={q:Unit // p53 = .go q}) (fun q => ([(1,(.ptr 0 0 0))],[.box 8 (.agg [(.I A.Kind),(.str A.Table),(.str A.Name),(.lst 3 (A.Where.map a0d)),(.lst 3 (A.Row.map a0f)),(.lst 3 (A.Muts.map a0o)),(.lst 1 (A.Columns.map AV.str)),(.bool A.Until)])])) ?_ ?_
   ·refine a1v (X:={q:Nat // a7u (A.Row.drop q)  = some p53}) (fun q => ([(1,(.ptr 0 0 0)),(3,(.I (q.1:Int)))],[.box 8 (.agg [(.I A.Kind),(.str A.Table),(.str A.Name),(.lst 3 (A.Where.map a0d)),(.lst 3 (A.Row.map a0f)),(.lst 3 (A.Muts.map a0o)),(.lst 1 (A.Columns.map AV.str)),(.bool A.Until)])])) (fun q => A.Row.length - q.1) ⟨0,hb1⟩ ⟨[],[0],_,_,rfl,rfl,⟨.r,⟨.r,tr⟩⟩,.r⟩ ?_
    rintro ⟨H,hc1⟩
    have hc1:a7u (A.Row.drop H)  = some p53:=hc1
    refine (show awp Tryz.prog false 0 _ (ofL [(1,(.ptr 0 0 0)),(3,(.I (H:Int)))]) [.box 8 (.agg [(.I A.Kind),(.str A.Table),(.str A.Name),(.lst 3 (A.Where.map a0d)),(.lst 3 (A.Row.map a0f)),(.lst 3 (A.Muts.map a0o)),(.lst 1 (A.Columns.map AV.str)),(.bool A.Until)])] _ from ?_)
    rcases a6c A.Row H with ⟨hie56,hd59⟩ | ⟨hlt54,N,hx55,hd59⟩
    ·rw [hd59,a7u.eq_1] at hc1
     have hq58:=dlf hie56
     refine o7<|sr<|l7 (.I (H:Int)) rfl<|o8 (.ptr 0 0 4) rfl tr rfl<|o8 (.lst 3 (A.Row.map a0f)) rfl nle rfl<|a1i (a1p (enc:=a0f) rfl) fun hl61 => o8 (.bool (decide ((H:Int) < (A.Row.length:Int)))) rfl rfl rfl<|dk<|y9 rfl hq58<|a3i<|a3h<|a2e<|a3g<|?_;obtain rfl:=os hc1;exact a4b ⟨_,rfl⟩ ⟨[],[0],_,_,rfl,rfl,⟨.r,tr⟩,.r⟩
    ·rw [hd59,a7u.eq_2] at hc1
     have hq58:=dlt hlt54
     refine o7<|sr<|l7 (.I (H:Int)) rfl<|o8 (.ptr 0 0 4) rfl tr rfl<|o8 (.lst 3 (A.Row.map a0f)) rfl nle rfl<|a1i (a1p (enc:=a0f) rfl) fun hl62 => o8 (.bool (decide ((H:Int) < (A.Row.length:Int)))) rfl rfl rfl<|dk<|y8 rfl hq58<|a0k<|a0m<|o7<|a3y<|sr<|?_
     obtain ⟨O,er64,hc1⟩:=ob hc1
     refine o8 (.ptr 0 0 4) rfl tr rfl<|o8 (.lst 3 (A.Row.map a0f)) rfl nle rfl<|l7 (.I (H:Int)) rfl<|x8 (a1o (enc:=a0f) rfl rfl hx55)<|o8 (a0f N) rfl nle rfl<|x8 (a0j (c6s _ _ er64) rfl .r rfl)<|o8 (.bool (!O)) rfl tr rfl<|dk<|?_
     rcases oi hc1 with ⟨c65,hc1⟩ | ⟨c65,hc1⟩
     ·refine y8 rfl c65<|sr<|l7 (.bool false) rfl<|dk<|a0b<|?_;obtain rfl:=os hc1;obtain rfl:=os hf;exact y7 ⟨tr,tr⟩ rfl .r
     ·refine y9 rfl (bf c65)<|a0k<|a2y<|a0m<|a0r<|l7 (.I (H:Int)) rfl<|o8 (.I (w64 ((H:Int) + 1))) rfl rfl rfl<|l7 (.I (w64 ((H:Int) + 1))) rfl<|y5<|?_;exact a1z ⟨(H + 1),hc1⟩ (mul hlt54) ⟨[],[0],_,_,rfl,rfl,⟨.r,⟨.of_eq (congrArg (AV.int _) (a1x hlt54 hl62)),tr⟩⟩,.r⟩
   ·rintro ⟨_,rfl⟩
    refine o7<|sr<|l7 (.I 0) rfl<|dk<|?_
    obtain ⟨p87,hb1,hf⟩:=ob hf
    refine a2c (X:={q:Unit // p87 = .go q}) (fun q => ([(1,(.ptr 0 0 0))],[.box 8 (.agg [(.I A.Kind),(.str A.Table),(.str A.Name),(.lst 3 (A.Where.map a0d)),(.lst 3 (A.Row.map a0f)),(.lst 3 (A.Muts.map a0o)),(.lst 1 (A.Columns.map AV.str)),(.bool A.Until)])])) ?_ ?_
    ·refine a1v (X:={q:Nat // a7v (A.Columns.drop q)  = some p87}) (fun q => ([(1,(.ptr 0 0 0)),(4,(.I (q.1:Int)))],[.box 8 (.agg [(.I A.Kind),(.str A.Table),(.str A.Name),(.lst 3 (A.Where.map a0d)),(.lst 3 (A.Row.map a0f)),(.lst 3 (A.Muts.map a0o)),(.lst 1 (A.Columns.map AV.str)),(.bool A.Until)])])) (fun q => A.Columns.length - q.1) ⟨0,hb1⟩ ⟨[],[0],_,_,rfl,rfl,⟨.r,⟨.r,tr⟩⟩,.r⟩ ?_
     rintro ⟨J,hc1⟩
     have hc1:a7v (A.Columns.drop J)  = some p87:=hc1
     refine (show awp Tryz.prog false 0 _ (ofL [(1,(.ptr 0 0 0)),(4,(.I (J:Int)))]) [.box 8 (.agg [(.I A.Kind),(.str A.Table),(.str A.Name),(.lst 3 (A.Where.map a0d)),(.lst 3 (A.Row.map a0f)),(.lst 3 (A.Muts.map a0o)),(.lst 1 (A.Columns.map AV.str)),(.bool A.Until)])] _ from ?_)
     rcases a6c A.Columns J with ⟨hie90,hd93⟩ | ⟨hlt88,M,hx89,hd93⟩
     ·rw [hd93,a7v.eq_1] at hc1
      have hq92:=dlf hie90
      refine o7<|sr<|l7 (.I (J:Int)) rfl<|o8 (.ptr 0 0 6) rfl tr rfl<|o8 (.lst 1 (A.Columns.map AV.str)) rfl nle rfl<|a1i (a1p (enc:=AV.str) rfl) fun hl95 => o8 (.bool (decide ((J:Int) < (A.Columns.length:Int)))) rfl rfl rfl<|dk<|y9 rfl hq92<|a3i<|a3h<|a2e<|a3g<|?_;obtain rfl:=os hc1;exact a4b ⟨_,rfl⟩ ⟨[],[0],_,_,rfl,rfl,⟨.r,tr⟩,.r⟩
     ·rw [hd93,a7v.eq_2] at hc1
      have hq92:=dlt hlt88
      refine o7<|sr<|l7 (.I (J:Int)) rfl<|o8 (.ptr 0 0 6) rfl tr rfl<|o8 (.lst 1 (A.Columns.map AV.str)) rfl nle rfl<|a1i (a1p (enc:=AV.str) rfl) fun hl96 => o8 (.bool (decide ((J:Int) < (A.Columns.length:Int)))) rfl rfl rfl<|dk<|y8 rfl hq92<|a0k<|a0m<|o7<|a3y<|sr<|o8 (.ptr 0 0 6) rfl tr rfl<|o8 (.lst 1 (A.Columns.map AV.str)) rfl nle rfl<|l7 (.I (J:Int)) rfl<|x8 (a1o (enc:=AV.str) rfl rfl hx89)<|o8 (.str M) rfl ⟨rfl,rfl⟩ rfl<|a1i (b3i rfl) fun hl97 => o8 (.bool (decide ((M.length:Int) > 40))) rfl rfl rfl<|y5<|?_
      refine a0m ?_
      rcases oi hc1 with ⟨c98,hc1⟩ | ⟨c98,hc1⟩
      ·refine y8 rfl c98<|sr<|l7 (.bool false) rfl<|dk<|a0b<|?_;obtain rfl:=os hc1;obtain rfl:=os hf;exact y7 ⟨tr,tr⟩ rfl .r
      ·refine y9 rfl (bf c98)<|a0k<|a2y<|a0m<|a0r<|l7 (.I (J:Int)) rfl<|o8 (.I (w64 ((J:Int) + 1))) rfl rfl rfl<|l7 (.I (w64 ((J:Int) + 1))) rfl<|y5<|?_;exact a1z ⟨(J + 1),hc1⟩ (mul hlt88) ⟨[],[0],_,_,rfl,rfl,⟨.r,⟨.of_eq (congrArg (AV.int _) (a1x hlt88 hl96)),tr⟩⟩,.r⟩
    ·rintro ⟨_,rfl⟩
     refine sr<|?_
     obtain ⟨E,er100,hf⟩:=ob hf
     refine o8 (.ptr 0 0 0) rfl tr rfl<|o8 (.I A.Kind) rfl nle rfl<|x8 (a0j (a2f _ _ _ _ er100) rfl .r rfl)<|l7 (.bool E) rfl<|dk<|sr<|?_
     obtain ⟨D,er102,hf⟩:=ob hf
     refine o8 (.ptr 0 0 0) rfl tr rfl<|o8 (.I A.Kind) rfl nle rfl<|x8 (a0j (a2f _ _ _ _ er102) rfl .r rfl)<|l7 (.bool D) rfl<|dk<|o7<|?_
     obtain ⟨B,hb1,hf⟩:=ob hf
     refine a1k ([(1,(.ptr 0 0 0)),(5,(.bool E)),(6,(.bool D)),(7,(.bool B))],[.box 8 (.agg [(.I A.Kind),(.str A.Table),(.str A.Name),(.lst 3 (A.Where.map a0d)),(.lst 3 (A.Row.map a0f)),(.lst 3 (A.Muts.map a0o)),(.lst 1 (A.Columns.map AV.str)),(.bool A.Until)])]) ?_ ?_
     ·refine a0r ?_
      rcases oi hb1 with ⟨d5k,hb1⟩ | ⟨d5k,hb1⟩
      ·refine o8 (.ptr 0 0 0) rfl tr rfl<|o8 (.I A.Kind) rfl nle rfl<|o8 (.bool (A.Kind == 1)) rfl rfl rfl<|l7 (.bool (A.Kind == 1)) rfl<|a0i (s:=86) (b:=true) rfl d5k<|o6 rfl rfl<|o6 rfl rfl<|o6 rfl rfl<|o8 (.bool true) rfl tr rfl<|l7 (.bool true) rfl<|y5<|?_;obtain rfl:=os hb1;exact ⟨[],[0],_,_,rfl,rfl,⟨.r,⟨.r,⟨.r,⟨.r,tr⟩⟩⟩⟩,.r⟩
      ·refine o8 (.ptr 0 0 0) rfl tr rfl<|o8 (.I A.Kind) rfl nle rfl<|o8 (.bool (A.Kind == 1)) rfl rfl rfl<|l7 (.bool (A.Kind == 1)) rfl<|a0i (s:=86) (b:=false) rfl (bf d5k)<|s_on rfl<|o8 (.ptr 0 0 0) rfl tr rfl<|s_on rfl<|o8 (.I A.Kind) rfl nle rfl<|s_on rfl<|o8 (.bool (decide (A.Kind ≥ 9))) rfl rfl rfl<|o8 (.bool (decide (A.Kind ≥ 9))) rfl tr rfl<|l7 (.bool (decide (A.Kind ≥ 9))) rfl<|y5<|?_;obtain rfl:=os hb1;exact ⟨[],[0],_,_,rfl,rfl,⟨.r,⟨.r,⟨.r,⟨.r,tr⟩⟩⟩⟩,.r⟩
     ·refine o7 ?_
      obtain ⟨p107,hb1,hf⟩:=ob hf
      refine a1k ([(1,(.ptr 0 0 0)),(5,(.bool E)),(6,(.bool D)),(7,(.bool B)),(8,(.bool (bif (bif (A.Kind == 1) then true else (A.Kind == 3)) then true else (A.Kind == 6))))],[.box 8 (.agg [(.I A.Kind),(.str A.Table),(.str A.Name),(.lst 3 (A.Where.map a0d)),(.lst 3 (A.Row.map a0f)),(.lst 3 (A.Muts.map a0o)),(.lst 1 (A.Columns.map AV.str)),(.bool A.Until)])]) ?_ ?_
      ·refine a0r<|o8 (.ptr 0 0 0) rfl tr rfl<|o8 (.I A.Kind) rfl nle rfl<|o8 (.bool (A.Kind == 1)) rfl rfl rfl<|l7 (.bool (A.Kind == 1)) rfl<|?_;refine s_g (v:=(A.Kind == 1)) (.ptr 0 0 0) rfl (fun hv => by (try simp only [o9 hv]);exact ⟨rfl,tr,rfl⟩) ?_;refine s_g (v:=(A.Kind == 1)) (.I A.Kind) rfl (fun hv => by (try simp only [o9 hv]);exact ⟨rfl,nle,rfl⟩) ?_;refine s_g (v:=(A.Kind == 1)) (.bool (A.Kind == 3)) rfl (fun hv => by (try simp only [o9 hv]);exact ⟨rfl,rfl,rfl⟩) ?_;refine a2a (x:=true) (y:=(A.Kind == 3)) rfl (fun hv => by (try simp only [o9 hv]);rfl) (fun hv => by (try simp only [o9 hv]);rfl) ?_;refine l7 (.bool (bif (A.Kind == 1) then true else (A.Kind == 3))) rfl ?_
       refine s_g (v:=(bif (A.Kind == 1) then true else (A.Kind == 3))) (.ptr 0 0 0) rfl (fun hv => by (try simp only [o9 hv]);exact ⟨rfl,tr,rfl⟩) ?_;refine s_g (v:=(bif (A.Kind == 1) then true else (A.Kind == 3))) (.I A.Kind) rfl (fun hv => by (try simp only [o9 hv]);exact ⟨rfl,nle,rfl⟩) ?_;refine s_g (v:=(bif (A.Kind == 1) then true else (A.Kind == 3))) (.bool (A.Kind == 6)) rfl (fun hv => by (try simp only [o9 hv]);exact ⟨rfl,rfl,rfl⟩) ?_;refine a2a (x:=true) (y:=(A.Kind == 6)) rfl (fun hv => by (try simp only [o9 hv]);rfl) (fun hv => by (try simp only [o9 hv]);rfl) ?_;refine l7 (.bool (bif (bif (A.Kind == 1) then true else (A.Kind == 3)) then true else (A.Kind == 6))) rfl ?_
       refine y5 ?_;obtain rfl:=os hb1;exact ⟨[],[0],_,_,rfl,rfl,⟨.r,⟨.r,⟨.r,⟨.r,⟨.r,tr⟩⟩⟩⟩⟩,.r⟩
      ·refine sr<|l7 (.bool E) rfl<|l7 (.bool E) rfl<|?_;refine s_g (v:=E) (.ptr 0 0 1) rfl (fun hv => by (try simp only [o9 hv]);exact ⟨rfl,tr,rfl⟩) ?_;refine s_g (v:=E) (.str A.Table) rfl (fun hv => by (try simp only [o9 hv]);exact ⟨rfl,nle,rfl⟩) ?_;refine s_g (v:=E) (.bool (A.Table == [])) rfl (fun hv => by (try simp only [o9 hv]);exact ⟨rfl,tr,rfl⟩) ?_;refine a2a (x:=true) (y:=(A.Table == [])) rfl (fun hv => by (try simp only [o9 hv]);rfl) (fun hv => by (try simp only [o9 hv]);rfl) ?_;refine l7 (.bool (bif E then true else (A.Table == []))) rfl ?_;refine s_g (v:=(bif E then true else (A.Table == []))) (.bool D) rfl (fun hv => by (try simp only [o9 hv]);exact ⟨rfl,tr,rfl⟩) ?_
       refine s_g (v:=(bif E then true else (A.Table == []))) (.bool D) rfl (fun hv => by (try simp only [o9 hv]);exact ⟨rfl,tr,rfl⟩) ?_;refine a7t (v1:=(bif E then true else (A.Table == []))) (b1:=true) (v2:=D) (.ptr 0 0 3) rfl (fun hv hw => by (try simp only [o9 hv,o9 hw]);exact ⟨rfl,tr,rfl⟩) ?_;refine a7t (v1:=(bif E then true else (A.Table == []))) (b1:=true) (v2:=D) (.lst 3 (A.Where.map a0d)) rfl (fun hv hw => by (try simp only [o9 hv,o9 hw]);exact ⟨rfl,nle,rfl⟩) ?_;refine a7t (v1:=(bif E then true else (A.Table == []))) (b1:=true) (v2:=D) (.I (A.Where.length:Int)) rfl (fun hv hw => by (try simp only [o9 hv,o9 hw]);exact ⟨rfl,tr,lenV _ _⟩) ?_
       refine a7t (v1:=(bif E then true else (A.Table == []))) (b1:=true) (v2:=D) (.bool ((A.Where.length:Int) == 0)) rfl (fun hv hw => by (try simp only [o9 hv,o9 hw]);exact ⟨rfl,rfl,rfl⟩) ?_;refine c0q (v1:=(bif E then true else (A.Table == []))) (b1:=true) (v2:=D) (x:=true) (y:=((A.Where.length:Int) == 0)) rfl (fun hv => by (try simp only [o9 hv]);rfl) (fun hv hw => by (try simp only [o9 hv,o9 hw]);rfl) (fun hv hw => by (try simp only [o9 hv,o9 hw]);rfl) ?_;refine a2a (x:=(bif D then true else ((A.Where.length:Int) == 0))) (y:=false) rfl (fun hv => by (try simp only [o9 hv]);rfl) (fun hv => by (try simp only [o9 hv]);rfl) ?_
       refine l7 (.bool (bif (bif E then true else (A.Table == [])) then (bif D then true else ((A.Where.length:Int) == 0)) else false)) rfl ?_;refine s_g (v:=(bif (bif E then true else (A.Table == [])) then (bif D then true else ((A.Where.length:Int) == 0)) else false)) (.bool B) rfl (fun hv => by (try simp only [o9 hv]);exact ⟨rfl,tr,rfl⟩) ?_;refine s_g (v:=(bif (bif E then true else (A.Table == [])) then (bif D then true else ((A.Where.length:Int) == 0)) else false)) (.bool B) rfl (fun hv => by (try simp only [o9 hv]);exact ⟨rfl,tr,rfl⟩) ?_;refine a7t (v1:=(bif (bif E then true else (A.Table == [])) then (bif D then true else ((A.Where.length:Int) == 0)) else false)) (b1:=true) (v2:=B) (.ptr 0 0 2) rfl (fun hv hw => by (try simp only [o9 hv,o9 hw]);exact ⟨rfl,tr,rfl⟩) ?_
       refine a7t (v1:=(bif (bif E then true else (A.Table == [])) then (bif D then true else ((A.Where.length:Int) == 0)) else false)) (b1:=true) (v2:=B) (.str A.Name) rfl (fun hv hw => by (try simp only [o9 hv,o9 hw]);exact ⟨rfl,nle,rfl⟩) ?_;refine a7t (v1:=(bif (bif E then true else (A.Table == [])) then (bif D then true else ((A.Where.length:Int) == 0)) else false)) (b1:=true) (v2:=B) (.bool (A.Name == [])) rfl (fun hv hw => by (try simp only [o9 hv,o9 hw]);exact ⟨rfl,tr,rfl⟩) ?_;refine c0q (v1:=(bif (bif E then true else (A.Table == [])) then (bif D then true else ((A.Where.length:Int) == 0)) else false)) (b1:=true) (v2:=B) (x:=true) (y:=(A.Name == [])) rfl (fun hv => by (try simp only [o9 hv]);rfl) (fun hv hw => by (try simp only [o9 hv,o9 hw]);rfl) (fun hv hw => by (try simp only [o9 hv,o9 hw]);rfl) ?_
       refine a2a (x:=(bif B then true else (A.Name == []))) (y:=false) rfl (fun hv => by (try simp only [o9 hv]);rfl) (fun hv => by (try simp only [o9 hv]);rfl) ?_;refine l7 (.bool (bif (bif (bif E then true else (A.Table == [])) then (bif D then true else ((A.Where.length:Int) == 0)) else false) then (bif B then true else (A.Name == [])) else false)) rfl ?_;refine s_g (v:=(bif (bif (bif E then true else (A.Table == [])) then (bif D then true else ((A.Where.length:Int) == 0)) else false) then (bif B then true else (A.Name == [])) else false)) (.bool (bif (bif (A.Kind == 1) then true else (A.Kind == 3)) then true else (A.Kind == 6))) rfl (fun hv => by (try simp only [o9 hv]);exact ⟨rfl,tr,rfl⟩) ?_
       refine s_g (v:=(bif (bif (bif E then true else (A.Table == [])) then (bif D then true else ((A.Where.length:Int) == 0)) else false) then (bif B then true else (A.Name == [])) else false)) (.bool (bif (bif (A.Kind == 1) then true else (A.Kind == 3)) then true else (A.Kind == 6))) rfl (fun hv => by (try simp only [o9 hv]);exact ⟨rfl,tr,rfl⟩) ?_;refine a7t (v1:=(bif (bif (bif E then true else (A.Table == [])) then (bif D then true else ((A.Where.length:Int) == 0)) else false) then (bif B then true else (A.Name == [])) else false)) (b1:=true) (v2:=(bif (bif (A.Kind == 1) then true else (A.Kind == 3)) then true else (A.Kind == 6))) (.ptr 0 0 4) rfl (fun hv hw => by (try simp only [o9 hv,o9 hw]);exact ⟨rfl,tr,rfl⟩) ?_
       refine a7t (v1:=(bif (bif (bif E then true else (A.Table == [])) then (bif D then true else ((A.Where.length:Int) == 0)) else false) then (bif B then true else (A.Name == [])) else false)) (b1:=true) (v2:=(bif (bif (A.Kind == 1) then true else (A.Kind == 3)) then true else (A.Kind == 6))) (.lst 3 (A.Row.map a0f)) rfl (fun hv hw => by (try simp only [o9 hv,o9 hw]);exact ⟨rfl,nle,rfl⟩) ?_;refine a7t (v1:=(bif (bif (bif E then true else (A.Table == [])) then (bif D then true else ((A.Where.length:Int) == 0)) else false) then (bif B then true else (A.Name == [])) else false)) (b1:=true) (v2:=(bif (bif (A.Kind == 1) then true else (A.Kind == 3)) then true else (A.Kind == 6))) (.I (A.Row.length:Int)) rfl (fun hv hw => by (try simp only [o9 hv,o9 hw]);exact ⟨rfl,tr,lenV _ _⟩) ?_
       refine a7t (v1:=(bif (bif (bif E then true else (A.Table == [])) then (bif D then true else ((A.Where.length:Int) == 0)) else false) then (bif B then true else (A.Name == [])) else false)) (b1:=true) (v2:=(bif (bif (A.Kind == 1) then true else (A.Kind == 3)) then true else (A.Kind == 6))) (.bool ((A.Row.length:Int) == 0)) rfl (fun hv hw => by (try simp only [o9 hv,o9 hw]);exact ⟨rfl,rfl,rfl⟩) ?_;refine c0q (v1:=(bif (bif (bif E then true else (A.Table == [])) then (bif D then true else ((A.Where.length:Int) == 0)) else false) then (bif B then true else (A.Name == [])) else false)) (b1:=true) (v2:=(bif (bif (A.Kind == 1) then true else (A.Kind == 3)) then true else (A.Kind == 6))) (x:=true) (y:=((A.Row.length:Int) == 0)) rfl (fun hv => by (try simp only [o9 hv]);rfl) (fun hv hw => by (try simp only [o9 hv,o9 hw]);rfl) (fun hv hw => by (try simp only [o9 hv,o9 hw]);rfl) ?_
       refine a2a (x:=(bif (bif (bif (A.Kind == 1) then true else (A.Kind == 3)) then true else (A.Kind == 6)) then true else ((A.Row.length:Int) == 0))) (y:=false) rfl (fun hv => by (try simp only [o9 hv]);rfl) (fun hv => by (try simp only [o9 hv]);rfl) ?_;refine l7 (.bool (bif (bif (bif (bif E then true else (A.Table == [])) then (bif D then true else ((A.Where.length:Int) == 0)) else false) then (bif B then true else (A.Name == [])) else false) then (bif (bif (bif (A.Kind == 1) then true else (A.Kind == 3)) then true else (A.Kind == 6)) then true else ((A.Row.length:Int) == 0)) else false)) rfl ?_;refine s_g (v:=(bif (bif (bif (bif E then true else (A.Table == [])) then (bif D then true else ((A.Where.length:Int) == 0)) else false) then (bif B then true else (A.Name == [])) else false) then (bif (bif (bif (A.Kind == 1) then true else (A.Kind == 3)) then true else (A.Kind == 6)) then true else ((A.Row.length:Int) == 0)) else false)) (.ptr 0 0 0) rfl (fun hv => by (try simp only [o9 hv]);exact ⟨rfl,tr,rfl⟩) ?_
       refine s_g (v:=(bif (bif (bif (bif E then true else (A.Table == [])) then (bif D then true else ((A.Where.length:Int) == 0)) else false) then (bif B then true else (A.Name == [])) else false) then (bif (bif (bif (A.Kind == 1) then true else (A.Kind == 3)) then true else (A.Kind == 6)) then true else ((A.Row.length:Int) == 0)) else false)) (.I A.Kind) rfl (fun hv => by (try simp only [o9 hv]);exact ⟨rfl,nle,rfl⟩) ?_;refine s_g (v:=(bif (bif (bif (bif E then true else (A.Table == [])) then (bif D then true else ((A.Where.length:Int) == 0)) else false) then (bif B then true else (A.Name == [])) else false) then (bif (bif (bif (A.Kind == 1) then true else (A.Kind == 3)) then true else (A.Kind == 6)) then true else ((A.Row.length:Int) == 0)) else false)) (.bool (A.Kind == 4)) rfl (fun hv => by (try simp only [o9 hv]);exact ⟨rfl,rfl,rfl⟩) ?_
       refine s_g (v:=(bif (bif (bif (bif E then true else (A.Table == [])) then (bif D then true else ((A.Where.length:Int) == 0)) else false) then (bif B then true else (A.Name == [])) else false) then (bif (bif (bif (A.Kind == 1) then true else (A.Kind == 3)) then true else (A.Kind == 6)) then true else ((A.Row.length:Int) == 0)) else false)) (.bool (A.Kind == 4)) rfl (fun hv => by (try simp only [o9 hv]);exact ⟨rfl,tr,rfl⟩) ?_;refine a7t (v1:=(bif (bif (bif (bif E then true else (A.Table == [])) then (bif D then true else ((A.Where.length:Int) == 0)) else false) then (bif B then true else (A.Name == [])) else false) then (bif (bif (bif (A.Kind == 1) then true else (A.Kind == 3)) then true else (A.Kind == 6)) then true else ((A.Row.length:Int) == 0)) else false)) (b1:=true) (v2:=(A.Kind == 4)) (.ptr 0 0 5) rfl (fun hv hw => by (try simp only [o9 hv,o9 hw]);exact ⟨rfl,tr,rfl⟩) ?_
       refine a7t (v1:=(bif (bif (bif (bif E then true else (A.Table == [])) then (bif D then true else ((A.Where.length:Int) == 0)) else false) then (bif B then true else (A.Name == [])) else false) then (bif (bif (bif (A.Kind == 1) then true else (A.Kind == 3)) then true else (A.Kind == 6)) then true else ((A.Row.length:Int) == 0)) else false)) (b1:=true) (v2:=(A.Kind == 4)) (.lst 3 (A.Muts.map a0o)) rfl (fun hv hw => by (try simp only [o9 hv,o9 hw]);exact ⟨rfl,nle,rfl⟩) ?_;refine a7t (v1:=(bif (bif (bif (bif E then true else (A.Table == [])) then (bif D then true else ((A.Where.length:Int) == 0)) else false) then (bif B then true else (A.Name == [])) else false) then (bif (bif (bif (A.Kind == 1) then true else (A.Kind == 3)) then true else (A.Kind == 6)) then true else ((A.Row.length:Int) == 0)) else false)) (b1:=true) (v2:=(A.Kind == 4)) (.I (A.Muts.length:Int)) rfl (fun hv hw => by (try simp only [o9 hv,o9 hw]);exact ⟨rfl,tr,lenV _ _⟩) ?_
       refine a7t (v1:=(bif (bif (bif (bif E then true else (A.Table == [])) then (bif D then true else ((A.Where.length:Int) == 0)) else false) then (bif B then true else (A.Name == [])) else false) then (bif (bif (bif (A.Kind == 1) then true else (A.Kind == 3)) then true else (A.Kind == 6)) then true else ((A.Row.length:Int) == 0)) else false)) (b1:=true) (v2:=(A.Kind == 4)) (.bool ((A.Muts.length:Int) == 0)) rfl (fun hv hw => by (try simp only [o9 hv,o9 hw]);exact ⟨rfl,rfl,rfl⟩) ?_;refine c0q (v1:=(bif (bif (bif (bif E then true else (A.Table == [])) then (bif D then true else ((A.Where.length:Int) == 0)) else false) then (bif B then true else (A.Name == [])) else false) then (bif (bif (bif (A.Kind == 1) then true else (A.Kind == 3)) then true else (A.Kind == 6)) then true else ((A.Row.length:Int) == 0)) else false)) (b1:=true) (v2:=(A.Kind == 4)) (x:=true) (y:=((A.Muts.length:Int) == 0)) rfl (fun hv => by (try simp only [o9 hv]);rfl) (fun hv hw => by (try simp only [o9 hv,o9 hw]);rfl) (fun hv hw => by (try simp only [o9 hv,o9 hw]);rfl) ?_
       refine a2a (x:=(bif (A.Kind == 4) then true else ((A.Muts.length:Int) == 0))) (y:=false) rfl (fun hv => by (try simp only [o9 hv]);rfl) (fun hv => by (try simp only [o9 hv]);rfl) ?_;refine l7 (.bool (bif (bif (bif (bif (bif E then true else (A.Table == [])) then (bif D then true else ((A.Where.length:Int) == 0)) else false) then (bif B then true else (A.Name == [])) else false) then (bif (bif (bif (A.Kind == 1) then true else (A.Kind == 3)) then true else (A.Kind == 6)) then true else ((A.Row.length:Int) == 0)) else false) then (bif (A.Kind == 4) then true else ((A.Muts.length:Int) == 0)) else false)) rfl ?_;refine s_g (v:=(bif (bif (bif (bif (bif E then true else (A.Table == [])) then (bif D then true else ((A.Where.length:Int) == 0)) else false) then (bif B then true else (A.Name == [])) else false) then (bif (bif (bif (A.Kind == 1) then true else (A.Kind == 3)) then true else (A.Kind == 6)) then true else ((A.Row.length:Int) == 0)) else false) then (bif (A.Kind == 4) then true else ((A.Muts.length:Int) == 0)) else false)) (.ptr 0 0 0) rfl (fun hv => by (try simp only [o9 hv]);exact ⟨rfl,tr,rfl⟩) ?_
       refine s_g (v:=(bif (bif (bif (bif (bif E then true else (A.Table == [])) then (bif D then true else ((A.Where.length:Int) == 0)) else false) then (bif B then true else (A.Name == [])) else false) then (bif (bif (bif (A.Kind == 1) then true else (A.Kind == 3)) then true else (A.Kind == 6)) then true else ((A.Row.length:Int) == 0)) else false) then (bif (A.Kind == 4) then true else ((A.Muts.length:Int) == 0)) else false)) (.I A.Kind) rfl (fun hv => by (try simp only [o9 hv]);exact ⟨rfl,nle,rfl⟩) ?_;refine s_g (v:=(bif (bif (bif (bif (bif E then true else (A.Table == [])) then (bif D then true else ((A.Where.length:Int) == 0)) else false) then (bif B then true else (A.Name == [])) else false) then (bif (bif (bif (A.Kind == 1) then true else (A.Kind == 3)) then true else (A.Kind == 6)) then true else ((A.Row.length:Int) == 0)) else false) then (bif (A.Kind == 4) then true else ((A.Muts.length:Int) == 0)) else false)) (.bool (A.Kind == 2)) rfl (fun hv => by (try simp only [o9 hv]);exact ⟨rfl,rfl,rfl⟩) ?_
       refine s_g (v:=(bif (bif (bif (bif (bif E then true else (A.Table == [])) then (bif D then true else ((A.Where.length:Int) == 0)) else false) then (bif B then true else (A.Name == [])) else false) then (bif (bif (bif (A.Kind == 1) then true else (A.Kind == 3)) then true else (A.Kind == 6)) then true else ((A.Row.length:Int) == 0)) else false) then (bif (A.Kind == 4) then true else ((A.Muts.length:Int) == 0)) else false)) (.bool (A.Kind == 2)) rfl (fun hv => by (try simp only [o9 hv]);exact ⟨rfl,tr,rfl⟩) ?_;refine a7t (v1:=(bif (bif (bif (bif (bif E then true else (A.Table == [])) then (bif D then true else ((A.Where.length:Int) == 0)) else false) then (bif B then true else (A.Name == [])) else false) then (bif (bif (bif (A.Kind == 1) then true else (A.Kind == 3)) then true else (A.Kind == 6)) then true else ((A.Row.length:Int) == 0)) else false) then (bif (A.Kind == 4) then true else ((A.Muts.length:Int) == 0)) else false)) (b1:=true) (v2:=(A.Kind == 2)) (.ptr 0 0 6) rfl (fun hv hw => by (try simp only [o9 hv,o9 hw]);exact ⟨rfl,tr,rfl⟩) ?_
       refine a7t (v1:=(bif (bif (bif (bif (bif E then true else (A.Table == [])) then (bif D then true else ((A.Where.length:Int) == 0)) else false) then (bif B then true else (A.Name == [])) else false) then (bif (bif (bif (A.Kind == 1) then true else (A.Kind == 3)) then true else (A.Kind == 6)) then true else ((A.Row.length:Int) == 0)) else false) then (bif (A.Kind == 4) then true else ((A.Muts.length:Int) == 0)) else false)) (b1:=true) (v2:=(A.Kind == 2)) (.lst 1 (A.Columns.map AV.str)) rfl (fun hv hw => by (try simp only [o9 hv,o9 hw]);exact ⟨rfl,nle,rfl⟩) ?_;refine a7t (v1:=(bif (bif (bif (bif (bif E then true else (A.Table == [])) then (bif D then true else ((A.Where.length:Int) == 0)) else false) then (bif B then true else (A.Name == [])) else false) then (bif (bif (bif (A.Kind == 1) then true else (A.Kind == 3)) then true else (A.Kind == 6)) then true else ((A.Row.length:Int) == 0)) else false) then (bif (A.Kind == 4) then true else ((A.Muts.length:Int) == 0)) else false)) (b1:=true) (v2:=(A.Kind == 2)) (.I (A.Columns.length:Int)) rfl (fun hv hw => by (try simp only [o9 hv,o9 hw]);exact ⟨rfl,tr,lenV _ _⟩) ?_
       refine a7t (v1:=(bif (bif (bif (bif (bif E then true else (A.Table == [])) then (bif D then true else ((A.Where.length:Int) == 0)) else false) then (bif B then true else (A.Name == [])) else false) then (bif (bif (bif (A.Kind == 1) then true else (A.Kind == 3)) then true else (A.Kind == 6)) then true else ((A.Row.length:Int) == 0)) else false) then (bif (A.Kind == 4) then true else ((A.Muts.length:Int) == 0)) else false)) (b1:=true) (v2:=(A.Kind == 2)) (.bool ((A.Columns.length:Int) == 0)) rfl (fun hv hw => by (try simp only [o9 hv,o9 hw]);exact ⟨rfl,rfl,rfl⟩) ?_;refine c0q (v1:=(bif (bif (bif (bif (bif E then true else (A.Table == [])) then (bif D then true else ((A.Where.length:Int) == 0)) else false) then (bif B then true else (A.Name == [])) else false) then (bif (bif (bif (A.Kind == 1) then true else (A.Kind == 3)) then true else (A.Kind == 6)) then true else ((A.Row.length:Int) == 0)) else false) then (bif (A.Kind == 4) then true else ((A.Muts.length:Int) == 0)) else false)) (b1:=true) (v2:=(A.Kind == 2)) (x:=true) (y:=((A.Columns.length:Int) == 0)) rfl (fun hv => by (try simp only [o9 hv]);rfl) (fun hv hw => by (try simp only [o9 hv,o9 hw]);rfl) (fun hv hw => by (try simp only [o9 hv,o9 hw]);rfl) ?_
       refine a2a (x:=(bif (A.Kind == 2) then true else ((A.Columns.length:Int) == 0))) (y:=false) rfl (fun hv => by (try simp only [o9 hv]);rfl) (fun hv => by (try simp only [o9 hv]);rfl) ?_;refine l7 (.bool (bif (bif (bif (bif (bif (bif E then true else (A.Table == [])) then (bif D then true else ((A.Where.length:Int) == 0)) else false) then (bif B then true else (A.Name == [])) else false) then (bif (bif (bif (A.Kind == 1) then true else (A.Kind == 3)) then true else (A.Kind == 6)) then true else ((A.Row.length:Int) == 0)) else false) then (bif (A.Kind == 4) then true else ((A.Muts.length:Int) == 0)) else false) then (bif (A.Kind == 2) then true else ((A.Columns.length:Int) == 0)) else false)) rfl ?_
       refine s_g (v:=(bif (bif (bif (bif (bif (bif E then true else (A.Table == [])) then (bif D then true else ((A.Where.length:Int) == 0)) else false) then (bif B then true else (A.Name == [])) else false) then (bif (bif (bif (A.Kind == 1) then true else (A.Kind == 3)) then true else (A.Kind == 6)) then true else ((A.Row.length:Int) == 0)) else false) then (bif (A.Kind == 4) then true else ((A.Muts.length:Int) == 0)) else false) then (bif (A.Kind == 2) then true else ((A.Columns.length:Int) == 0)) else false)) (.ptr 0 0 0) rfl (fun hv => by (try simp only [o9 hv]);exact ⟨rfl,tr,rfl⟩) ?_;refine s_g (v:=(bif (bif (bif (bif (bif (bif E then true else (A.Table == [])) then (bif D then true else ((A.Where.length:Int) == 0)) else false) then (bif B then true else (A.Name == [])) else false) then (bif (bif (bif (A.Kind == 1) then true else (A.Kind == 3)) then true else (A.Kind == 6)) then true else ((A.Row.length:Int) == 0)) else false) then (bif (A.Kind == 4) then true else ((A.Muts.length:Int) == 0)) else false) then (bif (A.Kind == 2) then true else ((A.Columns.length:Int) == 0)) else false)) (.I A.Kind) rfl (fun hv => by (try simp only [o9 hv]);exact ⟨rfl,nle,rfl⟩) ?_
       refine s_g (v:=(bif (bif (bif (bif (bif (bif E then true else (A.Table == [])) then (bif D then true else ((A.Where.length:Int) == 0)) else false) then (bif B then true else (A.Name == [])) else false) then (bif (bif (bif (A.Kind == 1) then true else (A.Kind == 3)) then true else (A.Kind == 6)) then true else ((A.Row.length:Int) == 0)) else false) then (bif (A.Kind == 4) then true else ((A.Muts.length:Int) == 0)) else false) then (bif (A.Kind == 2) then true else ((A.Columns.length:Int) == 0)) else false)) (.bool (A.Kind == 6)) rfl (fun hv => by (try simp only [o9 hv]);exact ⟨rfl,rfl,rfl⟩) ?_;refine s_g (v:=(bif (bif (bif (bif (bif (bif E then true else (A.Table == [])) then (bif D then true else ((A.Where.length:Int) == 0)) else false) then (bif B then true else (A.Name == [])) else false) then (bif (bif (bif (A.Kind == 1) then true else (A.Kind == 3)) then true else (A.Kind == 6)) then true else ((A.Row.length:Int) == 0)) else false) then (bif (A.Kind == 4) then true else ((A.Muts.length:Int) == 0)) else false) then (bif (A.Kind == 2) then true else ((A.Columns.length:Int) == 0)) else false)) (.bool (A.Kind == 6)) rfl (fun hv => by (try simp only [o9 hv]);exact ⟨rfl,tr,rfl⟩) ?_
       refine a7t (v1:=(bif (bif (bif (bif (bif (bif E then true else (A.Table == [])) then (bif D then true else ((A.Where.length:Int) == 0)) else false) then (bif B then true else (A.Name == [])) else false) then (bif (bif (bif (A.Kind == 1) then true else (A.Kind == 3)) then true else (A.Kind == 6)) then true else ((A.Row.length:Int) == 0)) else false) then (bif (A.Kind == 4) then true else ((A.Muts.length:Int) == 0)) else false) then (bif (A.Kind == 2) then true else ((A.Columns.length:Int) == 0)) else false)) (b1:=true) (v2:=(A.Kind == 6)) (.ptr 0 0 7) rfl (fun hv hw => by (try simp only [o9 hv,o9 hw]);exact ⟨rfl,tr,rfl⟩) ?_;refine a7t (v1:=(bif (bif (bif (bif (bif (bif E then true else (A.Table == [])) then (bif D then true else ((A.Where.length:Int) == 0)) else false) then (bif B then true else (A.Name == [])) else false) then (bif (bif (bif (A.Kind == 1) then true else (A.Kind == 3)) then true else (A.Kind == 6)) then true else ((A.Row.length:Int) == 0)) else false) then (bif (A.Kind == 4) then true else ((A.Muts.length:Int) == 0)) else false) then (bif (A.Kind == 2) then true else ((A.Columns.length:Int) == 0)) else false)) (b1:=true) (v2:=(A.Kind == 6)) (.bool A.Until) rfl (fun hv hw => by (try simp only [o9 hv,o9 hw]);exact ⟨rfl,nle,rfl⟩) ?_
       refine a7t (v1:=(bif (bif (bif (bif (bif (bif E then true else (A.Table == [])) then (bif D then true else ((A.Where.length:Int) == 0)) else false) then (bif B then true else (A.Name == [])) else false) then (bif (bif (bif (A.Kind == 1) then true else (A.Kind == 3)) then true else (A.Kind == 6)) then true else ((A.Row.length:Int) == 0)) else false) then (bif (A.Kind == 4) then true else ((A.Muts.length:Int) == 0)) else false) then (bif (A.Kind == 2) then true else ((A.Columns.length:Int) == 0)) else false)) (b1:=true) (v2:=(A.Kind == 6)) (.bool (!A.Until)) rfl (fun hv hw => by (try simp only [o9 hv,o9 hw]);exact ⟨rfl,tr,rfl⟩) ?_
       refine c0q (v1:=(bif (bif (bif (bif (bif (bif E then true else (A.Table == [])) then (bif D then true else ((A.Where.length:Int) == 0)) else false) then (bif B then true else (A.Name == [])) else false) then (bif (bif (bif (A.Kind == 1) then true else (A.Kind == 3)) then true else (A.Kind == 6)) then true else ((A.Row.length:Int) == 0)) else false) then (bif (A.Kind == 4) then true else ((A.Muts.length:Int) == 0)) else false) then (bif (A.Kind == 2) then true else ((A.Columns.length:Int) == 0)) else false)) (b1:=true) (v2:=(A.Kind == 6)) (x:=true) (y:=(!A.Until)) rfl (fun hv => by (try simp only [o9 hv]);rfl) (fun hv hw => by (try simp only [o9 hv,o9 hw]);rfl) (fun hv hw => by (try simp only [o9 hv,o9 hw]);rfl) ?_
       refine a2a (x:=(bif (A.Kind == 6) then true else (!A.Until))) (y:=false) rfl (fun hv => by (try simp only [o9 hv]);rfl) (fun hv => by (try simp only [o9 hv]);rfl) ?_;refine l7 (.bool (bif (bif (bif (bif (bif (bif (bif E then true else (A.Table == [])) then (bif D then true else ((A.Where.length:Int) == 0)) else false) then (bif B then true else (A.Name == [])) else false) then (bif (bif (bif (A.Kind == 1) then true else (A.Kind == 3)) then true else (A.Kind == 6)) then true else ((A.Row.length:Int) == 0)) else false) then (bif (A.Kind == 4) then true else ((A.Muts.length:Int) == 0)) else false) then (bif (A.Kind == 2) then true else ((A.Columns.length:Int) == 0)) else false) then (bif (A.Kind == 6) then true else (!A.Until)) else false)) rfl ?_
       refine dk<|a0b<|?_;obtain rfl:=os hf;exact y7 ⟨tr,tr⟩ rfl .r

/- spec.l04Column -/
def e7l:a0s :=
 (.seq (.reg (tq 2 (.box 4 (.t 0)) (tm 4 (.c (.int .i64 0)) .done)))
 (.seq (.seq (.reg (tm 5 (.c (.int .i64 0)) .done))
 (.block 0 (.loop (.seq (.seq (.reg (tm 6 (.t 5) (tq 7 (.faddr 1 (.t 2)) (tq 8 (.load 1 false (.t 7)) (tq 9 (.len (.t 8)) (tq 10 (.bin .lss (.t 6) (.t 9)) .done))))))
 (.cond (.t 10) .skip
 (.exit 0)))
 (.seq (.block 1 (.seq (.reg (tq 13 (.faddr 1 (.t 2)) (tq 14 (.load 1 false (.t 13)) (tm 15 (.t 5) (tq 16 (.iaddr 8 (.t 14) (.t 15)) (tq 17 (.faddr 0 (.t 16)) (tq 18 (.load 1 false (.t 17)) (tm 19 (.t 1) (tq 20 (.bin .eql (.t 18) (.t 19)) .done)))))))))
 (.cond (.t 20) (.seq (.reg (tm 21 (.t 5) (tm 4 (.t 21) .done)))
 .ret)
 .skip)))
 (.reg (tm 11 (.t 5) (tq 12 (.bin .add (.t 11) (.c (.int .i64 1))) (tm 5 (.t 12) .done)))))))))
 (.cut (.seq (.reg (tq 4 (.mov (.c (.int .i64 (-1)))) .done))
 .ret))))
theorem e7m:a1e Tryz.prog Tryz.f235 = some (e7l.erase,[.mov (.t 4)],22):=by kernel_rfl
def a4s (A:Str):List a0v → Nat → Option (Fl Int Unit)
  | [],D =>
    some (.go ())
  | E :: xs,D =>
    if (E.Name == A) then
    some (.ret (D:Int))
    else
    a4s A xs (D + 1)

def a7j (B:a0q) (A:Str):Option Int :=
    (a4s A B.Columns 0).bind fun q => (match q with
    | .ret r => some r
    | .go _ =>
    some (-1))
theorem b0u (B:a0q) (A:Str) (r:Int) (hf:a7j B A = some r):a0a Tryz.prog 235 .flat [(x9 B),(.str A)] (.I r):=by
 refine a0a.of_awp mixed Tryz.func235 e7m nle ?_;rw [a0n];unfold a7j at hf;unfold e7l;refine (show awp Tryz.prog false 0 _ (ofL [(0,(x9 B)),(1,(.str A))]) [] _ from ?_);refine sr<|x8 (a1j (j:=0) (c:=(.agg [(.str B.Name),(.lst 8 (B.Columns.map o5)),(.lst 1 (B.Unique.map encI)),(.bool B.Root)])) rfl tr rfl rfl)<|l7 (.I 0) rfl<|dk<|o7<|sr<|l7 (.I 0) rfl<|dk<|?_
 obtain ⟨p21,hb1,hf⟩:=ob hf
 refine a2c (X:={q:Unit // p21 = .go q}) (fun q => ([],[])) ?_ ?_
 ·refine a1v (X:={q:Nat // a4s A (B.Columns.drop q) q = some p21}) (fun q => ([(1,(.str A)),(2,(.ptr 0 0 0)),(5,(.I (q.1:Int)))],[.box 4 (.agg [(.str B.Name),(.lst 8 (B.Columns.map o5)),(.lst 1 (B.Unique.map encI)),(.bool B.Root)])])) (fun q => B.Columns.length - q.1) ⟨0,hb1⟩ ⟨[],[0],_,_,rfl,rfl,⟨.r,⟨.r,⟨.r,tr⟩⟩⟩,.r⟩ ?_
  rintro ⟨D,hc1⟩
  have hc1:a4s A (B.Columns.drop D) D = some p21:=hc1
  refine (show awp Tryz.prog false 0 _ (ofL [(1,(.str A)),(2,(.ptr 0 0 0)),(5,(.I (D:Int)))]) [.box 4 (.agg [(.str B.Name),(.lst 8 (B.Columns.map o5)),(.lst 1 (B.Unique.map encI)),(.bool B.Root)])] _ from ?_)
  rcases a6c B.Columns D with ⟨hie24,hd27⟩ | ⟨hlt22,E,hx23,hd27⟩
  ·rw [hd27,a4s.eq_1] at hc1
   have hq26:=dlf hie24
   refine o7<|sr<|l7 (.I (D:Int)) rfl<|o8 (.ptr 0 0 1) rfl tr rfl<|o8 (.lst 8 (B.Columns.map o5)) rfl nle rfl<|a1i (a1p (enc:=o5) rfl) fun hl29 => o8 (.bool (decide ((D:Int) < (B.Columns.length:Int)))) rfl rfl rfl<|dk<|y9 rfl hq26<|a3i<|a3h<|a2e<|a3g<|?_;obtain rfl:=os hc1;exact a4b ⟨_,rfl⟩ ⟨[],[],_,_,rfl,rfl,tr,.r⟩
  ·rw [hd27,a4s.eq_2] at hc1
   have hq26:=dlt hlt22
   refine o7<|sr<|l7 (.I (D:Int)) rfl<|o8 (.ptr 0 0 1) rfl tr rfl<|o8 (.lst 8 (B.Columns.map o5)) rfl nle rfl<|a1i (a1p (enc:=o5) rfl) fun hl30 => o8 (.bool (decide ((D:Int) < (B.Columns.length:Int)))) rfl rfl rfl<|dk<|y8 rfl hq26<|a0k<|a0m<|o7<|a3y<|sr<|o8 (.ptr 0 0 1) rfl tr rfl<|o8 (.lst 8 (B.Columns.map o5)) rfl nle rfl<|l7 (.I (D:Int)) rfl<|x8 (a1o (enc:=o5) rfl rfl hx23)<|o8 (.iptr (o5 E) 0) rfl tr rfl<|o8 (.str E.Name) rfl nle rfl<|l7 (.str A) rfl<|o8 (.bool (E.Name == A)) rfl tr rfl<|?_
   refine dk<|?_
   rcases oi hc1 with ⟨c31,hc1⟩ | ⟨c31,hc1⟩
   ·refine y8 rfl c31<|sr<|l7 (.I (D:Int)) rfl<|l7 (.I (D:Int)) rfl<|dk<|a0b<|?_;obtain rfl:=os hc1;obtain rfl:=os hf;exact y7 ⟨tr,tr⟩ rfl .r
   ·refine y9 rfl (bf c31)<|a0k<|a2y<|a0m<|a0r<|l7 (.I (D:Int)) rfl<|o8 (.I (w64 ((D:Int) + 1))) rfl rfl rfl<|l7 (.I (w64 ((D:Int) + 1))) rfl<|y5<|?_;exact a1z ⟨(D + 1),hc1⟩ (mul hlt22) ⟨[],[0],_,_,rfl,rfl,⟨.r,⟨.r,⟨.of_eq (congrArg (AV.int _) (a1x hlt22 hl30)),tr⟩⟩⟩,.r⟩
 ·rintro ⟨_,rfl⟩
  refine sr<|l7 (.I (-1)) rfl<|dk<|a0b<|?_;obtain rfl:=os hf;exact y7 ⟨tr,tr⟩ rfl .r

/- spec.l06Code -/
def d5l:a0s :=
 (.seq (.reg (tq 2 (.box 4 (.t 0)) (tq 3 (.box 3 (.t 1)) (tm 4 (.c (.int .i64 0)) .done))))
 (.seq (.reg (tm 5 (.c (.int .i64 4)) .done))
 (.seq (.reg (tq 7 (.load 4 true (.t 2)) (tq 8 (.faddr 0 (.t 3)) (tq 9 (.load 1 false (.t 8)) (tq 10 (.call 235 [(.t 7),(.t 9)]) (tm 6 (.t 10) .done))))))
 (.seq (.seq (.reg (tm 11 (.t 6) (tq 12 (.bin .geq (.t 11) (.c (.int .i64 0))) .done)))
 (.cond (.t 12) (.reg (tq 13 (.faddr 1 (.t 2)) (tq 14 (.load 1 false (.t 13)) (tm 15 (.t 6) (tq 16 (.iaddr 8 (.t 14) (.t 15)) (tq 17 (.faddr 1 (.t 16)) (tq 18 (.load 1 false (.t 17)) (tm 5 (.t 18) .done))))))))
 (.seq (.reg (tq 19 (.faddr 0 (.t 3)) (tq 20 (.load 1 false (.t 19)) (tq 21 (.bin .neq (.t 20) (.c (.str [95,117,117,105,100]))) .done))))
 (.cond (.t 21) (.seq (.reg (tm 4 (.c (.int .i64 11)) .done))
 .ret)
 .skip))))
 (.cut (.seq (.seq (.reg (tq 22 (.faddr 2 (.t 3)) (tq 23 (.load 1 false (.t 22)) (tq 24 (.len (.t 23)) (tq 25 (.bin .gtr (.t 24) (.c (.int .i64 0))) (tm 26 (.t 25) (tg 27 26 true (.faddr 2 (.t 3)) (tg 28 26 true (.load 1 false (.t 27)) (tg 29 26 true (.iaddr 3 (.t 28) (.c (.int .i64 0))) (tg 30 26 true (.faddr 0 (.t 29)) (tg 31 26 true (.load 1 false (.t 30)) (tg 32 26 true (.mov (.t 5)) (tg 33 26 true (.bin .neq (.t 31) (.t 32)) (tq 34 (.pick (.t 26) (.t 33) (.c (.bool false))) .done))))))))))))))
 (.cut (.cond (.t 34) (.seq (.reg (tm 4 (.c (.int .i64 9)) .done))
 .ret)
 .skip)))
 (.seq (.seq (.reg (tq 35 (.faddr 1 (.t 3)) (tq 36 (.load 1 false (.t 35)) (tq 37 (.call 158 [(.t 36),(.c (.int .i64 3)),(.c (.int .i64 6))]) (tm 38 (.t 37) (tg 39 38 true (.mov (.t 5)) (tg 40 38 true (.bin .neq (.t 39) (.c (.int .i64 1))) (tg 41 38 true (.mov (.t 40)) (tg 42 41 false (.faddr 1 (.t 2)) (tg 43 41 false (.load 1 false (.t 42)) (tg 44 41 false (.mov (.t 6)) (tg 45 41 false (.iaddr 8 (.t 43) (.t 44)) (tg 46 41 false (.faddr 3 (.t 45)) (tg 47 41 false (.load 1 false (.t 46)) (tg 48 41 false (.bin .neq (.t 47) (.c (.int .i64 1))) (tg 49 38 true (.pick (.t 41) (.c (.bool true)) (.t 48)) (tg 50 38 true (.mov (.t 49)) (tg 51 50 false (.faddr 2 (.t 3)) (tg 52 50 false (.load 1 false (.t 51)) (tg 53 50 false (.len (.t 52)) (tg 54 50 false (.bin .neq (.t 53) (.c (.int .i64 1))) (tg 55 38 true (.pick (.t 50) (.c (.bool true)) (.t 54)) (tq 56 (.pick (.t 38) (.t 55) (.c (.bool false))) .done)))))))))))))))))))))))
 (.cut (.cond (.t 56) (.seq (.reg (tm 4 (.c (.int .i64 9)) .done))
 .ret)
 .skip)))
 (.seq (.reg (tm 4 (.c (.int .i64 0)) .done))
 .ret))))))))
theorem e7n:a1e Tryz.prog Tryz.f345 = some (d5l.erase,[.mov (.t 4)],57):=by kernel_rfl
def b2x (B:a0q) (A:a2v):Option Int :=
    (a7j B A.Column).bind fun E =>
    ((if (decide (E ≥ 0)) then
    (idx B.Columns E).bind fun H =>
    some (.go H.Kind)
    else
    if (!(A.Column == [95,117,117,105,100])) then
    some (.ret 11)
    else
    some (.go 4):Option (Fl Int Int))).bind fun q => (match q with
    | .ret r => some r
    | .go D =>
    ((if (decide ((A.Value.length:Int) > 0)) then
    (idx A.Value 0).bind fun G =>
    some (G.Kind != D)
    else
    some false:Option Bool)).bind fun J =>
    if J then
    some 9
    else
    (((a3f A.Func 3 6).bind fun L =>
    if L then
    if (D != 1) then
    some true
    else
    (idx B.Columns E).bind fun F =>
    if (F.Max != 1) then
    some true
    else
    some ((A.Value.length:Int) != 1)
    else
    some false:Option Bool)).bind fun K =>
    if K then
    some 9
    else
    some 0)
theorem c5j (B:a0q) (A:a2v) (r:Int) (hf:b2x B A = some r):a0a Tryz.prog 345 .flat [(x9 B),(a0d A)] (.I r):=by
 refine a0a.of_awp mixed Tryz.func345 e7n nle ?_;rw [a0n];unfold b2x at hf;unfold d5l;refine (show awp Tryz.prog false 0 _ (ofL [(0,(x9 B)),(1,(a0d A))]) [] _ from ?_);refine sr<|x8 (a1j (j:=0) (c:=(.agg [(.str B.Name),(.lst 8 (B.Columns.map o5)),(.lst 1 (B.Unique.map encI)),(.bool B.Root)])) rfl tr rfl rfl)<|x8 (a1j (j:=1) (c:=(.agg [(.str A.Column),(.I A.Func),(.lst 3 (A.Value.map l9))])) rfl tr rfl rfl)<|l7 (.I 0) rfl<|dk<|sr<|l7 (.I 4) rfl<|dk<|sr<|?_
 obtain ⟨E,er4,hf⟩:=ob hf
 refine o8 (.agg [(.str B.Name),(.lst 8 (B.Columns.map o5)),(.lst 1 (B.Unique.map encI)),(.bool B.Root)]) rfl nle rfl<|o8 (.ptr 1 0 0) rfl tr rfl<|o8 (.str A.Column) rfl nle rfl<|x8 (a0j (b0u _ _ _ er4) rfl .r rfl)<|l7 (.I E) rfl<|dk<|o7<|?_
 obtain ⟨p10,hb1,hf⟩:=ob hf
 refine a2c (X:={q:Int // p10 = .go q}) (fun q => ([(2,(.ptr 0 0 0)),(3,(.ptr 1 0 0)),(5,(.I q.1)),(6,(.I E))],[.box 4 (.agg [(.str B.Name),(.lst 8 (B.Columns.map o5)),(.lst 1 (B.Unique.map encI)),(.bool B.Root)]),.box 3 (.agg [(.str A.Column),(.I A.Func),(.lst 3 (A.Value.map l9))])])) ?_ ?_
 ·refine sr<|l7 (.I E) rfl<|o8 (.bool (decide (E ≥ 0))) rfl rfl rfl<|dk<|?_
  rcases oi hb1 with ⟨c11,hb1⟩ | ⟨c11,hb1⟩
  ·refine y8 rfl c11<|a0r<|?_
   obtain ⟨H,ex13,hb1⟩:=ob hb1
   refine o8 (.ptr 0 0 1) rfl tr rfl<|o8 (.lst 8 (B.Columns.map o5)) rfl nle rfl<|l7 (.I E) rfl<|x8 (a2t (enc:=o5) rfl rfl (a8n ex13) (a8o ex13))<|o8 (.iptr (o5 H) 1) rfl tr rfl<|o8 (.I H.Kind) rfl nle rfl<|l7 (.I H.Kind) rfl<|y5<|?_;obtain rfl:=os hb1;exact a4b ⟨_,rfl⟩ ⟨[],[0,1],_,_,rfl,rfl,⟨.r,⟨.r,⟨.r,⟨.r,tr⟩⟩⟩⟩,.r⟩
  ·refine y9 rfl (bf c11)<|sr<|o8 (.ptr 1 0 0) rfl tr rfl<|o8 (.str A.Column) rfl nle rfl<|o8 (.bool (!(A.Column == [95,117,117,105,100]))) rfl tr rfl<|dk<|?_
   rcases oi hb1 with ⟨c14,hb1⟩ | ⟨c14,hb1⟩
   ·refine y8 rfl c14<|sr<|l7 (.I 11) rfl<|dk<|a0b<|?_;obtain rfl:=os hb1;obtain rfl:=os hf;exact y7 ⟨tr,tr⟩ rfl .r
   ·refine y9 rfl (bf c14)<|a0k<|?_;obtain rfl:=os hb1;exact a4b ⟨_,rfl⟩ ⟨[],[0,1],_,_,rfl,rfl,⟨.r,⟨.r,⟨.r,⟨.r,tr⟩⟩⟩⟩,.r⟩
 ·rintro ⟨D,rfl⟩
  refine o7<|o7<|?_
  obtain ⟨J,hb1,hf⟩:=ob hf
  refine a1k ([(2,(.ptr 0 0 0)),(3,(.ptr 1 0 0)),(5,(.I D)),(6,(.I E)),(34,(.bool J))],[.box 4 (.agg [(.str B.Name),(.lst 8 (B.Columns.map o5)),(.lst 1 (B.Unique.map encI)),(.bool B.Root)]),.box 3 (.agg [(.str A.Column),(.I A.Func),(.lst 3 (A.Value.map l9))])]) ?_ ?_
  ·refine a0r<|o8 (.ptr 1 0 2) rfl tr rfl<|o8 (.lst 3 (A.Value.map l9)) rfl nle rfl<|a1i (a1p (enc:=l9) rfl) fun hl21 => o8 (.bool (decide ((A.Value.length:Int) > 0))) rfl rfl rfl<|l7 (.bool (decide ((A.Value.length:Int) > 0))) rfl<|?_
   rcases oi hb1 with ⟨c22,hb1⟩ | ⟨c22,hb1⟩
   ·refine a0i (s:=26) (b:=true) rfl c22<|s_on rfl<|o8 (.ptr 1 0 2) rfl tr rfl<|s_on rfl<|o8 (.lst 3 (A.Value.map l9)) rfl nle rfl<|s_on rfl<|?_
    obtain ⟨G,ex24,hb1⟩:=ob hb1
    refine x8 (a2t (enc:=l9) rfl rfl (a8n ex24) (a8o ex24))<|s_on rfl<|o8 (.iptr (l9 G) 0) rfl tr rfl<|s_on rfl<|o8 (.I G.Kind) rfl nle rfl<|s_on rfl<|l7 (.I D) rfl<|s_on rfl<|o8 (.bool (G.Kind != D)) rfl rfl rfl<|o8 (.bool (G.Kind != D)) rfl tr rfl<|y5<|?_;obtain rfl:=os hb1;exact ⟨[],[0,1],_,_,rfl,rfl,⟨.r,⟨.r,⟨.r,⟨.r,⟨.r,tr⟩⟩⟩⟩⟩,.r⟩
   ·refine a0i (s:=26) (b:=false) rfl (bf c22)<|o6 rfl rfl<|o6 rfl rfl<|o6 rfl rfl<|o6 rfl rfl<|o6 rfl rfl<|o6 rfl rfl<|o6 rfl rfl<|o8 (.bool false) rfl tr rfl<|y5<|?_;obtain rfl:=os hb1;exact ⟨[],[0,1],_,_,rfl,rfl,⟨.r,⟨.r,⟨.r,⟨.r,⟨.r,tr⟩⟩⟩⟩⟩,.r⟩
  ·rcases oi hf with ⟨c25,hf⟩ | ⟨c25,hf⟩
   ·refine y8 rfl c25<|sr<|l7 (.I 9) rfl<|dk<|a0b<|?_;obtain rfl:=os hf;exact y7 ⟨tr,tr⟩ rfl .r
   ·refine y9 rfl (bf c25)<|a0k<|a0m<|o7<|o7<|?_
    obtain ⟨K,hb1,hf⟩:=ob hf
    refine a1k ([(56,(.bool K))],[]) ?_ ?_
    ·refine a0r<|o8 (.ptr 1 0 1) rfl tr rfl<|o8 (.I A.Func) rfl nle rfl<|?_
     obtain ⟨L,er38,hb1⟩:=ob hb1
     refine x8 (a0j (a2f _ _ _ _ er38) rfl .r rfl)<|l7 (.bool L) rfl<|?_
     rcases oi hb1 with ⟨c39,hb1⟩ | ⟨c39,hb1⟩
     ·refine a0i (s:=38) (b:=true) rfl c39<|s_on rfl<|l7 (.I D) rfl<|s_on rfl<|o8 (.bool (D != 1)) rfl rfl rfl<|s_on rfl<|l7 (.bool (D != 1)) rfl<|?_
      rcases oi hb1 with ⟨c40,hb1⟩ | ⟨c40,hb1⟩
      ·refine a0i (s:=41) (b:=true) rfl c40<|o6 rfl rfl<|o6 rfl rfl<|o6 rfl rfl<|o6 rfl rfl<|o6 rfl rfl<|o6 rfl rfl<|o6 rfl rfl<|s_on rfl<|o8 (.bool true) rfl tr rfl<|s_on rfl<|l7 (.bool true) rfl<|o6 rfl rfl<|o6 rfl rfl<|o6 rfl rfl<|o6 rfl rfl<|s_on rfl<|o8 (.bool true) rfl tr rfl<|o8 (.bool true) rfl tr rfl<|y5<|?_;obtain rfl:=os hb1;exact ⟨[],[],_,_,rfl,rfl,⟨.r,tr⟩,.r⟩
      ·refine a0i (s:=41) (b:=false) rfl (bf c40)<|s_on rfl<|o8 (.ptr 0 0 1) rfl tr rfl<|s_on rfl<|o8 (.lst 8 (B.Columns.map o5)) rfl nle rfl<|s_on rfl<|l7 (.I E) rfl<|s_on rfl<|?_
       obtain ⟨F,ex42,hb1⟩:=ob hb1
       refine x8 (a2t (enc:=o5) rfl rfl (a8n ex42) (a8o ex42))<|s_on rfl<|o8 (.iptr (o5 F) 3) rfl tr rfl<|s_on rfl<|o8 (.I F.Max) rfl nle rfl<|s_on rfl<|o8 (.bool (F.Max != 1)) rfl rfl rfl<|s_on rfl<|o8 (.bool (F.Max != 1)) rfl tr rfl<|s_on rfl<|l7 (.bool (F.Max != 1)) rfl<|?_
       rcases oi hb1 with ⟨c44,hb1⟩ | ⟨c44,hb1⟩
       ·refine a0i (s:=50) (b:=true) rfl c44<|o6 rfl rfl<|o6 rfl rfl<|o6 rfl rfl<|o6 rfl rfl<|s_on rfl<|o8 (.bool true) rfl tr rfl<|o8 (.bool true) rfl tr rfl<|y5<|?_;obtain rfl:=os hb1;exact ⟨[],[],_,_,rfl,rfl,⟨.r,tr⟩,.r⟩
       ·refine a0i (s:=50) (b:=false) rfl (bf c44)<|s_on rfl<|o8 (.ptr 1 0 2) rfl tr rfl<|s_on rfl<|o8 (.lst 3 (A.Value.map l9)) rfl nle rfl<|s_on rfl<|a1i (a1p (enc:=l9) rfl) fun hl45 => s_on rfl<|o8 (.bool ((A.Value.length:Int) != 1)) rfl rfl rfl<|s_on rfl<|o8 (.bool ((A.Value.length:Int) != 1)) rfl tr rfl<|o8 (.bool ((A.Value.length:Int) != 1)) rfl tr rfl<|y5<|?_;obtain rfl:=os hb1;exact ⟨[],[],_,_,rfl,rfl,⟨.r,tr⟩,.r⟩
     ·refine a0i (s:=38) (b:=false) rfl (bf c39)<|o6 rfl rfl<|o6 rfl rfl<|o6 rfl rfl<|a0x rfl<|a0x rfl<|a0x rfl<|a0x rfl<|a0x rfl<|a0x rfl<|a0x rfl<|o6 rfl rfl<|o6 rfl rfl<|a0x rfl<|a0x rfl<|a0x rfl<|a0x rfl<|o6 rfl rfl<|o8 (.bool false) rfl tr rfl<|y5<|?_;obtain rfl:=os hb1;exact ⟨[],[],_,_,rfl,rfl,⟨.r,tr⟩,.r⟩
    ·rcases oi hf with ⟨c46,hf⟩ | ⟨c46,hf⟩
     ·refine y8 rfl c46<|sr<|l7 (.I 9) rfl<|dk<|a0b<|?_;obtain rfl:=os hf;exact y7 ⟨tr,tr⟩ rfl .r
     ·refine y9 rfl (bf c46)<|a0k<|a0m<|sr<|l7 (.I 0) rfl<|dk<|a0b<|?_;obtain rfl:=os hf;exact y7 ⟨tr,tr⟩ rfl .r

/- spec.l06Conds -/
def c236:a0s :=
 (.seq (.reg (tq 2 (.box 4 (.t 0)) (tm 4 (.c (.int .i64 0)) .done)))
 (.seq (.seq (.reg (tm 5 (.c (.int .i64 0)) .done))
 (.block 0 (.loop (.seq (.seq (.reg (tm 7 (.t 5) (tm 8 (.t 1) (tq 9 (.len (.t 8)) (tq 10 (.bin .lss (.t 7) (.t 9)) .done)))))
 (.cond (.t 10) .skip
 (.exit 0)))
 (.seq (.block 1 (.seq (.reg (tq 13 (.load 4 true (.t 2)) (tm 14 (.t 1) (tm 15 (.t 5) (tq 16 (.iaddr 3 (.t 14) (.t 15)) (tq 17 (.load 3 true (.t 16)) (.l ⟨(some 18),none,.call 345 [(.t 13),(.t 17)]⟩ []
 (tm 6 (.t 18) .done) .non)))))))
 (.seq (.reg (tm 19 (.t 6) (tq 20 (.bin .neq (.t 19) (.c (.int .i64 0))) .done)))
 (.cond (.t 20) (.seq (.reg (tm 21 (.t 6) (tm 4 (.t 21) .done)))
 .ret)
 .skip))))
 (.reg (tm 11 (.t 5) (tq 12 (.bin .add (.t 11) (.c (.int .i64 1))) (tm 5 (.t 12) .done)))))))))
 (.cut (.seq (.reg (tm 4 (.c (.int .i64 0)) .done))
 .ret))))
theorem e7o:a1e Tryz.prog Tryz.f236 = some (c236.erase,[.mov (.t 4)],22):=by kernel_rfl
def a5g (B:a0q):List a2v → Option (Fl Int Unit)
  | [] =>
    some (.go ())
  | F :: xs =>
    (b2x B F).bind fun E =>
    if (E != 0) then
    some (.ret E)
    else
    a5g B xs 

def b1o (B:a0q) (A:(List a2v)):Option Int :=
    (a5g B A ).bind fun q => (match q with
    | .ret r => some r
    | .go _ =>
    some 0)
theorem c3g (B:a0q) (A:(List a2v)) (r:Int) (hf:b1o B A = some r):a0a Tryz.prog 236 .flat [(x9 B),(.lst 3 (A.map a0d))] (.I r):=by
 refine a0a.of_awp mixed Tryz.func236 e7o nle ?_;rw [a0n];unfold b1o at hf;unfold c236;refine (show awp Tryz.prog false 0 _ (ofL [(0,(x9 B)),(1,(.lst 3 (A.map a0d)))]) [] _ from ?_);refine sr<|x8 (a1j (j:=0) (c:=(.agg [(.str B.Name),(.lst 8 (B.Columns.map o5)),(.lst 1 (B.Unique.map encI)),(.bool B.Root)])) rfl tr rfl rfl)<|l7 (.I 0) rfl<|dk<|o7<|sr<|l7 (.I 0) rfl<|dk<|?_
 obtain ⟨p27,hb1,hf⟩:=ob hf
 refine a2c (X:={q:Unit // p27 = .go q}) (fun q => ([],[])) ?_ ?_
 ·refine a1v (X:={q:Nat // a5g B (A.drop q)  = some p27}) (fun q => ([(1,(.lst 3 (A.map a0d))),(2,(.ptr 0 0 0)),(5,(.I (q.1:Int)))],[.box 4 (.agg [(.str B.Name),(.lst 8 (B.Columns.map o5)),(.lst 1 (B.Unique.map encI)),(.bool B.Root)])])) (fun q => A.length - q.1) ⟨0,hb1⟩ ⟨[],[0],_,_,rfl,rfl,⟨.r,⟨.r,⟨.r,tr⟩⟩⟩,.r⟩ ?_
  rintro ⟨D,hc1⟩
  have hc1:a5g B (A.drop D)  = some p27:=hc1
  refine (show awp Tryz.prog false 0 _ (ofL [(1,(.lst 3 (A.map a0d))),(2,(.ptr 0 0 0)),(5,(.I (D:Int)))]) [.box 4 (.agg [(.str B.Name),(.lst 8 (B.Columns.map o5)),(.lst 1 (B.Unique.map encI)),(.bool B.Root)])] _ from ?_)
  rcases a6c A D with ⟨hie30,hd33⟩ | ⟨hlt28,F,hx29,hd33⟩
  ·rw [hd33,a5g.eq_1] at hc1
   have hq32:=dlf hie30
   refine o7<|sr<|l7 (.I (D:Int)) rfl<|l7 (.lst 3 (A.map a0d)) rfl<|a1i (a1p (enc:=a0d) rfl) fun hl35 => o8 (.bool (decide ((D:Int) < (A.length:Int)))) rfl rfl rfl<|dk<|y9 rfl hq32<|a3i<|a3h<|a2e<|a3g<|?_;obtain rfl:=os hc1;exact a4b ⟨_,rfl⟩ ⟨[],[],_,_,rfl,rfl,tr,.r⟩
  ·rw [hd33,a5g.eq_2] at hc1
   have hq32:=dlt hlt28
   refine o7<|sr<|l7 (.I (D:Int)) rfl<|l7 (.lst 3 (A.map a0d)) rfl<|a1i (a1p (enc:=a0d) rfl) fun hl36 => o8 (.bool (decide ((D:Int) < (A.length:Int)))) rfl rfl rfl<|dk<|y8 rfl hq32<|a0k<|a0m<|o7<|a3y<|sr<|?_
   obtain ⟨E,er38,hc1⟩:=ob hc1
   refine o8 (.agg [(.str B.Name),(.lst 8 (B.Columns.map o5)),(.lst 1 (B.Unique.map encI)),(.bool B.Root)]) rfl nle rfl<|l7 (.lst 3 (A.map a0d)) rfl<|l7 (.I (D:Int)) rfl<|x8 (a1o (enc:=a0d) rfl rfl hx29)<|o8 (a0d F) rfl nle rfl<|a1a (a0j (c5j _ _ _ er38) rfl .r rfl) a7h tr<|l7 (.I E) rfl<|dk<|sr<|l7 (.I E) rfl<|o8 (.bool (E != 0)) rfl rfl rfl<|dk<|?_
   rcases oi hc1 with ⟨c39,hc1⟩ | ⟨c39,hc1⟩
   ·refine y8 rfl c39<|sr<|l7 (.I E) rfl<|l7 (.I E) rfl<|dk<|a0b<|?_;obtain rfl:=os hc1;obtain rfl:=os hf;exact y7 ⟨tr,tr⟩ rfl .r
   ·refine y9 rfl (bf c39)<|a0k<|a2y<|a0m<|a0r<|l7 (.I (D:Int)) rfl<|o8 (.I (w64 ((D:Int) + 1))) rfl rfl rfl<|l7 (.I (w64 ((D:Int) + 1))) rfl<|y5<|?_;exact a1z ⟨(D + 1),hc1⟩ (mul hlt28) ⟨[],[0],_,_,rfl,rfl,⟨.r,⟨.r,⟨.of_eq (congrArg (AV.int _) (a1x hlt28 hl36)),tr⟩⟩⟩,.r⟩
 ·rintro ⟨_,rfl⟩
  refine sr<|l7 (.I 0) rfl<|dk<|a0b<|?_;obtain rfl:=os hf;exact y7 ⟨tr,tr⟩ rfl .r

/- spec.l08Sets -/
def e7p:a0s :=
 (.seq (.reg (tq 2 (.box 4 (.t 0)) (tm 4 (.c (.int .i64 0)) .done)))
 (.seq (.seq (.reg (tm 5 (.c (.int .i64 0)) .done))
 (.block 0 (.loop (.seq (.seq (.reg (tm 9 (.t 5) (tm 10 (.t 1) (tq 11 (.len (.t 10)) (tq 12 (.bin .lss (.t 9) (.t 11)) .done)))))
 (.cond (.t 12) .skip
 (.exit 0)))
 (.seq (.block 1 (.seq (.reg (tq 15 (.load 4 true (.t 2)) (tm 16 (.t 1) (tm 17 (.t 5) (tq 18 (.iaddr 3 (.t 16) (.t 17)) (tq 19 (.faddr 0 (.t 18)) (tq 20 (.load 1 false (.t 19)) (.l ⟨(some 21),none,.call 235 [(.t 15),(.t 20)]⟩ []
 (tm 6 (.t 21) .done) .non))))))))
 (.seq (.seq (.reg (tm 22 (.t 6) (tq 23 (.bin .lss (.t 22) (.c (.int .i64 0))) .done)))
 (.cond (.t 23) (.seq (.reg (tm 4 (.c (.int .i64 11)) .done))
 .ret)
 .skip))
 (.seq (.seq (.reg (tm 7 (.c (.int .i64 0)) .done))
 (.block 2 (.loop (.seq (.seq (.reg (tm 24 (.t 7) (tm 25 (.t 5) (tq 26 (.bin .lss (.t 24) (.t 25)) .done))))
 (.cond (.t 26) .skip
 (.exit 2)))
 (.seq (.block 3 (.seq (.reg (tm 29 (.t 1) (tm 30 (.t 7) (tq 31 (.iaddr 3 (.t 29) (.t 30)) (tq 32 (.faddr 0 (.t 31)) (tq 33 (.load 1 false (.t 32)) (tm 34 (.t 1) (tm 35 (.t 5) (tq 36 (.iaddr 3 (.t 34) (.t 35)) (tq 37 (.faddr 0 (.t 36)) (tq 38 (.load 1 false (.t 37)) (tq 39 (.bin .eql (.t 33) (.t 38)) .done))))))))))))
 (.cond (.t 39) (.seq (.reg (tm 4 (.c (.int .i64 8)) .done))
 .ret)
 .skip)))
 (.reg (tm 27 (.t 7) (tq 28 (.bin .add (.t 27) (.c (.int .i64 1))) (tm 7 (.t 28) .done)))))))))
 (.cut (.seq (.reg (tq 40 (.faddr 1 (.t 2)) (tq 41 (.load 1 false (.t 40)) (tm 42 (.t 6) (tq 43 (.iaddr 8 (.t 41) (.t 42)) (tq 44 (.faddr 1 (.t 43)) (tq 45 (.load 1 false (.t 44)) (tm 8 (.t 45) .done))))))))
 (.seq (.reg (tm 46 (.t 1) (tm 47 (.t 5) (tq 48 (.iaddr 3 (.t 46) (.t 47)) (tq 49 (.faddr 1 (.t 48)) (tq 50 (.load 1 false (.t 49)) (tq 51 (.len (.t 50)) (tq 52 (.bin .gtr (.t 51) (.c (.int .i64 0))) (tm 53 (.t 52) (tg 54 53 true (.mov (.t 1)) (tg 55 53 true (.mov (.t 5)) (tg 56 53 true (.iaddr 3 (.t 54) (.t 55)) (tg 57 53 true (.faddr 1 (.t 56)) (tg 58 53 true (.load 1 false (.t 57)) (tg 59 53 true (.iaddr 3 (.t 58) (.c (.int .i64 0))) (tg 60 53 true (.faddr 0 (.t 59)) (tg 61 53 true (.load 1 false (.t 60)) (tg 62 53 true (.mov (.t 8)) (tg 63 53 true (.bin .neq (.t 61) (.t 62)) (tq 64 (.pick (.t 53) (.t 63) (.c (.bool false))) (tm 65 (.t 64) (tg 66 65 false (.mov (.t 1)) (tg 67 65 false (.mov (.t 5)) (tg 68 65 false (.iaddr 3 (.t 66) (.t 67)) (tg 69 65 false (.faddr 2 (.t 68)) (tg 70 65 false (.load 1 false (.t 69)) (tg 71 65 false (.len (.t 70)) (tg 72 65 false (.bin .gtr (.t 71) (.c (.int .i64 0))) (tg 73 65 false (.mov (.t 72)) (tg 74 73 true (.mov (.t 8)) (tg 75 73 true (.bin .neq (.t 74) (.c (.int .i64 4))) (tg 76 65 false (.pick (.t 73) (.t 75) (.c (.bool false))) (tq 77 (.pick (.t 65) (.c (.bool true)) (.t 76)) .done)))))))))))))))))))))))))))))))))
 (.cut (.cond (.t 77) (.seq (.reg (tm 4 (.c (.int .i64 9)) .done))
 .ret)
 .skip)))))))))
 (.reg (tm 13 (.t 5) (tq 14 (.bin .add (.t 13) (.c (.int .i64 1))) (tm 5 (.t 14) .done)))))))))
 (.cut (.seq (.reg (tm 4 (.c (.int .i64 0)) .done))
 .ret))))
theorem e7q:a1e Tryz.prog Tryz.f237 = some (e7p.erase,[.mov (.t 4)],78):=by kernel_rfl
def a4w (B:Nat) (A:(List a3l)) (D:a3l):Nat → Int → Option (Fl Int Unit)
  | 0,_ => none
  | k + 1,G =>
    if (decide (G < (B:Int))) then
    (idx A G).bind fun K =>
    if (K.Column == D.Column) then
    some (.ret 8)
    else
    a4w B A D k (w64 (G + 1))
    else
    some (.go ())

def a6a (E:a0q) (A:(List a3l)):List a3l → Nat → Option (Fl Int Unit)
  | [],B =>
    some (.go ())
  | D :: xs,B =>
    (a7j E D.Column).bind fun H =>
    if (decide (H < 0)) then
    some (.ret 11)
    else
    (a4w B A D FUEL 0).bind fun q => (match q with
    | .ret r => some (.ret r)
    | .go _ =>
    (idx E.Columns H).bind fun F =>
    ((if (decide ((D.Value.length:Int) > 0)) then
    (idx D.Value 0).bind fun J =>
    if (J.Kind != F.Kind) then
    some true
    else
    if (decide ((D.Names.length:Int) > 0)) then
    some (F.Kind != 4)
    else
    some false
    else
    if (decide ((D.Names.length:Int) > 0)) then
    some (F.Kind != 4)
    else
    some false:Option Bool)).bind fun L =>
    if L then
    some (.ret 9)
    else
    a6a E A xs (B + 1))

def b2y (E:a0q) (A:(List a3l)):Option Int :=
    (a6a E A A 0).bind fun q => (match q with
    | .ret r => some r
    | .go _ =>
    some 0)
theorem c5k (E:a0q) (A:(List a3l)) (r:Int) (hf:b2y E A = some r):a0a Tryz.prog 237 .flat [(x9 E),(.lst 3 (A.map a0f))] (.I r):=by
 refine a0a.of_awp mixed Tryz.func237 e7q nle ?_;rw [a0n];unfold b2y at hf;unfold e7p;refine (show awp Tryz.prog false 0 _ (ofL [(0,(x9 E)),(1,(.lst 3 (A.map a0f)))]) [] _ from ?_);refine sr<|x8 (a1j (j:=0) (c:=(.agg [(.str E.Name),(.lst 8 (E.Columns.map o5)),(.lst 1 (E.Unique.map encI)),(.bool E.Root)])) rfl tr rfl rfl)<|l7 (.I 0) rfl<|dk<|o7<|sr<|l7 (.I 0) rfl<|dk<|?_
 obtain ⟨p285,hb1,hf⟩:=ob hf
 refine a2c (X:={q:Unit // p285 = .go q}) (fun q => ([],[])) ?_ ?_
 ·refine a1v (X:={q:Nat // a6a E A (A.drop q) q = some p285}) (fun q => ([(1,(.lst 3 (A.map a0f))),(2,(.ptr 0 0 0)),(5,(.I (q.1:Int)))],[.box 4 (.agg [(.str E.Name),(.lst 8 (E.Columns.map o5)),(.lst 1 (E.Unique.map encI)),(.bool E.Root)])])) (fun q => A.length - q.1) ⟨0,hb1⟩ ⟨[],[0],_,_,rfl,rfl,⟨.r,⟨.r,⟨.r,tr⟩⟩⟩,.r⟩ ?_
  rintro ⟨B,hc1⟩
  have hc1:a6a E A (A.drop B) B = some p285:=hc1
  refine (show awp Tryz.prog false 0 _ (ofL [(1,(.lst 3 (A.map a0f))),(2,(.ptr 0 0 0)),(5,(.I (B:Int)))]) [.box 4 (.agg [(.str E.Name),(.lst 8 (E.Columns.map o5)),(.lst 1 (E.Unique.map encI)),(.bool E.Root)])] _ from ?_)
  rcases a6c A B with ⟨hie288,hd291⟩ | ⟨hlt286,D,hx287,hd291⟩
  ·rw [hd291,a6a.eq_1] at hc1
   have hq290:=dlf hie288
   refine o7<|sr<|l7 (.I (B:Int)) rfl<|l7 (.lst 3 (A.map a0f)) rfl<|a1i (a1p (enc:=a0f) rfl) fun hl293 => o8 (.bool (decide ((B:Int) < (A.length:Int)))) rfl rfl rfl<|dk<|y9 rfl hq290<|a3i<|a3h<|a2e<|a3g<|?_;obtain rfl:=os hc1;exact a4b ⟨_,rfl⟩ ⟨[],[],_,_,rfl,rfl,tr,.r⟩
  ·rw [hd291,a6a.eq_2] at hc1
   have hq290:=dlt hlt286
   refine o7<|sr<|l7 (.I (B:Int)) rfl<|l7 (.lst 3 (A.map a0f)) rfl<|a1i (a1p (enc:=a0f) rfl) fun hl294 => o8 (.bool (decide ((B:Int) < (A.length:Int)))) rfl rfl rfl<|dk<|y8 rfl hq290<|a0k<|a0m<|o7<|a3y<|sr<|?_
   obtain ⟨H,er296,hc1⟩:=ob hc1
   refine o8 (.agg [(.str E.Name),(.lst 8 (E.Columns.map o5)),(.lst 1 (E.Unique.map encI)),(.bool E.Root)]) rfl nle rfl<|l7 (.lst 3 (A.map a0f)) rfl<|l7 (.I (B:Int)) rfl<|x8 (a1o (enc:=a0f) rfl rfl hx287)<|o8 (.iptr (a0f D) 0) rfl tr rfl<|o8 (.str D.Column) rfl nle rfl<|a1a (a0j (b0u _ _ _ er296) rfl .r rfl) a7h tr<|l7 (.I H) rfl<|dk<|o7<|sr<|l7 (.I H) rfl<|o8 (.bool (decide (H < 0))) rfl rfl rfl<|dk<|?_
   rcases oi hc1 with ⟨c297,hc1⟩ | ⟨c297,hc1⟩
   ·refine y8 rfl c297<|sr<|l7 (.I 11) rfl<|dk<|a0b<|?_;obtain rfl:=os hc1;obtain rfl:=os hf;exact y7 ⟨tr,tr⟩ rfl .r
   ·refine y9 rfl (bf c297)<|a0k<|a0m<|o7<|sr<|l7 (.I 0) rfl<|dk<|?_
    obtain ⟨p326,hb2,hc1⟩:=ob hc1
    refine a2c (X:={q:Unit // p326 = .go q}) (fun q => ([(1,(.lst 3 (A.map a0f))),(2,(.ptr 0 0 0)),(5,(.I (B:Int))),(6,(.I H))],[.box 4 (.agg [(.str E.Name),(.lst 8 (E.Columns.map o5)),(.lst 1 (E.Unique.map encI)),(.bool E.Root)])])) ?_ ?_
    ·refine a1v (X:={q:(Nat × Int) // a4w B A D q.1 q.2 = some p326}) (fun q => ([(1,(.lst 3 (A.map a0f))),(2,(.ptr 0 0 0)),(5,(.I (B:Int))),(6,(.I H)),(7,(.I q.1.2))],[.box 4 (.agg [(.str E.Name),(.lst 8 (E.Columns.map o5)),(.lst 1 (E.Unique.map encI)),(.bool E.Root)])])) (fun q => q.1.1) ⟨(FUEL,0),hb2⟩ ⟨[],[0],_,_,rfl,rfl,⟨.r,⟨.r,⟨.r,⟨.r,⟨.r,tr⟩⟩⟩⟩⟩,.r⟩ ?_
     rintro ⟨⟨k,G⟩,hc2⟩
     have hc2:a4w B A D k G = some p326:=hc2
     refine (show awp Tryz.prog false 0 _ (ofL [(1,(.lst 3 (A.map a0f))),(2,(.ptr 0 0 0)),(5,(.I (B:Int))),(6,(.I H)),(7,(.I G))]) [.box 4 (.agg [(.str E.Name),(.lst 8 (E.Columns.map o5)),(.lst 1 (E.Unique.map encI)),(.bool E.Root)])] _ from ?_)
     rcases k with _ | k
     ·rw [a4w.eq_1] at hc2
      cases hc2
     ·rw [a4w.eq_2] at hc2;refine o7<|sr<|l7 (.I G) rfl<|l7 (.I (B:Int)) rfl<|o8 (.bool (decide (G < (B:Int)))) rfl rfl rfl<|dk<|?_
      rcases oi hc2 with ⟨d4x,hc2⟩ | ⟨d4x,hc2⟩
      ·refine y8 rfl d4x<|a0k<|a0m<|o7<|a3y<|sr<|?_
       obtain ⟨K,ex329,hc2⟩:=ob hc2
       refine l7 (.lst 3 (A.map a0f)) rfl<|l7 (.I G) rfl<|x8 (a2t (enc:=a0f) rfl rfl (a8n ex329) (a8o ex329))<|o8 (.iptr (a0f K) 0) rfl tr rfl<|o8 (.str K.Column) rfl nle rfl<|l7 (.lst 3 (A.map a0f)) rfl<|l7 (.I (B:Int)) rfl<|x8 (a1o (enc:=a0f) rfl rfl hx287)<|o8 (.iptr (a0f D) 0) rfl tr rfl<|o8 (.str D.Column) rfl nle rfl<|o8 (.bool (K.Column == D.Column)) rfl tr rfl<|dk<|?_
       rcases oi hc2 with ⟨c330,hc2⟩ | ⟨c330,hc2⟩
       ·refine y8 rfl c330<|sr<|l7 (.I 8) rfl<|dk<|a0b<|?_;obtain rfl:=os hc2;obtain rfl:=os hc1;obtain rfl:=os hf;exact y7 ⟨tr,tr⟩ rfl .r
       ·refine y9 rfl (bf c330)<|a0k<|a2y<|a0m<|a0r<|l7 (.I G) rfl<|o8 (.I (w64 (G + 1))) rfl rfl rfl<|l7 (.I (w64 (G + 1))) rfl<|y5<|?_;exact a1z ⟨(k,w64 (G + 1)),hc2⟩ (Nat.lt_succ_self _) ⟨[],[0],_,_,rfl,rfl,⟨.r,⟨.r,⟨.r,⟨.r,⟨.r,tr⟩⟩⟩⟩⟩,.r⟩
      ·refine y9 rfl (bf d4x)<|a3i<|a3h<|a2e<|a3g<|?_;obtain rfl:=os hc2;exact a4b ⟨_,rfl⟩ ⟨[],[0],_,_,rfl,rfl,⟨.r,⟨.r,⟨.r,⟨.r,tr⟩⟩⟩⟩,.r⟩
    ·rintro ⟨_,rfl⟩
     refine sr<|?_
     obtain ⟨F,ex332,hc1⟩:=ob hc1
     refine o8 (.ptr 0 0 1) rfl tr rfl<|o8 (.lst 8 (E.Columns.map o5)) rfl nle rfl<|l7 (.I H) rfl<|x8 (a2t (enc:=o5) rfl rfl (a8n ex332) (a8o ex332))<|o8 (.iptr (o5 F) 1) rfl tr rfl<|o8 (.I F.Kind) rfl nle rfl<|l7 (.I F.Kind) rfl<|dk<|o7<|?_
     obtain ⟨L,hb2,hc1⟩:=ob hc1
     refine a1k ([(1,(.lst 3 (A.map a0f))),(2,(.ptr 0 0 0)),(5,(.I (B:Int))),(77,(.bool L))],[.box 4 (.agg [(.str E.Name),(.lst 8 (E.Columns.map o5)),(.lst 1 (E.Unique.map encI)),(.bool E.Root)])]) ?_ ?_
     ·refine a0r<|l7 (.lst 3 (A.map a0f)) rfl<|l7 (.I (B:Int)) rfl<|x8 (a1o (enc:=a0f) rfl rfl hx287)<|o8 (.iptr (a0f D) 1) rfl tr rfl<|o8 (.lst 3 (D.Value.map l9)) rfl nle rfl<|a1i (a1p (enc:=l9) rfl) fun hl344 => o8 (.bool (decide ((D.Value.length:Int) > 0))) rfl rfl rfl<|l7 (.bool (decide ((D.Value.length:Int) > 0))) rfl<|?_
      rcases oi hb2 with ⟨d5l,hb2⟩ | ⟨d5l,hb2⟩
      ·refine a0i (s:=53) (b:=true) rfl d5l<|s_on rfl<|l7 (.lst 3 (A.map a0f)) rfl<|s_on rfl<|l7 (.I (B:Int)) rfl<|s_on rfl<|x8 (a1o (enc:=a0f) rfl rfl hx287)<|s_on rfl<|o8 (.iptr (a0f D) 1) rfl tr rfl<|s_on rfl<|o8 (.lst 3 (D.Value.map l9)) rfl nle rfl<|s_on rfl<|?_
       obtain ⟨J,ex347,hb2⟩:=ob hb2
       refine x8 (a2t (enc:=l9) rfl rfl (a8n ex347) (a8o ex347))<|s_on rfl<|o8 (.iptr (l9 J) 0) rfl tr rfl<|s_on rfl<|o8 (.I J.Kind) rfl nle rfl<|s_on rfl<|l7 (.I F.Kind) rfl<|s_on rfl<|o8 (.bool (J.Kind != F.Kind)) rfl rfl rfl<|o8 (.bool (J.Kind != F.Kind)) rfl tr rfl<|l7 (.bool (J.Kind != F.Kind)) rfl<|?_
       rcases oi hb2 with ⟨d5g,hb2⟩ | ⟨d5g,hb2⟩
       ·refine a0i (s:=65) (b:=true) rfl d5g<|o6 rfl rfl<|o6 rfl rfl<|o6 rfl rfl<|o6 rfl rfl<|o6 rfl rfl<|o6 rfl rfl<|o6 rfl rfl<|o6 rfl rfl<|a0x rfl<|a0x rfl<|o6 rfl rfl<|o8 (.bool true) rfl tr rfl<|y5<|?_;obtain rfl:=os hb2;exact ⟨[],[0],_,_,rfl,rfl,⟨.r,⟨.r,⟨.r,⟨.r,tr⟩⟩⟩⟩,.r⟩
       ·refine a0i (s:=65) (b:=false) rfl (bf d5g)<|s_on rfl<|l7 (.lst 3 (A.map a0f)) rfl<|s_on rfl<|l7 (.I (B:Int)) rfl<|s_on rfl<|x8 (a1o (enc:=a0f) rfl rfl hx287)<|s_on rfl<|o8 (.iptr (a0f D) 2) rfl tr rfl<|s_on rfl<|o8 (.lst 1 (D.Names.map AV.str)) rfl nle rfl<|s_on rfl<|a1i (a1p (enc:=AV.str) rfl) fun hl349 => s_on rfl<|o8 (.bool (decide ((D.Names.length:Int) > 0))) rfl rfl rfl<|s_on rfl<|l7 (.bool (decide ((D.Names.length:Int) > 0))) rfl<|?_
        rcases oi hb2 with ⟨d5m,hb2⟩ | ⟨d5m,hb2⟩
        ·refine a0i (s:=73) (b:=true) rfl d5m<|s_on rfl<|l7 (.I F.Kind) rfl<|s_on rfl<|o8 (.bool (F.Kind != 4)) rfl rfl rfl<|s_on rfl<|o8 (.bool (F.Kind != 4)) rfl tr rfl<|o8 (.bool (F.Kind != 4)) rfl tr rfl<|y5<|?_;obtain rfl:=os hb2;exact ⟨[],[0],_,_,rfl,rfl,⟨.r,⟨.r,⟨.r,⟨.r,tr⟩⟩⟩⟩,.r⟩
        ·refine a0i (s:=73) (b:=false) rfl (bf d5m)<|o6 rfl rfl<|o6 rfl rfl<|s_on rfl<|o8 (.bool false) rfl tr rfl<|o8 (.bool false) rfl tr rfl<|y5<|?_;obtain rfl:=os hb2;exact ⟨[],[0],_,_,rfl,rfl,⟨.r,⟨.r,⟨.r,⟨.r,tr⟩⟩⟩⟩,.r⟩
      ·refine a0i (s:=53) (b:=false) rfl (bf d5l)<|o6 rfl rfl<|o6 rfl rfl<|o6 rfl rfl<|o6 rfl rfl<|o6 rfl rfl<|o6 rfl rfl<|o6 rfl rfl<|o6 rfl rfl<|o6 rfl rfl<|o6 rfl rfl<|o8 (.bool false) rfl tr rfl<|l7 (.bool false) rfl<|s_on rfl<|l7 (.lst 3 (A.map a0f)) rfl<|s_on rfl<|l7 (.I (B:Int)) rfl<|s_on rfl<|x8 (a1o (enc:=a0f) rfl rfl hx287)<|s_on rfl<|o8 (.iptr (a0f D) 2) rfl tr rfl<|s_on rfl<|o8 (.lst 1 (D.Names.map AV.str)) rfl nle rfl<|s_on rfl<|a1i (a1p (enc:=AV.str) rfl) fun hl351 => s_on rfl<|o8 (.bool (decide ((D.Names.length:Int) > 0))) rfl rfl rfl<|?_
       refine s_on rfl<|l7 (.bool (decide ((D.Names.length:Int) > 0))) rfl<|?_
       rcases oi hb2 with ⟨c352,hb2⟩ | ⟨c352,hb2⟩
       ·refine a0i (s:=73) (b:=true) rfl c352<|s_on rfl<|l7 (.I F.Kind) rfl<|s_on rfl<|o8 (.bool (F.Kind != 4)) rfl rfl rfl<|s_on rfl<|o8 (.bool (F.Kind != 4)) rfl tr rfl<|o8 (.bool (F.Kind != 4)) rfl tr rfl<|y5<|?_;obtain rfl:=os hb2;exact ⟨[],[0],_,_,rfl,rfl,⟨.r,⟨.r,⟨.r,⟨.r,tr⟩⟩⟩⟩,.r⟩
       ·refine a0i (s:=73) (b:=false) rfl (bf c352)<|o6 rfl rfl<|o6 rfl rfl<|s_on rfl<|o8 (.bool false) rfl tr rfl<|o8 (.bool false) rfl tr rfl<|y5<|?_;obtain rfl:=os hb2;exact ⟨[],[0],_,_,rfl,rfl,⟨.r,⟨.r,⟨.r,⟨.r,tr⟩⟩⟩⟩,.r⟩
     ·rcases oi hc1 with ⟨c353,hc1⟩ | ⟨c353,hc1⟩
      ·refine y8 rfl c353<|sr<|l7 (.I 9) rfl<|dk<|a0b<|?_;obtain rfl:=os hc1;obtain rfl:=os hf;exact y7 ⟨tr,tr⟩ rfl .r
      ·refine y9 rfl (bf c353)<|a0k<|a2y<|a0m<|a0r<|l7 (.I (B:Int)) rfl<|o8 (.I (w64 ((B:Int) + 1))) rfl rfl rfl<|l7 (.I (w64 ((B:Int) + 1))) rfl<|y5<|?_;exact a1z ⟨(B + 1),hc1⟩ (mul hlt286) ⟨[],[0],_,_,rfl,rfl,⟨.r,⟨.r,⟨.of_eq (congrArg (AV.int _) (a1x hlt286 hl294)),tr⟩⟩⟩,.r⟩
 ·rintro ⟨_,rfl⟩
  refine sr<|l7 (.I 0) rfl<|dk<|a0b<|?_;obtain rfl:=os hf;exact y7 ⟨tr,tr⟩ rfl .r

/- spec.l07Code -/
def c139:a0s :=
 (.seq (.reg (tq 2 (.box 4 (.t 0)) (tq 3 (.box 3 (.t 1)) (tm 4 (.c (.int .i64 0)) .done))))
 (.seq (.reg (tq 7 (.load 4 true (.t 2)) (tq 8 (.faddr 0 (.t 3)) (tq 9 (.load 1 false (.t 8)) (tq 10 (.call 235 [(.t 7),(.t 9)]) (tm 5 (.t 10) .done))))))
 (.seq (.seq (.reg (tm 11 (.t 5) (tq 12 (.bin .lss (.t 11) (.c (.int .i64 0))) .done)))
 (.cond (.t 12) (.seq (.reg (tm 4 (.c (.int .i64 11)) .done))
 .ret)
 .skip))
 (.seq (.reg (tq 13 (.faddr 1 (.t 2)) (tq 14 (.load 1 false (.t 13)) (tm 15 (.t 5) (tq 16 (.iaddr 8 (.t 14) (.t 15)) (tq 17 (.faddr 1 (.t 16)) (tq 18 (.load 1 false (.t 17)) (tm 6 (.t 18) .done))))))))
 (.seq (.seq (.reg (tq 19 (.faddr 2 (.t 3)) (tq 20 (.load 1 false (.t 19)) (tq 21 (.len (.t 20)) (tq 22 (.bin .gtr (.t 21) (.c (.int .i64 0))) (tm 23 (.t 22) (tg 24 23 true (.faddr 2 (.t 3)) (tg 25 23 true (.load 1 false (.t 24)) (tg 26 23 true (.iaddr 3 (.t 25) (.c (.int .i64 0))) (tg 27 23 true (.faddr 0 (.t 26)) (tg 28 23 true (.load 1 false (.t 27)) (tg 29 23 true (.mov (.t 6)) (tg 30 23 true (.bin .neq (.t 28) (.t 29)) (tq 31 (.pick (.t 23) (.t 30) (.c (.bool false))) .done))))))))))))))
 (.cut (.cond (.t 31) (.seq (.reg (tm 4 (.c (.int .i64 9)) .done))
 .ret)
 .skip)))
 (.seq (.seq (.reg (tq 32 (.faddr 1 (.t 3)) (tq 33 (.load 1 false (.t 32)) (tq 34 (.bin .leq (.t 33) (.c (.int .i64 5))) (tm 35 (.t 34) (tg 36 35 true (.mov (.t 6)) (tg 37 35 true (.bin .neq (.t 36) (.c (.int .i64 1))) (tg 38 35 true (.mov (.t 37)) (tg 39 38 false (.faddr 2 (.t 3)) (tg 40 38 false (.load 1 false (.t 39)) (tg 41 38 false (.len (.t 40)) (tg 42 38 false (.bin .neq (.t 41) (.c (.int .i64 1))) (tg 43 35 true (.pick (.t 38) (.c (.bool true)) (.t 42)) (tq 44 (.pick (.t 35) (.t 43) (.c (.bool false))) .done))))))))))))))
 (.cut (.cond (.t 44) (.seq (.reg (tm 4 (.c (.int .i64 9)) .done))
 .ret)
 .skip)))
 (.seq (.reg (tm 4 (.c (.int .i64 0)) .done))
 .ret)))))))
theorem e7r:a1e Tryz.prog Tryz.f139 = some (c139.erase,[.mov (.t 4)],45):=by kernel_rfl
def b2z (D:a0q) (A:a5i):Option Int :=
    (a7j D A.Column).bind fun F =>
    if (decide (F < 0)) then
    some 11
    else
    (idx D.Columns F).bind fun B =>
    ((if (decide ((A.Value.length:Int) > 0)) then
    (idx A.Value 0).bind fun E =>
    some (E.Kind != B.Kind)
    else
    some false:Option Bool)).bind fun G =>
    if G then
    some 9
    else
    ((some ():Option Unit)).bind fun _ =>
    if (bif (decide (A.Func ≤ 5)) then (bif (B.Kind != 1) then true else ((A.Value.length:Int) != 1)) else false) then
    some 9
    else
    some 0
theorem c5l (D:a0q) (A:a5i) (r:Int) (hf:b2z D A = some r):a0a Tryz.prog 139 .flat [(x9 D),(a0o A)] (.I r):=by
 refine a0a.of_awp mixed Tryz.func139 e7r nle ?_;rw [a0n];unfold b2z at hf;unfold c139;refine (show awp Tryz.prog false 0 _ (ofL [(0,(x9 D)),(1,(a0o A))]) [] _ from ?_);refine sr<|x8 (a1j (j:=0) (c:=(.agg [(.str D.Name),(.lst 8 (D.Columns.map o5)),(.lst 1 (D.Unique.map encI)),(.bool D.Root)])) rfl tr rfl rfl)<|x8 (a1j (j:=1) (c:=(.agg [(.str A.Column),(.I A.Func),(.lst 3 (A.Value.map l9))])) rfl tr rfl rfl)<|l7 (.I 0) rfl<|dk<|sr<|?_
 obtain ⟨F,er4,hf⟩:=ob hf
 refine o8 (.agg [(.str D.Name),(.lst 8 (D.Columns.map o5)),(.lst 1 (D.Unique.map encI)),(.bool D.Root)]) rfl nle rfl<|o8 (.ptr 1 0 0) rfl tr rfl<|o8 (.str A.Column) rfl nle rfl<|x8 (a0j (b0u _ _ _ er4) rfl .r rfl)<|l7 (.I F) rfl<|dk<|o7<|sr<|l7 (.I F) rfl<|o8 (.bool (decide (F < 0))) rfl rfl rfl<|dk<|?_
 rcases oi hf with ⟨c5,hf⟩ | ⟨c5,hf⟩
 ·refine y8 rfl c5<|sr<|l7 (.I 11) rfl<|dk<|a0b<|?_;obtain rfl:=os hf;exact y7 ⟨tr,tr⟩ rfl .r
 ·refine y9 rfl (bf c5)<|a0k<|a0m<|sr<|?_
  obtain ⟨B,ex7,hf⟩:=ob hf
  refine o8 (.ptr 0 0 1) rfl tr rfl<|o8 (.lst 8 (D.Columns.map o5)) rfl nle rfl<|l7 (.I F) rfl<|x8 (a2t (enc:=o5) rfl rfl (a8n ex7) (a8o ex7))<|o8 (.iptr (o5 B) 1) rfl tr rfl<|o8 (.I B.Kind) rfl nle rfl<|l7 (.I B.Kind) rfl<|dk<|o7<|o7<|?_
  obtain ⟨G,hb1,hf⟩:=ob hf
  refine a1k ([(3,(.ptr 0 0 0)),(6,(.I B.Kind)),(31,(.bool G))],[.box 3 (.agg [(.str A.Column),(.I A.Func),(.lst 3 (A.Value.map l9))])]) ?_ ?_
  ·refine a0r<|o8 (.ptr 1 0 2) rfl tr rfl<|o8 (.lst 3 (A.Value.map l9)) rfl nle rfl<|a1i (a1p (enc:=l9) rfl) fun hl14 => o8 (.bool (decide ((A.Value.length:Int) > 0))) rfl rfl rfl<|l7 (.bool (decide ((A.Value.length:Int) > 0))) rfl<|?_
   rcases oi hb1 with ⟨c15,hb1⟩ | ⟨c15,hb1⟩
   ·refine a0i (s:=23) (b:=true) rfl c15<|s_on rfl<|o8 (.ptr 1 0 2) rfl tr rfl<|s_on rfl<|o8 (.lst 3 (A.Value.map l9)) rfl nle rfl<|s_on rfl<|?_
    obtain ⟨E,ex17,hb1⟩:=ob hb1
    refine x8 (a2t (enc:=l9) rfl rfl (a8n ex17) (a8o ex17))<|s_on rfl<|o8 (.iptr (l9 E) 0) rfl tr rfl<|s_on rfl<|o8 (.I E.Kind) rfl nle rfl<|s_on rfl<|l7 (.I B.Kind) rfl<|s_on rfl<|o8 (.bool (E.Kind != B.Kind)) rfl rfl rfl<|o8 (.bool (E.Kind != B.Kind)) rfl tr rfl<|y5<|?_;obtain rfl:=os hb1;exact ⟨[],[1],_,_,rfl,rfl,⟨.r,⟨.r,⟨.r,tr⟩⟩⟩,.r⟩
   ·refine a0i (s:=23) (b:=false) rfl (bf c15)<|o6 rfl rfl<|o6 rfl rfl<|o6 rfl rfl<|o6 rfl rfl<|o6 rfl rfl<|o6 rfl rfl<|o6 rfl rfl<|o8 (.bool false) rfl tr rfl<|y5<|?_;obtain rfl:=os hb1;exact ⟨[],[1],_,_,rfl,rfl,⟨.r,⟨.r,⟨.r,tr⟩⟩⟩,.r⟩
  ·rcases oi hf with ⟨c18,hf⟩ | ⟨c18,hf⟩
   ·refine y8 rfl c18<|sr<|l7 (.I 9) rfl<|dk<|a0b<|?_;obtain rfl:=os hf;exact y7 ⟨tr,tr⟩ rfl .r
   ·refine y9 rfl (bf c18)<|a0k<|a0m<|o7<|o7<|?_
    obtain ⟨p20,hb1,hf⟩:=ob hf
    refine a1k ([(44,(.bool (bif (decide (A.Func ≤ 5)) then (bif (B.Kind != 1) then true else ((A.Value.length:Int) != 1)) else false)))],[]) ?_ ?_
    ·refine a0r<|o8 (.ptr 0 0 1) rfl tr rfl<|o8 (.I A.Func) rfl nle rfl<|o8 (.bool (decide (A.Func ≤ 5))) rfl rfl rfl<|l7 (.bool (decide (A.Func ≤ 5))) rfl<|?_;refine s_g (v:=(decide (A.Func ≤ 5))) (.I B.Kind) rfl (fun hv => by (try simp only [o9 hv]);exact ⟨rfl,tr,rfl⟩) ?_;refine s_g (v:=(decide (A.Func ≤ 5))) (.bool (B.Kind != 1)) rfl (fun hv => by (try simp only [o9 hv]);exact ⟨rfl,rfl,rfl⟩) ?_;refine s_g (v:=(decide (A.Func ≤ 5))) (.bool (B.Kind != 1)) rfl (fun hv => by (try simp only [o9 hv]);exact ⟨rfl,tr,rfl⟩) ?_;refine a7t (v1:=(decide (A.Func ≤ 5))) (b1:=true) (v2:=(B.Kind != 1)) (.ptr 0 0 2) rfl (fun hv hw => by (try simp only [o9 hv,o9 hw]);exact ⟨rfl,tr,rfl⟩) ?_
     refine a7t (v1:=(decide (A.Func ≤ 5))) (b1:=true) (v2:=(B.Kind != 1)) (.lst 3 (A.Value.map l9)) rfl (fun hv hw => by (try simp only [o9 hv,o9 hw]);exact ⟨rfl,nle,rfl⟩) ?_;refine a7t (v1:=(decide (A.Func ≤ 5))) (b1:=true) (v2:=(B.Kind != 1)) (.I (A.Value.length:Int)) rfl (fun hv hw => by (try simp only [o9 hv,o9 hw]);exact ⟨rfl,tr,lenV _ _⟩) ?_;refine a7t (v1:=(decide (A.Func ≤ 5))) (b1:=true) (v2:=(B.Kind != 1)) (.bool ((A.Value.length:Int) != 1)) rfl (fun hv hw => by (try simp only [o9 hv,o9 hw]);exact ⟨rfl,rfl,rfl⟩) ?_;refine c0q (v1:=(decide (A.Func ≤ 5))) (b1:=true) (v2:=(B.Kind != 1)) (x:=true) (y:=((A.Value.length:Int) != 1)) rfl (fun hv => by (try simp only [o9 hv]);rfl) (fun hv hw => by (try simp only [o9 hv,o9 hw]);rfl) (fun hv hw => by (try simp only [o9 hv,o9 hw]);rfl) ?_
     refine a2a (x:=(bif (B.Kind != 1) then true else ((A.Value.length:Int) != 1))) (y:=false) rfl (fun hv => by (try simp only [o9 hv]);rfl) (fun hv => by (try simp only [o9 hv]);rfl) ?_;refine y5 ?_;obtain rfl:=os hb1;exact ⟨[],[],_,_,rfl,rfl,⟨.r,tr⟩,.r⟩
    ·rcases oi hf with ⟨c22,hf⟩ | ⟨c22,hf⟩
     ·refine y8 rfl c22<|sr<|l7 (.I 9) rfl<|dk<|a0b<|?_;obtain rfl:=os hf;exact y7 ⟨tr,tr⟩ rfl .r
     ·refine y9 rfl (bf c22)<|a0k<|a0m<|sr<|l7 (.I 0) rfl<|dk<|a0b<|?_;obtain rfl:=os hf;exact y7 ⟨tr,tr⟩ rfl .r

/- spec.l07Codes -/
def c130:a0s :=
 (.seq (.reg (tq 2 (.box 4 (.t 0)) (tm 4 (.c (.int .i64 0)) .done)))
 (.seq (.seq (.reg (tm 5 (.c (.int .i64 0)) .done))
 (.block 0 (.loop (.seq (.seq (.reg (tm 7 (.t 5) (tm 8 (.t 1) (tq 9 (.len (.t 8)) (tq 10 (.bin .lss (.t 7) (.t 9)) .done)))))
 (.cond (.t 10) .skip
 (.exit 0)))
 (.seq (.block 1 (.seq (.reg (tq 13 (.load 4 true (.t 2)) (tm 14 (.t 1) (tm 15 (.t 5) (tq 16 (.iaddr 3 (.t 14) (.t 15)) (tq 17 (.load 3 true (.t 16)) (.l ⟨(some 18),none,.call 139 [(.t 13),(.t 17)]⟩ []
 (tm 6 (.t 18) .done) .non)))))))
 (.seq (.reg (tm 19 (.t 6) (tq 20 (.bin .neq (.t 19) (.c (.int .i64 0))) .done)))
 (.cond (.t 20) (.seq (.reg (tm 21 (.t 6) (tm 4 (.t 21) .done)))
 .ret)
 .skip))))
 (.reg (tm 11 (.t 5) (tq 12 (.bin .add (.t 11) (.c (.int .i64 1))) (tm 5 (.t 12) .done)))))))))
 (.cut (.seq (.reg (tm 4 (.c (.int .i64 0)) .done))
 .ret))))
theorem e7s:a1e Tryz.prog Tryz.f130 = some (c130.erase,[.mov (.t 4)],22):=by kernel_rfl
def a5h (B:a0q):List a5i → Option (Fl Int Unit)
  | [] =>
    some (.go ())
  | F :: xs =>
    (b2z B F).bind fun E =>
    if (E != 0) then
    some (.ret E)
    else
    a5h B xs 

def b1p (B:a0q) (A:(List a5i)):Option Int :=
    (a5h B A ).bind fun q => (match q with
    | .ret r => some r
    | .go _ =>
    some 0)
theorem c3h (B:a0q) (A:(List a5i)) (r:Int) (hf:b1p B A = some r):a0a Tryz.prog 130 .flat [(x9 B),(.lst 3 (A.map a0o))] (.I r):=by
 refine a0a.of_awp mixed Tryz.func130 e7s nle ?_;rw [a0n];unfold b1p at hf;unfold c130;refine (show awp Tryz.prog false 0 _ (ofL [(0,(x9 B)),(1,(.lst 3 (A.map a0o)))]) [] _ from ?_);refine sr<|x8 (a1j (j:=0) (c:=(.agg [(.str B.Name),(.lst 8 (B.Columns.map o5)),(.lst 1 (B.Unique.map encI)),(.bool B.Root)])) rfl tr rfl rfl)<|l7 (.I 0) rfl<|dk<|o7<|sr<|l7 (.I 0) rfl<|dk<|?_
 obtain ⟨p27,hb1,hf⟩:=ob hf
 refine a2c (X:={q:Unit // p27 = .go q}) (fun q => ([],[])) ?_ ?_
 ·refine a1v (X:={q:Nat // a5h B (A.drop q)  = some p27}) (fun q => ([(1,(.lst 3 (A.map a0o))),(2,(.ptr 0 0 0)),(5,(.I (q.1:Int)))],[.box 4 (.agg [(.str B.Name),(.lst 8 (B.Columns.map o5)),(.lst 1 (B.Unique.map encI)),(.bool B.Root)])])) (fun q => A.length - q.1) ⟨0,hb1⟩ ⟨[],[0],_,_,rfl,rfl,⟨.r,⟨.r,⟨.r,tr⟩⟩⟩,.r⟩ ?_
  rintro ⟨D,hc1⟩
  have hc1:a5h B (A.drop D)  = some p27:=hc1
  refine (show awp Tryz.prog false 0 _ (ofL [(1,(.lst 3 (A.map a0o))),(2,(.ptr 0 0 0)),(5,(.I (D:Int)))]) [.box 4 (.agg [(.str B.Name),(.lst 8 (B.Columns.map o5)),(.lst 1 (B.Unique.map encI)),(.bool B.Root)])] _ from ?_)
  rcases a6c A D with ⟨hie30,hd33⟩ | ⟨hlt28,F,hx29,hd33⟩
  ·rw [hd33,a5h.eq_1] at hc1
   have hq32:=dlf hie30
   refine o7<|sr<|l7 (.I (D:Int)) rfl<|l7 (.lst 3 (A.map a0o)) rfl<|a1i (a1p (enc:=a0o) rfl) fun hl35 => o8 (.bool (decide ((D:Int) < (A.length:Int)))) rfl rfl rfl<|dk<|y9 rfl hq32<|a3i<|a3h<|a2e<|a3g<|?_;obtain rfl:=os hc1;exact a4b ⟨_,rfl⟩ ⟨[],[],_,_,rfl,rfl,tr,.r⟩
  ·rw [hd33,a5h.eq_2] at hc1
   have hq32:=dlt hlt28
   refine o7<|sr<|l7 (.I (D:Int)) rfl<|l7 (.lst 3 (A.map a0o)) rfl<|a1i (a1p (enc:=a0o) rfl) fun hl36 => o8 (.bool (decide ((D:Int) < (A.length:Int)))) rfl rfl rfl<|dk<|y8 rfl hq32<|a0k<|a0m<|o7<|a3y<|sr<|?_
   obtain ⟨E,er38,hc1⟩:=ob hc1
   refine o8 (.agg [(.str B.Name),(.lst 8 (B.Columns.map o5)),(.lst 1 (B.Unique.map encI)),(.bool B.Root)]) rfl nle rfl<|l7 (.lst 3 (A.map a0o)) rfl<|l7 (.I (D:Int)) rfl<|x8 (a1o (enc:=a0o) rfl rfl hx29)<|o8 (a0o F) rfl nle rfl<|a1a (a0j (c5l _ _ _ er38) rfl .r rfl) a7h tr<|l7 (.I E) rfl<|dk<|sr<|l7 (.I E) rfl<|o8 (.bool (E != 0)) rfl rfl rfl<|dk<|?_
   rcases oi hc1 with ⟨c39,hc1⟩ | ⟨c39,hc1⟩
   ·refine y8 rfl c39<|sr<|l7 (.I E) rfl<|l7 (.I E) rfl<|dk<|a0b<|?_;obtain rfl:=os hc1;obtain rfl:=os hf;exact y7 ⟨tr,tr⟩ rfl .r
   ·refine y9 rfl (bf c39)<|a0k<|a2y<|a0m<|a0r<|l7 (.I (D:Int)) rfl<|o8 (.I (w64 ((D:Int) + 1))) rfl rfl rfl<|l7 (.I (w64 ((D:Int) + 1))) rfl<|y5<|?_;exact a1z ⟨(D + 1),hc1⟩ (mul hlt28) ⟨[],[0],_,_,rfl,rfl,⟨.r,⟨.r,⟨.of_eq (congrArg (AV.int _) (a1x hlt28 hl36)),tr⟩⟩⟩,.r⟩
 ·rintro ⟨_,rfl⟩
  refine sr<|l7 (.I 0) rfl<|dk<|a0b<|?_;obtain rfl:=os hf;exact y7 ⟨tr,tr⟩ rfl .r

end Go.R
