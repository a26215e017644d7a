/- Walks. -/
import Derived.Test.YtgdkfnndbknjpaaGreatOP5
set_option linter.all false
namespace Go.R
open Go Go.Proofs
set_option linter.unusedVariables false
set_option linter.unusedSimpArgs false
set_option maxHeartbeats 8000000
/- spec.l08Code -/
def c6t:a0s :=
 (.seq (.reg (tq 2 (.box 1 (.t 0)) (tq 3 (.box 8 (.t 1)) (tm 4 (.c (.int .i64 0)) .done))))
 (.seq (.seq (.reg (tq 10 (.faddr 0 (.t 3)) (tq 11 (.load 1 false (.t 10)) (tq 12 (.bin .gtr (.t 11) (.c (.int .i64 6))) .done))))
 (.cond (.t 12) (.seq (.seq (.reg (tq 13 (.faddr 0 (.t 3)) (tq 14 (.load 1 false (.t 13)) (tq 15 (.bin .eql (.t 14) (.c (.int .i64 10))) (tm 16 (.t 15) (tg 17 16 true (.faddr 2 (.t 3)) (tg 18 16 true (.load 1 false (.t 17)) (tg 19 16 true (.call 210 [(.t 18)]) (tg 20 16 true (.not (.t 19)) (tq 21 (.pick (.t 16) (.t 20) (.c (.bool false))) .done))))))))))
 (.cut (.cond (.t 21) (.seq (.reg (tm 4 (.c (.int .i64 3)) .done))
 .ret)
 .skip)))
 (.seq (.reg (tm 4 (.c (.int .i64 0)) .done))
 .ret))
 .skip))
 (.seq (.reg (tq 22 (.load 1 true (.t 2)) (tq 23 (.faddr 1 (.t 3)) (tq 24 (.load 1 false (.t 23)) (tq 25 (.call 232 [(.t 22),(.t 24)]) (tm 5 (.t 25) .done))))))
 (.seq (.seq (.reg (tm 26 (.t 5) (tq 27 (.bin .lss (.t 26) (.c (.int .i64 0))) .done)))
 (.cond (.t 27) (.seq (.reg (tm 4 (.c (.int .i64 10)) .done))
 .ret)
 .skip))
 (.seq (.seq (.reg (tq 28 (.faddr 0 (.t 3)) (tq 29 (.load 1 false (.t 28)) (tq 30 (.bin .eql (.t 29) (.c (.int .i64 1))) (tm 31 (.t 30) (tg 32 31 true (.faddr 2 (.t 3)) (tg 33 31 true (.load 1 false (.t 32)) (tg 34 31 true (.bin .neq (.t 33) (.c (.str []))) (tq 35 (.pick (.t 31) (.t 34) (.c (.bool false))) (tm 36 (.t 35) (tg 37 36 true (.faddr 2 (.t 3)) (tg 38 36 true (.load 1 false (.t 37)) (tg 39 36 true (.call 210 [(.t 38)]) (tg 40 36 true (.not (.t 39)) (tq 41 (.pick (.t 36) (.t 40) (.c (.bool false))) .done)))))))))))))))
 (.cut (.cond (.t 41) (.seq (.reg (tm 4 (.c (.int .i64 3)) .done))
 .ret)
 .skip)))
 (.seq (.reg (tq 42 (.faddr 0 (.t 2)) (tq 43 (.load 1 false (.t 42)) (tm 44 (.t 5) (tq 45 (.iaddr 4 (.t 43) (.t 44)) (tq 46 (.load 4 true (.t 45)) (tq 6 (.box 4 (.c (.agg [(.str []),.nil,.nil,(.bool false)]))) (.q ⟨none,none,.store 4 (.t 6) (.t 46)⟩
 .done))))))))
 (.seq (.seq (.reg (tm 7 (.c (.int .i64 0)) .done))
 (.block 0 (.loop (.seq (.seq (.reg (tm 47 (.t 7) (tq 48 (.faddr 6 (.t 3)) (tq 49 (.load 1 false (.t 48)) (tq 50 (.len (.t 49)) (tq 51 (.bin .lss (.t 47) (.t 50)) .done))))))
 (.cond (.t 51) .skip
 (.exit 0)))
 (.seq (.block 1 (.seq (.reg (tq 54 (.faddr 6 (.t 3)) (tq 55 (.load 1 false (.t 54)) (tm 56 (.t 7) (tq 57 (.iaddr 1 (.t 55) (.t 56)) (tq 58 (.load 1 false (.t 57)) (tq 59 (.bin .neq (.t 58) (.c (.str [95,117,117,105,100]))) (tm 60 (.t 59) (tg 61 60 true (.load 4 true (.t 6)) (tg 62 60 true (.faddr 6 (.t 3)) (tg 63 60 true (.load 1 false (.t 62)) (tg 64 60 true (.mov (.t 7)) (tg 65 60 true (.iaddr 1 (.t 63) (.t 64)) (tg 66 60 true (.load 1 false (.t 65)) (.l ⟨(some 67),(some (60,true)),.call 235 [(.t 61),(.t 66)]⟩ []
 (tg 68 60 true (.bin .lss (.t 67) (.c (.int .i64 0))) (tq 69 (.pick (.t 60) (.t 68) (.c (.bool false))) .done)) .non)))))))))))))))
 (.cut (.cond (.t 69) (.seq (.reg (tm 4 (.c (.int .i64 11)) .done))
 .ret)
 .skip))))
 (.reg (tm 52 (.t 7) (tq 53 (.bin .add (.t 52) (.c (.int .i64 1))) (tm 7 (.t 53) .done)))))))))
 (.cut (.seq (.seq (.reg (tq 70 (.load 4 true (.t 6)) (tq 71 (.faddr 3 (.t 3)) (tq 72 (.load 1 false (.t 71)) (tq 73 (.call 236 [(.t 70),(.t 72)]) (tm 8 (.t 73) .done))))))
 (.seq (.reg (tm 74 (.t 8) (tq 75 (.bin .neq (.t 74) (.c (.int .i64 0))) .done)))
 (.cond (.t 75) (.seq (.reg (tm 76 (.t 8) (tm 4 (.t 76) .done)))
 .ret)
 .skip)))
 (.seq (.seq (.reg (tq 77 (.load 4 true (.t 6)) (tq 78 (.faddr 4 (.t 3)) (tq 79 (.load 1 false (.t 78)) (tq 80 (.call 237 [(.t 77),(.t 79)]) (tm 9 (.t 80) .done))))))
 (.seq (.reg (tm 81 (.t 9) (tq 82 (.bin .neq (.t 81) (.c (.int .i64 0))) .done)))
 (.cond (.t 82) (.seq (.reg (tm 83 (.t 9) (tm 4 (.t 83) .done)))
 .ret)
 .skip)))
 (.seq (.reg (tq 84 (.load 4 true (.t 6)) (tq 85 (.faddr 5 (.t 3)) (tq 86 (.load 1 false (.t 85)) (tq 87 (.call 130 [(.t 84),(.t 86)]) (tm 4 (.t 87) .done))))))
 .ret)))))))))))
theorem e7t:a1e Tryz.prog Tryz.f108 = some (c6t.erase,[.mov (.t 4)],88):=by kernel_rfl
def a6b (B:a0q):List Str → Option (Fl Int Unit)
  | [] =>
    some (.go ())
  | J :: xs =>
    ((if (!(J == [95,117,117,105,100])) then
    (a7j B J).bind fun L =>
    some (decide (L < 0))
    else
    some false:Option Bool)).bind fun K =>
    if K then
    some (.ret 11)
    else
    a6b B xs 

def b3a (H:a2q) (A:GOp):Option Int :=
    if (decide (A.Kind > 6)) then
    ((if (A.Kind == 10) then
    (a7x A.Name).bind fun N =>
    some (!N)
    else
    some false:Option Bool)).bind fun O =>
    if O then
    some 3
    else
    some 0
    else
    (b0t H A.Table).bind fun G =>
    if (decide (G < 0)) then
    some 10
    else
    ((if (bif (A.Kind == 1) then (!(A.Name == [])) else false) then
    (a7x A.Name).bind fun P =>
    some (!P)
    else
    some false:Option Bool)).bind fun M =>
    if M then
    some 3
    else
    (idx H.Tables G).bind fun B =>
    (a6b B A.Columns ).bind fun q => (match q with
    | .ret r => some r
    | .go _ =>
    (b1o B A.Where).bind fun E =>
    if (E != 0) then
    some E
    else
    (b2y B A.Row).bind fun F =>
    if (F != 0) then
    some F
    else
    (b1p B A.Muts).bind fun R =>
    some R)
theorem c5m (H:a2q) (A:GOp) (r:Int) (hf:b3a H A = some r):a0a Tryz.prog 108 .flat [(a2x H),(a2u A)] (.I r):=by
 refine a0a.of_awp mixed Tryz.func108 e7t nle ?_;rw [a0n];unfold b3a at hf;unfold c6t;refine (show awp Tryz.prog false 0 _ (ofL [(0,(a2x H)),(1,(a2u A))]) [] _ from ?_);refine sr<|x8 (a1j (j:=0) (c:=(.agg [(.lst 4 (H.Tables.map x9))])) rfl tr rfl rfl)<|x8 (a1j (j:=1) (c:=(.agg [(.I A.Kind),(.str A.Table),(.str A.Name),(.lst 3 (A.Where.map a0d)),(.lst 3 (A.Row.map a0f)),(.lst 3 (A.Muts.map a0o)),(.lst 1 (A.Columns.map AV.str)),(.bool A.Until)])) rfl tr rfl rfl)<|l7 (.I 0) rfl<|dk<|o7<|sr<|o8 (.ptr 1 0 0) rfl tr rfl<|o8 (.I A.Kind) rfl nle rfl<|?_
 refine o8 (.bool (decide (A.Kind > 6))) rfl rfl rfl<|dk<|?_
 rcases oi hf with ⟨c3,hf⟩ | ⟨c3,hf⟩
 ·refine y8 rfl c3<|o7<|o7<|?_
  obtain ⟨O,hb1,hf⟩:=ob hf
  refine a1k ([(21,(.bool O))],[]) ?_ ?_
  ·refine a0r ?_
   rcases oi hb1 with ⟨c9,hb1⟩ | ⟨c9,hb1⟩
   ·obtain ⟨N,er11,hb1⟩:=ob hb1
    refine o8 (.ptr 1 0 0) rfl tr rfl<|o8 (.I A.Kind) rfl nle rfl<|o8 (.bool (A.Kind == 10)) rfl rfl rfl<|l7 (.bool (A.Kind == 10)) rfl<|a0i (s:=16) (b:=true) rfl c9<|s_on rfl<|o8 (.ptr 1 0 2) rfl tr rfl<|s_on rfl<|o8 (.str A.Name) rfl nle rfl<|s_on rfl<|x8 (a0j (a8v _ _ er11) rfl .r rfl)<|s_on rfl<|o8 (.bool (!N)) rfl tr rfl<|o8 (.bool (!N)) rfl tr rfl<|y5<|?_;obtain rfl:=os hb1;exact ⟨[],[],_,_,rfl,rfl,⟨.r,tr⟩,.r⟩
   ·refine o8 (.ptr 1 0 0) rfl tr rfl<|o8 (.I A.Kind) rfl nle rfl<|o8 (.bool (A.Kind == 10)) rfl rfl rfl<|l7 (.bool (A.Kind == 10)) rfl<|a0i (s:=16) (b:=false) rfl (bf c9)<|o6 rfl rfl<|o6 rfl rfl<|o6 rfl rfl<|o6 rfl rfl<|o8 (.bool false) rfl tr rfl<|y5<|?_;obtain rfl:=os hb1;exact ⟨[],[],_,_,rfl,rfl,⟨.r,tr⟩,.r⟩
  ·rcases oi hf with ⟨c12,hf⟩ | ⟨c12,hf⟩
   ·refine y8 rfl c12<|sr<|l7 (.I 3) rfl<|dk<|a0b<|?_;obtain rfl:=os hf;exact y7 ⟨tr,tr⟩ rfl .r
   ·refine y9 rfl (bf c12)<|a0k<|a0m<|sr<|l7 (.I 0) rfl<|dk<|a0b<|?_;obtain rfl:=os hf;exact y7 ⟨tr,tr⟩ rfl .r
 ·refine y9 rfl (bf c3)<|a0k<|a0m<|sr<|?_
  obtain ⟨G,er14,hf⟩:=ob hf
  refine o8 (.agg [(.lst 4 (H.Tables.map x9))]) rfl nle rfl<|o8 (.ptr 1 0 1) rfl tr rfl<|o8 (.str A.Table) rfl nle rfl<|x8 (a0j (b7q _ _ _ er14) rfl .r rfl)<|l7 (.I G) rfl<|dk<|o7<|sr<|l7 (.I G) rfl<|o8 (.bool (decide (G < 0))) rfl rfl rfl<|dk<|?_
  rcases oi hf with ⟨c15,hf⟩ | ⟨c15,hf⟩
  ·refine y8 rfl c15<|sr<|l7 (.I 10) rfl<|dk<|a0b<|?_;obtain rfl:=os hf;exact y7 ⟨tr,tr⟩ rfl .r
  ·refine y9 rfl (bf c15)<|a0k<|a0m<|o7<|o7<|?_
   obtain ⟨M,hb1,hf⟩:=ob hf
   refine a1k ([(2,(.ptr 0 0 0)),(3,(.ptr 1 0 0)),(5,(.I G)),(41,(.bool M))],[.box 1 (.agg [(.lst 4 (H.Tables.map x9))]),.box 8 (.agg [(.I A.Kind),(.str A.Table),(.str A.Name),(.lst 3 (A.Where.map a0d)),(.lst 3 (A.Row.map a0f)),(.lst 3 (A.Muts.map a0o)),(.lst 1 (A.Columns.map AV.str)),(.bool A.Until)])]) ?_ ?_
   ·refine a0r<|o8 (.ptr 1 0 0) rfl tr rfl<|o8 (.I A.Kind) rfl nle rfl<|o8 (.bool (A.Kind == 1)) rfl rfl rfl<|l7 (.bool (A.Kind == 1)) rfl<|?_;refine s_g (v:=(A.Kind == 1)) (.ptr 1 0 2) rfl (fun hv => by (try simp only [o9 hv]);exact ⟨rfl,tr,rfl⟩) ?_;refine s_g (v:=(A.Kind == 1)) (.str A.Name) rfl (fun hv => by (try simp only [o9 hv]);exact ⟨rfl,nle,rfl⟩) ?_;refine s_g (v:=(A.Kind == 1)) (.bool (!(A.Name == []))) rfl (fun hv => by (try simp only [o9 hv]);exact ⟨rfl,tr,rfl⟩) ?_;refine a2a (x:=(!(A.Name == []))) (y:=false) rfl (fun hv => by (try simp only [o9 hv]);rfl) (fun hv => by (try simp only [o9 hv]);rfl) ?_;refine l7 (.bool (bif (A.Kind == 1) then (!(A.Name == [])) else false)) rfl ?_
    rcases oi hb1 with ⟨c21,hb1⟩ | ⟨c21,hb1⟩
    ·refine a0i (s:=36) (b:=true) rfl c21<|s_on rfl<|o8 (.ptr 1 0 2) rfl tr rfl<|s_on rfl<|o8 (.str A.Name) rfl nle rfl<|s_on rfl<|?_
     obtain ⟨P,er23,hb1⟩:=ob hb1
     refine x8 (a0j (a8v _ _ er23) rfl .r rfl)<|s_on rfl<|o8 (.bool (!P)) rfl tr rfl<|o8 (.bool (!P)) rfl tr rfl<|y5<|?_;obtain rfl:=os hb1;exact ⟨[],[0,1],_,_,rfl,rfl,⟨.r,⟨.r,⟨.r,⟨.r,tr⟩⟩⟩⟩,.r⟩
    ·refine a0i (s:=36) (b:=false) rfl (bf c21)<|o6 rfl rfl<|o6 rfl rfl<|o6 rfl rfl<|o6 rfl rfl<|o8 (.bool false) rfl tr rfl<|y5<|?_;obtain rfl:=os hb1;exact ⟨[],[0,1],_,_,rfl,rfl,⟨.r,⟨.r,⟨.r,⟨.r,tr⟩⟩⟩⟩,.r⟩
   ·rcases oi hf with ⟨c24,hf⟩ | ⟨c24,hf⟩
    ·refine y8 rfl c24<|sr<|l7 (.I 3) rfl<|dk<|a0b<|?_;obtain rfl:=os hf;exact y7 ⟨tr,tr⟩ rfl .r
    ·refine y9 rfl (bf c24)<|a0k<|a0m<|sr<|?_
     obtain ⟨B,ex26,hf⟩:=ob hf
     refine o8 (.ptr 0 0 0) rfl tr rfl<|o8 (.lst 4 (H.Tables.map x9)) rfl nle rfl<|l7 (.I G) rfl<|x8 (a2t (enc:=x9) rfl rfl (a8n ex26) (a8o ex26))<|o8 (x9 B) rfl nle rfl<|x8 (a1j (j:=2) (c:=(.agg [(.str []),.nil,.nil,(.bool false)])) rfl tr rfl rfl)<|a3o (a0e (v:=(.agg [(.str B.Name),(.lst 8 (B.Columns.map o5)),(.lst 1 (B.Unique.map encI)),(.bool B.Root)])) (y':=(.agg [(.str B.Name),(.lst 8 (B.Columns.map o5)),(.lst 1 (B.Unique.map encI)),(.bool B.Root)])) rfl rfl rfl tr ⟨rfl,nle⟩ ⟨⟨rfl,tr⟩,⟨⟨rfl,tr⟩,⟨⟨rfl,tr⟩,⟨⟨rfl,tr⟩,tr⟩⟩⟩⟩ rfl)<|?_
     refine dk<|o7<|sr<|l7 (.I 0) rfl<|dk<|?_
     obtain ⟨p87,hb1,hf⟩:=ob hf
     refine a2c (X:={q:Unit // p87 = .go q}) (fun q => ([(3,(.ptr 0 0 0)),(6,(.ptr 1 0 0))],[.box 8 (.agg [(.I A.Kind),(.str A.Table),(.str A.Name),(.lst 3 (A.Where.map a0d)),(.lst 3 (A.Row.map a0f)),(.lst 3 (A.Muts.map a0o)),(.lst 1 (A.Columns.map AV.str)),(.bool A.Until)]),.box 4 (.agg [(.str B.Name),(.lst 8 (B.Columns.map o5)),(.lst 1 (B.Unique.map encI)),(.bool B.Root)])])) ?_ ?_
     ·refine a1v (X:={q:Nat // a6b B (A.Columns.drop q)  = some p87}) (fun q => ([(3,(.ptr 0 0 0)),(6,(.ptr 1 0 0)),(7,(.I (q.1:Int)))],[.box 8 (.agg [(.I A.Kind),(.str A.Table),(.str A.Name),(.lst 3 (A.Where.map a0d)),(.lst 3 (A.Row.map a0f)),(.lst 3 (A.Muts.map a0o)),(.lst 1 (A.Columns.map AV.str)),(.bool A.Until)]),.box 4 (.agg [(.str B.Name),(.lst 8 (B.Columns.map o5)),(.lst 1 (B.Unique.map encI)),(.bool B.Root)])])) (fun q => A.Columns.length - q.1) ⟨0,hb1⟩ ⟨[],[1,2],_,_,rfl,rfl,⟨.r,⟨.r,⟨.r,tr⟩⟩⟩,.r⟩ ?_
      rintro ⟨D,hc1⟩
      have hc1:a6b B (A.Columns.drop D)  = some p87:=hc1
      refine (show awp Tryz.prog false 0 _ (ofL [(3,(.ptr 0 0 0)),(6,(.ptr 1 0 0)),(7,(.I (D:Int)))]) [.box 8 (.agg [(.I A.Kind),(.str A.Table),(.str A.Name),(.lst 3 (A.Where.map a0d)),(.lst 3 (A.Row.map a0f)),(.lst 3 (A.Muts.map a0o)),(.lst 1 (A.Columns.map AV.str)),(.bool A.Until)]),.box 4 (.agg [(.str B.Name),(.lst 8 (B.Columns.map o5)),(.lst 1 (B.Unique.map encI)),(.bool B.Root)])] _ from ?_)
      rcases a6c A.Columns D with ⟨hie90,hd93⟩ | ⟨hlt88,J,hx89,hd93⟩
      ·rw [hd93,a6b.eq_1] at hc1
       have hq92:=dlf hie90
       refine o7<|sr<|l7 (.I (D:Int)) rfl<|o8 (.ptr 0 0 6) rfl tr rfl<|o8 (.lst 1 (A.Columns.map AV.str)) rfl nle rfl<|a1i (a1p (enc:=AV.str) rfl) fun hl95 => o8 (.bool (decide ((D:Int) < (A.Columns.length:Int)))) rfl rfl rfl<|dk<|y9 rfl hq92<|a3i<|a3h<|a2e<|a3g<|?_;obtain rfl:=os hc1;exact a4b ⟨_,rfl⟩ ⟨[],[0,1],_,_,rfl,rfl,⟨.r,⟨.r,tr⟩⟩,.r⟩
      ·rw [hd93,a6b.eq_2] at hc1
       have hq92:=dlt hlt88
       refine o7<|sr<|l7 (.I (D:Int)) rfl<|o8 (.ptr 0 0 6) rfl tr rfl<|o8 (.lst 1 (A.Columns.map AV.str)) rfl nle rfl<|a1i (a1p (enc:=AV.str) rfl) fun hl96 => o8 (.bool (decide ((D:Int) < (A.Columns.length:Int)))) rfl rfl rfl<|dk<|y8 rfl hq92<|a0k<|a0m<|o7<|a3y<|o7<|?_
       obtain ⟨K,hb2,hc1⟩:=ob hc1
       refine a1k ([(3,(.ptr 0 0 0)),(6,(.ptr 1 0 0)),(7,(.I (D:Int))),(69,(.bool K))],[.box 8 (.agg [(.I A.Kind),(.str A.Table),(.str A.Name),(.lst 3 (A.Where.map a0d)),(.lst 3 (A.Row.map a0f)),(.lst 3 (A.Muts.map a0o)),(.lst 1 (A.Columns.map AV.str)),(.bool A.Until)]),.box 4 (.agg [(.str B.Name),(.lst 8 (B.Columns.map o5)),(.lst 1 (B.Unique.map encI)),(.bool B.Root)])]) ?_ ?_
       ·refine a0r<|o8 (.ptr 0 0 6) rfl tr rfl<|o8 (.lst 1 (A.Columns.map AV.str)) rfl nle rfl<|l7 (.I (D:Int)) rfl<|x8 (a1o (enc:=AV.str) rfl rfl hx89)<|o8 (.str J) rfl ⟨rfl,rfl⟩ rfl<|o8 (.bool (!(J == [95,117,117,105,100]))) rfl tr rfl<|l7 (.bool (!(J == [95,117,117,105,100]))) rfl<|?_
        rcases oi hb2 with ⟨c102,hb2⟩ | ⟨c102,hb2⟩
        ·refine a0i (s:=60) (b:=true) rfl c102<|s_on rfl<|o8 (.agg [(.str B.Name),(.lst 8 (B.Columns.map o5)),(.lst 1 (B.Unique.map encI)),(.bool B.Root)]) rfl nle rfl<|s_on rfl<|o8 (.ptr 0 0 6) rfl tr rfl<|s_on rfl<|o8 (.lst 1 (A.Columns.map AV.str)) rfl nle rfl<|s_on rfl<|l7 (.I (D:Int)) rfl<|s_on rfl<|x8 (a1o (enc:=AV.str) rfl rfl hx89)<|s_on rfl<|o8 (.str J) rfl ⟨rfl,rfl⟩ rfl<|d3d rfl<|?_
         obtain ⟨L,er104,hb2⟩:=ob hb2
         refine a1a (a0j (b0u _ _ _ er104) rfl .r rfl) a7h tr<|s_on rfl<|o8 (.bool (decide (L < 0))) rfl rfl rfl<|o8 (.bool (decide (L < 0))) rfl tr rfl<|y5<|?_;obtain rfl:=os hb2;exact ⟨[],[0,1],_,_,rfl,rfl,⟨.r,⟨.r,⟨.r,⟨.r,tr⟩⟩⟩⟩,.r⟩
        ·refine a0i (s:=60) (b:=false) rfl (bf c102)<|o6 rfl rfl<|o6 rfl rfl<|o6 rfl rfl<|o6 rfl rfl<|o6 rfl rfl<|o6 rfl rfl<|c9c rfl rfl tr<|o6 rfl rfl<|o8 (.bool false) rfl tr rfl<|y5<|?_;obtain rfl:=os hb2;exact ⟨[],[0,1],_,_,rfl,rfl,⟨.r,⟨.r,⟨.r,⟨.r,tr⟩⟩⟩⟩,.r⟩
       ·rcases oi hc1 with ⟨c105,hc1⟩ | ⟨c105,hc1⟩
        ·refine y8 rfl c105<|sr<|l7 (.I 11) rfl<|dk<|a0b<|?_;obtain rfl:=os hc1;obtain rfl:=os hf;exact y7 ⟨tr,tr⟩ rfl .r
        ·refine y9 rfl (bf c105)<|a0k<|a2y<|a0m<|a0r<|l7 (.I (D:Int)) rfl<|o8 (.I (w64 ((D:Int) + 1))) rfl rfl rfl<|l7 (.I (w64 ((D:Int) + 1))) rfl<|y5<|?_;exact a1z ⟨(D + 1),hc1⟩ (mul hlt88) ⟨[],[0,1],_,_,rfl,rfl,⟨.r,⟨.r,⟨.of_eq (congrArg (AV.int _) (a1x hlt88 hl96)),tr⟩⟩⟩,.r⟩
     ·rintro ⟨_,rfl⟩
      refine o7<|sr<|?_
      obtain ⟨E,er107,hf⟩:=ob hf
      refine o8 (.agg [(.str B.Name),(.lst 8 (B.Columns.map o5)),(.lst 1 (B.Unique.map encI)),(.bool B.Root)]) rfl nle rfl<|o8 (.ptr 0 0 3) rfl tr rfl<|o8 (.lst 3 (A.Where.map a0d)) rfl nle rfl<|x8 (a0j (c3g _ _ _ er107) rfl .r rfl)<|l7 (.I E) rfl<|dk<|sr<|l7 (.I E) rfl<|o8 (.bool (E != 0)) rfl rfl rfl<|dk<|?_
      rcases oi hf with ⟨c6t,hf⟩ | ⟨c6t,hf⟩
      ·refine y8 rfl c6t<|sr<|l7 (.I E) rfl<|l7 (.I E) rfl<|dk<|a0b<|?_;obtain rfl:=os hf;exact y7 ⟨tr,tr⟩ rfl .r
      ·refine y9 rfl (bf c6t)<|a0k<|a0m<|o7<|sr<|?_
       obtain ⟨F,er110,hf⟩:=ob hf
       refine o8 (.agg [(.str B.Name),(.lst 8 (B.Columns.map o5)),(.lst 1 (B.Unique.map encI)),(.bool B.Root)]) rfl nle rfl<|o8 (.ptr 0 0 4) rfl tr rfl<|o8 (.lst 3 (A.Row.map a0f)) rfl nle rfl<|x8 (a0j (c5k _ _ _ er110) rfl .r rfl)<|l7 (.I F) rfl<|dk<|sr<|l7 (.I F) rfl<|o8 (.bool (F != 0)) rfl rfl rfl<|dk<|?_
       rcases oi hf with ⟨c6m,hf⟩ | ⟨c6m,hf⟩
       ·refine y8 rfl c6m<|sr<|l7 (.I F) rfl<|l7 (.I F) rfl<|dk<|a0b<|?_;obtain rfl:=os hf;exact y7 ⟨tr,tr⟩ rfl .r
       ·refine y9 rfl (bf c6m)<|a0k<|a0m<|sr<|?_
        obtain ⟨R,er113,hf⟩:=ob hf
        refine o8 (.agg [(.str B.Name),(.lst 8 (B.Columns.map o5)),(.lst 1 (B.Unique.map encI)),(.bool B.Root)]) rfl nle rfl<|o8 (.ptr 0 0 5) rfl tr rfl<|o8 (.lst 3 (A.Muts.map a0o)) rfl nle rfl<|x8 (a0j (c3h _ _ _ er113) rfl .r rfl)<|l7 (.I R) rfl<|dk<|a0b<|?_;obtain rfl:=os hf;exact y7 ⟨tr,tr⟩ rfl .r

/- spec.OpCode -/
def c28:a0s :=
 (.seq (.reg (tq 2 (.box 1 (.t 0)) (tq 3 (.box 8 (.t 1)) (tm 4 (.c (.int .i64 0)) (tm 5 (.c (.int .i64 0)) .done)))))
 (.seq (.seq (.reg (tq 6 (.load 1 true (.t 2)) (tq 7 (.call 106 [(.t 6)]) (tq 8 (.not (.t 7)) (tm 9 (.t 8) (tg 10 9 false (.load 8 true (.t 3)) (tg 11 9 false (.call 107 [(.t 10)]) (tg 12 9 false (.not (.t 11)) (tq 13 (.pick (.t 9) (.c (.bool true)) (.t 12)) .done)))))))))
 (.cut (.cond (.t 13) (.seq (.reg (tm 4 (.c (.int .i64 0)) (tm 5 (.c (.int .i64 1)) .done)))
 .ret)
 .skip)))
 (.seq (.reg (tq 14 (.load 1 true (.t 2)) (tq 15 (.load 8 true (.t 3)) (tq 16 (.call 108 [(.t 14),(.t 15)]) (tm 4 (.t 16) (tm 5 (.c (.int .i64 0)) .done))))))
 .ret)))
theorem e8w:a1e Tryz.prog Tryz.f28 = some (c28.erase,[.mov (.t 4),.mov (.t 5)],17):=by kernel_rfl
def b4c (B:a2q) (A:GOp):Option (Int × Int) :=
    (((b1m B).bind fun D =>
    if (!D) then
    some true
    else
    (b6m A).bind fun E =>
    some (!E):Option Bool)).bind fun F =>
    if F then
    some (0,1)
    else
    (b3a B A).bind fun G =>
    some (G,0)
theorem c6u (B:a2q) (A:GOp) (r:(Int × Int)) (hf:b4c B A = some r):a0a Tryz.prog 28 .flat [(a2x B),(a2u A)] (.tup [(.I r.1),(.I r.2)]):=by
 refine a0a.of_awp mixed Tryz.func28 e8w nle ?_;rw [a0n];unfold b4c at hf;unfold c28;refine (show awp Tryz.prog false 0 _ (ofL [(0,(a2x B)),(1,(a2u A))]) [] _ from ?_);refine sr<|x8 (a1j (j:=0) (c:=(.agg [(.lst 4 (B.Tables.map x9))])) rfl tr rfl rfl)<|x8 (a1j (j:=1) (c:=(.agg [(.I A.Kind),(.str A.Table),(.str A.Name),(.lst 3 (A.Where.map a0d)),(.lst 3 (A.Row.map a0f)),(.lst 3 (A.Muts.map a0o)),(.lst 1 (A.Columns.map AV.str)),(.bool A.Until)])) rfl tr rfl rfl)<|l7 (.I 0) rfl<|l7 (.I 0) rfl<|dk<|o7<|o7<|?_
 obtain ⟨F,hb1,hf⟩:=ob hf
 refine a1k ([(2,(.ptr 0 0 0)),(3,(.ptr 1 0 0)),(13,(.bool F))],[.box 1 (.agg [(.lst 4 (B.Tables.map x9))]),.box 8 (.agg [(.I A.Kind),(.str A.Table),(.str A.Name),(.lst 3 (A.Where.map a0d)),(.lst 3 (A.Row.map a0f)),(.lst 3 (A.Muts.map a0o)),(.lst 1 (A.Columns.map AV.str)),(.bool A.Until)])]) ?_ ?_
 ·refine a0r ?_
  obtain ⟨D,er11,hb1⟩:=ob hb1
  rcases oi hb1 with ⟨c12,hb1⟩ | ⟨c12,hb1⟩
  ·refine o8 (.agg [(.lst 4 (B.Tables.map x9))]) rfl nle rfl<|x8 (a0j (b7g _ _ er11) rfl .r rfl)<|o8 (.bool (!D)) rfl tr rfl<|l7 (.bool (!D)) rfl<|a0i (s:=9) (b:=true) rfl c12<|o6 rfl rfl<|o6 rfl rfl<|o6 rfl rfl<|o8 (.bool true) rfl tr rfl<|y5<|?_;obtain rfl:=os hb1;exact ⟨[],[0,1],_,_,rfl,rfl,⟨.r,⟨.r,⟨.r,tr⟩⟩⟩,.r⟩
  ·obtain ⟨E,er14,hb1⟩:=ob hb1
   refine o8 (.agg [(.lst 4 (B.Tables.map x9))]) rfl nle rfl<|x8 (a0j (b7g _ _ er11) rfl .r rfl)<|o8 (.bool (!D)) rfl tr rfl<|l7 (.bool (!D)) rfl<|a0i (s:=9) (b:=false) rfl (bf c12)<|s_on rfl<|o8 (.agg [(.I A.Kind),(.str A.Table),(.str A.Name),(.lst 3 (A.Where.map a0d)),(.lst 3 (A.Row.map a0f)),(.lst 3 (A.Muts.map a0o)),(.lst 1 (A.Columns.map AV.str)),(.bool A.Until)]) rfl nle rfl<|s_on rfl<|x8 (a0j (d1c _ _ er14) rfl .r rfl)<|s_on rfl<|o8 (.bool (!E)) rfl tr rfl<|o8 (.bool (!E)) rfl tr rfl<|y5<|?_;obtain rfl:=os hb1;exact ⟨[],[0,1],_,_,rfl,rfl,⟨.r,⟨.r,⟨.r,tr⟩⟩⟩,.r⟩
 ·rcases oi hf with ⟨c15,hf⟩ | ⟨c15,hf⟩
  ·refine y8 rfl c15<|sr<|l7 (.I 0) rfl<|l7 (.I 1) rfl<|dk<|a0b<|?_;obtain rfl:=os hf;exact y7 ⟨tr,⟨tr,tr⟩⟩ rfl .r
  ·refine y9 rfl (bf c15)<|a0k<|a0m<|sr<|?_
   obtain ⟨G,er17,hf⟩:=ob hf
   refine o8 (.agg [(.lst 4 (B.Tables.map x9))]) rfl nle rfl<|o8 (.agg [(.I A.Kind),(.str A.Table),(.str A.Name),(.lst 3 (A.Where.map a0d)),(.lst 3 (A.Row.map a0f)),(.lst 3 (A.Muts.map a0o)),(.lst 1 (A.Columns.map AV.str)),(.bool A.Until)]) rfl nle rfl<|x8 (a0j (c5m _ _ _ er17) rfl .r rfl)<|l7 (.I G) rfl<|l7 (.I 0) rfl<|dk<|a0b<|?_;obtain rfl:=os hf;exact y7 ⟨tr,⟨tr,tr⟩⟩ rfl .r

/- impl.ResultOK$1 -/
def c116:a0s :=
 (.seq (.reg (tm 2 (.c (.bool false)) .done))
 (.seq (.reg (tm 3 (.t 0) (tq 4 (.call 117 [(.t 3)]) (tq 5 (.not (.t 4)) (tm 2 (.t 5) .done)))))
 .ret))
theorem e7u:a1e Tryz.prog Tryz.f116 = some (c116.erase,[.mov (.t 2)],6):=by kernel_rfl
def b1u (A:Str):Option Bool :=
    (a7i A).bind fun B =>
    some (!B)
theorem c0x (A:Str) (r:Bool) (hf:b1u A = some r):a0a Tryz.prog 116 .flat [(.str A)] (.bool r):=by
  refine a0a.of_awp mixed Tryz.func116 e7u nle ?_
  rw [a0n]
  unfold b1u at hf
  unfold c116
  refine (show awp Tryz.prog false 0 _ (ofL [(0,(.str A))]) [] _ from ?_)
  refine o7 ?_
  refine a0r ?_
  refine x8 (a2w (.bool false) rfl) ?_
  refine y5 ?_
  refine a0m ?_
  refine o7 ?_
  refine a0r ?_
  obtain ⟨B,er3,hf⟩:=ob hf
  refine x8 (a2w (.str A) rfl) ?_
  refine x8 (a0j (a8t _ _ er3) rfl .r rfl) ?_
  refine x8 (o_q (.bool (!B)) rfl tr rfl) ?_
  refine x8 (a2w (.bool (!B)) rfl) ?_
  refine y5 ?_
  refine a0m ?_
  refine a0b ?_
  obtain rfl:=os hf
  exact y7 ⟨tr,tr⟩ rfl .r

/- slices.IndexFunc[[]impl.Row,impl.Row] -/
def e7v:a0s :=
 (.seq (.reg (tm 4 (.c (.int .i64 0)) .done))
 (.seq (.seq (.reg (tm 6 (.t 0) (tq 7 (.len (.t 6)) (tm 8 (.c (.int .i64 0)) .done))))
 (.block 0 (.loop (.seq (.reg (tq 9 (.bin .lss (.t 8) (.t 7)) .done))
 (.seq (.cond (.t 9) .skip
 (.exit 0))
 (.seq (.block 1 (.seq (.reg (tm 10 (.t 8) (tm 5 (.t 10) .done)))
 (.seq (.reg (tm 11 (.t 1) (tm 12 (.t 0) (tm 13 (.t 5) (tq 14 (.iaddr 2 (.t 12) (.t 13)) (tq 15 (.load 2 true (.t 14)) (tq 16 (.calv (.t 11) [(.t 15)]) .done)))))))
 (.cond (.t 16) (.seq (.reg (tm 17 (.t 5) (tm 4 (.t 17) .done)))
 .ret)
 .skip))))
 (.reg (tq 18 (.bin .add (.t 8) (.c (.int .i64 1))) (tm 8 (.t 18) .done)))))))))
 (.cut (.seq (.reg (tq 4 (.mov (.c (.int .i64 (-1)))) .done))
 .ret))))
theorem e7w:a1e Tryz.prog Tryz.f249 = some (e7v.erase,[.mov (.t 4)],19):=by kernel_rfl
def a1n (D:(b2j → Option Bool)):List b2j → Nat → Option (Fl Int Unit)
  | [],A =>
    some (.go ())
  | E :: xs,A =>
    (D E).bind fun F =>
    if F then
    some (.ret (A:Int))
    else
    a1n D xs (A + 1)

def a3r (B:(List b2j)) (D:(b2j → Option Bool)):Option Int :=
    (a1n D B 0).bind fun q => (match q with
    | .ret r => some r
    | .go _ =>
    some (-1))
theorem b1b (B:(List b2j)) (D:(b2j → Option Bool)) (r:Int) (hf:a3r B D = some r) (kf_f_2:Nat) (cf_f_2:List AV) (okf_f_2:b6u Tryz.prog kf_f_2 = true) (hcf_f_2:∀ h p,a3k h p cf_f_2 = some cf_f_2) (hrf_f_2:∀ f,a8a f cf_f_2 = cf_f_2) (hpf_f_2:∀ a0 r,D a0 = some r → a0a Tryz.prog kf_f_2 .flat ([(a5k a0)] ++ cf_f_2) (.bool r)):a0a Tryz.prog 249 .flat [(.lst 2 (B.map a5k)),(.fn kf_f_2 cf_f_2)] (.I r):=by
 refine a0a.of_awp mixed Tryz.func249 e7w nle ?_;rw [a0n];unfold a3r at hf;unfold e7v;refine (show awp Tryz.prog false 0 _ (ofL [(0,(.lst 2 (B.map a5k))),(1,(.fn kf_f_2 cf_f_2))]) [] _ from ?_);refine sr<|l7 (.I 0) rfl<|dk<|o7<|sr<|l7 (.lst 2 (B.map a5k)) rfl<|a1i (a1p (enc:=a5k) rfl) fun hl3 => l7 (.I 0) rfl<|dk<|?_
 obtain ⟨p24,hb1,hf⟩:=ob hf
 refine a2c (X:={q:Unit // p24 = .go q}) (fun q => ([],[])) ?_ ?_
 ·refine a1v (X:={q:Nat // a1n D (B.drop q) q = some p24}) (fun q => ([(0,(.lst 2 (B.map a5k))),(1,(.fn kf_f_2 cf_f_2)),(7,(.I (B.length:Int))),(8,(.I (q.1:Int)))],[])) (fun q => B.length - q.1) ⟨0,hb1⟩ ⟨[],[],_,_,rfl,rfl,⟨.r,⟨.of_eq (congrArg (AV.fn _) (hrf_f_2 _)),⟨.r,⟨.r,tr⟩⟩⟩⟩,.r⟩ ?_
  rintro ⟨A,hc1⟩
  have hc1:a1n D (B.drop A) A = some p24:=hc1
  refine (show awp Tryz.prog false 0 _ (ofL [(0,(.lst 2 (B.map a5k))),(1,(.fn kf_f_2 cf_f_2)),(7,(.I (B.length:Int))),(8,(.I (A:Int)))]) [] _ from ?_)
  rcases a6c B A with ⟨hie27,hd30⟩ | ⟨hlt25,E,hx26,hd30⟩
  ·rw [hd30,a1n.eq_1] at hc1
   have hq29:=dlf hie27
   refine sr<|o8 (.bool (decide ((A:Int) < (B.length:Int)))) rfl rfl rfl<|dk<|o7<|y9 rfl hq29<|a3i<|a3h<|a2e<|a3g<|?_;obtain rfl:=os hc1;exact a4b ⟨_,rfl⟩ ⟨[],[],_,_,rfl,rfl,tr,.r⟩
  ·rw [hd30,a1n.eq_2] at hc1
   have hq29:=dlt hlt25
   refine sr<|o8 (.bool (decide ((A:Int) < (B.length:Int)))) rfl rfl rfl<|dk<|o7<|y8 rfl hq29<|a0k<|a0m<|o7<|a3y<|sr<|l7 (.I (A:Int)) rfl<|l7 (.I (A:Int)) rfl<|dk<|sr<|?_
   obtain ⟨F,er33,hc1⟩:=ob hc1
   refine l7 (.fn kf_f_2 cf_f_2) rfl<|l7 (.lst 2 (B.map a5k)) rfl<|l7 (.I (A:Int)) rfl<|x8 (a1o (enc:=a5k) rfl rfl hx26)<|o8 (a5k E) rfl nle rfl<|x8 (b5p (v:=(.bool F)) rfl okf_f_2 hcf_f_2 (hpf_f_2 _ _ er33) rfl .r rfl)<|dk<|?_
   rcases oi hc1 with ⟨c34,hc1⟩ | ⟨c34,hc1⟩
   ·refine y8 rfl c34<|sr<|l7 (.I (A:Int)) rfl<|l7 (.I (A:Int)) rfl<|dk<|a0b<|?_;obtain rfl:=os hc1;obtain rfl:=os hf;exact y7 ⟨tr,tr⟩ rfl .r
   ·refine y9 rfl (bf c34)<|a0k<|a2y<|a0m<|a0r<|o8 (.I (w64 ((A:Int) + 1))) rfl rfl rfl<|l7 (.I (w64 ((A:Int) + 1))) rfl<|y5<|?_;exact a1z ⟨(A + 1),hc1⟩ (mul hlt25) ⟨[],[],_,_,rfl,rfl,⟨.r,⟨.of_eq (congrArg (AV.fn _) (hrf_f_2 _)),⟨.r,⟨.of_eq (congrArg (AV.int _) (a1x hlt25 hl3)),tr⟩⟩⟩⟩,.r⟩
 ·rintro ⟨_,rfl⟩
  refine sr<|l7 (.I (-1)) rfl<|dk<|a0b<|?_;obtain rfl:=os hf;exact y7 ⟨tr,tr⟩ rfl .r

/- slices.ContainsFunc[[]impl.Row,impl.Row] -/
def e7x:a0s :=
 (.seq (.reg (tm 4 (.c (.bool false)) .done))
 (.seq (.reg (tm 5 (.t 0) (tm 6 (.t 1) (tq 7 (.call 249 [(.t 5),(.t 6)]) (tq 8 (.bin .geq (.t 7) (.c (.int .i64 0))) (tm 4 (.t 8) .done))))))
 .ret))
theorem e7y:a1e Tryz.prog Tryz.f118 = some (e7x.erase,[.mov (.t 4)],9):=by kernel_rfl
def a3b (A:(List b2j)) (B:(b2j → Option Bool)):Option Bool :=
    (a3r A B).bind fun D =>
    some (decide (D ≥ 0))
theorem b0e (A:(List b2j)) (B:(b2j → Option Bool)) (r:Bool) (hf:a3b A B = some r) (kf_f_2:Nat) (cf_f_2:List AV) (okf_f_2:b6u Tryz.prog kf_f_2 = true) (hcf_f_2:∀ h p,a3k h p cf_f_2 = some cf_f_2) (hrf_f_2:∀ f,a8a f cf_f_2 = cf_f_2) (hpf_f_2:∀ a0 r,B a0 = some r → a0a Tryz.prog kf_f_2 .flat ([(a5k a0)] ++ cf_f_2) (.bool r)):a0a Tryz.prog 118 .flat [(.lst 2 (A.map a5k)),(.fn kf_f_2 cf_f_2)] (.bool r):=by
 refine a0a.of_awp mixed Tryz.func118 e7y nle ?_;rw [a0n];unfold a3b at hf;unfold e7x;refine (show awp Tryz.prog false 0 _ (ofL [(0,(.lst 2 (A.map a5k))),(1,(.fn kf_f_2 cf_f_2))]) [] _ from ?_);refine sr<|l7 (.bool false) rfl<|dk<|sr<|?_
 obtain ⟨D,er4,hf⟩:=ob hf
 refine l7 (.lst 2 (A.map a5k)) rfl<|l7 (.fn kf_f_2 cf_f_2) rfl<|x8 (a0j (b1b _ _ _ er4 kf_f_2 cf_f_2 okf_f_2 hcf_f_2 hrf_f_2 hpf_f_2) (a7r rfl (a7r (b7n hcf_f_2) rfl)) .r rfl)<|o8 (.bool (decide (D ≥ 0))) rfl rfl rfl<|l7 (.bool (decide (D ≥ 0))) rfl<|dk<|a0b<|?_;obtain rfl:=os hf;exact y7 ⟨tr,tr⟩ rfl .r

/- slices.IndexFunc[[][]impl.Atom,[]impl.Atom] -/
def d5m:a0s :=
 (.seq (.reg (tm 4 (.c (.int .i64 0)) .done))
 (.seq (.seq (.reg (tm 6 (.t 0) (tq 7 (.len (.t 6)) (tm 8 (.c (.int .i64 0)) .done))))
 (.block 0 (.loop (.seq (.reg (tq 9 (.bin .lss (.t 8) (.t 7)) .done))
 (.seq (.cond (.t 9) .skip
 (.exit 0))
 (.seq (.block 1 (.seq (.reg (tm 10 (.t 8) (tm 5 (.t 10) .done)))
 (.seq (.reg (tm 11 (.t 1) (tm 12 (.t 0) (tm 13 (.t 5) (tq 14 (.iaddr 1 (.t 12) (.t 13)) (tq 15 (.load 1 false (.t 14)) (tq 16 (.calv (.t 11) [(.t 15)]) .done)))))))
 (.cond (.t 16) (.seq (.reg (tm 17 (.t 5) (tm 4 (.t 17) .done)))
 .ret)
 .skip))))
 (.reg (tq 18 (.bin .add (.t 8) (.c (.int .i64 1))) (tm 8 (.t 18) .done)))))))))
 (.cut (.seq (.reg (tq 4 (.mov (.c (.int .i64 (-1)))) .done))
 .ret))))
theorem e7z:a1e Tryz.prog Tryz.f350 = some (d5m.erase,[.mov (.t 4)],19):=by kernel_rfl
def a1f (D:((List a1c) → Option Bool)):List (List a1c) → Nat → Option (Fl Int Unit)
  | [],A =>
    some (.go ())
  | E :: xs,A =>
    (D E).bind fun F =>
    if F then
    some (.ret (A:Int))
    else
    a1f D xs (A + 1)

def a3c (B:(List (List a1c))) (D:((List a1c) → Option Bool)):Option Int :=
    (a1f D B 0).bind fun q => (match q with
    | .ret r => some r
    | .go _ =>
    some (-1))
theorem b0f (B:(List (List a1c))) (D:((List a1c) → Option Bool)) (r:Int) (hf:a3c B D = some r) (kf_f_2:Nat) (cf_f_2:List AV) (okf_f_2:b6u Tryz.prog kf_f_2 = true) (hcf_f_2:∀ h p,a3k h p cf_f_2 = some cf_f_2) (hrf_f_2:∀ f,a8a f cf_f_2 = cf_f_2) (hpf_f_2:∀ a0 r,D a0 = some r → a0a Tryz.prog kf_f_2 .flat ([(.lst 3 (a0.map l9))] ++ cf_f_2) (.bool r)):a0a Tryz.prog 350 .flat [(.lst 1 (B.map (b5z 3 l9))),(.fn kf_f_2 cf_f_2)] (.I r):=by
 refine a0a.of_awp mixed Tryz.func350 e7z nle ?_;rw [a0n];unfold a3c at hf;unfold d5m;refine (show awp Tryz.prog false 0 _ (ofL [(0,(.lst 1 (B.map (b5z 3 l9)))),(1,(.fn kf_f_2 cf_f_2))]) [] _ from ?_);refine sr<|l7 (.I 0) rfl<|dk<|o7<|sr<|l7 (.lst 1 (B.map (b5z 3 l9))) rfl<|a1i (a1p (enc:=(b5z 3 l9)) rfl) fun hl3 => l7 (.I 0) rfl<|dk<|?_
 obtain ⟨p24,hb1,hf⟩:=ob hf
 refine a2c (X:={q:Unit // p24 = .go q}) (fun q => ([],[])) ?_ ?_
 ·refine a1v (X:={q:Nat // a1f D (B.drop q) q = some p24}) (fun q => ([(0,(.lst 1 (B.map (b5z 3 l9)))),(1,(.fn kf_f_2 cf_f_2)),(7,(.I (B.length:Int))),(8,(.I (q.1:Int)))],[])) (fun q => B.length - q.1) ⟨0,hb1⟩ ⟨[],[],_,_,rfl,rfl,⟨.r,⟨.of_eq (congrArg (AV.fn _) (hrf_f_2 _)),⟨.r,⟨.r,tr⟩⟩⟩⟩,.r⟩ ?_
  rintro ⟨A,hc1⟩
  have hc1:a1f D (B.drop A) A = some p24:=hc1
  refine (show awp Tryz.prog false 0 _ (ofL [(0,(.lst 1 (B.map (b5z 3 l9)))),(1,(.fn kf_f_2 cf_f_2)),(7,(.I (B.length:Int))),(8,(.I (A:Int)))]) [] _ from ?_)
  rcases a6c B A with ⟨hie27,hd30⟩ | ⟨hlt25,E,hx26,hd30⟩
  ·rw [hd30,a1f.eq_1] at hc1
   have hq29:=dlf hie27
   refine sr<|o8 (.bool (decide ((A:Int) < (B.length:Int)))) rfl rfl rfl<|dk<|o7<|y9 rfl hq29<|a3i<|a3h<|a2e<|a3g<|?_;obtain rfl:=os hc1;exact a4b ⟨_,rfl⟩ ⟨[],[],_,_,rfl,rfl,tr,.r⟩
  ·rw [hd30,a1f.eq_2] at hc1
   have hq29:=dlt hlt25
   refine sr<|o8 (.bool (decide ((A:Int) < (B.length:Int)))) rfl rfl rfl<|dk<|o7<|y8 rfl hq29<|a0k<|a0m<|o7<|a3y<|sr<|l7 (.I (A:Int)) rfl<|l7 (.I (A:Int)) rfl<|dk<|sr<|?_
   obtain ⟨F,er33,hc1⟩:=ob hc1
   refine l7 (.fn kf_f_2 cf_f_2) rfl<|l7 (.lst 1 (B.map (b5z 3 l9))) rfl<|l7 (.I (A:Int)) rfl<|x8 (a1o (enc:=(b5z 3 l9)) rfl rfl hx26)<|o8 (.lst 3 (E.map l9)) rfl ⟨rfl,rfl⟩ rfl<|x8 (b5p (v:=(.bool F)) rfl okf_f_2 hcf_f_2 (hpf_f_2 _ _ er33) rfl .r rfl)<|dk<|?_
   rcases oi hc1 with ⟨c34,hc1⟩ | ⟨c34,hc1⟩
   ·refine y8 rfl c34<|sr<|l7 (.I (A:Int)) rfl<|l7 (.I (A:Int)) rfl<|dk<|a0b<|?_;obtain rfl:=os hc1;obtain rfl:=os hf;exact y7 ⟨tr,tr⟩ rfl .r
   ·refine y9 rfl (bf c34)<|a0k<|a2y<|a0m<|a0r<|o8 (.I (w64 ((A:Int) + 1))) rfl rfl rfl<|l7 (.I (w64 ((A:Int) + 1))) rfl<|y5<|?_;exact a1z ⟨(A + 1),hc1⟩ (mul hlt25) ⟨[],[],_,_,rfl,rfl,⟨.r,⟨.of_eq (congrArg (AV.fn _) (hrf_f_2 _)),⟨.r,⟨.of_eq (congrArg (AV.int _) (a1x hlt25 hl3)),tr⟩⟩⟩⟩,.r⟩
 ·rintro ⟨_,rfl⟩
  refine sr<|l7 (.I (-1)) rfl<|dk<|a0b<|?_;obtain rfl:=os hf;exact y7 ⟨tr,tr⟩ rfl .r

/- slices.ContainsFunc[[][]impl.Atom,[]impl.Atom] -/
def e8a:a0s :=
 (.seq (.reg (tm 4 (.c (.bool false)) .done))
 (.seq (.reg (tm 5 (.t 0) (tm 6 (.t 1) (tq 7 (.call 350 [(.t 5),(.t 6)]) (tq 8 (.bin .geq (.t 7) (.c (.int .i64 0))) (tm 4 (.t 8) .done))))))
 .ret))
theorem e8b:a1e Tryz.prog Tryz.f250 = some (e8a.erase,[.mov (.t 4)],9):=by kernel_rfl
def a2o (A:(List (List a1c))) (B:((List a1c) → Option Bool)):Option Bool :=
    (a3c A B).bind fun D =>
    some (decide (D ≥ 0))
theorem a9o (A:(List (List a1c))) (B:((List a1c) → Option Bool)) (r:Bool) (hf:a2o A B = some r) (kf_f_2:Nat) (cf_f_2:List AV) (okf_f_2:b6u Tryz.prog kf_f_2 = true) (hcf_f_2:∀ h p,a3k h p cf_f_2 = some cf_f_2) (hrf_f_2:∀ f,a8a f cf_f_2 = cf_f_2) (hpf_f_2:∀ a0 r,B a0 = some r → a0a Tryz.prog kf_f_2 .flat ([(.lst 3 (a0.map l9))] ++ cf_f_2) (.bool r)):a0a Tryz.prog 250 .flat [(.lst 1 (A.map (b5z 3 l9))),(.fn kf_f_2 cf_f_2)] (.bool r):=by
 refine a0a.of_awp mixed Tryz.func250 e8b nle ?_;rw [a0n];unfold a2o at hf;unfold e8a;refine (show awp Tryz.prog false 0 _ (ofL [(0,(.lst 1 (A.map (b5z 3 l9)))),(1,(.fn kf_f_2 cf_f_2))]) [] _ from ?_);refine sr<|l7 (.bool false) rfl<|dk<|sr<|?_
 obtain ⟨D,er4,hf⟩:=ob hf
 refine l7 (.lst 1 (A.map (b5z 3 l9))) rfl<|l7 (.fn kf_f_2 cf_f_2) rfl<|x8 (a0j (b0f _ _ _ er4 kf_f_2 cf_f_2 okf_f_2 hcf_f_2 hrf_f_2 hpf_f_2) (a7r rfl (a7r (b7n hcf_f_2) rfl)) .r rfl)<|o8 (.bool (decide (D ≥ 0))) rfl rfl rfl<|l7 (.bool (decide (D ≥ 0))) rfl<|dk<|a0b<|?_;obtain rfl:=os hf;exact y7 ⟨tr,tr⟩ rfl .r

/- impl.isRowOf$1 -/
def e8c:a0s :=
 (.seq (.reg (tm 2 (.c (.bool false)) .done))
 (.seq (.reg (tm 3 (.t 0) (tq 4 (.call 168 [(.t 3)]) (tq 5 (.not (.t 4)) (tm 2 (.t 5) .done)))))
 .ret))
theorem e8d:a1e Tryz.prog Tryz.f251 = some (e8c.erase,[.mov (.t 2)],6):=by kernel_rfl
def b3b (A:(List a1c)):Option Bool :=
    (a8q A).bind fun B =>
    some (!B)
theorem c1z (A:(List a1c)) (r:Bool) (hf:b3b A = some r):a0a Tryz.prog 251 .flat [(.lst 3 (A.map l9))] (.bool r):=by
  refine a0a.of_awp mixed Tryz.func251 e8d nle ?_
  rw [a0n]
  unfold b3b at hf
  unfold e8c
  refine (show awp Tryz.prog false 0 _ (ofL [(0,(.lst 3 (A.map l9)))]) [] _ from ?_)
  refine o7 ?_
  refine a0r ?_
  refine x8 (a2w (.bool false) rfl) ?_
  refine y5 ?_
  refine a0m ?_
  refine o7 ?_
  refine a0r ?_
  obtain ⟨B,er3,hf⟩:=ob hf
  refine x8 (a2w (.lst 3 (A.map l9)) rfl) ?_
  refine x8 (a0j (b2o _ _ er3) rfl .r rfl) ?_
  refine x8 (o_q (.bool (!B)) rfl tr rfl) ?_
  refine x8 (a2w (.bool (!B)) rfl) ?_
  refine y5 ?_
  refine a0m ?_
  refine a0b ?_
  obtain rfl:=os hf
  exact y7 ⟨tr,tr⟩ rfl .r

/- impl.isRowOf -/
def e8e:a0s :=
 (.seq (.reg (tq 2 (.box 2 (.t 0)) (tm 4 (.c (.bool false)) .done)))
 (.seq (.reg (tq 5 (.faddr 1 (.t 2)) (tq 6 (.load 1 false (.t 5)) (tq 7 (.len (.t 6)) (tm 8 (.t 1) (tq 9 (.bin .eql (.t 7) (.t 8)) (tm 10 (.t 9) (tg 11 10 true (.faddr 1 (.t 2)) (tg 12 10 true (.load 1 false (.t 11)) (tg 13 10 true (.call 250 [(.t 12),(.c (.fn 251 []))]) (tg 14 10 true (.not (.t 13)) (tq 15 (.pick (.t 10) (.t 14) (.c (.bool false))) (tm 4 (.t 15) .done)))))))))))))
 .ret))
theorem e8f:a1e Tryz.prog Tryz.f120 = some (e8e.erase,[.mov (.t 4)],16):=by kernel_rfl
def b3c (B:b2j) (A:Int):Option Bool :=
    if ((B.Cells.length:Int) == A) then
    (a2o B.Cells b3b).bind fun D =>
    some (!D)
    else
    some false
theorem c5n (B:b2j) (A:Int) (r:Bool) (hf:b3c B A = some r):a0a Tryz.prog 120 .flat [(a5k B),(.I A)] (.bool r):=by
 refine a0a.of_awp mixed Tryz.func120 e8f nle ?_;rw [a0n];unfold b3c at hf;unfold e8e;refine (show awp Tryz.prog false 0 _ (ofL [(0,(a5k B)),(1,(.I A))]) [] _ from ?_);refine sr<|x8 (a1j (j:=0) (c:=(.agg [(.I B.Id),(.lst 1 (B.Cells.map (b5z 3 l9)))])) rfl tr rfl rfl)<|l7 (.bool false) rfl<|dk<|sr<|?_
 rcases oi hf with ⟨c4,hf⟩ | ⟨c4,hf⟩
 ·obtain ⟨D,er6,hf⟩:=ob hf
  refine o8 (.ptr 0 0 1) rfl tr rfl<|o8 (.lst 1 (B.Cells.map (b5z 3 l9))) rfl nle rfl<|a1i (a1p (enc:=(b5z 3 l9)) rfl) fun hl3 => l7 (.I A) rfl<|o8 (.bool ((B.Cells.length:Int) == A)) rfl rfl rfl<|l7 (.bool ((B.Cells.length:Int) == A)) rfl<|a0i (s:=10) (b:=true) rfl c4<|s_on rfl<|o8 (.ptr 0 0 1) rfl tr rfl<|s_on rfl<|o8 (.lst 1 (B.Cells.map (b5z 3 l9))) rfl nle rfl<|s_on rfl<|?_;refine x8 (a0j (a9o _ _ _ er6 251 [] (by kernel_rfl) (fun _ _ => rfl) (fun _ => rfl) (fun a0 r h => c1z a0 r h)) rfl .r rfl) ?_;refine s_on rfl<|o8 (.bool (!D)) rfl tr rfl<|?_
  refine o8 (.bool (!D)) rfl tr rfl<|l7 (.bool (!D)) rfl<|dk<|a0b<|?_;obtain rfl:=os hf;exact y7 ⟨tr,tr⟩ rfl .r
 ·refine o8 (.ptr 0 0 1) rfl tr rfl<|o8 (.lst 1 (B.Cells.map (b5z 3 l9))) rfl nle rfl<|a1i (a1p (enc:=(b5z 3 l9)) rfl) fun hl3 => l7 (.I A) rfl<|o8 (.bool ((B.Cells.length:Int) == A)) rfl rfl rfl<|l7 (.bool ((B.Cells.length:Int) == A)) rfl<|a0i (s:=10) (b:=false) rfl (bf c4)<|o6 rfl rfl<|o6 rfl rfl<|o6 rfl rfl<|o6 rfl rfl<|o8 (.bool false) rfl tr rfl<|l7 (.bool false) rfl<|dk<|a0b<|?_;obtain rfl:=os hf;exact y7 ⟨tr,tr⟩ rfl .r

/- impl.ResultOK$2 -/
def c119:a0s :=
 (.seq (.reg (tq 2 (.box 2 (.t 0)) (tm 3 (.c (.bool false)) .done)))
 (.seq (.reg (tq 4 (.load 2 true (.t 2)) (tq 5 (.faddr 3 (.t 1)) (tq 6 (.load 1 false (.t 5)) (tq 7 (.len (.t 6)) (tq 8 (.call 120 [(.t 4),(.t 7)]) (tq 9 (.not (.t 8)) (tm 3 (.t 9) .done))))))))
 .ret))
theorem e8g:a1e Tryz.prog Tryz.f119 = some (c119.erase,[.mov (.t 3)],10):=by kernel_rfl
def b1v (A:b2j) (B:b3n):Option Bool :=
    (b3c A (B.Columns.length:Int)).bind fun D =>
    some (!D)
theorem c0y (A:b2j) (B:b3n) (r:Bool) (hf:b1v A B = some r):a0a Tryz.prog 119 .flat [(a5k A),(.iptr (b1y B) 0)] (.bool r):=by
  refine a0a.of_awp mixed Tryz.func119 e8g nle ?_
  rw [a0n]
  unfold b1v at hf
  unfold c119
  refine (show awp Tryz.prog false 0 _ (ofL [(0,(a5k A)),(1,(.iptr (b1y B) 0))]) [] _ from ?_)
  refine o7 ?_
  refine a0r ?_
  refine x8 (a1j (j:=0) (c:=(.agg [(.I A.Id),(.lst 1 (A.Cells.map (b5z 3 l9)))])) rfl tr rfl rfl) ?_
  refine x8 (a2w (.bool false) rfl) ?_
  refine y5 ?_
  refine a0m ?_
  refine o7 ?_
  refine a0r ?_
  obtain ⟨D,er5,hf⟩:=ob hf
  refine x8 (o_q (.agg [(.I A.Id),(.lst 1 (A.Cells.map (b5z 3 l9)))]) rfl nle rfl) ?_
  refine x8 (o_q (.iptr (b1y B) 3) rfl tr rfl) ?_
  refine x8 (o_q (.lst 1 (B.Columns.map AV.str)) rfl nle rfl) ?_
  refine a1i (a1p (enc:=AV.str) rfl) fun hl3 => ?_
  refine x8 (a0j (c5n _ _ _ er5) rfl .r rfl) ?_
  refine x8 (o_q (.bool (!D)) rfl tr rfl) ?_
  refine x8 (a2w (.bool (!D)) rfl) ?_
  refine y5 ?_
  refine a0m ?_
  refine a0b ?_
  obtain rfl:=os hf
  exact y7 ⟨tr,tr⟩ rfl .r

/- impl.ResultOK -/
def c30:a0s :=
 (.seq (.reg (tq 1 (.box 5 (.t 0)) (tm 2 (.c (.bool false)) .done)))
 (.seq (.seq (.reg (tq 3 (.faddr 0 (.t 1)) (tq 4 (.load 1 false (.t 3)) (tq 5 (.bin .neq (.t 4) (.c (.int .i64 0))) .done))))
 (.cond (.t 5) (.seq (.reg (tq 6 (.faddr 0 (.t 1)) (tq 7 (.load 1 false (.t 6)) (tq 8 (.call 114 [(.t 7),(.c (.int .i64 1)),(.c (.int .i64 19))]) (tm 9 (.t 8) (tg 10 9 true (.faddr 1 (.t 1)) (tg 11 9 true (.load 1 false (.t 10)) (tg 12 9 true (.bin .eql (.t 11) (.c (.int .i64 0))) (tq 13 (.pick (.t 9) (.t 12) (.c (.bool false))) (tm 14 (.t 13) (tg 15 14 true (.faddr 2 (.t 1)) (tg 16 14 true (.load 1 false (.t 15)) (tg 17 14 true (.bin .eql (.t 16) (.c (.int .i64 0))) (tq 18 (.pick (.t 14) (.t 17) (.c (.bool false))) (tm 19 (.t 18) (tg 20 19 true (.faddr 3 (.t 1)) (tg 21 19 true (.load 1 false (.t 20)) (tg 22 19 true (.len (.t 21)) (tg 23 19 true (.bin .eql (.t 22) (.c (.int .i64 0))) (tq 24 (.pick (.t 19) (.t 23) (.c (.bool false))) (tm 25 (.t 24) (tg 26 25 true (.faddr 4 (.t 1)) (tg 27 25 true (.load 1 false (.t 26)) (tg 28 25 true (.len (.t 27)) (tg 29 25 true (.bin .eql (.t 28) (.c (.int .i64 0))) (tq 30 (.pick (.t 25) (.t 29) (.c (.bool false))) (tm 2 (.t 30) .done)))))))))))))))))))))))))))
 .ret)
 .skip))
 (.seq (.seq (.reg (tq 31 (.faddr 1 (.t 1)) (tq 32 (.load 1 false (.t 31)) (tq 33 (.call 114 [(.t 32),(.c (.int .i64 0)),(.c (.int .i64 1000))]) (tq 34 (.not (.t 33)) (tm 35 (.t 34) (tg 36 35 false (.faddr 2 (.t 1)) (tg 37 35 false (.load 1 false (.t 36)) (tg 38 35 false (.call 114 [(.t 37),(.c (.int .i64 0)),(.c (.int .i64 1000000))]) (tg 39 35 false (.not (.t 38)) (tq 40 (.pick (.t 35) (.c (.bool true)) (.t 39)) (tm 41 (.t 40) (tg 42 41 false (.faddr 3 (.t 1)) (tg 43 41 false (.load 1 false (.t 42)) (tg 44 41 false (.len (.t 43)) (tg 45 41 false (.bin .gtr (.t 44) (.c (.int .i64 7))) (tq 46 (.pick (.t 41) (.c (.bool true)) (.t 45)) (tm 47 (.t 46) (tg 48 47 false (.faddr 4 (.t 1)) (tg 49 47 false (.load 1 false (.t 48)) (tg 50 47 false (.len (.t 49)) (tg 51 47 false (.bin .gtr (.t 50) (.c (.int .i64 12))) (tq 52 (.pick (.t 47) (.c (.bool true)) (.t 51)) .done)))))))))))))))))))))))
 (.cut (.cond (.t 52) (.seq (.reg (tm 2 (.c (.bool false)) .done))
 .ret)
 .skip)))
 (.seq (.seq (.reg (tq 53 (.faddr 3 (.t 1)) (tq 54 (.load 1 false (.t 53)) (tq 55 (.call 115 [(.t 54),(.c (.fn 116 []))]) .done))))
 (.cond (.t 55) (.seq (.reg (tm 2 (.c (.bool false)) .done))
 .ret)
 .skip))
 (.seq (.reg (tq 56 (.faddr 4 (.t 1)) (tq 57 (.load 1 false (.t 56)) (tq 58 (.mkfn 119 [(.t 1)]) (tq 59 (.call 118 [(.t 57),(.t 58)]) (tq 60 (.not (.t 59)) (tm 2 (.t 60) .done)))))))
 .ret)))))
theorem e8x:a1e Tryz.prog Tryz.f30 = some (c30.erase,[.mov (.t 2)],61):=by kernel_rfl
def b0a (A:b3n):Option Bool :=
    if (A.Code != 0) then
    (a3t A.Code 1 19).bind fun B =>
    some (bif (bif (bif (bif B then (A.Count == 0) else false) then (A.Id == 0) else false) then ((A.Columns.length:Int) == 0) else false) then ((A.Rows.length:Int) == 0) else false)
    else
    (((a3t A.Count 0 1000).bind fun F =>
    if (!F) then
    some true
    else
    (a3t A.Id 0 1000000).bind fun D =>
    some (bif (bif (!D) then true else (decide ((A.Columns.length:Int) > 7))) then true else (decide ((A.Rows.length:Int) > 12))):Option Bool)).bind fun E =>
    if E then
    some false
    else
    (a2g A.Columns b1u).bind fun H =>
    if H then
    some false
    else
    (a3b A.Rows (fun a0 => b1v a0 A)).bind fun G =>
    some (!G)
theorem b7h (A:b3n) (r:Bool) (hf:b0a A = some r):a0a Tryz.prog 30 .flat [(b1y A)] (.bool r):=by
 refine a0a.of_awp mixed Tryz.func30 e8x nle ?_;rw [a0n];unfold b0a at hf;unfold c30;refine (show awp Tryz.prog false 0 _ (ofL [(0,(b1y A))]) [] _ from ?_);refine sr<|x8 (a1j (j:=0) (c:=(.agg [(.I A.Code),(.I A.Count),(.I A.Id),(.lst 1 (A.Columns.map AV.str)),(.lst 2 (A.Rows.map a5k))])) rfl tr rfl rfl)<|l7 (.bool false) rfl<|dk<|o7<|sr<|o8 (.ptr 0 0 0) rfl tr rfl<|o8 (.I A.Code) rfl nle rfl<|o8 (.bool (A.Code != 0)) rfl rfl rfl<|dk<|?_
 rcases oi hf with ⟨c2,hf⟩ | ⟨c2,hf⟩
 ·refine y8 rfl c2<|sr<|o8 (.ptr 0 0 0) rfl tr rfl<|o8 (.I A.Code) rfl nle rfl<|?_
  obtain ⟨B,er4,hf⟩:=ob hf
  refine x8 (a0j (a3x _ _ _ _ er4) rfl .r rfl)<|l7 (.bool B) rfl<|?_;refine s_g (v:=B) (.ptr 0 0 1) rfl (fun hv => by (try simp only [o9 hv]);exact ⟨rfl,tr,rfl⟩) ?_;refine s_g (v:=B) (.I A.Count) rfl (fun hv => by (try simp only [o9 hv]);exact ⟨rfl,nle,rfl⟩) ?_;refine s_g (v:=B) (.bool (A.Count == 0)) rfl (fun hv => by (try simp only [o9 hv]);exact ⟨rfl,rfl,rfl⟩) ?_;refine a2a (x:=(A.Count == 0)) (y:=false) rfl (fun hv => by (try simp only [o9 hv]);rfl) (fun hv => by (try simp only [o9 hv]);rfl) ?_;refine l7 (.bool (bif B then (A.Count == 0) else false)) rfl ?_;refine s_g (v:=(bif B then (A.Count == 0) else false)) (.ptr 0 0 2) rfl (fun hv => by (try simp only [o9 hv]);exact ⟨rfl,tr,rfl⟩) ?_
  refine s_g (v:=(bif B then (A.Count == 0) else false)) (.I A.Id) rfl (fun hv => by (try simp only [o9 hv]);exact ⟨rfl,nle,rfl⟩) ?_;refine s_g (v:=(bif B then (A.Count == 0) else false)) (.bool (A.Id == 0)) rfl (fun hv => by (try simp only [o9 hv]);exact ⟨rfl,rfl,rfl⟩) ?_;refine a2a (x:=(A.Id == 0)) (y:=false) rfl (fun hv => by (try simp only [o9 hv]);rfl) (fun hv => by (try simp only [o9 hv]);rfl) ?_;refine l7 (.bool (bif (bif B then (A.Count == 0) else false) then (A.Id == 0) else false)) rfl ?_;refine s_g (v:=(bif (bif B then (A.Count == 0) else false) then (A.Id == 0) else false)) (.ptr 0 0 3) rfl (fun hv => by (try simp only [o9 hv]);exact ⟨rfl,tr,rfl⟩) ?_
  refine s_g (v:=(bif (bif B then (A.Count == 0) else false) then (A.Id == 0) else false)) (.lst 1 (A.Columns.map AV.str)) rfl (fun hv => by (try simp only [o9 hv]);exact ⟨rfl,nle,rfl⟩) ?_;refine s_g (v:=(bif (bif B then (A.Count == 0) else false) then (A.Id == 0) else false)) (.I (A.Columns.length:Int)) rfl (fun hv => by (try simp only [o9 hv]);exact ⟨rfl,tr,lenV _ _⟩) ?_;refine s_g (v:=(bif (bif B then (A.Count == 0) else false) then (A.Id == 0) else false)) (.bool ((A.Columns.length:Int) == 0)) rfl (fun hv => by (try simp only [o9 hv]);exact ⟨rfl,rfl,rfl⟩) ?_;refine a2a (x:=((A.Columns.length:Int) == 0)) (y:=false) rfl (fun hv => by (try simp only [o9 hv]);rfl) (fun hv => by (try simp only [o9 hv]);rfl) ?_
  refine l7 (.bool (bif (bif (bif B then (A.Count == 0) else false) then (A.Id == 0) else false) then ((A.Columns.length:Int) == 0) else false)) rfl ?_;refine s_g (v:=(bif (bif (bif B then (A.Count == 0) else false) then (A.Id == 0) else false) then ((A.Columns.length:Int) == 0) else false)) (.ptr 0 0 4) rfl (fun hv => by (try simp only [o9 hv]);exact ⟨rfl,tr,rfl⟩) ?_;refine s_g (v:=(bif (bif (bif B then (A.Count == 0) else false) then (A.Id == 0) else false) then ((A.Columns.length:Int) == 0) else false)) (.lst 2 (A.Rows.map a5k)) rfl (fun hv => by (try simp only [o9 hv]);exact ⟨rfl,nle,rfl⟩) ?_;refine s_g (v:=(bif (bif (bif B then (A.Count == 0) else false) then (A.Id == 0) else false) then ((A.Columns.length:Int) == 0) else false)) (.I (A.Rows.length:Int)) rfl (fun hv => by (try simp only [o9 hv]);exact ⟨rfl,tr,lenV _ _⟩) ?_
  refine s_g (v:=(bif (bif (bif B then (A.Count == 0) else false) then (A.Id == 0) else false) then ((A.Columns.length:Int) == 0) else false)) (.bool ((A.Rows.length:Int) == 0)) rfl (fun hv => by (try simp only [o9 hv]);exact ⟨rfl,rfl,rfl⟩) ?_;refine a2a (x:=((A.Rows.length:Int) == 0)) (y:=false) rfl (fun hv => by (try simp only [o9 hv]);rfl) (fun hv => by (try simp only [o9 hv]);rfl) ?_;refine l7 (.bool (bif (bif (bif (bif B then (A.Count == 0) else false) then (A.Id == 0) else false) then ((A.Columns.length:Int) == 0) else false) then ((A.Rows.length:Int) == 0) else false)) rfl<|dk<|a0b<|?_;obtain rfl:=os hf;exact y7 ⟨tr,tr⟩ rfl .r
 ·refine y9 rfl (bf c2)<|a0k<|a0m<|o7<|o7<|?_
  obtain ⟨E,hb1,hf⟩:=ob hf
  refine a1k ([(1,(.ptr 0 0 0)),(52,(.bool E))],[.box 5 (.agg [(.I A.Code),(.I A.Count),(.I A.Id),(.lst 1 (A.Columns.map AV.str)),(.lst 2 (A.Rows.map a5k))])]) ?_ ?_
  ·refine a0r<|o8 (.ptr 0 0 1) rfl tr rfl<|o8 (.I A.Count) rfl nle rfl<|?_
   obtain ⟨F,er17,hb1⟩:=ob hb1
   refine x8 (a0j (a3x _ _ _ _ er17) rfl .r rfl)<|o8 (.bool (!F)) rfl tr rfl<|l7 (.bool (!F)) rfl<|?_
   rcases oi hb1 with ⟨c18,hb1⟩ | ⟨c18,hb1⟩
   ·refine a0i (s:=35) (b:=true) rfl c18<|o6 rfl rfl<|o6 rfl rfl<|o6 rfl rfl<|o6 rfl rfl<|o8 (.bool true) rfl tr rfl<|l7 (.bool true) rfl<|o6 rfl rfl<|o6 rfl rfl<|o6 rfl rfl<|o6 rfl rfl<|o8 (.bool true) rfl tr rfl<|l7 (.bool true) rfl<|o6 rfl rfl<|o6 rfl rfl<|o6 rfl rfl<|o6 rfl rfl<|o8 (.bool true) rfl tr rfl<|y5<|?_;obtain rfl:=os hb1;exact ⟨[],[0],_,_,rfl,rfl,⟨.r,⟨.r,tr⟩⟩,.r⟩
   ·refine a0i (s:=35) (b:=false) rfl (bf c18)<|s_on rfl<|o8 (.ptr 0 0 2) rfl tr rfl<|s_on rfl<|o8 (.I A.Id) rfl nle rfl<|s_on rfl<|?_
    obtain ⟨D,er20,hb1⟩:=ob hb1
    refine x8 (a0j (a3x _ _ _ _ er20) rfl .r rfl)<|s_on rfl<|o8 (.bool (!D)) rfl tr rfl<|o8 (.bool (!D)) rfl tr rfl<|l7 (.bool (!D)) rfl<|?_;refine s_g (v:=(!D)) (.ptr 0 0 3) rfl (fun hv => by (try simp only [o9 hv]);exact ⟨rfl,tr,rfl⟩) ?_;refine s_g (v:=(!D)) (.lst 1 (A.Columns.map AV.str)) rfl (fun hv => by (try simp only [o9 hv]);exact ⟨rfl,nle,rfl⟩) ?_;refine s_g (v:=(!D)) (.I (A.Columns.length:Int)) rfl (fun hv => by (try simp only [o9 hv]);exact ⟨rfl,tr,lenV _ _⟩) ?_;refine s_g (v:=(!D)) (.bool (decide ((A.Columns.length:Int) > 7))) rfl (fun hv => by (try simp only [o9 hv]);exact ⟨rfl,rfl,rfl⟩) ?_
    refine a2a (x:=true) (y:=(decide ((A.Columns.length:Int) > 7))) rfl (fun hv => by (try simp only [o9 hv]);rfl) (fun hv => by (try simp only [o9 hv]);rfl) ?_;refine l7 (.bool (bif (!D) then true else (decide ((A.Columns.length:Int) > 7)))) rfl ?_;refine s_g (v:=(bif (!D) then true else (decide ((A.Columns.length:Int) > 7)))) (.ptr 0 0 4) rfl (fun hv => by (try simp only [o9 hv]);exact ⟨rfl,tr,rfl⟩) ?_;refine s_g (v:=(bif (!D) then true else (decide ((A.Columns.length:Int) > 7)))) (.lst 2 (A.Rows.map a5k)) rfl (fun hv => by (try simp only [o9 hv]);exact ⟨rfl,nle,rfl⟩) ?_;refine s_g (v:=(bif (!D) then true else (decide ((A.Columns.length:Int) > 7)))) (.I (A.Rows.length:Int)) rfl (fun hv => by (try simp only [o9 hv]);exact ⟨rfl,tr,lenV _ _⟩) ?_
    refine s_g (v:=(bif (!D) then true else (decide ((A.Columns.length:Int) > 7)))) (.bool (decide ((A.Rows.length:Int) > 12))) rfl (fun hv => by (try simp only [o9 hv]);exact ⟨rfl,rfl,rfl⟩) ?_;refine a2a (x:=true) (y:=(decide ((A.Rows.length:Int) > 12))) rfl (fun hv => by (try simp only [o9 hv]);rfl) (fun hv => by (try simp only [o9 hv]);rfl) ?_;refine y5 ?_;obtain rfl:=os hb1;exact ⟨[],[0],_,_,rfl,rfl,⟨.r,⟨.r,tr⟩⟩,.r⟩
  ·rcases oi hf with ⟨c23,hf⟩ | ⟨c23,hf⟩
   ·refine y8 rfl c23<|sr<|l7 (.bool false) rfl<|dk<|a0b<|?_;obtain rfl:=os hf;exact y7 ⟨tr,tr⟩ rfl .r
   ·refine y9 rfl (bf c23)<|a0k<|a0m<|o7<|sr<|?_
    obtain ⟨H,er25,hf⟩:=ob hf
    refine o8 (.ptr 0 0 3) rfl tr rfl<|o8 (.lst 1 (A.Columns.map AV.str)) rfl nle rfl<|?_;refine x8 (a0j (a5n _ _ _ er25 116 [] (by kernel_rfl) (fun _ _ => rfl) (fun _ => rfl) (fun a0 r h => c0x a0 r h)) rfl .r rfl) ?_;refine dk<|?_
    rcases oi hf with ⟨c26,hf⟩ | ⟨c26,hf⟩
    ·refine y8 rfl c26<|sr<|l7 (.bool false) rfl<|dk<|a0b<|?_;obtain rfl:=os hf;exact y7 ⟨tr,tr⟩ rfl .r
    ·refine y9 rfl (bf c26)<|a0k<|a0m<|sr<|?_
     obtain ⟨G,er28,hf⟩:=ob hf
     refine o8 (.ptr 0 0 4) rfl tr rfl<|o8 (.lst 2 (A.Rows.map a5k)) rfl nle rfl<|o8 (.fn 119 [(.ptr 0 0 0)]) rfl tr rfl<|?_;refine x8 (a0j (b0e _ _ _ er28 119 [(.iptr (b1y A) 0)] (by kernel_rfl) (fun _ _ => rfl) (fun _ => rfl) (fun a0 r h => c0y a0 A r h)) rfl .r rfl) ?_;refine o8 (.bool (!G)) rfl tr rfl<|l7 (.bool (!G)) rfl<|dk<|a0b<|?_;obtain rfl:=os hf;exact y7 ⟨tr,tr⟩ rfl .r

/- laws.FnOps -/
def c4:a0s :=
 (.seq (.reg (tm 2 (.c (.bool false)) .done))
 (.seq (.seq (.reg (tm 10 (.t 0) (tq 11 (.len (.t 10)) (tq 12 (.bin .gtr (.t 11) (.c (.int .i64 1048576))) .done))))
 (.cond (.t 12) (.seq (.reg (tm 2 (.c (.bool true)) .done))
 .ret)
 .skip))
 (.seq (.reg (tq 13 (.call 25 []) (tq 3 (.box 1 (.c (.agg [.nil]))) (.q ⟨none,none,.store 1 (.t 3) (.t 13)⟩
 .done))))
 (.seq (.reg (tm 14 (.t 0) (tq 15 (.call 26 [(.t 14)]) (tm 4 (.t 15) .done))))
 (.seq (.seq (.reg (tm 5 (.c (.int .i64 0)) .done))
 (.block 0 (.loop (.seq (.seq (.reg (tm 16 (.t 5) (tm 17 (.t 4) (tq 18 (.len (.t 17)) (tq 19 (.bin .lss (.t 16) (.t 18)) .done)))))
 (.cond (.t 19) .skip
 (.exit 0)))
 (.seq (.block 1 (.seq (.reg (tq 23 (.load 1 true (.t 3)) (tm 24 (.t 4) (tm 25 (.t 5) (tq 26 (.iaddr 8 (.t 24) (.t 25)) (tq 27 (.load 8 true (.t 26)) (.l ⟨(some 28),none,.call 27 [(.t 23),(.t 27)]⟩ []
 (tm 22 (.t 28) (tq 29 (.extract 0 (.t 22)) (tq 30 (.extract 1 (.t 22)) (tm 6 (.t 29) (tm 7 (.t 30) .done))))) .non)))))))
 (.seq (.reg (tq 32 (.load 1 true (.t 3)) (tm 33 (.t 4) (tm 34 (.t 5) (tq 35 (.iaddr 8 (.t 33) (.t 34)) (tq 36 (.load 8 true (.t 35)) (.l ⟨(some 37),none,.call 28 [(.t 32),(.t 36)]⟩ []
 (tm 31 (.t 37) (tq 38 (.extract 0 (.t 31)) (tq 39 (.extract 1 (.t 31)) (tm 8 (.t 38) (tm 9 (.t 39) .done))))) .non)))))))
 (.seq (.reg (tm 40 (.t 7) (tq 41 (.bin .neq (.t 40) (.c (.int .i64 0))) (tm 42 (.t 41) (tg 43 42 false (.mov (.t 6)) (tg 44 42 false (.mov (.t 8)) (tg 45 42 false (.bin .neq (.t 43) (.t 44)) (tq 46 (.pick (.t 42) (.c (.bool true)) (.t 45)) (tm 47 (.t 46) (tg 48 47 false (.mov (.t 4)) (tg 49 47 false (.mov (.t 5)) (tg 50 47 false (.iaddr 8 (.t 48) (.t 49)) (tg 51 47 false (.load 8 true (.t 50)) (tg 52 47 false (.call 29 [(.t 51)]) (tg 53 47 false (.not (.t 52)) (tq 54 (.pick (.t 47) (.c (.bool true)) (.t 53)) .done))))))))))))))))
 (.cut (.cond (.t 54) (.seq (.reg (tm 2 (.c (.bool false)) .done))
 .ret)
 .skip))))))
 (.reg (tm 20 (.t 5) (tq 21 (.bin .add (.t 20) (.c (.int .i64 1))) (tm 5 (.t 21) .done)))))))))
 (.cut (.seq (.reg (tq 55 (.build [(.int .i64 0),(.str []),(.str []),.nil,.nil,.nil,.nil,(.bool false)] [(0,1,(.c (.int .i64 7)))]) (tq 56 (.call 29 [(.t 55)]) (tm 57 (.t 56) (tg 58 57 true (.build [(.int .i64 0),(.str []),(.str []),.nil,.nil,.nil,.nil,(.bool false)] [(0,1,(.c (.int .i64 7))),(1,1,(.c (.str [112,111,114,116])))]) (tg 59 57 true (.call 29 [(.t 58)]) (tg 60 57 true (.not (.t 59)) (tq 61 (.pick (.t 57) (.t 60) (.c (.bool false))) (tm 62 (.t 61) (tg 63 62 true (.build [(.int .i64 0),(.int .i64 0),(.int .i64 0),.nil,.nil] [(0,1,(.c (.int .i64 13)))]) (tg 64 62 true (.call 30 [(.t 63)]) (tq 65 (.pick (.t 62) (.t 64) (.c (.bool false))) (tm 66 (.t 65) (tg 67 66 true (.build [(.int .i64 0),(.int .i64 0),(.int .i64 0),.nil,.nil] [(0,1,(.c (.int .i64 13))),(2,1,(.c (.int .i64 1)))]) (tg 68 66 true (.call 30 [(.t 67)]) (tg 69 66 true (.not (.t 68)) (tq 70 (.pick (.t 66) (.t 69) (.c (.bool false))) (tm 2 (.t 70) .done))))))))))))))))))
 .ret)))))))
theorem fc4:a1e Tryz.prog Tryz.f4 = some (c4.erase,[.mov (.t 2)],71):=by kernel_rfl
def a7f (G:a2q):List GOp → Option (Fl Bool Unit)
  | [] =>
    some (.go ())
  | H :: xs =>
    (b4a G H).bind fun A =>
    (b4c G H).bind fun F =>
    ((if (bif (A.2 != 0) then true else (A.1 != F.1)) then
    some true
    else
    (b2e H).bind fun L =>
    some (!L):Option Bool)).bind fun N =>
    if N then
    some (.ret false)
    else
    a7f G xs 

def b6x (D:(List Int)):Option Bool :=
    if (decide ((D.length:Int) > 1048576)) then
    some true
    else
    (a6e).bind fun G =>
    (b4w D).bind fun E =>
    (a7f G E ).bind fun q => (match q with
    | .ret r => some r
    | .go _ =>
    (b2e (⟨7,[],[],[],[],[],[],false⟩:GOp)).bind fun O =>
    if O then
    (b2e (⟨7,[112,111,114,116],[],[],[],[],[],false⟩:GOp)).bind fun J =>
    if (!J) then
    (b0a (⟨13,0,0,[],[]⟩:b3n)).bind fun M =>
    if M then
    (b0a (⟨13,0,1,[],[]⟩:b3n)).bind fun K =>
    some (!K)
    else
    some false
    else
    some false
    else
    some false)
theorem c9k (D:(List Int)) (r:Bool) (hf:b6x D = some r):a0a Tryz.prog 4 .flat [(.lst 1 (D.map a0c))] (.bool r):=by
 refine a0a.of_awp mixed Tryz.func4 fc4 nle ?_;rw [a0n];unfold b6x at hf;unfold c4;refine (show awp Tryz.prog false 0 _ (ofL [(0,(.lst 1 (D.map a0c)))]) [] _ from ?_);refine sr<|l7 (.bool false) rfl<|dk<|o7<|sr<|l7 (.lst 1 (D.map a0c)) rfl<|a1i (a1p (enc:=a0c) rfl) fun hl2 => o8 (.bool (decide ((D.length:Int) > 1048576))) rfl rfl rfl<|dk<|?_
 rcases oi hf with ⟨c3,hf⟩ | ⟨c3,hf⟩
 ·refine y8 rfl c3<|sr<|l7 (.bool true) rfl<|dk<|a0b<|?_;obtain rfl:=os hf;exact y7 ⟨tr,tr⟩ rfl .r
 ·refine y9 rfl (bf c3)<|a0k<|a0m<|sr<|?_
  obtain ⟨G,er5,hf⟩:=ob hf
  refine x8 (c9d rfl (a8b _ er5) rfl .r rfl)<|x8 (a1j (j:=0) (c:=(.agg [.nil])) rfl tr rfl rfl)<|a3o (a0e (v:=(.agg [(.lst 4 (G.Tables.map x9))])) (y':=(.agg [(.lst 4 (G.Tables.map x9))])) rfl rfl rfl tr ⟨rfl,nle⟩ ⟨⟨rfl,tr⟩,tr⟩ rfl)<|dk<|sr<|?_
  obtain ⟨E,er7,hf⟩:=ob hf
  refine l7 (.lst 1 (D.map a0c)) rfl<|x8 (d3f rfl (c9e _ _ er7) rfl .r rfl rfl)<|l7 (.lst 8 (E.map a2u)) rfl<|dk<|o7<|sr<|l7 (.I 0) rfl<|dk<|?_
  obtain ⟨p80,hb1,hf⟩:=ob hf
  refine a2c (X:={q:Unit // p80 = .go q}) (fun q => ([],[])) ?_ ?_
  ·refine a1v (X:={q:Nat // a7f G (E.drop q)  = some p80}) (fun q => ([(3,(.ptr 0 0 0)),(4,(.lst 8 (E.map a2u))),(5,(.I (q.1:Int)))],[.box 1 (.agg [(.lst 4 (G.Tables.map x9))])])) (fun q => E.length - q.1) ⟨0,hb1⟩ ⟨[],[0],_,_,rfl,rfl,⟨.r,⟨.r,⟨.r,tr⟩⟩⟩,.r⟩ ?_
   rintro ⟨B,hc1⟩
   have hc1:a7f G (E.drop B)  = some p80:=hc1
   refine (show awp Tryz.prog false 0 _ (ofL [(3,(.ptr 0 0 0)),(4,(.lst 8 (E.map a2u))),(5,(.I (B:Int)))]) [.box 1 (.agg [(.lst 4 (G.Tables.map x9))])] _ from ?_)
   rcases a6c E B with ⟨hie83,hd86⟩ | ⟨hlt81,H,hx82,hd86⟩
   ·rw [hd86,a7f.eq_1] at hc1
    have hq85:=dlf hie83
    refine o7<|sr<|l7 (.I (B:Int)) rfl<|l7 (.lst 8 (E.map a2u)) rfl<|a1i (a1p (enc:=a2u) rfl) fun hl88 => o8 (.bool (decide ((B:Int) < (E.length:Int)))) rfl rfl rfl<|dk<|y9 rfl hq85<|a3i<|a3h<|a2e<|a3g<|?_;obtain rfl:=os hc1;exact a4b ⟨_,rfl⟩ ⟨[],[],_,_,rfl,rfl,tr,.r⟩
   ·rw [hd86,a7f.eq_2] at hc1
    have hq85:=dlt hlt81
    refine o7<|sr<|l7 (.I (B:Int)) rfl<|l7 (.lst 8 (E.map a2u)) rfl<|a1i (a1p (enc:=a2u) rfl) fun hl89 => o8 (.bool (decide ((B:Int) < (E.length:Int)))) rfl rfl rfl<|dk<|y8 rfl hq85<|a0k<|a0m<|o7<|a3y<|sr<|?_
    obtain ⟨A,er91,hc1⟩:=ob hc1
    refine o8 (.agg [(.lst 4 (G.Tables.map x9))]) rfl nle rfl<|l7 (.lst 8 (E.map a2u)) rfl<|l7 (.I (B:Int)) rfl<|x8 (a1o (enc:=a2u) rfl rfl hx82)<|o8 (a2u H) rfl nle rfl<|a1a (a0j (c6q _ _ _ er91) rfl .r rfl) a7h tr<|l7 (.tup [(.I A.1),(.I A.2)]) rfl<|o8 (.I A.1) rfl nle rfl<|o8 (.I A.2) rfl nle rfl<|l7 (.I A.1) rfl<|l7 (.I A.2) rfl<|dk<|sr<|?_
    obtain ⟨F,er93,hc1⟩:=ob hc1
    refine o8 (.agg [(.lst 4 (G.Tables.map x9))]) rfl nle rfl<|l7 (.lst 8 (E.map a2u)) rfl<|l7 (.I (B:Int)) rfl<|x8 (a1o (enc:=a2u) rfl rfl hx82)<|o8 (a2u H) rfl nle rfl<|a1a (a0j (c6u _ _ _ er93) rfl .r rfl) a7h tr<|l7 (.tup [(.I F.1),(.I F.2)]) rfl<|o8 (.I F.1) rfl nle rfl<|o8 (.I F.2) rfl nle rfl<|l7 (.I F.1) rfl<|l7 (.I F.2) rfl<|dk<|o7<|?_
    obtain ⟨N,hb2,hc1⟩:=ob hc1
    refine a1k ([(3,(.ptr 0 0 0)),(4,(.lst 8 (E.map a2u))),(5,(.I (B:Int))),(54,(.bool N))],[.box 1 (.agg [(.lst 4 (G.Tables.map x9))])]) ?_ ?_
    ·refine a0r<|l7 (.I A.2) rfl<|o8 (.bool (A.2 != 0)) rfl rfl rfl<|l7 (.bool (A.2 != 0)) rfl<|?_;refine s_g (v:=(A.2 != 0)) (.I A.1) rfl (fun hv => by (try simp only [o9 hv]);exact ⟨rfl,tr,rfl⟩) ?_;refine s_g (v:=(A.2 != 0)) (.I F.1) rfl (fun hv => by (try simp only [o9 hv]);exact ⟨rfl,tr,rfl⟩) ?_;refine s_g (v:=(A.2 != 0)) (.bool (A.1 != F.1)) rfl (fun hv => by (try simp only [o9 hv]);exact ⟨rfl,rfl,rfl⟩) ?_;refine a2a (x:=true) (y:=(A.1 != F.1)) rfl (fun hv => by (try simp only [o9 hv]);rfl) (fun hv => by (try simp only [o9 hv]);rfl) ?_;refine l7 (.bool (bif (A.2 != 0) then true else (A.1 != F.1))) rfl ?_
     rcases oi hb2 with ⟨c99,hb2⟩ | ⟨c99,hb2⟩
     ·refine a0i (s:=47) (b:=true) rfl c99<|o6 rfl rfl<|o6 rfl rfl<|o6 rfl rfl<|o6 rfl rfl<|o6 rfl rfl<|o6 rfl rfl<|o8 (.bool true) rfl tr rfl<|y5<|?_;obtain rfl:=os hb2;exact ⟨[],[0],_,_,rfl,rfl,⟨.r,⟨.r,⟨.r,⟨.r,tr⟩⟩⟩⟩,.r⟩
     ·refine a0i (s:=47) (b:=false) rfl (bf c99)<|s_on rfl<|l7 (.lst 8 (E.map a2u)) rfl<|s_on rfl<|l7 (.I (B:Int)) rfl<|s_on rfl<|x8 (a1o (enc:=a2u) rfl rfl hx82)<|s_on rfl<|o8 (a2u H) rfl nle rfl<|s_on rfl<|?_
      obtain ⟨L,er101,hb2⟩:=ob hb2
      refine x8 (a0j (b5r _ _ er101) rfl .r rfl)<|s_on rfl<|o8 (.bool (!L)) rfl tr rfl<|o8 (.bool (!L)) rfl tr rfl<|y5<|?_;obtain rfl:=os hb2;exact ⟨[],[0],_,_,rfl,rfl,⟨.r,⟨.r,⟨.r,⟨.r,tr⟩⟩⟩⟩,.r⟩
    ·rcases oi hc1 with ⟨c102,hc1⟩ | ⟨c102,hc1⟩
     ·refine y8 rfl c102<|sr<|l7 (.bool false) rfl<|dk<|a0b<|?_;obtain rfl:=os hc1;obtain rfl:=os hf;exact y7 ⟨tr,tr⟩ rfl .r
     ·refine y9 rfl (bf c102)<|a0k<|a2y<|a0m<|a0r<|l7 (.I (B:Int)) rfl<|o8 (.I (w64 ((B:Int) + 1))) rfl rfl rfl<|l7 (.I (w64 ((B:Int) + 1))) rfl<|y5<|?_;exact a1z ⟨(B + 1),hc1⟩ (mul hlt81) ⟨[],[0],_,_,rfl,rfl,⟨.r,⟨.r,⟨.of_eq (congrArg (AV.int _) (a1x hlt81 hl89)),tr⟩⟩⟩,.r⟩
  ·rintro ⟨_,rfl⟩
   refine sr<|o8 (.agg [(.I 7),(.str []),(.str []),.nil,.nil,.nil,.nil,(.bool false)]) rfl ⟨⟨rfl,nle,tr⟩,tr⟩ rfl<|?_
   obtain ⟨O,er104,hf⟩:=ob hf
   refine x8 (a0j (b5r _ _ er104) rfl (.cons (.agg (.cons .r (.cons .r (.cons .r (.cons (.nil _) (.cons (.nil _) (.cons (.nil _) (.cons (.nil _) (.cons .r .nil))))))))) .nil) rfl)<|l7 (.bool O) rfl<|?_
   rcases oi hf with ⟨c105,hf⟩ | ⟨c105,hf⟩
   ·refine a0i (s:=57) (b:=true) rfl c105<|s_on rfl<|o8 (.agg [(.I 7),(.str [112,111,114,116]),(.str []),.nil,.nil,.nil,.nil,(.bool false)]) rfl ⟨⟨rfl,nle,tr⟩,⟨⟨rfl,nle,tr⟩,tr⟩⟩ rfl<|s_on rfl<|?_
    obtain ⟨J,er107,hf⟩:=ob hf
    refine x8 (a0j (b5r _ _ er107) rfl (.cons (.agg (.cons .r (.cons .r (.cons .r (.cons (.nil _) (.cons (.nil _) (.cons (.nil _) (.cons (.nil _) (.cons .r .nil))))))))) .nil) rfl)<|s_on rfl<|o8 (.bool (!J)) rfl tr rfl<|o8 (.bool (!J)) rfl tr rfl<|l7 (.bool (!J)) rfl<|?_
    rcases oi hf with ⟨c6t,hf⟩ | ⟨c6t,hf⟩
    ·refine a0i (s:=62) (b:=true) rfl c6t<|s_on rfl<|o8 (.agg [(.I 13),(.I 0),(.I 0),.nil,.nil]) rfl ⟨⟨rfl,nle,tr⟩,tr⟩ rfl<|s_on rfl<|?_
     obtain ⟨M,er110,hf⟩:=ob hf
     refine x8 (a0j (b7h _ _ er110) rfl (.cons (.agg (.cons .r (.cons .r (.cons .r (.cons (.nil _) (.cons (.nil _) .nil)))))) .nil) rfl)<|o8 (.bool M) rfl tr rfl<|l7 (.bool M) rfl<|?_
     rcases oi hf with ⟨c6m,hf⟩ | ⟨c6m,hf⟩
     ·refine a0i (s:=66) (b:=true) rfl c6m<|s_on rfl<|o8 (.agg [(.I 13),(.I 0),(.I 1),.nil,.nil]) rfl ⟨⟨rfl,nle,tr⟩,⟨⟨rfl,nle,tr⟩,tr⟩⟩ rfl<|s_on rfl<|?_
      obtain ⟨K,er113,hf⟩:=ob hf
      refine x8 (a0j (b7h _ _ er113) rfl (.cons (.agg (.cons .r (.cons .r (.cons .r (.cons (.nil _) (.cons (.nil _) .nil)))))) .nil) rfl)<|s_on rfl<|o8 (.bool (!K)) rfl tr rfl<|o8 (.bool (!K)) rfl tr rfl<|l7 (.bool (!K)) rfl<|dk<|a0b<|?_;obtain rfl:=os hf;exact y7 ⟨tr,tr⟩ rfl .r
     ·refine a0i (s:=66) (b:=false) rfl (bf c6m)<|o6 rfl rfl<|o6 rfl rfl<|o6 rfl rfl<|o8 (.bool false) rfl tr rfl<|l7 (.bool false) rfl<|dk<|a0b<|?_;obtain rfl:=os hf;exact y7 ⟨tr,tr⟩ rfl .r
    ·refine a0i (s:=62) (b:=false) rfl (bf c6t)<|o6 rfl rfl<|o6 rfl rfl<|o8 (.bool false) rfl tr rfl<|l7 (.bool false) rfl<|o6 rfl rfl<|o6 rfl rfl<|o6 rfl rfl<|o8 (.bool false) rfl tr rfl<|l7 (.bool false) rfl<|dk<|a0b<|?_;obtain rfl:=os hf;exact y7 ⟨tr,tr⟩ rfl .r
   ·refine a0i (s:=57) (b:=false) rfl (bf c105)<|o6 rfl rfl<|o6 rfl rfl<|o6 rfl rfl<|o8 (.bool false) rfl tr rfl<|l7 (.bool false) rfl<|o6 rfl rfl<|o6 rfl rfl<|o8 (.bool false) rfl tr rfl<|l7 (.bool false) rfl<|o6 rfl rfl<|o6 rfl rfl<|o6 rfl rfl<|o8 (.bool false) rfl tr rfl<|l7 (.bool false) rfl<|dk<|a0b<|?_;obtain rfl:=os hf;exact y7 ⟨tr,tr⟩ rfl .r

end Go.R
