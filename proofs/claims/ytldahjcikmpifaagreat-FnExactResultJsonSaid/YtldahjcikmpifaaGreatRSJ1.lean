/- Walks. -/
import Derived.Test.YtldahjcikmpifaaGreatRSJT
set_option linter.all false
namespace Go.R
open Go Go.Proofs
set_option linter.unusedVariables false
set_option linter.unusedSimpArgs false
set_option maxHeartbeats 8000000
/- laws.szStringS -/
def c17:a0m :=
 (.seq (.reg (tm 4 (.c (.int .i64 0)) .done))
 (.seq (.reg (tm 6 (.t 1) (tm 7 (.t 0) (tq 8 (.len (.t 7)) (tq 9 (.bin .sub (.t 6) (.t 8)) (tm 1 (.t 9) .done))))))
 (.seq (.seq (.reg (tm 10 (.t 1) (tq 11 (.bin .lss (.t 10) (.c (.int .i64 0))) .done)))
 (.cond (.t 11) (.seq (.reg (tq 4 (.mov (.c (.int .i64 (-1)))) .done))
 .ret)
 .skip))
 (.seq (.seq (.reg (tm 5 (.c (.int .i64 0)) .done))
 (.block 0 (.loop (.seq (.seq (.reg (tm 12 (.t 5) (tm 13 (.t 0) (tq 14 (.len (.t 13)) (tq 15 (.bin .lss (.t 12) (.t 14)) .done)))))
 (.cond (.t 15) .skip
 (.exit 0)))
 (.seq (.block 1 (.seq (.reg (tm 18 (.t 1) (tm 19 (.t 0) (tm 20 (.t 5) (tq 21 (.iaddr 1 (.t 19) (.t 20)) (tq 22 (.load 1 false (.t 21)) (tq 23 (.lenS (.t 22)) (tq 24 (.bin .sub (.t 18) (.t 23)) (tm 1 (.t 24) .done)))))))))
 (.seq (.reg (tm 25 (.t 1) (tq 26 (.bin .lss (.t 25) (.c (.int .i64 0))) .done)))
 (.cond (.t 26) (.seq (.reg (tq 4 (.mov (.c (.int .i64 (-1)))) .done))
 .ret)
 .skip))))
 (.reg (tm 16 (.t 5) (tq 17 (.bin .add (.t 16) (.c (.int .i64 1))) (tm 5 (.t 17) .done)))))))))
 (.cut (.seq (.reg (tm 27 (.t 1) (tm 4 (.t 27) .done)))
 .ret))))))
theorem f3d:a1b Tryz.prog Tryz.f17 = some (c17.erase,[.mov (.t 4)],28):=by kernel_rfl
def a3u :List Str → Int → Option (Fl Int Int)
  | [],A =>
    some (.go A)
  | F :: xs,A =>
    if (decide (w64 (A - (F.length:Int)) < 0)) then
    some (.ret (-1))
    else
    a3u xs (w64 (A - (F.length:Int))) 

def a9v (D:(List Str)) (B:Int):Option Int :=
    if (decide (w64 (B - (D.length:Int)) < 0)) then
    some (-1)
    else
    (a3u D (w64 (B - (D.length:Int)))).bind fun q => (match q with
    | .ret r => some r
    | .go G =>
    some G)
theorem c4q (D:(List Str)) (B:Int) (r:Int) (hf:a9v D B = some r):a0a Tryz.prog 17 .flat [(.lst 1 (D.map AV.str)),(.I B)] (.I r):=by
 refine a0a.of_awp mixed Tryz.func17 f3d nle ?_;rw [a0l];unfold a9v at hf;unfold c17;refine (show awp Tryz.prog false 0 _ (ofL [(0,(.lst 1 (D.map AV.str))),(1,(.I B))]) [] _ from ?_);refine sr<|l7 (.I 0) rfl<|dk<|sr<|l7 (.I B) rfl<|l7 (.lst 1 (D.map AV.str)) rfl<|a0y (a1o (enc:=AV.str) rfl) fun hl3 => x8 (.I (w64 (B - (D.length:Int)))) rfl rfl rfl<|l7 (.I (w64 (B - (D.length:Int)))) rfl<|dk<|o7<|sr<|l7 (.I (w64 (B - (D.length:Int)))) rfl<|x8 (.bool (decide (w64 (B - (D.length:Int)) < 0))) rfl rfl rfl<|?_
 refine dk<|?_
 rcases oi hf with ⟨c4,hf⟩ | ⟨c4,hf⟩
 ·refine y8 rfl c4<|sr<|l7 (.I (-1)) rfl<|dk<|a0e<|?_;obtain rfl:=os hf;exact a0g ⟨tr,tr⟩ rfl .r
 ·refine y9 rfl (bf c4)<|a0j<|a0i<|o7<|sr<|l7 (.I 0) rfl<|dk<|?_
  obtain ⟨p29,hb1,hf⟩:=ob hf
  refine a3j (X:={q:Int // p29 = .go q}) (fun q => ([(1,(.I q.1))],[])) ?_ ?_
  ·refine a1f (X:={q:(Int × Nat) // a3u (D.drop q.2) q.1 = some p29}) (fun q => ([(0,(.lst 1 (D.map AV.str))),(1,(.I q.1.1)),(5,(.I (q.1.2:Int)))],[])) (fun q => D.length - q.1.2) ⟨(w64 (B - (D.length:Int)),0),hb1⟩ ⟨[],[],_,_,rfl,rfl,⟨.r,⟨.r,⟨.r,tr⟩⟩⟩,.r⟩ ?_
   rintro ⟨⟨A,E⟩,hc1⟩
   have hc1:a3u (D.drop E) A = some p29:=hc1
   refine (show awp Tryz.prog false 0 _ (ofL [(0,(.lst 1 (D.map AV.str))),(1,(.I A)),(5,(.I (E:Int)))]) [] _ from ?_)
   rcases a5n D E with ⟨hie32,hd35⟩ | ⟨hlt30,F,hx31,hd35⟩
   ·rw [hd35,a3u.eq_1] at hc1
    have hq34:=dlf hie32
    refine o7<|sr<|l7 (.I (E:Int)) rfl<|l7 (.lst 1 (D.map AV.str)) rfl<|a0y (a1o (enc:=AV.str) rfl) fun hl37 => x8 (.bool (decide ((E:Int) < (D.length:Int)))) rfl rfl rfl<|dk<|y9 rfl hq34<|a2l<|a2k<|a1t<|a2j<|?_;obtain rfl:=os hc1;exact a6i ⟨_,rfl⟩ ⟨[],[],_,_,rfl,rfl,⟨.r,tr⟩,.r⟩
   ·rw [hd35,a3u.eq_2] at hc1
    have hq34:=dlt hlt30
    refine o7<|sr<|l7 (.I (E:Int)) rfl<|l7 (.lst 1 (D.map AV.str)) rfl<|a0y (a1o (enc:=AV.str) rfl) fun hl38 => x8 (.bool (decide ((E:Int) < (D.length:Int)))) rfl rfl rfl<|dk<|y8 rfl hq34<|a0j<|a0i<|o7<|a2x<|sr<|l7 (.I A) rfl<|l7 (.lst 1 (D.map AV.str)) rfl<|l7 (.I (E:Int)) rfl<|x9 (a1n (enc:=AV.str) rfl rfl hx31)<|x8 (.str F) rfl ⟨rfl,rfl⟩ rfl<|a0y (b5a rfl) fun hl39 => x8 (.I (w64 (A - (F.length:Int)))) rfl rfl rfl<|l7 (.I (w64 (A - (F.length:Int)))) rfl<|dk<|?_
    refine sr<|l7 (.I (w64 (A - (F.length:Int)))) rfl<|x8 (.bool (decide (w64 (A - (F.length:Int)) < 0))) rfl rfl rfl<|dk<|?_
    rcases oi hc1 with ⟨c40,hc1⟩ | ⟨c40,hc1⟩
    ·refine y8 rfl c40<|sr<|l7 (.I (-1)) rfl<|dk<|a0e<|?_;obtain rfl:=os hc1;obtain rfl:=os hf;exact a0g ⟨tr,tr⟩ rfl .r
    ·refine y9 rfl (bf c40)<|a0j<|a2v<|a0i<|a0s<|l7 (.I (E:Int)) rfl<|x8 (.I (w64 ((E:Int) + 1))) rfl rfl rfl<|l7 (.I (w64 ((E:Int) + 1))) rfl<|a0h<|?_;exact a1m ⟨(w64 (A - (F.length:Int)),(E + 1)),hc1⟩ (mul hlt30) ⟨[],[],_,_,rfl,rfl,⟨.r,⟨.r,⟨.of_eq (congrArg (AV.int _) (a1p hlt30 hl38)),tr⟩⟩⟩,.r⟩
  ·rintro ⟨G,rfl⟩
   refine sr<|l7 (.I G) rfl<|l7 (.I G) rfl<|dk<|a0e<|?_;obtain rfl:=os hf;exact a0g ⟨tr,tr⟩ rfl .r

/- laws.szAtom -/
def e8c:a0m :=
 (.seq (.reg (tq 2 (.box 3 (.t 0)) (tm 4 (.c (.int .i64 0)) .done)))
 (.seq (.reg (tm 5 (.t 1) (tq 6 (.faddr 2 (.t 2)) (tq 7 (.load 1 false (.t 6)) (tq 8 (.lenS (.t 7)) (tq 9 (.bin .sub (.t 5) (.t 8)) (tm 1 (.t 9) .done)))))))
 (.seq (.seq (.reg (tm 10 (.t 1) (tq 11 (.bin .lss (.t 10) (.c (.int .i64 0))) .done)))
 (.cond (.t 11) (.seq (.reg (tq 4 (.mov (.c (.int .i64 (-1)))) .done))
 .ret)
 .skip))
 (.seq (.reg (tm 12 (.t 1) (tm 4 (.t 12) .done)))
 .ret))))
theorem e8d:a1b Tryz.prog Tryz.f281 = some (e8c.erase,[.mov (.t 4)],13):=by kernel_rfl
def b4i (B:a0k) (A:Int):Option Int :=
    if (decide (w64 (A - (B.T.length:Int)) < 0)) then
    some (-1)
    else
    some (w64 (A - (B.T.length:Int)))
theorem d0l (B:a0k) (A:Int) (r:Int) (hf:b4i B A = some r):a0a Tryz.prog 281 .flat [(o6 B),(.I A)] (.I r):=by
 refine a0a.of_awp mixed Tryz.func281 e8d nle ?_;rw [a0l];unfold b4i at hf;unfold e8c;refine (show awp Tryz.prog false 0 _ (ofL [(0,(o6 B)),(1,(.I A))]) [] _ from ?_);refine sr<|x9 (a1j (j:=0) (c:=(.agg [(.I B.Kind),(.I B.N),(.str B.T)])) rfl tr rfl rfl)<|l7 (.I 0) rfl<|dk<|sr<|l7 (.I A) rfl<|x8 (.ptr 0 0 2) rfl tr rfl<|x8 (.str B.T) rfl nle rfl<|a0y (b5a rfl) fun hl3 => x8 (.I (w64 (A - (B.T.length:Int)))) rfl rfl rfl<|l7 (.I (w64 (A - (B.T.length:Int)))) rfl<|dk<|o7<|sr<|?_
 refine l7 (.I (w64 (A - (B.T.length:Int)))) rfl<|x8 (.bool (decide (w64 (A - (B.T.length:Int)) < 0))) rfl rfl rfl<|dk<|?_
 rcases oi hf with ⟨c4,hf⟩ | ⟨c4,hf⟩
 ·refine y8 rfl c4<|sr<|l7 (.I (-1)) rfl<|dk<|a0e<|?_;obtain rfl:=os hf;exact a0g ⟨tr,tr⟩ rfl .r
 ·refine y9 rfl (bf c4)<|a0j<|a0i<|sr<|l7 (.I (w64 (A - (B.T.length:Int)))) rfl<|l7 (.I (w64 (A - (B.T.length:Int)))) rfl<|dk<|a0e<|?_;obtain rfl:=os hf;exact a0g ⟨tr,tr⟩ rfl .r

/- laws.szAtomS -/
def e8e:a0m :=
 (.seq (.reg (tm 4 (.c (.int .i64 0)) .done))
 (.seq (.reg (tm 6 (.t 1) (tm 7 (.t 0) (tq 8 (.len (.t 7)) (tq 9 (.bin .sub (.t 6) (.t 8)) (tm 1 (.t 9) .done))))))
 (.seq (.seq (.reg (tm 10 (.t 1) (tq 11 (.bin .lss (.t 10) (.c (.int .i64 0))) .done)))
 (.cond (.t 11) (.seq (.reg (tq 4 (.mov (.c (.int .i64 (-1)))) .done))
 .ret)
 .skip))
 (.seq (.seq (.reg (tm 5 (.c (.int .i64 0)) .done))
 (.block 0 (.loop (.seq (.seq (.reg (tm 12 (.t 5) (tm 13 (.t 0) (tq 14 (.len (.t 13)) (tq 15 (.bin .lss (.t 12) (.t 14)) .done)))))
 (.cond (.t 15) .skip
 (.exit 0)))
 (.seq (.block 1 (.seq (.reg (tm 18 (.t 0) (tm 19 (.t 5) (tq 20 (.iaddr 3 (.t 18) (.t 19)) (tq 21 (.load 3 true (.t 20)) (tm 22 (.t 1) (tq 23 (.call 281 [(.t 21),(.t 22)]) (tm 1 (.t 23) .done))))))))
 (.seq (.reg (tm 24 (.t 1) (tq 25 (.bin .lss (.t 24) (.c (.int .i64 0))) .done)))
 (.cond (.t 25) (.seq (.reg (tq 4 (.mov (.c (.int .i64 (-1)))) .done))
 .ret)
 .skip))))
 (.reg (tm 16 (.t 5) (tq 17 (.bin .add (.t 16) (.c (.int .i64 1))) (tm 5 (.t 17) .done)))))))))
 (.cut (.seq (.reg (tm 26 (.t 1) (tm 4 (.t 26) .done)))
 .ret))))))
theorem e8f:a1b Tryz.prog Tryz.f190 = some (e8e.erase,[.mov (.t 4)],27):=by kernel_rfl
def a5b :List a0k → Int → Option (Fl Int Int)
  | [],D =>
    some (.go D)
  | H :: xs,D =>
    (b4i H D).bind fun G =>
    if (decide (G < 0)) then
    some (.ret (-1))
    else
    a5b xs G 

def b2p (B:(List a0k)) (A:Int):Option Int :=
    if (decide (w64 (A - (B.length:Int)) < 0)) then
    some (-1)
    else
    (a5b B (w64 (A - (B.length:Int)))).bind fun q => (match q with
    | .ret r => some r
    | .go F =>
    some F)
theorem c8u (B:(List a0k)) (A:Int) (r:Int) (hf:b2p B A = some r):a0a Tryz.prog 190 .flat [(.lst 3 (B.map o6)),(.I A)] (.I r):=by
 refine a0a.of_awp mixed Tryz.func190 e8f nle ?_;rw [a0l];unfold b2p at hf;unfold e8e;refine (show awp Tryz.prog false 0 _ (ofL [(0,(.lst 3 (B.map o6))),(1,(.I A))]) [] _ from ?_);refine sr<|l7 (.I 0) rfl<|dk<|sr<|l7 (.I A) rfl<|l7 (.lst 3 (B.map o6)) rfl<|a0y (a1o (enc:=o6) rfl) fun hl3 => x8 (.I (w64 (A - (B.length:Int)))) rfl rfl rfl<|l7 (.I (w64 (A - (B.length:Int)))) rfl<|dk<|o7<|sr<|l7 (.I (w64 (A - (B.length:Int)))) rfl<|x8 (.bool (decide (w64 (A - (B.length:Int)) < 0))) rfl rfl rfl<|?_
 refine dk<|?_
 rcases oi hf with ⟨c4,hf⟩ | ⟨c4,hf⟩
 ·refine y8 rfl c4<|sr<|l7 (.I (-1)) rfl<|dk<|a0e<|?_;obtain rfl:=os hf;exact a0g ⟨tr,tr⟩ rfl .r
 ·refine y9 rfl (bf c4)<|a0j<|a0i<|o7<|sr<|l7 (.I 0) rfl<|dk<|?_
  obtain ⟨p32,hb1,hf⟩:=ob hf
  refine a3j (X:={q:Int // p32 = .go q}) (fun q => ([(1,(.I q.1))],[])) ?_ ?_
  ·refine a1f (X:={q:(Int × Nat) // a5b (B.drop q.2) q.1 = some p32}) (fun q => ([(0,(.lst 3 (B.map o6))),(1,(.I q.1.1)),(5,(.I (q.1.2:Int)))],[])) (fun q => B.length - q.1.2) ⟨(w64 (A - (B.length:Int)),0),hb1⟩ ⟨[],[],_,_,rfl,rfl,⟨.r,⟨.r,⟨.r,tr⟩⟩⟩,.r⟩ ?_
   rintro ⟨⟨D,E⟩,hc1⟩
   have hc1:a5b (B.drop E) D = some p32:=hc1
   refine (show awp Tryz.prog false 0 _ (ofL [(0,(.lst 3 (B.map o6))),(1,(.I D)),(5,(.I (E:Int)))]) [] _ from ?_)
   rcases a5n B E with ⟨hie35,hd38⟩ | ⟨hlt33,H,hx34,hd38⟩
   ·rw [hd38,a5b.eq_1] at hc1
    have hq37:=dlf hie35
    refine o7<|sr<|l7 (.I (E:Int)) rfl<|l7 (.lst 3 (B.map o6)) rfl<|a0y (a1o (enc:=o6) rfl) fun hl40 => x8 (.bool (decide ((E:Int) < (B.length:Int)))) rfl rfl rfl<|dk<|y9 rfl hq37<|a2l<|a2k<|a1t<|a2j<|?_;obtain rfl:=os hc1;exact a6i ⟨_,rfl⟩ ⟨[],[],_,_,rfl,rfl,⟨.r,tr⟩,.r⟩
   ·rw [hd38,a5b.eq_2] at hc1
    have hq37:=dlt hlt33
    refine o7<|sr<|l7 (.I (E:Int)) rfl<|l7 (.lst 3 (B.map o6)) rfl<|a0y (a1o (enc:=o6) rfl) fun hl41 => x8 (.bool (decide ((E:Int) < (B.length:Int)))) rfl rfl rfl<|dk<|y8 rfl hq37<|a0j<|a0i<|o7<|a2x<|sr<|?_
    obtain ⟨G,er43,hc1⟩:=ob hc1
    refine l7 (.lst 3 (B.map o6)) rfl<|l7 (.I (E:Int)) rfl<|x9 (a1n (enc:=o6) rfl rfl hx34)<|x8 (o6 H) rfl nle rfl<|l7 (.I D) rfl<|x9 (a0n (d0l _ _ _ er43) rfl .r rfl)<|l7 (.I G) rfl<|dk<|sr<|l7 (.I G) rfl<|x8 (.bool (decide (G < 0))) rfl rfl rfl<|dk<|?_
    rcases oi hc1 with ⟨c44,hc1⟩ | ⟨c44,hc1⟩
    ·refine y8 rfl c44<|sr<|l7 (.I (-1)) rfl<|dk<|a0e<|?_;obtain rfl:=os hc1;obtain rfl:=os hf;exact a0g ⟨tr,tr⟩ rfl .r
    ·refine y9 rfl (bf c44)<|a0j<|a2v<|a0i<|a0s<|l7 (.I (E:Int)) rfl<|x8 (.I (w64 ((E:Int) + 1))) rfl rfl rfl<|l7 (.I (w64 ((E:Int) + 1))) rfl<|a0h<|?_;exact a1m ⟨(G,(E + 1)),hc1⟩ (mul hlt33) ⟨[],[],_,_,rfl,rfl,⟨.r,⟨.r,⟨.of_eq (congrArg (AV.int _) (a1p hlt33 hl41)),tr⟩⟩⟩,.r⟩
  ·rintro ⟨F,rfl⟩
   refine sr<|l7 (.I F) rfl<|l7 (.I F) rfl<|dk<|a0e<|?_;obtain rfl:=os hf;exact a0g ⟨tr,tr⟩ rfl .r

/- laws.szAtomSS -/
def c91:a0m :=
 (.seq (.reg (tm 4 (.c (.int .i64 0)) .done))
 (.seq (.reg (tm 6 (.t 1) (tm 7 (.t 0) (tq 8 (.len (.t 7)) (tq 9 (.bin .sub (.t 6) (.t 8)) (tm 1 (.t 9) .done))))))
 (.seq (.seq (.reg (tm 10 (.t 1) (tq 11 (.bin .lss (.t 10) (.c (.int .i64 0))) .done)))
 (.cond (.t 11) (.seq (.reg (tq 4 (.mov (.c (.int .i64 (-1)))) .done))
 .ret)
 .skip))
 (.seq (.seq (.reg (tm 5 (.c (.int .i64 0)) .done))
 (.block 0 (.loop (.seq (.seq (.reg (tm 12 (.t 5) (tm 13 (.t 0) (tq 14 (.len (.t 13)) (tq 15 (.bin .lss (.t 12) (.t 14)) .done)))))
 (.cond (.t 15) .skip
 (.exit 0)))
 (.seq (.block 1 (.seq (.reg (tm 18 (.t 0) (tm 19 (.t 5) (tq 20 (.iaddr 1 (.t 18) (.t 19)) (tq 21 (.load 1 false (.t 20)) (tm 22 (.t 1) (tq 23 (.call 190 [(.t 21),(.t 22)]) (tm 1 (.t 23) .done))))))))
 (.seq (.reg (tm 24 (.t 1) (tq 25 (.bin .lss (.t 24) (.c (.int .i64 0))) .done)))
 (.cond (.t 25) (.seq (.reg (tq 4 (.mov (.c (.int .i64 (-1)))) .done))
 .ret)
 .skip))))
 (.reg (tm 16 (.t 5) (tq 17 (.bin .add (.t 16) (.c (.int .i64 1))) (tm 5 (.t 17) .done)))))))))
 (.cut (.seq (.reg (tm 26 (.t 1) (tm 4 (.t 26) .done)))
 .ret))))))
theorem f3e:a1b Tryz.prog Tryz.f91 = some (c91.erase,[.mov (.t 4)],27):=by kernel_rfl
def a4f :List (List a0k) → Int → Option (Fl Int Int)
  | [],D =>
    some (.go D)
  | H :: xs,D =>
    (b2p H D).bind fun G =>
    if (decide (G < 0)) then
    some (.ret (-1))
    else
    a4f xs G 

def b0u (B:(List (List a0k))) (A:Int):Option Int :=
    if (decide (w64 (A - (B.length:Int)) < 0)) then
    some (-1)
    else
    (a4f B (w64 (A - (B.length:Int)))).bind fun q => (match q with
    | .ret r => some r
    | .go F =>
    some F)
theorem c6k (B:(List (List a0k))) (A:Int) (r:Int) (hf:b0u B A = some r):a0a Tryz.prog 91 .flat [(.lst 1 (B.map (a1q 3 o6))),(.I A)] (.I r):=by
 refine a0a.of_awp mixed Tryz.func91 f3e nle ?_;rw [a0l];unfold b0u at hf;unfold c91;refine (show awp Tryz.prog false 0 _ (ofL [(0,(.lst 1 (B.map (a1q 3 o6)))),(1,(.I A))]) [] _ from ?_);refine sr<|l7 (.I 0) rfl<|dk<|sr<|l7 (.I A) rfl<|l7 (.lst 1 (B.map (a1q 3 o6))) rfl<|a0y (a1o (enc:=(a1q 3 o6)) rfl) fun hl3 => x8 (.I (w64 (A - (B.length:Int)))) rfl rfl rfl<|l7 (.I (w64 (A - (B.length:Int)))) rfl<|dk<|o7<|sr<|l7 (.I (w64 (A - (B.length:Int)))) rfl<|x8 (.bool (decide (w64 (A - (B.length:Int)) < 0))) rfl rfl rfl<|?_
 refine dk<|?_
 rcases oi hf with ⟨c4,hf⟩ | ⟨c4,hf⟩
 ·refine y8 rfl c4<|sr<|l7 (.I (-1)) rfl<|dk<|a0e<|?_;obtain rfl:=os hf;exact a0g ⟨tr,tr⟩ rfl .r
 ·refine y9 rfl (bf c4)<|a0j<|a0i<|o7<|sr<|l7 (.I 0) rfl<|dk<|?_
  obtain ⟨p32,hb1,hf⟩:=ob hf
  refine a3j (X:={q:Int // p32 = .go q}) (fun q => ([(1,(.I q.1))],[])) ?_ ?_
  ·refine a1f (X:={q:(Int × Nat) // a4f (B.drop q.2) q.1 = some p32}) (fun q => ([(0,(.lst 1 (B.map (a1q 3 o6)))),(1,(.I q.1.1)),(5,(.I (q.1.2:Int)))],[])) (fun q => B.length - q.1.2) ⟨(w64 (A - (B.length:Int)),0),hb1⟩ ⟨[],[],_,_,rfl,rfl,⟨.r,⟨.r,⟨.r,tr⟩⟩⟩,.r⟩ ?_
   rintro ⟨⟨D,E⟩,hc1⟩
   have hc1:a4f (B.drop E) D = some p32:=hc1
   refine (show awp Tryz.prog false 0 _ (ofL [(0,(.lst 1 (B.map (a1q 3 o6)))),(1,(.I D)),(5,(.I (E:Int)))]) [] _ from ?_)
   rcases a5n B E with ⟨hie35,hd38⟩ | ⟨hlt33,H,hx34,hd38⟩
   ·rw [hd38,a4f.eq_1] at hc1
    have hq37:=dlf hie35
    refine o7<|sr<|l7 (.I (E:Int)) rfl<|l7 (.lst 1 (B.map (a1q 3 o6))) rfl<|a0y (a1o (enc:=(a1q 3 o6)) rfl) fun hl40 => x8 (.bool (decide ((E:Int) < (B.length:Int)))) rfl rfl rfl<|dk<|y9 rfl hq37<|a2l<|a2k<|a1t<|a2j<|?_;obtain rfl:=os hc1;exact a6i ⟨_,rfl⟩ ⟨[],[],_,_,rfl,rfl,⟨.r,tr⟩,.r⟩
   ·rw [hd38,a4f.eq_2] at hc1
    have hq37:=dlt hlt33
    refine o7<|sr<|l7 (.I (E:Int)) rfl<|l7 (.lst 1 (B.map (a1q 3 o6))) rfl<|a0y (a1o (enc:=(a1q 3 o6)) rfl) fun hl41 => x8 (.bool (decide ((E:Int) < (B.length:Int)))) rfl rfl rfl<|dk<|y8 rfl hq37<|a0j<|a0i<|o7<|a2x<|sr<|?_
    obtain ⟨G,er43,hc1⟩:=ob hc1
    refine l7 (.lst 1 (B.map (a1q 3 o6))) rfl<|l7 (.I (E:Int)) rfl<|x9 (a1n (enc:=(a1q 3 o6)) rfl rfl hx34)<|x8 (.lst 3 (H.map o6)) rfl ⟨rfl,rfl⟩ rfl<|l7 (.I D) rfl<|x9 (a0n (c8u _ _ _ er43) rfl .r rfl)<|l7 (.I G) rfl<|dk<|sr<|l7 (.I G) rfl<|x8 (.bool (decide (G < 0))) rfl rfl rfl<|dk<|?_
    rcases oi hc1 with ⟨c44,hc1⟩ | ⟨c44,hc1⟩
    ·refine y8 rfl c44<|sr<|l7 (.I (-1)) rfl<|dk<|a0e<|?_;obtain rfl:=os hc1;obtain rfl:=os hf;exact a0g ⟨tr,tr⟩ rfl .r
    ·refine y9 rfl (bf c44)<|a0j<|a2v<|a0i<|a0s<|l7 (.I (E:Int)) rfl<|x8 (.I (w64 ((E:Int) + 1))) rfl rfl rfl<|l7 (.I (w64 ((E:Int) + 1))) rfl<|a0h<|?_;exact a1m ⟨(G,(E + 1)),hc1⟩ (mul hlt33) ⟨[],[],_,_,rfl,rfl,⟨.r,⟨.r,⟨.of_eq (congrArg (AV.int _) (a1p hlt33 hl41)),tr⟩⟩⟩,.r⟩
  ·rintro ⟨F,rfl⟩
   refine sr<|l7 (.I F) rfl<|l7 (.I F) rfl<|dk<|a0e<|?_;obtain rfl:=os hf;exact a0g ⟨tr,tr⟩ rfl .r

/- laws.szRow -/
def c18:a0m :=
 (.seq (.reg (tq 2 (.box 2 (.t 0)) (tm 4 (.c (.int .i64 0)) .done)))
 (.seq (.reg (tq 5 (.faddr 1 (.t 2)) (tq 6 (.load 1 false (.t 5)) (tm 7 (.t 1) (tq 8 (.call 91 [(.t 6),(.t 7)]) (tm 1 (.t 8) .done))))))
 (.seq (.seq (.reg (tm 9 (.t 1) (tq 10 (.bin .lss (.t 9) (.c (.int .i64 0))) .done)))
 (.cond (.t 10) (.seq (.reg (tq 4 (.mov (.c (.int .i64 (-1)))) .done))
 .ret)
 .skip))
 (.seq (.reg (tm 11 (.t 1) (tm 4 (.t 11) .done)))
 .ret))))
theorem f3f:a1b Tryz.prog Tryz.f18 = some (c18.erase,[.mov (.t 4)],12):=by kernel_rfl
def b6a (B:a1u) (A:Int):Option Int :=
    (b0u B.Cells A).bind fun D =>
    if (decide (D < 0)) then
    some (-1)
    else
    some D
theorem d3t (B:a1u) (A:Int) (r:Int) (hf:b6a B A = some r):a0a Tryz.prog 18 .flat [(y5 B),(.I A)] (.I r):=by
 refine a0a.of_awp mixed Tryz.func18 f3f nle ?_;rw [a0l];unfold b6a at hf;unfold c18;refine (show awp Tryz.prog false 0 _ (ofL [(0,(y5 B)),(1,(.I A))]) [] _ from ?_);refine sr<|x9 (a1j (j:=0) (c:=(.agg [(.I B.Id),(.lst 1 (B.Cells.map (a1q 3 o6)))])) rfl tr rfl rfl)<|l7 (.I 0) rfl<|dk<|sr<|?_
 obtain ⟨D,er4,hf⟩:=ob hf
 refine x8 (.ptr 0 0 1) rfl tr rfl<|x8 (.lst 1 (B.Cells.map (a1q 3 o6))) rfl nle rfl<|l7 (.I A) rfl<|x9 (a0n (c6k _ _ _ er4) rfl .r rfl)<|l7 (.I D) rfl<|dk<|o7<|sr<|l7 (.I D) rfl<|x8 (.bool (decide (D < 0))) rfl rfl rfl<|dk<|?_
 rcases oi hf with ⟨c5,hf⟩ | ⟨c5,hf⟩
 ·refine y8 rfl c5<|sr<|l7 (.I (-1)) rfl<|dk<|a0e<|?_;obtain rfl:=os hf;exact a0g ⟨tr,tr⟩ rfl .r
 ·refine y9 rfl (bf c5)<|a0j<|a0i<|sr<|l7 (.I D) rfl<|l7 (.I D) rfl<|dk<|a0e<|?_;obtain rfl:=os hf;exact a0g ⟨tr,tr⟩ rfl .r

/- laws.szRowS -/
def c117:a0m :=
 (.seq (.reg (tm 4 (.c (.int .i64 0)) .done))
 (.seq (.reg (tm 6 (.t 1) (tm 7 (.t 0) (tq 8 (.len (.t 7)) (tq 9 (.bin .sub (.t 6) (.t 8)) (tm 1 (.t 9) .done))))))
 (.seq (.seq (.reg (tm 10 (.t 1) (tq 11 (.bin .lss (.t 10) (.c (.int .i64 0))) .done)))
 (.cond (.t 11) (.seq (.reg (tq 4 (.mov (.c (.int .i64 (-1)))) .done))
 .ret)
 .skip))
 (.seq (.seq (.reg (tm 5 (.c (.int .i64 0)) .done))
 (.block 0 (.loop (.seq (.seq (.reg (tm 12 (.t 5) (tm 13 (.t 0) (tq 14 (.len (.t 13)) (tq 15 (.bin .lss (.t 12) (.t 14)) .done)))))
 (.cond (.t 15) .skip
 (.exit 0)))
 (.seq (.block 1 (.seq (.reg (tm 18 (.t 0) (tm 19 (.t 5) (tq 20 (.iaddr 2 (.t 18) (.t 19)) (tq 21 (.load 2 true (.t 20)) (tm 22 (.t 1) (tq 23 (.call 18 [(.t 21),(.t 22)]) (tm 1 (.t 23) .done))))))))
 (.seq (.reg (tm 24 (.t 1) (tq 25 (.bin .lss (.t 24) (.c (.int .i64 0))) .done)))
 (.cond (.t 25) (.seq (.reg (tq 4 (.mov (.c (.int .i64 (-1)))) .done))
 .ret)
 .skip))))
 (.reg (tm 16 (.t 5) (tq 17 (.bin .add (.t 16) (.c (.int .i64 1))) (tm 5 (.t 17) .done)))))))))
 (.cut (.seq (.reg (tm 26 (.t 1) (tm 4 (.t 26) .done)))
 .ret))))))
theorem e8g:a1b Tryz.prog Tryz.f117 = some (c117.erase,[.mov (.t 4)],27):=by kernel_rfl
def a5s :List a1u → Int → Option (Fl Int Int)
  | [],D =>
    some (.go D)
  | H :: xs,D =>
    (b6a H D).bind fun G =>
    if (decide (G < 0)) then
    some (.ret (-1))
    else
    a5s xs G 

def b4j (B:(List a1u)) (A:Int):Option Int :=
    if (decide (w64 (A - (B.length:Int)) < 0)) then
    some (-1)
    else
    (a5s B (w64 (A - (B.length:Int)))).bind fun q => (match q with
    | .ret r => some r
    | .go F =>
    some F)
theorem d0m (B:(List a1u)) (A:Int) (r:Int) (hf:b4j B A = some r):a0a Tryz.prog 117 .flat [(.lst 2 (B.map y5)),(.I A)] (.I r):=by
 refine a0a.of_awp mixed Tryz.func117 e8g nle ?_;rw [a0l];unfold b4j at hf;unfold c117;refine (show awp Tryz.prog false 0 _ (ofL [(0,(.lst 2 (B.map y5))),(1,(.I A))]) [] _ from ?_);refine sr<|l7 (.I 0) rfl<|dk<|sr<|l7 (.I A) rfl<|l7 (.lst 2 (B.map y5)) rfl<|a0y (a1o (enc:=y5) rfl) fun hl3 => x8 (.I (w64 (A - (B.length:Int)))) rfl rfl rfl<|l7 (.I (w64 (A - (B.length:Int)))) rfl<|dk<|o7<|sr<|l7 (.I (w64 (A - (B.length:Int)))) rfl<|x8 (.bool (decide (w64 (A - (B.length:Int)) < 0))) rfl rfl rfl<|?_
 refine dk<|?_
 rcases oi hf with ⟨c4,hf⟩ | ⟨c4,hf⟩
 ·refine y8 rfl c4<|sr<|l7 (.I (-1)) rfl<|dk<|a0e<|?_;obtain rfl:=os hf;exact a0g ⟨tr,tr⟩ rfl .r
 ·refine y9 rfl (bf c4)<|a0j<|a0i<|o7<|sr<|l7 (.I 0) rfl<|dk<|?_
  obtain ⟨p32,hb1,hf⟩:=ob hf
  refine a3j (X:={q:Int // p32 = .go q}) (fun q => ([(1,(.I q.1))],[])) ?_ ?_
  ·refine a1f (X:={q:(Int × Nat) // a5s (B.drop q.2) q.1 = some p32}) (fun q => ([(0,(.lst 2 (B.map y5))),(1,(.I q.1.1)),(5,(.I (q.1.2:Int)))],[])) (fun q => B.length - q.1.2) ⟨(w64 (A - (B.length:Int)),0),hb1⟩ ⟨[],[],_,_,rfl,rfl,⟨.r,⟨.r,⟨.r,tr⟩⟩⟩,.r⟩ ?_
   rintro ⟨⟨D,E⟩,hc1⟩
   have hc1:a5s (B.drop E) D = some p32:=hc1
   refine (show awp Tryz.prog false 0 _ (ofL [(0,(.lst 2 (B.map y5))),(1,(.I D)),(5,(.I (E:Int)))]) [] _ from ?_)
   rcases a5n B E with ⟨hie35,hd38⟩ | ⟨hlt33,H,hx34,hd38⟩
   ·rw [hd38,a5s.eq_1] at hc1
    have hq37:=dlf hie35
    refine o7<|sr<|l7 (.I (E:Int)) rfl<|l7 (.lst 2 (B.map y5)) rfl<|a0y (a1o (enc:=y5) rfl) fun hl40 => x8 (.bool (decide ((E:Int) < (B.length:Int)))) rfl rfl rfl<|dk<|y9 rfl hq37<|a2l<|a2k<|a1t<|a2j<|?_;obtain rfl:=os hc1;exact a6i ⟨_,rfl⟩ ⟨[],[],_,_,rfl,rfl,⟨.r,tr⟩,.r⟩
   ·rw [hd38,a5s.eq_2] at hc1
    have hq37:=dlt hlt33
    refine o7<|sr<|l7 (.I (E:Int)) rfl<|l7 (.lst 2 (B.map y5)) rfl<|a0y (a1o (enc:=y5) rfl) fun hl41 => x8 (.bool (decide ((E:Int) < (B.length:Int)))) rfl rfl rfl<|dk<|y8 rfl hq37<|a0j<|a0i<|o7<|a2x<|sr<|?_
    obtain ⟨G,er43,hc1⟩:=ob hc1
    refine l7 (.lst 2 (B.map y5)) rfl<|l7 (.I (E:Int)) rfl<|x9 (a1n (enc:=y5) rfl rfl hx34)<|x8 (y5 H) rfl nle rfl<|l7 (.I D) rfl<|x9 (a0n (d3t _ _ _ er43) rfl .r rfl)<|l7 (.I G) rfl<|dk<|sr<|l7 (.I G) rfl<|x8 (.bool (decide (G < 0))) rfl rfl rfl<|dk<|?_
    rcases oi hc1 with ⟨c44,hc1⟩ | ⟨c44,hc1⟩
    ·refine y8 rfl c44<|sr<|l7 (.I (-1)) rfl<|dk<|a0e<|?_;obtain rfl:=os hc1;obtain rfl:=os hf;exact a0g ⟨tr,tr⟩ rfl .r
    ·refine y9 rfl (bf c44)<|a0j<|a2v<|a0i<|a0s<|l7 (.I (E:Int)) rfl<|x8 (.I (w64 ((E:Int) + 1))) rfl rfl rfl<|l7 (.I (w64 ((E:Int) + 1))) rfl<|a0h<|?_;exact a1m ⟨(G,(E + 1)),hc1⟩ (mul hlt33) ⟨[],[],_,_,rfl,rfl,⟨.r,⟨.r,⟨.of_eq (congrArg (AV.int _) (a1p hlt33 hl41)),tr⟩⟩⟩,.r⟩
  ·rintro ⟨F,rfl⟩
   refine sr<|l7 (.I F) rfl<|l7 (.I F) rfl<|dk<|a0e<|?_;obtain rfl:=os hf;exact a0g ⟨tr,tr⟩ rfl .r

/- laws.szResult -/
def c41:a0m :=
 (.seq (.reg (tq 2 (.box 5 (.t 0)) (tm 4 (.c (.int .i64 0)) .done)))
 (.seq (.reg (tq 5 (.faddr 3 (.t 2)) (tq 6 (.load 1 false (.t 5)) (tm 7 (.t 1) (tq 8 (.call 17 [(.t 6),(.t 7)]) (tm 1 (.t 8) .done))))))
 (.seq (.seq (.reg (tm 9 (.t 1) (tq 10 (.bin .lss (.t 9) (.c (.int .i64 0))) .done)))
 (.cond (.t 10) (.seq (.reg (tq 4 (.mov (.c (.int .i64 (-1)))) .done))
 .ret)
 .skip))
 (.seq (.reg (tq 11 (.faddr 4 (.t 2)) (tq 12 (.load 1 false (.t 11)) (tm 13 (.t 1) (tq 14 (.call 117 [(.t 12),(.t 13)]) (tm 1 (.t 14) .done))))))
 (.seq (.seq (.reg (tm 15 (.t 1) (tq 16 (.bin .lss (.t 15) (.c (.int .i64 0))) .done)))
 (.cond (.t 16) (.seq (.reg (tq 4 (.mov (.c (.int .i64 (-1)))) .done))
 .ret)
 .skip))
 (.seq (.reg (tm 17 (.t 1) (tm 4 (.t 17) .done)))
 .ret))))))
theorem f3g:a1b Tryz.prog Tryz.f41 = some (c41.erase,[.mov (.t 4)],18):=by kernel_rfl
def b0v (A:a1i) (B:Int):Option Int :=
    (a9v A.Columns B).bind fun E =>
    if (decide (E < 0)) then
    some (-1)
    else
    (b4j A.Rows E).bind fun D =>
    if (decide (D < 0)) then
    some (-1)
    else
    some D
theorem c6l (A:a1i) (B:Int) (r:Int) (hf:b0v A B = some r):a0a Tryz.prog 41 .flat [(a2c A),(.I B)] (.I r):=by
 refine a0a.of_awp mixed Tryz.func41 f3g nle ?_;rw [a0l];unfold b0v at hf;unfold c41;refine (show awp Tryz.prog false 0 _ (ofL [(0,(a2c A)),(1,(.I B))]) [] _ from ?_);refine sr<|x9 (a1j (j:=0) (c:=(.agg [(.I A.Code),(.I A.Count),(.I A.Id),(.lst 1 (A.Columns.map AV.str)),(.lst 2 (A.Rows.map y5))])) rfl tr rfl rfl)<|l7 (.I 0) rfl<|dk<|sr<|?_
 obtain ⟨E,er4,hf⟩:=ob hf
 refine x8 (.ptr 0 0 3) rfl tr rfl<|x8 (.lst 1 (A.Columns.map AV.str)) rfl nle rfl<|l7 (.I B) rfl<|x9 (a0n (c4q _ _ _ er4) rfl .r rfl)<|l7 (.I E) rfl<|dk<|o7<|sr<|l7 (.I E) rfl<|x8 (.bool (decide (E < 0))) rfl rfl rfl<|dk<|?_
 rcases oi hf with ⟨c5,hf⟩ | ⟨c5,hf⟩
 ·refine y8 rfl c5<|sr<|l7 (.I (-1)) rfl<|dk<|a0e<|?_;obtain rfl:=os hf;exact a0g ⟨tr,tr⟩ rfl .r
 ·refine y9 rfl (bf c5)<|a0j<|a0i<|sr<|?_
  obtain ⟨D,er7,hf⟩:=ob hf
  refine x8 (.ptr 0 0 4) rfl tr rfl<|x8 (.lst 2 (A.Rows.map y5)) rfl nle rfl<|l7 (.I E) rfl<|x9 (a0n (d0m _ _ _ er7) rfl .r rfl)<|l7 (.I D) rfl<|dk<|o7<|sr<|l7 (.I D) rfl<|x8 (.bool (decide (D < 0))) rfl rfl rfl<|dk<|?_
  rcases oi hf with ⟨c8,hf⟩ | ⟨c8,hf⟩
  ·refine y8 rfl c8<|sr<|l7 (.I (-1)) rfl<|dk<|a0e<|?_;obtain rfl:=os hf;exact a0g ⟨tr,tr⟩ rfl .r
  ·refine y9 rfl (bf c8)<|a0j<|a0i<|sr<|l7 (.I D) rfl<|l7 (.I D) rfl<|dk<|a0e<|?_;obtain rfl:=os hf;exact a0g ⟨tr,tr⟩ rfl .r

/- laws.toStringS -/
def c20:a0m :=
 (.seq (.reg (tm 2 (.c .nil) .done))
 (.seq (.reg (tm 5 (.t 0) (tq 6 (.len (.t 5)) (tq 7 (.mkslice 1 16 (.str []) (.t 6) (.t 6)) (tm 3 (.t 7) .done)))))
 (.seq (.seq (.reg (tm 4 (.c (.int .i64 0)) .done))
 (.block 0 (.loop (.seq (.seq (.reg (tm 8 (.t 4) (tm 9 (.t 0) (tq 10 (.len (.t 9)) (tq 11 (.bin .lss (.t 8) (.t 10)) .done)))))
 (.cond (.t 11) .skip
 (.exit 0)))
 (.seq (.block 1 (.reg (tm 14 (.t 3) (tm 15 (.t 4) (tm 16 (.t 0) (tm 17 (.t 4) (tq 18 (.iaddr 1 (.t 16) (.t 17)) (tq 19 (.load 1 false (.t 18)) (tq 20 (.iaddr 1 (.t 14) (.t 15)) (.q ⟨none,none,.store 1 (.t 20) (.t 19)⟩
 .done))))))))))
 (.reg (tm 12 (.t 4) (tq 13 (.bin .add (.t 12) (.c (.int .i64 1))) (tm 4 (.t 13) .done)))))))))
 (.cut (.seq (.reg (tm 21 (.t 3) (tm 2 (.t 21) .done)))
 .ret)))))
theorem f3h:a1b Tryz.prog Tryz.f20 = some (c20.erase,[.mov (.t 2)],22):=by kernel_rfl
def a3v :List Str → Nat → (List Str) → Option (List Str)
  | [],A,B =>
    some B
  | F :: xs,A,B =>
    if A < B.length then
    (B[A]?).bind fun G =>
    a3v xs (A + 1) (B.set A F)
    else none

def a9w (D:(List Str)):Option (List Str) :=
    if (D.length:Int) ≤ 2 ^ 30 then
    (a3v D 0 (List.replicate D.length [])).bind fun E =>
    some E
    else none
theorem c4r (D:(List Str)) (r:(List Str)) (hf:a9w D = some r):a0a Tryz.prog 20 .fresh [(.lst 1 (D.map AV.str))] (.lst 1 (r.map AV.str)):=by
 refine a0a.of_awp mixed Tryz.func20 f3h nle ?_;rw [a0l];unfold a9w at hf;unfold c20;refine (show awp Tryz.prog true 0 _ (ofL [(0,(.lst 1 (D.map AV.str)))]) [] _ from ?_);refine sr<|l7 .nil rfl<|dk<|sr<|?_
 obtain ⟨g3,hf⟩:=og hf
 refine l7 (.lst 1 (D.map AV.str)) rfl<|a0y (a1o (enc:=AV.str) rfl) fun hl2 => x9 (c0e (j:=0) (enc:=AV.str) (m:=D.length) [] .r rfl rfl (Int.le_refl _) g3 rfl)<|l7 (.own 0 0 D.length) rfl<|dk<|o7<|sr<|l7 (.I 0) rfl<|dk<|?_
 obtain ⟨E,hb1,hf⟩:=ob hf
 refine a1s ([(3,(.own 0 0 E.length))],[.row 1 (E.map AV.str)]) ?_ ?_
 ·refine a1f (X:={q:(Nat × (List Str)) // a3v (D.drop q.1) q.1 q.2 = some E}) (fun q => ([(0,(.lst 1 (D.map AV.str))),(3,(.own 0 0 q.1.2.length)),(4,(.I (q.1.1:Int)))],[.row 1 (q.1.2.map AV.str)])) (fun q => D.length - q.1.1) ⟨(0,List.replicate D.length []),hb1⟩ ⟨[],[0],_,_,rfl,rfl,⟨.r,⟨.of_eq (congrArg (AV.own _ 0) (by simp)),⟨.r,tr⟩⟩⟩,.r⟩ ?_
  rintro ⟨⟨A,B⟩,hc1⟩
  have hc1:a3v (D.drop A) A B = some E:=hc1
  refine (show awp Tryz.prog true 0 _ (ofL [(0,(.lst 1 (D.map AV.str))),(3,(.own 0 0 B.length)),(4,(.I (A:Int)))]) [.row 1 (B.map AV.str)] _ from ?_)
  rcases a5n D A with ⟨hie34,hd37⟩ | ⟨hlt32,F,hx33,hd37⟩
  ·rw [hd37,a3v.eq_1] at hc1
   have hq36:=dlf hie34
   refine o7<|sr<|l7 (.I (A:Int)) rfl<|l7 (.lst 1 (D.map AV.str)) rfl<|a0y (a1o (enc:=AV.str) rfl) fun hl39 => x8 (.bool (decide ((A:Int) < (D.length:Int)))) rfl rfl rfl<|dk<|y9 rfl hq36<|a2l<|a2k<|a1t<|a2j<|?_;obtain rfl:=os hc1;exact ⟨[],[0],_,_,rfl,rfl,⟨.r,tr⟩,.r⟩
  ·rw [hd37,a3v.eq_2] at hc1
   have hq36:=dlt hlt32
   refine o7<|sr<|l7 (.I (A:Int)) rfl<|l7 (.lst 1 (D.map AV.str)) rfl<|a0y (a1o (enc:=AV.str) rfl) fun hl40 => x8 (.bool (decide ((A:Int) < (D.length:Int)))) rfl rfl rfl<|dk<|y8 rfl hq36<|a0j<|a0i<|o7<|a2x<|a0s<|?_
   obtain ⟨g41,hc1⟩:=og hc1
   obtain ⟨G,ex43,hc1⟩:=ob hc1
   refine l7 (.own 0 0 B.length) rfl<|l7 (.I (A:Int)) rfl<|l7 (.lst 1 (D.map AV.str)) rfl<|l7 (.I (A:Int)) rfl<|x9 (a1n (enc:=AV.str) rfl rfl hx33)<|x8 (.str F) rfl ⟨rfl,rfl⟩ rfl<|x9 (b1y rfl rfl g41 rfl rfl)<|?_;refine a1v (a6o (v':=(.str F)) (e':=F) rfl rfl ex43 rfl rfl rfl (by decide) (fun _ => by decide) ⟨rfl,rfl,rfl⟩ .r rfl) ?_;refine a0h<|a2v<|a0i<|a0s<|l7 (.I (A:Int)) rfl<|x8 (.I (w64 ((A:Int) + 1))) rfl rfl rfl<|l7 (.I (w64 ((A:Int) + 1))) rfl<|a0h<|?_;exact a1m ⟨((A + 1),B.set A F),hc1⟩ (mul hlt32) ⟨[],[0],_,_,rfl,rfl,⟨.r,⟨.of_eq (congrArg (AV.own _ 0) (by simp)),⟨.of_eq (congrArg (AV.int _) (a1p hlt32 hl40)),tr⟩⟩⟩,.r⟩
 ·refine sr<|l7 (.own 0 0 E.length) rfl<|l7 (.own 0 0 E.length) rfl<|dk<|a0e<|?_;obtain rfl:=os hf;exact a2m ⟨tr,tr⟩ rfl (by decide) (.of_eq (congrArg (AV.lst _) (tk (enc:=AV.str) E)))

/- laws.toAtom -/
def e8h:a0m :=
 (.seq (.reg (tq 1 (.box 3 (.t 0)) (tq 2 (.box 3 (.c (.agg [(.int .i64 0),(.int .i64 0),(.str [])]))) .done)))
 (.seq (.reg (tq 3 (.box 3 (.c (.agg [(.int .i64 0),(.int .i64 0),(.str [])]))) .done))
 (.seq (.reg (tq 4 (.faddr 0 (.t 1)) (tq 5 (.load 1 false (.t 4)) (tq 6 (.faddr 0 (.t 3)) (.q ⟨none,none,.store 1 (.t 6) (.t 5)⟩
 .done)))))
 (.seq (.reg (tq 7 (.faddr 1 (.t 1)) (tq 8 (.load 1 false (.t 7)) (tq 9 (.faddr 1 (.t 3)) (.q ⟨none,none,.store 1 (.t 9) (.t 8)⟩
 .done)))))
 (.seq (.reg (tq 10 (.faddr 2 (.t 1)) (tq 11 (.load 1 false (.t 10)) (tq 12 (.faddr 2 (.t 3)) (.q ⟨none,none,.store 1 (.t 12) (.t 11)⟩
 .done)))))
 (.seq (.reg (tq 13 (.load 3 true (.t 3)) (.q ⟨none,none,.store 3 (.t 2) (.t 13)⟩
 .done)))
 .ret))))))
theorem e8i:a1b Tryz.prog Tryz.f283 = some (e8h.erase,[.load 3 true (.t 2)],14):=by kernel_rfl
def b4k (A:a0k):Option a0k :=
    some A
theorem d0n (A:a0k) (r:a0k) (hf:b4k A = some r):a0a Tryz.prog 283 .flat [(o6 A)] (o6 r):=by
 refine a0a.of_awp mixed Tryz.func283 e8i nle ?_;rw [a0l];unfold b4k at hf;unfold e8h;refine (show awp Tryz.prog false 0 _ (ofL [(0,(o6 A))]) [] _ from ?_);refine sr<|x9 (a1j (j:=0) (c:=(.agg [(.I A.Kind),(.I A.N),(.str A.T)])) rfl tr rfl rfl)<|x9 (a1j (j:=1) (c:=(.agg [(.I 0),(.I 0),(.str [])])) rfl tr rfl rfl)<|dk<|sr<|x9 (a1j (j:=2) (c:=(.agg [(.I 0),(.I 0),(.str [])])) rfl tr rfl rfl)<|dk<|sr<|x8 (.ptr 0 0 0) rfl tr rfl<|x8 (.I A.Kind) rfl nle rfl<|x8 (.ptr 2 0 0) rfl tr rfl<|a1v (a0f (v:=(.I A.Kind)) (y':=(.agg [(.I A.Kind),(.I 0),(.str [])])) rfl rfl rfl tr ⟨rfl,nle⟩ ⟨⟨rfl,tr⟩,tr⟩ rfl)<|?_
 refine dk<|sr<|x8 (.ptr 0 0 1) rfl tr rfl<|x8 (.I A.N) rfl nle rfl<|x8 (.ptr 2 0 1) rfl tr rfl<|a1v (a0f (v:=(.I A.N)) (y':=(.agg [(.I A.Kind),(.I A.N),(.str [])])) rfl rfl rfl tr ⟨rfl,nle⟩ ⟨⟨rfl,tr⟩,tr⟩ rfl)<|dk<|sr<|x8 (.ptr 0 0 2) rfl tr rfl<|x8 (.str A.T) rfl nle rfl<|x8 (.ptr 2 0 2) rfl tr rfl<|a1v (a0f (v:=(.str A.T)) (y':=(.agg [(.I A.Kind),(.I A.N),(.str A.T)])) rfl rfl rfl tr ⟨rfl,nle⟩ ⟨⟨rfl,tr⟩,tr⟩ rfl)<|dk<|sr<|x8 (.agg [(.I A.Kind),(.I A.N),(.str A.T)]) rfl nle rfl<|?_
 refine a1v (a0f (v:=(.agg [(.I A.Kind),(.I A.N),(.str A.T)])) (y':=(.agg [(.I A.Kind),(.I A.N),(.str A.T)])) rfl rfl rfl tr ⟨rfl,nle⟩ ⟨⟨rfl,tr⟩,⟨⟨rfl,tr⟩,⟨⟨rfl,tr⟩,tr⟩⟩⟩ rfl)<|dk<|a0e<|?_;obtain rfl:=os hf;exact a0g ⟨nle,tr⟩ rfl .r

/- laws.toAtomS -/
def c193:a0m :=
 (.seq (.reg (tm 2 (.c .nil) .done))
 (.seq (.reg (tm 5 (.t 0) (tq 6 (.len (.t 5)) (tq 7 (.mkslice 3 32 (.agg [(.int .i64 0),(.int .i64 0),(.str [])]) (.t 6) (.t 6)) (tm 3 (.t 7) .done)))))
 (.seq (.seq (.reg (tm 4 (.c (.int .i64 0)) .done))
 (.block 0 (.loop (.seq (.seq (.reg (tm 8 (.t 4) (tm 9 (.t 0) (tq 10 (.len (.t 9)) (tq 11 (.bin .lss (.t 8) (.t 10)) .done)))))
 (.cond (.t 11) .skip
 (.exit 0)))
 (.seq (.block 1 (.reg (tm 14 (.t 3) (tm 15 (.t 4) (tm 16 (.t 0) (tm 17 (.t 4) (tq 18 (.iaddr 3 (.t 16) (.t 17)) (tq 19 (.load 3 true (.t 18)) (tq 20 (.call 283 [(.t 19)]) (tq 21 (.iaddr 3 (.t 14) (.t 15)) (.q ⟨none,none,.store 3 (.t 21) (.t 20)⟩
 .done)))))))))))
 (.reg (tm 12 (.t 4) (tq 13 (.bin .add (.t 12) (.c (.int .i64 1))) (tm 4 (.t 13) .done)))))))))
 (.cut (.seq (.reg (tm 22 (.t 3) (tm 2 (.t 22) .done)))
 .ret)))))
theorem e8j:a1b Tryz.prog Tryz.f193 = some (c193.erase,[.mov (.t 2)],23):=by kernel_rfl
def a5c :List a0k → Nat → (List a0k) → Option (List a0k)
  | [],A,B =>
    some B
  | G :: xs,A,B =>
    (b4k G).bind fun F =>
    if A < B.length then
    (B[A]?).bind fun H =>
    a5c xs (A + 1) (B.set A F)
    else none

def b2q (D:(List a0k)):Option (List a0k) :=
    if (D.length:Int) ≤ 2 ^ 30 then
    (a5c D 0 (List.replicate D.length (⟨0,0,[]⟩:a0k))).bind fun E =>
    some E
    else none
theorem c8v (D:(List a0k)) (r:(List a0k)) (hf:b2q D = some r):a0a Tryz.prog 193 .fresh [(.lst 3 (D.map o6))] (.lst 3 (r.map o6)):=by
 refine a0a.of_awp mixed Tryz.func193 e8j nle ?_;rw [a0l];unfold b2q at hf;unfold c193;refine (show awp Tryz.prog true 0 _ (ofL [(0,(.lst 3 (D.map o6)))]) [] _ from ?_);refine sr<|l7 .nil rfl<|dk<|sr<|?_
 obtain ⟨g3,hf⟩:=og hf
 refine l7 (.lst 3 (D.map o6)) rfl<|a0y (a1o (enc:=o6) rfl) fun hl2 => x9 (c0e (j:=0) (enc:=o6) (m:=D.length) (⟨0,0,[]⟩:a0k) .r rfl rfl (Int.le_refl _) g3 rfl)<|l7 (.own 0 0 D.length) rfl<|dk<|o7<|sr<|l7 (.I 0) rfl<|dk<|?_
 obtain ⟨E,hb1,hf⟩:=ob hf
 refine a1s ([(3,(.own 0 0 E.length))],[.row 3 (E.map o6)]) ?_ ?_
 ·refine a1f (X:={q:(Nat × (List a0k)) // a5c (D.drop q.1) q.1 q.2 = some E}) (fun q => ([(0,(.lst 3 (D.map o6))),(3,(.own 0 0 q.1.2.length)),(4,(.I (q.1.1:Int)))],[.row 3 (q.1.2.map o6)])) (fun q => D.length - q.1.1) ⟨(0,List.replicate D.length (⟨0,0,[]⟩:a0k)),hb1⟩ ⟨[],[0],_,_,rfl,rfl,⟨.r,⟨.of_eq (congrArg (AV.own _ 0) (by simp)),⟨.r,tr⟩⟩⟩,.r⟩ ?_
  rintro ⟨⟨A,B⟩,hc1⟩
  have hc1:a5c (D.drop A) A B = some E:=hc1
  refine (show awp Tryz.prog true 0 _ (ofL [(0,(.lst 3 (D.map o6))),(3,(.own 0 0 B.length)),(4,(.I (A:Int)))]) [.row 3 (B.map o6)] _ from ?_)
  rcases a5n D A with ⟨hie40,hd43⟩ | ⟨hlt38,G,hx39,hd43⟩
  ·rw [hd43,a5c.eq_1] at hc1
   have hq42:=dlf hie40
   refine o7<|sr<|l7 (.I (A:Int)) rfl<|l7 (.lst 3 (D.map o6)) rfl<|a0y (a1o (enc:=o6) rfl) fun hl45 => x8 (.bool (decide ((A:Int) < (D.length:Int)))) rfl rfl rfl<|dk<|y9 rfl hq42<|a2l<|a2k<|a1t<|a2j<|?_;obtain rfl:=os hc1;exact ⟨[],[0],_,_,rfl,rfl,⟨.r,tr⟩,.r⟩
  ·rw [hd43,a5c.eq_2] at hc1
   have hq42:=dlt hlt38
   refine o7<|sr<|l7 (.I (A:Int)) rfl<|l7 (.lst 3 (D.map o6)) rfl<|a0y (a1o (enc:=o6) rfl) fun hl46 => x8 (.bool (decide ((A:Int) < (D.length:Int)))) rfl rfl rfl<|dk<|y8 rfl hq42<|a0j<|a0i<|o7<|a2x<|a0s<|?_
   obtain ⟨F,er48,hc1⟩:=ob hc1
   obtain ⟨g49,hc1⟩:=og hc1
   obtain ⟨H,ex51,hc1⟩:=ob hc1
   refine l7 (.own 0 0 B.length) rfl<|l7 (.I (A:Int)) rfl<|l7 (.lst 3 (D.map o6)) rfl<|l7 (.I (A:Int)) rfl<|x9 (a1n (enc:=o6) rfl rfl hx39)<|x8 (o6 G) rfl nle rfl<|x9 (a0n (d0n _ _ er48) rfl .r rfl)<|x9 (b1y rfl rfl g49 rfl rfl)<|?_;refine a1v (a6o (v':=(o6 F)) (e':=F) rfl rfl ex51 rfl rfl rfl (by decide) (fun _ => by decide) ⟨rfl,nle⟩ .r rfl) ?_;refine a0h<|a2v<|a0i<|a0s<|l7 (.I (A:Int)) rfl<|x8 (.I (w64 ((A:Int) + 1))) rfl rfl rfl<|l7 (.I (w64 ((A:Int) + 1))) rfl<|a0h<|?_;exact a1m ⟨((A + 1),B.set A F),hc1⟩ (mul hlt38) ⟨[],[0],_,_,rfl,rfl,⟨.r,⟨.of_eq (congrArg (AV.own _ 0) (by simp)),⟨.of_eq (congrArg (AV.int _) (a1p hlt38 hl46)),tr⟩⟩⟩,.r⟩
 ·refine sr<|l7 (.own 0 0 E.length) rfl<|l7 (.own 0 0 E.length) rfl<|dk<|a0e<|?_;obtain rfl:=os hf;exact a2m ⟨tr,tr⟩ rfl (by decide) (.of_eq (congrArg (AV.lst _) (tk (enc:=o6) E)))

/- laws.toAtomSS -/
def c95:a0m :=
 (.seq (.reg (tm 2 (.c .nil) .done))
 (.seq (.reg (tm 5 (.t 0) (tq 6 (.len (.t 5)) (tq 7 (.mkslice 1 24 .nil (.t 6) (.t 6)) (tm 3 (.t 7) .done)))))
 (.seq (.seq (.reg (tm 4 (.c (.int .i64 0)) .done))
 (.block 0 (.loop (.seq (.seq (.reg (tm 8 (.t 4) (tm 9 (.t 0) (tq 10 (.len (.t 9)) (tq 11 (.bin .lss (.t 8) (.t 10)) .done)))))
 (.cond (.t 11) .skip
 (.exit 0)))
 (.seq (.block 1 (.reg (tm 14 (.t 3) (tm 15 (.t 4) (tm 16 (.t 0) (tm 17 (.t 4) (tq 18 (.iaddr 1 (.t 16) (.t 17)) (tq 19 (.load 1 false (.t 18)) (tq 20 (.call 193 [(.t 19)]) (tq 21 (.iaddr 1 (.t 14) (.t 15)) (.q ⟨none,none,.store 1 (.t 21) (.t 20)⟩
 .done)))))))))))
 (.reg (tm 12 (.t 4) (tq 13 (.bin .add (.t 12) (.c (.int .i64 1))) (tm 4 (.t 13) .done)))))))))
 (.cut (.seq (.reg (tm 22 (.t 3) (tm 2 (.t 22) .done)))
 .ret)))))
theorem f3i:a1b Tryz.prog Tryz.f95 = some (c95.erase,[.mov (.t 2)],23):=by kernel_rfl
def a4g :List (List a0k) → Nat → (List (List a0k)) → Option (List (List a0k))
  | [],A,B =>
    some B
  | G :: xs,A,B =>
    (b2q G).bind fun F =>
    if A < B.length then
    (B[A]?).bind fun H =>
    a4g xs (A + 1) (B.set A F)
    else none

def b0w (D:(List (List a0k))):Option (List (List a0k)) :=
    if (D.length:Int) ≤ 2 ^ 30 then
    (a4g D 0 (List.replicate D.length [])).bind fun E =>
    some E
    else none
theorem c6m (D:(List (List a0k))) (r:(List (List a0k))) (hf:b0w D = some r):a0a Tryz.prog 95 .fresh [(.lst 1 (D.map (a1q 3 o6)))] (.lst 1 (r.map (a1q 3 o6))):=by
 refine a0a.of_awp mixed Tryz.func95 f3i nle ?_;rw [a0l];unfold b0w at hf;unfold c95;refine (show awp Tryz.prog true 0 _ (ofL [(0,(.lst 1 (D.map (a1q 3 o6))))]) [] _ from ?_);refine sr<|l7 .nil rfl<|dk<|sr<|?_
 obtain ⟨g3,hf⟩:=og hf
 refine l7 (.lst 1 (D.map (a1q 3 o6))) rfl<|a0y (a1o (enc:=(a1q 3 o6)) rfl) fun hl2 => x9 (c0e (j:=0) (enc:=(a1q 3 o6)) (m:=D.length) [] (.nil _) rfl rfl (Int.le_refl _) g3 rfl)<|l7 (.own 0 0 D.length) rfl<|dk<|o7<|sr<|l7 (.I 0) rfl<|dk<|?_
 obtain ⟨E,hb1,hf⟩:=ob hf
 refine a1s ([(3,(.own 0 0 E.length))],[.row 1 (E.map (a1q 3 o6))]) ?_ ?_
 ·refine a1f (X:={q:(Nat × (List (List a0k))) // a4g (D.drop q.1) q.1 q.2 = some E}) (fun q => ([(0,(.lst 1 (D.map (a1q 3 o6)))),(3,(.own 0 0 q.1.2.length)),(4,(.I (q.1.1:Int)))],[.row 1 (q.1.2.map (a1q 3 o6))])) (fun q => D.length - q.1.1) ⟨(0,List.replicate D.length []),hb1⟩ ⟨[],[0],_,_,rfl,rfl,⟨.r,⟨.of_eq (congrArg (AV.own _ 0) (by simp)),⟨.r,tr⟩⟩⟩,.r⟩ ?_
  rintro ⟨⟨A,B⟩,hc1⟩
  have hc1:a4g (D.drop A) A B = some E:=hc1
  refine (show awp Tryz.prog true 0 _ (ofL [(0,(.lst 1 (D.map (a1q 3 o6)))),(3,(.own 0 0 B.length)),(4,(.I (A:Int)))]) [.row 1 (B.map (a1q 3 o6))] _ from ?_)
  rcases a5n D A with ⟨hie40,hd43⟩ | ⟨hlt38,G,hx39,hd43⟩
  ·rw [hd43,a4g.eq_1] at hc1
   have hq42:=dlf hie40
   refine o7<|sr<|l7 (.I (A:Int)) rfl<|l7 (.lst 1 (D.map (a1q 3 o6))) rfl<|a0y (a1o (enc:=(a1q 3 o6)) rfl) fun hl45 => x8 (.bool (decide ((A:Int) < (D.length:Int)))) rfl rfl rfl<|dk<|y9 rfl hq42<|a2l<|a2k<|a1t<|a2j<|?_;obtain rfl:=os hc1;exact ⟨[],[0],_,_,rfl,rfl,⟨.r,tr⟩,.r⟩
  ·rw [hd43,a4g.eq_2] at hc1
   have hq42:=dlt hlt38
   refine o7<|sr<|l7 (.I (A:Int)) rfl<|l7 (.lst 1 (D.map (a1q 3 o6))) rfl<|a0y (a1o (enc:=(a1q 3 o6)) rfl) fun hl46 => x8 (.bool (decide ((A:Int) < (D.length:Int)))) rfl rfl rfl<|dk<|y8 rfl hq42<|a0j<|a0i<|o7<|a2x<|a0s<|?_
   obtain ⟨F,er48,hc1⟩:=ob hc1
   obtain ⟨g49,hc1⟩:=og hc1
   obtain ⟨H,ex51,hc1⟩:=ob hc1
   refine l7 (.own 0 0 B.length) rfl<|l7 (.I (A:Int)) rfl<|l7 (.lst 1 (D.map (a1q 3 o6))) rfl<|l7 (.I (A:Int)) rfl<|x9 (a1n (enc:=(a1q 3 o6)) rfl rfl hx39)<|x8 (.lst 3 (G.map o6)) rfl ⟨rfl,rfl⟩ rfl<|x9 (a2z (v:=(.own 1 0 F.length)) (h':=[.row 3 (F.map o6)]) (c8v _ _ er48) rfl .r (by simp only [a2f,a2a,List.length_map,List.nil_append,List.append_nil,List.cons_append];rfl))<|x9 (b1y rfl rfl g49 rfl rfl)<|?_
   refine a1v (a6o (v':=(.lst 3 (F.map o6))) (e':=F) rfl rfl ex51 rfl rfl (by first | (simp only [tk,tko,List.take_length];done) | rfl | simp) (by decide) (fun _ => by decide) ⟨rfl,rfl,rfl⟩ .r rfl) ?_
   refine a0h<|a2v<|a0i<|a0s<|l7 (.I (A:Int)) rfl<|x8 (.I (w64 ((A:Int) + 1))) rfl rfl rfl<|l7 (.I (w64 ((A:Int) + 1))) rfl<|a0h<|?_;exact a1m ⟨((A + 1),B.set A F),hc1⟩ (mul hlt38) ⟨[],[0],_,_,rfl,rfl,⟨.r,⟨.of_eq (congrArg (AV.own _ 0) (by simp)),⟨.of_eq (congrArg (AV.int _) (a1p hlt38 hl46)),tr⟩⟩⟩,.r⟩
 ·refine sr<|l7 (.own 0 0 E.length) rfl<|l7 (.own 0 0 E.length) rfl<|dk<|a0e<|?_;obtain rfl:=os hf;exact a2m ⟨tr,tr⟩ rfl (by decide) (.of_eq (congrArg (AV.lst _) (tk (enc:=(a1q 3 o6)) E)))

/- laws.toRow -/
def c21:a0m :=
 (.seq (.reg (tq 1 (.box 2 (.t 0)) (tq 2 (.box 2 (.c (.agg [(.int .i64 0),.nil]))) .done)))
 (.seq (.reg (tq 3 (.box 2 (.c (.agg [(.int .i64 0),.nil]))) .done))
 (.seq (.reg (tq 4 (.faddr 0 (.t 1)) (tq 5 (.load 1 false (.t 4)) (tq 6 (.faddr 0 (.t 3)) (.q ⟨none,none,.store 1 (.t 6) (.t 5)⟩
 .done)))))
 (.seq (.reg (tq 7 (.faddr 1 (.t 1)) (tq 8 (.load 1 false (.t 7)) (tq 9 (.call 95 [(.t 8)]) (tq 10 (.faddr 1 (.t 3)) (.q ⟨none,none,.store 1 (.t 10) (.t 9)⟩
 .done))))))
 (.seq (.reg (tq 11 (.load 2 true (.t 3)) (.q ⟨none,none,.store 2 (.t 2) (.t 11)⟩
 .done)))
 .ret)))))
theorem f3j:a1b Tryz.prog Tryz.f21 = some (c21.erase,[.load 2 true (.t 2)],12):=by kernel_rfl
def b6b (A:a1u):Option a1u :=
    (b0w A.Cells).bind fun B =>
    some (⟨A.Id,B⟩:a1u)
theorem d3u (A:a1u) (r:a1u) (hf:b6b A = some r):a0a Tryz.prog 21 .fresh [(y5 A)] (y5 r):=by
 refine a0a.of_awp mixed Tryz.func21 f3j nle ?_;rw [a0l];unfold b6b at hf;unfold c21;refine (show awp Tryz.prog true 0 _ (ofL [(0,(y5 A))]) [] _ from ?_);refine sr<|x9 (a1j (j:=0) (c:=(.agg [(.I A.Id),(.lst 1 (A.Cells.map (a1q 3 o6)))])) rfl tr rfl rfl)<|x9 (a1j (j:=1) (c:=(.agg [(.I 0),.nil])) rfl tr rfl rfl)<|dk<|sr<|x9 (a1j (j:=2) (c:=(.agg [(.I 0),.nil])) rfl tr rfl rfl)<|dk<|sr<|x8 (.ptr 0 0 0) rfl tr rfl<|x8 (.I A.Id) rfl nle rfl<|x8 (.ptr 2 0 0) rfl tr rfl<|a1v (a0f (v:=(.I A.Id)) (y':=(.agg [(.I A.Id),.nil])) rfl rfl rfl tr ⟨rfl,nle⟩ ⟨⟨rfl,tr⟩,tr⟩ rfl)<|?_
 refine dk<|sr<|?_
 obtain ⟨B,er3,hf⟩:=ob hf
 refine x8 (.ptr 0 0 1) rfl tr rfl<|x8 (.lst 1 (A.Cells.map (a1q 3 o6))) rfl nle rfl<|x9 (a2z (v:=(.own 3 0 B.length)) (h':=[.row 1 (B.map (a1q 3 o6))]) (c6m _ _ er3) rfl .r (by simp only [a2f,a2a,List.length_map,List.nil_append,List.append_nil,List.cons_append];rfl))<|x8 (.ptr 2 0 1) rfl tr rfl<|a1v (a0f (v:=(.own 3 0 B.length)) (y':=(.agg [(.I A.Id),(.own 3 0 B.length)])) rfl rfl rfl tr ⟨rfl,nle⟩ ⟨⟨rfl,tr⟩,tr⟩ rfl)<|dk<|sr<|x8 (.agg [(.I A.Id),(.own 3 0 B.length)]) rfl nle rfl<|a1v (a0f (v:=(.agg [(.I A.Id),(.own 3 0 B.length)])) (y':=(.agg [(.I A.Id),(.own 3 0 B.length)])) rfl rfl rfl tr ⟨rfl,nle⟩ ⟨⟨rfl,tr⟩,⟨⟨rfl,tr⟩,tr⟩⟩ rfl)<|?_
 refine dk<|a0e<|?_;obtain rfl:=os hf;exact a2m ⟨nle,tr⟩ rfl (by decide) (.agg (.cons .r (.cons (.of_eq (congrArg (AV.lst _) (tk (enc:=(a1q 3 o6)) B))) .nil)))

/- laws.toRowS -/
def e8k:a0m :=
 (.seq (.reg (tm 2 (.c .nil) .done))
 (.seq (.reg (tm 5 (.t 0) (tq 6 (.len (.t 5)) (tq 7 (.mkslice 2 32 (.agg [(.int .i64 0),.nil]) (.t 6) (.t 6)) (tm 3 (.t 7) .done)))))
 (.seq (.seq (.reg (tm 4 (.c (.int .i64 0)) .done))
 (.block 0 (.loop (.seq (.seq (.reg (tm 8 (.t 4) (tm 9 (.t 0) (tq 10 (.len (.t 9)) (tq 11 (.bin .lss (.t 8) (.t 10)) .done)))))
 (.cond (.t 11) .skip
 (.exit 0)))
 (.seq (.block 1 (.reg (tm 14 (.t 3) (tm 15 (.t 4) (tm 16 (.t 0) (tm 17 (.t 4) (tq 18 (.iaddr 2 (.t 16) (.t 17)) (tq 19 (.load 2 true (.t 18)) (tq 20 (.call 21 [(.t 19)]) (tq 21 (.iaddr 2 (.t 14) (.t 15)) (.q ⟨none,none,.store 2 (.t 21) (.t 20)⟩
 .done)))))))))))
 (.reg (tm 12 (.t 4) (tq 13 (.bin .add (.t 12) (.c (.int .i64 1))) (tm 4 (.t 13) .done)))))))))
 (.cut (.seq (.reg (tm 22 (.t 3) (tm 2 (.t 22) .done)))
 .ret)))))
theorem e8l:a1b Tryz.prog Tryz.f121 = some (e8k.erase,[.mov (.t 2)],23):=by kernel_rfl
def a5t :List a1u → Nat → (List a1u) → Option (List a1u)
  | [],A,B =>
    some B
  | G :: xs,A,B =>
    (b6b G).bind fun F =>
    if A < B.length then
    (B[A]?).bind fun H =>
    a5t xs (A + 1) (B.set A F)
    else none

def b4l (D:(List a1u)):Option (List a1u) :=
    if (D.length:Int) ≤ 2 ^ 30 then
    (a5t D 0 (List.replicate D.length (⟨0,[]⟩:a1u))).bind fun E =>
    some E
    else none
theorem d0o (D:(List a1u)) (r:(List a1u)) (hf:b4l D = some r):a0a Tryz.prog 121 .fresh [(.lst 2 (D.map y5))] (.lst 2 (r.map y5)):=by
 refine a0a.of_awp mixed Tryz.func121 e8l nle ?_;rw [a0l];unfold b4l at hf;unfold e8k;refine (show awp Tryz.prog true 0 _ (ofL [(0,(.lst 2 (D.map y5)))]) [] _ from ?_);refine sr<|l7 .nil rfl<|dk<|sr<|?_
 obtain ⟨g3,hf⟩:=og hf
 refine l7 (.lst 2 (D.map y5)) rfl<|a0y (a1o (enc:=y5) rfl) fun hl2 => x9 (c0e (j:=0) (enc:=y5) (m:=D.length) (⟨0,[]⟩:a1u) (.agg (.cons .r (.cons (.nil _) .nil))) rfl rfl (Int.le_refl _) g3 rfl)<|l7 (.own 0 0 D.length) rfl<|dk<|o7<|sr<|l7 (.I 0) rfl<|dk<|?_
 obtain ⟨E,hb1,hf⟩:=ob hf
 refine a1s ([(3,(.own 0 0 E.length))],[.row 2 (E.map y5)]) ?_ ?_
 ·refine a1f (X:={q:(Nat × (List a1u)) // a5t (D.drop q.1) q.1 q.2 = some E}) (fun q => ([(0,(.lst 2 (D.map y5))),(3,(.own 0 0 q.1.2.length)),(4,(.I (q.1.1:Int)))],[.row 2 (q.1.2.map y5)])) (fun q => D.length - q.1.1) ⟨(0,List.replicate D.length (⟨0,[]⟩:a1u)),hb1⟩ ⟨[],[0],_,_,rfl,rfl,⟨.r,⟨.of_eq (congrArg (AV.own _ 0) (by simp)),⟨.r,tr⟩⟩⟩,.r⟩ ?_
  rintro ⟨⟨A,B⟩,hc1⟩
  have hc1:a5t (D.drop A) A B = some E:=hc1
  refine (show awp Tryz.prog true 0 _ (ofL [(0,(.lst 2 (D.map y5))),(3,(.own 0 0 B.length)),(4,(.I (A:Int)))]) [.row 2 (B.map y5)] _ from ?_)
  rcases a5n D A with ⟨hie40,hd43⟩ | ⟨hlt38,G,hx39,hd43⟩
  ·rw [hd43,a5t.eq_1] at hc1
   have hq42:=dlf hie40
   refine o7<|sr<|l7 (.I (A:Int)) rfl<|l7 (.lst 2 (D.map y5)) rfl<|a0y (a1o (enc:=y5) rfl) fun hl45 => x8 (.bool (decide ((A:Int) < (D.length:Int)))) rfl rfl rfl<|dk<|y9 rfl hq42<|a2l<|a2k<|a1t<|a2j<|?_;obtain rfl:=os hc1;exact ⟨[],[0],_,_,rfl,rfl,⟨.r,tr⟩,.r⟩
  ·rw [hd43,a5t.eq_2] at hc1
   have hq42:=dlt hlt38
   refine o7<|sr<|l7 (.I (A:Int)) rfl<|l7 (.lst 2 (D.map y5)) rfl<|a0y (a1o (enc:=y5) rfl) fun hl46 => x8 (.bool (decide ((A:Int) < (D.length:Int)))) rfl rfl rfl<|dk<|y8 rfl hq42<|a0j<|a0i<|o7<|a2x<|a0s<|?_
   obtain ⟨F,er48,hc1⟩:=ob hc1
   obtain ⟨g49,hc1⟩:=og hc1
   obtain ⟨H,ex51,hc1⟩:=ob hc1
   refine l7 (.own 0 0 B.length) rfl<|l7 (.I (A:Int)) rfl<|l7 (.lst 2 (D.map y5)) rfl<|l7 (.I (A:Int)) rfl<|x9 (a1n (enc:=y5) rfl rfl hx39)<|x8 (y5 G) rfl nle rfl<|x9 (a2z (v:=(.agg [(.I F.Id),(.own 1 0 F.Cells.length)])) (h':=[.row 1 (F.Cells.map (a1q 3 o6))]) (d3u _ _ er48) rfl .r (by simp only [a2f,a2a,List.length_map,d7u,List.nil_append,List.append_nil,List.cons_append];rfl))<|x9 (b1y rfl rfl g49 rfl rfl)<|?_
   refine a1v (a6o (v':=(.agg [(.I F.Id),(.lst 1 (F.Cells.map (a1q 3 o6)))])) (e':=F) rfl rfl ex51 rfl rfl (by first | (simp only [tk,tko,List.take_length];done) | rfl | simp) (by decide) (fun _ => by decide) ⟨rfl,nle⟩ .r rfl) ?_
   refine a0h<|a2v<|a0i<|a0s<|l7 (.I (A:Int)) rfl<|x8 (.I (w64 ((A:Int) + 1))) rfl rfl rfl<|l7 (.I (w64 ((A:Int) + 1))) rfl<|a0h<|?_;exact a1m ⟨((A + 1),B.set A F),hc1⟩ (mul hlt38) ⟨[],[0],_,_,rfl,rfl,⟨.r,⟨.of_eq (congrArg (AV.own _ 0) (by simp)),⟨.of_eq (congrArg (AV.int _) (a1p hlt38 hl46)),tr⟩⟩⟩,.r⟩
 ·refine sr<|l7 (.own 0 0 E.length) rfl<|l7 (.own 0 0 E.length) rfl<|dk<|a0e<|?_;obtain rfl:=os hf;exact a2m ⟨tr,tr⟩ rfl (by decide) (.of_eq (congrArg (AV.lst _) (tk (enc:=y5) E)))

/- laws.toResult -/
def c43:a0m :=
 (.seq (.reg (tq 1 (.box 5 (.t 0)) (tq 2 (.box 5 (.c (.agg [(.int .i64 0),(.int .i64 0),(.int .i64 0),.nil,.nil]))) .done)))
 (.seq (.reg (tq 3 (.box 5 (.c (.agg [(.int .i64 0),(.int .i64 0),(.int .i64 0),.nil,.nil]))) .done))
 (.seq (.reg (tq 4 (.faddr 0 (.t 1)) (tq 5 (.load 1 false (.t 4)) (tq 6 (.faddr 0 (.t 3)) (.q ⟨none,none,.store 1 (.t 6) (.t 5)⟩
 .done)))))
 (.seq (.reg (tq 7 (.faddr 1 (.t 1)) (tq 8 (.load 1 false (.t 7)) (tq 9 (.faddr 1 (.t 3)) (.q ⟨none,none,.store 1 (.t 9) (.t 8)⟩
 .done)))))
 (.seq (.reg (tq 10 (.faddr 2 (.t 1)) (tq 11 (.load 1 false (.t 10)) (tq 12 (.faddr 2 (.t 3)) (.q ⟨none,none,.store 1 (.t 12) (.t 11)⟩
 .done)))))
 (.seq (.reg (tq 13 (.faddr 3 (.t 1)) (tq 14 (.load 1 false (.t 13)) (tq 15 (.call 20 [(.t 14)]) (tq 16 (.faddr 3 (.t 3)) (.q ⟨none,none,.store 1 (.t 16) (.t 15)⟩
 .done))))))
 (.seq (.reg (tq 17 (.faddr 4 (.t 1)) (tq 18 (.load 1 false (.t 17)) (tq 19 (.call 121 [(.t 18)]) (tq 20 (.faddr 4 (.t 3)) (.q ⟨none,none,.store 1 (.t 20) (.t 19)⟩
 .done))))))
 (.seq (.reg (tq 21 (.load 5 true (.t 3)) (.q ⟨none,none,.store 5 (.t 2) (.t 21)⟩
 .done)))
 .ret))))))))
theorem f3k:a1b Tryz.prog Tryz.f43 = some (c43.erase,[.load 5 true (.t 2)],22):=by kernel_rfl
def a7h (A:a1i):Option a1i :=
    (a9w A.Columns).bind fun B =>
    (b4l A.Rows).bind fun D =>
    some (⟨A.Code,A.Count,A.Id,B,D⟩:a1i)
theorem b1n (A:a1i) (r:a1i) (hf:a7h A = some r):a0a Tryz.prog 43 .fresh [(a2c A)] (a2c r):=by
 refine a0a.of_awp mixed Tryz.func43 f3k nle ?_;rw [a0l];unfold a7h at hf;unfold c43;refine (show awp Tryz.prog true 0 _ (ofL [(0,(a2c A))]) [] _ from ?_);refine sr<|x9 (a1j (j:=0) (c:=(.agg [(.I A.Code),(.I A.Count),(.I A.Id),(.lst 1 (A.Columns.map AV.str)),(.lst 2 (A.Rows.map y5))])) rfl tr rfl rfl)<|x9 (a1j (j:=1) (c:=(.agg [(.I 0),(.I 0),(.I 0),.nil,.nil])) rfl tr rfl rfl)<|dk<|sr<|x9 (a1j (j:=2) (c:=(.agg [(.I 0),(.I 0),(.I 0),.nil,.nil])) rfl tr rfl rfl)<|dk<|sr<|x8 (.ptr 0 0 0) rfl tr rfl<|?_
 refine x8 (.I A.Code) rfl nle rfl<|x8 (.ptr 2 0 0) rfl tr rfl<|a1v (a0f (v:=(.I A.Code)) (y':=(.agg [(.I A.Code),(.I 0),(.I 0),.nil,.nil])) rfl rfl rfl tr ⟨rfl,nle⟩ ⟨⟨rfl,tr⟩,tr⟩ rfl)<|dk<|sr<|x8 (.ptr 0 0 1) rfl tr rfl<|x8 (.I A.Count) rfl nle rfl<|x8 (.ptr 2 0 1) rfl tr rfl<|a1v (a0f (v:=(.I A.Count)) (y':=(.agg [(.I A.Code),(.I A.Count),(.I 0),.nil,.nil])) rfl rfl rfl tr ⟨rfl,nle⟩ ⟨⟨rfl,tr⟩,tr⟩ rfl)<|dk<|sr<|x8 (.ptr 0 0 2) rfl tr rfl<|x8 (.I A.Id) rfl nle rfl<|?_
 refine x8 (.ptr 2 0 2) rfl tr rfl<|a1v (a0f (v:=(.I A.Id)) (y':=(.agg [(.I A.Code),(.I A.Count),(.I A.Id),.nil,.nil])) rfl rfl rfl tr ⟨rfl,nle⟩ ⟨⟨rfl,tr⟩,tr⟩ rfl)<|dk<|sr<|?_
 obtain ⟨B,er3,hf⟩:=ob hf
 refine x8 (.ptr 0 0 3) rfl tr rfl<|x8 (.lst 1 (A.Columns.map AV.str)) rfl nle rfl<|x9 (a2z (v:=(.own 3 0 B.length)) (h':=[.row 1 (B.map AV.str)]) (c4r _ _ er3) rfl .r (by simp only [a2f,a2a,List.length_map,List.nil_append,List.append_nil,List.cons_append];rfl))<|x8 (.ptr 2 0 3) rfl tr rfl<|a1v (a0f (v:=(.own 3 0 B.length)) (y':=(.agg [(.I A.Code),(.I A.Count),(.I A.Id),(.own 3 0 B.length),.nil])) rfl rfl rfl tr ⟨rfl,nle⟩ ⟨⟨rfl,tr⟩,tr⟩ rfl)<|dk<|sr<|?_
 obtain ⟨D,er5,hf⟩:=ob hf
 refine x8 (.ptr 0 0 4) rfl tr rfl<|x8 (.lst 2 (A.Rows.map y5)) rfl nle rfl<|x9 (a2z (v:=(.own 4 0 D.length)) (h':=[.row 2 (D.map y5)]) (d0o _ _ er5) rfl .r (by simp only [a2f,a2a,List.length_map,List.nil_append,List.append_nil,List.cons_append];rfl))<|x8 (.ptr 2 0 4) rfl tr rfl<|a1v (a0f (v:=(.own 4 0 D.length)) (y':=(.agg [(.I A.Code),(.I A.Count),(.I A.Id),(.own 3 0 B.length),(.own 4 0 D.length)])) rfl rfl rfl tr ⟨rfl,nle⟩ ⟨⟨rfl,tr⟩,tr⟩ rfl)<|dk<|sr<|x8 (.agg [(.I A.Code),(.I A.Count),(.I A.Id),(.own 3 0 B.length),(.own 4 0 D.length)]) rfl nle rfl<|?_
 refine a1v (a0f (v:=(.agg [(.I A.Code),(.I A.Count),(.I A.Id),(.own 3 0 B.length),(.own 4 0 D.length)])) (y':=(.agg [(.I A.Code),(.I A.Count),(.I A.Id),(.own 3 0 B.length),(.own 4 0 D.length)])) rfl rfl rfl tr ⟨rfl,nle⟩ ⟨⟨rfl,tr⟩,⟨⟨rfl,tr⟩,⟨⟨rfl,tr⟩,⟨⟨rfl,tr⟩,⟨⟨rfl,tr⟩,tr⟩⟩⟩⟩⟩ rfl)<|dk<|a0e<|?_;obtain rfl:=os hf;exact a2m ⟨nle,tr⟩ rfl (by decide) (.agg (.cons .r (.cons .r (.cons .r (.cons (.of_eq (congrArg (AV.lst _) (tk (enc:=AV.str) B))) (.cons (.of_eq (congrArg (AV.lst _) (tk (enc:=y5) D))) .nil))))))

/- spec.l01In -/
def c85:a0m :=
 (.seq (.reg (tm 6 (.c (.bool false)) .done))
 (.seq (.reg (tm 7 (.t 1) (tm 8 (.t 0) (tq 9 (.bin .leq (.t 7) (.t 8)) (tm 10 (.t 9) (tg 11 10 true (.mov (.t 0)) (tg 12 10 true (.mov (.t 2)) (tg 13 10 true (.bin .leq (.t 11) (.t 12)) (tq 14 (.pick (.t 10) (.t 13) (.c (.bool false))) (tm 6 (.t 14) .done))))))))))
 .ret))
theorem f3l:a1b Tryz.prog Tryz.f85 = some (c85.erase,[.mov (.t 6)],15):=by kernel_rfl
def a5u (D:Int) (A:Int) (B:Int):Option Bool :=
    if (decide (A ≤ D)) then
    some (decide (D ≤ B))
    else
    some false
theorem a4h (D:Int) (A:Int) (B:Int) (r:Bool) (hf:a5u D A B = some r):a0a Tryz.prog 85 .flat [(.I D),(.I A),(.I B)] (.bool r):=by
 refine a0a.of_awp mixed Tryz.func85 f3l nle ?_;rw [a0l];unfold a5u at hf;unfold c85;refine (show awp Tryz.prog false 0 _ (ofL [(0,(.I D)),(1,(.I A)),(2,(.I B))]) [] _ from ?_);refine sr<|l7 (.bool false) rfl<|dk<|sr<|?_
 rcases oi hf with ⟨c4,hf⟩ | ⟨c4,hf⟩
 ·refine l7 (.I A) rfl<|l7 (.I D) rfl<|x8 (.bool (decide (A ≤ D))) rfl rfl rfl<|l7 (.bool (decide (A ≤ D))) rfl<|a1g (s:=10) (b:=true) rfl c4<|s_on rfl<|l7 (.I D) rfl<|s_on rfl<|l7 (.I B) rfl<|s_on rfl<|x8 (.bool (decide (D ≤ B))) rfl rfl rfl<|x8 (.bool (decide (D ≤ B))) rfl tr rfl<|l7 (.bool (decide (D ≤ B))) rfl<|dk<|a0e<|?_;obtain rfl:=os hf;exact a0g ⟨tr,tr⟩ rfl .r
 ·refine l7 (.I A) rfl<|l7 (.I D) rfl<|x8 (.bool (decide (A ≤ D))) rfl rfl rfl<|l7 (.bool (decide (A ≤ D))) rfl<|a1g (s:=10) (b:=false) rfl (bf c4)<|a0d rfl rfl<|a0d rfl rfl<|a0d rfl rfl<|x8 (.bool false) rfl tr rfl<|l7 (.bool false) rfl<|dk<|a0e<|?_;obtain rfl:=os hf;exact a0g ⟨tr,tr⟩ rfl .r

/- spec.l00Letter -/
def e8m:a0m :=
 (.seq (.reg (tm 2 (.c (.bool false)) .done))
 (.seq (.reg (tm 3 (.t 0) (tq 4 (.bin .geq (.t 3) (.c (.int .u8 97))) (tm 5 (.t 4) (tg 6 5 true (.mov (.t 0)) (tg 7 5 true (.bin .leq (.t 6) (.c (.int .u8 122))) (tq 8 (.pick (.t 5) (.t 7) (.c (.bool false))) (tm 9 (.t 8) (tg 10 9 false (.mov (.t 0)) (tg 11 9 false (.bin .geq (.t 10) (.c (.int .u8 65))) (tg 12 9 false (.mov (.t 11)) (tg 13 12 true (.mov (.t 0)) (tg 14 12 true (.bin .leq (.t 13) (.c (.int .u8 90))) (tg 15 9 false (.pick (.t 12) (.t 14) (.c (.bool false))) (tq 16 (.pick (.t 9) (.c (.bool true)) (.t 15)) (tm 17 (.t 16) (tg 18 17 false (.mov (.t 0)) (tg 19 17 false (.bin .eql (.t 18) (.c (.int .u8 95))) (tq 20 (.pick (.t 17) (.c (.bool true)) (.t 19)) (tm 2 (.t 20) .done))))))))))))))))))))
 .ret))
theorem e8n:a1b Tryz.prog Tryz.f332 = some (e8m.erase,[.mov (.t 2)],21):=by kernel_rfl
def a8l (A:Int):Option Bool :=
    some (bif (bif (bif (decide (A ≥ 97)) then (decide (A ≤ 122)) else false) then true else (bif (decide (A ≥ 65)) then (decide (A ≤ 90)) else false)) then true else (A == 95))
theorem b3p (A:Int) (r:Bool) (hf:a8l A = some r):a0a Tryz.prog 332 .flat [(.int .u8 A)] (.bool r):=by
 refine a0a.of_awp mixed Tryz.func332 e8n nle ?_;rw [a0l];unfold a8l at hf;unfold e8m;refine (show awp Tryz.prog false 0 _ (ofL [(0,(.int .u8 A))]) [] _ from ?_);refine sr<|l7 (.bool false) rfl<|dk<|sr<|l7 (.int .u8 A) rfl<|x8 (.bool (decide (A ≥ 97))) rfl rfl rfl<|l7 (.bool (decide (A ≥ 97))) rfl<|?_;refine s_g (v:=(decide (A ≥ 97))) (.int .u8 A) rfl (fun hv => by (try simp only [y7 hv]);exact ⟨rfl,tr,rfl⟩) ?_;refine s_g (v:=(decide (A ≥ 97))) (.bool (decide (A ≤ 122))) rfl (fun hv => by (try simp only [y7 hv]);exact ⟨rfl,rfl,rfl⟩) ?_;refine a3c (x:=(decide (A ≤ 122))) (y:=false) rfl (fun hv => by (try simp only [y7 hv]);rfl) (fun hv => by (try simp only [y7 hv]);rfl) ?_
 refine l7 (.bool (bif (decide (A ≥ 97)) then (decide (A ≤ 122)) else false)) rfl ?_;refine s_g (v:=(bif (decide (A ≥ 97)) then (decide (A ≤ 122)) else false)) (.int .u8 A) rfl (fun hv => by (try simp only [y7 hv]);exact ⟨rfl,tr,rfl⟩) ?_;refine s_g (v:=(bif (decide (A ≥ 97)) then (decide (A ≤ 122)) else false)) (.bool (decide (A ≥ 65))) rfl (fun hv => by (try simp only [y7 hv]);exact ⟨rfl,rfl,rfl⟩) ?_;refine s_g (v:=(bif (decide (A ≥ 97)) then (decide (A ≤ 122)) else false)) (.bool (decide (A ≥ 65))) rfl (fun hv => by (try simp only [y7 hv]);exact ⟨rfl,tr,rfl⟩) ?_;refine b4h (v1:=(bif (decide (A ≥ 97)) then (decide (A ≤ 122)) else false)) (b1:=false) (v2:=(decide (A ≥ 65))) (.int .u8 A) rfl (fun hv hw => by (try simp only [y7 hv,y7 hw]);exact ⟨rfl,tr,rfl⟩) ?_
 refine b4h (v1:=(bif (decide (A ≥ 97)) then (decide (A ≤ 122)) else false)) (b1:=false) (v2:=(decide (A ≥ 65))) (.bool (decide (A ≤ 90))) rfl (fun hv hw => by (try simp only [y7 hv,y7 hw]);exact ⟨rfl,rfl,rfl⟩) ?_;refine d7t (v1:=(bif (decide (A ≥ 97)) then (decide (A ≤ 122)) else false)) (b1:=false) (v2:=(decide (A ≥ 65))) (x:=(decide (A ≤ 90))) (y:=false) rfl (fun hv => by (try simp only [y7 hv]);rfl) (fun hv hw => by (try simp only [y7 hv,y7 hw]);rfl) (fun hv hw => by (try simp only [y7 hv,y7 hw]);rfl) ?_;refine a3c (x:=true) (y:=(bif (decide (A ≥ 65)) then (decide (A ≤ 90)) else false)) rfl (fun hv => by (try simp only [y7 hv]);rfl) (fun hv => by (try simp only [y7 hv]);rfl) ?_
 refine l7 (.bool (bif (bif (decide (A ≥ 97)) then (decide (A ≤ 122)) else false) then true else (bif (decide (A ≥ 65)) then (decide (A ≤ 90)) else false))) rfl ?_;refine s_g (v:=(bif (bif (decide (A ≥ 97)) then (decide (A ≤ 122)) else false) then true else (bif (decide (A ≥ 65)) then (decide (A ≤ 90)) else false))) (.int .u8 A) rfl (fun hv => by (try simp only [y7 hv]);exact ⟨rfl,tr,rfl⟩) ?_;refine s_g (v:=(bif (bif (decide (A ≥ 97)) then (decide (A ≤ 122)) else false) then true else (bif (decide (A ≥ 65)) then (decide (A ≤ 90)) else false))) (.bool (A == 95)) rfl (fun hv => by (try simp only [y7 hv]);exact ⟨rfl,rfl,rfl⟩) ?_;refine a3c (x:=true) (y:=(A == 95)) rfl (fun hv => by (try simp only [y7 hv]);rfl) (fun hv => by (try simp only [y7 hv]);rfl) ?_
 refine l7 (.bool (bif (bif (bif (decide (A ≥ 97)) then (decide (A ≤ 122)) else false) then true else (bif (decide (A ≥ 65)) then (decide (A ≤ 90)) else false)) then true else (A == 95))) rfl<|dk<|a0e<|?_;obtain rfl:=os hf;exact a0g ⟨tr,tr⟩ rfl .r

/- spec.l00Digit -/
def e8o:a0m :=
 (.seq (.reg (tm 2 (.c (.bool false)) .done))
 (.seq (.reg (tm 3 (.t 0) (tq 4 (.bin .geq (.t 3) (.c (.int .u8 48))) (tm 5 (.t 4) (tg 6 5 true (.mov (.t 0)) (tg 7 5 true (.bin .leq (.t 6) (.c (.int .u8 57))) (tq 8 (.pick (.t 5) (.t 7) (.c (.bool false))) (tm 2 (.t 8) .done))))))))
 .ret))
theorem e8p:a1b Tryz.prog Tryz.f333 = some (e8o.erase,[.mov (.t 2)],9):=by kernel_rfl
def b0x (A:Int):Option Bool :=
    if (decide (A ≥ 48)) then
    some (decide (A ≤ 57))
    else
    some false
theorem c6n (A:Int) (r:Bool) (hf:b0x A = some r):a0a Tryz.prog 333 .flat [(.int .u8 A)] (.bool r):=by
 refine a0a.of_awp mixed Tryz.func333 e8p nle ?_;rw [a0l];unfold b0x at hf;unfold e8o;refine (show awp Tryz.prog false 0 _ (ofL [(0,(.int .u8 A))]) [] _ from ?_);refine sr<|l7 (.bool false) rfl<|dk<|sr<|?_
 rcases oi hf with ⟨c2,hf⟩ | ⟨c2,hf⟩
 ·refine l7 (.int .u8 A) rfl<|x8 (.bool (decide (A ≥ 48))) rfl rfl rfl<|l7 (.bool (decide (A ≥ 48))) rfl<|a1g (s:=5) (b:=true) rfl c2<|s_on rfl<|l7 (.int .u8 A) rfl<|s_on rfl<|x8 (.bool (decide (A ≤ 57))) rfl rfl rfl<|x8 (.bool (decide (A ≤ 57))) rfl tr rfl<|l7 (.bool (decide (A ≤ 57))) rfl<|dk<|a0e<|?_;obtain rfl:=os hf;exact a0g ⟨tr,tr⟩ rfl .r
 ·refine l7 (.int .u8 A) rfl<|x8 (.bool (decide (A ≥ 48))) rfl rfl rfl<|l7 (.bool (decide (A ≥ 48))) rfl<|a1g (s:=5) (b:=false) rfl (bf c2)<|a0d rfl rfl<|a0d rfl rfl<|x8 (.bool false) rfl tr rfl<|l7 (.bool false) rfl<|dk<|a0e<|?_;obtain rfl:=os hf;exact a0g ⟨tr,tr⟩ rfl .r

/- spec.l00Word -/
def e8q:a0m :=
 (.seq (.reg (tm 2 (.c (.bool false)) .done))
 (.seq (.seq (.reg (tm 4 (.t 0) (tq 5 (.lenS (.t 4)) (tq 6 (.bin .lss (.t 5) (.c (.int .i64 1))) (tm 7 (.t 6) (tg 8 7 false (.mov (.t 0)) (tg 9 7 false (.lenS (.t 8)) (tg 10 7 false (.bin .gtr (.t 9) (.c (.int .i64 40))) (tq 11 (.pick (.t 7) (.c (.bool true)) (.t 10)) (tm 12 (.t 11) (tg 13 12 false (.mov (.t 0)) (tg 14 12 false (.idxs (.t 13) (.c (.int .i64 0))) (tg 15 12 false (.call 332 [(.t 14)]) (tg 16 12 false (.not (.t 15)) (tq 17 (.pick (.t 12) (.c (.bool true)) (.t 16)) .done)))))))))))))))
 (.cut (.cond (.t 17) (.seq (.reg (tm 2 (.c (.bool false)) .done))
 .ret)
 .skip)))
 (.seq (.seq (.reg (tm 3 (.c (.int .i64 1)) .done))
 (.block 0 (.loop (.seq (.seq (.reg (tm 18 (.t 3) (tm 19 (.t 0) (tq 20 (.lenS (.t 19)) (tq 21 (.bin .lss (.t 18) (.t 20)) .done)))))
 (.cond (.t 21) .skip
 (.exit 0)))
 (.seq (.block 1 (.seq (.reg (tm 24 (.t 0) (tm 25 (.t 3) (tq 26 (.idxs (.t 24) (.t 25)) (tq 27 (.call 332 [(.t 26)]) (tq 28 (.not (.t 27)) (tm 29 (.t 28) (tg 30 29 true (.mov (.t 0)) (tg 31 29 true (.mov (.t 3)) (tg 32 29 true (.idxs (.t 30) (.t 31)) (tg 33 29 true (.call 333 [(.t 32)]) (tg 34 29 true (.not (.t 33)) (tq 35 (.pick (.t 29) (.t 34) (.c (.bool false))) .done)))))))))))))
 (.cut (.cond (.t 35) (.seq (.reg (tm 2 (.c (.bool false)) .done))
 .ret)
 .skip))))
 (.reg (tm 22 (.t 3) (tq 23 (.bin .add (.t 22) (.c (.int .i64 1))) (tm 3 (.t 23) .done)))))))))
 (.cut (.seq (.reg (tm 2 (.c (.bool true)) .done))
 .ret)))))
theorem e8r:a1b Tryz.prog Tryz.f282 = some (e8q.erase,[.mov (.t 2)],36):=by kernel_rfl
def a5d :List UInt8 → Option (Fl Bool Unit)
  | [] =>
    some (.go ())
  | J :: xs =>
    (((a8l (J.toNat:Int)).bind fun D =>
    if (!D) then
    (b0x (J.toNat:Int)).bind fun F =>
    some (!F)
    else
    some false:Option Bool)).bind fun E =>
    if E then
    some (.ret false)
    else
    a5d xs 

def b2r (A:Str):Option Bool :=
    ((if (bif (decide ((A.length:Int) < 1)) then true else (decide ((A.length:Int) > 40))) then
    some true
    else
    (idx A 0).bind fun K =>
    (a8l (K.toNat:Int)).bind fun G =>
    some (!G):Option Bool)).bind fun H =>
    if H then
    some false
    else
    (a5d (A.drop 1) ).bind fun q => (match q with
    | .ret r => some r
    | .go _ =>
    some true)
theorem c8w (A:Str) (r:Bool) (hf:b2r A = some r):a0a Tryz.prog 282 .flat [(.str A)] (.bool r):=by
 refine a0a.of_awp mixed Tryz.func282 e8r nle ?_;rw [a0l];unfold b2r at hf;unfold e8q;refine (show awp Tryz.prog false 0 _ (ofL [(0,(.str A))]) [] _ from ?_);refine sr<|l7 (.bool false) rfl<|dk<|o7<|o7<|?_
 obtain ⟨H,hb1,hf⟩:=ob hf
 refine a1s ([(0,(.str A)),(17,(.bool H))],[]) ?_ ?_
 ·refine a0s<|l7 (.str A) rfl<|a0y (b5a rfl) fun hl11 => x8 (.bool (decide ((A.length:Int) < 1))) rfl rfl rfl<|l7 (.bool (decide ((A.length:Int) < 1))) rfl<|?_;refine s_g (v:=(decide ((A.length:Int) < 1))) (.str A) rfl (fun hv => by (try simp only [y7 hv]);exact ⟨rfl,tr,rfl⟩) ?_;refine s_g (v:=(decide ((A.length:Int) < 1))) (.I (A.length:Int)) rfl (fun hv => by (try simp only [y7 hv]);exact ⟨rfl,tr,rfl⟩) ?_;refine s_g (v:=(decide ((A.length:Int) < 1))) (.bool (decide ((A.length:Int) > 40))) rfl (fun hv => by (try simp only [y7 hv]);exact ⟨rfl,rfl,rfl⟩) ?_;refine a3c (x:=true) (y:=(decide ((A.length:Int) > 40))) rfl (fun hv => by (try simp only [y7 hv]);rfl) (fun hv => by (try simp only [y7 hv]);rfl) ?_
  refine l7 (.bool (bif (decide ((A.length:Int) < 1)) then true else (decide ((A.length:Int) > 40)))) rfl ?_
  rcases oi hb1 with ⟨c13,hb1⟩ | ⟨c13,hb1⟩
  ·refine a1g (s:=12) (b:=true) rfl c13<|a0d rfl rfl<|a0d rfl rfl<|a0d rfl rfl<|a0d rfl rfl<|x8 (.bool true) rfl tr rfl<|a0h<|?_;obtain rfl:=os hb1;exact ⟨[],[],_,_,rfl,rfl,⟨.r,⟨.r,tr⟩⟩,.r⟩
  ·refine a1g (s:=12) (b:=false) rfl (bf c13)<|s_on rfl<|l7 (.str A) rfl<|s_on rfl<|?_
   obtain ⟨K,eb15,hb1⟩:=ob hb1
   refine x9 (d3q rfl rfl (b3m eb15) (b3n eb15))<|s_on rfl<|?_
   obtain ⟨G,er17,hb1⟩:=ob hb1
   refine x9 (a0n (b3p _ _ er17) rfl .r rfl)<|s_on rfl<|x8 (.bool (!G)) rfl tr rfl<|x8 (.bool (!G)) rfl tr rfl<|a0h<|?_;obtain rfl:=os hb1;exact ⟨[],[],_,_,rfl,rfl,⟨.r,⟨.r,tr⟩⟩,.r⟩
 ·rcases oi hf with ⟨c18,hf⟩ | ⟨c18,hf⟩
  ·refine y8 rfl c18<|sr<|l7 (.bool false) rfl<|dk<|a0e<|?_;obtain rfl:=os hf;exact a0g ⟨tr,tr⟩ rfl .r
  ·refine y9 rfl (bf c18)<|a0j<|a0i<|o7<|sr<|l7 (.I 1) rfl<|dk<|?_
   obtain ⟨p91,hb1,hf⟩:=ob hf
   refine a3j (X:={q:Unit // p91 = .go q}) (fun q => ([],[])) ?_ ?_
   ·refine a1f (X:={q:Nat // a5d (A.drop q)  = some p91}) (fun q => ([(0,(.str A)),(3,(.I (q.1:Int)))],[])) (fun q => A.length - q.1) ⟨1,hb1⟩ ⟨[],[],_,_,rfl,rfl,⟨.r,⟨.r,tr⟩⟩,.r⟩ ?_
    rintro ⟨B,hc1⟩
    have hc1:a5d (A.drop B)  = some p91:=hc1
    refine (show awp Tryz.prog false 0 _ (ofL [(0,(.str A)),(3,(.I (B:Int)))]) [] _ from ?_)
    rcases a5n A B with ⟨hie94,hd97⟩ | ⟨hlt92,J,hx93,hd97⟩
    ·rw [hd97,a5d.eq_1] at hc1
     have hq96:=dlf hie94
     refine o7<|sr<|l7 (.I (B:Int)) rfl<|l7 (.str A) rfl<|a0y (b5a rfl) fun hl99 => x8 (.bool (decide ((B:Int) < (A.length:Int)))) rfl rfl rfl<|dk<|y9 rfl hq96<|a2l<|a2k<|a1t<|a2j<|?_;obtain rfl:=os hc1;exact a6i ⟨_,rfl⟩ ⟨[],[],_,_,rfl,rfl,tr,.r⟩
    ·rw [hd97,a5d.eq_2] at hc1
     have hq96:=dlt hlt92
     refine o7<|sr<|l7 (.I (B:Int)) rfl<|l7 (.str A) rfl<|a0y (b5a rfl) fun hl100 => x8 (.bool (decide ((B:Int) < (A.length:Int)))) rfl rfl rfl<|dk<|y8 rfl hq96<|a0j<|a0i<|o7<|a2x<|o7<|?_
     obtain ⟨E,hb2,hc1⟩:=ob hc1
     refine a1s ([(0,(.str A)),(3,(.I (B:Int))),(35,(.bool E))],[]) ?_ ?_
     ·refine a0s ?_
      obtain ⟨D,er109,hb2⟩:=ob hb2
      rcases oi hb2 with ⟨c110,hb2⟩ | ⟨c110,hb2⟩
      ·obtain ⟨F,er112,hb2⟩:=ob hb2
       refine l7 (.str A) rfl<|l7 (.I (B:Int)) rfl<|x9 (b3u rfl rfl hx93)<|x9 (a0n (b3p _ _ er109) rfl .r rfl)<|x8 (.bool (!D)) rfl tr rfl<|l7 (.bool (!D)) rfl<|a1g (s:=29) (b:=true) rfl c110<|s_on rfl<|l7 (.str A) rfl<|s_on rfl<|l7 (.I (B:Int)) rfl<|s_on rfl<|x9 (b3u rfl rfl hx93)<|s_on rfl<|x9 (a0n (c6n _ _ er112) rfl .r rfl)<|s_on rfl<|x8 (.bool (!F)) rfl tr rfl<|x8 (.bool (!F)) rfl tr rfl<|a0h<|?_;obtain rfl:=os hb2;exact ⟨[],[],_,_,rfl,rfl,⟨.r,⟨.r,⟨.r,tr⟩⟩⟩,.r⟩
      ·refine l7 (.str A) rfl<|l7 (.I (B:Int)) rfl<|x9 (b3u rfl rfl hx93)<|x9 (a0n (b3p _ _ er109) rfl .r rfl)<|x8 (.bool (!D)) rfl tr rfl<|l7 (.bool (!D)) rfl<|a1g (s:=29) (b:=false) rfl (bf c110)<|a0d rfl rfl<|a0d rfl rfl<|a0d rfl rfl<|a0d rfl rfl<|a0d rfl rfl<|x8 (.bool false) rfl tr rfl<|a0h<|?_;obtain rfl:=os hb2;exact ⟨[],[],_,_,rfl,rfl,⟨.r,⟨.r,⟨.r,tr⟩⟩⟩,.r⟩
     ·rcases oi hc1 with ⟨c113,hc1⟩ | ⟨c113,hc1⟩
      ·refine y8 rfl c113<|sr<|l7 (.bool false) rfl<|dk<|a0e<|?_;obtain rfl:=os hc1;obtain rfl:=os hf;exact a0g ⟨tr,tr⟩ rfl .r
      ·refine y9 rfl (bf c113)<|a0j<|a2v<|a0i<|a0s<|l7 (.I (B:Int)) rfl<|x8 (.I (w64 ((B:Int) + 1))) rfl rfl rfl<|l7 (.I (w64 ((B:Int) + 1))) rfl<|a0h<|?_;exact a1m ⟨(B + 1),hc1⟩ (mul hlt92) ⟨[],[],_,_,rfl,rfl,⟨.r,⟨.of_eq (congrArg (AV.int _) (a1p hlt92 hl100)),tr⟩⟩,.r⟩
   ·rintro ⟨_,rfl⟩
    refine sr<|l7 (.bool true) rfl<|dk<|a0e<|?_;obtain rfl:=os hf;exact a0g ⟨tr,tr⟩ rfl .r

/- spec.NameOK -/
def e8s:a0m :=
 (.seq (.reg (tm 2 (.c (.bool false)) .done))
 (.seq (.reg (tm 3 (.t 0) (tq 4 (.call 282 [(.t 3)]) (tm 2 (.t 4) .done))))
 .ret))
theorem e8t:a1b Tryz.prog Tryz.f191 = some (e8s.erase,[.mov (.t 2)],5):=by kernel_rfl
def b4m (A:Str):Option Bool :=
    (b2r A).bind fun B =>
    some B
theorem d0p (A:Str) (r:Bool) (hf:b4m A = some r):a0a Tryz.prog 191 .flat [(.str A)] (.bool r):=by
  refine a0a.of_awp mixed Tryz.func191 e8t nle ?_
  rw [a0l]
  unfold b4m at hf
  unfold e8s
  refine (show awp Tryz.prog false 0 _ (ofL [(0,(.str A))]) [] _ from ?_)
  refine o7 ?_
  refine a0s ?_
  refine x9 (a3p (.bool false) rfl) ?_
  refine a0h ?_
  refine a0i ?_
  refine o7 ?_
  refine a0s ?_
  obtain ⟨B,er3,hf⟩:=ob hf
  refine x9 (a3p (.str A) rfl) ?_
  refine x9 (a0n (c8w _ _ er3) rfl .r rfl) ?_
  refine x9 (a3p (.bool B) rfl) ?_
  refine a0h ?_
  refine a0i ?_
  refine a0e ?_
  obtain rfl:=os hf
  exact a0g ⟨tr,tr⟩ rfl .r

/- spec.l01Text -/
def e8u:a0m :=
 (.seq (.reg (tm 2 (.c (.bool false)) .done))
 (.seq (.seq (.reg (tm 3 (.c (.int .i64 0)) .done))
 (.block 0 (.loop (.seq (.seq (.reg (tm 4 (.t 3) (tm 5 (.t 0) (tq 6 (.lenS (.t 5)) (tq 7 (.bin .lss (.t 4) (.t 6)) .done)))))
 (.cond (.t 7) .skip
 (.exit 0)))
 (.seq (.block 1 (.seq (.reg (tm 10 (.t 0) (tm 11 (.t 3) (tq 12 (.idxs (.t 10) (.t 11)) (tq 13 (.bin .lss (.t 12) (.c (.int .u8 32))) (tm 14 (.t 13) (tg 15 14 false (.mov (.t 0)) (tg 16 14 false (.mov (.t 3)) (tg 17 14 false (.idxs (.t 15) (.t 16)) (tg 18 14 false (.bin .gtr (.t 17) (.c (.int .u8 126))) (tq 19 (.pick (.t 14) (.c (.bool true)) (.t 18)) .done)))))))))))
 (.cut (.cond (.t 19) (.seq (.reg (tm 2 (.c (.bool false)) .done))
 .ret)
 .skip))))
 (.reg (tm 8 (.t 3) (tq 9 (.bin .add (.t 8) (.c (.int .i64 1))) (tm 3 (.t 9) .done)))))))))
 (.cut (.seq (.reg (tm 20 (.t 0) (tq 21 (.lenS (.t 20)) (tq 22 (.bin .leq (.t 21) (.c (.int .i64 200))) (tm 2 (.t 22) .done)))))
 .ret))))
theorem e8v:a1b Tryz.prog Tryz.f298 = some (e8u.erase,[.mov (.t 2)],23):=by kernel_rfl
def a5e :List UInt8 → Option (Fl Bool Unit)
  | [] =>
    some (.go ())
  | D :: xs =>
    ((if (decide ((D.toNat:Int) < 32)) then
    some true
    else
    some (decide ((D.toNat:Int) > 126)):Option Bool)).bind fun E =>
    if E then
    some (.ret false)
    else
    a5e xs 

def a7e (A:Str):Option Bool :=
    (a5e A ).bind fun q => (match q with
    | .ret r => some r
    | .go _ =>
    some (decide ((A.length:Int) ≤ 200)))
theorem b6c (A:Str) (r:Bool) (hf:a7e A = some r):a0a Tryz.prog 298 .flat [(.str A)] (.bool r):=by
 refine a0a.of_awp mixed Tryz.func298 e8v nle ?_;rw [a0l];unfold a7e at hf;unfold e8u;refine (show awp Tryz.prog false 0 _ (ofL [(0,(.str A))]) [] _ from ?_);refine sr<|l7 (.bool false) rfl<|dk<|o7<|sr<|l7 (.I 0) rfl<|dk<|?_
 obtain ⟨p50,hb1,hf⟩:=ob hf
 refine a3j (X:={q:Unit // p50 = .go q}) (fun q => ([(0,(.str A))],[])) ?_ ?_
 ·refine a1f (X:={q:Nat // a5e (A.drop q)  = some p50}) (fun q => ([(0,(.str A)),(3,(.I (q.1:Int)))],[])) (fun q => A.length - q.1) ⟨0,hb1⟩ ⟨[],[],_,_,rfl,rfl,⟨.r,⟨.r,tr⟩⟩,.r⟩ ?_
  rintro ⟨B,hc1⟩
  have hc1:a5e (A.drop B)  = some p50:=hc1
  refine (show awp Tryz.prog false 0 _ (ofL [(0,(.str A)),(3,(.I (B:Int)))]) [] _ from ?_)
  rcases a5n A B with ⟨hie53,hd56⟩ | ⟨hlt51,D,hx52,hd56⟩
  ·rw [hd56,a5e.eq_1] at hc1
   have hq55:=dlf hie53
   refine o7<|sr<|l7 (.I (B:Int)) rfl<|l7 (.str A) rfl<|a0y (b5a rfl) fun hl58 => x8 (.bool (decide ((B:Int) < (A.length:Int)))) rfl rfl rfl<|dk<|y9 rfl hq55<|a2l<|a2k<|a1t<|a2j<|?_;obtain rfl:=os hc1;exact a6i ⟨_,rfl⟩ ⟨[],[],_,_,rfl,rfl,⟨.r,tr⟩,.r⟩
  ·rw [hd56,a5e.eq_2] at hc1
   have hq55:=dlt hlt51
   refine o7<|sr<|l7 (.I (B:Int)) rfl<|l7 (.str A) rfl<|a0y (b5a rfl) fun hl59 => x8 (.bool (decide ((B:Int) < (A.length:Int)))) rfl rfl rfl<|dk<|y8 rfl hq55<|a0j<|a0i<|o7<|a2x<|o7<|?_
   obtain ⟨E,hb2,hc1⟩:=ob hc1
   refine a1s ([(0,(.str A)),(3,(.I (B:Int))),(19,(.bool E))],[]) ?_ ?_
   ·refine a0s ?_
    rcases oi hb2 with ⟨c63,hb2⟩ | ⟨c63,hb2⟩
    ·refine l7 (.str A) rfl<|l7 (.I (B:Int)) rfl<|x9 (b3u rfl rfl hx52)<|x8 (.bool (decide ((D.toNat:Int) < 32))) rfl rfl rfl<|l7 (.bool (decide ((D.toNat:Int) < 32))) rfl<|a1g (s:=14) (b:=true) rfl c63<|a0d rfl rfl<|a0d rfl rfl<|a0d rfl rfl<|a0d rfl rfl<|x8 (.bool true) rfl tr rfl<|a0h<|?_;obtain rfl:=os hb2;exact ⟨[],[],_,_,rfl,rfl,⟨.r,⟨.r,⟨.r,tr⟩⟩⟩,.r⟩
    ·refine l7 (.str A) rfl<|l7 (.I (B:Int)) rfl<|x9 (b3u rfl rfl hx52)<|x8 (.bool (decide ((D.toNat:Int) < 32))) rfl rfl rfl<|l7 (.bool (decide ((D.toNat:Int) < 32))) rfl<|a1g (s:=14) (b:=false) rfl (bf c63)<|s_on rfl<|l7 (.str A) rfl<|s_on rfl<|l7 (.I (B:Int)) rfl<|s_on rfl<|x9 (b3u rfl rfl hx52)<|s_on rfl<|x8 (.bool (decide ((D.toNat:Int) > 126))) rfl rfl rfl<|x8 (.bool (decide ((D.toNat:Int) > 126))) rfl tr rfl<|a0h<|?_;obtain rfl:=os hb2;exact ⟨[],[],_,_,rfl,rfl,⟨.r,⟨.r,⟨.r,tr⟩⟩⟩,.r⟩
   ·rcases oi hc1 with ⟨c64,hc1⟩ | ⟨c64,hc1⟩
    ·refine y8 rfl c64<|sr<|l7 (.bool false) rfl<|dk<|a0e<|?_;obtain rfl:=os hc1;obtain rfl:=os hf;exact a0g ⟨tr,tr⟩ rfl .r
    ·refine y9 rfl (bf c64)<|a0j<|a2v<|a0i<|a0s<|l7 (.I (B:Int)) rfl<|x8 (.I (w64 ((B:Int) + 1))) rfl rfl rfl<|l7 (.I (w64 ((B:Int) + 1))) rfl<|a0h<|?_;exact a1m ⟨(B + 1),hc1⟩ (mul hlt51) ⟨[],[],_,_,rfl,rfl,⟨.r,⟨.of_eq (congrArg (AV.int _) (a1p hlt51 hl59)),tr⟩⟩,.r⟩
 ·rintro ⟨_,rfl⟩
  refine sr<|l7 (.str A) rfl<|a0y (b5a rfl) fun hl65 => x8 (.bool (decide ((A.length:Int) ≤ 200))) rfl rfl rfl<|l7 (.bool (decide ((A.length:Int) ≤ 200))) rfl<|dk<|a0e<|?_;obtain rfl:=os hf;exact a0g ⟨tr,tr⟩ rfl .r

/- spec.AtomOK -/
def c228:a0m :=
 (.seq (.reg (tq 1 (.box 3 (.t 0)) (tm 2 (.c (.bool false)) .done)))
 (.seq (.seq (.reg (tq 3 (.faddr 0 (.t 1)) (tq 4 (.load 1 false (.t 3)) .done)))
 (.block 0 (.seq (.reg (tq 6 (.bin .eql (.t 4) (.c (.int .i64 1))) (tm 5 (.t 6) .done)))
 (.cond (.t 5) (.seq (.reg (tq 7 (.faddr 1 (.t 1)) (tq 8 (.load 1 false (.t 7)) (tq 9 (.call 85 [(.t 8),(.c (.int .i64 (-1000000000))),(.c (.int .i64 1000000000))]) (tm 10 (.t 9) (tg 11 10 true (.faddr 2 (.t 1)) (tg 12 10 true (.load 1 false (.t 11)) (tg 13 10 true (.bin .eql (.t 12) (.c (.str []))) (tq 14 (.pick (.t 10) (.t 13) (.c (.bool false))) (tm 2 (.t 14) .done))))))))))
 .ret)
 (.seq (.reg (tq 16 (.bin .eql (.t 4) (.c (.int .i64 2))) (tm 15 (.t 16) .done)))
 (.cond (.t 15) (.seq (.reg (tq 17 (.faddr 1 (.t 1)) (tq 18 (.load 1 false (.t 17)) (tq 19 (.bin .eql (.t 18) (.c (.int .i64 0))) (tm 20 (.t 19) (tg 21 20 true (.faddr 2 (.t 1)) (tg 22 20 true (.load 1 false (.t 21)) (tg 23 20 true (.call 298 [(.t 22)]) (tq 24 (.pick (.t 20) (.t 23) (.c (.bool false))) (tm 2 (.t 24) .done))))))))))
 .ret)
 (.seq (.reg (tq 26 (.bin .eql (.t 4) (.c (.int .i64 3))) (tm 25 (.t 26) .done)))
 (.cond (.t 25) (.seq (.reg (tq 27 (.faddr 1 (.t 1)) (tq 28 (.load 1 false (.t 27)) (tq 29 (.call 85 [(.t 28),(.c (.int .i64 0)),(.c (.int .i64 1))]) (tm 30 (.t 29) (tg 31 30 true (.faddr 2 (.t 1)) (tg 32 30 true (.load 1 false (.t 31)) (tg 33 30 true (.bin .eql (.t 32) (.c (.str []))) (tq 34 (.pick (.t 30) (.t 33) (.c (.bool false))) (tm 2 (.t 34) .done))))))))))
 .ret)
 (.seq (.reg (tq 36 (.bin .eql (.t 4) (.c (.int .i64 4))) (tm 35 (.t 36) .done)))
 (.cond (.t 35) (.seq (.reg (tq 37 (.faddr 1 (.t 1)) (tq 38 (.load 1 false (.t 37)) (tq 39 (.call 85 [(.t 38),(.c (.int .i64 1)),(.c (.int .i64 1000000))]) (tm 40 (.t 39) (tg 41 40 true (.faddr 2 (.t 1)) (tg 42 40 true (.load 1 false (.t 41)) (tg 43 40 true (.bin .eql (.t 42) (.c (.str []))) (tq 44 (.pick (.t 40) (.t 43) (.c (.bool false))) (tm 2 (.t 44) .done))))))))))
 .ret)
 .skip))))))))))
 (.seq (.reg (tm 2 (.c (.bool false)) .done))
 .ret)))
theorem e8w:a1b Tryz.prog Tryz.f228 = some (c228.erase,[.mov (.t 2)],45):=by kernel_rfl
def b1z (A:a0k):Option Bool :=
    if (A.Kind == 1) then
    (a5u A.N (-1000000000) 1000000000).bind fun E =>
    if E then
    some (A.T == [])
    else
    some false
    else
    if (A.Kind == 2) then
    if (A.N == 0) then
    (a7e A.T).bind fun F =>
    some F
    else
    some false
    else
    if (A.Kind == 3) then
    (a5u A.N 0 1).bind fun B =>
    if B then
    some (A.T == [])
    else
    some false
    else
    if (A.Kind == 4) then
    (a5u A.N 1 1000000).bind fun D =>
    if D then
    some (A.T == [])
    else
    some false
    else
    some false
theorem d0q (A:a0k) (r:Bool) (hf:b1z A = some r):a0a Tryz.prog 228 .flat [(o6 A)] (.bool r):=by
 refine a0a.of_awp mixed Tryz.func228 e8w nle ?_;rw [a0l];unfold b1z at hf;unfold c228;refine (show awp Tryz.prog false 0 _ (ofL [(0,(o6 A))]) [] _ from ?_);refine sr<|x9 (a1j (j:=0) (c:=(.agg [(.I A.Kind),(.I A.N),(.str A.T)])) rfl tr rfl rfl)<|l7 (.bool false) rfl<|dk<|o7<|sr<|x8 (.ptr 0 0 0) rfl tr rfl<|x8 (.I A.Kind) rfl nle rfl<|dk<|a2x<|sr<|x8 (.bool (A.Kind == 1)) rfl rfl rfl<|l7 (.bool (A.Kind == 1)) rfl<|dk<|?_
 rcases oi hf with ⟨c2,hf⟩ | ⟨c2,hf⟩
 ·refine y8 rfl c2<|sr<|?_
  obtain ⟨E,er4,hf⟩:=ob hf
  rcases oi hf with ⟨c5,hf⟩ | ⟨c5,hf⟩
  ·refine x8 (.ptr 0 0 1) rfl tr rfl<|x8 (.I A.N) rfl nle rfl<|x9 (a0n (a4h _ _ _ _ er4) rfl .r rfl)<|l7 (.bool E) rfl<|a1g (s:=10) (b:=true) rfl c5<|s_on rfl<|x8 (.ptr 0 0 2) rfl tr rfl<|s_on rfl<|x8 (.str A.T) rfl nle rfl<|s_on rfl<|x8 (.bool (A.T == [])) rfl tr rfl<|x8 (.bool (A.T == [])) rfl tr rfl<|l7 (.bool (A.T == [])) rfl<|dk<|a0e<|?_;obtain rfl:=os hf;exact a0g ⟨tr,tr⟩ rfl .r
  ·refine x8 (.ptr 0 0 1) rfl tr rfl<|x8 (.I A.N) rfl nle rfl<|x9 (a0n (a4h _ _ _ _ er4) rfl .r rfl)<|l7 (.bool E) rfl<|a1g (s:=10) (b:=false) rfl (bf c5)<|a0d rfl rfl<|a0d rfl rfl<|a0d rfl rfl<|x8 (.bool false) rfl tr rfl<|l7 (.bool false) rfl<|dk<|a0e<|?_;obtain rfl:=os hf;exact a0g ⟨tr,tr⟩ rfl .r
 ·refine y9 rfl (bf c2)<|sr<|x8 (.bool (A.Kind == 2)) rfl rfl rfl<|l7 (.bool (A.Kind == 2)) rfl<|dk<|?_
  rcases oi hf with ⟨c6,hf⟩ | ⟨c6,hf⟩
  ·refine y8 rfl c6<|sr<|?_
   rcases oi hf with ⟨c7,hf⟩ | ⟨c7,hf⟩
   ·obtain ⟨F,er9,hf⟩:=ob hf
    refine x8 (.ptr 0 0 1) rfl tr rfl<|x8 (.I A.N) rfl nle rfl<|x8 (.bool (A.N == 0)) rfl rfl rfl<|l7 (.bool (A.N == 0)) rfl<|a1g (s:=20) (b:=true) rfl c7<|s_on rfl<|x8 (.ptr 0 0 2) rfl tr rfl<|s_on rfl<|x8 (.str A.T) rfl nle rfl<|s_on rfl<|x9 (a0n (b6c _ _ er9) rfl .r rfl)<|x8 (.bool F) rfl tr rfl<|l7 (.bool F) rfl<|dk<|a0e<|?_;obtain rfl:=os hf;exact a0g ⟨tr,tr⟩ rfl .r
   ·refine x8 (.ptr 0 0 1) rfl tr rfl<|x8 (.I A.N) rfl nle rfl<|x8 (.bool (A.N == 0)) rfl rfl rfl<|l7 (.bool (A.N == 0)) rfl<|a1g (s:=20) (b:=false) rfl (bf c7)<|a0d rfl rfl<|a0d rfl rfl<|a0d rfl rfl<|x8 (.bool false) rfl tr rfl<|l7 (.bool false) rfl<|dk<|a0e<|?_;obtain rfl:=os hf;exact a0g ⟨tr,tr⟩ rfl .r
  ·refine y9 rfl (bf c6)<|sr<|x8 (.bool (A.Kind == 3)) rfl rfl rfl<|l7 (.bool (A.Kind == 3)) rfl<|dk<|?_
   rcases oi hf with ⟨c10,hf⟩ | ⟨c10,hf⟩
   ·refine y8 rfl c10<|sr<|?_
    obtain ⟨B,er12,hf⟩:=ob hf
    rcases oi hf with ⟨c13,hf⟩ | ⟨c13,hf⟩
    ·refine x8 (.ptr 0 0 1) rfl tr rfl<|x8 (.I A.N) rfl nle rfl<|x9 (a0n (a4h _ _ _ _ er12) rfl .r rfl)<|l7 (.bool B) rfl<|a1g (s:=30) (b:=true) rfl c13<|s_on rfl<|x8 (.ptr 0 0 2) rfl tr rfl<|s_on rfl<|x8 (.str A.T) rfl nle rfl<|s_on rfl<|x8 (.bool (A.T == [])) rfl tr rfl<|x8 (.bool (A.T == [])) rfl tr rfl<|l7 (.bool (A.T == [])) rfl<|dk<|a0e<|?_;obtain rfl:=os hf;exact a0g ⟨tr,tr⟩ rfl .r
    ·refine x8 (.ptr 0 0 1) rfl tr rfl<|x8 (.I A.N) rfl nle rfl<|x9 (a0n (a4h _ _ _ _ er12) rfl .r rfl)<|l7 (.bool B) rfl<|a1g (s:=30) (b:=false) rfl (bf c13)<|a0d rfl rfl<|a0d rfl rfl<|a0d rfl rfl<|x8 (.bool false) rfl tr rfl<|l7 (.bool false) rfl<|dk<|a0e<|?_;obtain rfl:=os hf;exact a0g ⟨tr,tr⟩ rfl .r
   ·refine y9 rfl (bf c10)<|sr<|x8 (.bool (A.Kind == 4)) rfl rfl rfl<|l7 (.bool (A.Kind == 4)) rfl<|dk<|?_
    rcases oi hf with ⟨c14,hf⟩ | ⟨c14,hf⟩
    ·refine y8 rfl c14<|sr<|?_
     obtain ⟨D,er16,hf⟩:=ob hf
     rcases oi hf with ⟨c17,hf⟩ | ⟨c17,hf⟩
     ·refine x8 (.ptr 0 0 1) rfl tr rfl<|x8 (.I A.N) rfl nle rfl<|x9 (a0n (a4h _ _ _ _ er16) rfl .r rfl)<|l7 (.bool D) rfl<|a1g (s:=40) (b:=true) rfl c17<|s_on rfl<|x8 (.ptr 0 0 2) rfl tr rfl<|s_on rfl<|x8 (.str A.T) rfl nle rfl<|s_on rfl<|x8 (.bool (A.T == [])) rfl tr rfl<|x8 (.bool (A.T == [])) rfl tr rfl<|l7 (.bool (A.T == [])) rfl<|dk<|a0e<|?_;obtain rfl:=os hf;exact a0g ⟨tr,tr⟩ rfl .r
     ·refine x8 (.ptr 0 0 1) rfl tr rfl<|x8 (.I A.N) rfl nle rfl<|x9 (a0n (a4h _ _ _ _ er16) rfl .r rfl)<|l7 (.bool D) rfl<|a1g (s:=40) (b:=false) rfl (bf c17)<|a0d rfl rfl<|a0d rfl rfl<|a0d rfl rfl<|x8 (.bool false) rfl tr rfl<|l7 (.bool false) rfl<|dk<|a0e<|?_;obtain rfl:=os hf;exact a0g ⟨tr,tr⟩ rfl .r
    ·refine y9 rfl (bf c14)<|a0j<|a2v<|a0i<|sr<|l7 (.bool false) rfl<|dk<|a0e<|?_;obtain rfl:=os hf;exact a0g ⟨tr,tr⟩ rfl .r

/- spec.l01Bit -/
def e8x:a0m :=
 (.seq (.reg (tm 2 (.c (.int .i64 0)) .done))
 (.seq (.seq (.reg (tm 3 (.t 0) .done))
 (.cond (.t 3) (.seq (.reg (tm 2 (.c (.int .i64 1)) .done))
 .ret)
 .skip))
 (.seq (.reg (tm 2 (.c (.int .i64 0)) .done))
 .ret)))
theorem e8y:a1b Tryz.prog Tryz.f184 = some (e8x.erase,[.mov (.t 2)],4):=by kernel_rfl
def a9x (A:Bool):Option Int :=
    if A then
    some 1
    else
    some 0
theorem b3y (A:Bool) (r:Int) (hf:a9x A = some r):a0a Tryz.prog 184 .flat [(.bool A)] (.I r):=by
  refine a0a.of_awp mixed Tryz.func184 e8y nle ?_
  rw [a0l]
  unfold a9x at hf
  unfold e8x
  refine (show awp Tryz.prog false 0 _ (ofL [(0,(.bool A))]) [] _ from ?_)
  refine o7 ?_
  refine a0s ?_
  refine x9 (a3p (.I 0) rfl) ?_
  refine a0h ?_
  refine a0i ?_
  refine o7 ?_
  refine o7 ?_
  refine a0s ?_
  refine x9 (a3p (.bool A) rfl) ?_
  refine a0h ?_
  refine a0i ?_
  rcases oi hf with ⟨c2,hf⟩ | ⟨c2,hf⟩
  · refine y8 rfl c2 ?_
    refine o7 ?_
    refine a0s ?_
    refine x9 (a3p (.I 1) rfl) ?_
    refine a0h ?_
    refine a0i ?_
    refine a0e ?_
    obtain rfl:=os hf
    exact a0g ⟨tr,tr⟩ rfl .r
  · refine y9 rfl (bf c2) ?_
    refine a0j ?_
    refine a0i ?_
    refine o7 ?_
    refine a0s ?_
    refine x9 (a3p (.I 0) rfl) ?_
    refine a0h ?_
    refine a0i ?_
    refine a0e ?_
    obtain rfl:=os hf
    exact a0g ⟨tr,tr⟩ rfl .r

/- spec.l03Order -/
def c229:a0m :=
 (.seq (.reg (tq 2 (.box 3 (.t 0)) (tq 3 (.box 3 (.t 1)) (tm 4 (.c (.int .i64 0)) .done))))
 (.seq (.block 0 (.seq (.reg (tq 6 (.faddr 0 (.t 2)) (tq 7 (.load 1 false (.t 6)) (tq 8 (.faddr 0 (.t 3)) (tq 9 (.load 1 false (.t 8)) (tq 10 (.bin .neq (.t 7) (.t 9)) (tm 5 (.t 10) .done)))))))
 (.cond (.t 5) (.seq (.reg (tq 11 (.faddr 0 (.t 2)) (tq 12 (.load 1 false (.t 11)) (tq 13 (.faddr 0 (.t 3)) (tq 14 (.load 1 false (.t 13)) (tq 15 (.bin .lss (.t 12) (.t 14)) (tq 16 (.call 184 [(.t 15)]) (tq 17 (.bin .mul (.c (.int .i64 2)) (.t 16)) (tq 18 (.bin .sub (.c (.int .i64 1)) (.t 17)) (tm 4 (.t 18) .done))))))))))
 .ret)
 (.seq (.reg (tq 20 (.faddr 1 (.t 2)) (tq 21 (.load 1 false (.t 20)) (tq 22 (.faddr 1 (.t 3)) (tq 23 (.load 1 false (.t 22)) (tq 24 (.bin .neq (.t 21) (.t 23)) (tm 19 (.t 24) .done)))))))
 (.cond (.t 19) (.seq (.reg (tq 25 (.faddr 1 (.t 2)) (tq 26 (.load 1 false (.t 25)) (tq 27 (.faddr 1 (.t 3)) (tq 28 (.load 1 false (.t 27)) (tq 29 (.bin .lss (.t 26) (.t 28)) (tq 30 (.call 184 [(.t 29)]) (tq 31 (.bin .mul (.c (.int .i64 2)) (.t 30)) (tq 32 (.bin .sub (.c (.int .i64 1)) (.t 31)) (tm 4 (.t 32) .done))))))))))
 .ret)
 (.seq (.reg (tq 34 (.faddr 2 (.t 2)) (tq 35 (.load 1 false (.t 34)) (tq 36 (.faddr 2 (.t 3)) (tq 37 (.load 1 false (.t 36)) (tq 38 (.bin .neq (.t 35) (.t 37)) (tm 33 (.t 38) .done)))))))
 (.cond (.t 33) (.seq (.reg (tq 39 (.faddr 2 (.t 2)) (tq 40 (.load 1 false (.t 39)) (tq 41 (.faddr 2 (.t 3)) (tq 42 (.load 1 false (.t 41)) (tq 43 (.bin .lss (.t 40) (.t 42)) (tq 44 (.call 184 [(.t 43)]) (tq 45 (.bin .mul (.c (.int .i64 2)) (.t 44)) (tq 46 (.bin .sub (.c (.int .i64 1)) (.t 45)) (tm 4 (.t 46) .done))))))))))
 .ret)
 .skip)))))))
 (.seq (.reg (tm 4 (.c (.int .i64 0)) .done))
 .ret)))
theorem e8z:a1b Tryz.prog Tryz.f229 = some (c229.erase,[.mov (.t 4)],47):=by kernel_rfl
def a9d (A:a0k) (B:a0k):Option Int :=
    if (A.Kind != B.Kind) then
    (a9x (decide (A.Kind < B.Kind))).bind fun E =>
    some (w64 (1 - (w64 (2 * E))))
    else
    if (A.N != B.N) then
    (a9x (decide (A.N < B.N))).bind fun F =>
    some (w64 (1 - (w64 (2 * F))))
    else
    if (!(A.T == B.T)) then
    (a9x (Op.bytesLess A.T B.T)).bind fun D =>
    some (w64 (1 - (w64 (2 * D))))
    else
    some 0
theorem c6o (A:a0k) (B:a0k) (r:Int) (hf:a9d A B = some r):a0a Tryz.prog 229 .flat [(o6 A),(o6 B)] (.I r):=by
 refine a0a.of_awp mixed Tryz.func229 e8z nle ?_;rw [a0l];unfold a9d at hf;unfold c229;refine (show awp Tryz.prog false 0 _ (ofL [(0,(o6 A)),(1,(o6 B))]) [] _ from ?_);refine sr<|x9 (a1j (j:=0) (c:=(.agg [(.I A.Kind),(.I A.N),(.str A.T)])) rfl tr rfl rfl)<|x9 (a1j (j:=1) (c:=(.agg [(.I B.Kind),(.I B.N),(.str B.T)])) rfl tr rfl rfl)<|l7 (.I 0) rfl<|dk<|o7<|a2x<|sr<|x8 (.ptr 0 0 0) rfl tr rfl<|x8 (.I A.Kind) rfl nle rfl<|x8 (.ptr 1 0 0) rfl tr rfl<|x8 (.I B.Kind) rfl nle rfl<|x8 (.bool (A.Kind != B.Kind)) rfl rfl rfl<|?_
 refine l7 (.bool (A.Kind != B.Kind)) rfl<|dk<|?_
 rcases oi hf with ⟨c3,hf⟩ | ⟨c3,hf⟩
 ·refine y8 rfl c3<|sr<|?_
  obtain ⟨E,er5,hf⟩:=ob hf
  refine x8 (.ptr 0 0 0) rfl tr rfl<|x8 (.I A.Kind) rfl nle rfl<|x8 (.ptr 1 0 0) rfl tr rfl<|x8 (.I B.Kind) rfl nle rfl<|x8 (.bool (decide (A.Kind < B.Kind))) rfl rfl rfl<|x9 (a0n (b3y _ _ er5) rfl .r rfl)<|x8 (.I (w64 (2 * E))) rfl rfl rfl<|x8 (.I (w64 (1 - (w64 (2 * E))))) rfl rfl rfl<|l7 (.I (w64 (1 - (w64 (2 * E))))) rfl<|dk<|a0e<|?_;obtain rfl:=os hf;exact a0g ⟨tr,tr⟩ rfl .r
 ·refine y9 rfl (bf c3)<|sr<|x8 (.ptr 0 0 1) rfl tr rfl<|x8 (.I A.N) rfl nle rfl<|x8 (.ptr 1 0 1) rfl tr rfl<|x8 (.I B.N) rfl nle rfl<|x8 (.bool (A.N != B.N)) rfl rfl rfl<|l7 (.bool (A.N != B.N)) rfl<|dk<|?_
  rcases oi hf with ⟨c6,hf⟩ | ⟨c6,hf⟩
  ·refine y8 rfl c6<|sr<|?_
   obtain ⟨F,er8,hf⟩:=ob hf
   refine x8 (.ptr 0 0 1) rfl tr rfl<|x8 (.I A.N) rfl nle rfl<|x8 (.ptr 1 0 1) rfl tr rfl<|x8 (.I B.N) rfl nle rfl<|x8 (.bool (decide (A.N < B.N))) rfl rfl rfl<|x9 (a0n (b3y _ _ er8) rfl .r rfl)<|x8 (.I (w64 (2 * F))) rfl rfl rfl<|x8 (.I (w64 (1 - (w64 (2 * F))))) rfl rfl rfl<|l7 (.I (w64 (1 - (w64 (2 * F))))) rfl<|dk<|a0e<|?_;obtain rfl:=os hf;exact a0g ⟨tr,tr⟩ rfl .r
  ·refine y9 rfl (bf c6)<|sr<|x8 (.ptr 0 0 2) rfl tr rfl<|x8 (.str A.T) rfl nle rfl<|x8 (.ptr 1 0 2) rfl tr rfl<|x8 (.str B.T) rfl nle rfl<|x8 (.bool (!(A.T == B.T))) rfl tr rfl<|l7 (.bool (!(A.T == B.T))) rfl<|dk<|?_
   rcases oi hf with ⟨c9,hf⟩ | ⟨c9,hf⟩
   ·refine y8 rfl c9<|sr<|?_
    obtain ⟨D,er11,hf⟩:=ob hf
    refine x8 (.ptr 0 0 2) rfl tr rfl<|x8 (.str A.T) rfl nle rfl<|x8 (.ptr 1 0 2) rfl tr rfl<|x8 (.str B.T) rfl nle rfl<|x8 (.bool (Op.bytesLess A.T B.T)) rfl tr rfl<|x9 (a0n (b3y _ _ er11) rfl .r rfl)<|x8 (.I (w64 (2 * D))) rfl rfl rfl<|x8 (.I (w64 (1 - (w64 (2 * D))))) rfl rfl rfl<|l7 (.I (w64 (1 - (w64 (2 * D))))) rfl<|dk<|a0e<|?_;obtain rfl:=os hf;exact a0g ⟨tr,tr⟩ rfl .r
   ·refine y9 rfl (bf c9)<|a0j<|a2v<|a0i<|sr<|l7 (.I 0) rfl<|dk<|a0e<|?_;obtain rfl:=os hf;exact a0g ⟨tr,tr⟩ rfl .r

/- spec.DatumOK -/
def c131:a0m :=
 (.seq (.reg (tm 2 (.c (.bool false)) .done))
 (.seq (.seq (.reg (tm 4 (.t 0) (tq 5 (.len (.t 4)) (tq 6 (.bin .gtr (.t 5) (.c (.int .i64 4096))) .done))))
 (.cond (.t 6) (.seq (.reg (tm 2 (.c (.bool false)) .done))
 .ret)
 .skip))
 (.seq (.seq (.reg (tm 3 (.c (.int .i64 0)) .done))
 (.block 0 (.loop (.seq (.seq (.reg (tm 7 (.t 3) (tm 8 (.t 0) (tq 9 (.len (.t 8)) (tq 10 (.bin .lss (.t 7) (.t 9)) .done)))))
 (.cond (.t 10) .skip
 (.exit 0)))
 (.seq (.block 1 (.seq (.reg (tm 13 (.t 0) (tm 14 (.t 3) (tq 15 (.iaddr 3 (.t 13) (.t 14)) (tq 16 (.load 3 true (.t 15)) (.l ⟨(some 17),none,.call 228 [(.t 16)]⟩ []
 (tq 18 (.not (.t 17)) (tm 19 (.t 18) (tg 20 19 false (.mov (.t 0)) (tg 21 19 false (.mov (.t 3)) (tg 22 19 false (.iaddr 3 (.t 20) (.t 21)) (tg 23 19 false (.faddr 0 (.t 22)) (tg 24 19 false (.load 1 false (.t 23)) (tg 25 19 false (.mov (.t 0)) (tg 26 19 false (.iaddr 3 (.t 25) (.c (.int .i64 0))) (tg 27 19 false (.faddr 0 (.t 26)) (tg 28 19 false (.load 1 false (.t 27)) (tg 29 19 false (.bin .neq (.t 24) (.t 28)) (tq 30 (.pick (.t 19) (.c (.bool true)) (.t 29)) (tm 31 (.t 30) (tg 32 31 false (.mov (.t 3)) (tg 33 31 false (.bin .gtr (.t 32) (.c (.int .i64 0))) (tg 34 31 false (.mov (.t 33)) (tg 35 34 true (.mov (.t 0)) (tg 36 34 true (.mov (.t 3)) (tg 37 34 true (.bin .sub (.t 36) (.c (.int .i64 1))) (tg 38 34 true (.iaddr 3 (.t 35) (.t 37)) (tg 39 34 true (.load 3 true (.t 38)) (tg 40 34 true (.mov (.t 0)) (tg 41 34 true (.mov (.t 3)) (tg 42 34 true (.iaddr 3 (.t 40) (.t 41)) (tg 43 34 true (.load 3 true (.t 42)) (.l ⟨(some 44),(some (34,true)),.call 229 [(.t 39),(.t 43)]⟩ []
 (tg 45 34 true (.bin .geq (.t 44) (.c (.int .i64 0))) (tg 46 31 false (.pick (.t 34) (.t 45) (.c (.bool false))) (tq 47 (.pick (.t 31) (.c (.bool true)) (.t 46)) .done))) .non))))))))))))))))))))))))))) .non))))))
 (.cut (.cond (.t 47) (.seq (.reg (tm 2 (.c (.bool false)) .done))
 .ret)
 .skip))))
 (.reg (tm 11 (.t 3) (tq 12 (.bin .add (.t 11) (.c (.int .i64 1))) (tm 3 (.t 12) .done)))))))))
 (.cut (.seq (.reg (tm 48 (.t 0) (tq 49 (.len (.t 48)) (tq 50 (.bin .leq (.t 49) (.c (.int .i64 8))) (tm 2 (.t 50) .done)))))
 .ret)))))
theorem e9a:a1b Tryz.prog Tryz.f131 = some (c131.erase,[.mov (.t 2)],51):=by kernel_rfl
def a5f (A:(List a0k)):List a0k → Nat → Option (Fl Bool Unit)
  | [],B =>
    some (.go ())
  | D :: xs,B =>
    (((b1z D).bind fun H =>
    if (!H) then
    some true
    else
    (idx A 0).bind fun E =>
    if (D.Kind != E.Kind) then
    some true
    else
    if (decide ((B:Int) > 0)) then
    (idx A (w64 ((B:Int) - 1))).bind fun J =>
    (a9d J D).bind fun F =>
    some (decide (F ≥ 0))
    else
    some false:Option Bool)).bind fun G =>
    if G then
    some (.ret false)
    else
    a5f A xs (B + 1)

def b2s (A:(List a0k)):Option Bool :=
    if (decide ((A.length:Int) > 4096)) then
    some false
    else
    (a5f A A 0).bind fun q => (match q with
    | .ret r => some r
    | .go _ =>
    some (decide ((A.length:Int) ≤ 8)))
theorem c8x (A:(List a0k)) (r:Bool) (hf:b2s A = some r):a0a Tryz.prog 131 .flat [(.lst 3 (A.map o6))] (.bool r):=by
 refine a0a.of_awp mixed Tryz.func131 e9a nle ?_;rw [a0l];unfold b2s at hf;unfold c131;refine (show awp Tryz.prog false 0 _ (ofL [(0,(.lst 3 (A.map o6)))]) [] _ from ?_);refine sr<|l7 (.bool false) rfl<|dk<|o7<|sr<|l7 (.lst 3 (A.map o6)) rfl<|a0y (a1o (enc:=o6) rfl) fun hl2 => x8 (.bool (decide ((A.length:Int) > 4096))) rfl rfl rfl<|dk<|?_
 rcases oi hf with ⟨c3,hf⟩ | ⟨c3,hf⟩
 ·refine y8 rfl c3<|sr<|l7 (.bool false) rfl<|dk<|a0e<|?_;obtain rfl:=os hf;exact a0g ⟨tr,tr⟩ rfl .r
 ·refine y9 rfl (bf c3)<|a0j<|a0i<|o7<|sr<|l7 (.I 0) rfl<|dk<|?_
  obtain ⟨p110,hb1,hf⟩:=ob hf
  refine a3j (X:={q:Unit // p110 = .go q}) (fun q => ([(0,(.lst 3 (A.map o6)))],[])) ?_ ?_
  ·refine a1f (X:={q:Nat // a5f A (A.drop q) q = some p110}) (fun q => ([(0,(.lst 3 (A.map o6))),(3,(.I (q.1:Int)))],[])) (fun q => A.length - q.1) ⟨0,hb1⟩ ⟨[],[],_,_,rfl,rfl,⟨.r,⟨.r,tr⟩⟩,.r⟩ ?_
   rintro ⟨B,hc1⟩
   have hc1:a5f A (A.drop B) B = some p110:=hc1
   refine (show awp Tryz.prog false 0 _ (ofL [(0,(.lst 3 (A.map o6))),(3,(.I (B:Int)))]) [] _ from ?_)
   rcases a5n A B with ⟨hie113,hd116⟩ | ⟨hlt111,D,hx112,hd116⟩
   ·rw [hd116,a5f.eq_1] at hc1
    have hq115:=dlf hie113
    refine o7<|sr<|l7 (.I (B:Int)) rfl<|l7 (.lst 3 (A.map o6)) rfl<|a0y (a1o (enc:=o6) rfl) fun hl118 => x8 (.bool (decide ((B:Int) < (A.length:Int)))) rfl rfl rfl<|dk<|y9 rfl hq115<|a2l<|a2k<|a1t<|a2j<|?_;obtain rfl:=os hc1;exact a6i ⟨_,rfl⟩ ⟨[],[],_,_,rfl,rfl,⟨.r,tr⟩,.r⟩
   ·rw [hd116,a5f.eq_2] at hc1
    have hq115:=dlt hlt111
    refine o7<|sr<|l7 (.I (B:Int)) rfl<|l7 (.lst 3 (A.map o6)) rfl<|a0y (a1o (enc:=o6) rfl) fun hl119 => x8 (.bool (decide ((B:Int) < (A.length:Int)))) rfl rfl rfl<|dk<|y8 rfl hq115<|a0j<|a0i<|o7<|a2x<|o7<|?_
    obtain ⟨G,hb2,hc1⟩:=ob hc1
    refine a1s ([(0,(.lst 3 (A.map o6))),(3,(.I (B:Int))),(47,(.bool G))],[]) ?_ ?_
    ·refine a0s<|l7 (.lst 3 (A.map o6)) rfl<|l7 (.I (B:Int)) rfl<|x9 (a1n (enc:=o6) rfl rfl hx112)<|x8 (o6 D) rfl nle rfl<|?_
     obtain ⟨H,er134,hb2⟩:=ob hb2
     refine a0w (a0n (d0q _ _ er134) rfl .r rfl) a6n tr<|x8 (.bool (!H)) rfl tr rfl<|l7 (.bool (!H)) rfl<|?_
     rcases oi hb2 with ⟨e0r,hb2⟩ | ⟨e0r,hb2⟩
     ·refine a1g (s:=19) (b:=true) rfl e0r<|a0d rfl rfl<|a0d rfl rfl<|a0d rfl rfl<|a0d rfl rfl<|a0d rfl rfl<|a0d rfl rfl<|a0d rfl rfl<|a0d rfl rfl<|a0d rfl rfl<|a0d rfl rfl<|x8 (.bool true) rfl tr rfl<|l7 (.bool true) rfl<|a0d rfl rfl<|a0d rfl rfl<|a0d rfl rfl<|a1k rfl<|a1k rfl<|a1k rfl<|a1k rfl<|a1k rfl<|a1k rfl<|a1k rfl<|a1k rfl<|a1k rfl<|c7g rfl tr<|a1k rfl<|a0d rfl rfl<|x8 (.bool true) rfl tr rfl<|a0h<|?_;obtain rfl:=os hb2;exact ⟨[],[],_,_,rfl,rfl,⟨.r,⟨.r,⟨.r,tr⟩⟩⟩,.r⟩
     ·refine a1g (s:=19) (b:=false) rfl (bf e0r)<|s_on rfl<|l7 (.lst 3 (A.map o6)) rfl<|s_on rfl<|l7 (.I (B:Int)) rfl<|s_on rfl<|x9 (a1n (enc:=o6) rfl rfl hx112)<|s_on rfl<|x8 (.iptr (o6 D) 0) rfl tr rfl<|s_on rfl<|x8 (.I D.Kind) rfl nle rfl<|s_on rfl<|l7 (.lst 3 (A.map o6)) rfl<|s_on rfl<|?_
      obtain ⟨E,ex137,hb2⟩:=ob hb2
      refine x9 (a6s (enc:=o6) rfl rfl (b3m ex137) (b3n ex137))<|s_on rfl<|x8 (.iptr (o6 E) 0) rfl tr rfl<|s_on rfl<|x8 (.I E.Kind) rfl nle rfl<|s_on rfl<|x8 (.bool (D.Kind != E.Kind)) rfl rfl rfl<|x8 (.bool (D.Kind != E.Kind)) rfl tr rfl<|l7 (.bool (D.Kind != E.Kind)) rfl<|?_
      rcases oi hb2 with ⟨c138,hb2⟩ | ⟨c138,hb2⟩
      ·refine a1g (s:=31) (b:=true) rfl c138<|a0d rfl rfl<|a0d rfl rfl<|a0d rfl rfl<|a1k rfl<|a1k rfl<|a1k rfl<|a1k rfl<|a1k rfl<|a1k rfl<|a1k rfl<|a1k rfl<|a1k rfl<|c7g rfl tr<|a1k rfl<|a0d rfl rfl<|x8 (.bool true) rfl tr rfl<|a0h<|?_;obtain rfl:=os hb2;exact ⟨[],[],_,_,rfl,rfl,⟨.r,⟨.r,⟨.r,tr⟩⟩⟩,.r⟩
      ·refine a1g (s:=31) (b:=false) rfl (bf c138)<|s_on rfl<|l7 (.I (B:Int)) rfl<|s_on rfl<|x8 (.bool (decide ((B:Int) > 0))) rfl rfl rfl<|s_on rfl<|l7 (.bool (decide ((B:Int) > 0))) rfl<|?_
       rcases oi hb2 with ⟨c139,hb2⟩ | ⟨c139,hb2⟩
       ·refine a1g (s:=34) (b:=true) rfl c139<|s_on rfl<|l7 (.lst 3 (A.map o6)) rfl<|s_on rfl<|l7 (.I (B:Int)) rfl<|s_on rfl<|x8 (.I (w64 ((B:Int) - 1))) rfl rfl rfl<|s_on rfl<|?_
        obtain ⟨J,ex141,hb2⟩:=ob hb2
        refine x9 (a6s (enc:=o6) rfl rfl (b3m ex141) (b3n ex141))<|s_on rfl<|x8 (o6 J) rfl nle rfl<|s_on rfl<|l7 (.lst 3 (A.map o6)) rfl<|s_on rfl<|l7 (.I (B:Int)) rfl<|s_on rfl<|x9 (a1n (enc:=o6) rfl rfl hx112)<|s_on rfl<|x8 (o6 D) rfl nle rfl<|d2b rfl<|?_
        obtain ⟨F,er143,hb2⟩:=ob hb2
        refine a0w (a0n (c6o _ _ _ er143) rfl .r rfl) a6n tr<|s_on rfl<|x8 (.bool (decide (F ≥ 0))) rfl rfl rfl<|s_on rfl<|x8 (.bool (decide (F ≥ 0))) rfl tr rfl<|x8 (.bool (decide (F ≥ 0))) rfl tr rfl<|a0h<|?_;obtain rfl:=os hb2;exact ⟨[],[],_,_,rfl,rfl,⟨.r,⟨.r,⟨.r,tr⟩⟩⟩,.r⟩
       ·refine a1g (s:=34) (b:=false) rfl (bf c139)<|a0d rfl rfl<|a0d rfl rfl<|a0d rfl rfl<|a0d rfl rfl<|a0d rfl rfl<|a0d rfl rfl<|a0d rfl rfl<|a0d rfl rfl<|a0d rfl rfl<|c4n rfl rfl tr<|a0d rfl rfl<|s_on rfl<|x8 (.bool false) rfl tr rfl<|x8 (.bool false) rfl tr rfl<|a0h<|?_;obtain rfl:=os hb2;exact ⟨[],[],_,_,rfl,rfl,⟨.r,⟨.r,⟨.r,tr⟩⟩⟩,.r⟩
    ·rcases oi hc1 with ⟨c144,hc1⟩ | ⟨c144,hc1⟩
     ·refine y8 rfl c144<|sr<|l7 (.bool false) rfl<|dk<|a0e<|?_;obtain rfl:=os hc1;obtain rfl:=os hf;exact a0g ⟨tr,tr⟩ rfl .r
     ·refine y9 rfl (bf c144)<|a0j<|a2v<|a0i<|a0s<|l7 (.I (B:Int)) rfl<|x8 (.I (w64 ((B:Int) + 1))) rfl rfl rfl<|l7 (.I (w64 ((B:Int) + 1))) rfl<|a0h<|?_;exact a1m ⟨(B + 1),hc1⟩ (mul hlt111) ⟨[],[],_,_,rfl,rfl,⟨.r,⟨.of_eq (congrArg (AV.int _) (a1p hlt111 hl119)),tr⟩⟩,.r⟩
  ·rintro ⟨_,rfl⟩
   refine sr<|l7 (.lst 3 (A.map o6)) rfl<|a0y (a1o (enc:=o6) rfl) fun hl145 => x8 (.bool (decide ((A.length:Int) ≤ 8))) rfl rfl rfl<|l7 (.bool (decide ((A.length:Int) ≤ 8))) rfl<|dk<|a0e<|?_;obtain rfl:=os hf;exact a0g ⟨tr,tr⟩ rfl .r

/- spec.ResultOK -/
def e9b:a0m :=
 (.seq (.reg (tq 1 (.box 5 (.t 0)) (tm 2 (.c (.bool false)) .done)))
 (.seq (.seq (.reg (tq 6 (.faddr 0 (.t 1)) (tq 7 (.load 1 false (.t 6)) (tq 8 (.call 85 [(.t 7),(.c (.int .i64 0)),(.c (.int .i64 19))]) (tq 9 (.not (.t 8)) (tm 10 (.t 9) (tg 11 10 false (.faddr 1 (.t 1)) (tg 12 10 false (.load 1 false (.t 11)) (tg 13 10 false (.call 85 [(.t 12),(.c (.int .i64 0)),(.c (.int .i64 1000))]) (tg 14 10 false (.not (.t 13)) (tq 15 (.pick (.t 10) (.c (.bool true)) (.t 14)) (tm 16 (.t 15) (tg 17 16 false (.faddr 2 (.t 1)) (tg 18 16 false (.load 1 false (.t 17)) (tg 19 16 false (.call 85 [(.t 18),(.c (.int .i64 0)),(.c (.int .i64 1000000))]) (tg 20 16 false (.not (.t 19)) (tq 21 (.pick (.t 16) (.c (.bool true)) (.t 20)) (tm 22 (.t 21) (tg 23 22 false (.faddr 4 (.t 1)) (tg 24 22 false (.load 1 false (.t 23)) (tg 25 22 false (.len (.t 24)) (tg 26 22 false (.bin .gtr (.t 25) (.c (.int .i64 12))) (tq 27 (.pick (.t 22) (.c (.bool true)) (.t 26)) (tm 28 (.t 27) (tg 29 28 false (.faddr 3 (.t 1)) (tg 30 28 false (.load 1 false (.t 29)) (tg 31 28 false (.len (.t 30)) (tg 32 28 false (.bin .gtr (.t 31) (.c (.int .i64 7))) (tq 33 (.pick (.t 28) (.c (.bool true)) (.t 32)) .done)))))))))))))))))))))))))))))
 (.cut (.cond (.t 33) (.seq (.reg (tm 2 (.c (.bool false)) .done))
 .ret)
 .skip)))
 (.seq (.seq (.reg (tm 3 (.c (.int .i64 0)) .done))
 (.block 0 (.loop (.seq (.seq (.reg (tm 34 (.t 3) (tq 35 (.faddr 3 (.t 1)) (tq 36 (.load 1 false (.t 35)) (tq 37 (.len (.t 36)) (tq 38 (.bin .lss (.t 34) (.t 37)) .done))))))
 (.cond (.t 38) .skip
 (.exit 0)))
 (.seq (.block 1 (.seq (.reg (tq 41 (.faddr 3 (.t 1)) (tq 42 (.load 1 false (.t 41)) (tm 43 (.t 3) (tq 44 (.iaddr 1 (.t 42) (.t 43)) (tq 45 (.load 1 false (.t 44)) (tq 46 (.call 191 [(.t 45)]) (tq 47 (.not (.t 46)) .done))))))))
 (.cond (.t 47) (.seq (.reg (tm 2 (.c (.bool false)) .done))
 .ret)
 .skip)))
 (.reg (tm 39 (.t 3) (tq 40 (.bin .add (.t 39) (.c (.int .i64 1))) (tm 3 (.t 40) .done)))))))))
 (.cut (.seq (.seq (.reg (tm 4 (.c (.int .i64 0)) .done))
 (.block 2 (.loop (.seq (.seq (.reg (tm 48 (.t 4) (tq 49 (.faddr 4 (.t 1)) (tq 50 (.load 1 false (.t 49)) (tq 51 (.len (.t 50)) (tq 52 (.bin .lss (.t 48) (.t 51)) .done))))))
 (.cond (.t 52) .skip
 (.exit 2)))
 (.seq (.block 3 (.seq (.seq (.reg (tq 55 (.faddr 4 (.t 1)) (tq 56 (.load 1 false (.t 55)) (tm 57 (.t 4) (tq 58 (.iaddr 2 (.t 56) (.t 57)) (tq 59 (.faddr 1 (.t 58)) (tq 60 (.load 1 false (.t 59)) (tq 61 (.len (.t 60)) (tq 62 (.faddr 3 (.t 1)) (tq 63 (.load 1 false (.t 62)) (tq 64 (.len (.t 63)) (tq 65 (.bin .neq (.t 61) (.t 64)) .done))))))))))))
 (.cond (.t 65) (.seq (.reg (tm 2 (.c (.bool false)) .done))
 .ret)
 .skip))
 (.seq (.reg (tm 5 (.c (.int .i64 0)) .done))
 (.block 4 (.loop (.seq (.seq (.reg (tm 66 (.t 5) (tq 67 (.faddr 4 (.t 1)) (tq 68 (.load 1 false (.t 67)) (tm 69 (.t 4) (tq 70 (.iaddr 2 (.t 68) (.t 69)) (tq 71 (.faddr 1 (.t 70)) (tq 72 (.load 1 false (.t 71)) (tq 73 (.len (.t 72)) (tq 74 (.bin .lss (.t 66) (.t 73)) .done))))))))))
 (.cond (.t 74) .skip
 (.exit 4)))
 (.seq (.block 5 (.seq (.reg (tq 77 (.faddr 4 (.t 1)) (tq 78 (.load 1 false (.t 77)) (tm 79 (.t 4) (tq 80 (.iaddr 2 (.t 78) (.t 79)) (tq 81 (.faddr 1 (.t 80)) (tq 82 (.load 1 false (.t 81)) (tm 83 (.t 5) (tq 84 (.iaddr 1 (.t 82) (.t 83)) (tq 85 (.load 1 false (.t 84)) (tq 86 (.call 131 [(.t 85)]) (tq 87 (.not (.t 86)) .done))))))))))))
 (.cond (.t 87) (.seq (.reg (tm 2 (.c (.bool false)) .done))
 .ret)
 .skip)))
 (.reg (tm 75 (.t 5) (tq 76 (.bin .add (.t 75) (.c (.int .i64 1))) (tm 5 (.t 76) .done)))))))))))
 (.cut (.reg (tm 53 (.t 4) (tq 54 (.bin .add (.t 53) (.c (.int .i64 1))) (tm 4 (.t 54) .done))))))))))
 (.cut (.seq (.reg (tq 88 (.faddr 0 (.t 1)) (tq 89 (.load 1 false (.t 88)) (tq 90 (.bin .eql (.t 89) (.c (.int .i64 0))) (tm 91 (.t 90) (tg 92 91 false (.faddr 1 (.t 1)) (tg 93 91 false (.load 1 false (.t 92)) (tg 94 91 false (.bin .eql (.t 93) (.c (.int .i64 0))) (tg 95 91 false (.mov (.t 94)) (tg 96 95 true (.faddr 2 (.t 1)) (tg 97 95 true (.load 1 false (.t 96)) (tg 98 95 true (.bin .eql (.t 97) (.c (.int .i64 0))) (tg 99 91 false (.pick (.t 95) (.t 98) (.c (.bool false))) (tg 100 91 false (.mov (.t 99)) (tg 101 100 true (.faddr 4 (.t 1)) (tg 102 100 true (.load 1 false (.t 101)) (tg 103 100 true (.len (.t 102)) (tg 104 100 true (.bin .eql (.t 103) (.c (.int .i64 0))) (tg 105 91 false (.pick (.t 100) (.t 104) (.c (.bool false))) (tg 106 91 false (.mov (.t 105)) (tg 107 106 true (.faddr 3 (.t 1)) (tg 108 106 true (.load 1 false (.t 107)) (tg 109 106 true (.len (.t 108)) (tg 110 106 true (.bin .eql (.t 109) (.c (.int .i64 0))) (tg 111 91 false (.pick (.t 106) (.t 110) (.c (.bool false))) (tq 112 (.pick (.t 91) (.c (.bool true)) (.t 111)) (tm 2 (.t 112) .done)))))))))))))))))))))))))))
 .ret)))))))
theorem e9c:a1b Tryz.prog Tryz.f118 = some (e9b.erase,[.mov (.t 2)],113):=by kernel_rfl
def a4i :List Str → Option (Fl Bool Unit)
  | [] =>
    some (.go ())
  | N :: xs =>
    (b4m N).bind fun O =>
    if (!O) then
    some (.ret false)
    else
    a4i xs 

def a4j :List (List a0k) → Option (Fl Bool Unit)
  | [] =>
    some (.go ())
  | K :: xs =>
    (b2s K).bind fun L =>
    if (!L) then
    some (.ret false)
    else
    a4j xs 

def a4k (A:a1i):List a1u → Option (Fl Bool Unit)
  | [] =>
    some (.go ())
  | B :: xs =>
    if ((B.Cells.length:Int) != (A.Columns.length:Int)) then
    some (.ret false)
    else
    (a4j B.Cells ).bind fun q => (match q with
    | .ret r => some (.ret r)
    | .go _ =>
    a4k A xs )

def b0y (A:a1i):Option Bool :=
    (((a5u A.Code 0 19).bind fun M =>
    if (!M) then
    some true
    else
    (a5u A.Count 0 1000).bind fun H =>
    if (!H) then
    some true
    else
    (a5u A.Id 0 1000000).bind fun F =>
    some (bif (bif (!F) then true else (decide ((A.Rows.length:Int) > 12))) then true else (decide ((A.Columns.length:Int) > 7))):Option Bool)).bind fun J =>
    if J then
    some false
    else
    (a4i A.Columns ).bind fun q => (match q with
    | .ret r => some r
    | .go _ =>
    (a4k A A.Rows ).bind fun q => (match q with
    | .ret r => some r
    | .go _ =>
    some (bif (A.Code == 0) then true else (bif (bif (bif (A.Count == 0) then (A.Id == 0) else false) then ((A.Rows.length:Int) == 0) else false) then ((A.Columns.length:Int) == 0) else false))))
theorem b8r (A:a1i) (r:Bool) (hf:b0y A = some r):a0a Tryz.prog 118 .flat [(a2c A)] (.bool r):=by
 refine a0a.of_awp mixed Tryz.func118 e9c nle ?_;rw [a0l];unfold b0y at hf;unfold e9b;refine (show awp Tryz.prog false 0 _ (ofL [(0,(a2c A))]) [] _ from ?_);refine sr<|x9 (a1j (j:=0) (c:=(.agg [(.I A.Code),(.I A.Count),(.I A.Id),(.lst 1 (A.Columns.map AV.str)),(.lst 2 (A.Rows.map y5))])) rfl tr rfl rfl)<|l7 (.bool false) rfl<|dk<|o7<|o7<|?_
 obtain ⟨J,hb1,hf⟩:=ob hf
 refine a1s ([(1,(.ptr 0 0 0)),(33,(.bool J))],[.box 5 (.agg [(.I A.Code),(.I A.Count),(.I A.Id),(.lst 1 (A.Columns.map AV.str)),(.lst 2 (A.Rows.map y5))])]) ?_ ?_
 ·refine a0s<|x8 (.ptr 0 0 0) rfl tr rfl<|x8 (.I A.Code) rfl nle rfl<|?_
  obtain ⟨M,er15,hb1⟩:=ob hb1
  refine x9 (a0n (a4h _ _ _ _ er15) rfl .r rfl)<|x8 (.bool (!M)) rfl tr rfl<|l7 (.bool (!M)) rfl<|?_
  rcases oi hb1 with ⟨c16,hb1⟩ | ⟨c16,hb1⟩
  ·refine a1g (s:=10) (b:=true) rfl c16<|a0d rfl rfl<|a0d rfl rfl<|a0d rfl rfl<|a0d rfl rfl<|x8 (.bool true) rfl tr rfl<|l7 (.bool true) rfl<|a0d rfl rfl<|a0d rfl rfl<|a0d rfl rfl<|a0d rfl rfl<|x8 (.bool true) rfl tr rfl<|l7 (.bool true) rfl<|a0d rfl rfl<|a0d rfl rfl<|a0d rfl rfl<|a0d rfl rfl<|x8 (.bool true) rfl tr rfl<|l7 (.bool true) rfl<|a0d rfl rfl<|a0d rfl rfl<|a0d rfl rfl<|a0d rfl rfl<|x8 (.bool true) rfl tr rfl<|a0h<|?_;obtain rfl:=os hb1;exact ⟨[],[0],_,_,rfl,rfl,⟨.r,⟨.r,tr⟩⟩,.r⟩
  ·refine a1g (s:=10) (b:=false) rfl (bf c16)<|s_on rfl<|x8 (.ptr 0 0 1) rfl tr rfl<|s_on rfl<|x8 (.I A.Count) rfl nle rfl<|s_on rfl<|?_
   obtain ⟨H,er18,hb1⟩:=ob hb1
   refine x9 (a0n (a4h _ _ _ _ er18) rfl .r rfl)<|s_on rfl<|x8 (.bool (!H)) rfl tr rfl<|x8 (.bool (!H)) rfl tr rfl<|l7 (.bool (!H)) rfl<|?_
   rcases oi hb1 with ⟨c19,hb1⟩ | ⟨c19,hb1⟩
   ·refine a1g (s:=16) (b:=true) rfl c19<|a0d rfl rfl<|a0d rfl rfl<|a0d rfl rfl<|a0d rfl rfl<|x8 (.bool true) rfl tr rfl<|l7 (.bool true) rfl<|a0d rfl rfl<|a0d rfl rfl<|a0d rfl rfl<|a0d rfl rfl<|x8 (.bool true) rfl tr rfl<|l7 (.bool true) rfl<|a0d rfl rfl<|a0d rfl rfl<|a0d rfl rfl<|a0d rfl rfl<|x8 (.bool true) rfl tr rfl<|a0h<|?_;obtain rfl:=os hb1;exact ⟨[],[0],_,_,rfl,rfl,⟨.r,⟨.r,tr⟩⟩,.r⟩
   ·refine a1g (s:=16) (b:=false) rfl (bf c19)<|s_on rfl<|x8 (.ptr 0 0 2) rfl tr rfl<|s_on rfl<|x8 (.I A.Id) rfl nle rfl<|s_on rfl<|?_
    obtain ⟨F,er21,hb1⟩:=ob hb1
    refine x9 (a0n (a4h _ _ _ _ er21) rfl .r rfl)<|s_on rfl<|x8 (.bool (!F)) rfl tr rfl<|x8 (.bool (!F)) rfl tr rfl<|l7 (.bool (!F)) rfl<|?_;refine s_g (v:=(!F)) (.ptr 0 0 4) rfl (fun hv => by (try simp only [y7 hv]);exact ⟨rfl,tr,rfl⟩) ?_;refine s_g (v:=(!F)) (.lst 2 (A.Rows.map y5)) rfl (fun hv => by (try simp only [y7 hv]);exact ⟨rfl,nle,rfl⟩) ?_;refine s_g (v:=(!F)) (.I (A.Rows.length:Int)) rfl (fun hv => by (try simp only [y7 hv]);exact ⟨rfl,tr,lenV _ _⟩) ?_;refine s_g (v:=(!F)) (.bool (decide ((A.Rows.length:Int) > 12))) rfl (fun hv => by (try simp only [y7 hv]);exact ⟨rfl,rfl,rfl⟩) ?_
    refine a3c (x:=true) (y:=(decide ((A.Rows.length:Int) > 12))) rfl (fun hv => by (try simp only [y7 hv]);rfl) (fun hv => by (try simp only [y7 hv]);rfl) ?_;refine l7 (.bool (bif (!F) then true else (decide ((A.Rows.length:Int) > 12)))) rfl ?_;refine s_g (v:=(bif (!F) then true else (decide ((A.Rows.length:Int) > 12)))) (.ptr 0 0 3) rfl (fun hv => by (try simp only [y7 hv]);exact ⟨rfl,tr,rfl⟩) ?_;refine s_g (v:=(bif (!F) then true else (decide ((A.Rows.length:Int) > 12)))) (.lst 1 (A.Columns.map AV.str)) rfl (fun hv => by (try simp only [y7 hv]);exact ⟨rfl,nle,rfl⟩) ?_;refine s_g (v:=(bif (!F) then true else (decide ((A.Rows.length:Int) > 12)))) (.I (A.Columns.length:Int)) rfl (fun hv => by (try simp only [y7 hv]);exact ⟨rfl,tr,lenV _ _⟩) ?_
    refine s_g (v:=(bif (!F) then true else (decide ((A.Rows.length:Int) > 12)))) (.bool (decide ((A.Columns.length:Int) > 7))) rfl (fun hv => by (try simp only [y7 hv]);exact ⟨rfl,rfl,rfl⟩) ?_;refine a3c (x:=true) (y:=(decide ((A.Columns.length:Int) > 7))) rfl (fun hv => by (try simp only [y7 hv]);rfl) (fun hv => by (try simp only [y7 hv]);rfl) ?_;refine a0h ?_;obtain rfl:=os hb1;exact ⟨[],[0],_,_,rfl,rfl,⟨.r,⟨.r,tr⟩⟩,.r⟩
 ·rcases oi hf with ⟨c24,hf⟩ | ⟨c24,hf⟩
  ·refine y8 rfl c24<|sr<|l7 (.bool false) rfl<|dk<|a0e<|?_;obtain rfl:=os hf;exact a0g ⟨tr,tr⟩ rfl .r
  ·refine y9 rfl (bf c24)<|a0j<|a0i<|o7<|sr<|l7 (.I 0) rfl<|dk<|?_
   obtain ⟨p49,hb1,hf⟩:=ob hf
   refine a3j (X:={q:Unit // p49 = .go q}) (fun q => ([(1,(.ptr 0 0 0))],[.box 5 (.agg [(.I A.Code),(.I A.Count),(.I A.Id),(.lst 1 (A.Columns.map AV.str)),(.lst 2 (A.Rows.map y5))])])) ?_ ?_
   ·refine a1f (X:={q:Nat // a4i (A.Columns.drop q)  = some p49}) (fun q => ([(1,(.ptr 0 0 0)),(3,(.I (q.1:Int)))],[.box 5 (.agg [(.I A.Code),(.I A.Count),(.I A.Id),(.lst 1 (A.Columns.map AV.str)),(.lst 2 (A.Rows.map y5))])])) (fun q => A.Columns.length - q.1) ⟨0,hb1⟩ ⟨[],[0],_,_,rfl,rfl,⟨.r,⟨.r,tr⟩⟩,.r⟩ ?_
    rintro ⟨G,hc1⟩
    have hc1:a4i (A.Columns.drop G)  = some p49:=hc1
    refine (show awp Tryz.prog false 0 _ (ofL [(1,(.ptr 0 0 0)),(3,(.I (G:Int)))]) [.box 5 (.agg [(.I A.Code),(.I A.Count),(.I A.Id),(.lst 1 (A.Columns.map AV.str)),(.lst 2 (A.Rows.map y5))])] _ from ?_)
    rcases a5n A.Columns G with ⟨hie52,hd55⟩ | ⟨hlt50,N,hx51,hd55⟩
    ·rw [hd55,a4i.eq_1] at hc1
     have hq54:=dlf hie52
     refine o7<|sr<|l7 (.I (G:Int)) rfl<|x8 (.ptr 0 0 3) rfl tr rfl<|x8 (.lst 1 (A.Columns.map AV.str)) rfl nle rfl<|a0y (a1o (enc:=AV.str) rfl) fun hl57 => x8 (.bool (decide ((G:Int) < (A.Columns.length:Int)))) rfl rfl rfl<|dk<|y9 rfl hq54<|a2l<|a2k<|a1t<|a2j<|?_;obtain rfl:=os hc1;exact a6i ⟨_,rfl⟩ ⟨[],[0],_,_,rfl,rfl,⟨.r,tr⟩,.r⟩
    ·rw [hd55,a4i.eq_2] at hc1
     have hq54:=dlt hlt50
     refine o7<|sr<|l7 (.I (G:Int)) rfl<|x8 (.ptr 0 0 3) rfl tr rfl<|x8 (.lst 1 (A.Columns.map AV.str)) rfl nle rfl<|a0y (a1o (enc:=AV.str) rfl) fun hl58 => x8 (.bool (decide ((G:Int) < (A.Columns.length:Int)))) rfl rfl rfl<|dk<|y8 rfl hq54<|a0j<|a0i<|o7<|a2x<|sr<|?_
     obtain ⟨O,er60,hc1⟩:=ob hc1
     refine x8 (.ptr 0 0 3) rfl tr rfl<|x8 (.lst 1 (A.Columns.map AV.str)) rfl nle rfl<|l7 (.I (G:Int)) rfl<|x9 (a1n (enc:=AV.str) rfl rfl hx51)<|x8 (.str N) rfl ⟨rfl,rfl⟩ rfl<|x9 (a0n (d0p _ _ er60) rfl .r rfl)<|x8 (.bool (!O)) rfl tr rfl<|dk<|?_
     rcases oi hc1 with ⟨c61,hc1⟩ | ⟨c61,hc1⟩
     ·refine y8 rfl c61<|sr<|l7 (.bool false) rfl<|dk<|a0e<|?_;obtain rfl:=os hc1;obtain rfl:=os hf;exact a0g ⟨tr,tr⟩ rfl .r
     ·refine y9 rfl (bf c61)<|a0j<|a2v<|a0i<|a0s<|l7 (.I (G:Int)) rfl<|x8 (.I (w64 ((G:Int) + 1))) rfl rfl rfl<|l7 (.I (w64 ((G:Int) + 1))) rfl<|a0h<|?_;exact a1m ⟨(G + 1),hc1⟩ (mul hlt50) ⟨[],[0],_,_,rfl,rfl,⟨.r,⟨.of_eq (congrArg (AV.int _) (a1p hlt50 hl58)),tr⟩⟩,.r⟩
   ·rintro ⟨_,rfl⟩
    refine o7<|sr<|l7 (.I 0) rfl<|dk<|?_
    obtain ⟨p341,hb1,hf⟩:=ob hf
    refine a3j (X:={q:Unit // p341 = .go q}) (fun q => ([(1,(.ptr 0 0 0))],[.box 5 (.agg [(.I A.Code),(.I A.Count),(.I A.Id),(.lst 1 (A.Columns.map AV.str)),(.lst 2 (A.Rows.map y5))])])) ?_ ?_
    ·refine a1f (X:={q:Nat // a4k A (A.Rows.drop q)  = some p341}) (fun q => ([(1,(.ptr 0 0 0)),(4,(.I (q.1:Int)))],[.box 5 (.agg [(.I A.Code),(.I A.Count),(.I A.Id),(.lst 1 (A.Columns.map AV.str)),(.lst 2 (A.Rows.map y5))])])) (fun q => A.Rows.length - q.1) ⟨0,hb1⟩ ⟨[],[0],_,_,rfl,rfl,⟨.r,⟨.r,tr⟩⟩,.r⟩ ?_
     rintro ⟨D,hc1⟩
     have hc1:a4k A (A.Rows.drop D)  = some p341:=hc1
     refine (show awp Tryz.prog false 0 _ (ofL [(1,(.ptr 0 0 0)),(4,(.I (D:Int)))]) [.box 5 (.agg [(.I A.Code),(.I A.Count),(.I A.Id),(.lst 1 (A.Columns.map AV.str)),(.lst 2 (A.Rows.map y5))])] _ from ?_)
     rcases a5n A.Rows D with ⟨hie344,hd347⟩ | ⟨hlt342,B,hx343,hd347⟩
     ·rw [hd347,a4k.eq_1] at hc1
      have hq346:=dlf hie344
      refine o7<|sr<|l7 (.I (D:Int)) rfl<|x8 (.ptr 0 0 4) rfl tr rfl<|x8 (.lst 2 (A.Rows.map y5)) rfl nle rfl<|a0y (a1o (enc:=y5) rfl) fun hl349 => x8 (.bool (decide ((D:Int) < (A.Rows.length:Int)))) rfl rfl rfl<|dk<|y9 rfl hq346<|a2l<|a2k<|a1t<|a2j<|?_;obtain rfl:=os hc1;exact a6i ⟨_,rfl⟩ ⟨[],[0],_,_,rfl,rfl,⟨.r,tr⟩,.r⟩
     ·rw [hd347,a4k.eq_2] at hc1
      have hq346:=dlt hlt342
      refine o7<|sr<|l7 (.I (D:Int)) rfl<|x8 (.ptr 0 0 4) rfl tr rfl<|x8 (.lst 2 (A.Rows.map y5)) rfl nle rfl<|a0y (a1o (enc:=y5) rfl) fun hl350 => x8 (.bool (decide ((D:Int) < (A.Rows.length:Int)))) rfl rfl rfl<|dk<|y8 rfl hq346<|a0j<|a0i<|o7<|a2x<|o7<|sr<|x8 (.ptr 0 0 4) rfl tr rfl<|x8 (.lst 2 (A.Rows.map y5)) rfl nle rfl<|l7 (.I (D:Int)) rfl<|x9 (a1n (enc:=y5) rfl rfl hx343)<|x8 (.iptr (y5 B) 1) rfl tr rfl<|x8 (.lst 1 (B.Cells.map (a1q 3 o6))) rfl nle rfl<|a0y (a1o (enc:=(a1q 3 o6)) rfl) fun hl351 => ?_
      refine x8 (.ptr 0 0 3) rfl tr rfl<|x8 (.lst 1 (A.Columns.map AV.str)) rfl nle rfl<|a0y (a1o (enc:=AV.str) rfl) fun hl352 => x8 (.bool ((B.Cells.length:Int) != (A.Columns.length:Int))) rfl rfl rfl<|dk<|?_
      rcases oi hc1 with ⟨c353,hc1⟩ | ⟨c353,hc1⟩
      ·refine y8 rfl c353<|sr<|l7 (.bool false) rfl<|dk<|a0e<|?_;obtain rfl:=os hc1;obtain rfl:=os hf;exact a0g ⟨tr,tr⟩ rfl .r
      ·refine y9 rfl (bf c353)<|a0j<|a0i<|sr<|l7 (.I 0) rfl<|dk<|?_
       obtain ⟨p378,hb2,hc1⟩:=ob hc1
       refine e0m (X:={q:Unit // p378 = .go q}) (fun q => ([(1,(.ptr 0 0 0)),(4,(.I (D:Int)))],[.box 5 (.agg [(.I A.Code),(.I A.Count),(.I A.Id),(.lst 1 (A.Columns.map AV.str)),(.lst 2 (A.Rows.map y5))])])) ?_ ?_
       ·refine a1f (X:={q:Nat // a4j (B.Cells.drop q)  = some p378}) (fun q => ([(1,(.ptr 0 0 0)),(4,(.I (D:Int))),(5,(.I (q.1:Int)))],[.box 5 (.agg [(.I A.Code),(.I A.Count),(.I A.Id),(.lst 1 (A.Columns.map AV.str)),(.lst 2 (A.Rows.map y5))])])) (fun q => B.Cells.length - q.1) ⟨0,hb2⟩ ⟨[],[0],_,_,rfl,rfl,⟨.r,⟨.r,⟨.r,tr⟩⟩⟩,.r⟩ ?_
        rintro ⟨E,hc2⟩
        have hc2:a4j (B.Cells.drop E)  = some p378:=hc2
        refine (show awp Tryz.prog false 0 _ (ofL [(1,(.ptr 0 0 0)),(4,(.I (D:Int))),(5,(.I (E:Int)))]) [.box 5 (.agg [(.I A.Code),(.I A.Count),(.I A.Id),(.lst 1 (A.Columns.map AV.str)),(.lst 2 (A.Rows.map y5))])] _ from ?_)
        rcases a5n B.Cells E with ⟨hie381,hd384⟩ | ⟨hlt379,K,hx380,hd384⟩
        ·rw [hd384,a4j.eq_1] at hc2
         have hq383:=dlf hie381
         refine o7<|sr<|l7 (.I (E:Int)) rfl<|x8 (.ptr 0 0 4) rfl tr rfl<|x8 (.lst 2 (A.Rows.map y5)) rfl nle rfl<|l7 (.I (D:Int)) rfl<|x9 (a1n (enc:=y5) rfl rfl hx343)<|x8 (.iptr (y5 B) 1) rfl tr rfl<|x8 (.lst 1 (B.Cells.map (a1q 3 o6))) rfl nle rfl<|a0y (a1o (enc:=(a1q 3 o6)) rfl) fun hl386 => x8 (.bool (decide ((E:Int) < (B.Cells.length:Int)))) rfl rfl rfl<|dk<|y9 rfl hq383<|a2l<|a2k<|a1t<|a2j<|?_;refine a2v ?_;obtain rfl:=os hc2;exact a6i ⟨_,rfl⟩ ⟨[],[0],_,_,rfl,rfl,⟨.r,⟨.r,tr⟩⟩,.r⟩
        ·rw [hd384,a4j.eq_2] at hc2
         have hq383:=dlt hlt379
         refine o7<|sr<|l7 (.I (E:Int)) rfl<|x8 (.ptr 0 0 4) rfl tr rfl<|x8 (.lst 2 (A.Rows.map y5)) rfl nle rfl<|l7 (.I (D:Int)) rfl<|x9 (a1n (enc:=y5) rfl rfl hx343)<|x8 (.iptr (y5 B) 1) rfl tr rfl<|x8 (.lst 1 (B.Cells.map (a1q 3 o6))) rfl nle rfl<|a0y (a1o (enc:=(a1q 3 o6)) rfl) fun hl387 => x8 (.bool (decide ((E:Int) < (B.Cells.length:Int)))) rfl rfl rfl<|dk<|y8 rfl hq383<|a0j<|a0i<|o7<|a2x<|sr<|?_
         obtain ⟨L,er389,hc2⟩:=ob hc2
         refine x8 (.ptr 0 0 4) rfl tr rfl<|x8 (.lst 2 (A.Rows.map y5)) rfl nle rfl<|l7 (.I (D:Int)) rfl<|x9 (a1n (enc:=y5) rfl rfl hx343)<|x8 (.iptr (y5 B) 1) rfl tr rfl<|x8 (.lst 1 (B.Cells.map (a1q 3 o6))) rfl nle rfl<|l7 (.I (E:Int)) rfl<|x9 (a1n (enc:=(a1q 3 o6)) rfl rfl hx380)<|x8 (.lst 3 (K.map o6)) rfl ⟨rfl,rfl⟩ rfl<|x9 (a0n (c8x _ _ er389) rfl .r rfl)<|x8 (.bool (!L)) rfl tr rfl<|dk<|?_
         rcases oi hc2 with ⟨c390,hc2⟩ | ⟨c390,hc2⟩
         ·refine y8 rfl c390<|sr<|l7 (.bool false) rfl<|dk<|a0e<|?_;obtain rfl:=os hc2;obtain rfl:=os hc1;obtain rfl:=os hf;exact a0g ⟨tr,tr⟩ rfl .r
         ·refine y9 rfl (bf c390)<|a0j<|a2v<|a0i<|a0s<|l7 (.I (E:Int)) rfl<|x8 (.I (w64 ((E:Int) + 1))) rfl rfl rfl<|l7 (.I (w64 ((E:Int) + 1))) rfl<|a0h<|?_;exact a1m ⟨(E + 1),hc2⟩ (mul hlt379) ⟨[],[0],_,_,rfl,rfl,⟨.r,⟨.r,⟨.of_eq (congrArg (AV.int _) (a1p hlt379 hl387)),tr⟩⟩⟩,.r⟩
       ·rintro ⟨_,rfl⟩
        refine a0s<|l7 (.I (D:Int)) rfl<|x8 (.I (w64 ((D:Int) + 1))) rfl rfl rfl<|l7 (.I (w64 ((D:Int) + 1))) rfl<|a0h<|?_;exact a1m ⟨(D + 1),hc1⟩ (mul hlt342) ⟨[],[0],_,_,rfl,rfl,⟨.r,⟨.of_eq (congrArg (AV.int _) (a1p hlt342 hl350)),tr⟩⟩,.r⟩
    ·rintro ⟨_,rfl⟩
     refine sr<|x8 (.ptr 0 0 0) rfl tr rfl<|x8 (.I A.Code) rfl nle rfl<|x8 (.bool (A.Code == 0)) rfl rfl rfl<|l7 (.bool (A.Code == 0)) rfl<|?_;refine s_g (v:=(A.Code == 0)) (.ptr 0 0 1) rfl (fun hv => by (try simp only [y7 hv]);exact ⟨rfl,tr,rfl⟩) ?_;refine s_g (v:=(A.Code == 0)) (.I A.Count) rfl (fun hv => by (try simp only [y7 hv]);exact ⟨rfl,nle,rfl⟩) ?_;refine s_g (v:=(A.Code == 0)) (.bool (A.Count == 0)) rfl (fun hv => by (try simp only [y7 hv]);exact ⟨rfl,rfl,rfl⟩) ?_;refine s_g (v:=(A.Code == 0)) (.bool (A.Count == 0)) rfl (fun hv => by (try simp only [y7 hv]);exact ⟨rfl,tr,rfl⟩) ?_;refine b4h (v1:=(A.Code == 0)) (b1:=false) (v2:=(A.Count == 0)) (.ptr 0 0 2) rfl (fun hv hw => by (try simp only [y7 hv,y7 hw]);exact ⟨rfl,tr,rfl⟩) ?_
     refine b4h (v1:=(A.Code == 0)) (b1:=false) (v2:=(A.Count == 0)) (.I A.Id) rfl (fun hv hw => by (try simp only [y7 hv,y7 hw]);exact ⟨rfl,nle,rfl⟩) ?_;refine b4h (v1:=(A.Code == 0)) (b1:=false) (v2:=(A.Count == 0)) (.bool (A.Id == 0)) rfl (fun hv hw => by (try simp only [y7 hv,y7 hw]);exact ⟨rfl,rfl,rfl⟩) ?_;refine d7t (v1:=(A.Code == 0)) (b1:=false) (v2:=(A.Count == 0)) (x:=(A.Id == 0)) (y:=false) rfl (fun hv => by (try simp only [y7 hv]);rfl) (fun hv hw => by (try simp only [y7 hv,y7 hw]);rfl) (fun hv hw => by (try simp only [y7 hv,y7 hw]);rfl) ?_;refine s_g (v:=(A.Code == 0)) (.bool (bif (A.Count == 0) then (A.Id == 0) else false)) rfl (fun hv => by (try simp only [y7 hv]);exact ⟨rfl,tr,rfl⟩) ?_
     refine b4h (v1:=(A.Code == 0)) (b1:=false) (v2:=(bif (A.Count == 0) then (A.Id == 0) else false)) (.ptr 0 0 4) rfl (fun hv hw => by (try simp only [y7 hv,y7 hw]);exact ⟨rfl,tr,rfl⟩) ?_;refine b4h (v1:=(A.Code == 0)) (b1:=false) (v2:=(bif (A.Count == 0) then (A.Id == 0) else false)) (.lst 2 (A.Rows.map y5)) rfl (fun hv hw => by (try simp only [y7 hv,y7 hw]);exact ⟨rfl,nle,rfl⟩) ?_;refine b4h (v1:=(A.Code == 0)) (b1:=false) (v2:=(bif (A.Count == 0) then (A.Id == 0) else false)) (.I (A.Rows.length:Int)) rfl (fun hv hw => by (try simp only [y7 hv,y7 hw]);exact ⟨rfl,tr,lenV _ _⟩) ?_;refine b4h (v1:=(A.Code == 0)) (b1:=false) (v2:=(bif (A.Count == 0) then (A.Id == 0) else false)) (.bool ((A.Rows.length:Int) == 0)) rfl (fun hv hw => by (try simp only [y7 hv,y7 hw]);exact ⟨rfl,rfl,rfl⟩) ?_
     refine d7t (v1:=(A.Code == 0)) (b1:=false) (v2:=(bif (A.Count == 0) then (A.Id == 0) else false)) (x:=((A.Rows.length:Int) == 0)) (y:=false) rfl (fun hv => by (try simp only [y7 hv]);rfl) (fun hv hw => by (try simp only [y7 hv,y7 hw]);rfl) (fun hv hw => by (try simp only [y7 hv,y7 hw]);rfl) ?_;refine s_g (v:=(A.Code == 0)) (.bool (bif (bif (A.Count == 0) then (A.Id == 0) else false) then ((A.Rows.length:Int) == 0) else false)) rfl (fun hv => by (try simp only [y7 hv]);exact ⟨rfl,tr,rfl⟩) ?_;refine b4h (v1:=(A.Code == 0)) (b1:=false) (v2:=(bif (bif (A.Count == 0) then (A.Id == 0) else false) then ((A.Rows.length:Int) == 0) else false)) (.ptr 0 0 3) rfl (fun hv hw => by (try simp only [y7 hv,y7 hw]);exact ⟨rfl,tr,rfl⟩) ?_
     refine b4h (v1:=(A.Code == 0)) (b1:=false) (v2:=(bif (bif (A.Count == 0) then (A.Id == 0) else false) then ((A.Rows.length:Int) == 0) else false)) (.lst 1 (A.Columns.map AV.str)) rfl (fun hv hw => by (try simp only [y7 hv,y7 hw]);exact ⟨rfl,nle,rfl⟩) ?_;refine b4h (v1:=(A.Code == 0)) (b1:=false) (v2:=(bif (bif (A.Count == 0) then (A.Id == 0) else false) then ((A.Rows.length:Int) == 0) else false)) (.I (A.Columns.length:Int)) rfl (fun hv hw => by (try simp only [y7 hv,y7 hw]);exact ⟨rfl,tr,lenV _ _⟩) ?_;refine b4h (v1:=(A.Code == 0)) (b1:=false) (v2:=(bif (bif (A.Count == 0) then (A.Id == 0) else false) then ((A.Rows.length:Int) == 0) else false)) (.bool ((A.Columns.length:Int) == 0)) rfl (fun hv hw => by (try simp only [y7 hv,y7 hw]);exact ⟨rfl,rfl,rfl⟩) ?_
     refine d7t (v1:=(A.Code == 0)) (b1:=false) (v2:=(bif (bif (A.Count == 0) then (A.Id == 0) else false) then ((A.Rows.length:Int) == 0) else false)) (x:=((A.Columns.length:Int) == 0)) (y:=false) rfl (fun hv => by (try simp only [y7 hv]);rfl) (fun hv hw => by (try simp only [y7 hv,y7 hw]);rfl) (fun hv hw => by (try simp only [y7 hv,y7 hw]);rfl) ?_;refine a3c (x:=true) (y:=(bif (bif (bif (A.Count == 0) then (A.Id == 0) else false) then ((A.Rows.length:Int) == 0) else false) then ((A.Columns.length:Int) == 0) else false)) rfl (fun hv => by (try simp only [y7 hv]);rfl) (fun hv => by (try simp only [y7 hv]);rfl) ?_;refine l7 (.bool (bif (A.Code == 0) then true else (bif (bif (bif (A.Count == 0) then (A.Id == 0) else false) then ((A.Rows.length:Int) == 0) else false) then ((A.Columns.length:Int) == 0) else false))) rfl ?_
     refine dk<|a0e<|?_;obtain rfl:=os hf;exact a0g ⟨tr,tr⟩ rfl .r

/- spec.CodeWord -/
def e9d:a0m :=
 (.seq (.reg (tm 2 (.c (.str [])) .done))
 (.seq (.reg (tq 4 (.bslice 1 [(.c (.str [111,107])),(.c (.str [98,97,100])),(.c (.str [108,111,110,103])),(.c (.str [102,111,114,109])),(.c (.str [114,97,110,103,101])),(.c (.str [110,111,110,101])),(.c (.str [109,97,110,121])),(.c (.str [102,117,108,108])),(.c (.str [116,119,105,99,101])),(.c (.str [116,121,112,101])),(.c (.str [116,97,98,108,101])),(.c (.str [99,111,108,117,109,110])),(.c (.str [117,110,105,113,117,101])),(.c (.str [114,101,102])),(.c (.str [111,119,110,101,114])),(.c (.str [119,97,105,116])),(.c (.str [97,98,111,114,116])),(.c (.str [99,108,111,115,101,100])),(.c (.str [100,101,101,112])),(.c (.str [109,101,116,104,111,100]))]) (tm 3 (.t 4) .done)))
 (.seq (.seq (.reg (tm 5 (.t 0) (tq 6 (.bin .lss (.t 5) (.c (.int .i64 0))) (tm 7 (.t 6) (tg 8 7 false (.mov (.t 0)) (tg 9 7 false (.mov (.t 3)) (tg 10 7 false (.len (.t 9)) (tg 11 7 false (.bin .geq (.t 8) (.t 10)) (tq 12 (.pick (.t 7) (.c (.bool true)) (.t 11)) .done)))))))))
 (.cut (.cond (.t 12) (.seq (.reg (tm 2 (.c (.str [])) .done))
 .ret)
 .skip)))
 (.seq (.reg (tm 13 (.t 3) (tm 14 (.t 0) (tq 15 (.iaddr 1 (.t 13) (.t 14)) (tq 16 (.load 1 false (.t 15)) (tm 2 (.t 16) .done))))))
 .ret))))
theorem e9e:a1b Tryz.prog Tryz.f214 = some (e9d.erase,[.mov (.t 2)],17):=by kernel_rfl
def a8d (A:Int):Option Str :=
    ((if (decide (A < 0)) then
    some true
    else
    some (decide (A ≥ (20:Int))):Option Bool)).bind fun B =>
    if B then
    some []
    else
    if (0:Int) ≤ A ∧ A < ([[111,107],[98,97,100],[108,111,110,103],[102,111,114,109],[114,97,110,103,101],[110,111,110,101],[109,97,110,121],[102,117,108,108],[116,119,105,99,101],[116,121,112,101],[116,97,98,108,101],[99,111,108,117,109,110],[117,110,105,113,117,101],[114,101,102],[111,119,110,101,114],[119,97,105,116],[97,98,111,114,116],[99,108,111,115,101,100],[100,101,101,112],[109,101,116,104,111,100]].length:Int) then
    ([[111,107],[98,97,100],[108,111,110,103],[102,111,114,109],[114,97,110,103,101],[110,111,110,101],[109,97,110,121],[102,117,108,108],[116,119,105,99,101],[116,121,112,101],[116,97,98,108,101],[99,111,108,117,109,110],[117,110,105,113,117,101],[114,101,102],[111,119,110,101,114],[119,97,105,116],[97,98,111,114,116],[99,108,111,115,101,100],[100,101,101,112],[109,101,116,104,111,100]][(0 + A.toNat)]?).bind fun D =>
    some D
    else none
theorem c6p (A:Int) (r:Str) (hf:a8d A = some r):a0a Tryz.prog 214 .flat [(.I A)] (.str r):=by
 refine a0a.of_awp mixed Tryz.func214 e9e nle ?_;rw [a0l];unfold a8d at hf;unfold e9d;refine (show awp Tryz.prog false 0 _ (ofL [(0,(.I A))]) [] _ from ?_);refine sr<|l7 (.str []) rfl<|dk<|sr<|?_;refine x9 (a0o (j:=0) (as':=[(.str [111,107]),(.str [98,97,100]),(.str [108,111,110,103]),(.str [102,111,114,109]),(.str [114,97,110,103,101]),(.str [110,111,110,101]),(.str [109,97,110,121]),(.str [102,117,108,108]),(.str [116,119,105,99,101]),(.str [116,121,112,101]),(.str [116,97,98,108,101]),(.str [99,111,108,117,109,110]),(.str [117,110,105,113,117,101]),(.str [114,101,102]),(.str [111,119,110,101,114]),(.str [119,97,105,116]),(.str [97,98,111,114,116]),(.str [99,108,111,115,101,100]),(.str [100,101,101,112]),(.str [109,101,116,104,111,100])]) rfl (fun _ => by decide) ⟨rfl,⟨rfl,⟨rfl,⟨rfl,⟨rfl,⟨rfl,⟨rfl,⟨rfl,⟨rfl,⟨rfl,⟨rfl,⟨rfl,⟨rfl,⟨rfl,⟨rfl,⟨rfl,⟨rfl,⟨rfl,⟨rfl,⟨rfl,tr⟩⟩⟩⟩⟩⟩⟩⟩⟩⟩⟩⟩⟩⟩⟩⟩⟩⟩⟩⟩ .r rfl rfl rfl) ?_
 refine l7 (.own 0 0 20) rfl<|dk<|o7<|o7<|?_
 obtain ⟨B,hb1,hf⟩:=ob hf
 refine a1s ([(0,(.I A)),(3,(.own 0 0 ([[111,107],[98,97,100],[108,111,110,103],[102,111,114,109],[114,97,110,103,101],[110,111,110,101],[109,97,110,121],[102,117,108,108],[116,119,105,99,101],[116,121,112,101],[116,97,98,108,101],[99,111,108,117,109,110],[117,110,105,113,117,101],[114,101,102],[111,119,110,101,114],[119,97,105,116],[97,98,111,114,116],[99,108,111,115,101,100],[100,101,101,112],[109,101,116,104,111,100]].length))),(12,(.bool B))],[.row 1 ([[111,107],[98,97,100],[108,111,110,103],[102,111,114,109],[114,97,110,103,101],[110,111,110,101],[109,97,110,121],[102,117,108,108],[116,119,105,99,101],[116,121,112,101],[116,97,98,108,101],[99,111,108,117,109,110],[117,110,105,113,117,101],[114,101,102],[111,119,110,101,114],[119,97,105,116],[97,98,111,114,116],[99,108,111,115,101,100],[100,101,101,112],[109,101,116,104,111,100]].map AV.str)]) ?_ ?_
 ·refine a0s ?_
  rcases oi hb1 with ⟨c6,hb1⟩ | ⟨c6,hb1⟩
  ·refine l7 (.I A) rfl<|x8 (.bool (decide (A < 0))) rfl rfl rfl<|l7 (.bool (decide (A < 0))) rfl<|a1g (s:=7) (b:=true) rfl c6<|a0d rfl rfl<|a0d rfl rfl<|a0d rfl rfl<|a0d rfl rfl<|x8 (.bool true) rfl tr rfl<|a0h<|?_;obtain rfl:=os hb1;exact ⟨[],[0],_,_,rfl,rfl,⟨.r,⟨.of_eq (congrArg (AV.own _ 0) (by simp)),⟨.r,tr⟩⟩⟩,.r⟩
  ·refine l7 (.I A) rfl<|x8 (.bool (decide (A < 0))) rfl rfl rfl<|l7 (.bool (decide (A < 0))) rfl<|a1g (s:=7) (b:=false) rfl (bf c6)<|s_on rfl<|l7 (.I A) rfl<|s_on rfl<|l7 (.own 0 0 20) rfl<|s_on rfl<|a0y (a7n rfl rfl) fun hl7 => s_on rfl<|x8 (.bool (decide (A ≥ (20:Int)))) rfl rfl rfl<|x8 (.bool (decide (A ≥ (20:Int)))) rfl tr rfl<|a0h<|?_;obtain rfl:=os hb1;exact ⟨[],[0],_,_,rfl,rfl,⟨.r,⟨.of_eq (congrArg (AV.own _ 0) (by simp)),⟨.r,tr⟩⟩⟩,.r⟩
 ·rcases oi hf with ⟨c8,hf⟩ | ⟨c8,hf⟩
  ·refine y8 rfl c8<|sr<|l7 (.str []) rfl<|dk<|a0e<|?_;obtain rfl:=os hf;exact a0g ⟨tr,tr⟩ rfl .r
  ·refine y9 rfl (bf c8)<|a0j<|a0i<|sr<|?_
   obtain ⟨g9,hf⟩:=og hf
   obtain ⟨D,ex11,hf⟩:=ob hf
   refine l7 (.own 0 0 ([[111,107],[98,97,100],[108,111,110,103],[102,111,114,109],[114,97,110,103,101],[110,111,110,101],[109,97,110,121],[102,117,108,108],[116,119,105,99,101],[116,121,112,101],[116,97,98,108,101],[99,111,108,117,109,110],[117,110,105,113,117,101],[114,101,102],[111,119,110,101,114],[119,97,105,116],[97,98,111,114,116],[99,108,111,115,101,100],[100,101,101,112],[109,101,116,104,111,100]].length)) rfl<|l7 (.I A) rfl<|x9 (a2b rfl rfl g9.1 g9.2 rfl rfl)<|x9 (a7k (enc:=AV.str) (v:=(.str D)) rfl rfl ex11 ⟨rfl,rfl⟩ rfl)<|l7 (.str D) rfl<|a0h<|?_
   refine a0i<|a0e<|?_;obtain rfl:=os hf;exact a0g ⟨tr,tr⟩ rfl .r

/- spec.l13T -/
def c213:a0m :=
 (.seq (.reg (tq 2 (.box 5 (.c (.agg [(.int .i64 0),(.int .i64 0),(.str []),.nil,.nil]))) .done))
 (.seq (.reg (tm 3 (.t 0) (tq 4 (.build [(.int .i64 0),(.int .i64 0),(.str []),.nil,.nil] [(0,1,(.c (.int .i64 3))),(2,1,(.t 3))]) (.q ⟨none,none,.store 5 (.t 2) (.t 4)⟩
 .done))))
 .ret))
theorem e9f:a1b Tryz.prog Tryz.f213 = some (c213.erase,[.load 5 true (.t 2)],5):=by kernel_rfl
def a9e (A:Str):Option o9 :=
    some (⟨3,0,A,[],[]⟩:o9)
theorem b2a (A:Str) (r:o9) (hf:a9e A = some r):a0a Tryz.prog 213 .fresh [(.str A)] (l9 r):=by
  refine a0a.of_awp mixed Tryz.func213 e9f nle ?_
  rw [a0l]
  unfold a9e at hf
  unfold c213
  refine (show awp Tryz.prog true 0 _ (ofL [(0,(.str A))]) [] _ from ?_)
  refine o7 ?_
  refine a0s ?_
  refine x9 (a1j (j:=0) (c:=(.agg [(.I 0),(.I 0),(.str []),.nil,.nil])) rfl tr rfl rfl) ?_
  refine a0h ?_
  refine a0i ?_
  refine o7 ?_
  refine a0s ?_
  refine x9 (a3p (.str A) rfl) ?_
  refine x9 (o_q (.agg [(.I 3),(.I 0),(.str A),.nil,.nil]) rfl ⟨⟨rfl,nle,tr⟩,⟨⟨rfl,nle,tr⟩,tr⟩⟩ rfl) ?_
  refine a1v (a0f (v:=(.agg [(.I 3),(.I 0),(.str A),.nil,.nil])) (y':=(.agg [(.I 3),(.I 0),(.str A),.nil,.nil])) rfl rfl rfl tr ⟨rfl,nle⟩ ⟨⟨rfl,tr⟩,⟨⟨rfl,tr⟩,⟨⟨rfl,tr⟩,⟨⟨rfl,tr⟩,⟨⟨rfl,tr⟩,tr⟩⟩⟩⟩⟩ rfl) ?_
  refine a0h ?_
  refine a0i ?_
  refine a0e ?_
  obtain rfl:=os hf
  exact a2m ⟨nle,tr⟩ rfl (by decide) (leJ (x:=(⟨3,0,A,[],[]⟩:o9)) (.agg (.cons .r (.cons .r (.cons .r (.cons (.nil _) (.cons (.nil _) .nil)))))))

end Go.R
