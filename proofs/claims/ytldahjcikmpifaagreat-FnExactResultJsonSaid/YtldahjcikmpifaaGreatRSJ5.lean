/- Walks. -/
import Derived.Test.YtldahjcikmpifaaGreatRSJ4
set_option linter.all false
namespace Go.R
open Go Go.Proofs
set_option linter.unusedVariables false
set_option linter.unusedSimpArgs false
set_option maxHeartbeats 8000000
/- laws.eqAtomS -/
def c201:a0m :=
 (.seq (.reg (tm 4 (.c (.bool false)) .done))
 (.seq (.seq (.reg (tm 6 (.t 0) (tq 7 (.len (.t 6)) (tm 8 (.t 1) (tq 9 (.len (.t 8)) (tq 10 (.bin .neq (.t 7) (.t 9)) .done))))))
 (.cond (.t 10) (.seq (.reg (tm 4 (.c (.bool false)) .done))
 .ret)
 .skip))
 (.seq (.seq (.reg (tm 5 (.c (.int .i64 0)) .done))
 (.block 0 (.loop (.seq (.seq (.reg (tm 11 (.t 5) (tm 12 (.t 0) (tq 13 (.len (.t 12)) (tq 14 (.bin .lss (.t 11) (.t 13)) .done)))))
 (.cond (.t 14) .skip
 (.exit 0)))
 (.seq (.block 1 (.seq (.reg (tm 17 (.t 0) (tm 18 (.t 5) (tq 19 (.iaddr 3 (.t 17) (.t 18)) (tq 20 (.load 3 true (.t 19)) (tm 21 (.t 1) (tm 22 (.t 5) (tq 23 (.iaddr 3 (.t 21) (.t 22)) (tq 24 (.load 3 true (.t 23)) (.l ⟨(some 25),none,.call 289 [(.t 20),(.t 24)]⟩ []
 (tq 26 (.not (.t 25)) .done) .non))))))))))
 (.cond (.t 26) (.seq (.reg (tm 4 (.c (.bool false)) .done))
 .ret)
 .skip)))
 (.reg (tm 15 (.t 5) (tq 16 (.bin .add (.t 15) (.c (.int .i64 1))) (tm 5 (.t 16) .done)))))))))
 (.cut (.seq (.reg (tm 4 (.c (.bool true)) .done))
 .ret)))))
theorem f2n:a1b Tryz.prog Tryz.f201 = some (c201.erase,[.mov (.t 4)],27):=by kernel_rfl
def a5l (D:(List a0k)):List a0k → Nat → Option (Fl Bool Unit)
  | [],A =>
    some (.go ())
  | E :: xs,A =>
    (idx D (A:Int)).bind fun F =>
    (b4r E F).bind fun G =>
    if (!G) then
    some (.ret false)
    else
    a5l D xs (A + 1)

def b3d (B:(List a0k)) (D:(List a0k)):Option Bool :=
    if ((B.length:Int) != (D.length:Int)) then
    some false
    else
    (a5l D B 0).bind fun q => (match q with
    | .ret r => some r
    | .go _ =>
    some true)
theorem c9j (B:(List a0k)) (D:(List a0k)) (r:Bool) (hf:b3d B D = some r):a0a Tryz.prog 201 .flat [(.lst 3 (B.map o6)),(.lst 3 (D.map o6))] (.bool r):=by
 refine a0a.of_awp mixed Tryz.func201 f2n nle ?_;rw [a0l];unfold b3d at hf;unfold c201;refine (show awp Tryz.prog false 0 _ (ofL [(0,(.lst 3 (B.map o6))),(1,(.lst 3 (D.map o6)))]) [] _ from ?_);refine sr<|l7 (.bool false) rfl<|dk<|o7<|sr<|l7 (.lst 3 (B.map o6)) rfl<|a0y (a1o (enc:=o6) rfl) fun hl3 => l7 (.lst 3 (D.map o6)) rfl<|a0y (a1o (enc:=o6) rfl) fun hl4 => x8 (.bool ((B.length:Int) != (D.length:Int))) rfl rfl rfl<|dk<|?_
 rcases oi hf with ⟨c5,hf⟩ | ⟨c5,hf⟩
 ·refine y8 rfl c5<|sr<|l7 (.bool false) rfl<|dk<|a0e<|?_;obtain rfl:=os hf;exact a0g ⟨tr,tr⟩ rfl .r
 ·refine y9 rfl (bf c5)<|a0j<|a0i<|o7<|sr<|l7 (.I 0) rfl<|dk<|?_
  obtain ⟨p36,hb1,hf⟩:=ob hf
  refine a3j (X:={q:Unit // p36 = .go q}) (fun q => ([],[])) ?_ ?_
  ·refine a1f (X:={q:Nat // a5l D (B.drop q) q = some p36}) (fun q => ([(0,(.lst 3 (B.map o6))),(1,(.lst 3 (D.map o6))),(5,(.I (q.1:Int)))],[])) (fun q => B.length - q.1) ⟨0,hb1⟩ ⟨[],[],_,_,rfl,rfl,⟨.r,⟨.r,⟨.r,tr⟩⟩⟩,.r⟩ ?_
   rintro ⟨A,hc1⟩
   have hc1:a5l D (B.drop A) A = some p36:=hc1
   refine (show awp Tryz.prog false 0 _ (ofL [(0,(.lst 3 (B.map o6))),(1,(.lst 3 (D.map o6))),(5,(.I (A:Int)))]) [] _ from ?_)
   rcases a5n B A with ⟨hie39,hd42⟩ | ⟨hlt37,E,hx38,hd42⟩
   ·rw [hd42,a5l.eq_1] at hc1
    have hq41:=dlf hie39
    refine o7<|sr<|l7 (.I (A:Int)) rfl<|l7 (.lst 3 (B.map o6)) rfl<|a0y (a1o (enc:=o6) rfl) fun hl44 => x8 (.bool (decide ((A:Int) < (B.length:Int)))) rfl rfl rfl<|dk<|y9 rfl hq41<|a2l<|a2k<|a1t<|a2j<|?_;obtain rfl:=os hc1;exact a6i ⟨_,rfl⟩ ⟨[],[],_,_,rfl,rfl,tr,.r⟩
   ·rw [hd42,a5l.eq_2] at hc1
    have hq41:=dlt hlt37
    refine o7<|sr<|l7 (.I (A:Int)) rfl<|l7 (.lst 3 (B.map o6)) rfl<|a0y (a1o (enc:=o6) rfl) fun hl45 => x8 (.bool (decide ((A:Int) < (B.length:Int)))) rfl rfl rfl<|dk<|y8 rfl hq41<|a0j<|a0i<|o7<|a2x<|sr<|?_
    obtain ⟨F,ex47,hc1⟩:=ob hc1
    obtain ⟨G,er49,hc1⟩:=ob hc1
    refine l7 (.lst 3 (B.map o6)) rfl<|l7 (.I (A:Int)) rfl<|x9 (a1n (enc:=o6) rfl rfl hx38)<|x8 (o6 E) rfl nle rfl<|l7 (.lst 3 (D.map o6)) rfl<|l7 (.I (A:Int)) rfl<|x9 (a6s (enc:=o6) rfl rfl (b3m ex47) (b3n ex47))<|x8 (o6 F) rfl nle rfl<|a0w (a0n (d0x _ _ _ er49) rfl .r rfl) a6n tr<|x8 (.bool (!G)) rfl tr rfl<|dk<|?_
    rcases oi hc1 with ⟨c50,hc1⟩ | ⟨c50,hc1⟩
    ·refine y8 rfl c50<|sr<|l7 (.bool false) rfl<|dk<|a0e<|?_;obtain rfl:=os hc1;obtain rfl:=os hf;exact a0g ⟨tr,tr⟩ rfl .r
    ·refine y9 rfl (bf c50)<|a0j<|a2v<|a0i<|a0s<|l7 (.I (A:Int)) rfl<|x8 (.I (w64 ((A:Int) + 1))) rfl rfl rfl<|l7 (.I (w64 ((A:Int) + 1))) rfl<|a0h<|?_;exact a1m ⟨(A + 1),hc1⟩ (mul hlt37) ⟨[],[],_,_,rfl,rfl,⟨.r,⟨.r,⟨.of_eq (congrArg (AV.int _) (a1p hlt37 hl45)),tr⟩⟩⟩,.r⟩
  ·rintro ⟨_,rfl⟩
   refine sr<|l7 (.bool true) rfl<|dk<|a0e<|?_;obtain rfl:=os hf;exact a0g ⟨tr,tr⟩ rfl .r

/- laws.eqAtomSS -/
def f2o:a0m :=
 (.seq (.reg (tm 4 (.c (.bool false)) .done))
 (.seq (.seq (.reg (tm 6 (.t 0) (tq 7 (.len (.t 6)) (tm 8 (.t 1) (tq 9 (.len (.t 8)) (tq 10 (.bin .neq (.t 7) (.t 9)) .done))))))
 (.cond (.t 10) (.seq (.reg (tm 4 (.c (.bool false)) .done))
 .ret)
 .skip))
 (.seq (.seq (.reg (tm 5 (.c (.int .i64 0)) .done))
 (.block 0 (.loop (.seq (.seq (.reg (tm 11 (.t 5) (tm 12 (.t 0) (tq 13 (.len (.t 12)) (tq 14 (.bin .lss (.t 11) (.t 13)) .done)))))
 (.cond (.t 14) .skip
 (.exit 0)))
 (.seq (.block 1 (.seq (.reg (tm 17 (.t 0) (tm 18 (.t 5) (tq 19 (.iaddr 1 (.t 17) (.t 18)) (tq 20 (.load 1 false (.t 19)) (tm 21 (.t 1) (tm 22 (.t 5) (tq 23 (.iaddr 1 (.t 21) (.t 22)) (tq 24 (.load 1 false (.t 23)) (.l ⟨(some 25),none,.call 201 [(.t 20),(.t 24)]⟩ []
 (tq 26 (.not (.t 25)) .done) .non))))))))))
 (.cond (.t 26) (.seq (.reg (tm 4 (.c (.bool false)) .done))
 .ret)
 .skip)))
 (.reg (tm 15 (.t 5) (tq 16 (.bin .add (.t 15) (.c (.int .i64 1))) (tm 5 (.t 16) .done)))))))))
 (.cut (.seq (.reg (tm 4 (.c (.bool true)) .done))
 .ret)))))
theorem f2p:a1b Tryz.prog Tryz.f100 = some (f2o.erase,[.mov (.t 4)],27):=by kernel_rfl
def a4o (D:(List (List a0k))):List (List a0k) → Nat → Option (Fl Bool Unit)
  | [],A =>
    some (.go ())
  | E :: xs,A =>
    (idx D (A:Int)).bind fun F =>
    (b3d E F).bind fun G =>
    if (!G) then
    some (.ret false)
    else
    a4o D xs (A + 1)

def b1e (B:(List (List a0k))) (D:(List (List a0k))):Option Bool :=
    if ((B.length:Int) != (D.length:Int)) then
    some false
    else
    (a4o D B 0).bind fun q => (match q with
    | .ret r => some r
    | .go _ =>
    some true)
theorem c6w (B:(List (List a0k))) (D:(List (List a0k))) (r:Bool) (hf:b1e B D = some r):a0a Tryz.prog 100 .flat [(.lst 1 (B.map (a1q 3 o6))),(.lst 1 (D.map (a1q 3 o6)))] (.bool r):=by
 refine a0a.of_awp mixed Tryz.func100 f2p nle ?_;rw [a0l];unfold b1e at hf;unfold f2o;refine (show awp Tryz.prog false 0 _ (ofL [(0,(.lst 1 (B.map (a1q 3 o6)))),(1,(.lst 1 (D.map (a1q 3 o6))))]) [] _ from ?_);refine sr<|l7 (.bool false) rfl<|dk<|o7<|sr<|l7 (.lst 1 (B.map (a1q 3 o6))) rfl<|a0y (a1o (enc:=(a1q 3 o6)) rfl) fun hl3 => l7 (.lst 1 (D.map (a1q 3 o6))) rfl<|a0y (a1o (enc:=(a1q 3 o6)) rfl) fun hl4 => x8 (.bool ((B.length:Int) != (D.length:Int))) rfl rfl rfl<|dk<|?_
 rcases oi hf with ⟨c5,hf⟩ | ⟨c5,hf⟩
 ·refine y8 rfl c5<|sr<|l7 (.bool false) rfl<|dk<|a0e<|?_;obtain rfl:=os hf;exact a0g ⟨tr,tr⟩ rfl .r
 ·refine y9 rfl (bf c5)<|a0j<|a0i<|o7<|sr<|l7 (.I 0) rfl<|dk<|?_
  obtain ⟨p36,hb1,hf⟩:=ob hf
  refine a3j (X:={q:Unit // p36 = .go q}) (fun q => ([],[])) ?_ ?_
  ·refine a1f (X:={q:Nat // a4o D (B.drop q) q = some p36}) (fun q => ([(0,(.lst 1 (B.map (a1q 3 o6)))),(1,(.lst 1 (D.map (a1q 3 o6)))),(5,(.I (q.1:Int)))],[])) (fun q => B.length - q.1) ⟨0,hb1⟩ ⟨[],[],_,_,rfl,rfl,⟨.r,⟨.r,⟨.r,tr⟩⟩⟩,.r⟩ ?_
   rintro ⟨A,hc1⟩
   have hc1:a4o D (B.drop A) A = some p36:=hc1
   refine (show awp Tryz.prog false 0 _ (ofL [(0,(.lst 1 (B.map (a1q 3 o6)))),(1,(.lst 1 (D.map (a1q 3 o6)))),(5,(.I (A:Int)))]) [] _ from ?_)
   rcases a5n B A with ⟨hie39,hd42⟩ | ⟨hlt37,E,hx38,hd42⟩
   ·rw [hd42,a4o.eq_1] at hc1
    have hq41:=dlf hie39
    refine o7<|sr<|l7 (.I (A:Int)) rfl<|l7 (.lst 1 (B.map (a1q 3 o6))) rfl<|a0y (a1o (enc:=(a1q 3 o6)) rfl) fun hl44 => x8 (.bool (decide ((A:Int) < (B.length:Int)))) rfl rfl rfl<|dk<|y9 rfl hq41<|a2l<|a2k<|a1t<|a2j<|?_;obtain rfl:=os hc1;exact a6i ⟨_,rfl⟩ ⟨[],[],_,_,rfl,rfl,tr,.r⟩
   ·rw [hd42,a4o.eq_2] at hc1
    have hq41:=dlt hlt37
    refine o7<|sr<|l7 (.I (A:Int)) rfl<|l7 (.lst 1 (B.map (a1q 3 o6))) rfl<|a0y (a1o (enc:=(a1q 3 o6)) rfl) fun hl45 => x8 (.bool (decide ((A:Int) < (B.length:Int)))) rfl rfl rfl<|dk<|y8 rfl hq41<|a0j<|a0i<|o7<|a2x<|sr<|?_
    obtain ⟨F,ex47,hc1⟩:=ob hc1
    obtain ⟨G,er49,hc1⟩:=ob hc1
    refine l7 (.lst 1 (B.map (a1q 3 o6))) rfl<|l7 (.I (A:Int)) rfl<|x9 (a1n (enc:=(a1q 3 o6)) rfl rfl hx38)<|x8 (.lst 3 (E.map o6)) rfl ⟨rfl,rfl⟩ rfl<|l7 (.lst 1 (D.map (a1q 3 o6))) rfl<|l7 (.I (A:Int)) rfl<|x9 (a6s (enc:=(a1q 3 o6)) rfl rfl (b3m ex47) (b3n ex47))<|x8 (.lst 3 (F.map o6)) rfl ⟨rfl,rfl⟩ rfl<|a0w (a0n (c9j _ _ _ er49) rfl .r rfl) a6n tr<|x8 (.bool (!G)) rfl tr rfl<|dk<|?_
    rcases oi hc1 with ⟨c50,hc1⟩ | ⟨c50,hc1⟩
    ·refine y8 rfl c50<|sr<|l7 (.bool false) rfl<|dk<|a0e<|?_;obtain rfl:=os hc1;obtain rfl:=os hf;exact a0g ⟨tr,tr⟩ rfl .r
    ·refine y9 rfl (bf c50)<|a0j<|a2v<|a0i<|a0s<|l7 (.I (A:Int)) rfl<|x8 (.I (w64 ((A:Int) + 1))) rfl rfl rfl<|l7 (.I (w64 ((A:Int) + 1))) rfl<|a0h<|?_;exact a1m ⟨(A + 1),hc1⟩ (mul hlt37) ⟨[],[],_,_,rfl,rfl,⟨.r,⟨.r,⟨.of_eq (congrArg (AV.int _) (a1p hlt37 hl45)),tr⟩⟩⟩,.r⟩
  ·rintro ⟨_,rfl⟩
   refine sr<|l7 (.bool true) rfl<|dk<|a0e<|?_;obtain rfl:=os hf;exact a0g ⟨tr,tr⟩ rfl .r

/- laws.eqRow -/
def c25:a0m :=
 (.seq (.reg (tq 2 (.box 2 (.t 0)) (tq 3 (.box 2 (.t 1)) (tm 4 (.c (.bool false)) .done))))
 (.seq (.seq (.reg (tq 5 (.faddr 0 (.t 2)) (tq 6 (.load 1 false (.t 5)) (tq 7 (.faddr 0 (.t 3)) (tq 8 (.load 1 false (.t 7)) (tq 9 (.bin .neq (.t 6) (.t 8)) .done))))))
 (.cond (.t 9) (.seq (.reg (tm 4 (.c (.bool false)) .done))
 .ret)
 .skip))
 (.seq (.seq (.reg (tq 10 (.faddr 1 (.t 2)) (tq 11 (.load 1 false (.t 10)) (tq 12 (.faddr 1 (.t 3)) (tq 13 (.load 1 false (.t 12)) (tq 14 (.call 100 [(.t 11),(.t 13)]) (tq 15 (.not (.t 14)) .done)))))))
 (.cond (.t 15) (.seq (.reg (tm 4 (.c (.bool false)) .done))
 .ret)
 .skip))
 (.seq (.reg (tm 4 (.c (.bool true)) .done))
 .ret))))
theorem f3x:a1b Tryz.prog Tryz.f25 = some (c25.erase,[.mov (.t 4)],16):=by kernel_rfl
def b6g (A:a1u) (B:a1u):Option Bool :=
    if (A.Id != B.Id) then
    some false
    else
    (b1e A.Cells B.Cells).bind fun D =>
    if (!D) then
    some false
    else
    some true
theorem d3w (A:a1u) (B:a1u) (r:Bool) (hf:b6g A B = some r):a0a Tryz.prog 25 .flat [(y5 A),(y5 B)] (.bool r):=by
 refine a0a.of_awp mixed Tryz.func25 f3x nle ?_;rw [a0l];unfold b6g at hf;unfold c25;refine (show awp Tryz.prog false 0 _ (ofL [(0,(y5 A)),(1,(y5 B))]) [] _ from ?_);refine sr<|x9 (a1j (j:=0) (c:=(.agg [(.I A.Id),(.lst 1 (A.Cells.map (a1q 3 o6)))])) rfl tr rfl rfl)<|x9 (a1j (j:=1) (c:=(.agg [(.I B.Id),(.lst 1 (B.Cells.map (a1q 3 o6)))])) rfl tr rfl rfl)<|l7 (.bool false) rfl<|dk<|o7<|sr<|x8 (.ptr 0 0 0) rfl tr rfl<|x8 (.I A.Id) rfl nle rfl<|x8 (.ptr 1 0 0) rfl tr rfl<|x8 (.I B.Id) rfl nle rfl<|x8 (.bool (A.Id != B.Id)) rfl rfl rfl<|?_
 refine dk<|?_
 rcases oi hf with ⟨c3,hf⟩ | ⟨c3,hf⟩
 ·refine y8 rfl c3<|sr<|l7 (.bool false) rfl<|dk<|a0e<|?_;obtain rfl:=os hf;exact a0g ⟨tr,tr⟩ rfl .r
 ·refine y9 rfl (bf c3)<|a0j<|a0i<|o7<|sr<|?_
  obtain ⟨D,er5,hf⟩:=ob hf
  refine x8 (.ptr 0 0 1) rfl tr rfl<|x8 (.lst 1 (A.Cells.map (a1q 3 o6))) rfl nle rfl<|x8 (.ptr 1 0 1) rfl tr rfl<|x8 (.lst 1 (B.Cells.map (a1q 3 o6))) rfl nle rfl<|x9 (a0n (c6w _ _ _ er5) rfl .r rfl)<|x8 (.bool (!D)) rfl tr rfl<|dk<|?_
  rcases oi hf with ⟨c6,hf⟩ | ⟨c6,hf⟩
  ·refine y8 rfl c6<|sr<|l7 (.bool false) rfl<|dk<|a0e<|?_;obtain rfl:=os hf;exact a0g ⟨tr,tr⟩ rfl .r
  ·refine y9 rfl (bf c6)<|a0j<|a0i<|sr<|l7 (.bool true) rfl<|dk<|a0e<|?_;obtain rfl:=os hf;exact a0g ⟨tr,tr⟩ rfl .r

/- laws.eqRowS -/
def f2r:a0m :=
 (.seq (.reg (tm 4 (.c (.bool false)) .done))
 (.seq (.seq (.reg (tm 6 (.t 0) (tq 7 (.len (.t 6)) (tm 8 (.t 1) (tq 9 (.len (.t 8)) (tq 10 (.bin .neq (.t 7) (.t 9)) .done))))))
 (.cond (.t 10) (.seq (.reg (tm 4 (.c (.bool false)) .done))
 .ret)
 .skip))
 (.seq (.seq (.reg (tm 5 (.c (.int .i64 0)) .done))
 (.block 0 (.loop (.seq (.seq (.reg (tm 11 (.t 5) (tm 12 (.t 0) (tq 13 (.len (.t 12)) (tq 14 (.bin .lss (.t 11) (.t 13)) .done)))))
 (.cond (.t 14) .skip
 (.exit 0)))
 (.seq (.block 1 (.seq (.reg (tm 17 (.t 0) (tm 18 (.t 5) (tq 19 (.iaddr 2 (.t 17) (.t 18)) (tq 20 (.load 2 true (.t 19)) (tm 21 (.t 1) (tm 22 (.t 5) (tq 23 (.iaddr 2 (.t 21) (.t 22)) (tq 24 (.load 2 true (.t 23)) (.l ⟨(some 25),none,.call 25 [(.t 20),(.t 24)]⟩ []
 (tq 26 (.not (.t 25)) .done) .non))))))))))
 (.cond (.t 26) (.seq (.reg (tm 4 (.c (.bool false)) .done))
 .ret)
 .skip)))
 (.reg (tm 15 (.t 5) (tq 16 (.bin .add (.t 15) (.c (.int .i64 1))) (tm 5 (.t 16) .done)))))))))
 (.cut (.seq (.reg (tm 4 (.c (.bool true)) .done))
 .ret)))))
theorem f2s:a1b Tryz.prog Tryz.f125 = some (f2r.erase,[.mov (.t 4)],27):=by kernel_rfl
def a5z (D:(List a1u)):List a1u → Nat → Option (Fl Bool Unit)
  | [],A =>
    some (.go ())
  | E :: xs,A =>
    (idx D (A:Int)).bind fun F =>
    (b6g E F).bind fun G =>
    if (!G) then
    some (.ret false)
    else
    a5z D xs (A + 1)

def b4s (B:(List a1u)) (D:(List a1u)):Option Bool :=
    if ((B.length:Int) != (D.length:Int)) then
    some false
    else
    (a5z D B 0).bind fun q => (match q with
    | .ret r => some r
    | .go _ =>
    some true)
theorem d0y (B:(List a1u)) (D:(List a1u)) (r:Bool) (hf:b4s B D = some r):a0a Tryz.prog 125 .flat [(.lst 2 (B.map y5)),(.lst 2 (D.map y5))] (.bool r):=by
 refine a0a.of_awp mixed Tryz.func125 f2s nle ?_;rw [a0l];unfold b4s at hf;unfold f2r;refine (show awp Tryz.prog false 0 _ (ofL [(0,(.lst 2 (B.map y5))),(1,(.lst 2 (D.map y5)))]) [] _ from ?_);refine sr<|l7 (.bool false) rfl<|dk<|o7<|sr<|l7 (.lst 2 (B.map y5)) rfl<|a0y (a1o (enc:=y5) rfl) fun hl3 => l7 (.lst 2 (D.map y5)) rfl<|a0y (a1o (enc:=y5) rfl) fun hl4 => x8 (.bool ((B.length:Int) != (D.length:Int))) rfl rfl rfl<|dk<|?_
 rcases oi hf with ⟨c5,hf⟩ | ⟨c5,hf⟩
 ·refine y8 rfl c5<|sr<|l7 (.bool false) rfl<|dk<|a0e<|?_;obtain rfl:=os hf;exact a0g ⟨tr,tr⟩ rfl .r
 ·refine y9 rfl (bf c5)<|a0j<|a0i<|o7<|sr<|l7 (.I 0) rfl<|dk<|?_
  obtain ⟨p36,hb1,hf⟩:=ob hf
  refine a3j (X:={q:Unit // p36 = .go q}) (fun q => ([],[])) ?_ ?_
  ·refine a1f (X:={q:Nat // a5z D (B.drop q) q = some p36}) (fun q => ([(0,(.lst 2 (B.map y5))),(1,(.lst 2 (D.map y5))),(5,(.I (q.1:Int)))],[])) (fun q => B.length - q.1) ⟨0,hb1⟩ ⟨[],[],_,_,rfl,rfl,⟨.r,⟨.r,⟨.r,tr⟩⟩⟩,.r⟩ ?_
   rintro ⟨A,hc1⟩
   have hc1:a5z D (B.drop A) A = some p36:=hc1
   refine (show awp Tryz.prog false 0 _ (ofL [(0,(.lst 2 (B.map y5))),(1,(.lst 2 (D.map y5))),(5,(.I (A:Int)))]) [] _ from ?_)
   rcases a5n B A with ⟨hie39,hd42⟩ | ⟨hlt37,E,hx38,hd42⟩
   ·rw [hd42,a5z.eq_1] at hc1
    have hq41:=dlf hie39
    refine o7<|sr<|l7 (.I (A:Int)) rfl<|l7 (.lst 2 (B.map y5)) rfl<|a0y (a1o (enc:=y5) rfl) fun hl44 => x8 (.bool (decide ((A:Int) < (B.length:Int)))) rfl rfl rfl<|dk<|y9 rfl hq41<|a2l<|a2k<|a1t<|a2j<|?_;obtain rfl:=os hc1;exact a6i ⟨_,rfl⟩ ⟨[],[],_,_,rfl,rfl,tr,.r⟩
   ·rw [hd42,a5z.eq_2] at hc1
    have hq41:=dlt hlt37
    refine o7<|sr<|l7 (.I (A:Int)) rfl<|l7 (.lst 2 (B.map y5)) rfl<|a0y (a1o (enc:=y5) rfl) fun hl45 => x8 (.bool (decide ((A:Int) < (B.length:Int)))) rfl rfl rfl<|dk<|y8 rfl hq41<|a0j<|a0i<|o7<|a2x<|sr<|?_
    obtain ⟨F,ex47,hc1⟩:=ob hc1
    obtain ⟨G,er49,hc1⟩:=ob hc1
    refine l7 (.lst 2 (B.map y5)) rfl<|l7 (.I (A:Int)) rfl<|x9 (a1n (enc:=y5) rfl rfl hx38)<|x8 (y5 E) rfl nle rfl<|l7 (.lst 2 (D.map y5)) rfl<|l7 (.I (A:Int)) rfl<|x9 (a6s (enc:=y5) rfl rfl (b3m ex47) (b3n ex47))<|x8 (y5 F) rfl nle rfl<|a0w (a0n (d3w _ _ _ er49) rfl .r rfl) a6n tr<|x8 (.bool (!G)) rfl tr rfl<|dk<|?_
    rcases oi hc1 with ⟨c50,hc1⟩ | ⟨c50,hc1⟩
    ·refine y8 rfl c50<|sr<|l7 (.bool false) rfl<|dk<|a0e<|?_;obtain rfl:=os hc1;obtain rfl:=os hf;exact a0g ⟨tr,tr⟩ rfl .r
    ·refine y9 rfl (bf c50)<|a0j<|a2v<|a0i<|a0s<|l7 (.I (A:Int)) rfl<|x8 (.I (w64 ((A:Int) + 1))) rfl rfl rfl<|l7 (.I (w64 ((A:Int) + 1))) rfl<|a0h<|?_;exact a1m ⟨(A + 1),hc1⟩ (mul hlt37) ⟨[],[],_,_,rfl,rfl,⟨.r,⟨.r,⟨.of_eq (congrArg (AV.int _) (a1p hlt37 hl45)),tr⟩⟩⟩,.r⟩
  ·rintro ⟨_,rfl⟩
   refine sr<|l7 (.bool true) rfl<|dk<|a0e<|?_;obtain rfl:=os hf;exact a0g ⟨tr,tr⟩ rfl .r

/- laws.eqResult -/
def c45:a0m :=
 (.seq (.reg (tq 2 (.box 5 (.t 0)) (tq 3 (.box 5 (.t 1)) (tm 4 (.c (.bool false)) .done))))
 (.seq (.seq (.reg (tq 5 (.faddr 0 (.t 2)) (tq 6 (.load 1 false (.t 5)) (tq 7 (.faddr 0 (.t 3)) (tq 8 (.load 1 false (.t 7)) (tq 9 (.bin .neq (.t 6) (.t 8)) .done))))))
 (.cond (.t 9) (.seq (.reg (tm 4 (.c (.bool false)) .done))
 .ret)
 .skip))
 (.seq (.seq (.reg (tq 10 (.faddr 1 (.t 2)) (tq 11 (.load 1 false (.t 10)) (tq 12 (.faddr 1 (.t 3)) (tq 13 (.load 1 false (.t 12)) (tq 14 (.bin .neq (.t 11) (.t 13)) .done))))))
 (.cond (.t 14) (.seq (.reg (tm 4 (.c (.bool false)) .done))
 .ret)
 .skip))
 (.seq (.seq (.reg (tq 15 (.faddr 2 (.t 2)) (tq 16 (.load 1 false (.t 15)) (tq 17 (.faddr 2 (.t 3)) (tq 18 (.load 1 false (.t 17)) (tq 19 (.bin .neq (.t 16) (.t 18)) .done))))))
 (.cond (.t 19) (.seq (.reg (tm 4 (.c (.bool false)) .done))
 .ret)
 .skip))
 (.seq (.seq (.reg (tq 20 (.faddr 3 (.t 2)) (tq 21 (.load 1 false (.t 20)) (tq 22 (.faddr 3 (.t 3)) (tq 23 (.load 1 false (.t 22)) (tq 24 (.call 24 [(.t 21),(.t 23)]) (tq 25 (.not (.t 24)) .done)))))))
 (.cond (.t 25) (.seq (.reg (tm 4 (.c (.bool false)) .done))
 .ret)
 .skip))
 (.seq (.seq (.reg (tq 26 (.faddr 4 (.t 2)) (tq 27 (.load 1 false (.t 26)) (tq 28 (.faddr 4 (.t 3)) (tq 29 (.load 1 false (.t 28)) (tq 30 (.call 125 [(.t 27),(.t 29)]) (tq 31 (.not (.t 30)) .done)))))))
 (.cond (.t 31) (.seq (.reg (tm 4 (.c (.bool false)) .done))
 .ret)
 .skip))
 (.seq (.reg (tm 4 (.c (.bool true)) .done))
 .ret)))))))
theorem f3y:a1b Tryz.prog Tryz.f45 = some (c45.erase,[.mov (.t 4)],32):=by kernel_rfl
def b1f (A:a1i) (B:a1i):Option Bool :=
    if (A.Code != B.Code) then
    some false
    else
    if (A.Count != B.Count) then
    some false
    else
    if (A.Id != B.Id) then
    some false
    else
    (a8o A.Columns B.Columns).bind fun D =>
    if (!D) then
    some false
    else
    (b4s A.Rows B.Rows).bind fun E =>
    if (!E) then
    some false
    else
    some true
theorem c6x (A:a1i) (B:a1i) (r:Bool) (hf:b1f A B = some r):a0a Tryz.prog 45 .flat [(a2c A),(a2c B)] (.bool r):=by
 refine a0a.of_awp mixed Tryz.func45 f3y nle ?_;rw [a0l];unfold b1f at hf;unfold c45;refine (show awp Tryz.prog false 0 _ (ofL [(0,(a2c A)),(1,(a2c B))]) [] _ from ?_);refine sr<|x9 (a1j (j:=0) (c:=(.agg [(.I A.Code),(.I A.Count),(.I A.Id),(.lst 1 (A.Columns.map AV.str)),(.lst 2 (A.Rows.map y5))])) rfl tr rfl rfl)<|x9 (a1j (j:=1) (c:=(.agg [(.I B.Code),(.I B.Count),(.I B.Id),(.lst 1 (B.Columns.map AV.str)),(.lst 2 (B.Rows.map y5))])) rfl tr rfl rfl)<|l7 (.bool false) rfl<|dk<|o7<|sr<|x8 (.ptr 0 0 0) rfl tr rfl<|?_
 refine x8 (.I A.Code) rfl nle rfl<|x8 (.ptr 1 0 0) rfl tr rfl<|x8 (.I B.Code) rfl nle rfl<|x8 (.bool (A.Code != B.Code)) rfl rfl rfl<|dk<|?_
 rcases oi hf with ⟨c3,hf⟩ | ⟨c3,hf⟩
 ·refine y8 rfl c3<|sr<|l7 (.bool false) rfl<|dk<|a0e<|?_;obtain rfl:=os hf;exact a0g ⟨tr,tr⟩ rfl .r
 ·refine y9 rfl (bf c3)<|a0j<|a0i<|o7<|sr<|x8 (.ptr 0 0 1) rfl tr rfl<|x8 (.I A.Count) rfl nle rfl<|x8 (.ptr 1 0 1) rfl tr rfl<|x8 (.I B.Count) rfl nle rfl<|x8 (.bool (A.Count != B.Count)) rfl rfl rfl<|dk<|?_
  rcases oi hf with ⟨c4,hf⟩ | ⟨c4,hf⟩
  ·refine y8 rfl c4<|sr<|l7 (.bool false) rfl<|dk<|a0e<|?_;obtain rfl:=os hf;exact a0g ⟨tr,tr⟩ rfl .r
  ·refine y9 rfl (bf c4)<|a0j<|a0i<|o7<|sr<|x8 (.ptr 0 0 2) rfl tr rfl<|x8 (.I A.Id) rfl nle rfl<|x8 (.ptr 1 0 2) rfl tr rfl<|x8 (.I B.Id) rfl nle rfl<|x8 (.bool (A.Id != B.Id)) rfl rfl rfl<|dk<|?_
   rcases oi hf with ⟨c5,hf⟩ | ⟨c5,hf⟩
   ·refine y8 rfl c5<|sr<|l7 (.bool false) rfl<|dk<|a0e<|?_;obtain rfl:=os hf;exact a0g ⟨tr,tr⟩ rfl .r
   ·refine y9 rfl (bf c5)<|a0j<|a0i<|o7<|sr<|?_
    obtain ⟨D,er7,hf⟩:=ob hf
    refine x8 (.ptr 0 0 3) rfl tr rfl<|x8 (.lst 1 (A.Columns.map AV.str)) rfl nle rfl<|x8 (.ptr 1 0 3) rfl tr rfl<|x8 (.lst 1 (B.Columns.map AV.str)) rfl nle rfl<|x9 (a0n (b7o _ _ _ er7) rfl .r rfl)<|x8 (.bool (!D)) rfl tr rfl<|dk<|?_
    rcases oi hf with ⟨c8,hf⟩ | ⟨c8,hf⟩
    ·refine y8 rfl c8<|sr<|l7 (.bool false) rfl<|dk<|a0e<|?_;obtain rfl:=os hf;exact a0g ⟨tr,tr⟩ rfl .r
    ·refine y9 rfl (bf c8)<|a0j<|a0i<|o7<|sr<|?_
     obtain ⟨E,er10,hf⟩:=ob hf
     refine x8 (.ptr 0 0 4) rfl tr rfl<|x8 (.lst 2 (A.Rows.map y5)) rfl nle rfl<|x8 (.ptr 1 0 4) rfl tr rfl<|x8 (.lst 2 (B.Rows.map y5)) rfl nle rfl<|x9 (a0n (d0y _ _ _ er10) rfl .r rfl)<|x8 (.bool (!E)) rfl tr rfl<|dk<|?_
     rcases oi hf with ⟨c11,hf⟩ | ⟨c11,hf⟩
     ·refine y8 rfl c11<|sr<|l7 (.bool false) rfl<|dk<|a0e<|?_;obtain rfl:=os hf;exact a0g ⟨tr,tr⟩ rfl .r
     ·refine y9 rfl (bf c11)<|a0j<|a0i<|sr<|l7 (.bool true) rfl<|dk<|a0e<|?_;obtain rfl:=os hf;exact a0g ⟨tr,tr⟩ rfl .r

/- laws.markText -/
def f2t:a0m :=
 (.seq (.reg (tm 2 (.c (.str [])) .done))
 (.seq (.seq (.reg (tm 4 (.t 0) (tq 5 (.bin .leq (.t 4) (.c (.int .i64 0))) .done)))
 (.cond (.t 5) (.seq (.reg (tm 2 (.c (.str [109,48])) .done))
 .ret)
 .skip))
 (.seq (.reg (tm 3 (.c (.str [])) .done))
 (.seq (.block 0 (.loop (.seq (.seq (.reg (tm 6 (.t 0) (tq 7 (.bin .gtr (.t 6) (.c (.int .i64 0))) .done)))
 (.cond (.t 7) .skip
 (.exit 0)))
 (.block 1 (.seq (.reg (tm 8 (.t 0) (tq 9 (.bin .rem (.t 8) (.c (.int .i64 10))) (tq 10 (.bin .add (.c (.int .i64 48)) (.t 9)) (tq 11 (.convI .u8 (.t 10)) (tq 12 (.bslice 1 [(.t 11)]) (tq 13 (.convBS (.t 12)) (tm 14 (.t 3) (tq 15 (.bin .add (.t 13) (.t 14)) (tm 3 (.t 15) .done))))))))))
 (.reg (tm 16 (.t 0) (tq 17 (.bin .quo (.t 16) (.c (.int .i64 10))) (tm 0 (.t 17) .done)))))))))
 (.cut (.seq (.reg (tm 18 (.t 3) (tq 19 (.bin .add (.c (.str [109])) (.t 18)) (tm 2 (.t 19) .done))))
 .ret))))))
theorem f2u:a1b Tryz.prog Tryz.f101 = some (f2t.erase,[.mov (.t 2)],20):=by kernel_rfl
def a4p :Nat → Int → Str → Option Str
  | 0,_,_ => none
  | k + 1,A,B =>
    if (decide (A > 0)) then
    if (d5y [IntKind.u8.wrap (w64 (48 + (A.tmod 10)))]).length + B.length ≤ maxLen then
    a4p k (w64 (A.tdiv 10)) ((d5y [IntKind.u8.wrap (w64 (48 + (A.tmod 10)))]) ++ B)
    else none
    else
    some B

def a4y (E:Int):Option Str :=
    if (decide (E ≤ 0)) then
    some [109,48]
    else
    (a4p FUEL E []).bind fun D =>
    if [109].length + D.length ≤ maxLen then
    some ([109] ++ D)
    else none
theorem a8y (E:Int) (r:Str) (hf:a4y E = some r):a0a Tryz.prog 101 .flat [(.I E)] (.str r):=by
 refine a0a.of_awp mixed Tryz.func101 f2u nle ?_;rw [a0l];unfold a4y at hf;unfold f2t;refine (show awp Tryz.prog false 0 _ (ofL [(0,(.I E))]) [] _ from ?_);refine sr<|l7 (.str []) rfl<|dk<|o7<|sr<|l7 (.I E) rfl<|x8 (.bool (decide (E ≤ 0))) rfl rfl rfl<|dk<|?_
 rcases oi hf with ⟨c2,hf⟩ | ⟨c2,hf⟩
 ·refine y8 rfl c2<|sr<|l7 (.str [109,48]) rfl<|dk<|a0e<|?_;obtain rfl:=os hf;exact a0g ⟨tr,tr⟩ rfl .r
 ·refine y9 rfl (bf c2)<|a0j<|a0i<|sr<|l7 (.str []) rfl<|dk<|o7<|?_
  obtain ⟨D,hb1,hf⟩:=ob hf
  refine a1s ([(3,(.str D))],[]) ?_ ?_
  ·refine a1f (X:={q:(Nat × Int × Str) // a4p q.1 q.2.1 q.2.2 = some D}) (fun q => ([(0,(.I q.1.2.1)),(3,(.str q.1.2.2))],[])) (fun q => q.1.1) ⟨(FUEL,E,[]),hb1⟩ ⟨[],[],_,_,rfl,rfl,⟨.r,⟨.r,tr⟩⟩,.r⟩ ?_
   rintro ⟨⟨k,A,B⟩,hc1⟩
   have hc1:a4p k A B = some D:=hc1
   refine (show awp Tryz.prog false 0 _ (ofL [(0,(.I A)),(3,(.str B))]) [] _ from ?_)
   rcases k with _ | k
   ·rw [a4p.eq_1] at hc1
    cases hc1
   ·rw [a4p.eq_2] at hc1;refine o7<|sr<|l7 (.I A) rfl<|x8 (.bool (decide (A > 0))) rfl rfl rfl<|dk<|?_
    rcases oi hc1 with ⟨c15,hc1⟩ | ⟨c15,hc1⟩
    ·refine y8 rfl c15<|a0j<|a0i<|a2x<|sr<|?_
     obtain ⟨g16,hc1⟩:=og hc1
     refine l7 (.I A) rfl<|x8 (.I (A.tmod 10)) rfl ⟨rfl,by decide⟩ rfl<|x8 (.I (w64 (48 + (A.tmod 10)))) rfl rfl rfl<|x8 (.int .u8 (IntKind.u8.wrap (w64 (48 + (A.tmod 10))))) rfl tr rfl<|?_;refine x9 (a0o (j:=0) (as':=[(.int .u8 (IntKind.u8.wrap (w64 (48 + (A.tmod 10)))))]) rfl (fun _ => by decide) ⟨rfl,tr⟩ .r rfl rfl rfl) ?_;refine x9 (e0p (l:=[IntKind.u8.wrap (w64 (48 + (A.tmod 10)))]) rfl rfl (by simp))<|l7 (.str B) rfl<|x8 (.str ((d5y [IntKind.u8.wrap (w64 (48 + (A.tmod 10)))]) ++ B)) rfl g16 rfl<|l7 (.str ((d5y [IntKind.u8.wrap (w64 (48 + (A.tmod 10)))]) ++ B)) rfl<|dk<|a0s<|l7 (.I A) rfl<|?_
     refine x8 (.I (w64 (A.tdiv 10))) rfl ⟨rfl,by decide⟩ rfl<|l7 (.I (w64 (A.tdiv 10))) rfl<|a0h<|a2v<|?_;exact a1m ⟨(k,w64 (A.tdiv 10),(d5y [IntKind.u8.wrap (w64 (48 + (A.tmod 10)))]) ++ B),hc1⟩ (Nat.lt_succ_self _) ⟨[],[],_,_,rfl,rfl,⟨.r,⟨.r,tr⟩⟩,.r⟩
    ·refine y9 rfl (bf c15)<|a2l<|a2k<|a1t<|a2j<|?_;obtain rfl:=os hc1;exact ⟨[],[],_,_,rfl,rfl,⟨.r,tr⟩,.r⟩
  ·refine sr<|?_
   obtain ⟨g17,hf⟩:=og hf
   refine l7 (.str D) rfl<|x8 (.str ([109] ++ D)) rfl g17 rfl<|l7 (.str ([109] ++ D)) rfl<|dk<|a0e<|?_;obtain rfl:=os hf;exact a0g ⟨tr,tr⟩ rfl .r

/- laws.markStringS -/
def e3p:a0m :=
 (.seq (.reg (tm 4 (.c (.int .i64 0)) .done))
 (.seq (.seq (.reg (tm 5 (.c (.int .i64 0)) .done))
 (.block 0 (.loop (.seq (.seq (.reg (tm 6 (.t 5) (tm 7 (.t 0) (tq 8 (.len (.t 7)) (tq 9 (.bin .lss (.t 6) (.t 8)) .done)))))
 (.cond (.t 9) .skip
 (.exit 0)))
 (.seq (.block 1 (.seq (.reg (tm 12 (.t 0) (tm 13 (.t 5) (tm 14 (.t 1) (tq 15 (.call 101 [(.t 14)]) (tq 16 (.iaddr 1 (.t 12) (.t 13)) (.q ⟨none,none,.store 1 (.t 16) (.t 15)⟩
 .done)))))))
 (.reg (tm 17 (.t 1) (tq 18 (.bin .add (.t 17) (.c (.int .i64 1))) (tm 1 (.t 18) .done))))))
 (.reg (tm 10 (.t 5) (tq 11 (.bin .add (.t 10) (.c (.int .i64 1))) (tm 5 (.t 11) .done)))))))))
 (.cut (.seq (.reg (tm 19 (.t 1) (tm 4 (.t 19) .done)))
 .ret))))
theorem e5q:a1b Tryz.prog Tryz.f26 = some (e3p.erase,[.mov (.t 4)],20):=by kernel_rfl
def a3f :Nat → Int → Int → (List Str) → Option (Int × (List Str))
  | 0,_,_,_ => none
  | k + 1,D,A,B =>
    if (decide (A < (B.length:Int))) then
    (a4y D).bind fun F =>
    if (0:Int) ≤ A ∧ A < (B.length:Int) then
    (B[(0 + A.toNat)]?).bind fun K =>
    a3f k (w64 (D + 1)) (w64 (A + 1)) (B.set (0 + A.toNat) F)
    else none
    else
    some (D,B)

def a6q (E:(List Str)) (G:Int):Option (Int × (List Str)) :=
    (a3f FUEL G 0 E).bind fun p60 =>
    (match p60 with
    | (H,J) =>
    some (H,J))
theorem b1r (E:(List Str)) (G:Int) (r:(Int × (List Str))) (hf:a6q E G = some r):a0v Tryz.prog ⟨true,true,false⟩ 26 [(.own 0 0 E.length),(.I G)] [.row 1 (E.map AV.str)] (.I r.1) [.row 1 (r.2.map AV.str)]:=by
 refine a0v.of_awp mixed Tryz.func26 e5q nle ?_;rw [a0l];unfold a6q at hf;unfold e3p;refine (show awp Tryz.prog ⟨true,true,false⟩ 1 _ (ofL [(0,(.own 0 0 E.length)),(1,(.I G))]) [.row 1 (E.map AV.str)] _ from ?_);refine sr<|l7 (.I 0) rfl<|dk<|o7<|sr<|l7 (.I 0) rfl<|dk<|?_
 obtain ⟨p60,hb1,hf⟩:=ob hf
 refine a1s ([(1,(.I p60.1))],[.row 1 (p60.2.map AV.str)]) ?_ ?_
 ·refine a1f (X:={q:(Nat × Int × Int × (List Str)) // a3f q.1 q.2.1 q.2.2.1 q.2.2.2 = some p60}) (fun q => ([(0,(.own 0 0 q.1.2.2.2.length)),(1,(.I q.1.2.1)),(5,(.I q.1.2.2.1))],[.row 1 (q.1.2.2.2.map AV.str)])) (fun q => q.1.1) ⟨(FUEL,G,0,E),hb1⟩ ⟨[],[0],_,_,rfl,rfl,⟨.r,⟨.r,⟨.r,tr⟩⟩⟩,.r⟩ ?_
  rintro ⟨⟨k,D,A,B⟩,hc1⟩
  have hc1:a3f k D A B = some p60:=hc1
  refine (show awp Tryz.prog ⟨true,true,false⟩ 1 _ (ofL [(0,(.own 0 0 B.length)),(1,(.I D)),(5,(.I A))]) [.row 1 (B.map AV.str)] _ from ?_)
  rcases k with _ | k
  ·rw [a3f.eq_1] at hc1
   cases hc1
  ·rw [a3f.eq_2] at hc1;refine o7<|sr<|l7 (.I A) rfl<|l7 (.own 0 0 B.length) rfl<|a0y (a7n rfl rfl) fun hl61 => x8 (.bool (decide (A < (B.length:Int)))) rfl (.of rfl tr) rfl<|dk<|?_
   rcases oi hc1 with ⟨c62,hc1⟩ | ⟨c62,hc1⟩
   ·refine y8 rfl c62<|a0j<|a0i<|o7<|a2x<|sr<|?_
    obtain ⟨F,er64,hc1⟩:=ob hc1
    obtain ⟨g65,hc1⟩:=og hc1
    obtain ⟨K,ex67,hc1⟩:=ob hc1
    refine l7 (.own 0 0 B.length) rfl<|l7 (.I A) rfl<|l7 (.I D) rfl<|x9 (a0n (a8y _ _ er64) rfl .r rfl)<|x9 (a2b rfl rfl g65.1 g65.2 rfl rfl)<|?_;refine a1v (a6o (v':=(.str F)) (e':=F) rfl rfl ex67 rfl rfl rfl (by decide) (fun _ => by decide) ⟨rfl,rfl,rfl⟩ .r rfl) ?_;refine dk<|a0s<|l7 (.I D) rfl<|x8 (.I (w64 (D + 1))) rfl (.of rfl tr) rfl<|l7 (.I (w64 (D + 1))) rfl<|a0h<|a2v<|a0i<|a0s<|l7 (.I A) rfl<|x8 (.I (w64 (A + 1))) rfl (.of rfl tr) rfl<|l7 (.I (w64 (A + 1))) rfl<|a0h<|?_;exact a1m ⟨(k,w64 (D + 1),w64 (A + 1),B.set (0 + A.toNat) F),hc1⟩ (Nat.lt_succ_self _) ⟨[],[0],_,_,rfl,rfl,⟨.of_eq (congrArg (AV.own _ 0) (by simp)),⟨.r,⟨.r,tr⟩⟩⟩,.r⟩
   ·refine y9 rfl (bf c62)<|a2l<|a2k<|a1t<|a2j<|?_;obtain rfl:=os hc1;exact ⟨[],[0],_,_,rfl,rfl,⟨.r,tr⟩,.r⟩
 ·obtain ⟨H,J⟩:=p60
  refine sr<|l7 (.I H) rfl<|l7 (.I H) rfl<|dk<|a0e<|?_;obtain rfl:=os hf;exact a7b [] [0] rfl ⟨.of tr tr,tr⟩ rfl .r .r

/- laws.markAtomS -/
def d9r:a0m :=
 (.seq (.reg (tm 4 (.c (.int .i64 0)) .done))
 (.seq (.seq (.reg (tm 5 (.c (.int .i64 0)) .done))
 (.block 0 (.loop (.seq (.seq (.reg (tm 6 (.t 5) (tm 7 (.t 0) (tq 8 (.len (.t 7)) (tq 9 (.bin .lss (.t 6) (.t 8)) .done)))))
 (.cond (.t 9) .skip
 (.exit 0)))
 (.seq (.block 1 (.seq (.reg (tm 12 (.t 0) (tm 13 (.t 5) (tm 14 (.t 1) (tq 15 (.iaddr 3 (.t 12) (.t 13)) (tq 16 (.faddr 0 (.t 15)) (.q ⟨none,none,.store 1 (.t 16) (.t 14)⟩
 .done)))))))
 (.seq (.reg (tm 17 (.t 1) (tq 18 (.bin .add (.t 17) (.c (.int .i64 1))) (tm 1 (.t 18) .done))))
 (.seq (.reg (tm 19 (.t 0) (tm 20 (.t 5) (tm 21 (.t 1) (tq 22 (.iaddr 3 (.t 19) (.t 20)) (tq 23 (.faddr 1 (.t 22)) (.q ⟨none,none,.store 1 (.t 23) (.t 21)⟩
 .done)))))))
 (.seq (.reg (tm 24 (.t 1) (tq 25 (.bin .add (.t 24) (.c (.int .i64 1))) (tm 1 (.t 25) .done))))
 (.seq (.reg (tm 26 (.t 0) (tm 27 (.t 5) (tm 28 (.t 1) (tq 29 (.call 101 [(.t 28)]) (tq 30 (.iaddr 3 (.t 26) (.t 27)) (tq 31 (.faddr 2 (.t 30)) (.q ⟨none,none,.store 1 (.t 31) (.t 29)⟩
 .done))))))))
 (.reg (tm 32 (.t 1) (tq 33 (.bin .add (.t 32) (.c (.int .i64 1))) (tm 1 (.t 33) .done))))))))))
 (.reg (tm 10 (.t 5) (tq 11 (.bin .add (.t 10) (.c (.int .i64 1))) (tm 5 (.t 11) .done)))))))))
 (.cut (.seq (.reg (tm 34 (.t 1) (tm 4 (.t 34) .done)))
 .ret))))
theorem e3q:a1b Tryz.prog Tryz.f202 = some (d9r.erase,[.mov (.t 4)],35):=by kernel_rfl
def a3y :Nat → Int → Int → (List a0k) → Option (Int × (List a0k))
  | 0,_,_,_ => none
  | k + 1,A,B,D =>
    if (decide (B < (D.length:Int))) then
    if (0:Int) ≤ B ∧ B < (D.length:Int) then
    (D[(0 + B.toNat)]?).bind fun E =>
    if (0:Int) ≤ B ∧ B < (D.length:Int) then
    (a4y (w64 ((w64 (A + 1)) + 1))).bind fun G =>
    if (0:Int) ≤ B ∧ B < (D.length:Int) then
    a3y k (w64 ((w64 ((w64 (A + 1)) + 1)) + 1)) (w64 (B + 1)) (((D.set (0 + B.toNat) (⟨A,E.N,E.T⟩:a0k)).set (0 + B.toNat) (⟨A,w64 (A + 1),E.T⟩:a0k)).set (0 + B.toNat) (⟨A,w64 (A + 1),G⟩:a0k))
    else none
    else none
    else none
    else
    some (A,D)

def b0a (F:(List a0k)) (H:Int):Option (Int × (List a0k)) :=
    (a3y FUEL H 0 F).bind fun p72 =>
    (match p72 with
    | (J,K) =>
    some (J,K))
theorem c4w (F:(List a0k)) (H:Int) (r:(Int × (List a0k))) (hf:b0a F H = some r):a0v Tryz.prog ⟨true,true,false⟩ 202 [(.own 0 0 F.length),(.I H)] [.row 3 (F.map o6)] (.I r.1) [.row 3 (r.2.map o6)]:=by
 refine a0v.of_awp mixed Tryz.func202 e3q nle ?_;rw [a0l];unfold b0a at hf;unfold d9r;refine (show awp Tryz.prog ⟨true,true,false⟩ 1 _ (ofL [(0,(.own 0 0 F.length)),(1,(.I H))]) [.row 3 (F.map o6)] _ from ?_);refine sr<|l7 (.I 0) rfl<|dk<|o7<|sr<|l7 (.I 0) rfl<|dk<|?_
 obtain ⟨p72,hb1,hf⟩:=ob hf
 refine a1s ([(1,(.I p72.1))],[.row 3 (p72.2.map o6)]) ?_ ?_
 ·refine a1f (X:={q:(Nat × Int × Int × (List a0k)) // a3y q.1 q.2.1 q.2.2.1 q.2.2.2 = some p72}) (fun q => ([(0,(.own 0 0 q.1.2.2.2.length)),(1,(.I q.1.2.1)),(5,(.I q.1.2.2.1))],[.row 3 (q.1.2.2.2.map o6)])) (fun q => q.1.1) ⟨(FUEL,H,0,F),hb1⟩ ⟨[],[0],_,_,rfl,rfl,⟨.r,⟨.r,⟨.r,tr⟩⟩⟩,.r⟩ ?_
  rintro ⟨⟨k,A,B,D⟩,hc1⟩
  have hc1:a3y k A B D = some p72:=hc1
  refine (show awp Tryz.prog ⟨true,true,false⟩ 1 _ (ofL [(0,(.own 0 0 D.length)),(1,(.I A)),(5,(.I B))]) [.row 3 (D.map o6)] _ from ?_)
  rcases k with _ | k
  ·rw [a3y.eq_1] at hc1
   cases hc1
  ·rw [a3y.eq_2] at hc1;refine o7<|sr<|l7 (.I B) rfl<|l7 (.own 0 0 D.length) rfl<|a0y (a7n rfl rfl) fun hl73 => x8 (.bool (decide (B < (D.length:Int)))) rfl (.of rfl tr) rfl<|dk<|?_
   rcases oi hc1 with ⟨c74,hc1⟩ | ⟨c74,hc1⟩
   ·refine y8 rfl c74<|a0j<|a0i<|o7<|a2x<|sr<|?_
    obtain ⟨g75,hc1⟩:=og hc1
    obtain ⟨E,ex77,hc1⟩:=ob hc1
    refine l7 (.own 0 0 D.length) rfl<|l7 (.I B) rfl<|l7 (.I A) rfl<|x9 (a2b rfl rfl g75.1 g75.2 rfl rfl)<|x8 (.ptr 0 (0 + B.toNat) 0) rfl (.of tr tr) rfl<|?_;refine a1v (a6o (v':=(.I A)) (e':=(⟨A,E.N,E.T⟩:a0k)) rfl rfl ex77 rfl rfl rfl (by decide) (fun _ => by decide) ⟨rfl,nle⟩ .r rfl) ?_;refine dk<|sr<|l7 (.I A) rfl<|x8 (.I (w64 (A + 1))) rfl (.of rfl tr) rfl<|l7 (.I (w64 (A + 1))) rfl<|dk<|sr<|?_
    obtain ⟨g78,hc1⟩:=og hc1
    refine l7 (.own 0 0 D.length) rfl<|l7 (.I B) rfl<|l7 (.I (w64 (A + 1))) rfl<|x9 (a2b rfl rfl g78.1 g78.2 rfl rfl)<|x8 (.ptr 0 (0 + B.toNat) 1) rfl (.of tr tr) rfl<|?_;refine a1v (a6o (v':=(.I (w64 (A + 1)))) (e':=(⟨A,w64 (A + 1),E.T⟩:a0k)) rfl rfl (a5q ex77) rfl rfl rfl (by decide) (fun _ => by decide) ⟨rfl,nle⟩ .r rfl) ?_;refine dk<|sr<|l7 (.I (w64 (A + 1))) rfl<|x8 (.I (w64 ((w64 (A + 1)) + 1))) rfl (.of rfl tr) rfl<|l7 (.I (w64 ((w64 (A + 1)) + 1))) rfl<|dk<|sr<|?_
    obtain ⟨G,er80,hc1⟩:=ob hc1
    obtain ⟨g81,hc1⟩:=og hc1
    refine l7 (.own 0 0 D.length) rfl<|l7 (.I B) rfl<|l7 (.I (w64 ((w64 (A + 1)) + 1))) rfl<|x9 (a0n (a8y _ _ er80) rfl .r rfl)<|x9 (a2b rfl rfl g81.1 g81.2 rfl rfl)<|x8 (.ptr 0 (0 + B.toNat) 2) rfl (.of tr tr) rfl<|?_;refine a1v (a6o (v':=(.str G)) (e':=(⟨A,w64 (A + 1),G⟩:a0k)) rfl rfl (a5q (a5q ex77)) rfl rfl rfl (by decide) (fun _ => by decide) ⟨rfl,nle⟩ .r rfl) ?_;refine dk<|a0s<|l7 (.I (w64 ((w64 (A + 1)) + 1))) rfl<|x8 (.I (w64 ((w64 ((w64 (A + 1)) + 1)) + 1))) rfl (.of rfl tr) rfl<|l7 (.I (w64 ((w64 ((w64 (A + 1)) + 1)) + 1))) rfl<|?_
    refine a0h<|a2v<|a0i<|a0s<|l7 (.I B) rfl<|x8 (.I (w64 (B + 1))) rfl (.of rfl tr) rfl<|l7 (.I (w64 (B + 1))) rfl<|a0h<|?_;exact a1m ⟨(k,w64 ((w64 ((w64 (A + 1)) + 1)) + 1),w64 (B + 1),((D.set (0 + B.toNat) (⟨A,E.N,E.T⟩:a0k)).set (0 + B.toNat) (⟨A,w64 (A + 1),E.T⟩:a0k)).set (0 + B.toNat) (⟨A,w64 (A + 1),G⟩:a0k)),hc1⟩ (Nat.lt_succ_self _) ⟨[],[0],_,_,rfl,rfl,⟨.of_eq (congrArg (AV.own _ 0) (by simp)),⟨.r,⟨.r,tr⟩⟩⟩,.r⟩
   ·refine y9 rfl (bf c74)<|a2l<|a2k<|a1t<|a2j<|?_;obtain rfl:=os hc1;exact ⟨[],[0],_,_,rfl,rfl,⟨.r,tr⟩,.r⟩
 ·obtain ⟨J,K⟩:=p72
  refine sr<|l7 (.I J) rfl<|l7 (.I J) rfl<|dk<|a0e<|?_;obtain rfl:=os hf;exact a7b [] [0] rfl ⟨.of tr tr,tr⟩ rfl .r .r

/- laws.markAtomSS -/
def d9s:a0m :=
 (.seq (.reg (tm 4 (.c (.int .i64 0)) .done))
 (.seq (.seq (.reg (tm 5 (.c (.int .i64 0)) .done))
 (.block 0 (.loop (.seq (.seq (.reg (tm 6 (.t 5) (tm 7 (.t 0) (tq 8 (.len (.t 7)) (tq 9 (.bin .lss (.t 6) (.t 8)) .done)))))
 (.cond (.t 9) .skip
 (.exit 0)))
 (.seq (.block 1 (.rev (.reg (tm 12 (.t 0) (tm 13 (.t 5) (tq 14 (.iaddr 1 (.t 12) (.t 13)) (tq 15 (.load 1 false (.t 14)) (tm 16 (.t 1) (tq 17 (.call 202 [(.t 15),(.t 16)]) (tm 1 (.t 17) .done))))))))))
 (.reg (tm 10 (.t 5) (tq 11 (.bin .add (.t 10) (.c (.int .i64 1))) (tm 5 (.t 11) .done)))))))))
 (.cut (.seq (.reg (tm 18 (.t 1) (tm 4 (.t 18) .done)))
 .ret))))
theorem e3r:a1b Tryz.prog Tryz.f102 = some (d9s.erase,[.mov (.t 4)],19):=by kernel_rfl
def a3o :Nat → Int → Int → (List (List a0k)) → Option (Int × (List (List a0k)))
  | 0,_,_,_ => none
  | k + 1,E,A,B =>
    if (decide (A < (B.length:Int))) then
    ((B[(0 + A.toNat)]?)).bind fun G =>
    if (0:Int) ≤ A ∧ A < (B.length:Int) then
    (b0a G E).bind fun D =>
    a3o k D.1 (w64 (A + 1)) (B.set (0 + A.toNat) D.2)
    else none
    else
    some (E,B)

def a8z (F:(List (List a0k))) (H:Int):Option (Int × (List (List a0k))) :=
    (a3o FUEL H 0 F).bind fun p72 =>
    (match p72 with
    | (J,K) =>
    some (J,K))
theorem c3k (F:(List (List a0k))) (H:Int) (r:(Int × (List (List a0k)))) (hf:a8z F H = some r):a0v Tryz.prog ⟨true,true,false⟩ 102 [(.own 0 0 F.length),(.I H)] [.row 1 (F.map (a1q 3 o6))] (.I r.1) [.row 1 (r.2.map (a1q 3 o6))]:=by
 refine a0v.of_awp mixed Tryz.func102 e3r nle ?_;rw [a0l];unfold a8z at hf;unfold d9s;refine (show awp Tryz.prog ⟨true,true,false⟩ 1 _ (ofL [(0,(.own 0 0 F.length)),(1,(.I H))]) [.row 1 (F.map (a1q 3 o6))] _ from ?_);refine sr<|l7 (.I 0) rfl<|dk<|o7<|sr<|l7 (.I 0) rfl<|dk<|?_
 obtain ⟨p72,hb1,hf⟩:=ob hf
 refine a1s ([(1,(.I p72.1))],[.row 1 (p72.2.map (a1q 3 o6))]) ?_ ?_
 ·refine a1f (X:={q:(Nat × Int × Int × (List (List a0k))) // a3o q.1 q.2.1 q.2.2.1 q.2.2.2 = some p72}) (fun q => ([(0,(.own 0 0 q.1.2.2.2.length)),(1,(.I q.1.2.1)),(5,(.I q.1.2.2.1))],[.row 1 (q.1.2.2.2.map (a1q 3 o6))])) (fun q => q.1.1) ⟨(FUEL,H,0,F),hb1⟩ ⟨[],[0],_,_,rfl,rfl,⟨.r,⟨.r,⟨.r,tr⟩⟩⟩,.r⟩ ?_
  rintro ⟨⟨k,E,A,B⟩,hc1⟩
  have hc1:a3o k E A B = some p72:=hc1
  refine (show awp Tryz.prog ⟨true,true,false⟩ 1 _ (ofL [(0,(.own 0 0 B.length)),(1,(.I E)),(5,(.I A))]) [.row 1 (B.map (a1q 3 o6))] _ from ?_)
  rcases k with _ | k
  ·rw [a3o.eq_1] at hc1
   cases hc1
  ·rw [a3o.eq_2] at hc1;refine o7<|sr<|l7 (.I A) rfl<|l7 (.own 0 0 B.length) rfl<|a0y (a7n rfl rfl) fun hl73 => x8 (.bool (decide (A < (B.length:Int)))) rfl (.of rfl tr) rfl<|dk<|?_
   rcases oi hc1 with ⟨c74,hc1⟩ | ⟨c74,hc1⟩
   ·refine y8 rfl c74<|a0j<|a0i<|o7<|a2x<|?_
    obtain ⟨G,ex77,hc1⟩:=ob hc1
    refine d9b (o:=0) (f:=0) (l':=G) (enc':=o6) (el:=(.lst 3 (G.map o6))) rfl ex77 rfl rfl fun L => ?_;refine a0s ?_
    obtain ⟨g79,hc1⟩:=og hc1
    obtain ⟨D,er81,hc1⟩:=ob hc1
    refine l7 (.own 0 0 B.length) rfl<|l7 (.I A) rfl<|x9 (a2b rfl rfl g79.1 g79.2 rfl rfl)<|x9 (c0f rfl rfl (c8s ex77) ⟨rfl,rfl⟩ rfl)<|l7 (.I E) rfl<|x9 (c7h (o:=0) (l:=B) (enc:=(a1q 3 o6)) (enc':=o6) (l'':=D.2) (y:=D.2) (j:=0) (el:=(.hdr L 3 (G.map o6))) rfl rfl (c4w _ _ _ er81) rfl rfl ex77 rfl (by decide) rfl)<|l7 (.I D.1) rfl<|a0h<|a2v<|a0i<|a0s<|l7 (.I A) rfl<|x8 (.I (w64 (A + 1))) rfl (.of rfl tr) rfl<|l7 (.I (w64 (A + 1))) rfl<|a0h<|?_;exact a1m ⟨(k,D.1,w64 (A + 1),B.set (0 + A.toNat) D.2),hc1⟩ (Nat.lt_succ_self _) ⟨[],[0],_,_,rfl,rfl,⟨.of_eq (congrArg (AV.own _ 0) (by simp)),⟨.r,⟨.r,tr⟩⟩⟩,.r⟩
   ·refine y9 rfl (bf c74)<|a2l<|a2k<|a1t<|a2j<|?_;obtain rfl:=os hc1;exact ⟨[],[0],_,_,rfl,rfl,⟨.r,tr⟩,.r⟩
 ·obtain ⟨J,K⟩:=p72
  refine sr<|l7 (.I J) rfl<|l7 (.I J) rfl<|dk<|a0e<|?_;obtain rfl:=os hf;exact a7b [] [0] rfl ⟨.of tr tr,tr⟩ rfl .r .r

/- laws.markRowS -/
def d9t:a0m :=
 (.seq (.reg (tm 4 (.c (.int .i64 0)) .done))
 (.seq (.seq (.reg (tm 5 (.c (.int .i64 0)) .done))
 (.block 0 (.loop (.seq (.seq (.reg (tm 6 (.t 5) (tm 7 (.t 0) (tq 8 (.len (.t 7)) (tq 9 (.bin .lss (.t 6) (.t 8)) .done)))))
 (.cond (.t 9) .skip
 (.exit 0)))
 (.seq (.block 1 (.seq (.reg (tm 12 (.t 0) (tm 13 (.t 5) (tm 14 (.t 1) (tq 15 (.iaddr 2 (.t 12) (.t 13)) (tq 16 (.faddr 0 (.t 15)) (.q ⟨none,none,.store 1 (.t 16) (.t 14)⟩
 .done)))))))
 (.seq (.reg (tm 17 (.t 1) (tq 18 (.bin .add (.t 17) (.c (.int .i64 1))) (tm 1 (.t 18) .done))))
 (.rev (.reg (tm 19 (.t 0) (tm 20 (.t 5) (tq 21 (.iaddr 2 (.t 19) (.t 20)) (tq 22 (.faddr 1 (.t 21)) (tq 23 (.load 1 false (.t 22)) (tm 24 (.t 1) (tq 25 (.call 102 [(.t 23),(.t 24)]) (tm 1 (.t 25) .done)))))))))))))
 (.reg (tm 10 (.t 5) (tq 11 (.bin .add (.t 10) (.c (.int .i64 1))) (tm 5 (.t 11) .done)))))))))
 (.cut (.seq (.reg (tm 26 (.t 1) (tm 4 (.t 26) .done)))
 .ret))))
theorem e3s:a1b Tryz.prog Tryz.f126 = some (d9t.erase,[.mov (.t 4)],27):=by kernel_rfl
def a4q :Nat → Int → Int → (List a1u) → Option (Int × (List a1u))
  | 0,_,_,_ => none
  | k + 1,B,A,D =>
    if (decide (A < (D.length:Int))) then
    if (0:Int) ≤ A ∧ A < (D.length:Int) then
    (D[(0 + A.toNat)]?).bind fun E =>
    if (0:Int) ≤ A ∧ A < (D.length:Int) then
    (a8z E.Cells (w64 (B + 1))).bind fun F =>
    a4q k F.1 (w64 (A + 1)) ((D.set (0 + A.toNat) (⟨B,E.Cells⟩:a1u)).set (0 + A.toNat) (⟨B,F.2⟩:a1u))
    else none
    else none
    else
    some (B,D)

def b1g (G:(List a1u)) (H:Int):Option (Int × (List a1u)) :=
    (a4q FUEL H 0 G).bind fun p78 =>
    (match p78 with
    | (J,K) =>
    some (J,K))
theorem c6y (G:(List a1u)) (H:Int) (r:(Int × (List a1u))) (hf:b1g G H = some r):a0v Tryz.prog ⟨true,true,false⟩ 126 [(.own 0 0 G.length),(.I H)] [.row 2 (G.map y5)] (.I r.1) [.row 2 (r.2.map y5)]:=by
 refine a0v.of_awp mixed Tryz.func126 e3s nle ?_;rw [a0l];unfold b1g at hf;unfold d9t;refine (show awp Tryz.prog ⟨true,true,false⟩ 1 _ (ofL [(0,(.own 0 0 G.length)),(1,(.I H))]) [.row 2 (G.map y5)] _ from ?_);refine sr<|l7 (.I 0) rfl<|dk<|o7<|sr<|l7 (.I 0) rfl<|dk<|?_
 obtain ⟨p78,hb1,hf⟩:=ob hf
 refine a1s ([(1,(.I p78.1))],[.row 2 (p78.2.map y5)]) ?_ ?_
 ·refine a1f (X:={q:(Nat × Int × Int × (List a1u)) // a4q q.1 q.2.1 q.2.2.1 q.2.2.2 = some p78}) (fun q => ([(0,(.own 0 0 q.1.2.2.2.length)),(1,(.I q.1.2.1)),(5,(.I q.1.2.2.1))],[.row 2 (q.1.2.2.2.map y5)])) (fun q => q.1.1) ⟨(FUEL,H,0,G),hb1⟩ ⟨[],[0],_,_,rfl,rfl,⟨.r,⟨.r,⟨.r,tr⟩⟩⟩,.r⟩ ?_
  rintro ⟨⟨k,B,A,D⟩,hc1⟩
  have hc1:a4q k B A D = some p78:=hc1
  refine (show awp Tryz.prog ⟨true,true,false⟩ 1 _ (ofL [(0,(.own 0 0 D.length)),(1,(.I B)),(5,(.I A))]) [.row 2 (D.map y5)] _ from ?_)
  rcases k with _ | k
  ·rw [a4q.eq_1] at hc1
   cases hc1
  ·rw [a4q.eq_2] at hc1;refine o7<|sr<|l7 (.I A) rfl<|l7 (.own 0 0 D.length) rfl<|a0y (a7n rfl rfl) fun hl79 => x8 (.bool (decide (A < (D.length:Int)))) rfl (.of rfl tr) rfl<|dk<|?_
   rcases oi hc1 with ⟨c80,hc1⟩ | ⟨c80,hc1⟩
   ·refine y8 rfl c80<|a0j<|a0i<|o7<|a2x<|sr<|?_
    obtain ⟨g81,hc1⟩:=og hc1
    obtain ⟨E,ex83,hc1⟩:=ob hc1
    refine l7 (.own 0 0 D.length) rfl<|l7 (.I A) rfl<|l7 (.I B) rfl<|x9 (a2b rfl rfl g81.1 g81.2 rfl rfl)<|x8 (.ptr 0 (0 + A.toNat) 0) rfl (.of tr tr) rfl<|?_;refine a1v (a6o (v':=(.I B)) (e':=(⟨B,E.Cells⟩:a1u)) rfl rfl ex83 rfl rfl rfl (by decide) (fun _ => by decide) ⟨rfl,nle⟩ .r rfl) ?_;refine dk<|sr<|l7 (.I B) rfl<|x8 (.I (w64 (B + 1))) rfl (.of rfl tr) rfl<|l7 (.I (w64 (B + 1))) rfl<|dk<|?_;refine d9b (o:=0) (f:=1) (l':=E.Cells) (enc':=(a1q 3 o6)) (el:=(.agg [(.I B),(.lst 1 (E.Cells.map (a1q 3 o6)))])) rfl (a5q ex83) rfl rfl fun L => ?_
    refine a0s ?_
    obtain ⟨g86,hc1⟩:=og hc1
    obtain ⟨F,er88,hc1⟩:=ob hc1
    refine l7 (.own 0 0 D.length) rfl<|l7 (.I A) rfl<|x9 (a2b rfl rfl g86.1 g86.2 rfl rfl)<|x8 (.ptr 0 (0 + A.toNat) 1) rfl (.of tr tr) rfl<|x9 (c0f rfl rfl (c8s (a5q ex83)) nle rfl)<|l7 (.I (w64 (B + 1))) rfl<|x9 (c7h (o:=0) (l:=(D.set (0 + A.toNat) (⟨B,E.Cells⟩:a1u))) (enc:=y5) (enc':=(a1q 3 o6)) (l'':=F.2) (y:=(⟨B,F.2⟩:a1u)) (j:=1) (el:=(.agg [(.I B),(.hdr L 1 (E.Cells.map (a1q 3 o6)))])) rfl rfl (c3k _ _ _ er88) rfl rfl (a5q ex83) rfl (by decide) rfl)<|l7 (.I F.1) rfl<|a0h<|a2v<|a0i<|a0s<|?_
    refine l7 (.I A) rfl<|x8 (.I (w64 (A + 1))) rfl (.of rfl tr) rfl<|l7 (.I (w64 (A + 1))) rfl<|a0h<|?_;exact a1m ⟨(k,F.1,w64 (A + 1),(D.set (0 + A.toNat) (⟨B,E.Cells⟩:a1u)).set (0 + A.toNat) (⟨B,F.2⟩:a1u)),hc1⟩ (Nat.lt_succ_self _) ⟨[],[0],_,_,rfl,rfl,⟨.of_eq (congrArg (AV.own _ 0) (by simp)),⟨.r,⟨.r,tr⟩⟩⟩,.r⟩
   ·refine y9 rfl (bf c80)<|a2l<|a2k<|a1t<|a2j<|?_;obtain rfl:=os hc1;exact ⟨[],[0],_,_,rfl,rfl,⟨.r,tr⟩,.r⟩
 ·obtain ⟨J,K⟩:=p78
  refine sr<|l7 (.I J) rfl<|l7 (.I J) rfl<|dk<|a0e<|?_;obtain rfl:=os hf;exact a7b [] [0] rfl ⟨.of tr tr,tr⟩ rfl .r .r

/- laws.markResult -/
def e3t:a0m :=
 (.seq (.reg (tq 2 (.box 5 (.t 0)) (tm 4 (.c (.int .i64 0)) .done)))
 (.seq (.reg (tq 5 (.faddr 3 (.t 2)) (tq 6 (.load 1 false (.t 5)) (tm 7 (.t 1) (tq 8 (.call 26 [(.t 6),(.t 7)]) (tm 1 (.t 8) .done))))))
 (.seq (.reg (tq 9 (.faddr 4 (.t 2)) (tq 10 (.load 1 false (.t 9)) (tm 11 (.t 1) (tq 12 (.call 126 [(.t 10),(.t 11)]) (tm 1 (.t 12) .done))))))
 (.seq (.reg (tm 13 (.t 1) (tm 4 (.t 13) .done)))
 .ret))))
theorem e5r:a1b Tryz.prog Tryz.f46 = some (e3t.erase,[.mov (.t 4)],14):=by kernel_rfl
def a9a (A:a1i) (E:Int):Option (Int × a1i) :=
    (a6q A.Columns E).bind fun B =>
    (b1g A.Rows B.1).bind fun D =>
    some (D.1,(⟨A.Code,A.Count,A.Id,B.2,D.2⟩:a1i))
theorem c3l (A:a1i) (E:Int) (r:(Int × a1i)) (hf:a9a A E = some r):a0v Tryz.prog ⟨true,true,false⟩ 46 [(.agg [(.I A.Code),(.I A.Count),(.I A.Id),(.own 0 0 A.Columns.length),(.own 1 0 A.Rows.length)]),(.I E)] [.row 1 (A.Columns.map AV.str),.row 2 (A.Rows.map y5)] (.I r.1) [.row 1 (r.2.Columns.map AV.str),.row 2 (r.2.Rows.map y5)]:=by
 refine a0v.of_awp mixed Tryz.func46 e5r nle ?_;rw [a0l];unfold a9a at hf;unfold e3t;refine (show awp Tryz.prog ⟨true,true,false⟩ 2 _ (ofL [(0,(.agg [(.I A.Code),(.I A.Count),(.I A.Id),(.own 0 0 A.Columns.length),(.own 1 0 A.Rows.length)])),(1,(.I E))]) [.row 1 (A.Columns.map AV.str),.row 2 (A.Rows.map y5)] _ from ?_);refine sr<|x9 (a1j (j:=2) (c:=(.agg [(.I A.Code),(.I A.Count),(.I A.Id),(.own 0 0 A.Columns.length),(.own 1 0 A.Rows.length)])) rfl tr rfl rfl)<|l7 (.I 0) rfl<|dk<|sr<|?_
 obtain ⟨B,er4,hf⟩:=ob hf
 refine x8 (.ptr 2 0 3) rfl (.of tr tr) rfl<|x8 (.own 0 0 A.Columns.length) rfl (.of nle tr) rfl<|l7 (.I E) rfl<|?_;refine a0y (b2n (v:=(.I B.1)) (h2:=[.row 1 (B.2.map AV.str),.row 2 (A.Rows.map y5),.box 5 (.agg [(.I A.Code),(.I A.Count),(.I A.Id),(.own 0 0 A.Columns.length),(.own 1 0 A.Rows.length)])]) [] [0] (fun _ => rfl) (b1r _ _ _ er4) rfl .r .r rfl rfl) fun hl5 => ?_;refine l7 (.I B.1) rfl<|dk<|sr<|?_
 obtain ⟨D,er7,hf⟩:=ob hf
 refine x8 (.ptr 2 0 4) rfl (.of tr tr) rfl<|x8 (.own 1 0 A.Rows.length) rfl (.of nle tr) rfl<|l7 (.I B.1) rfl<|?_;refine a0y (b2n (v:=(.I D.1)) (h2:=[.row 1 (B.2.map AV.str),.row 2 (D.2.map y5),.box 5 (.agg [(.I A.Code),(.I A.Count),(.I A.Id),(.own 0 0 A.Columns.length),(.own 1 0 A.Rows.length)])]) [] [1] (fun _ => rfl) (c6y _ _ _ er7) rfl .r .r rfl rfl) fun hl8 => ?_;refine l7 (.I D.1) rfl<|dk<|sr<|l7 (.I D.1) rfl<|l7 (.I D.1) rfl<|dk<|a0e<|?_;obtain rfl:=os hf;exact a7b [] [0,1] rfl ⟨.of tr tr,tr⟩ rfl .r .r

/- laws.markJsonS -/
def d9u:a0m :=
 (.seq (.reg (tm 4 (.c (.int .i64 0)) .done))
 (.seq (.seq (.reg (tm 5 (.c (.int .i64 0)) .done))
 (.block 0 (.loop (.seq (.seq (.reg (tm 6 (.t 5) (tm 7 (.t 0) (tq 8 (.len (.t 7)) (tq 9 (.bin .lss (.t 6) (.t 8)) .done)))))
 (.cond (.t 9) .skip
 (.exit 0)))
 (.seq (.block 1 (.seq (.reg (tm 12 (.t 0) (tm 13 (.t 5) (tm 14 (.t 1) (tq 15 (.iaddr 5 (.t 12) (.t 13)) (tq 16 (.faddr 0 (.t 15)) (.q ⟨none,none,.store 1 (.t 16) (.t 14)⟩
 .done)))))))
 (.seq (.reg (tm 17 (.t 1) (tq 18 (.bin .add (.t 17) (.c (.int .i64 1))) (tm 1 (.t 18) .done))))
 (.seq (.reg (tm 19 (.t 0) (tm 20 (.t 5) (tm 21 (.t 1) (tq 22 (.iaddr 5 (.t 19) (.t 20)) (tq 23 (.faddr 1 (.t 22)) (.q ⟨none,none,.store 1 (.t 23) (.t 21)⟩
 .done)))))))
 (.seq (.reg (tm 24 (.t 1) (tq 25 (.bin .add (.t 24) (.c (.int .i64 1))) (tm 1 (.t 25) .done))))
 (.seq (.reg (tm 26 (.t 0) (tm 27 (.t 5) (tm 28 (.t 1) (tq 29 (.call 101 [(.t 28)]) (tq 30 (.iaddr 5 (.t 26) (.t 27)) (tq 31 (.faddr 2 (.t 30)) (.q ⟨none,none,.store 1 (.t 31) (.t 29)⟩
 .done))))))))
 (.seq (.reg (tm 32 (.t 1) (tq 33 (.bin .add (.t 32) (.c (.int .i64 1))) (tm 1 (.t 33) .done))))
 (.seq (.rev (.reg (tm 34 (.t 0) (tm 35 (.t 5) (tq 36 (.iaddr 5 (.t 34) (.t 35)) (tq 37 (.faddr 3 (.t 36)) (tq 38 (.load 1 false (.t 37)) (tm 39 (.t 1) (tq 40 (.call 26 [(.t 38),(.t 39)]) (tm 1 (.t 40) .done))))))))))
 (.rev (.reg (tm 41 (.t 0) (tm 42 (.t 5) (tq 43 (.iaddr 5 (.t 41) (.t 42)) (tq 44 (.faddr 4 (.t 43)) (tq 45 (.load 1 false (.t 44)) (tm 46 (.t 1) (tq 47 (.call 103 [(.t 45),(.t 46)]) (tm 1 (.t 47) .done))))))))))))))))))
 (.reg (tm 10 (.t 5) (tq 11 (.bin .add (.t 10) (.c (.int .i64 1))) (tm 5 (.t 11) .done)))))))))
 (.cut (.seq (.reg (tm 48 (.t 1) (tm 4 (.t 48) .done)))
 .ret))))
theorem e3u:a1b Tryz.prog Tryz.f103 = some (d9u.erase,[.mov (.t 4)],49):=by kernel_rfl
def a3g (rec:((List o9) → Int → Option (Int × (List o9)))):Nat → Int → Int → (List o9) → Option (Int × (List o9))
  | 0,_,_,_ => none
  | k + 1,A,D,E =>
    if (decide (D < (E.length:Int))) then
    if (0:Int) ≤ D ∧ D < (E.length:Int) then
    (E[(0 + D.toNat)]?).bind fun B =>
    if (0:Int) ≤ D ∧ D < (E.length:Int) then
    (a4y (w64 ((w64 (A + 1)) + 1))).bind fun F =>
    if (0:Int) ≤ D ∧ D < (E.length:Int) then
    if (0:Int) ≤ D ∧ D < (E.length:Int) then
    (a6q B.Keys (w64 ((w64 ((w64 (A + 1)) + 1)) + 1))).bind fun G =>
    if (0:Int) ≤ D ∧ D < (E.length:Int) then
    (rec B.Items G.1).bind fun J =>
    a3g rec k J.1 (w64 (D + 1)) (((((E.set (0 + D.toNat) (⟨A,B.N,B.T,B.Keys,B.Items⟩:o9)).set (0 + D.toNat) (⟨A,w64 (A + 1),B.T,B.Keys,B.Items⟩:o9)).set (0 + D.toNat) (⟨A,w64 (A + 1),F,B.Keys,B.Items⟩:o9)).set (0 + D.toNat) (⟨A,w64 (A + 1),F,G.2,B.Items⟩:o9)).set (0 + D.toNat) (⟨A,w64 (A + 1),F,G.2,J.2⟩:o9))
    else none
    else none
    else none
    else none
    else none
    else
    some (A,E)

def b0l (rec:((List o9) → Int → Option (Int × (List o9)))) (H:(List o9)) (K:Int):Option (Int × (List o9)) :=
    (a3g rec FUEL K 0 H).bind fun p132 =>
    (match p132 with
    | (L,M) =>
    some (L,M))
theorem c1y (rec:((List o9) → Int → Option (Int × (List o9)))) (hrec:∀ a0 a1 r,rec a0 a1 = some r → a0v Tryz.prog ⟨true,true,false⟩ 103 [(.own 0 0 a0.length),(.I a1)] [.row 5 (a0.map l9)] (.I r.1) [.row 5 (r.2.map l9)]) (H:(List o9)) (K:Int) (r:(Int × (List o9))) (hf:b0l rec H K = some r):a0v Tryz.prog ⟨true,true,false⟩ 103 [(.own 0 0 H.length),(.I K)] [.row 5 (H.map l9)] (.I r.1) [.row 5 (r.2.map l9)]:=by
 refine a0v.of_awp mixed Tryz.func103 e3u nle ?_;rw [a0l];unfold b0l at hf;unfold d9u;refine (show awp Tryz.prog ⟨true,true,false⟩ 1 _ (ofL [(0,(.own 0 0 H.length)),(1,(.I K))]) [.row 5 (H.map l9)] _ from ?_);refine sr<|l7 (.I 0) rfl<|dk<|o7<|sr<|l7 (.I 0) rfl<|dk<|?_
 obtain ⟨p132,hb1,hf⟩:=ob hf
 refine a1s ([(1,(.I p132.1))],[.row 5 (p132.2.map l9)]) ?_ ?_
 ·refine a1f (X:={q:(Nat × Int × Int × (List o9)) // a3g rec q.1 q.2.1 q.2.2.1 q.2.2.2 = some p132}) (fun q => ([(0,(.own 0 0 q.1.2.2.2.length)),(1,(.I q.1.2.1)),(5,(.I q.1.2.2.1))],[.row 5 (q.1.2.2.2.map l9)])) (fun q => q.1.1) ⟨(FUEL,K,0,H),hb1⟩ ⟨[],[0],_,_,rfl,rfl,⟨.r,⟨.r,⟨.r,tr⟩⟩⟩,.r⟩ ?_
  rintro ⟨⟨k,A,D,E⟩,hc1⟩
  have hc1:a3g rec k A D E = some p132:=hc1
  refine (show awp Tryz.prog ⟨true,true,false⟩ 1 _ (ofL [(0,(.own 0 0 E.length)),(1,(.I A)),(5,(.I D))]) [.row 5 (E.map l9)] _ from ?_)
  rcases k with _ | k
  ·rw [a3g.eq_1] at hc1
   cases hc1
  ·rw [a3g.eq_2] at hc1;refine o7<|sr<|l7 (.I D) rfl<|l7 (.own 0 0 E.length) rfl<|a0y (a7n rfl rfl) fun hl133 => x8 (.bool (decide (D < (E.length:Int)))) rfl (.of rfl tr) rfl<|dk<|?_
   rcases oi hc1 with ⟨c134,hc1⟩ | ⟨c134,hc1⟩
   ·refine y8 rfl c134<|a0j<|a0i<|o7<|a2x<|sr<|?_
    obtain ⟨g135,hc1⟩:=og hc1
    obtain ⟨B,ex137,hc1⟩:=ob hc1
    refine l7 (.own 0 0 E.length) rfl<|l7 (.I D) rfl<|l7 (.I A) rfl<|x9 (a2b rfl rfl g135.1 g135.2 rfl rfl)<|x8 (.ptr 0 (0 + D.toNat) 0) rfl (.of tr tr) rfl<|?_;refine a1v (b5l (v':=(.I A)) (e':=(⟨A,B.N,B.T,B.Keys,B.Items⟩:o9)) rfl rfl ex137 (o8 _) rfl rfl rfl (by decide) (fun _ => by decide) ⟨rfl,nle⟩ (.of_eq (o8 (⟨A,B.N,B.T,B.Keys,B.Items⟩:o9)).symm) rfl) ?_;refine dk<|sr<|l7 (.I A) rfl<|x8 (.I (w64 (A + 1))) rfl (.of rfl tr) rfl<|l7 (.I (w64 (A + 1))) rfl<|dk<|?_
    refine sr<|?_
    obtain ⟨g138,hc1⟩:=og hc1
    refine l7 (.own 0 0 E.length) rfl<|l7 (.I D) rfl<|l7 (.I (w64 (A + 1))) rfl<|x9 (a2b rfl rfl g138.1 g138.2 rfl rfl)<|x8 (.ptr 0 (0 + D.toNat) 1) rfl (.of tr tr) rfl<|?_;refine a1v (b5l (v':=(.I (w64 (A + 1)))) (e':=(⟨A,w64 (A + 1),B.T,B.Keys,B.Items⟩:o9)) rfl rfl (a5q ex137) (o8 _) rfl rfl rfl (by decide) (fun _ => by decide) ⟨rfl,nle⟩ (.of_eq (o8 (⟨A,w64 (A + 1),B.T,B.Keys,B.Items⟩:o9)).symm) rfl) ?_;refine dk<|sr<|l7 (.I (w64 (A + 1))) rfl<|x8 (.I (w64 ((w64 (A + 1)) + 1))) rfl (.of rfl tr) rfl<|?_
    refine l7 (.I (w64 ((w64 (A + 1)) + 1))) rfl<|dk<|sr<|?_
    obtain ⟨F,er140,hc1⟩:=ob hc1
    obtain ⟨g141,hc1⟩:=og hc1
    refine l7 (.own 0 0 E.length) rfl<|l7 (.I D) rfl<|l7 (.I (w64 ((w64 (A + 1)) + 1))) rfl<|x9 (a0n (a8y _ _ er140) rfl .r rfl)<|x9 (a2b rfl rfl g141.1 g141.2 rfl rfl)<|x8 (.ptr 0 (0 + D.toNat) 2) rfl (.of tr tr) rfl<|?_;refine a1v (b5l (v':=(.str F)) (e':=(⟨A,w64 (A + 1),F,B.Keys,B.Items⟩:o9)) rfl rfl (a5q (a5q ex137)) (o8 _) rfl rfl rfl (by decide) (fun _ => by decide) ⟨rfl,nle⟩ (.of_eq (o8 (⟨A,w64 (A + 1),F,B.Keys,B.Items⟩:o9)).symm) rfl) ?_;refine dk<|sr<|l7 (.I (w64 ((w64 (A + 1)) + 1))) rfl<|?_
    refine x8 (.I (w64 ((w64 ((w64 (A + 1)) + 1)) + 1))) rfl (.of rfl tr) rfl<|l7 (.I (w64 ((w64 ((w64 (A + 1)) + 1)) + 1))) rfl<|dk<|o7<|?_;refine d9b (o:=0) (f:=3) (l':=B.Keys) (enc':=AV.str) (el:=(.agg [(.I A),(.I (w64 (A + 1))),(.str F),(.lst 1 (B.Keys.map AV.str)),(.lst 5 (B.Items.map l9))])) rfl (a5q (a5q (a5q ex137))) (o8 _) rfl fun O => ?_;refine a0s ?_
    obtain ⟨g144,hc1⟩:=og hc1
    obtain ⟨G,er146,hc1⟩:=ob hc1
    refine l7 (.own 0 0 E.length) rfl<|l7 (.I D) rfl<|x9 (a2b rfl rfl g144.1 g144.2 rfl rfl)<|x8 (.ptr 0 (0 + D.toNat) 3) rfl (.of tr tr) rfl<|x9 (c0f rfl rfl (c8s (a5q (a5q (a5q ex137)))) nle rfl)<|l7 (.I (w64 ((w64 ((w64 (A + 1)) + 1)) + 1))) rfl<|x9 (c7h (o:=0) (l:=(((E.set (0 + D.toNat) (⟨A,B.N,B.T,B.Keys,B.Items⟩:o9)).set (0 + D.toNat) (⟨A,w64 (A + 1),B.T,B.Keys,B.Items⟩:o9)).set (0 + D.toNat) (⟨A,w64 (A + 1),F,B.Keys,B.Items⟩:o9))) (enc:=l9) (enc':=AV.str) (l'':=G.2) (y:=(⟨A,w64 (A + 1),F,G.2,B.Items⟩:o9)) (j:=3) (el:=(.agg [(.I A),(.I (w64 (A + 1))),(.str F),(.hdr O 1 (B.Keys.map AV.str)),(.lst 5 (B.Items.map l9))])) rfl rfl (b1r _ _ _ er146) rfl rfl (a5q (a5q (a5q ex137))) rfl (by decide) (o8 (⟨A,w64 (A + 1),F,G.2,B.Items⟩:o9)).symm)<|?_
    refine l7 (.I G.1) rfl<|dk<|?_;refine d9b (o:=0) (f:=4) (l':=B.Items) (enc':=l9) (el:=(.agg [(.I A),(.I (w64 (A + 1))),(.str F),(.lst 1 (G.2.map AV.str)),(.lst 5 (B.Items.map l9))])) rfl (a5q (a5q (a5q (a5q ex137)))) (o8 _) rfl fun P => ?_;refine a0s ?_
    obtain ⟨g149,hc1⟩:=og hc1
    obtain ⟨J,er151,hc1⟩:=ob hc1
    refine l7 (.own 0 0 E.length) rfl<|l7 (.I D) rfl<|x9 (a2b rfl rfl g149.1 g149.2 rfl rfl)<|x8 (.ptr 0 (0 + D.toNat) 4) rfl (.of tr tr) rfl<|x9 (c0f rfl rfl (c8s (a5q (a5q (a5q (a5q ex137))))) nle rfl)<|l7 (.I G.1) rfl<|x9 (c7h (o:=0) (l:=((((E.set (0 + D.toNat) (⟨A,B.N,B.T,B.Keys,B.Items⟩:o9)).set (0 + D.toNat) (⟨A,w64 (A + 1),B.T,B.Keys,B.Items⟩:o9)).set (0 + D.toNat) (⟨A,w64 (A + 1),F,B.Keys,B.Items⟩:o9)).set (0 + D.toNat) (⟨A,w64 (A + 1),F,G.2,B.Items⟩:o9))) (enc:=l9) (enc':=l9) (l'':=J.2) (y:=(⟨A,w64 (A + 1),F,G.2,J.2⟩:o9)) (j:=4) (el:=(.agg [(.I A),(.I (w64 (A + 1))),(.str F),(.lst 1 (G.2.map AV.str)),(.hdr P 5 (B.Items.map l9))])) rfl rfl (hrec _ _ _ er151) rfl rfl (a5q (a5q (a5q (a5q ex137)))) rfl (by decide) (o8 (⟨A,w64 (A + 1),F,G.2,J.2⟩:o9)).symm)<|?_
    refine l7 (.I J.1) rfl<|a0h<|a2v<|a0i<|a0s<|l7 (.I D) rfl<|x8 (.I (w64 (D + 1))) rfl (.of rfl tr) rfl<|l7 (.I (w64 (D + 1))) rfl<|a0h<|?_;exact a1m ⟨(k,J.1,w64 (D + 1),((((E.set (0 + D.toNat) (⟨A,B.N,B.T,B.Keys,B.Items⟩:o9)).set (0 + D.toNat) (⟨A,w64 (A + 1),B.T,B.Keys,B.Items⟩:o9)).set (0 + D.toNat) (⟨A,w64 (A + 1),F,B.Keys,B.Items⟩:o9)).set (0 + D.toNat) (⟨A,w64 (A + 1),F,G.2,B.Items⟩:o9)).set (0 + D.toNat) (⟨A,w64 (A + 1),F,G.2,J.2⟩:o9)),hc1⟩ (Nat.lt_succ_self _) ⟨[],[0],_,_,rfl,rfl,⟨.of_eq (congrArg (AV.own _ 0) (by simp)),⟨.r,⟨.r,tr⟩⟩⟩,.r⟩
   ·refine y9 rfl (bf c134)<|a2l<|a2k<|a1t<|a2j<|?_;obtain rfl:=os hc1;exact ⟨[],[0],_,_,rfl,rfl,⟨.r,tr⟩,.r⟩
 ·obtain ⟨L,M⟩:=p132
  refine sr<|l7 (.I L) rfl<|l7 (.I L) rfl<|dk<|a0e<|?_;obtain rfl:=os hf;exact a7b [] [0] rfl ⟨.of tr tr,tr⟩ rfl .r .r
def a6a:Nat → (List o9) → Int → Option (Int × (List o9))
 | 0,_,_ => none
 | k + 1,H,K => b0l (a6a k) H K
theorem b7p:∀ (k:Nat) (H:(List o9)) (K:Int) (r:(Int × (List o9))),a6a k H K = some r → a0v Tryz.prog ⟨true,true,false⟩ 103 [(.own 0 0 H.length),(.I K)] [.row 5 (H.map l9)] (.I r.1) [.row 5 (r.2.map l9)]
 | 0,H,K,r,h => by rw [a6a.eq_1] at h;cases h
 | k + 1,H,K,r,h => by
  rw [a6a.eq_2] at h;exact c1y _ (b7p k) H K r h

/- laws.markJson -/
def e3v:a0m :=
 (.seq (.reg (tq 2 (.box 5 (.t 0)) (tm 4 (.c (.int .i64 0)) .done)))
 (.seq (.reg (tq 5 (.faddr 3 (.t 2)) (tq 6 (.load 1 false (.t 5)) (tm 7 (.t 1) (tq 8 (.call 26 [(.t 6),(.t 7)]) (tm 1 (.t 8) .done))))))
 (.seq (.reg (tq 9 (.faddr 4 (.t 2)) (tq 10 (.load 1 false (.t 9)) (tm 11 (.t 1) (tq 12 (.call 103 [(.t 10),(.t 11)]) (tm 1 (.t 12) .done))))))
 (.seq (.reg (tm 13 (.t 1) (tm 4 (.t 13) .done)))
 .ret))))
theorem e5s:a1b Tryz.prog Tryz.f28 = some (e3v.erase,[.mov (.t 4)],14):=by kernel_rfl
def b1h (A:o9) (E:Int):Option (Int × o9) :=
    (a6q A.Keys E).bind fun B =>
    (a6a FUEL A.Items B.1).bind fun D =>
    some (D.1,(⟨A.Kind,A.N,A.T,B.2,D.2⟩:o9))
theorem c6z (A:o9) (E:Int) (r:(Int × o9)) (hf:b1h A E = some r):a0v Tryz.prog ⟨true,true,false⟩ 28 [(.agg [(.I A.Kind),(.I A.N),(.str A.T),(.own 0 0 A.Keys.length),(.own 1 0 A.Items.length)]),(.I E)] [.row 1 (A.Keys.map AV.str),.row 5 (A.Items.map l9)] (.I r.1) [.row 1 (r.2.Keys.map AV.str),.row 5 (r.2.Items.map l9)]:=by
 refine a0v.of_awp mixed Tryz.func28 e5s nle ?_;rw [a0l];unfold b1h at hf;unfold e3v;refine (show awp Tryz.prog ⟨true,true,false⟩ 2 _ (ofL [(0,(.agg [(.I A.Kind),(.I A.N),(.str A.T),(.own 0 0 A.Keys.length),(.own 1 0 A.Items.length)])),(1,(.I E))]) [.row 1 (A.Keys.map AV.str),.row 5 (A.Items.map l9)] _ from ?_);refine sr<|x9 (a1j (j:=2) (c:=(.agg [(.I A.Kind),(.I A.N),(.str A.T),(.own 0 0 A.Keys.length),(.own 1 0 A.Items.length)])) rfl tr rfl rfl)<|l7 (.I 0) rfl<|dk<|sr<|?_
 obtain ⟨B,er4,hf⟩:=ob hf
 refine x8 (.ptr 2 0 3) rfl (.of tr tr) rfl<|x8 (.own 0 0 A.Keys.length) rfl (.of nle tr) rfl<|l7 (.I E) rfl<|?_;refine a0y (b2n (v:=(.I B.1)) (h2:=[.row 1 (B.2.map AV.str),.row 5 (A.Items.map l9),.box 5 (.agg [(.I A.Kind),(.I A.N),(.str A.T),(.own 0 0 A.Keys.length),(.own 1 0 A.Items.length)])]) [] [0] (fun _ => rfl) (b1r _ _ _ er4) rfl .r .r rfl rfl) fun hl5 => ?_;refine l7 (.I B.1) rfl<|dk<|sr<|?_
 obtain ⟨D,er7,hf⟩:=ob hf
 refine x8 (.ptr 2 0 4) rfl (.of tr tr) rfl<|x8 (.own 1 0 A.Items.length) rfl (.of nle tr) rfl<|l7 (.I B.1) rfl<|?_;refine a0y (b2n (v:=(.I D.1)) (h2:=[.row 1 (B.2.map AV.str),.row 5 (D.2.map l9),.box 5 (.agg [(.I A.Kind),(.I A.N),(.str A.T),(.own 0 0 A.Keys.length),(.own 1 0 A.Items.length)])]) [] [1] (fun _ => rfl) (b7p FUEL _ _ _ er7) rfl .r .r rfl rfl) fun hl8 => ?_;refine l7 (.I D.1) rfl<|dk<|sr<|l7 (.I D.1) rfl<|l7 (.I D.1) rfl<|dk<|a0e<|?_;obtain rfl:=os hf;exact a7b [] [0,1] rfl ⟨.of tr tr,tr⟩ rfl .r .r

/- laws.heldStringS -/
def f2v:a0m :=
 (.seq (.reg (tm 4 (.c (.int .i64 0)) .done))
 (.seq (.seq (.reg (tm 5 (.c (.int .i64 0)) .done))
 (.block 0 (.loop (.seq (.seq (.reg (tm 6 (.t 5) (tm 7 (.t 0) (tq 8 (.len (.t 7)) (tq 9 (.bin .lss (.t 6) (.t 8)) .done)))))
 (.cond (.t 9) .skip
 (.exit 0)))
 (.seq (.block 1 (.seq (.seq (.reg (tm 12 (.t 0) (tm 13 (.t 5) (tq 14 (.iaddr 1 (.t 12) (.t 13)) (tq 15 (.load 1 false (.t 14)) (tm 16 (.t 1) (.l ⟨(some 17),none,.call 101 [(.t 16)]⟩ [⟨(some 15),none,.load 1 false (.t 14)⟩,⟨(some 14),none,.iaddr 1 (.t 12) (.t 13)⟩]
 (tq 18 (.bin .neq (.t 15) (.t 17)) .done) .non)))))))
 (.cond (.t 18) (.seq (.reg (tq 4 (.mov (.c (.int .i64 (-1)))) .done))
 .ret)
 .skip))
 (.reg (tm 19 (.t 1) (tq 20 (.bin .add (.t 19) (.c (.int .i64 1))) (tm 1 (.t 20) .done))))))
 (.reg (tm 10 (.t 5) (tq 11 (.bin .add (.t 10) (.c (.int .i64 1))) (tm 5 (.t 11) .done)))))))))
 (.cut (.seq (.reg (tm 21 (.t 1) (tm 4 (.t 21) .done)))
 .ret))))
theorem f2w:a1b Tryz.prog Tryz.f104 = some (f2v.erase,[.mov (.t 4)],22):=by kernel_rfl
def a3h :List Str → Int → Option (Fl Int Int)
  | [],A =>
    some (.go A)
  | F :: xs,A =>
    (a4y A).bind fun H =>
    if (!(F == H)) then
    some (.ret (-1))
    else
    a3h xs (w64 (A + 1)) 

def a7l (D:(List Str)) (E:Int):Option Int :=
    (a3h D E).bind fun q => (match q with
    | .ret r => some r
    | .go G =>
    some G)
theorem b6h (D:(List Str)) (E:Int) (r:Int) (hf:a7l D E = some r):a0a Tryz.prog 104 .flat [(.lst 1 (D.map AV.str)),(.I E)] (.I r):=by
 refine a0a.of_awp mixed Tryz.func104 f2w nle ?_;rw [a0l];unfold a7l at hf;unfold f2v;refine (show awp Tryz.prog false 0 _ (ofL [(0,(.lst 1 (D.map AV.str))),(1,(.I E))]) [] _ from ?_);refine sr<|l7 (.I 0) rfl<|dk<|o7<|sr<|l7 (.I 0) rfl<|dk<|?_
 obtain ⟨p30,hb1,hf⟩:=ob hf
 refine a3j (X:={q:Int // p30 = .go q}) (fun q => ([(1,(.I q.1))],[])) ?_ ?_
 ·refine a1f (X:={q:(Int × Nat) // a3h (D.drop q.2) q.1 = some p30}) (fun q => ([(0,(.lst 1 (D.map AV.str))),(1,(.I q.1.1)),(5,(.I (q.1.2:Int)))],[])) (fun q => D.length - q.1.2) ⟨(E,0),hb1⟩ ⟨[],[],_,_,rfl,rfl,⟨.r,⟨.r,⟨.r,tr⟩⟩⟩,.r⟩ ?_
  rintro ⟨⟨A,B⟩,hc1⟩
  have hc1:a3h (D.drop B) A = some p30:=hc1
  refine (show awp Tryz.prog false 0 _ (ofL [(0,(.lst 1 (D.map AV.str))),(1,(.I A)),(5,(.I (B:Int)))]) [] _ from ?_)
  rcases a5n D B with ⟨hie33,hd36⟩ | ⟨hlt31,F,hx32,hd36⟩
  ·rw [hd36,a3h.eq_1] at hc1
   have hq35:=dlf hie33
   refine o7<|sr<|l7 (.I (B:Int)) rfl<|l7 (.lst 1 (D.map AV.str)) rfl<|a0y (a1o (enc:=AV.str) rfl) fun hl38 => x8 (.bool (decide ((B:Int) < (D.length:Int)))) rfl rfl rfl<|dk<|y9 rfl hq35<|a2l<|a2k<|a1t<|a2j<|?_;obtain rfl:=os hc1;exact a6i ⟨_,rfl⟩ ⟨[],[],_,_,rfl,rfl,⟨.r,tr⟩,.r⟩
  ·rw [hd36,a3h.eq_2] at hc1
   have hq35:=dlt hlt31
   refine o7<|sr<|l7 (.I (B:Int)) rfl<|l7 (.lst 1 (D.map AV.str)) rfl<|a0y (a1o (enc:=AV.str) rfl) fun hl39 => x8 (.bool (decide ((B:Int) < (D.length:Int)))) rfl rfl rfl<|dk<|y8 rfl hq35<|a0j<|a0i<|o7<|a2x<|o7<|sr<|?_
   obtain ⟨H,er41,hc1⟩:=ob hc1
   refine l7 (.lst 1 (D.map AV.str)) rfl<|l7 (.I (B:Int)) rfl<|x9 (a1n (enc:=AV.str) rfl rfl hx32)<|x8 (.str F) rfl ⟨rfl,rfl⟩ rfl<|l7 (.I A) rfl<|a0w (a0n (a8y _ _ er41) rfl .r rfl) a6n tr<|x8 (.bool (!(F == H))) rfl tr rfl<|dk<|?_
   rcases oi hc1 with ⟨c42,hc1⟩ | ⟨c42,hc1⟩
   ·refine y8 rfl c42<|sr<|l7 (.I (-1)) rfl<|dk<|a0e<|?_;obtain rfl:=os hc1;obtain rfl:=os hf;exact a0g ⟨tr,tr⟩ rfl .r
   ·refine y9 rfl (bf c42)<|a0j<|a0i<|a0s<|l7 (.I A) rfl<|x8 (.I (w64 (A + 1))) rfl rfl rfl<|l7 (.I (w64 (A + 1))) rfl<|a0h<|a2v<|a0i<|a0s<|l7 (.I (B:Int)) rfl<|x8 (.I (w64 ((B:Int) + 1))) rfl rfl rfl<|l7 (.I (w64 ((B:Int) + 1))) rfl<|a0h<|?_;exact a1m ⟨(w64 (A + 1),(B + 1)),hc1⟩ (mul hlt31) ⟨[],[],_,_,rfl,rfl,⟨.r,⟨.r,⟨.of_eq (congrArg (AV.int _) (a1p hlt31 hl39)),tr⟩⟩⟩,.r⟩
 ·rintro ⟨G,rfl⟩
  refine sr<|l7 (.I G) rfl<|l7 (.I G) rfl<|dk<|a0e<|?_;obtain rfl:=os hf;exact a0g ⟨tr,tr⟩ rfl .r

/- laws.heldJsonS -/
def c105:a0m :=
 (.seq (.reg (tm 4 (.c (.int .i64 0)) .done))
 (.seq (.seq (.reg (tm 5 (.c (.int .i64 0)) .done))
 (.block 0 (.loop (.seq (.seq (.reg (tm 6 (.t 5) (tm 7 (.t 0) (tq 8 (.len (.t 7)) (tq 9 (.bin .lss (.t 6) (.t 8)) .done)))))
 (.cond (.t 9) .skip
 (.exit 0)))
 (.seq (.block 1 (.seq (.seq (.reg (tm 12 (.t 0) (tm 13 (.t 5) (tq 14 (.iaddr 5 (.t 12) (.t 13)) (tq 15 (.faddr 0 (.t 14)) (tq 16 (.load 1 false (.t 15)) (tm 17 (.t 1) (tq 18 (.bin .neq (.t 16) (.t 17)) .done))))))))
 (.cond (.t 18) (.seq (.reg (tq 4 (.mov (.c (.int .i64 (-1)))) .done))
 .ret)
 .skip))
 (.seq (.reg (tm 19 (.t 1) (tq 20 (.bin .add (.t 19) (.c (.int .i64 1))) (tm 1 (.t 20) .done))))
 (.seq (.seq (.reg (tm 21 (.t 0) (tm 22 (.t 5) (tq 23 (.iaddr 5 (.t 21) (.t 22)) (tq 24 (.faddr 1 (.t 23)) (tq 25 (.load 1 false (.t 24)) (tm 26 (.t 1) (tq 27 (.bin .neq (.t 25) (.t 26)) .done))))))))
 (.cond (.t 27) (.seq (.reg (tq 4 (.mov (.c (.int .i64 (-1)))) .done))
 .ret)
 .skip))
 (.seq (.reg (tm 28 (.t 1) (tq 29 (.bin .add (.t 28) (.c (.int .i64 1))) (tm 1 (.t 29) .done))))
 (.seq (.seq (.reg (tm 30 (.t 0) (tm 31 (.t 5) (tq 32 (.iaddr 5 (.t 30) (.t 31)) (tq 33 (.faddr 2 (.t 32)) (tq 34 (.load 1 false (.t 33)) (tm 35 (.t 1) (.l ⟨(some 36),none,.call 101 [(.t 35)]⟩ [⟨(some 34),none,.load 1 false (.t 33)⟩,⟨(some 33),none,.faddr 2 (.t 32)⟩,⟨(some 32),none,.iaddr 5 (.t 30) (.t 31)⟩]
 (tq 37 (.bin .neq (.t 34) (.t 36)) .done) .non))))))))
 (.cond (.t 37) (.seq (.reg (tq 4 (.mov (.c (.int .i64 (-1)))) .done))
 .ret)
 .skip))
 (.seq (.reg (tm 38 (.t 1) (tq 39 (.bin .add (.t 38) (.c (.int .i64 1))) (tm 1 (.t 39) .done))))
 (.seq (.reg (tm 40 (.t 0) (tm 41 (.t 5) (tq 42 (.iaddr 5 (.t 40) (.t 41)) (tq 43 (.faddr 3 (.t 42)) (tq 44 (.load 1 false (.t 43)) (tm 45 (.t 1) (tq 46 (.call 104 [(.t 44),(.t 45)]) (tm 1 (.t 46) .done)))))))))
 (.seq (.seq (.reg (tm 47 (.t 1) (tq 48 (.bin .lss (.t 47) (.c (.int .i64 0))) .done)))
 (.cond (.t 48) (.seq (.reg (tq 4 (.mov (.c (.int .i64 (-1)))) .done))
 .ret)
 .skip))
 (.seq (.reg (tm 49 (.t 0) (tm 50 (.t 5) (tq 51 (.iaddr 5 (.t 49) (.t 50)) (tq 52 (.faddr 4 (.t 51)) (tq 53 (.load 1 false (.t 52)) (tm 54 (.t 1) (tq 55 (.call 105 [(.t 53),(.t 54)]) (tm 1 (.t 55) .done)))))))))
 (.seq (.reg (tm 56 (.t 1) (tq 57 (.bin .lss (.t 56) (.c (.int .i64 0))) .done)))
 (.cond (.t 57) (.seq (.reg (tq 4 (.mov (.c (.int .i64 (-1)))) .done))
 .ret)
 .skip))))))))))))
 (.reg (tm 10 (.t 5) (tq 11 (.bin .add (.t 10) (.c (.int .i64 1))) (tm 5 (.t 11) .done)))))))))
 (.cut (.seq (.reg (tm 58 (.t 1) (tm 4 (.t 58) .done)))
 .ret))))
theorem f2x:a1b Tryz.prog Tryz.f105 = some (c105.erase,[.mov (.t 4)],59):=by kernel_rfl
def a3i (rec:((List o9) → Int → Option Int)):List o9 → Int → Option (Fl Int Int)
  | [],A =>
    some (.go A)
  | D :: xs,A =>
    if (D.Kind != A) then
    some (.ret (-1))
    else
    if (D.N != w64 (A + 1)) then
    some (.ret (-1))
    else
    (a4y (w64 ((w64 (A + 1)) + 1))).bind fun K =>
    if (!(D.T == K)) then
    some (.ret (-1))
    else
    (a7l D.Keys (w64 ((w64 ((w64 (A + 1)) + 1)) + 1))).bind fun G =>
    if (decide (G < 0)) then
    some (.ret (-1))
    else
    (rec D.Items G).bind fun H =>
    if (decide (H < 0)) then
    some (.ret (-1))
    else
    a3i rec xs H 

def b0m (rec:((List o9) → Int → Option Int)) (B:(List o9)) (F:Int):Option Int :=
    (a3i rec B F).bind fun q => (match q with
    | .ret r => some r
    | .go J =>
    some J)
theorem c1z (rec:((List o9) → Int → Option Int)) (hrec:∀ a0 a1 r,rec a0 a1 = some r → a0a Tryz.prog 105 .flat [(.lst 5 (a0.map l9)),(.I a1)] (.I r)) (B:(List o9)) (F:Int) (r:Int) (hf:b0m rec B F = some r):a0a Tryz.prog 105 .flat [(.lst 5 (B.map l9)),(.I F)] (.I r):=by
 refine a0a.of_awp mixed Tryz.func105 f2x nle ?_;rw [a0l];unfold b0m at hf;unfold c105;refine (show awp Tryz.prog false 0 _ (ofL [(0,(.lst 5 (B.map l9))),(1,(.I F))]) [] _ from ?_);refine sr<|l7 (.I 0) rfl<|dk<|o7<|sr<|l7 (.I 0) rfl<|dk<|?_
 obtain ⟨p78,hb1,hf⟩:=ob hf
 refine a3j (X:={q:Int // p78 = .go q}) (fun q => ([(1,(.I q.1))],[])) ?_ ?_
 ·refine a1f (X:={q:(Int × Nat) // a3i rec (B.drop q.2) q.1 = some p78}) (fun q => ([(0,(.lst 5 (B.map l9))),(1,(.I q.1.1)),(5,(.I (q.1.2:Int)))],[])) (fun q => B.length - q.1.2) ⟨(F,0),hb1⟩ ⟨[],[],_,_,rfl,rfl,⟨.r,⟨.r,⟨.r,tr⟩⟩⟩,.r⟩ ?_
  rintro ⟨⟨A,E⟩,hc1⟩
  have hc1:a3i rec (B.drop E) A = some p78:=hc1
  refine (show awp Tryz.prog false 0 _ (ofL [(0,(.lst 5 (B.map l9))),(1,(.I A)),(5,(.I (E:Int)))]) [] _ from ?_)
  rcases a5n B E with ⟨hie81,hd84⟩ | ⟨hlt79,D,hx80,hd84⟩
  ·rw [hd84,a3i.eq_1] at hc1
   have hq83:=dlf hie81
   refine o7<|sr<|l7 (.I (E:Int)) rfl<|l7 (.lst 5 (B.map l9)) rfl<|a0y (a1o (enc:=l9) rfl) fun hl86 => x8 (.bool (decide ((E:Int) < (B.length:Int)))) rfl rfl rfl<|dk<|y9 rfl hq83<|a2l<|a2k<|a1t<|a2j<|?_;obtain rfl:=os hc1;exact a6i ⟨_,rfl⟩ ⟨[],[],_,_,rfl,rfl,⟨.r,tr⟩,.r⟩
  ·rw [hd84,a3i.eq_2] at hc1
   have hq83:=dlt hlt79
   refine o7<|sr<|l7 (.I (E:Int)) rfl<|l7 (.lst 5 (B.map l9)) rfl<|a0y (a1o (enc:=l9) rfl) fun hl87 => x8 (.bool (decide ((E:Int) < (B.length:Int)))) rfl rfl rfl<|dk<|y8 rfl hq83<|a0j<|a0i<|o7<|a2x<|o7<|sr<|l7 (.lst 5 (B.map l9)) rfl<|l7 (.I (E:Int)) rfl<|x9 (a1n (enc:=l9) rfl rfl hx80)<|x8 (.iptr (l9 D) 0) rfl tr rfl<|x9 (a8k (v:=(.I D.Kind)) rfl (o8 _) nle rfl)<|l7 (.I A) rfl<|x8 (.bool (D.Kind != A)) rfl rfl rfl<|dk<|?_
   rcases oi hc1 with ⟨c88,hc1⟩ | ⟨c88,hc1⟩
   ·refine y8 rfl c88<|sr<|l7 (.I (-1)) rfl<|dk<|a0e<|?_;obtain rfl:=os hc1;obtain rfl:=os hf;exact a0g ⟨tr,tr⟩ rfl .r
   ·refine y9 rfl (bf c88)<|a0j<|a0i<|sr<|l7 (.I A) rfl<|x8 (.I (w64 (A + 1))) rfl rfl rfl<|l7 (.I (w64 (A + 1))) rfl<|dk<|o7<|sr<|l7 (.lst 5 (B.map l9)) rfl<|l7 (.I (E:Int)) rfl<|x9 (a1n (enc:=l9) rfl rfl hx80)<|x8 (.iptr (l9 D) 1) rfl tr rfl<|x9 (a8k (v:=(.I D.N)) rfl (o8 _) nle rfl)<|l7 (.I (w64 (A + 1))) rfl<|x8 (.bool (D.N != w64 (A + 1))) rfl rfl rfl<|dk<|?_
    rcases oi hc1 with ⟨c89,hc1⟩ | ⟨c89,hc1⟩
    ·refine y8 rfl c89<|sr<|l7 (.I (-1)) rfl<|dk<|a0e<|?_;obtain rfl:=os hc1;obtain rfl:=os hf;exact a0g ⟨tr,tr⟩ rfl .r
    ·refine y9 rfl (bf c89)<|a0j<|a0i<|sr<|l7 (.I (w64 (A + 1))) rfl<|x8 (.I (w64 ((w64 (A + 1)) + 1))) rfl rfl rfl<|l7 (.I (w64 ((w64 (A + 1)) + 1))) rfl<|dk<|o7<|sr<|?_
     obtain ⟨K,er91,hc1⟩:=ob hc1
     refine l7 (.lst 5 (B.map l9)) rfl<|l7 (.I (E:Int)) rfl<|x9 (a1n (enc:=l9) rfl rfl hx80)<|x8 (.iptr (l9 D) 2) rfl tr rfl<|x9 (a8k (v:=(.str D.T)) rfl (o8 _) nle rfl)<|l7 (.I (w64 ((w64 (A + 1)) + 1))) rfl<|a0w (a0n (a8y _ _ er91) rfl .r rfl) a6n tr<|x8 (.bool (!(D.T == K))) rfl tr rfl<|dk<|?_
     rcases oi hc1 with ⟨c92,hc1⟩ | ⟨c92,hc1⟩
     ·refine y8 rfl c92<|sr<|l7 (.I (-1)) rfl<|dk<|a0e<|?_;obtain rfl:=os hc1;obtain rfl:=os hf;exact a0g ⟨tr,tr⟩ rfl .r
     ·refine y9 rfl (bf c92)<|a0j<|a0i<|sr<|l7 (.I (w64 ((w64 (A + 1)) + 1))) rfl<|x8 (.I (w64 ((w64 ((w64 (A + 1)) + 1)) + 1))) rfl rfl rfl<|l7 (.I (w64 ((w64 ((w64 (A + 1)) + 1)) + 1))) rfl<|dk<|sr<|?_
      obtain ⟨G,er94,hc1⟩:=ob hc1
      refine l7 (.lst 5 (B.map l9)) rfl<|l7 (.I (E:Int)) rfl<|x9 (a1n (enc:=l9) rfl rfl hx80)<|x8 (.iptr (l9 D) 3) rfl tr rfl<|x9 (a8k (v:=(.lst 1 (D.Keys.map AV.str))) rfl (o8 _) nle rfl)<|l7 (.I (w64 ((w64 ((w64 (A + 1)) + 1)) + 1))) rfl<|x9 (a0n (b6h _ _ _ er94) rfl .r rfl)<|l7 (.I G) rfl<|dk<|o7<|sr<|l7 (.I G) rfl<|x8 (.bool (decide (G < 0))) rfl rfl rfl<|dk<|?_
      rcases oi hc1 with ⟨c95,hc1⟩ | ⟨c95,hc1⟩
      ·refine y8 rfl c95<|sr<|l7 (.I (-1)) rfl<|dk<|a0e<|?_;obtain rfl:=os hc1;obtain rfl:=os hf;exact a0g ⟨tr,tr⟩ rfl .r
      ·refine y9 rfl (bf c95)<|a0j<|a0i<|sr<|?_
       obtain ⟨H,er97,hc1⟩:=ob hc1
       refine l7 (.lst 5 (B.map l9)) rfl<|l7 (.I (E:Int)) rfl<|x9 (a1n (enc:=l9) rfl rfl hx80)<|x8 (.iptr (l9 D) 4) rfl tr rfl<|x9 (a8k (v:=(.lst 5 (D.Items.map l9))) rfl (o8 _) nle rfl)<|l7 (.I G) rfl<|x9 (a0n (hrec _ _ _ er97) rfl .r rfl)<|l7 (.I H) rfl<|dk<|sr<|l7 (.I H) rfl<|x8 (.bool (decide (H < 0))) rfl rfl rfl<|dk<|?_
       rcases oi hc1 with ⟨c98,hc1⟩ | ⟨c98,hc1⟩
       ·refine y8 rfl c98<|sr<|l7 (.I (-1)) rfl<|dk<|a0e<|?_;obtain rfl:=os hc1;obtain rfl:=os hf;exact a0g ⟨tr,tr⟩ rfl .r
       ·refine y9 rfl (bf c98)<|a0j<|a2v<|a0i<|a0s<|l7 (.I (E:Int)) rfl<|x8 (.I (w64 ((E:Int) + 1))) rfl rfl rfl<|l7 (.I (w64 ((E:Int) + 1))) rfl<|a0h<|?_;exact a1m ⟨(H,(E + 1)),hc1⟩ (mul hlt79) ⟨[],[],_,_,rfl,rfl,⟨.r,⟨.r,⟨.of_eq (congrArg (AV.int _) (a1p hlt79 hl87)),tr⟩⟩⟩,.r⟩
 ·rintro ⟨J,rfl⟩
  refine sr<|l7 (.I J) rfl<|l7 (.I J) rfl<|dk<|a0e<|?_;obtain rfl:=os hf;exact a0g ⟨tr,tr⟩ rfl .r
def a6b:Nat → (List o9) → Int → Option Int
 | 0,_,_ => none
 | k + 1,B,F => b0m (a6b k) B F
theorem b7q:∀ (k:Nat) (B:(List o9)) (F:Int) (r:Int),a6b k B F = some r → a0a Tryz.prog 105 .flat [(.lst 5 (B.map l9)),(.I F)] (.I r)
 | 0,B,F,r,h => by rw [a6b.eq_1] at h;cases h
 | k + 1,B,F,r,h => by
  rw [a6b.eq_2] at h;exact c1z _ (b7q k) B F r h

/- laws.heldJson -/
def c29:a0m :=
 (.seq (.reg (tq 2 (.box 5 (.t 0)) (tm 4 (.c (.int .i64 0)) .done)))
 (.seq (.reg (tq 5 (.faddr 3 (.t 2)) (tq 6 (.load 1 false (.t 5)) (tm 7 (.t 1) (tq 8 (.call 104 [(.t 6),(.t 7)]) (tm 1 (.t 8) .done))))))
 (.seq (.seq (.reg (tm 9 (.t 1) (tq 10 (.bin .lss (.t 9) (.c (.int .i64 0))) .done)))
 (.cond (.t 10) (.seq (.reg (tq 4 (.mov (.c (.int .i64 (-1)))) .done))
 .ret)
 .skip))
 (.seq (.reg (tq 11 (.faddr 4 (.t 2)) (tq 12 (.load 1 false (.t 11)) (tm 13 (.t 1) (tq 14 (.call 105 [(.t 12),(.t 13)]) (tm 1 (.t 14) .done))))))
 (.seq (.seq (.reg (tm 15 (.t 1) (tq 16 (.bin .lss (.t 15) (.c (.int .i64 0))) .done)))
 (.cond (.t 16) (.seq (.reg (tq 4 (.mov (.c (.int .i64 (-1)))) .done))
 .ret)
 .skip))
 (.seq (.reg (tm 17 (.t 1) (tm 4 (.t 17) .done)))
 .ret))))))
theorem f3z:a1b Tryz.prog Tryz.f29 = some (c29.erase,[.mov (.t 4)],18):=by kernel_rfl
def a9k (A:o9) (E:Int):Option Int :=
    (a7l A.Keys E).bind fun D =>
    if (decide (D < 0)) then
    some (-1)
    else
    (a6b FUEL A.Items D).bind fun B =>
    if (decide (B < 0)) then
    some (-1)
    else
    some B
theorem b8u (A:o9) (E:Int) (r:Int) (hf:a9k A E = some r):a0a Tryz.prog 29 .flat [(l9 A),(.I E)] (.I r):=by
 refine a0a.of_awp mixed Tryz.func29 f3z nle ?_;rw [a0l];rw [o8 A];unfold a9k at hf;unfold c29;refine (show awp Tryz.prog false 0 _ (ofL [(0,(.agg [(.I A.Kind),(.I A.N),(.str A.T),(.lst 1 (A.Keys.map AV.str)),(.lst 5 (A.Items.map l9))])),(1,(.I E))]) [] _ from ?_);refine sr<|x9 (a1j (j:=0) (c:=(.agg [(.I A.Kind),(.I A.N),(.str A.T),(.lst 1 (A.Keys.map AV.str)),(.lst 5 (A.Items.map l9))])) rfl tr rfl rfl)<|l7 (.I 0) rfl<|dk<|sr<|?_
 obtain ⟨D,er4,hf⟩:=ob hf
 refine x8 (.ptr 0 0 3) rfl tr rfl<|x8 (.lst 1 (A.Keys.map AV.str)) rfl nle rfl<|l7 (.I E) rfl<|x9 (a0n (b6h _ _ _ er4) rfl .r rfl)<|l7 (.I D) rfl<|dk<|o7<|sr<|l7 (.I D) rfl<|x8 (.bool (decide (D < 0))) rfl rfl rfl<|dk<|?_
 rcases oi hf with ⟨c5,hf⟩ | ⟨c5,hf⟩
 ·refine y8 rfl c5<|sr<|l7 (.I (-1)) rfl<|dk<|a0e<|?_;obtain rfl:=os hf;exact a0g ⟨tr,tr⟩ rfl .r
 ·refine y9 rfl (bf c5)<|a0j<|a0i<|sr<|?_
  obtain ⟨B,er7,hf⟩:=ob hf
  refine x8 (.ptr 0 0 4) rfl tr rfl<|x8 (.lst 5 (A.Items.map l9)) rfl nle rfl<|l7 (.I D) rfl<|x9 (a0n (b7q FUEL _ _ _ er7) rfl .r rfl)<|l7 (.I B) rfl<|dk<|o7<|sr<|l7 (.I B) rfl<|x8 (.bool (decide (B < 0))) rfl rfl rfl<|dk<|?_
  rcases oi hf with ⟨c8,hf⟩ | ⟨c8,hf⟩
  ·refine y8 rfl c8<|sr<|l7 (.I (-1)) rfl<|dk<|a0e<|?_;obtain rfl:=os hf;exact a0g ⟨tr,tr⟩ rfl .r
  ·refine y9 rfl (bf c8)<|a0j<|a0i<|sr<|l7 (.I B) rfl<|l7 (.I B) rfl<|dk<|a0e<|?_;obtain rfl:=os hf;exact a0g ⟨tr,tr⟩ rfl .r

/- laws.FnExactResultJson -/
def c6:a0m :=
 (.seq (.reg (tq 3 (.box 5 (.t 1)) (tm 4 (.c (.bool false)) .done)))
 (.seq (.reg (tm 5 (.c (.int .i64 1048576)) .done))
 (.seq (.reg (tq 16 (.load 5 true (.t 3)) (tm 17 (.t 5) (tq 18 (.call 41 [(.t 16),(.t 17)]) (tm 5 (.t 18) .done)))))
 (.seq (.seq (.reg (tm 19 (.t 5) (tq 20 (.bin .lss (.t 19) (.c (.int .i64 0))) .done)))
 (.cond (.t 20) (.seq (.reg (tm 4 (.c (.bool true)) .done))
 .ret)
 .skip))
 (.seq (.reg (tm 22 (.t 0) (tq 23 (.load 5 true (.t 3)) (tq 24 (.call 43 [(.t 23)]) (tq 25 (.call 42 [(.t 22),(.t 24)]) (tm 21 (.t 25) (tq 26 (.extract 0 (.t 21)) (tq 27 (.extract 1 (.t 21)) (tq 6 (.box 5 (.c (.agg [(.int .i64 0),(.int .i64 0),(.str []),.nil,.nil]))) (.q ⟨none,none,.store 5 (.t 6) (.t 26)⟩
 (tm 7 (.t 27) .done)))))))))))
 (.seq (.reg (tq 28 (.load 5 true (.t 3)) (tq 29 (.call 43 [(.t 28)]) (tq 8 (.box 5 (.c (.agg [(.int .i64 0),(.int .i64 0),(.int .i64 0),.nil,.nil]))) (.q ⟨none,none,.store 5 (.t 8) (.t 29)⟩
 .done)))))
 (.seq (.reg (tm 31 (.t 0) (tq 32 (.load 5 true (.t 8)) (tq 33 (.call 44 [(.t 31),(.t 32)]) (tm 30 (.t 33) (tq 34 (.extract 0 (.t 30)) (tq 35 (.extract 1 (.t 30)) (tq 9 (.box 5 (.c (.agg [(.int .i64 0),(.int .i64 0),(.str []),.nil,.nil]))) (.q ⟨none,none,.store 5 (.t 9) (.t 34)⟩
 (tm 10 (.t 35) .done))))))))))
 (.seq (.seq (.reg (tq 36 (.load 5 true (.t 9)) (tq 37 (.load 5 true (.t 6)) (tq 38 (.call 23 [(.t 36),(.t 37)]) (tq 39 (.not (.t 38)) (tm 40 (.t 39) (tg 41 40 false (.mov (.t 10)) (tg 42 40 false (.mov (.t 7)) (tg 43 40 false (.bin .neq (.t 41) (.t 42)) (tq 44 (.pick (.t 40) (.c (.bool true)) (.t 43)) .done))))))))))
 (.cut (.cond (.t 44) (.seq (.reg (tm 4 (.c (.bool false)) .done))
 .ret)
 .skip)))
 (.seq (.seq (.reg (tq 45 (.load 5 true (.t 8)) (tq 46 (.load 5 true (.t 3)) (.l ⟨(some 47),none,.call 43 [(.t 46)]⟩ [⟨(some 45),none,.load 5 true (.t 8)⟩]
 (.l ⟨(some 48),none,.call 45 [(.t 45),(.t 47)]⟩ []
 (tq 49 (.not (.t 48)) .done) .non) .non))))
 (.cond (.t 49) (.seq (.reg (tm 4 (.c (.bool false)) .done))
 .ret)
 .skip))
 (.seq (.reg (tm 11 (.c (.int .i64 1)) .done))
 (.seq (.reg (tq 50 (.load 5 true (.t 8)) (tm 51 (.t 11) (tq 52 (.call 46 [(.t 50),(.t 51)]) (tm 11 (.t 52) .done)))))
 (.seq (.seq (.reg (tm 53 (.t 11) (tq 54 (.bin .lss (.t 53) (.c (.int .i64 0))) (tm 55 (.t 54) (tg 56 55 false (.load 5 true (.t 9)) (tg 57 55 false (.load 5 true (.t 6)) (tg 58 55 false (.call 23 [(.t 56),(.t 57)]) (tg 59 55 false (.not (.t 58)) (tq 60 (.pick (.t 55) (.c (.bool true)) (.t 59)) (tm 61 (.t 60) (tg 62 61 false (.mov (.t 10)) (tg 63 61 false (.mov (.t 7)) (tg 64 61 false (.bin .neq (.t 62) (.t 63)) (tq 65 (.pick (.t 61) (.c (.bool true)) (.t 64)) .done))))))))))))))
 (.cut (.cond (.t 65) (.seq (.reg (tm 4 (.c (.bool false)) .done))
 .ret)
 .skip)))
 (.seq (.reg (tm 12 (.c (.int .i64 1)) .done))
 (.seq (.reg (tq 66 (.load 5 true (.t 9)) (tm 67 (.t 12) (tq 68 (.call 28 [(.t 66),(.t 67)]) (tm 12 (.t 68) .done)))))
 (.seq (.reg (tm 13 (.c (.int .i64 1)) .done))
 (.seq (.reg (tq 69 (.load 5 true (.t 9)) (tm 70 (.t 13) (tq 71 (.call 29 [(.t 69),(.t 70)]) (tm 13 (.t 71) .done)))))
 (.seq (.seq (.reg (tm 72 (.t 13) (tq 73 (.bin .lss (.t 72) (.c (.int .i64 0))) .done)))
 (.cond (.t 73) (.seq (.reg (tm 4 (.c (.bool false)) .done))
 .ret)
 .skip))
 (.seq (.seq (.reg (tm 74 (.t 13) (tm 75 (.t 12) (tq 76 (.bin .neq (.t 74) (.t 75)) .done))))
 (.cond (.t 76) (.seq (.reg (tm 4 (.c (.bool false)) .done))
 .ret)
 .skip))
 (.seq (.reg (tm 78 (.t 0) (tq 79 (.load 5 true (.t 3)) (tq 80 (.call 43 [(.t 79)]) (tq 81 (.call 44 [(.t 78),(.t 80)]) (tm 77 (.t 81) (tq 82 (.extract 0 (.t 77)) (tq 83 (.extract 1 (.t 77)) (tq 14 (.box 5 (.c (.agg [(.int .i64 0),(.int .i64 0),(.str []),.nil,.nil]))) (.q ⟨none,none,.store 5 (.t 14) (.t 82)⟩
 (tm 15 (.t 83) .done)))))))))))
 (.seq (.seq (.reg (tq 84 (.load 5 true (.t 14)) (tq 85 (.load 5 true (.t 6)) (tq 86 (.call 23 [(.t 84),(.t 85)]) (tq 87 (.not (.t 86)) (tm 88 (.t 87) (tg 89 88 false (.mov (.t 15)) (tg 90 88 false (.mov (.t 7)) (tg 91 88 false (.bin .neq (.t 89) (.t 90)) (tq 92 (.pick (.t 88) (.c (.bool true)) (.t 91)) .done))))))))))
 (.cut (.cond (.t 92) (.seq (.reg (tm 4 (.c (.bool false)) .done))
 .ret)
 .skip)))
 (.seq (.reg (tm 13 (.c (.int .i64 1)) .done))
 (.seq (.reg (tq 93 (.load 5 true (.t 9)) (tm 94 (.t 13) (tq 95 (.call 29 [(.t 93),(.t 94)]) (tm 13 (.t 95) .done)))))
 (.seq (.seq (.reg (tm 96 (.t 13) (tq 97 (.bin .lss (.t 96) (.c (.int .i64 0))) .done)))
 (.cond (.t 97) (.seq (.reg (tm 4 (.c (.bool false)) .done))
 .ret)
 .skip))
 (.seq (.seq (.reg (tm 98 (.t 13) (tm 99 (.t 12) (tq 100 (.bin .neq (.t 98) (.t 99)) .done))))
 (.cond (.t 100) (.seq (.reg (tm 4 (.c (.bool false)) .done))
 .ret)
 .skip))
 (.seq (.reg (tm 4 (.c (.bool true)) .done))
 .ret)))))))))))))))))))))))))
theorem fc6:a1b Tryz.prog Tryz.f6 = some (c6.erase,[.mov (.t 4)],101):=by kernel_rfl
def a7g (H:Int) (D:a1i):Option Bool :=
    (b0v D 1048576).bind fun Aa =>
    if (decide (Aa < 0)) then
    some true
    else
    (a7h D).bind fun M =>
    (a8v H M).bind fun B =>
    (a7h D).bind fun F =>
    (a7v H F).bind fun A =>
    (((a6g FUEL A.1 B.1).bind fun U =>
    if (!U) then
    some true
    else
    some (A.2 != B.2):Option Bool)).bind fun W =>
    if W then
    some false
    else
    (a7h D).bind fun J =>
    (b1f F J).bind fun Ab =>
    if (!Ab) then
    some false
    else
    (a9a F 1).bind fun L =>
    ((if (decide (L.1 < 0)) then
    some true
    else
    (a6g FUEL A.1 B.1).bind fun O =>
    some (bif (!O) then true else (A.2 != B.2)):Option Bool)).bind fun Y =>
    if Y then
    some false
    else
    (b1h A.1 1).bind fun G =>
    (a9k (⟨A.1.Kind,A.1.N,A.1.T,G.2.Keys,G.2.Items⟩:o9) 1).bind fun P =>
    if (decide (P < 0)) then
    some false
    else
    if (P != G.1) then
    some false
    else
    (a7h D).bind fun K =>
    (a7v H K).bind fun E =>
    (((a6g FUEL E.1 B.1).bind fun V =>
    if (!V) then
    some true
    else
    some (E.2 != B.2):Option Bool)).bind fun Z =>
    if Z then
    some false
    else
    (a9k (⟨A.1.Kind,A.1.N,A.1.T,G.2.Keys,G.2.Items⟩:o9) 1).bind fun S =>
    if (decide (S < 0)) then
    some false
    else
    if (S != G.1) then
    some false
    else
    some true
theorem b6w (H:Int) (D:a1i) (r:Bool) (hf:a7g H D = some r):a0a Tryz.prog 6 .flat [(.I H),(a2c D)] (.bool r):=by
 refine a0a.of_awp' (md:=⟨true,true,true⟩) (fun _ => rfl) (fun _ => rfl) (fun h => by cases h) mixed Tryz.func6 fc6 nle ?_;rw [a0l];unfold a7g at hf;unfold c6;refine (show awp Tryz.prog ⟨true,true,true⟩ 0 _ (ofL [(0,(.I H)),(1,(a2c D))]) [] _ from ?_);refine sr<|x9 (a1j (j:=0) (c:=(.agg [(.I D.Code),(.I D.Count),(.I D.Id),(.lst 1 (D.Columns.map AV.str)),(.lst 2 (D.Rows.map y5))])) rfl tr rfl rfl)<|l7 (.bool false) rfl<|dk<|sr<|l7 (.I 1048576) rfl<|dk<|sr<|?_
 obtain ⟨Aa,er4,hf⟩:=ob hf
 refine x8 (.agg [(.I D.Code),(.I D.Count),(.I D.Id),(.lst 1 (D.Columns.map AV.str)),(.lst 2 (D.Rows.map y5))]) rfl (.of nle tr) rfl<|l7 (.I 1048576) rfl<|x9 (a0n (c6l _ _ _ er4) rfl .r rfl)<|l7 (.I Aa) rfl<|dk<|o7<|sr<|l7 (.I Aa) rfl<|x8 (.bool (decide (Aa < 0))) rfl (.of rfl tr) rfl<|dk<|?_
 rcases oi hf with ⟨c5,hf⟩ | ⟨c5,hf⟩
 ·refine y8 rfl c5<|sr<|l7 (.bool true) rfl<|dk<|a0e<|?_;obtain rfl:=os hf;exact a0g ⟨.of tr tr,tr⟩ rfl .r
 ·refine y9 rfl (bf c5)<|a0j<|a0i<|sr<|?_
  obtain ⟨M,er7,hf⟩:=ob hf
  obtain ⟨B,er9,hf⟩:=ob hf
  refine l7 (.I H) rfl<|x8 (.agg [(.I D.Code),(.I D.Count),(.I D.Id),(.lst 1 (D.Columns.map AV.str)),(.lst 2 (D.Rows.map y5))]) rfl (.of nle tr) rfl<|x9 (a2z (v:=(.agg [(.I M.Code),(.I M.Count),(.I M.Id),(.own 1 0 M.Columns.length),(.own 2 0 M.Rows.length)])) (h':=[.row 1 (M.Columns.map AV.str),.row 2 (M.Rows.map y5)]) (b1n _ _ er7) rfl .r (by simp only [a2f,a2a,List.length_map,b3x,List.nil_append,List.append_nil,List.cons_append];rfl))<|x9 (a2z (v:=(.tup [(.agg [(.I B.1.Kind),(.I B.1.N),(.str B.1.T),(.own 3 0 B.1.Keys.length),(.own 4 0 B.1.Items.length)]),(.I B.2)])) (h':=[.row 1 (B.1.Keys.map AV.str),.row 5 (B.1.Items.map l9)]) (c3d _ _ _ er9) rfl (.cons .r (.cons (.agg (.cons .r (.cons .r (.cons .r (.cons (.of_eq (congrArg (AV.lst _) (tko (enc:=AV.str) M.Columns))) (.cons (.of_eq (congrArg (AV.lst _) (tko (enc:=y5) M.Rows))) .nil)))))) .nil)) (by simp only [a2f,a2a,List.length_map,o8,List.nil_append,List.append_nil,List.cons_append];rfl))<|?_
  refine l7 (.tup [(.agg [(.I B.1.Kind),(.I B.1.N),(.str B.1.T),(.own 3 0 B.1.Keys.length),(.own 4 0 B.1.Items.length)]),(.I B.2)]) rfl<|x8 (.agg [(.I B.1.Kind),(.I B.1.N),(.str B.1.T),(.own 3 0 B.1.Keys.length),(.own 4 0 B.1.Items.length)]) rfl (.of nle tr) rfl<|x8 (.I B.2) rfl (.of nle tr) rfl<|x9 (a1j (j:=5) (c:=(.agg [(.I 0),(.I 0),(.str []),.nil,.nil])) rfl tr rfl rfl)<|a1v (a0f (v:=(.agg [(.I B.1.Kind),(.I B.1.N),(.str B.1.T),(.own 3 0 B.1.Keys.length),(.own 4 0 B.1.Items.length)])) (y':=(.agg [(.I B.1.Kind),(.I B.1.N),(.str B.1.T),(.own 3 0 B.1.Keys.length),(.own 4 0 B.1.Items.length)])) rfl rfl rfl tr ⟨rfl,nle⟩ ⟨⟨rfl,tr⟩,⟨⟨rfl,tr⟩,⟨⟨rfl,tr⟩,⟨⟨rfl,tr⟩,⟨⟨rfl,tr⟩,tr⟩⟩⟩⟩⟩ rfl)<|?_
  refine l7 (.I B.2) rfl<|dk<|sr<|?_
  obtain ⟨F,er11,hf⟩:=ob hf
  refine x8 (.agg [(.I D.Code),(.I D.Count),(.I D.Id),(.lst 1 (D.Columns.map AV.str)),(.lst 2 (D.Rows.map y5))]) rfl (.of nle tr) rfl<|x9 (a2z (v:=(.agg [(.I F.Code),(.I F.Count),(.I F.Id),(.own 6 0 F.Columns.length),(.own 7 0 F.Rows.length)])) (h':=[.row 1 (F.Columns.map AV.str),.row 2 (F.Rows.map y5)]) (b1n _ _ er11) rfl .r (by simp only [a2f,a2a,List.length_map,b3x,List.nil_append,List.append_nil,List.cons_append];rfl))<|x9 (a1j (j:=8) (c:=(.agg [(.I 0),(.I 0),(.I 0),.nil,.nil])) rfl tr rfl rfl)<|a1v (a0f (v:=(.agg [(.I F.Code),(.I F.Count),(.I F.Id),(.own 6 0 F.Columns.length),(.own 7 0 F.Rows.length)])) (y':=(.agg [(.I F.Code),(.I F.Count),(.I F.Id),(.own 6 0 F.Columns.length),(.own 7 0 F.Rows.length)])) rfl rfl rfl tr ⟨rfl,nle⟩ ⟨⟨rfl,tr⟩,⟨⟨rfl,tr⟩,⟨⟨rfl,tr⟩,⟨⟨rfl,tr⟩,⟨⟨rfl,tr⟩,tr⟩⟩⟩⟩⟩ rfl)<|?_
  refine dk<|sr<|?_
  obtain ⟨A,er13,hf⟩:=ob hf
  refine l7 (.I H) rfl<|x8 (.agg [(.I F.Code),(.I F.Count),(.I F.Id),(.own 6 0 F.Columns.length),(.own 7 0 F.Rows.length)]) rfl (.of nle tr) rfl<|x9 (a2z (v:=(.tup [(.agg [(.I A.1.Kind),(.I A.1.N),(.str A.1.T),(.own 9 0 A.1.Keys.length),(.own 10 0 A.1.Items.length)]),(.I A.2)])) (h':=[.row 1 (A.1.Keys.map AV.str),.row 5 (A.1.Items.map l9)]) (b6q _ _ _ er13) rfl (.cons .r (.cons (.agg (.cons .r (.cons .r (.cons .r (.cons (.of_eq (congrArg (AV.lst _) (tko (enc:=AV.str) F.Columns))) (.cons (.of_eq (congrArg (AV.lst _) (tko (enc:=y5) F.Rows))) .nil)))))) .nil)) (by simp only [a2f,a2a,List.length_map,o8,List.nil_append,List.append_nil,List.cons_append];rfl))<|?_
  refine l7 (.tup [(.agg [(.I A.1.Kind),(.I A.1.N),(.str A.1.T),(.own 9 0 A.1.Keys.length),(.own 10 0 A.1.Items.length)]),(.I A.2)]) rfl<|x8 (.agg [(.I A.1.Kind),(.I A.1.N),(.str A.1.T),(.own 9 0 A.1.Keys.length),(.own 10 0 A.1.Items.length)]) rfl (.of nle tr) rfl<|x8 (.I A.2) rfl (.of nle tr) rfl<|x9 (a1j (j:=11) (c:=(.agg [(.I 0),(.I 0),(.str []),.nil,.nil])) rfl tr rfl rfl)<|a1v (a0f (v:=(.agg [(.I A.1.Kind),(.I A.1.N),(.str A.1.T),(.own 9 0 A.1.Keys.length),(.own 10 0 A.1.Items.length)])) (y':=(.agg [(.I A.1.Kind),(.I A.1.N),(.str A.1.T),(.own 9 0 A.1.Keys.length),(.own 10 0 A.1.Items.length)])) rfl rfl rfl tr ⟨rfl,nle⟩ ⟨⟨rfl,tr⟩,⟨⟨rfl,tr⟩,⟨⟨rfl,tr⟩,⟨⟨rfl,tr⟩,⟨⟨rfl,tr⟩,tr⟩⟩⟩⟩⟩ rfl)<|?_
  refine l7 (.I A.2) rfl<|dk<|o7<|o7<|?_
  obtain ⟨W,hb1,hf⟩:=ob hf
  refine a1s ([(0,(.I H)),(3,(.ptr 0 0 0)),(6,(.ptr 1 0 0)),(7,(.I B.2)),(8,(.ptr 2 0 0)),(9,(.ptr 3 0 0)),(10,(.I A.2)),(44,(.bool W))],[.box 5 (.agg [(.I D.Code),(.I D.Count),(.I D.Id),(.lst 1 (D.Columns.map AV.str)),(.lst 2 (D.Rows.map y5))]),.box 5 (.agg [(.I B.1.Kind),(.I B.1.N),(.str B.1.T),(.own 4 0 B.1.Keys.length),(.own 5 0 B.1.Items.length)]),.box 5 (.agg [(.I F.Code),(.I F.Count),(.I F.Id),(.own 6 0 F.Columns.length),(.own 7 0 F.Rows.length)]),.box 5 (.agg [(.I A.1.Kind),(.I A.1.N),(.str A.1.T),(.own 8 0 A.1.Keys.length),(.own 9 0 A.1.Items.length)]),.row 1 (B.1.Keys.map AV.str),.row 5 (B.1.Items.map l9),.row 1 (F.Columns.map AV.str),.row 2 (F.Rows.map y5),.row 1 (A.1.Keys.map AV.str),.row 5 (A.1.Items.map l9)]) ?_ ?_
  ·refine a0s ?_
   obtain ⟨U,er20,hb1⟩:=ob hb1
   rcases oi hb1 with ⟨c21,hb1⟩ | ⟨c21,hb1⟩
   ·refine x8 (.agg [(.I A.1.Kind),(.I A.1.N),(.str A.1.T),(.own 9 0 A.1.Keys.length),(.own 10 0 A.1.Items.length)]) rfl (.of nle tr) rfl<|x8 (.agg [(.I B.1.Kind),(.I B.1.N),(.str B.1.T),(.own 3 0 B.1.Keys.length),(.own 4 0 B.1.Items.length)]) rfl (.of nle tr) rfl<|x9 (a0n (a9j FUEL _ _ _ er20) rfl (.cons (leJ (x:=A.1) (.agg (.cons .r (.cons .r (.cons .r (.cons (.of_eq (congrArg (AV.lst _) (tko (enc:=AV.str) A.1.Keys))) (.cons (.of_eq (congrArg (AV.lst _) (tko (enc:=l9) A.1.Items))) .nil))))))) (.cons (leJ (x:=B.1) (.agg (.cons .r (.cons .r (.cons .r (.cons (.of_eq (congrArg (AV.lst _) (tko (enc:=AV.str) B.1.Keys))) (.cons (.of_eq (congrArg (AV.lst _) (tko (enc:=l9) B.1.Items))) .nil))))))) .nil)) rfl)<|?_
    refine x8 (.bool (!U)) rfl (.of tr tr) rfl<|l7 (.bool (!U)) rfl<|a1g (s:=40) (b:=true) rfl c21<|a0d rfl rfl<|a0d rfl rfl<|a0d rfl rfl<|x8 (.bool true) rfl (.of tr tr) rfl<|a0h<|?_;obtain rfl:=os hb1;exact ⟨[],[0,5,8,11,3,4,6,7,9,10],_,_,rfl,rfl,⟨.r,⟨.r,⟨.r,⟨.r,⟨.r,⟨.r,⟨.r,⟨.r,tr⟩⟩⟩⟩⟩⟩⟩⟩,.r⟩
   ·refine x8 (.agg [(.I A.1.Kind),(.I A.1.N),(.str A.1.T),(.own 9 0 A.1.Keys.length),(.own 10 0 A.1.Items.length)]) rfl (.of nle tr) rfl<|x8 (.agg [(.I B.1.Kind),(.I B.1.N),(.str B.1.T),(.own 3 0 B.1.Keys.length),(.own 4 0 B.1.Items.length)]) rfl (.of nle tr) rfl<|x9 (a0n (a9j FUEL _ _ _ er20) rfl (.cons (leJ (x:=A.1) (.agg (.cons .r (.cons .r (.cons .r (.cons (.of_eq (congrArg (AV.lst _) (tko (enc:=AV.str) A.1.Keys))) (.cons (.of_eq (congrArg (AV.lst _) (tko (enc:=l9) A.1.Items))) .nil))))))) (.cons (leJ (x:=B.1) (.agg (.cons .r (.cons .r (.cons .r (.cons (.of_eq (congrArg (AV.lst _) (tko (enc:=AV.str) B.1.Keys))) (.cons (.of_eq (congrArg (AV.lst _) (tko (enc:=l9) B.1.Items))) .nil))))))) .nil)) rfl)<|?_
    refine x8 (.bool (!U)) rfl (.of tr tr) rfl<|l7 (.bool (!U)) rfl<|a1g (s:=40) (b:=false) rfl (bf c21)<|s_on rfl<|l7 (.I A.2) rfl<|s_on rfl<|l7 (.I B.2) rfl<|s_on rfl<|x8 (.bool (A.2 != B.2)) rfl (.of rfl tr) rfl<|x8 (.bool (A.2 != B.2)) rfl (.of tr tr) rfl<|a0h<|?_;obtain rfl:=os hb1;exact ⟨[],[0,5,8,11,3,4,6,7,9,10],_,_,rfl,rfl,⟨.r,⟨.r,⟨.r,⟨.r,⟨.r,⟨.r,⟨.r,⟨.r,tr⟩⟩⟩⟩⟩⟩⟩⟩,.r⟩
  ·rcases oi hf with ⟨c22,hf⟩ | ⟨c22,hf⟩
   ·refine y8 rfl c22<|sr<|l7 (.bool false) rfl<|dk<|a0e<|?_;obtain rfl:=os hf;exact a0g ⟨.of tr tr,tr⟩ rfl .r
   ·refine y9 rfl (bf c22)<|a0j<|a0i<|o7<|sr<|?_
    obtain ⟨J,er24,hf⟩:=ob hf
    obtain ⟨Ab,er26,hf⟩:=ob hf
    refine x8 (.agg [(.I F.Code),(.I F.Count),(.I F.Id),(.own 6 0 F.Columns.length),(.own 7 0 F.Rows.length)]) rfl (.of nle tr) rfl<|x8 (.agg [(.I D.Code),(.I D.Count),(.I D.Id),(.lst 1 (D.Columns.map AV.str)),(.lst 2 (D.Rows.map y5))]) rfl (.of nle tr) rfl<|a0w (a2z (v:=(.agg [(.I J.Code),(.I J.Count),(.I J.Id),(.own 10 0 J.Columns.length),(.own 11 0 J.Rows.length)])) (h':=[.row 1 (J.Columns.map AV.str),.row 2 (J.Rows.map y5)]) (b1n _ _ er24) rfl .r (by simp only [a2f,a2a,List.length_map,b3x,List.nil_append,List.append_nil,List.cons_append];rfl)) (.inr ⟨⟨(.of nle tr),rfl⟩,tr⟩) tr<|?_
    refine a0w (a0n (c6x _ _ _ er26) rfl (.cons (.agg (.cons .r (.cons .r (.cons .r (.cons (.of_eq (congrArg (AV.lst _) (tko (enc:=AV.str) F.Columns))) (.cons (.of_eq (congrArg (AV.lst _) (tko (enc:=y5) F.Rows))) .nil)))))) (.cons (.agg (.cons .r (.cons .r (.cons .r (.cons (.of_eq (congrArg (AV.lst _) (tko (enc:=AV.str) J.Columns))) (.cons (.of_eq (congrArg (AV.lst _) (tko (enc:=y5) J.Rows))) .nil)))))) .nil)) rfl) a6n tr<|x8 (.bool (!Ab)) rfl (.of tr tr) rfl<|dk<|?_
    rcases oi hf with ⟨c27,hf⟩ | ⟨c27,hf⟩
    ·refine y8 rfl c27<|sr<|l7 (.bool false) rfl<|dk<|a0e<|?_;obtain rfl:=os hf;exact a0g ⟨.of tr tr,tr⟩ rfl .r
    ·refine y9 rfl (bf c27)<|a0j<|a0i<|sr<|l7 (.I 1) rfl<|dk<|sr<|?_
     obtain ⟨L,er29,hf⟩:=ob hf
     refine x8 (.agg [(.I F.Code),(.I F.Count),(.I F.Id),(.own 6 0 F.Columns.length),(.own 7 0 F.Rows.length)]) rfl (.of nle tr) rfl<|l7 (.I 1) rfl<|?_;refine a0y (b2n (v:=(.I L.1)) (h2:=[.box 5 (.agg [(.I D.Code),(.I D.Count),(.I D.Id),(.lst 1 (D.Columns.map AV.str)),(.lst 2 (D.Rows.map y5))]),.box 5 (.agg [(.I B.1.Kind),(.I B.1.N),(.str B.1.T),(.own 4 0 B.1.Keys.length),(.own 5 0 B.1.Items.length)]),.box 5 (.agg [(.I F.Code),(.I F.Count),(.I F.Id),(.own 6 0 F.Columns.length),(.own 7 0 F.Rows.length)]),.box 5 (.agg [(.I A.1.Kind),(.I A.1.N),(.str A.1.T),(.own 8 0 A.1.Keys.length),(.own 9 0 A.1.Items.length)]),.row 1 (B.1.Keys.map AV.str),.row 5 (B.1.Items.map l9),.row 1 (L.2.Columns.map AV.str),.row 2 (L.2.Rows.map y5),.row 1 (A.1.Keys.map AV.str),.row 5 (A.1.Items.map l9),.row 1 (J.Columns.map AV.str),.row 2 (J.Rows.map y5)]) [] [6,7] (fun _ => rfl) (c3l _ _ _ er29) rfl .r .r rfl rfl) fun hl30 => ?_
     refine l7 (.I L.1) rfl<|dk<|o7<|o7<|?_
     obtain ⟨Y,hb1,hf⟩:=ob hf
     refine a1s ([(0,(.I H)),(3,(.ptr 0 0 0)),(6,(.ptr 1 0 0)),(7,(.I B.2)),(9,(.ptr 2 0 0)),(65,(.bool Y))],[.box 5 (.agg [(.I D.Code),(.I D.Count),(.I D.Id),(.lst 1 (D.Columns.map AV.str)),(.lst 2 (D.Rows.map y5))]),.box 5 (.agg [(.I B.1.Kind),(.I B.1.N),(.str B.1.T),(.own 3 0 B.1.Keys.length),(.own 4 0 B.1.Items.length)]),.box 5 (.agg [(.I A.1.Kind),(.I A.1.N),(.str A.1.T),(.own 5 0 A.1.Keys.length),(.own 6 0 A.1.Items.length)]),.row 1 (B.1.Keys.map AV.str),.row 5 (B.1.Items.map l9),.row 1 (A.1.Keys.map AV.str),.row 5 (A.1.Items.map l9)]) ?_ ?_
     ·refine a0s<|l7 (.I L.1) rfl<|x8 (.bool (decide (L.1 < 0))) rfl (.of rfl tr) rfl<|l7 (.bool (decide (L.1 < 0))) rfl<|?_
      rcases oi hb1 with ⟨c36,hb1⟩ | ⟨c36,hb1⟩
      ·refine a1g (s:=55) (b:=true) rfl c36<|a0d rfl rfl<|a0d rfl rfl<|a0d rfl rfl<|a0d rfl rfl<|x8 (.bool true) rfl (.of tr tr) rfl<|l7 (.bool true) rfl<|a0d rfl rfl<|a0d rfl rfl<|a0d rfl rfl<|x8 (.bool true) rfl (.of tr tr) rfl<|a0h<|?_;obtain rfl:=os hb1;exact ⟨[],[0,1,3,4,5,8,9],_,_,rfl,rfl,⟨.r,⟨.r,⟨.r,⟨.r,⟨.r,⟨.r,tr⟩⟩⟩⟩⟩⟩,.r⟩
      ·refine a1g (s:=55) (b:=false) rfl (bf c36)<|s_on rfl<|x8 (.agg [(.I A.1.Kind),(.I A.1.N),(.str A.1.T),(.own 8 0 A.1.Keys.length),(.own 9 0 A.1.Items.length)]) rfl (.of nle tr) rfl<|s_on rfl<|x8 (.agg [(.I B.1.Kind),(.I B.1.N),(.str B.1.T),(.own 4 0 B.1.Keys.length),(.own 5 0 B.1.Items.length)]) rfl (.of nle tr) rfl<|s_on rfl<|?_
       obtain ⟨O,er38,hb1⟩:=ob hb1
       refine x9 (a0n (a9j FUEL _ _ _ er38) rfl (.cons (leJ (x:=A.1) (.agg (.cons .r (.cons .r (.cons .r (.cons (.of_eq (congrArg (AV.lst _) (tko (enc:=AV.str) A.1.Keys))) (.cons (.of_eq (congrArg (AV.lst _) (tko (enc:=l9) A.1.Items))) .nil))))))) (.cons (leJ (x:=B.1) (.agg (.cons .r (.cons .r (.cons .r (.cons (.of_eq (congrArg (AV.lst _) (tko (enc:=AV.str) B.1.Keys))) (.cons (.of_eq (congrArg (AV.lst _) (tko (enc:=l9) B.1.Items))) .nil))))))) .nil)) rfl)<|s_on rfl<|x8 (.bool (!O)) rfl (.of tr tr) rfl<|x8 (.bool (!O)) rfl (.of tr tr) rfl<|l7 (.bool (!O)) rfl<|?_;refine s_g (v:=(!O)) (.I A.2) rfl (fun hv => by (try simp only [y7 hv]);exact ⟨rfl,.of tr tr,rfl⟩) ?_
       refine s_g (v:=(!O)) (.I B.2) rfl (fun hv => by (try simp only [y7 hv]);exact ⟨rfl,.of tr tr,rfl⟩) ?_;refine s_g (v:=(!O)) (.bool (A.2 != B.2)) rfl (fun hv => by (try simp only [y7 hv]);exact ⟨rfl,(.of rfl tr),rfl⟩) ?_;refine a3c (x:=true) (y:=(A.2 != B.2)) rfl (fun hv => by (try simp only [y7 hv]);rfl) (fun hv => by (try simp only [y7 hv]);rfl) ?_;refine a0h ?_;obtain rfl:=os hb1;exact ⟨[],[0,1,3,4,5,8,9],_,_,rfl,rfl,⟨.r,⟨.r,⟨.r,⟨.r,⟨.r,⟨.r,tr⟩⟩⟩⟩⟩⟩,.r⟩
     ·rcases oi hf with ⟨c39,hf⟩ | ⟨c39,hf⟩
      ·refine y8 rfl c39<|sr<|l7 (.bool false) rfl<|dk<|a0e<|?_;obtain rfl:=os hf;exact a0g ⟨.of tr tr,tr⟩ rfl .r
      ·refine y9 rfl (bf c39)<|a0j<|a0i<|sr<|l7 (.I 1) rfl<|dk<|sr<|?_
       obtain ⟨G,er41,hf⟩:=ob hf
       refine x8 (.agg [(.I A.1.Kind),(.I A.1.N),(.str A.1.T),(.own 5 0 A.1.Keys.length),(.own 6 0 A.1.Items.length)]) rfl (.of nle tr) rfl<|l7 (.I 1) rfl<|?_;refine a0y (b2n (v:=(.I G.1)) (h2:=[.box 5 (.agg [(.I D.Code),(.I D.Count),(.I D.Id),(.lst 1 (D.Columns.map AV.str)),(.lst 2 (D.Rows.map y5))]),.box 5 (.agg [(.I B.1.Kind),(.I B.1.N),(.str B.1.T),(.own 3 0 B.1.Keys.length),(.own 4 0 B.1.Items.length)]),.box 5 (.agg [(.I A.1.Kind),(.I A.1.N),(.str A.1.T),(.own 5 0 A.1.Keys.length),(.own 6 0 A.1.Items.length)]),.row 1 (B.1.Keys.map AV.str),.row 5 (B.1.Items.map l9),.row 1 (G.2.Keys.map AV.str),.row 5 (G.2.Items.map l9)]) [] [5,6] (fun _ => rfl) (c6z _ _ _ er41) rfl .r .r rfl rfl) fun hl42 => ?_
       refine l7 (.I G.1) rfl<|dk<|sr<|l7 (.I 1) rfl<|dk<|sr<|?_
       obtain ⟨P,er44,hf⟩:=ob hf
       refine x8 (.agg [(.I A.1.Kind),(.I A.1.N),(.str A.1.T),(.own 5 0 A.1.Keys.length),(.own 6 0 A.1.Items.length)]) rfl (.of nle tr) rfl<|l7 (.I 1) rfl<|x9 (a0n (b8u _ _ _ er44) rfl (.cons (leJ (x:=(⟨A.1.Kind,A.1.N,A.1.T,G.2.Keys,G.2.Items⟩:o9)) (.agg (.cons .r (.cons .r (.cons .r (.cons (.of_eq (congrArg (AV.lst _) (e8a (hl42 0 _ _ _ _ rfl rfl)))) (.cons (.of_eq (congrArg (AV.lst _) (e8a (hl42 1 _ _ _ _ rfl rfl)))) .nil))))))) (.cons .r .nil)) rfl)<|l7 (.I P) rfl<|dk<|o7<|sr<|l7 (.I P) rfl<|x8 (.bool (decide (P < 0))) rfl (.of rfl tr) rfl<|?_
       refine dk<|?_
       rcases oi hf with ⟨c45,hf⟩ | ⟨c45,hf⟩
       ·refine y8 rfl c45<|sr<|l7 (.bool false) rfl<|dk<|a0e<|?_;obtain rfl:=os hf;exact a0g ⟨.of tr tr,tr⟩ rfl .r
       ·refine y9 rfl (bf c45)<|a0j<|a0i<|o7<|sr<|l7 (.I P) rfl<|l7 (.I G.1) rfl<|x8 (.bool (P != G.1)) rfl (.of rfl tr) rfl<|dk<|?_
        rcases oi hf with ⟨c46,hf⟩ | ⟨c46,hf⟩
        ·refine y8 rfl c46<|sr<|l7 (.bool false) rfl<|dk<|a0e<|?_;obtain rfl:=os hf;exact a0g ⟨.of tr tr,tr⟩ rfl .r
        ·refine y9 rfl (bf c46)<|a0j<|a0i<|sr<|?_
         obtain ⟨K,er48,hf⟩:=ob hf
         obtain ⟨E,er50,hf⟩:=ob hf
         refine l7 (.I H) rfl<|x8 (.agg [(.I D.Code),(.I D.Count),(.I D.Id),(.lst 1 (D.Columns.map AV.str)),(.lst 2 (D.Rows.map y5))]) rfl (.of nle tr) rfl<|x9 (a2z (v:=(.agg [(.I K.Code),(.I K.Count),(.I K.Id),(.own 7 0 K.Columns.length),(.own 8 0 K.Rows.length)])) (h':=[.row 1 (K.Columns.map AV.str),.row 2 (K.Rows.map y5)]) (b1n _ _ er48) rfl .r (by simp only [a2f,a2a,List.length_map,b3x,List.nil_append,List.append_nil,List.cons_append];rfl))<|x9 (a2z (v:=(.tup [(.agg [(.I E.1.Kind),(.I E.1.N),(.str E.1.T),(.own 9 0 E.1.Keys.length),(.own 10 0 E.1.Items.length)]),(.I E.2)])) (h':=[.row 1 (E.1.Keys.map AV.str),.row 5 (E.1.Items.map l9)]) (b6q _ _ _ er50) rfl (.cons .r (.cons (.agg (.cons .r (.cons .r (.cons .r (.cons (.of_eq (congrArg (AV.lst _) (tko (enc:=AV.str) K.Columns))) (.cons (.of_eq (congrArg (AV.lst _) (tko (enc:=y5) K.Rows))) .nil)))))) .nil)) (by simp only [a2f,a2a,List.length_map,o8,List.nil_append,List.append_nil,List.cons_append];rfl))<|?_
         refine l7 (.tup [(.agg [(.I E.1.Kind),(.I E.1.N),(.str E.1.T),(.own 9 0 E.1.Keys.length),(.own 10 0 E.1.Items.length)]),(.I E.2)]) rfl<|x8 (.agg [(.I E.1.Kind),(.I E.1.N),(.str E.1.T),(.own 9 0 E.1.Keys.length),(.own 10 0 E.1.Items.length)]) rfl (.of nle tr) rfl<|x8 (.I E.2) rfl (.of nle tr) rfl<|x9 (a1j (j:=11) (c:=(.agg [(.I 0),(.I 0),(.str []),.nil,.nil])) rfl tr rfl rfl)<|a1v (a0f (v:=(.agg [(.I E.1.Kind),(.I E.1.N),(.str E.1.T),(.own 9 0 E.1.Keys.length),(.own 10 0 E.1.Items.length)])) (y':=(.agg [(.I E.1.Kind),(.I E.1.N),(.str E.1.T),(.own 9 0 E.1.Keys.length),(.own 10 0 E.1.Items.length)])) rfl rfl rfl tr ⟨rfl,nle⟩ ⟨⟨rfl,tr⟩,⟨⟨rfl,tr⟩,⟨⟨rfl,tr⟩,⟨⟨rfl,tr⟩,⟨⟨rfl,tr⟩,tr⟩⟩⟩⟩⟩ rfl)<|?_
         refine l7 (.I E.2) rfl<|dk<|o7<|o7<|?_
         obtain ⟨Z,hb1,hf⟩:=ob hf
         refine a1s ([(9,(.ptr 0 0 0)),(12,(.I G.1)),(92,(.bool Z))],[.box 5 (.agg [(.I A.1.Kind),(.I A.1.N),(.str A.1.T),(.own 1 0 G.2.Keys.length),(.own 2 0 G.2.Items.length)]),.row 1 (G.2.Keys.map AV.str),.row 5 (G.2.Items.map l9)]) ?_ ?_
         ·refine a0s ?_
          obtain ⟨V,er57,hb1⟩:=ob hb1
          rcases oi hb1 with ⟨c58,hb1⟩ | ⟨c58,hb1⟩
          ·refine x8 (.agg [(.I E.1.Kind),(.I E.1.N),(.str E.1.T),(.own 9 0 E.1.Keys.length),(.own 10 0 E.1.Items.length)]) rfl (.of nle tr) rfl<|x8 (.agg [(.I B.1.Kind),(.I B.1.N),(.str B.1.T),(.own 3 0 B.1.Keys.length),(.own 4 0 B.1.Items.length)]) rfl (.of nle tr) rfl<|x9 (a0n (a9j FUEL _ _ _ er57) rfl (.cons (leJ (x:=E.1) (.agg (.cons .r (.cons .r (.cons .r (.cons (.of_eq (congrArg (AV.lst _) (tko (enc:=AV.str) E.1.Keys))) (.cons (.of_eq (congrArg (AV.lst _) (tko (enc:=l9) E.1.Items))) .nil))))))) (.cons (leJ (x:=B.1) (.agg (.cons .r (.cons .r (.cons .r (.cons (.of_eq (congrArg (AV.lst _) (tko (enc:=AV.str) B.1.Keys))) (.cons (.of_eq (congrArg (AV.lst _) (tko (enc:=l9) B.1.Items))) .nil))))))) .nil)) rfl)<|?_
           refine x8 (.bool (!V)) rfl (.of tr tr) rfl<|l7 (.bool (!V)) rfl<|a1g (s:=88) (b:=true) rfl c58<|a0d rfl rfl<|a0d rfl rfl<|a0d rfl rfl<|x8 (.bool true) rfl (.of tr tr) rfl<|a0h<|?_;obtain rfl:=os hb1;exact ⟨[],[2,5,6],_,_,rfl,rfl,⟨.r,⟨.r,⟨.r,tr⟩⟩⟩,(.cons (.box (.agg (.cons .r (.cons .r (.cons .r (.cons (.of_eq (congrArg (AV.own _ 0) (by have h:=(hl42 0 _ _ _ _ rfl rfl);simpa using h.symm))) (.cons (.of_eq (congrArg (AV.own _ 0) (by have h:=(hl42 1 _ _ _ _ rfl rfl);simpa using h.symm))) .nil))))))) (.cons .r (.cons .r .nil)))⟩
          ·refine x8 (.agg [(.I E.1.Kind),(.I E.1.N),(.str E.1.T),(.own 9 0 E.1.Keys.length),(.own 10 0 E.1.Items.length)]) rfl (.of nle tr) rfl<|x8 (.agg [(.I B.1.Kind),(.I B.1.N),(.str B.1.T),(.own 3 0 B.1.Keys.length),(.own 4 0 B.1.Items.length)]) rfl (.of nle tr) rfl<|x9 (a0n (a9j FUEL _ _ _ er57) rfl (.cons (leJ (x:=E.1) (.agg (.cons .r (.cons .r (.cons .r (.cons (.of_eq (congrArg (AV.lst _) (tko (enc:=AV.str) E.1.Keys))) (.cons (.of_eq (congrArg (AV.lst _) (tko (enc:=l9) E.1.Items))) .nil))))))) (.cons (leJ (x:=B.1) (.agg (.cons .r (.cons .r (.cons .r (.cons (.of_eq (congrArg (AV.lst _) (tko (enc:=AV.str) B.1.Keys))) (.cons (.of_eq (congrArg (AV.lst _) (tko (enc:=l9) B.1.Items))) .nil))))))) .nil)) rfl)<|?_
           refine x8 (.bool (!V)) rfl (.of tr tr) rfl<|l7 (.bool (!V)) rfl<|a1g (s:=88) (b:=false) rfl (bf c58)<|s_on rfl<|l7 (.I E.2) rfl<|s_on rfl<|l7 (.I B.2) rfl<|s_on rfl<|x8 (.bool (E.2 != B.2)) rfl (.of rfl tr) rfl<|x8 (.bool (E.2 != B.2)) rfl (.of tr tr) rfl<|a0h<|?_;obtain rfl:=os hb1;exact ⟨[],[2,5,6],_,_,rfl,rfl,⟨.r,⟨.r,⟨.r,tr⟩⟩⟩,(.cons (.box (.agg (.cons .r (.cons .r (.cons .r (.cons (.of_eq (congrArg (AV.own _ 0) (by have h:=(hl42 0 _ _ _ _ rfl rfl);simpa using h.symm))) (.cons (.of_eq (congrArg (AV.own _ 0) (by have h:=(hl42 1 _ _ _ _ rfl rfl);simpa using h.symm))) .nil))))))) (.cons .r (.cons .r .nil)))⟩
         ·rcases oi hf with ⟨c59,hf⟩ | ⟨c59,hf⟩
          ·refine y8 rfl c59<|sr<|l7 (.bool false) rfl<|dk<|a0e<|?_;obtain rfl:=os hf;exact a0g ⟨.of tr tr,tr⟩ rfl .r
          ·refine y9 rfl (bf c59)<|a0j<|a0i<|sr<|l7 (.I 1) rfl<|dk<|sr<|?_
           obtain ⟨S,er61,hf⟩:=ob hf
           refine x8 (.agg [(.I A.1.Kind),(.I A.1.N),(.str A.1.T),(.own 1 0 G.2.Keys.length),(.own 2 0 G.2.Items.length)]) rfl (.of nle tr) rfl<|l7 (.I 1) rfl<|x9 (a0n (b8u _ _ _ er61) rfl (.cons (leJ (x:=(⟨A.1.Kind,A.1.N,A.1.T,G.2.Keys,G.2.Items⟩:o9)) (.agg (.cons .r (.cons .r (.cons .r (.cons (.of_eq (congrArg (AV.lst _) (tko (enc:=AV.str) G.2.Keys))) (.cons (.of_eq (congrArg (AV.lst _) (tko (enc:=l9) G.2.Items))) .nil))))))) (.cons .r .nil)) rfl)<|l7 (.I S) rfl<|dk<|o7<|sr<|l7 (.I S) rfl<|x8 (.bool (decide (S < 0))) rfl (.of rfl tr) rfl<|?_
           refine dk<|?_
           rcases oi hf with ⟨c62,hf⟩ | ⟨c62,hf⟩
           ·refine y8 rfl c62<|sr<|l7 (.bool false) rfl<|dk<|a0e<|?_;obtain rfl:=os hf;exact a0g ⟨.of tr tr,tr⟩ rfl .r
           ·refine y9 rfl (bf c62)<|a0j<|a0i<|o7<|sr<|l7 (.I S) rfl<|l7 (.I G.1) rfl<|x8 (.bool (S != G.1)) rfl (.of rfl tr) rfl<|dk<|?_
            rcases oi hf with ⟨c63,hf⟩ | ⟨c63,hf⟩
            ·refine y8 rfl c63<|sr<|l7 (.bool false) rfl<|dk<|a0e<|?_;obtain rfl:=os hf;exact a0g ⟨.of tr tr,tr⟩ rfl .r
            ·refine y9 rfl (bf c63)<|a0j<|a0i<|sr<|l7 (.bool true) rfl<|dk<|a0e<|?_;obtain rfl:=os hf;exact a0g ⟨.of tr tr,tr⟩ rfl .r

end Go.R
