import Derived.Test.YtldahjcikmpifaaGreatJMOT
set_option linter.all false
namespace Go.R
open Go Go.Proofs
set_option maxHeartbeats 8000000
def c17:a0q :=
 (.seq (.reg (tm 4 (.c (.int .i64 0)) .done))
 (.seq (.reg (tm 6 (.t 1) (tm 7 (.t 0) (tq 8 (.len (.t 7)) (tq 9 (.bin .sub (.t 6) (.t 8)) (tm 1 (.t 9) .done))))))
 (.seq (.seq (.reg (tm 10 (.t 1) (tq 11 (.bin .lss (.t 10) (.c (.int .i64 0))) .done)))
 (.cond (.t 11) (.seq (.reg (tq 4 (.mov (.c (.int .i64 (-1)))) .done))
 .ret)
 .skip))
 (.seq (.seq (.reg (tm 5 (.c (.int .i64 0)) .done))
 (.block 0 (.loop (.seq (.seq (.reg (tm 12 (.t 5) (tm 13 (.t 0) (tq 14 (.len (.t 13)) (tq 15 (.bin .lss (.t 12) (.t 14)) .done)))))
 (.cond (.t 15) .skip
 (.exit 0)))
 (.seq (.block 1 (.seq (.reg (tm 18 (.t 1) (tm 19 (.t 0) (tm 20 (.t 5) (tq 21 (.iaddr 1 (.t 19) (.t 20)) (tq 22 (.load 1 false (.t 21)) (tq 23 (.lenS (.t 22)) (tq 24 (.bin .sub (.t 18) (.t 23)) (tm 1 (.t 24) .done)))))))))
 (.seq (.reg (tm 25 (.t 1) (tq 26 (.bin .lss (.t 25) (.c (.int .i64 0))) .done)))
 (.cond (.t 26) (.seq (.reg (tq 4 (.mov (.c (.int .i64 (-1)))) .done))
 .ret)
 .skip))))
 (.reg (tm 16 (.t 5) (tq 17 (.bin .add (.t 16) (.c (.int .i64 1))) (tm 5 (.t 17) .done)))))))))
 (.cut (.seq (.reg (tm 27 (.t 1) (tm 4 (.t 27) .done)))
 .ret))))))
theorem f1r:a1b Tryz.prog Tryz.f17 = some (c17.erase,[.mov (.t 4)],28):=by kernel_rfl
def a3r :List Str → Int → Option (Fl Int Int)
  | [],A =>
    some (.go A)
  | F :: xs,A =>
    if (decide (w64 (A - (F.length:Int)) < 0)) then
    some (.ret (-1))
    else
    a3r xs (w64 (A - (F.length:Int))) 
def a9o (D:(List Str)) (B:Int):Option Int :=
    if (decide (w64 (B - (D.length:Int)) < 0)) then
    some (-1)
    else
    (a3r D (w64 (B - (D.length:Int)))).bind fun q => (match q with
    | .ret r => some r
    | .go G =>
    some G)
theorem c3h (D:(List Str)) (B:Int) (r:Int) (hf:a9o D B = some r):a0a Tryz.prog 17 .flat [(.lst 1 (D.map AV.str)),(.I B)] (.I r):=by
 refine a0a.of_awp mixed Tryz.func17 f1r nle ?_;rw [a0l];unfold a9o at hf;unfold c17;refine (show awp Tryz.prog false 0 _ (ofL [(0,(.lst 1 (D.map AV.str))),(1,(.I B))]) [] _ from ?_);refine sr<|l7 (.I 0) rfl<|dk<|sr<|l7 (.I B) rfl<|l7 (.lst 1 (D.map AV.str)) rfl<|a1a (a1t (enc:=AV.str) rfl) fun hl3 => o7 (.I (w64 (B - (D.length:Int)))) rfl rfl rfl<|l7 (.I (w64 (B - (D.length:Int)))) rfl<|dk<|o6<|sr<|l7 (.I (w64 (B - (D.length:Int)))) rfl<|o7 (.bool (decide (w64 (B - (D.length:Int)) < 0))) rfl rfl rfl<|?_
 refine dk<|?_
 rcases oi hf with ⟨c4,hf⟩ | ⟨c4,hf⟩
 ·refine x9 rfl c4<|sr<|l7 (.I (-1)) rfl<|dk<|a0d<|?_;obtain rfl:=os hf;exact a0f ⟨tr,tr⟩ rfl .r
 ·refine x8 rfl (bf c4)<|a0h<|a0j<|o6<|sr<|l7 (.I 0) rfl<|dk<|?_
  obtain ⟨p29,hb1,hf⟩:=ob hf
  refine a1u (X:={q:Int // p29 = .go q}) (fun q => ([(1,(.I q.1))],[])) ?_ ?_
  ·refine a1h (X:={q:(Int × Nat) // a3r (D.drop q.2) q.1 = some p29}) (fun q => ([(0,(.lst 1 (D.map AV.str))),(1,(.I q.1.1)),(5,(.I (q.1.2:Int)))],[])) (fun q => D.length - q.1.2) ⟨(w64 (B - (D.length:Int)),0),hb1⟩ ⟨[],[],_,_,rfl,rfl,⟨.r,⟨.r,⟨.r,tr⟩⟩⟩,.r⟩ ?_
   rintro ⟨⟨A,E⟩,hc1⟩
   have hc1:a3r (D.drop E) A = some p29:=hc1
   refine (show awp Tryz.prog false 0 _ (ofL [(0,(.lst 1 (D.map AV.str))),(1,(.I A)),(5,(.I (E:Int)))]) [] _ from ?_)
   rcases a5j D E with ⟨hie32,hd35⟩ | ⟨hlt30,F,hx31,hd35⟩
   ·rw [hd35,a3r.eq_1] at hc1
    have hq34:=dlf hie32
    refine o6<|sr<|l7 (.I (E:Int)) rfl<|l7 (.lst 1 (D.map AV.str)) rfl<|a1a (a1t (enc:=AV.str) rfl) fun hl37 => o7 (.bool (decide ((E:Int) < (D.length:Int)))) rfl rfl rfl<|dk<|x8 rfl hq34<|a2o<|a2n<|a1s<|a2m<|?_;obtain rfl:=os hc1;exact a2s ⟨_,rfl⟩ ⟨[],[],_,_,rfl,rfl,⟨.r,tr⟩,.r⟩
   ·rw [hd35,a3r.eq_2] at hc1
    have hq34:=dlt hlt30
    refine o6<|sr<|l7 (.I (E:Int)) rfl<|l7 (.lst 1 (D.map AV.str)) rfl<|a1a (a1t (enc:=AV.str) rfl) fun hl38 => o7 (.bool (decide ((E:Int) < (D.length:Int)))) rfl rfl rfl<|dk<|x9 rfl hq34<|a0h<|a0j<|o6<|a2y<|sr<|l7 (.I A) rfl<|l7 (.lst 1 (D.map AV.str)) rfl<|l7 (.I (E:Int)) rfl<|y7 (a1m (enc:=AV.str) rfl rfl hx31)<|o7 (.str F) rfl ⟨rfl,rfl⟩ rfl<|a1a (a9m rfl) fun hl39 => o7 (.I (w64 (A - (F.length:Int)))) rfl rfl rfl<|l7 (.I (w64 (A - (F.length:Int)))) rfl<|dk<|?_
    refine sr<|l7 (.I (w64 (A - (F.length:Int)))) rfl<|o7 (.bool (decide (w64 (A - (F.length:Int)) < 0))) rfl rfl rfl<|dk<|?_
    rcases oi hc1 with ⟨c40,hc1⟩ | ⟨c40,hc1⟩
    ·refine x9 rfl c40<|sr<|l7 (.I (-1)) rfl<|dk<|a0d<|?_;obtain rfl:=os hc1;obtain rfl:=os hf;exact a0f ⟨tr,tr⟩ rfl .r
    ·refine x8 rfl (bf c40)<|a0h<|a1v<|a0j<|a0t<|l7 (.I (E:Int)) rfl<|o7 (.I (w64 ((E:Int) + 1))) rfl rfl rfl<|l7 (.I (w64 ((E:Int) + 1))) rfl<|a0e<|?_;exact a1p ⟨(w64 (A - (F.length:Int)),(E + 1)),hc1⟩ (mul hlt30) ⟨[],[],_,_,rfl,rfl,⟨.r,⟨.r,⟨.of_eq (congrArg (AV.int _) (a1r hlt30 hl38)),tr⟩⟩⟩,.r⟩
  ·rintro ⟨G,rfl⟩
   refine sr<|l7 (.I G) rfl<|l7 (.I G) rfl<|dk<|a0d<|?_;obtain rfl:=os hf;exact a0f ⟨tr,tr⟩ rfl .r
def c154:a0q :=
 (.seq (.reg (tm 4 (.c (.int .i64 0)) .done))
 (.seq (.reg (tm 6 (.t 1) (tm 7 (.t 0) (tq 8 (.len (.t 7)) (tq 9 (.bin .sub (.t 6) (.t 8)) (tm 1 (.t 9) .done))))))
 (.seq (.seq (.reg (tm 10 (.t 1) (tq 11 (.bin .lss (.t 10) (.c (.int .i64 0))) .done)))
 (.cond (.t 11) (.seq (.reg (tq 4 (.mov (.c (.int .i64 (-1)))) .done))
 .ret)
 .skip))
 (.seq (.seq (.reg (tm 5 (.c (.int .i64 0)) .done))
 (.block 0 (.loop (.seq (.seq (.reg (tm 12 (.t 5) (tm 13 (.t 0) (tq 14 (.len (.t 13)) (tq 15 (.bin .lss (.t 12) (.t 14)) .done)))))
 (.cond (.t 15) .skip
 (.exit 0)))
 (.seq (.block 1 (.seq (.reg (tm 18 (.t 0) (tm 19 (.t 5) (tq 20 (.iaddr 5 (.t 18) (.t 19)) (tq 21 (.load 5 true (.t 20)) (tm 22 (.t 1) (tq 23 (.call 65 [(.t 21),(.t 22)]) (tm 1 (.t 23) .done))))))))
 (.seq (.reg (tm 24 (.t 1) (tq 25 (.bin .lss (.t 24) (.c (.int .i64 0))) .done)))
 (.cond (.t 25) (.seq (.reg (tq 4 (.mov (.c (.int .i64 (-1)))) .done))
 .ret)
 .skip))))
 (.reg (tm 16 (.t 5) (tq 17 (.bin .add (.t 16) (.c (.int .i64 1))) (tm 5 (.t 17) .done)))))))))
 (.cut (.seq (.reg (tm 26 (.t 1) (tm 4 (.t 26) .done)))
 .ret))))))
theorem e5y:a1b Tryz.prog Tryz.f154 = some (c154.erase,[.mov (.t 4)],27):=by kernel_rfl
def a4f (rec:(y8 → Int → Option Int)):List y8 → Int → Option (Fl Int Int)
  | [],D =>
    some (.go D)
  | F :: xs,D =>
    (rec F D).bind fun H =>
    if (decide (H < 0)) then
    some (.ret (-1))
    else
    a4f rec xs H 
def b1g (rec:(y8 → Int → Option Int)) (B:(List y8)) (A:Int):Option Int :=
    if (decide (w64 (A - (B.length:Int)) < 0)) then
    some (-1)
    else
    (a4f rec B (w64 (A - (B.length:Int)))).bind fun q => (match q with
    | .ret r => some r
    | .go G =>
    some G)
theorem c6v (rec:(y8 → Int → Option Int)) (hrec:∀ a0 a1 r,rec a0 a1 = some r → a0a Tryz.prog 65 .flat [(l9 a0),(.I a1)] (.I r)) (B:(List y8)) (A:Int) (r:Int) (hf:b1g rec B A = some r):a0a Tryz.prog 154 .flat [(.lst 5 (B.map l9)),(.I A)] (.I r):=by
 refine a0a.of_awp mixed Tryz.func154 e5y nle ?_;rw [a0l];unfold b1g at hf;unfold c154;refine (show awp Tryz.prog false 0 _ (ofL [(0,(.lst 5 (B.map l9))),(1,(.I A))]) [] _ from ?_);refine sr<|l7 (.I 0) rfl<|dk<|sr<|l7 (.I A) rfl<|l7 (.lst 5 (B.map l9)) rfl<|a1a (a1t (enc:=l9) rfl) fun hl3 => o7 (.I (w64 (A - (B.length:Int)))) rfl rfl rfl<|l7 (.I (w64 (A - (B.length:Int)))) rfl<|dk<|o6<|sr<|l7 (.I (w64 (A - (B.length:Int)))) rfl<|o7 (.bool (decide (w64 (A - (B.length:Int)) < 0))) rfl rfl rfl<|?_
 refine dk<|?_
 rcases oi hf with ⟨c4,hf⟩ | ⟨c4,hf⟩
 ·refine x9 rfl c4<|sr<|l7 (.I (-1)) rfl<|dk<|a0d<|?_;obtain rfl:=os hf;exact a0f ⟨tr,tr⟩ rfl .r
 ·refine x8 rfl (bf c4)<|a0h<|a0j<|o6<|sr<|l7 (.I 0) rfl<|dk<|?_
  obtain ⟨p32,hb1,hf⟩:=ob hf
  refine a1u (X:={q:Int // p32 = .go q}) (fun q => ([(1,(.I q.1))],[])) ?_ ?_
  ·refine a1h (X:={q:(Int × Nat) // a4f rec (B.drop q.2) q.1 = some p32}) (fun q => ([(0,(.lst 5 (B.map l9))),(1,(.I q.1.1)),(5,(.I (q.1.2:Int)))],[])) (fun q => B.length - q.1.2) ⟨(w64 (A - (B.length:Int)),0),hb1⟩ ⟨[],[],_,_,rfl,rfl,⟨.r,⟨.r,⟨.r,tr⟩⟩⟩,.r⟩ ?_
   rintro ⟨⟨D,E⟩,hc1⟩
   have hc1:a4f rec (B.drop E) D = some p32:=hc1
   refine (show awp Tryz.prog false 0 _ (ofL [(0,(.lst 5 (B.map l9))),(1,(.I D)),(5,(.I (E:Int)))]) [] _ from ?_)
   rcases a5j B E with ⟨hie35,hd38⟩ | ⟨hlt33,F,hx34,hd38⟩
   ·rw [hd38,a4f.eq_1] at hc1
    have hq37:=dlf hie35
    refine o6<|sr<|l7 (.I (E:Int)) rfl<|l7 (.lst 5 (B.map l9)) rfl<|a1a (a1t (enc:=l9) rfl) fun hl40 => o7 (.bool (decide ((E:Int) < (B.length:Int)))) rfl rfl rfl<|dk<|x8 rfl hq37<|a2o<|a2n<|a1s<|a2m<|?_;obtain rfl:=os hc1;exact a2s ⟨_,rfl⟩ ⟨[],[],_,_,rfl,rfl,⟨.r,tr⟩,.r⟩
   ·rw [hd38,a4f.eq_2] at hc1
    have hq37:=dlt hlt33
    refine o6<|sr<|l7 (.I (E:Int)) rfl<|l7 (.lst 5 (B.map l9)) rfl<|a1a (a1t (enc:=l9) rfl) fun hl41 => o7 (.bool (decide ((E:Int) < (B.length:Int)))) rfl rfl rfl<|dk<|x9 rfl hq37<|a0h<|a0j<|o6<|a2y<|sr<|?_
    obtain ⟨H,er43,hc1⟩:=ob hc1
    refine l7 (.lst 5 (B.map l9)) rfl<|l7 (.I (E:Int)) rfl<|y7 (a1m (enc:=l9) rfl rfl hx34)<|y7 (a2l (v:=(.agg [(.I F.Kind),(.I F.N),(.str F.T),(.lst 1 (F.Keys.map AV.str)),(.lst 5 (F.Items.map l9))])) rfl (o9 _) nle rfl)<|l7 (.I D) rfl<|y7 (a0p (hrec _ _ _ er43) rfl (.cons (.of_eq (o9 F).symm) (.cons .r .nil)) rfl)<|l7 (.I H) rfl<|dk<|sr<|l7 (.I H) rfl<|o7 (.bool (decide (H < 0))) rfl rfl rfl<|dk<|?_
    rcases oi hc1 with ⟨c44,hc1⟩ | ⟨c44,hc1⟩
    ·refine x9 rfl c44<|sr<|l7 (.I (-1)) rfl<|dk<|a0d<|?_;obtain rfl:=os hc1;obtain rfl:=os hf;exact a0f ⟨tr,tr⟩ rfl .r
    ·refine x8 rfl (bf c44)<|a0h<|a1v<|a0j<|a0t<|l7 (.I (E:Int)) rfl<|o7 (.I (w64 ((E:Int) + 1))) rfl rfl rfl<|l7 (.I (w64 ((E:Int) + 1))) rfl<|a0e<|?_;exact a1p ⟨(H,(E + 1)),hc1⟩ (mul hlt33) ⟨[],[],_,_,rfl,rfl,⟨.r,⟨.r,⟨.of_eq (congrArg (AV.int _) (a1r hlt33 hl41)),tr⟩⟩⟩,.r⟩
  ·rintro ⟨G,rfl⟩
   refine sr<|l7 (.I G) rfl<|l7 (.I G) rfl<|dk<|a0d<|?_;obtain rfl:=os hf;exact a0f ⟨tr,tr⟩ rfl .r
def c65:a0q :=
 (.seq (.reg (tq 2 (.box 5 (.t 0)) (tm 4 (.c (.int .i64 0)) .done)))
 (.seq (.reg (tm 5 (.t 1) (tq 6 (.faddr 2 (.t 2)) (tq 7 (.load 1 false (.t 6)) (tq 8 (.lenS (.t 7)) (tq 9 (.bin .sub (.t 5) (.t 8)) (tm 1 (.t 9) .done)))))))
 (.seq (.seq (.reg (tm 10 (.t 1) (tq 11 (.bin .lss (.t 10) (.c (.int .i64 0))) .done)))
 (.cond (.t 11) (.seq (.reg (tq 4 (.mov (.c (.int .i64 (-1)))) .done))
 .ret)
 .skip))
 (.seq (.reg (tq 12 (.faddr 3 (.t 2)) (tq 13 (.load 1 false (.t 12)) (tm 14 (.t 1) (tq 15 (.call 17 [(.t 13),(.t 14)]) (tm 1 (.t 15) .done))))))
 (.seq (.seq (.reg (tm 16 (.t 1) (tq 17 (.bin .lss (.t 16) (.c (.int .i64 0))) .done)))
 (.cond (.t 17) (.seq (.reg (tq 4 (.mov (.c (.int .i64 (-1)))) .done))
 .ret)
 .skip))
 (.seq (.reg (tq 18 (.faddr 4 (.t 2)) (tq 19 (.load 1 false (.t 18)) (tm 20 (.t 1) (tq 21 (.call 154 [(.t 19),(.t 20)]) (tm 1 (.t 21) .done))))))
 (.seq (.seq (.reg (tm 22 (.t 1) (tq 23 (.bin .lss (.t 22) (.c (.int .i64 0))) .done)))
 (.cond (.t 23) (.seq (.reg (tq 4 (.mov (.c (.int .i64 (-1)))) .done))
 .ret)
 .skip))
 (.seq (.reg (tm 24 (.t 1) (tm 4 (.t 24) .done)))
 .ret))))))))
theorem f1s:a1b Tryz.prog Tryz.f65 = some (c65.erase,[.mov (.t 4)],25):=by kernel_rfl
def b2k (rec:(y8 → Int → Option Int)) (B:y8) (A:Int):Option Int :=
    if (decide (w64 (A - (B.T.length:Int)) < 0)) then
    some (-1)
    else
    (a9o B.Keys (w64 (A - (B.T.length:Int)))).bind fun E =>
    if (decide (E < 0)) then
    some (-1)
    else
    (b1g rec B.Items E).bind fun D =>
    if (decide (D < 0)) then
    some (-1)
    else
    some D
theorem c4z (rec:(y8 → Int → Option Int)) (hrec:∀ a0 a1 r,rec a0 a1 = some r → a0a Tryz.prog 65 .flat [(l9 a0),(.I a1)] (.I r)) (B:y8) (A:Int) (r:Int) (hf:b2k rec B A = some r):a0a Tryz.prog 65 .flat [(l9 B),(.I A)] (.I r):=by
 refine a0a.of_awp mixed Tryz.func65 f1s nle ?_;rw [a0l];rw [o9 B];unfold b2k at hf;unfold c65;refine (show awp Tryz.prog false 0 _ (ofL [(0,(.agg [(.I B.Kind),(.I B.N),(.str B.T),(.lst 1 (B.Keys.map AV.str)),(.lst 5 (B.Items.map l9))])),(1,(.I A))]) [] _ from ?_);refine sr<|y7 (a1i (j:=0) (c:=(.agg [(.I B.Kind),(.I B.N),(.str B.T),(.lst 1 (B.Keys.map AV.str)),(.lst 5 (B.Items.map l9))])) rfl tr rfl rfl)<|l7 (.I 0) rfl<|dk<|sr<|l7 (.I A) rfl<|o7 (.ptr 0 0 2) rfl tr rfl<|o7 (.str B.T) rfl nle rfl<|a1a (a9m rfl) fun hl3 => ?_
 refine o7 (.I (w64 (A - (B.T.length:Int)))) rfl rfl rfl<|l7 (.I (w64 (A - (B.T.length:Int)))) rfl<|dk<|o6<|sr<|l7 (.I (w64 (A - (B.T.length:Int)))) rfl<|o7 (.bool (decide (w64 (A - (B.T.length:Int)) < 0))) rfl rfl rfl<|dk<|?_
 rcases oi hf with ⟨c4,hf⟩ | ⟨c4,hf⟩
 ·refine x9 rfl c4<|sr<|l7 (.I (-1)) rfl<|dk<|a0d<|?_;obtain rfl:=os hf;exact a0f ⟨tr,tr⟩ rfl .r
 ·refine x8 rfl (bf c4)<|a0h<|a0j<|sr<|?_
  obtain ⟨E,er6,hf⟩:=ob hf
  refine o7 (.ptr 0 0 3) rfl tr rfl<|o7 (.lst 1 (B.Keys.map AV.str)) rfl nle rfl<|l7 (.I (w64 (A - (B.T.length:Int)))) rfl<|y7 (a0p (c3h _ _ _ er6) rfl .r rfl)<|l7 (.I E) rfl<|dk<|o6<|sr<|l7 (.I E) rfl<|o7 (.bool (decide (E < 0))) rfl rfl rfl<|dk<|?_
  rcases oi hf with ⟨c7,hf⟩ | ⟨c7,hf⟩
  ·refine x9 rfl c7<|sr<|l7 (.I (-1)) rfl<|dk<|a0d<|?_;obtain rfl:=os hf;exact a0f ⟨tr,tr⟩ rfl .r
  ·refine x8 rfl (bf c7)<|a0h<|a0j<|sr<|?_
   obtain ⟨D,er9,hf⟩:=ob hf
   refine o7 (.ptr 0 0 4) rfl tr rfl<|o7 (.lst 5 (B.Items.map l9)) rfl nle rfl<|l7 (.I E) rfl<|y7 (a0p (c6v rec hrec _ _ _ er9) rfl .r rfl)<|l7 (.I D) rfl<|dk<|o6<|sr<|l7 (.I D) rfl<|o7 (.bool (decide (D < 0))) rfl rfl rfl<|dk<|?_
   rcases oi hf with ⟨c10,hf⟩ | ⟨c10,hf⟩
   ·refine x9 rfl c10<|sr<|l7 (.I (-1)) rfl<|dk<|a0d<|?_;obtain rfl:=os hf;exact a0f ⟨tr,tr⟩ rfl .r
   ·refine x8 rfl (bf c10)<|a0h<|a0j<|sr<|l7 (.I D) rfl<|l7 (.I D) rfl<|dk<|a0d<|?_;obtain rfl:=os hf;exact a0f ⟨tr,tr⟩ rfl .r
def a6u:Nat → y8 → Int → Option Int
 | 0,_,_ => none
 | k + 1,B,A => b2k (a6u k) B A
theorem b9e:∀ (k:Nat) (B:y8) (A:Int) (r:Int),a6u k B A = some r → a0a Tryz.prog 65 .flat [(l9 B),(.I A)] (.I r)
 | 0,B,A,r,h => by rw [a6u.eq_1] at h;cases h
 | k + 1,B,A,r,h => by
  rw [a6u.eq_2] at h;exact c4z _ (b9e k) B A r h
def c20:a0q :=
 (.seq (.reg (tm 2 (.c .nil) .done))
 (.seq (.reg (tm 5 (.t 0) (tq 6 (.len (.t 5)) (tq 7 (.mkslice 1 16 (.str []) (.t 6) (.t 6)) (tm 3 (.t 7) .done)))))
 (.seq (.seq (.reg (tm 4 (.c (.int .i64 0)) .done))
 (.block 0 (.loop (.seq (.seq (.reg (tm 8 (.t 4) (tm 9 (.t 0) (tq 10 (.len (.t 9)) (tq 11 (.bin .lss (.t 8) (.t 10)) .done)))))
 (.cond (.t 11) .skip
 (.exit 0)))
 (.seq (.block 1 (.reg (tm 14 (.t 3) (tm 15 (.t 4) (tm 16 (.t 0) (tm 17 (.t 4) (tq 18 (.iaddr 1 (.t 16) (.t 17)) (tq 19 (.load 1 false (.t 18)) (tq 20 (.iaddr 1 (.t 14) (.t 15)) (.q ⟨none,none,.store 1 (.t 20) (.t 19)⟩
 .done))))))))))
 (.reg (tm 12 (.t 4) (tq 13 (.bin .add (.t 12) (.c (.int .i64 1))) (tm 4 (.t 13) .done)))))))))
 (.cut (.seq (.reg (tm 21 (.t 3) (tm 2 (.t 21) .done)))
 .ret)))))
theorem f1t:a1b Tryz.prog Tryz.f20 = some (c20.erase,[.mov (.t 2)],22):=by kernel_rfl
def a3s :List Str → Nat → (List Str) → Option (List Str)
  | [],A,B =>
    some B
  | F :: xs,A,B =>
    if A < B.length then
    (B[A]?).bind fun G =>
    a3s xs (A + 1) (B.set A F)
    else none
def a9p (D:(List Str)):Option (List Str) :=
    if (D.length:Int) ≤ 2 ^ 30 then
    (a3s D 0 (List.replicate D.length [])).bind fun E =>
    some E
    else none
theorem c3i (D:(List Str)) (r:(List Str)) (hf:a9p D = some r):a0a Tryz.prog 20 .fresh [(.lst 1 (D.map AV.str))] (.lst 1 (r.map AV.str)):=by
 refine a0a.of_awp mixed Tryz.func20 f1t nle ?_;rw [a0l];unfold a9p at hf;unfold c20;refine (show awp Tryz.prog true 0 _ (ofL [(0,(.lst 1 (D.map AV.str)))]) [] _ from ?_);refine sr<|l7 .nil rfl<|dk<|sr<|?_
 obtain ⟨g3,hf⟩:=og hf
 refine l7 (.lst 1 (D.map AV.str)) rfl<|a1a (a1t (enc:=AV.str) rfl) fun hl2 => y7 (d0e (j:=0) (enc:=AV.str) (m:=D.length) [] .r rfl rfl (Int.le_refl _) g3 rfl)<|l7 (.own 0 0 D.length) rfl<|dk<|o6<|sr<|l7 (.I 0) rfl<|dk<|?_
 obtain ⟨E,hb1,hf⟩:=ob hf
 refine a2d ([(3,(.own 0 0 E.length))],[.row 1 (E.map AV.str)]) ?_ ?_
 ·refine a1h (X:={q:(Nat × (List Str)) // a3s (D.drop q.1) q.1 q.2 = some E}) (fun q => ([(0,(.lst 1 (D.map AV.str))),(3,(.own 0 0 q.1.2.length)),(4,(.I (q.1.1:Int)))],[.row 1 (q.1.2.map AV.str)])) (fun q => D.length - q.1.1) ⟨(0,List.replicate D.length []),hb1⟩ ⟨[],[0],_,_,rfl,rfl,⟨.r,⟨.of_eq (congrArg (AV.own _ 0) (by simp)),⟨.r,tr⟩⟩⟩,.r⟩ ?_
  rintro ⟨⟨A,B⟩,hc1⟩
  have hc1:a3s (D.drop A) A B = some E:=hc1
  refine (show awp Tryz.prog true 0 _ (ofL [(0,(.lst 1 (D.map AV.str))),(3,(.own 0 0 B.length)),(4,(.I (A:Int)))]) [.row 1 (B.map AV.str)] _ from ?_)
  rcases a5j D A with ⟨hie34,hd37⟩ | ⟨hlt32,F,hx33,hd37⟩
  ·rw [hd37,a3s.eq_1] at hc1
   have hq36:=dlf hie34
   refine o6<|sr<|l7 (.I (A:Int)) rfl<|l7 (.lst 1 (D.map AV.str)) rfl<|a1a (a1t (enc:=AV.str) rfl) fun hl39 => o7 (.bool (decide ((A:Int) < (D.length:Int)))) rfl rfl rfl<|dk<|x8 rfl hq36<|a2o<|a2n<|a1s<|a2m<|?_;obtain rfl:=os hc1;exact ⟨[],[0],_,_,rfl,rfl,⟨.r,tr⟩,.r⟩
  ·rw [hd37,a3s.eq_2] at hc1
   have hq36:=dlt hlt32
   refine o6<|sr<|l7 (.I (A:Int)) rfl<|l7 (.lst 1 (D.map AV.str)) rfl<|a1a (a1t (enc:=AV.str) rfl) fun hl40 => o7 (.bool (decide ((A:Int) < (D.length:Int)))) rfl rfl rfl<|dk<|x9 rfl hq36<|a0h<|a0j<|o6<|a2y<|a0t<|?_
   obtain ⟨g41,hc1⟩:=og hc1
   obtain ⟨G,ex43,hc1⟩:=ob hc1
   refine l7 (.own 0 0 B.length) rfl<|l7 (.I (A:Int)) rfl<|l7 (.lst 1 (D.map AV.str)) rfl<|l7 (.I (A:Int)) rfl<|y7 (a1m (enc:=AV.str) rfl rfl hx33)<|o7 (.str F) rfl ⟨rfl,rfl⟩ rfl<|y7 (b7m rfl rfl g41 rfl rfl)<|?_;refine a1k (a7n (v':=(.str F)) (e':=F) rfl rfl ex43 rfl rfl rfl (by decide) (fun _ => by decide) ⟨rfl,rfl,rfl⟩ .r rfl) ?_;refine a0e<|a1v<|a0j<|a0t<|l7 (.I (A:Int)) rfl<|o7 (.I (w64 ((A:Int) + 1))) rfl rfl rfl<|l7 (.I (w64 ((A:Int) + 1))) rfl<|a0e<|?_;exact a1p ⟨((A + 1),B.set A F),hc1⟩ (mul hlt32) ⟨[],[0],_,_,rfl,rfl,⟨.r,⟨.of_eq (congrArg (AV.own _ 0) (by simp)),⟨.of_eq (congrArg (AV.int _) (a1r hlt32 hl40)),tr⟩⟩⟩,.r⟩
 ·refine sr<|l7 (.own 0 0 E.length) rfl<|l7 (.own 0 0 E.length) rfl<|dk<|a0d<|?_;obtain rfl:=os hf;exact a1x ⟨tr,tr⟩ rfl (by decide) (.of_eq (congrArg (AV.lst _) (tk (enc:=AV.str) E)))
def c157:a0q :=
 (.seq (.reg (tm 2 (.c .nil) .done))
 (.seq (.reg (tm 5 (.t 0) (tq 6 (.len (.t 5)) (tq 7 (.mkslice 5 80 (.agg [(.int .i64 0),(.int .i64 0),(.str []),.nil,.nil]) (.t 6) (.t 6)) (tm 3 (.t 7) .done)))))
 (.seq (.seq (.reg (tm 4 (.c (.int .i64 0)) .done))
 (.block 0 (.loop (.seq (.seq (.reg (tm 8 (.t 4) (tm 9 (.t 0) (tq 10 (.len (.t 9)) (tq 11 (.bin .lss (.t 8) (.t 10)) .done)))))
 (.cond (.t 11) .skip
 (.exit 0)))
 (.seq (.block 1 (.reg (tm 14 (.t 3) (tm 15 (.t 4) (tm 16 (.t 0) (tm 17 (.t 4) (tq 18 (.iaddr 5 (.t 16) (.t 17)) (tq 19 (.load 5 true (.t 18)) (tq 20 (.call 67 [(.t 19)]) (tq 21 (.iaddr 5 (.t 14) (.t 15)) (.q ⟨none,none,.store 5 (.t 21) (.t 20)⟩
 .done)))))))))))
 (.reg (tm 12 (.t 4) (tq 13 (.bin .add (.t 12) (.c (.int .i64 1))) (tm 4 (.t 13) .done)))))))))
 (.cut (.seq (.reg (tm 22 (.t 3) (tm 2 (.t 22) .done)))
 .ret)))))
theorem e5z:a1b Tryz.prog Tryz.f157 = some (c157.erase,[.mov (.t 2)],23):=by kernel_rfl
def a4u (rec:(y8 → Option y8)):List y8 → Nat → (List y8) → Option (List y8)
  | [],A,B =>
    some B
  | G :: xs,A,B =>
    (rec G).bind fun D =>
    if A < B.length then
    (B[A]?).bind fun H =>
    a4u rec xs (A + 1) (B.set A D)
    else none
def b3r (rec:(y8 → Option y8)) (E:(List y8)):Option (List y8) :=
    if (E.length:Int) ≤ 2 ^ 30 then
    (a4u rec E 0 (List.replicate E.length (⟨0,0,[],[],[]⟩:y8))).bind fun F =>
    some F
    else none
theorem c6w (rec:(y8 → Option y8)) (hrec:∀ a0 r,rec a0 = some r → a0a Tryz.prog 67 .fresh [(l9 a0)] (l9 r)) (E:(List y8)) (r:(List y8)) (hf:b3r rec E = some r):a0a Tryz.prog 157 .fresh [(.lst 5 (E.map l9))] (.lst 5 (r.map l9)):=by
 refine a0a.of_awp mixed Tryz.func157 e5z nle ?_;rw [a0l];unfold b3r at hf;unfold c157;refine (show awp Tryz.prog true 0 _ (ofL [(0,(.lst 5 (E.map l9)))]) [] _ from ?_);refine sr<|l7 .nil rfl<|dk<|sr<|?_
 obtain ⟨g3,hf⟩:=og hf
 refine l7 (.lst 5 (E.map l9)) rfl<|a1a (a1t (enc:=l9) rfl) fun hl2 => y7 (d0e (j:=0) (enc:=l9) (m:=E.length) (⟨0,0,[],[],[]⟩:y8) (leJ (x:=(⟨0,0,[],[],[]⟩:y8)) (.agg (.cons .r (.cons .r (.cons .r (.cons (.nil _) (.cons (.nil _) .nil))))))) rfl rfl (Int.le_refl _) g3 rfl)<|l7 (.own 0 0 E.length) rfl<|dk<|o6<|sr<|l7 (.I 0) rfl<|dk<|?_
 obtain ⟨F,hb1,hf⟩:=ob hf
 refine a2d ([(3,(.own 0 0 F.length))],[.row 5 (F.map l9)]) ?_ ?_
 ·refine a1h (X:={q:(Nat × (List y8)) // a4u rec (E.drop q.1) q.1 q.2 = some F}) (fun q => ([(0,(.lst 5 (E.map l9))),(3,(.own 0 0 q.1.2.length)),(4,(.I (q.1.1:Int)))],[.row 5 (q.1.2.map l9)])) (fun q => E.length - q.1.1) ⟨(0,List.replicate E.length (⟨0,0,[],[],[]⟩:y8)),hb1⟩ ⟨[],[0],_,_,rfl,rfl,⟨.r,⟨.of_eq (congrArg (AV.own _ 0) (by simp)),⟨.r,tr⟩⟩⟩,.r⟩ ?_
  rintro ⟨⟨A,B⟩,hc1⟩
  have hc1:a4u rec (E.drop A) A B = some F:=hc1
  refine (show awp Tryz.prog true 0 _ (ofL [(0,(.lst 5 (E.map l9))),(3,(.own 0 0 B.length)),(4,(.I (A:Int)))]) [.row 5 (B.map l9)] _ from ?_)
  rcases a5j E A with ⟨hie40,hd43⟩ | ⟨hlt38,G,hx39,hd43⟩
  ·rw [hd43,a4u.eq_1] at hc1
   have hq42:=dlf hie40
   refine o6<|sr<|l7 (.I (A:Int)) rfl<|l7 (.lst 5 (E.map l9)) rfl<|a1a (a1t (enc:=l9) rfl) fun hl45 => o7 (.bool (decide ((A:Int) < (E.length:Int)))) rfl rfl rfl<|dk<|x8 rfl hq42<|a2o<|a2n<|a1s<|a2m<|?_;obtain rfl:=os hc1;exact ⟨[],[0],_,_,rfl,rfl,⟨.r,tr⟩,.r⟩
  ·rw [hd43,a4u.eq_2] at hc1
   have hq42:=dlt hlt38
   refine o6<|sr<|l7 (.I (A:Int)) rfl<|l7 (.lst 5 (E.map l9)) rfl<|a1a (a1t (enc:=l9) rfl) fun hl46 => o7 (.bool (decide ((A:Int) < (E.length:Int)))) rfl rfl rfl<|dk<|x9 rfl hq42<|a0h<|a0j<|o6<|a2y<|a0t<|?_
   obtain ⟨D,er48,hc1⟩:=ob hc1
   obtain ⟨g49,hc1⟩:=og hc1
   obtain ⟨H,ex51,hc1⟩:=ob hc1
   refine l7 (.own 0 0 B.length) rfl<|l7 (.I (A:Int)) rfl<|l7 (.lst 5 (E.map l9)) rfl<|l7 (.I (A:Int)) rfl<|y7 (a1m (enc:=l9) rfl rfl hx39)<|y7 (a2l (v:=(.agg [(.I G.Kind),(.I G.N),(.str G.T),(.lst 1 (G.Keys.map AV.str)),(.lst 5 (G.Items.map l9))])) rfl (o9 _) nle rfl)<|y7 (a5i (v:=(.agg [(.I D.Kind),(.I D.N),(.str D.T),(.own 1 0 D.Keys.length),(.own 2 0 D.Items.length)])) (h':=[.row 1 (D.Keys.map AV.str),.row 5 (D.Items.map l9)]) (hrec _ _ er48) rfl (.cons (.of_eq (o9 G).symm) .nil) (by simp only [a2r,a2z,List.length_map,o9,List.nil_append,List.append_nil,List.cons_append];rfl))<|?_
   refine y7 (b7m rfl rfl g49 rfl rfl) ?_
   refine a1k (b3p (v':=(.agg [(.I D.Kind),(.I D.N),(.str D.T),(.lst 1 (D.Keys.map AV.str)),(.lst 5 (D.Items.map l9))])) (e':=D) rfl rfl ex51 (o9 _) rfl rfl (by first | (simp only [tk,tko,List.take_length];done) | rfl | simp) (by decide) (fun _ => by decide) ⟨rfl,nle⟩ (.of_eq (o9 D).symm) rfl) ?_
   refine a0e<|a1v<|a0j<|a0t<|l7 (.I (A:Int)) rfl<|o7 (.I (w64 ((A:Int) + 1))) rfl rfl rfl<|l7 (.I (w64 ((A:Int) + 1))) rfl<|a0e<|?_;exact a1p ⟨((A + 1),B.set A D),hc1⟩ (mul hlt38) ⟨[],[0],_,_,rfl,rfl,⟨.r,⟨.of_eq (congrArg (AV.own _ 0) (by simp)),⟨.of_eq (congrArg (AV.int _) (a1r hlt38 hl46)),tr⟩⟩⟩,.r⟩
 ·refine sr<|l7 (.own 0 0 F.length) rfl<|l7 (.own 0 0 F.length) rfl<|dk<|a0d<|?_;obtain rfl:=os hf;exact a1x ⟨tr,tr⟩ rfl (by decide) (.of_eq (congrArg (AV.lst _) (tk (enc:=l9) F)))
def c67:a0q :=
 (.seq (.reg (tq 1 (.box 5 (.t 0)) (tq 2 (.box 5 (.c (.agg [(.int .i64 0),(.int .i64 0),(.str []),.nil,.nil]))) .done)))
 (.seq (.reg (tq 3 (.box 5 (.c (.agg [(.int .i64 0),(.int .i64 0),(.str []),.nil,.nil]))) .done))
 (.seq (.reg (tq 4 (.faddr 0 (.t 1)) (tq 5 (.load 1 false (.t 4)) (tq 6 (.faddr 0 (.t 3)) (.q ⟨none,none,.store 1 (.t 6) (.t 5)⟩
 .done)))))
 (.seq (.reg (tq 7 (.faddr 1 (.t 1)) (tq 8 (.load 1 false (.t 7)) (tq 9 (.faddr 1 (.t 3)) (.q ⟨none,none,.store 1 (.t 9) (.t 8)⟩
 .done)))))
 (.seq (.reg (tq 10 (.faddr 2 (.t 1)) (tq 11 (.load 1 false (.t 10)) (tq 12 (.faddr 2 (.t 3)) (.q ⟨none,none,.store 1 (.t 12) (.t 11)⟩
 .done)))))
 (.seq (.reg (tq 13 (.faddr 3 (.t 1)) (tq 14 (.load 1 false (.t 13)) (tq 15 (.call 20 [(.t 14)]) (tq 16 (.faddr 3 (.t 3)) (.q ⟨none,none,.store 1 (.t 16) (.t 15)⟩
 .done))))))
 (.seq (.reg (tq 17 (.faddr 4 (.t 1)) (tq 18 (.load 1 false (.t 17)) (tq 19 (.call 157 [(.t 18)]) (tq 20 (.faddr 4 (.t 3)) (.q ⟨none,none,.store 1 (.t 20) (.t 19)⟩
 .done))))))
 (.seq (.reg (tq 21 (.load 5 true (.t 3)) (.q ⟨none,none,.store 5 (.t 2) (.t 21)⟩
 .done)))
 .ret))))))))
theorem f1u:a1b Tryz.prog Tryz.f67 = some (c67.erase,[.load 5 true (.t 2)],22):=by kernel_rfl
def b2l (rec:(y8 → Option y8)) (A:y8):Option y8 :=
    (a9p A.Keys).bind fun B =>
    (b3r rec A.Items).bind fun D =>
    some (⟨A.Kind,A.N,A.T,B,D⟩:y8)
theorem c5a (rec:(y8 → Option y8)) (hrec:∀ a0 r,rec a0 = some r → a0a Tryz.prog 67 .fresh [(l9 a0)] (l9 r)) (A:y8) (r:y8) (hf:b2l rec A = some r):a0a Tryz.prog 67 .fresh [(l9 A)] (l9 r):=by
 refine a0a.of_awp mixed Tryz.func67 f1u nle ?_;rw [a0l];rw [o9 A];unfold b2l at hf;unfold c67;refine (show awp Tryz.prog true 0 _ (ofL [(0,(.agg [(.I A.Kind),(.I A.N),(.str A.T),(.lst 1 (A.Keys.map AV.str)),(.lst 5 (A.Items.map l9))]))]) [] _ from ?_);refine sr<|y7 (a1i (j:=0) (c:=(.agg [(.I A.Kind),(.I A.N),(.str A.T),(.lst 1 (A.Keys.map AV.str)),(.lst 5 (A.Items.map l9))])) rfl tr rfl rfl)<|y7 (a1i (j:=1) (c:=(.agg [(.I 0),(.I 0),(.str []),.nil,.nil])) rfl tr rfl rfl)<|dk<|sr<|y7 (a1i (j:=2) (c:=(.agg [(.I 0),(.I 0),(.str []),.nil,.nil])) rfl tr rfl rfl)<|?_
 refine dk<|sr<|o7 (.ptr 0 0 0) rfl tr rfl<|o7 (.I A.Kind) rfl nle rfl<|o7 (.ptr 2 0 0) rfl tr rfl<|a1k (a0i (v:=(.I A.Kind)) (y':=(.agg [(.I A.Kind),(.I 0),(.str []),.nil,.nil])) rfl rfl rfl tr ⟨rfl,nle⟩ ⟨⟨rfl,tr⟩,tr⟩ rfl)<|dk<|sr<|o7 (.ptr 0 0 1) rfl tr rfl<|o7 (.I A.N) rfl nle rfl<|o7 (.ptr 2 0 1) rfl tr rfl<|a1k (a0i (v:=(.I A.N)) (y':=(.agg [(.I A.Kind),(.I A.N),(.str []),.nil,.nil])) rfl rfl rfl tr ⟨rfl,nle⟩ ⟨⟨rfl,tr⟩,tr⟩ rfl)<|dk<|o6<|?_
 refine a0t<|o7 (.ptr 0 0 2) rfl tr rfl<|o7 (.str A.T) rfl nle rfl<|o7 (.ptr 2 0 2) rfl tr rfl<|a1k (a0i (v:=(.str A.T)) (y':=(.agg [(.I A.Kind),(.I A.N),(.str A.T),.nil,.nil])) rfl rfl rfl tr ⟨rfl,nle⟩ ⟨⟨rfl,tr⟩,tr⟩ rfl)<|dk<|sr<|?_
 obtain ⟨B,er3,hf⟩:=ob hf
 refine o7 (.ptr 0 0 3) rfl tr rfl<|o7 (.lst 1 (A.Keys.map AV.str)) rfl nle rfl<|y7 (a5i (v:=(.own 3 0 B.length)) (h':=[.row 1 (B.map AV.str)]) (c3i _ _ er3) rfl .r (by simp only [a2r,a2z,List.length_map,List.nil_append,List.append_nil,List.cons_append];rfl))<|o7 (.ptr 2 0 3) rfl tr rfl<|a1k (a0i (v:=(.own 3 0 B.length)) (y':=(.agg [(.I A.Kind),(.I A.N),(.str A.T),(.own 3 0 B.length),.nil])) rfl rfl rfl tr ⟨rfl,nle⟩ ⟨⟨rfl,tr⟩,tr⟩ rfl)<|dk<|sr<|?_
 obtain ⟨D,er5,hf⟩:=ob hf
 refine o7 (.ptr 0 0 4) rfl tr rfl<|o7 (.lst 5 (A.Items.map l9)) rfl nle rfl<|y7 (a5i (v:=(.own 4 0 D.length)) (h':=[.row 5 (D.map l9)]) (c6w rec hrec _ _ er5) rfl .r (by simp only [a2r,a2z,List.length_map,List.nil_append,List.append_nil,List.cons_append];rfl))<|o7 (.ptr 2 0 4) rfl tr rfl<|a1k (a0i (v:=(.own 4 0 D.length)) (y':=(.agg [(.I A.Kind),(.I A.N),(.str A.T),(.own 3 0 B.length),(.own 4 0 D.length)])) rfl rfl rfl tr ⟨rfl,nle⟩ ⟨⟨rfl,tr⟩,tr⟩ rfl)<|dk<|sr<|o7 (.agg [(.I A.Kind),(.I A.N),(.str A.T),(.own 3 0 B.length),(.own 4 0 D.length)]) rfl nle rfl<|?_
 refine a1k (a0i (v:=(.agg [(.I A.Kind),(.I A.N),(.str A.T),(.own 3 0 B.length),(.own 4 0 D.length)])) (y':=(.agg [(.I A.Kind),(.I A.N),(.str A.T),(.own 3 0 B.length),(.own 4 0 D.length)])) rfl rfl rfl tr ⟨rfl,nle⟩ ⟨⟨rfl,tr⟩,⟨⟨rfl,tr⟩,⟨⟨rfl,tr⟩,⟨⟨rfl,tr⟩,⟨⟨rfl,tr⟩,tr⟩⟩⟩⟩⟩ rfl)<|dk<|a0d<|?_;obtain rfl:=os hf;exact a1x ⟨nle,tr⟩ rfl (by decide) (leJ (x:=(⟨A.Kind,A.N,A.T,B,D⟩:y8)) (.agg (.cons .r (.cons .r (.cons .r (.cons (.of_eq (congrArg (AV.lst _) (tk (enc:=AV.str) B))) (.cons (.of_eq (congrArg (AV.lst _) (tk (enc:=l9) D))) .nil)))))))
def a5r:Nat → y8 → Option y8
 | 0,_ => none
 | k + 1,A => b2l (a5r k) A
theorem b0i:∀ (k:Nat) (A:y8) (r:y8),a5r k A = some r → a0a Tryz.prog 67 .fresh [(l9 A)] (l9 r)
 | 0,A,r,h => by rw [a5r.eq_1] at h;cases h
 | k + 1,A,r,h => by
  rw [a5r.eq_2] at h;exact c5a _ (b0i k) A r h
def c85:a0q :=
 (.seq (.reg (tm 6 (.c (.bool false)) .done))
 (.seq (.reg (tm 7 (.t 1) (tm 8 (.t 0) (tq 9 (.bin .leq (.t 7) (.t 8)) (tm 10 (.t 9) (tg 11 10 true (.mov (.t 0)) (tg 12 10 true (.mov (.t 2)) (tg 13 10 true (.bin .leq (.t 11) (.t 12)) (tq 14 (.pick (.t 10) (.t 13) (.c (.bool false))) (tm 6 (.t 14) .done))))))))))
 .ret))
theorem f1v:a1b Tryz.prog Tryz.f85 = some (c85.erase,[.mov (.t 6)],15):=by kernel_rfl
def a7o (D:Int) (A:Int) (B:Int):Option Bool :=
    if (decide (A ≤ D)) then
    some (decide (D ≤ B))
    else
    some false
theorem a6q (D:Int) (A:Int) (B:Int) (r:Bool) (hf:a7o D A B = some r):a0a Tryz.prog 85 .flat [(.I D),(.I A),(.I B)] (.bool r):=by
 refine a0a.of_awp mixed Tryz.func85 f1v nle ?_;rw [a0l];unfold a7o at hf;unfold c85;refine (show awp Tryz.prog false 0 _ (ofL [(0,(.I D)),(1,(.I A)),(2,(.I B))]) [] _ from ?_);refine sr<|l7 (.bool false) rfl<|dk<|sr<|?_
 rcases oi hf with ⟨c4,hf⟩ | ⟨c4,hf⟩
 ·refine l7 (.I A) rfl<|l7 (.I D) rfl<|o7 (.bool (decide (A ≤ D))) rfl rfl rfl<|l7 (.bool (decide (A ≤ D))) rfl<|a0x (s:=10) (b:=true) rfl c4<|s_on rfl<|l7 (.I D) rfl<|s_on rfl<|l7 (.I B) rfl<|s_on rfl<|o7 (.bool (decide (D ≤ B))) rfl rfl rfl<|o7 (.bool (decide (D ≤ B))) rfl tr rfl<|l7 (.bool (decide (D ≤ B))) rfl<|dk<|a0d<|?_;obtain rfl:=os hf;exact a0f ⟨tr,tr⟩ rfl .r
 ·refine l7 (.I A) rfl<|l7 (.I D) rfl<|o7 (.bool (decide (A ≤ D))) rfl rfl rfl<|l7 (.bool (decide (A ≤ D))) rfl<|a0x (s:=10) (b:=false) rfl (bf c4)<|y5 rfl rfl<|y5 rfl rfl<|y5 rfl rfl<|o7 (.bool false) rfl tr rfl<|l7 (.bool false) rfl<|dk<|a0d<|?_;obtain rfl:=os hf;exact a0f ⟨tr,tr⟩ rfl .r
def e6a:a0q :=
 (.seq (.reg (tm 2 (.c (.bool false)) .done))
 (.seq (.seq (.reg (tm 3 (.c (.int .i64 0)) .done))
 (.block 0 (.loop (.seq (.seq (.reg (tm 4 (.t 3) (tm 5 (.t 0) (tq 6 (.lenS (.t 5)) (tq 7 (.bin .lss (.t 4) (.t 6)) .done)))))
 (.cond (.t 7) .skip
 (.exit 0)))
 (.seq (.block 1 (.seq (.reg (tm 10 (.t 0) (tm 11 (.t 3) (tq 12 (.idxs (.t 10) (.t 11)) (tq 13 (.bin .lss (.t 12) (.c (.int .u8 32))) (tm 14 (.t 13) (tg 15 14 false (.mov (.t 0)) (tg 16 14 false (.mov (.t 3)) (tg 17 14 false (.idxs (.t 15) (.t 16)) (tg 18 14 false (.bin .gtr (.t 17) (.c (.int .u8 126))) (tq 19 (.pick (.t 14) (.c (.bool true)) (.t 18)) .done)))))))))))
 (.cut (.cond (.t 19) (.seq (.reg (tm 2 (.c (.bool false)) .done))
 .ret)
 .skip))))
 (.reg (tm 8 (.t 3) (tq 9 (.bin .add (.t 8) (.c (.int .i64 1))) (tm 3 (.t 9) .done)))))))))
 (.cut (.seq (.reg (tm 20 (.t 0) (tq 21 (.lenS (.t 20)) (tq 22 (.bin .leq (.t 21) (.c (.int .i64 200))) (tm 2 (.t 22) .done)))))
 .ret))))
theorem e6b:a1b Tryz.prog Tryz.f298 = some (e6a.erase,[.mov (.t 2)],23):=by kernel_rfl
def a4v :List UInt8 → Option (Fl Bool Unit)
  | [] =>
    some (.go ())
  | D :: xs =>
    ((if (decide ((D.toNat:Int) < 32)) then
    some true
    else
    some (decide ((D.toNat:Int) > 126)):Option Bool)).bind fun E =>
    if E then
    some (.ret false)
    else
    a4v xs 
def a6r (A:Str):Option Bool :=
    (a4v A ).bind fun q => (match q with
    | .ret r => some r
    | .go _ =>
    some (decide ((A.length:Int) ≤ 200)))
theorem b4g (A:Str) (r:Bool) (hf:a6r A = some r):a0a Tryz.prog 298 .flat [(.str A)] (.bool r):=by
 refine a0a.of_awp mixed Tryz.func298 e6b nle ?_;rw [a0l];unfold a6r at hf;unfold e6a;refine (show awp Tryz.prog false 0 _ (ofL [(0,(.str A))]) [] _ from ?_);refine sr<|l7 (.bool false) rfl<|dk<|o6<|sr<|l7 (.I 0) rfl<|dk<|?_
 obtain ⟨p50,hb1,hf⟩:=ob hf
 refine a1u (X:={q:Unit // p50 = .go q}) (fun q => ([(0,(.str A))],[])) ?_ ?_
 ·refine a1h (X:={q:Nat // a4v (A.drop q)  = some p50}) (fun q => ([(0,(.str A)),(3,(.I (q.1:Int)))],[])) (fun q => A.length - q.1) ⟨0,hb1⟩ ⟨[],[],_,_,rfl,rfl,⟨.r,⟨.r,tr⟩⟩,.r⟩ ?_
  rintro ⟨B,hc1⟩
  have hc1:a4v (A.drop B)  = some p50:=hc1
  refine (show awp Tryz.prog false 0 _ (ofL [(0,(.str A)),(3,(.I (B:Int)))]) [] _ from ?_)
  rcases a5j A B with ⟨hie53,hd56⟩ | ⟨hlt51,D,hx52,hd56⟩
  ·rw [hd56,a4v.eq_1] at hc1
   have hq55:=dlf hie53
   refine o6<|sr<|l7 (.I (B:Int)) rfl<|l7 (.str A) rfl<|a1a (a9m rfl) fun hl58 => o7 (.bool (decide ((B:Int) < (A.length:Int)))) rfl rfl rfl<|dk<|x8 rfl hq55<|a2o<|a2n<|a1s<|a2m<|?_;obtain rfl:=os hc1;exact a2s ⟨_,rfl⟩ ⟨[],[],_,_,rfl,rfl,⟨.r,tr⟩,.r⟩
  ·rw [hd56,a4v.eq_2] at hc1
   have hq55:=dlt hlt51
   refine o6<|sr<|l7 (.I (B:Int)) rfl<|l7 (.str A) rfl<|a1a (a9m rfl) fun hl59 => o7 (.bool (decide ((B:Int) < (A.length:Int)))) rfl rfl rfl<|dk<|x9 rfl hq55<|a0h<|a0j<|o6<|a2y<|o6<|?_
   obtain ⟨E,hb2,hc1⟩:=ob hc1
   refine a2d ([(0,(.str A)),(3,(.I (B:Int))),(19,(.bool E))],[]) ?_ ?_
   ·refine a0t ?_
    rcases oi hb2 with ⟨c63,hb2⟩ | ⟨c63,hb2⟩
    ·refine l7 (.str A) rfl<|l7 (.I (B:Int)) rfl<|y7 (b2j rfl rfl hx52)<|o7 (.bool (decide ((D.toNat:Int) < 32))) rfl rfl rfl<|l7 (.bool (decide ((D.toNat:Int) < 32))) rfl<|a0x (s:=14) (b:=true) rfl c63<|y5 rfl rfl<|y5 rfl rfl<|y5 rfl rfl<|y5 rfl rfl<|o7 (.bool true) rfl tr rfl<|a0e<|?_;obtain rfl:=os hb2;exact ⟨[],[],_,_,rfl,rfl,⟨.r,⟨.r,⟨.r,tr⟩⟩⟩,.r⟩
    ·refine l7 (.str A) rfl<|l7 (.I (B:Int)) rfl<|y7 (b2j rfl rfl hx52)<|o7 (.bool (decide ((D.toNat:Int) < 32))) rfl rfl rfl<|l7 (.bool (decide ((D.toNat:Int) < 32))) rfl<|a0x (s:=14) (b:=false) rfl (bf c63)<|s_on rfl<|l7 (.str A) rfl<|s_on rfl<|l7 (.I (B:Int)) rfl<|s_on rfl<|y7 (b2j rfl rfl hx52)<|s_on rfl<|o7 (.bool (decide ((D.toNat:Int) > 126))) rfl rfl rfl<|o7 (.bool (decide ((D.toNat:Int) > 126))) rfl tr rfl<|a0e<|?_;obtain rfl:=os hb2;exact ⟨[],[],_,_,rfl,rfl,⟨.r,⟨.r,⟨.r,tr⟩⟩⟩,.r⟩
   ·rcases oi hc1 with ⟨c64,hc1⟩ | ⟨c64,hc1⟩
    ·refine x9 rfl c64<|sr<|l7 (.bool false) rfl<|dk<|a0d<|?_;obtain rfl:=os hc1;obtain rfl:=os hf;exact a0f ⟨tr,tr⟩ rfl .r
    ·refine x8 rfl (bf c64)<|a0h<|a1v<|a0j<|a0t<|l7 (.I (B:Int)) rfl<|o7 (.I (w64 ((B:Int) + 1))) rfl rfl rfl<|l7 (.I (w64 ((B:Int) + 1))) rfl<|a0e<|?_;exact a1p ⟨(B + 1),hc1⟩ (mul hlt51) ⟨[],[],_,_,rfl,rfl,⟨.r,⟨.of_eq (congrArg (AV.int _) (a1r hlt51 hl59)),tr⟩⟩,.r⟩
 ·rintro ⟨_,rfl⟩
  refine sr<|l7 (.str A) rfl<|a1a (a9m rfl) fun hl65 => o7 (.bool (decide ((A.length:Int) ≤ 200))) rfl rfl rfl<|l7 (.bool (decide ((A.length:Int) ≤ 200))) rfl<|dk<|a0d<|?_;obtain rfl:=os hf;exact a0f ⟨tr,tr⟩ rfl .r
def e6c:a0q :=
 (.seq (.reg (tq 2 (.box 5 (.t 0)) (tm 4 (.c (.int .i64 0)) (tm 5 (.c (.bool false)) .done))))
 (.seq (.seq (.reg (tm 11 (.t 1) (tq 12 (.bin .eql (.t 11) (.c (.int .i64 0))) .done)))
 (.cond (.t 12) (.seq (.reg (tm 4 (.c (.int .i64 0)) (tm 5 (.c (.bool false)) .done)))
 .ret)
 .skip))
 (.seq (.reg (tq 13 (.faddr 3 (.t 2)) (tq 14 (.load 1 false (.t 13)) (tq 15 (.len (.t 14)) (tq 16 (.bin .eql (.t 15) (.c (.int .i64 0))) (tm 17 (.t 16) (tg 18 17 true (.faddr 4 (.t 2)) (tg 19 17 true (.load 1 false (.t 18)) (tg 20 17 true (.len (.t 19)) (tg 21 17 true (.bin .eql (.t 20) (.c (.int .i64 0))) (tq 22 (.pick (.t 17) (.t 21) (.c (.bool false))) (tm 6 (.t 22) .done))))))))))))
 (.cut (.seq (.seq (.reg (tq 23 (.faddr 0 (.t 2)) (tq 24 (.load 1 false (.t 23)) .done)))
 (.block 0 (.seq (.reg (tq 26 (.bin .eql (.t 24) (.c (.int .i64 0))) (tm 25 (.t 26) .done)))
 (.cond (.t 25) (.seq (.reg (tm 27 (.t 6) (tm 28 (.t 27) (tg 29 28 true (.faddr 1 (.t 2)) (tg 30 28 true (.load 1 false (.t 29)) (tg 31 28 true (.bin .eql (.t 30) (.c (.int .i64 0))) (tq 32 (.pick (.t 28) (.t 31) (.c (.bool false))) (tm 33 (.t 32) (tg 34 33 true (.faddr 2 (.t 2)) (tg 35 33 true (.load 1 false (.t 34)) (tg 36 33 true (.bin .eql (.t 35) (.c (.str []))) (tq 37 (.pick (.t 33) (.t 36) (.c (.bool false))) (tm 4 (.c (.int .i64 1)) (tm 5 (.t 37) .done))))))))))))))
 .ret)
 (.seq (.reg (tq 39 (.bin .eql (.t 24) (.c (.int .i64 1))) (tm 38 (.t 39) .done)))
 (.cond (.t 38) (.seq (.reg (tm 40 (.t 6) (tm 41 (.t 40) (tg 42 41 true (.faddr 1 (.t 2)) (tg 43 41 true (.load 1 false (.t 42)) (.l ⟨(some 44),(some (41,true)),.call 85 [(.t 43),(.c (.int .i64 0)),(.c (.int .i64 1))]⟩ []
 (tq 45 (.pick (.t 41) (.t 44) (.c (.bool false))) (tm 46 (.t 45) (tg 47 46 true (.faddr 2 (.t 2)) (tg 48 46 true (.load 1 false (.t 47)) (tg 49 46 true (.bin .eql (.t 48) (.c (.str []))) (tq 50 (.pick (.t 46) (.t 49) (.c (.bool false))) (tm 4 (.c (.int .i64 1)) (tm 5 (.t 50) .done)))))))) .non))))))
 .ret)
 (.seq (.reg (tq 52 (.bin .eql (.t 24) (.c (.int .i64 2))) (tm 51 (.t 52) .done)))
 (.cond (.t 51) (.seq (.reg (tm 53 (.t 6) (tm 54 (.t 53) (tg 55 54 true (.faddr 1 (.t 2)) (tg 56 54 true (.load 1 false (.t 55)) (.l ⟨(some 57),(some (54,true)),.call 85 [(.t 56),(.c (.int .i64 (-1000000000))),(.c (.int .i64 1000000000))]⟩ []
 (tq 58 (.pick (.t 54) (.t 57) (.c (.bool false))) (tm 59 (.t 58) (tg 60 59 true (.faddr 2 (.t 2)) (tg 61 59 true (.load 1 false (.t 60)) (tg 62 59 true (.bin .eql (.t 61) (.c (.str []))) (tq 63 (.pick (.t 59) (.t 62) (.c (.bool false))) (tm 4 (.c (.int .i64 1)) (tm 5 (.t 63) .done)))))))) .non))))))
 .ret)
 (.seq (.reg (tq 65 (.bin .eql (.t 24) (.c (.int .i64 3))) (tm 64 (.t 65) .done)))
 (.cond (.t 64) (.seq (.reg (tm 66 (.t 6) (tm 67 (.t 66) (tg 68 67 true (.faddr 1 (.t 2)) (tg 69 67 true (.load 1 false (.t 68)) (tg 70 67 true (.bin .eql (.t 69) (.c (.int .i64 0))) (tq 71 (.pick (.t 67) (.t 70) (.c (.bool false))) (tm 72 (.t 71) (tg 73 72 true (.faddr 2 (.t 2)) (tg 74 72 true (.load 1 false (.t 73)) (tg 75 72 true (.call 298 [(.t 74)]) (tq 76 (.pick (.t 72) (.t 75) (.c (.bool false))) (tm 4 (.c (.int .i64 1)) (tm 5 (.t 76) .done))))))))))))))
 .ret)
 .skip))))))))))
 (.seq (.seq (.reg (tq 77 (.faddr 0 (.t 2)) (tq 78 (.load 1 false (.t 77)) (tq 79 (.bin .neq (.t 78) (.c (.int .i64 4))) (tm 80 (.t 79) (tg 81 80 true (.faddr 0 (.t 2)) (tg 82 80 true (.load 1 false (.t 81)) (tg 83 80 true (.bin .neq (.t 82) (.c (.int .i64 5))) (tq 84 (.pick (.t 80) (.t 83) (.c (.bool false))) (tm 85 (.t 84) (tg 86 85 false (.faddr 1 (.t 2)) (tg 87 85 false (.load 1 false (.t 86)) (tg 88 85 false (.bin .neq (.t 87) (.c (.int .i64 0))) (tq 89 (.pick (.t 85) (.c (.bool true)) (.t 88)) (tm 90 (.t 89) (tg 91 90 false (.faddr 2 (.t 2)) (tg 92 90 false (.load 1 false (.t 91)) (tg 93 90 false (.bin .neq (.t 92) (.c (.str []))) (tq 94 (.pick (.t 90) (.c (.bool true)) (.t 93)) (tm 95 (.t 94) (tg 96 95 false (.faddr 0 (.t 2)) (tg 97 95 false (.load 1 false (.t 96)) (tg 98 95 false (.bin .eql (.t 97) (.c (.int .i64 4))) (tg 99 95 false (.mov (.t 98)) (tg 100 99 true (.faddr 3 (.t 2)) (tg 101 99 true (.load 1 false (.t 100)) (tg 102 99 true (.len (.t 101)) (tg 103 99 true (.bin .gtr (.t 102) (.c (.int .i64 0))) (tg 104 95 false (.pick (.t 99) (.t 103) (.c (.bool false))) (tq 105 (.pick (.t 95) (.c (.bool true)) (.t 104)) (tm 106 (.t 105) (tg 107 106 false (.faddr 0 (.t 2)) (tg 108 106 false (.load 1 false (.t 107)) (tg 109 106 false (.bin .eql (.t 108) (.c (.int .i64 5))) (tg 110 106 false (.mov (.t 109)) (tg 111 110 true (.faddr 3 (.t 2)) (tg 112 110 true (.load 1 false (.t 111)) (tg 113 110 true (.len (.t 112)) (tg 114 110 true (.faddr 4 (.t 2)) (tg 115 110 true (.load 1 false (.t 114)) (tg 116 110 true (.len (.t 115)) (tg 117 110 true (.bin .neq (.t 113) (.t 116)) (tg 118 106 false (.pick (.t 110) (.t 117) (.c (.bool false))) (tq 119 (.pick (.t 106) (.c (.bool true)) (.t 118)) .done))))))))))))))))))))))))))))))))))))))))))))
 (.cut (.cond (.t 119) (.seq (.reg (tm 4 (.c (.int .i64 0)) (tm 5 (.c (.bool false)) .done)))
 .ret)
 .skip)))
 (.seq (.reg (tm 7 (.c (.int .i64 1)) .done))
 (.seq (.seq (.reg (tm 8 (.c (.int .i64 0)) .done))
 (.block 1 (.loop (.seq (.seq (.reg (tm 120 (.t 8) (tq 121 (.faddr 4 (.t 2)) (tq 122 (.load 1 false (.t 121)) (tq 123 (.len (.t 122)) (tq 124 (.bin .lss (.t 120) (.t 123)) .done))))))
 (.cond (.t 124) .skip
 (.exit 1)))
 (.seq (.block 2 (.seq (.seq (.reg (tq 127 (.faddr 0 (.t 2)) (tq 128 (.load 1 false (.t 127)) (tq 129 (.bin .eql (.t 128) (.c (.int .i64 5))) (tm 130 (.t 129) (tg 131 130 true (.faddr 3 (.t 2)) (tg 132 130 true (.load 1 false (.t 131)) (tg 133 130 true (.mov (.t 8)) (tg 134 130 true (.iaddr 1 (.t 132) (.t 133)) (tg 135 130 true (.load 1 false (.t 134)) (.l ⟨(some 136),(some (130,true)),.call 298 [(.t 135)]⟩ []
 (tg 137 130 true (.not (.t 136)) (tg 138 130 true (.mov (.t 137)) (tg 139 138 false (.mov (.t 8)) (tg 140 138 false (.bin .gtr (.t 139) (.c (.int .i64 0))) (tg 141 138 false (.mov (.t 140)) (tg 142 141 true (.faddr 3 (.t 2)) (tg 143 141 true (.load 1 false (.t 142)) (tg 144 141 true (.mov (.t 8)) (tg 145 141 true (.bin .sub (.t 144) (.c (.int .i64 1))) (tg 146 141 true (.iaddr 1 (.t 143) (.t 145)) (tg 147 141 true (.load 1 false (.t 146)) (tg 148 141 true (.faddr 3 (.t 2)) (tg 149 141 true (.load 1 false (.t 148)) (tg 150 141 true (.mov (.t 8)) (tg 151 141 true (.iaddr 1 (.t 149) (.t 150)) (tg 152 141 true (.load 1 false (.t 151)) (tg 153 141 true (.bin .geq (.t 147) (.t 152)) (tg 154 138 false (.pick (.t 141) (.t 153) (.c (.bool false))) (tg 155 130 true (.pick (.t 138) (.c (.bool true)) (.t 154)) (tq 156 (.pick (.t 130) (.t 155) (.c (.bool false))) .done)))))))))))))))))))) .non)))))))))))
 (.cut (.cond (.t 156) (.seq (.reg (tm 4 (.c (.int .i64 0)) (tm 5 (.c (.bool false)) .done)))
 .ret)
 .skip)))
 (.seq (.reg (tq 158 (.faddr 4 (.t 2)) (tq 159 (.load 1 false (.t 158)) (tm 160 (.t 8) (tq 161 (.iaddr 5 (.t 159) (.t 160)) (tq 162 (.load 5 true (.t 161)) (tm 163 (.t 1) (tq 164 (.bin .sub (.t 163) (.c (.int .i64 1))) (tq 165 (.call 217 [(.t 162),(.t 164)]) (tm 157 (.t 165) (tq 166 (.extract 0 (.t 157)) (tq 167 (.extract 1 (.t 157)) (tm 9 (.t 166) (tm 10 (.t 167) .done))))))))))))))
 (.seq (.reg (tm 168 (.t 7) (tm 169 (.t 9) (tq 170 (.bin .add (.t 168) (.t 169)) (tm 7 (.t 170) .done)))))
 (.seq (.reg (tm 171 (.t 10) (tq 172 (.not (.t 171)) (tm 173 (.t 172) (tg 174 173 false (.mov (.t 7)) (tg 175 173 false (.bin .gtr (.t 174) (.c (.int .i64 400))) (tq 176 (.pick (.t 173) (.c (.bool true)) (.t 175)) .done)))))))
 (.cut (.cond (.t 176) (.seq (.reg (tm 4 (.c (.int .i64 0)) (tm 5 (.c (.bool false)) .done)))
 .ret)
 .skip)))))))
 (.reg (tm 125 (.t 8) (tq 126 (.bin .add (.t 125) (.c (.int .i64 1))) (tm 8 (.t 126) .done)))))))))
 (.cut (.seq (.reg (tm 177 (.t 7) (tm 4 (.t 177) (tm 5 (.c (.bool true)) .done))))
 .ret))))))))))
theorem e6d:a1b Tryz.prog Tryz.f217 = some (e6c.erase,[.mov (.t 4),.mov (.t 5)],178):=by kernel_rfl
def a4g (A:y8) (rec:(y8 → Int → Option (Int × Bool))) (D:Int):List y8 → Int → Nat → Option (Fl (Int × Bool) Int)
  | [],G,F =>
    some (.go G)
  | H :: xs,G,F =>
    ((if (A.Kind == 5) then
    (idx A.Keys (F:Int)).bind fun U =>
    (a6r U).bind fun R =>
    if (!R) then
    some true
    else
    if (decide ((F:Int) > 0)) then
    (idx A.Keys (w64 ((F:Int) - 1))).bind fun J =>
    (idx A.Keys (F:Int)).bind fun K =>
    some (!Op.bytesLess J K)
    else
    some false
    else
    some false:Option Bool)).bind fun O =>
    if O then
    some (.ret (0,false))
    else
    (rec H (w64 (D - 1))).bind fun E =>
    ((if (!E.2) then
    some true
    else
    some (decide (w64 (G + E.1) > 400)):Option Bool)).bind fun P =>
    if P then
    some (.ret (0,false))
    else
    a4g A rec D xs (w64 (G + E.1)) (F + 1)
def b1h (rec:(y8 → Int → Option (Int × Bool))) (A:y8) (D:Int):Option (Int × Bool) :=
    if (D == 0) then
    some (0,false)
    else
    ((if ((A.Keys.length:Int) == 0) then
    some ((A.Items.length:Int) == 0)
    else
    some false:Option Bool)).bind fun B =>
    if (A.Kind == 0) then
    some (1,(bif (bif B then (A.N == 0) else false) then (A.T == []) else false))
    else
    if (A.Kind == 1) then
    if B then
    (a7o A.N 0 1).bind fun L =>
    some (1,(bif L then (A.T == []) else false))
    else
    some (1,false)
    else
    if (A.Kind == 2) then
    if B then
    (a7o A.N (-1000000000) 1000000000).bind fun M =>
    some (1,(bif M then (A.T == []) else false))
    else
    some (1,false)
    else
    if (A.Kind == 3) then
    if (bif B then (A.N == 0) else false) then
    (a6r A.T).bind fun V =>
    some (1,V)
    else
    some (1,false)
    else
    ((some ():Option Unit)).bind fun _ =>
    if (bif (bif (bif (bif (bif (A.Kind != 4) then (A.Kind != 5) else false) then true else (A.N != 0)) then true else (!(A.T == []))) then true else (bif (A.Kind == 4) then (decide ((A.Keys.length:Int) > 0)) else false)) then true else (bif (A.Kind == 5) then ((A.Keys.length:Int) != (A.Items.length:Int)) else false)) then
    some (0,false)
    else
    (a4g A rec D A.Items 1 0).bind fun q => (match q with
    | .ret r => some r
    | .go S =>
    some (S,true))
theorem c6x (rec:(y8 → Int → Option (Int × Bool))) (hrec:∀ a0 a1 r,rec a0 a1 = some r → a0a Tryz.prog 217 .flat [(l9 a0),(.I a1)] (.tup [(.I r.1),(.bool r.2)])) (A:y8) (D:Int) (r:(Int × Bool)) (hf:b1h rec A D = some r):a0a Tryz.prog 217 .flat [(l9 A),(.I D)] (.tup [(.I r.1),(.bool r.2)]):=by
 refine a0a.of_awp mixed Tryz.func217 e6d nle ?_;rw [a0l];rw [o9 A];unfold b1h at hf;unfold e6c;refine (show awp Tryz.prog false 0 _ (ofL [(0,(.agg [(.I A.Kind),(.I A.N),(.str A.T),(.lst 1 (A.Keys.map AV.str)),(.lst 5 (A.Items.map l9))])),(1,(.I D))]) [] _ from ?_);refine sr<|y7 (a1i (j:=0) (c:=(.agg [(.I A.Kind),(.I A.N),(.str A.T),(.lst 1 (A.Keys.map AV.str)),(.lst 5 (A.Items.map l9))])) rfl tr rfl rfl)<|l7 (.I 0) rfl<|l7 (.bool false) rfl<|dk<|o6<|sr<|l7 (.I D) rfl<|o7 (.bool (D == 0)) rfl rfl rfl<|?_
 refine dk<|?_
 rcases oi hf with ⟨c3,hf⟩ | ⟨c3,hf⟩
 ·refine x9 rfl c3<|sr<|l7 (.I 0) rfl<|l7 (.bool false) rfl<|dk<|a0d<|?_;obtain rfl:=os hf;exact a0f ⟨tr,⟨tr,tr⟩⟩ rfl .r
 ·refine x8 rfl (bf c3)<|a0h<|a0j<|o6<|?_
  obtain ⟨B,hb1,hf⟩:=ob hf
  refine a2d ([(1,(.I D)),(2,(.ptr 0 0 0)),(6,(.bool B))],[.box 5 (.agg [(.I A.Kind),(.I A.N),(.str A.T),(.lst 1 (A.Keys.map AV.str)),(.lst 5 (A.Items.map l9))])]) ?_ ?_
  ·refine a0t ?_
   rcases oi hb1 with ⟨c10,hb1⟩ | ⟨c10,hb1⟩
   ·refine o7 (.ptr 0 0 3) rfl tr rfl<|o7 (.lst 1 (A.Keys.map AV.str)) rfl nle rfl<|a1a (a1t (enc:=AV.str) rfl) fun hl9 => o7 (.bool ((A.Keys.length:Int) == 0)) rfl rfl rfl<|l7 (.bool ((A.Keys.length:Int) == 0)) rfl<|a0x (s:=17) (b:=true) rfl c10<|s_on rfl<|o7 (.ptr 0 0 4) rfl tr rfl<|s_on rfl<|o7 (.lst 5 (A.Items.map l9)) rfl nle rfl<|s_on rfl<|a1a (a1t (enc:=l9) rfl) fun hl11 => s_on rfl<|o7 (.bool ((A.Items.length:Int) == 0)) rfl rfl rfl<|o7 (.bool ((A.Items.length:Int) == 0)) rfl tr rfl<|l7 (.bool ((A.Items.length:Int) == 0)) rfl<|a0e<|?_;obtain rfl:=os hb1;exact ⟨[],[0],_,_,rfl,rfl,⟨.r,⟨.r,⟨.r,tr⟩⟩⟩,.r⟩
   ·refine o7 (.ptr 0 0 3) rfl tr rfl<|o7 (.lst 1 (A.Keys.map AV.str)) rfl nle rfl<|a1a (a1t (enc:=AV.str) rfl) fun hl9 => o7 (.bool ((A.Keys.length:Int) == 0)) rfl rfl rfl<|l7 (.bool ((A.Keys.length:Int) == 0)) rfl<|a0x (s:=17) (b:=false) rfl (bf c10)<|y5 rfl rfl<|y5 rfl rfl<|y5 rfl rfl<|y5 rfl rfl<|o7 (.bool false) rfl tr rfl<|l7 (.bool false) rfl<|a0e<|?_;obtain rfl:=os hb1;exact ⟨[],[0],_,_,rfl,rfl,⟨.r,⟨.r,⟨.r,tr⟩⟩⟩,.r⟩
  ·refine o6<|sr<|o7 (.ptr 0 0 0) rfl tr rfl<|o7 (.I A.Kind) rfl nle rfl<|dk<|a2y<|sr<|o7 (.bool (A.Kind == 0)) rfl rfl rfl<|l7 (.bool (A.Kind == 0)) rfl<|dk<|?_
   rcases oi hf with ⟨c12,hf⟩ | ⟨c12,hf⟩
   ·refine x9 rfl c12<|sr<|l7 (.bool B) rfl<|l7 (.bool B) rfl<|?_;refine s_g (v:=B) (.ptr 0 0 1) rfl (fun hv => by (try simp only [a0c hv]);exact ⟨rfl,tr,rfl⟩) ?_;refine s_g (v:=B) (.I A.N) rfl (fun hv => by (try simp only [a0c hv]);exact ⟨rfl,nle,rfl⟩) ?_;refine s_g (v:=B) (.bool (A.N == 0)) rfl (fun hv => by (try simp only [a0c hv]);exact ⟨rfl,rfl,rfl⟩) ?_;refine a3a (x:=(A.N == 0)) (y:=false) rfl (fun hv => by (try simp only [a0c hv]);rfl) (fun hv => by (try simp only [a0c hv]);rfl) ?_;refine l7 (.bool (bif B then (A.N == 0) else false)) rfl ?_;refine s_g (v:=(bif B then (A.N == 0) else false)) (.ptr 0 0 2) rfl (fun hv => by (try simp only [a0c hv]);exact ⟨rfl,tr,rfl⟩) ?_
    refine s_g (v:=(bif B then (A.N == 0) else false)) (.str A.T) rfl (fun hv => by (try simp only [a0c hv]);exact ⟨rfl,nle,rfl⟩) ?_;refine s_g (v:=(bif B then (A.N == 0) else false)) (.bool (A.T == [])) rfl (fun hv => by (try simp only [a0c hv]);exact ⟨rfl,tr,rfl⟩) ?_;refine a3a (x:=(A.T == [])) (y:=false) rfl (fun hv => by (try simp only [a0c hv]);rfl) (fun hv => by (try simp only [a0c hv]);rfl) ?_;refine l7 (.I 1) rfl<|l7 (.bool (bif (bif B then (A.N == 0) else false) then (A.T == []) else false)) rfl<|dk<|a0d<|?_;obtain rfl:=os hf;exact a0f ⟨tr,⟨tr,tr⟩⟩ rfl .r
   ·refine x8 rfl (bf c12)<|sr<|o7 (.bool (A.Kind == 1)) rfl rfl rfl<|l7 (.bool (A.Kind == 1)) rfl<|dk<|?_
    rcases oi hf with ⟨c13,hf⟩ | ⟨c13,hf⟩
    ·refine x9 rfl c13<|sr<|l7 (.bool B) rfl<|l7 (.bool B) rfl<|?_
     rcases oi hf with ⟨c14,hf⟩ | ⟨c14,hf⟩
     ·refine a0x (s:=41) (b:=true) rfl c14<|s_on rfl<|o7 (.ptr 0 0 1) rfl tr rfl<|s_on rfl<|o7 (.I A.N) rfl nle rfl<|c6t rfl<|?_
      obtain ⟨L,er16,hf⟩:=ob hf
      refine a2e (a0p (a6q _ _ _ _ er16) rfl .r rfl) a2j tr<|o7 (.bool L) rfl tr rfl<|l7 (.bool L) rfl<|?_;refine s_g (v:=L) (.ptr 0 0 2) rfl (fun hv => by (try simp only [a0c hv]);exact ⟨rfl,tr,rfl⟩) ?_;refine s_g (v:=L) (.str A.T) rfl (fun hv => by (try simp only [a0c hv]);exact ⟨rfl,nle,rfl⟩) ?_;refine s_g (v:=L) (.bool (A.T == [])) rfl (fun hv => by (try simp only [a0c hv]);exact ⟨rfl,tr,rfl⟩) ?_;refine a3a (x:=(A.T == [])) (y:=false) rfl (fun hv => by (try simp only [a0c hv]);rfl) (fun hv => by (try simp only [a0c hv]);rfl) ?_;refine l7 (.I 1) rfl<|l7 (.bool (bif L then (A.T == []) else false)) rfl<|?_
      refine dk<|a0d<|?_;obtain rfl:=os hf;exact a0f ⟨tr,⟨tr,tr⟩⟩ rfl .r
     ·refine a0x (s:=41) (b:=false) rfl (bf c14)<|y5 rfl rfl<|y5 rfl rfl<|c0d rfl rfl tr<|o7 (.bool false) rfl tr rfl<|l7 (.bool false) rfl<|y5 rfl rfl<|y5 rfl rfl<|y5 rfl rfl<|o7 (.bool false) rfl tr rfl<|l7 (.I 1) rfl<|l7 (.bool false) rfl<|dk<|a0d<|?_;obtain rfl:=os hf;exact a0f ⟨tr,⟨tr,tr⟩⟩ rfl .r
    ·refine x8 rfl (bf c13)<|sr<|o7 (.bool (A.Kind == 2)) rfl rfl rfl<|l7 (.bool (A.Kind == 2)) rfl<|dk<|?_
     rcases oi hf with ⟨c17,hf⟩ | ⟨c17,hf⟩
     ·refine x9 rfl c17<|sr<|l7 (.bool B) rfl<|l7 (.bool B) rfl<|?_
      rcases oi hf with ⟨c18,hf⟩ | ⟨c18,hf⟩
      ·refine a0x (s:=54) (b:=true) rfl c18<|s_on rfl<|o7 (.ptr 0 0 1) rfl tr rfl<|s_on rfl<|o7 (.I A.N) rfl nle rfl<|c6t rfl<|?_
       obtain ⟨M,er20,hf⟩:=ob hf
       refine a2e (a0p (a6q _ _ _ _ er20) rfl .r rfl) a2j tr<|o7 (.bool M) rfl tr rfl<|l7 (.bool M) rfl<|?_;refine s_g (v:=M) (.ptr 0 0 2) rfl (fun hv => by (try simp only [a0c hv]);exact ⟨rfl,tr,rfl⟩) ?_;refine s_g (v:=M) (.str A.T) rfl (fun hv => by (try simp only [a0c hv]);exact ⟨rfl,nle,rfl⟩) ?_;refine s_g (v:=M) (.bool (A.T == [])) rfl (fun hv => by (try simp only [a0c hv]);exact ⟨rfl,tr,rfl⟩) ?_;refine a3a (x:=(A.T == [])) (y:=false) rfl (fun hv => by (try simp only [a0c hv]);rfl) (fun hv => by (try simp only [a0c hv]);rfl) ?_;refine l7 (.I 1) rfl<|l7 (.bool (bif M then (A.T == []) else false)) rfl<|?_
       refine dk<|a0d<|?_;obtain rfl:=os hf;exact a0f ⟨tr,⟨tr,tr⟩⟩ rfl .r
      ·refine a0x (s:=54) (b:=false) rfl (bf c18)<|y5 rfl rfl<|y5 rfl rfl<|c0d rfl rfl tr<|o7 (.bool false) rfl tr rfl<|l7 (.bool false) rfl<|y5 rfl rfl<|y5 rfl rfl<|y5 rfl rfl<|o7 (.bool false) rfl tr rfl<|l7 (.I 1) rfl<|l7 (.bool false) rfl<|dk<|a0d<|?_;obtain rfl:=os hf;exact a0f ⟨tr,⟨tr,tr⟩⟩ rfl .r
     ·refine x8 rfl (bf c17)<|sr<|o7 (.bool (A.Kind == 3)) rfl rfl rfl<|l7 (.bool (A.Kind == 3)) rfl<|dk<|?_
      rcases oi hf with ⟨c21,hf⟩ | ⟨c21,hf⟩
      ·refine x9 rfl c21<|sr<|l7 (.bool B) rfl<|l7 (.bool B) rfl<|?_;refine s_g (v:=B) (.ptr 0 0 1) rfl (fun hv => by (try simp only [a0c hv]);exact ⟨rfl,tr,rfl⟩) ?_;refine s_g (v:=B) (.I A.N) rfl (fun hv => by (try simp only [a0c hv]);exact ⟨rfl,nle,rfl⟩) ?_;refine s_g (v:=B) (.bool (A.N == 0)) rfl (fun hv => by (try simp only [a0c hv]);exact ⟨rfl,rfl,rfl⟩) ?_;refine a3a (x:=(A.N == 0)) (y:=false) rfl (fun hv => by (try simp only [a0c hv]);rfl) (fun hv => by (try simp only [a0c hv]);rfl) ?_;refine l7 (.bool (bif B then (A.N == 0) else false)) rfl ?_
       rcases oi hf with ⟨c22,hf⟩ | ⟨c22,hf⟩
       ·refine a0x (s:=72) (b:=true) rfl c22<|s_on rfl<|o7 (.ptr 0 0 2) rfl tr rfl<|s_on rfl<|o7 (.str A.T) rfl nle rfl<|s_on rfl<|?_
        obtain ⟨V,er24,hf⟩:=ob hf
        refine y7 (a0p (b4g _ _ er24) rfl .r rfl)<|o7 (.bool V) rfl tr rfl<|l7 (.I 1) rfl<|l7 (.bool V) rfl<|dk<|a0d<|?_;obtain rfl:=os hf;exact a0f ⟨tr,⟨tr,tr⟩⟩ rfl .r
       ·refine a0x (s:=72) (b:=false) rfl (bf c22)<|y5 rfl rfl<|y5 rfl rfl<|y5 rfl rfl<|o7 (.bool false) rfl tr rfl<|l7 (.I 1) rfl<|l7 (.bool false) rfl<|dk<|a0d<|?_;obtain rfl:=os hf;exact a0f ⟨tr,⟨tr,tr⟩⟩ rfl .r
      ·refine x8 rfl (bf c21)<|a0h<|a1v<|a0j<|o6<|o6<|?_
       obtain ⟨p28,hb1,hf⟩:=ob hf
       refine a2d ([(1,(.I D)),(2,(.ptr 0 0 0)),(119,(.bool (bif (bif (bif (bif (bif (A.Kind != 4) then (A.Kind != 5) else false) then true else (A.N != 0)) then true else (!(A.T == []))) then true else (bif (A.Kind == 4) then (decide ((A.Keys.length:Int) > 0)) else false)) then true else (bif (A.Kind == 5) then ((A.Keys.length:Int) != (A.Items.length:Int)) else false))))],[.box 5 (.agg [(.I A.Kind),(.I A.N),(.str A.T),(.lst 1 (A.Keys.map AV.str)),(.lst 5 (A.Items.map l9))])]) ?_ ?_
       ·refine a0t<|o7 (.ptr 0 0 0) rfl tr rfl<|o7 (.I A.Kind) rfl nle rfl<|o7 (.bool (A.Kind != 4)) rfl rfl rfl<|l7 (.bool (A.Kind != 4)) rfl<|?_;refine s_g (v:=(A.Kind != 4)) (.ptr 0 0 0) rfl (fun hv => by (try simp only [a0c hv]);exact ⟨rfl,tr,rfl⟩) ?_;refine s_g (v:=(A.Kind != 4)) (.I A.Kind) rfl (fun hv => by (try simp only [a0c hv]);exact ⟨rfl,nle,rfl⟩) ?_;refine s_g (v:=(A.Kind != 4)) (.bool (A.Kind != 5)) rfl (fun hv => by (try simp only [a0c hv]);exact ⟨rfl,rfl,rfl⟩) ?_;refine a3a (x:=(A.Kind != 5)) (y:=false) rfl (fun hv => by (try simp only [a0c hv]);rfl) (fun hv => by (try simp only [a0c hv]);rfl) ?_;refine l7 (.bool (bif (A.Kind != 4) then (A.Kind != 5) else false)) rfl ?_
        refine s_g (v:=(bif (A.Kind != 4) then (A.Kind != 5) else false)) (.ptr 0 0 1) rfl (fun hv => by (try simp only [a0c hv]);exact ⟨rfl,tr,rfl⟩) ?_;refine s_g (v:=(bif (A.Kind != 4) then (A.Kind != 5) else false)) (.I A.N) rfl (fun hv => by (try simp only [a0c hv]);exact ⟨rfl,nle,rfl⟩) ?_;refine s_g (v:=(bif (A.Kind != 4) then (A.Kind != 5) else false)) (.bool (A.N != 0)) rfl (fun hv => by (try simp only [a0c hv]);exact ⟨rfl,rfl,rfl⟩) ?_;refine a3a (x:=true) (y:=(A.N != 0)) rfl (fun hv => by (try simp only [a0c hv]);rfl) (fun hv => by (try simp only [a0c hv]);rfl) ?_;refine l7 (.bool (bif (bif (A.Kind != 4) then (A.Kind != 5) else false) then true else (A.N != 0))) rfl ?_
        refine s_g (v:=(bif (bif (A.Kind != 4) then (A.Kind != 5) else false) then true else (A.N != 0))) (.ptr 0 0 2) rfl (fun hv => by (try simp only [a0c hv]);exact ⟨rfl,tr,rfl⟩) ?_;refine s_g (v:=(bif (bif (A.Kind != 4) then (A.Kind != 5) else false) then true else (A.N != 0))) (.str A.T) rfl (fun hv => by (try simp only [a0c hv]);exact ⟨rfl,nle,rfl⟩) ?_;refine s_g (v:=(bif (bif (A.Kind != 4) then (A.Kind != 5) else false) then true else (A.N != 0))) (.bool (!(A.T == []))) rfl (fun hv => by (try simp only [a0c hv]);exact ⟨rfl,tr,rfl⟩) ?_;refine a3a (x:=true) (y:=(!(A.T == []))) rfl (fun hv => by (try simp only [a0c hv]);rfl) (fun hv => by (try simp only [a0c hv]);rfl) ?_
        refine l7 (.bool (bif (bif (bif (A.Kind != 4) then (A.Kind != 5) else false) then true else (A.N != 0)) then true else (!(A.T == [])))) rfl ?_;refine s_g (v:=(bif (bif (bif (A.Kind != 4) then (A.Kind != 5) else false) then true else (A.N != 0)) then true else (!(A.T == [])))) (.ptr 0 0 0) rfl (fun hv => by (try simp only [a0c hv]);exact ⟨rfl,tr,rfl⟩) ?_;refine s_g (v:=(bif (bif (bif (A.Kind != 4) then (A.Kind != 5) else false) then true else (A.N != 0)) then true else (!(A.T == [])))) (.I A.Kind) rfl (fun hv => by (try simp only [a0c hv]);exact ⟨rfl,nle,rfl⟩) ?_;refine s_g (v:=(bif (bif (bif (A.Kind != 4) then (A.Kind != 5) else false) then true else (A.N != 0)) then true else (!(A.T == [])))) (.bool (A.Kind == 4)) rfl (fun hv => by (try simp only [a0c hv]);exact ⟨rfl,rfl,rfl⟩) ?_
        refine s_g (v:=(bif (bif (bif (A.Kind != 4) then (A.Kind != 5) else false) then true else (A.N != 0)) then true else (!(A.T == [])))) (.bool (A.Kind == 4)) rfl (fun hv => by (try simp only [a0c hv]);exact ⟨rfl,tr,rfl⟩) ?_;refine c0e (v1:=(bif (bif (bif (A.Kind != 4) then (A.Kind != 5) else false) then true else (A.N != 0)) then true else (!(A.T == [])))) (b1:=false) (v2:=(A.Kind == 4)) (.ptr 0 0 3) rfl (fun hv hw => by (try simp only [a0c hv,a0c hw]);exact ⟨rfl,tr,rfl⟩) ?_;refine c0e (v1:=(bif (bif (bif (A.Kind != 4) then (A.Kind != 5) else false) then true else (A.N != 0)) then true else (!(A.T == [])))) (b1:=false) (v2:=(A.Kind == 4)) (.lst 1 (A.Keys.map AV.str)) rfl (fun hv hw => by (try simp only [a0c hv,a0c hw]);exact ⟨rfl,nle,rfl⟩) ?_
        refine c0e (v1:=(bif (bif (bif (A.Kind != 4) then (A.Kind != 5) else false) then true else (A.N != 0)) then true else (!(A.T == [])))) (b1:=false) (v2:=(A.Kind == 4)) (.I (A.Keys.length:Int)) rfl (fun hv hw => by (try simp only [a0c hv,a0c hw]);exact ⟨rfl,tr,lenV _ _⟩) ?_;refine c0e (v1:=(bif (bif (bif (A.Kind != 4) then (A.Kind != 5) else false) then true else (A.N != 0)) then true else (!(A.T == [])))) (b1:=false) (v2:=(A.Kind == 4)) (.bool (decide ((A.Keys.length:Int) > 0))) rfl (fun hv hw => by (try simp only [a0c hv,a0c hw]);exact ⟨rfl,rfl,rfl⟩) ?_;refine e3d (v1:=(bif (bif (bif (A.Kind != 4) then (A.Kind != 5) else false) then true else (A.N != 0)) then true else (!(A.T == [])))) (b1:=false) (v2:=(A.Kind == 4)) (x:=(decide ((A.Keys.length:Int) > 0))) (y:=false) rfl (fun hv => by (try simp only [a0c hv]);rfl) (fun hv hw => by (try simp only [a0c hv,a0c hw]);rfl) (fun hv hw => by (try simp only [a0c hv,a0c hw]);rfl) ?_
        refine a3a (x:=true) (y:=(bif (A.Kind == 4) then (decide ((A.Keys.length:Int) > 0)) else false)) rfl (fun hv => by (try simp only [a0c hv]);rfl) (fun hv => by (try simp only [a0c hv]);rfl) ?_;refine l7 (.bool (bif (bif (bif (bif (A.Kind != 4) then (A.Kind != 5) else false) then true else (A.N != 0)) then true else (!(A.T == []))) then true else (bif (A.Kind == 4) then (decide ((A.Keys.length:Int) > 0)) else false))) rfl ?_;refine s_g (v:=(bif (bif (bif (bif (A.Kind != 4) then (A.Kind != 5) else false) then true else (A.N != 0)) then true else (!(A.T == []))) then true else (bif (A.Kind == 4) then (decide ((A.Keys.length:Int) > 0)) else false))) (.ptr 0 0 0) rfl (fun hv => by (try simp only [a0c hv]);exact ⟨rfl,tr,rfl⟩) ?_
        refine s_g (v:=(bif (bif (bif (bif (A.Kind != 4) then (A.Kind != 5) else false) then true else (A.N != 0)) then true else (!(A.T == []))) then true else (bif (A.Kind == 4) then (decide ((A.Keys.length:Int) > 0)) else false))) (.I A.Kind) rfl (fun hv => by (try simp only [a0c hv]);exact ⟨rfl,nle,rfl⟩) ?_;refine s_g (v:=(bif (bif (bif (bif (A.Kind != 4) then (A.Kind != 5) else false) then true else (A.N != 0)) then true else (!(A.T == []))) then true else (bif (A.Kind == 4) then (decide ((A.Keys.length:Int) > 0)) else false))) (.bool (A.Kind == 5)) rfl (fun hv => by (try simp only [a0c hv]);exact ⟨rfl,rfl,rfl⟩) ?_;refine s_g (v:=(bif (bif (bif (bif (A.Kind != 4) then (A.Kind != 5) else false) then true else (A.N != 0)) then true else (!(A.T == []))) then true else (bif (A.Kind == 4) then (decide ((A.Keys.length:Int) > 0)) else false))) (.bool (A.Kind == 5)) rfl (fun hv => by (try simp only [a0c hv]);exact ⟨rfl,tr,rfl⟩) ?_
        refine c0e (v1:=(bif (bif (bif (bif (A.Kind != 4) then (A.Kind != 5) else false) then true else (A.N != 0)) then true else (!(A.T == []))) then true else (bif (A.Kind == 4) then (decide ((A.Keys.length:Int) > 0)) else false))) (b1:=false) (v2:=(A.Kind == 5)) (.ptr 0 0 3) rfl (fun hv hw => by (try simp only [a0c hv,a0c hw]);exact ⟨rfl,tr,rfl⟩) ?_;refine c0e (v1:=(bif (bif (bif (bif (A.Kind != 4) then (A.Kind != 5) else false) then true else (A.N != 0)) then true else (!(A.T == []))) then true else (bif (A.Kind == 4) then (decide ((A.Keys.length:Int) > 0)) else false))) (b1:=false) (v2:=(A.Kind == 5)) (.lst 1 (A.Keys.map AV.str)) rfl (fun hv hw => by (try simp only [a0c hv,a0c hw]);exact ⟨rfl,nle,rfl⟩) ?_
        refine c0e (v1:=(bif (bif (bif (bif (A.Kind != 4) then (A.Kind != 5) else false) then true else (A.N != 0)) then true else (!(A.T == []))) then true else (bif (A.Kind == 4) then (decide ((A.Keys.length:Int) > 0)) else false))) (b1:=false) (v2:=(A.Kind == 5)) (.I (A.Keys.length:Int)) rfl (fun hv hw => by (try simp only [a0c hv,a0c hw]);exact ⟨rfl,tr,lenV _ _⟩) ?_;refine c0e (v1:=(bif (bif (bif (bif (A.Kind != 4) then (A.Kind != 5) else false) then true else (A.N != 0)) then true else (!(A.T == []))) then true else (bif (A.Kind == 4) then (decide ((A.Keys.length:Int) > 0)) else false))) (b1:=false) (v2:=(A.Kind == 5)) (.ptr 0 0 4) rfl (fun hv hw => by (try simp only [a0c hv,a0c hw]);exact ⟨rfl,tr,rfl⟩) ?_
        refine c0e (v1:=(bif (bif (bif (bif (A.Kind != 4) then (A.Kind != 5) else false) then true else (A.N != 0)) then true else (!(A.T == []))) then true else (bif (A.Kind == 4) then (decide ((A.Keys.length:Int) > 0)) else false))) (b1:=false) (v2:=(A.Kind == 5)) (.lst 5 (A.Items.map l9)) rfl (fun hv hw => by (try simp only [a0c hv,a0c hw]);exact ⟨rfl,nle,rfl⟩) ?_;refine c0e (v1:=(bif (bif (bif (bif (A.Kind != 4) then (A.Kind != 5) else false) then true else (A.N != 0)) then true else (!(A.T == []))) then true else (bif (A.Kind == 4) then (decide ((A.Keys.length:Int) > 0)) else false))) (b1:=false) (v2:=(A.Kind == 5)) (.I (A.Items.length:Int)) rfl (fun hv hw => by (try simp only [a0c hv,a0c hw]);exact ⟨rfl,tr,lenV _ _⟩) ?_
        refine c0e (v1:=(bif (bif (bif (bif (A.Kind != 4) then (A.Kind != 5) else false) then true else (A.N != 0)) then true else (!(A.T == []))) then true else (bif (A.Kind == 4) then (decide ((A.Keys.length:Int) > 0)) else false))) (b1:=false) (v2:=(A.Kind == 5)) (.bool ((A.Keys.length:Int) != (A.Items.length:Int))) rfl (fun hv hw => by (try simp only [a0c hv,a0c hw]);exact ⟨rfl,rfl,rfl⟩) ?_;refine e3d (v1:=(bif (bif (bif (bif (A.Kind != 4) then (A.Kind != 5) else false) then true else (A.N != 0)) then true else (!(A.T == []))) then true else (bif (A.Kind == 4) then (decide ((A.Keys.length:Int) > 0)) else false))) (b1:=false) (v2:=(A.Kind == 5)) (x:=((A.Keys.length:Int) != (A.Items.length:Int))) (y:=false) rfl (fun hv => by (try simp only [a0c hv]);rfl) (fun hv hw => by (try simp only [a0c hv,a0c hw]);rfl) (fun hv hw => by (try simp only [a0c hv,a0c hw]);rfl) ?_
        refine a3a (x:=true) (y:=(bif (A.Kind == 5) then ((A.Keys.length:Int) != (A.Items.length:Int)) else false)) rfl (fun hv => by (try simp only [a0c hv]);rfl) (fun hv => by (try simp only [a0c hv]);rfl) ?_;refine a0e ?_;obtain rfl:=os hb1;exact ⟨[],[0],_,_,rfl,rfl,⟨.r,⟨.r,⟨.r,tr⟩⟩⟩,.r⟩
       ·rcases oi hf with ⟨c32,hf⟩ | ⟨c32,hf⟩
        ·refine x9 rfl c32<|sr<|l7 (.I 0) rfl<|l7 (.bool false) rfl<|dk<|a0d<|?_;obtain rfl:=os hf;exact a0f ⟨tr,⟨tr,tr⟩⟩ rfl .r
        ·refine x8 rfl (bf c32)<|a0h<|a0j<|sr<|l7 (.I 1) rfl<|dk<|o6<|sr<|l7 (.I 0) rfl<|dk<|?_
         obtain ⟨p137,hb1,hf⟩:=ob hf
         refine a1u (X:={q:Int // p137 = .go q}) (fun q => ([(7,(.I q.1))],[])) ?_ ?_
         ·refine a1h (X:={q:(Int × Nat) // a4g A rec D (A.Items.drop q.2) q.1 q.2 = some p137}) (fun q => ([(1,(.I D)),(2,(.ptr 0 0 0)),(7,(.I q.1.1)),(8,(.I (q.1.2:Int)))],[.box 5 (.agg [(.I A.Kind),(.I A.N),(.str A.T),(.lst 1 (A.Keys.map AV.str)),(.lst 5 (A.Items.map l9))])])) (fun q => A.Items.length - q.1.2) ⟨(1,0),hb1⟩ ⟨[],[0],_,_,rfl,rfl,⟨.r,⟨.r,⟨.r,⟨.r,tr⟩⟩⟩⟩,.r⟩ ?_
          rintro ⟨⟨G,F⟩,hc1⟩
          have hc1:a4g A rec D (A.Items.drop F) G F = some p137:=hc1
          refine (show awp Tryz.prog false 0 _ (ofL [(1,(.I D)),(2,(.ptr 0 0 0)),(7,(.I G)),(8,(.I (F:Int)))]) [.box 5 (.agg [(.I A.Kind),(.I A.N),(.str A.T),(.lst 1 (A.Keys.map AV.str)),(.lst 5 (A.Items.map l9))])] _ from ?_)
          rcases a5j A.Items F with ⟨hie140,hd143⟩ | ⟨hlt138,H,hx139,hd143⟩
          ·rw [hd143,a4g.eq_1] at hc1
           have hq142:=dlf hie140
           refine o6<|sr<|l7 (.I (F:Int)) rfl<|o7 (.ptr 0 0 4) rfl tr rfl<|o7 (.lst 5 (A.Items.map l9)) rfl nle rfl<|a1a (a1t (enc:=l9) rfl) fun hl145 => o7 (.bool (decide ((F:Int) < (A.Items.length:Int)))) rfl rfl rfl<|dk<|x8 rfl hq142<|a2o<|a2n<|a1s<|a2m<|?_;obtain rfl:=os hc1;exact a2s ⟨_,rfl⟩ ⟨[],[],_,_,rfl,rfl,⟨.r,tr⟩,.r⟩
          ·rw [hd143,a4g.eq_2] at hc1
           have hq142:=dlt hlt138
           refine o6<|sr<|l7 (.I (F:Int)) rfl<|o7 (.ptr 0 0 4) rfl tr rfl<|o7 (.lst 5 (A.Items.map l9)) rfl nle rfl<|a1a (a1t (enc:=l9) rfl) fun hl146 => o7 (.bool (decide ((F:Int) < (A.Items.length:Int)))) rfl rfl rfl<|dk<|x9 rfl hq142<|a0h<|a0j<|o6<|a2y<|o6<|o6<|?_
           obtain ⟨O,hb2,hc1⟩:=ob hc1
           refine a2d ([(1,(.I D)),(2,(.ptr 0 0 0)),(7,(.I G)),(8,(.I (F:Int))),(156,(.bool O))],[.box 5 (.agg [(.I A.Kind),(.I A.N),(.str A.T),(.lst 1 (A.Keys.map AV.str)),(.lst 5 (A.Items.map l9))])]) ?_ ?_
           ·refine a0t<|o7 (.ptr 0 0 0) rfl tr rfl<|o7 (.I A.Kind) rfl nle rfl<|o7 (.bool (A.Kind == 5)) rfl rfl rfl<|l7 (.bool (A.Kind == 5)) rfl<|?_
            rcases oi hb2 with ⟨c160,hb2⟩ | ⟨c160,hb2⟩
            ·refine a0x (s:=130) (b:=true) rfl c160<|s_on rfl<|o7 (.ptr 0 0 3) rfl tr rfl<|s_on rfl<|o7 (.lst 1 (A.Keys.map AV.str)) rfl nle rfl<|s_on rfl<|l7 (.I (F:Int)) rfl<|s_on rfl<|?_
             obtain ⟨U,ex162,hb2⟩:=ob hb2
             refine y7 (a3d (enc:=AV.str) rfl rfl (b0a ex162) (b0b ex162))<|s_on rfl<|o7 (.str U) rfl ⟨rfl,rfl⟩ rfl<|c6t rfl<|?_
             obtain ⟨R,er164,hb2⟩:=ob hb2
             refine a2e (a0p (b4g _ _ er164) rfl .r rfl) a2j tr<|s_on rfl<|o7 (.bool (!R)) rfl tr rfl<|s_on rfl<|l7 (.bool (!R)) rfl<|?_
             rcases oi hb2 with ⟨c165,hb2⟩ | ⟨c165,hb2⟩
             ·refine a0x (s:=138) (b:=true) rfl c165<|y5 rfl rfl<|y5 rfl rfl<|y5 rfl rfl<|a1g rfl<|a1g rfl<|a1g rfl<|a1g rfl<|a1g rfl<|a1g rfl<|a1g rfl<|a1g rfl<|a1g rfl<|a1g rfl<|a1g rfl<|a1g rfl<|y5 rfl rfl<|s_on rfl<|o7 (.bool true) rfl tr rfl<|o7 (.bool true) rfl tr rfl<|a0e<|?_;obtain rfl:=os hb2;exact ⟨[],[0],_,_,rfl,rfl,⟨.r,⟨.r,⟨.r,⟨.r,⟨.r,tr⟩⟩⟩⟩⟩,.r⟩
             ·refine a0x (s:=138) (b:=false) rfl (bf c165)<|s_on rfl<|l7 (.I (F:Int)) rfl<|s_on rfl<|o7 (.bool (decide ((F:Int) > 0))) rfl rfl rfl<|s_on rfl<|l7 (.bool (decide ((F:Int) > 0))) rfl<|?_
              rcases oi hb2 with ⟨c166,hb2⟩ | ⟨c166,hb2⟩
              ·refine a0x (s:=141) (b:=true) rfl c166<|s_on rfl<|o7 (.ptr 0 0 3) rfl tr rfl<|s_on rfl<|o7 (.lst 1 (A.Keys.map AV.str)) rfl nle rfl<|s_on rfl<|l7 (.I (F:Int)) rfl<|s_on rfl<|o7 (.I (w64 ((F:Int) - 1))) rfl rfl rfl<|s_on rfl<|?_
               obtain ⟨J,ex168,hb2⟩:=ob hb2
               refine y7 (a3d (enc:=AV.str) rfl rfl (b0a ex168) (b0b ex168))<|s_on rfl<|o7 (.str J) rfl ⟨rfl,rfl⟩ rfl<|s_on rfl<|o7 (.ptr 0 0 3) rfl tr rfl<|s_on rfl<|o7 (.lst 1 (A.Keys.map AV.str)) rfl nle rfl<|s_on rfl<|l7 (.I (F:Int)) rfl<|s_on rfl<|?_
               obtain ⟨K,ex170,hb2⟩:=ob hb2
               refine y7 (a3d (enc:=AV.str) rfl rfl (b0a ex170) (b0b ex170))<|s_on rfl<|o7 (.str K) rfl ⟨rfl,rfl⟩ rfl<|s_on rfl<|o7 (.bool (!Op.bytesLess J K)) rfl tr rfl<|s_on rfl<|o7 (.bool (!Op.bytesLess J K)) rfl tr rfl<|s_on rfl<|o7 (.bool (!Op.bytesLess J K)) rfl tr rfl<|o7 (.bool (!Op.bytesLess J K)) rfl tr rfl<|a0e<|?_;obtain rfl:=os hb2;exact ⟨[],[0],_,_,rfl,rfl,⟨.r,⟨.r,⟨.r,⟨.r,⟨.r,tr⟩⟩⟩⟩⟩,.r⟩
              ·refine a0x (s:=141) (b:=false) rfl (bf c166)<|y5 rfl rfl<|y5 rfl rfl<|y5 rfl rfl<|y5 rfl rfl<|y5 rfl rfl<|y5 rfl rfl<|y5 rfl rfl<|y5 rfl rfl<|y5 rfl rfl<|y5 rfl rfl<|y5 rfl rfl<|y5 rfl rfl<|s_on rfl<|o7 (.bool false) rfl tr rfl<|s_on rfl<|o7 (.bool false) rfl tr rfl<|o7 (.bool false) rfl tr rfl<|a0e<|?_;obtain rfl:=os hb2;exact ⟨[],[0],_,_,rfl,rfl,⟨.r,⟨.r,⟨.r,⟨.r,⟨.r,tr⟩⟩⟩⟩⟩,.r⟩
            ·refine a0x (s:=130) (b:=false) rfl (bf c160)<|y5 rfl rfl<|y5 rfl rfl<|y5 rfl rfl<|y5 rfl rfl<|y5 rfl rfl<|c0d rfl rfl tr<|y5 rfl rfl<|y5 rfl rfl<|a1g rfl<|a1g rfl<|a1g rfl<|a1g rfl<|a1g rfl<|a1g rfl<|a1g rfl<|a1g rfl<|a1g rfl<|a1g rfl<|a1g rfl<|a1g rfl<|a1g rfl<|a1g rfl<|a1g rfl<|a1g rfl<|y5 rfl rfl<|o7 (.bool false) rfl tr rfl<|a0e<|?_;obtain rfl:=os hb2;exact ⟨[],[0],_,_,rfl,rfl,⟨.r,⟨.r,⟨.r,⟨.r,⟨.r,tr⟩⟩⟩⟩⟩,.r⟩
           ·rcases oi hc1 with ⟨c171,hc1⟩ | ⟨c171,hc1⟩
            ·refine x9 rfl c171<|sr<|l7 (.I 0) rfl<|l7 (.bool false) rfl<|dk<|a0d<|?_;obtain rfl:=os hc1;obtain rfl:=os hf;exact a0f ⟨tr,⟨tr,tr⟩⟩ rfl .r
            ·refine x8 rfl (bf c171)<|a0h<|a0j<|sr<|o7 (.ptr 0 0 4) rfl tr rfl<|o7 (.lst 5 (A.Items.map l9)) rfl nle rfl<|l7 (.I (F:Int)) rfl<|y7 (a1m (enc:=l9) rfl rfl hx139)<|y7 (a2l (v:=(.agg [(.I H.Kind),(.I H.N),(.str H.T),(.lst 1 (H.Keys.map AV.str)),(.lst 5 (H.Items.map l9))])) rfl (o9 _) nle rfl)<|l7 (.I D) rfl<|o7 (.I (w64 (D - 1))) rfl rfl rfl<|?_
             obtain ⟨E,er173,hc1⟩:=ob hc1
             refine y7 (a0p (hrec _ _ _ er173) rfl (.cons (.of_eq (o9 H).symm) (.cons .r .nil)) rfl)<|l7 (.tup [(.I E.1),(.bool E.2)]) rfl<|o7 (.I E.1) rfl nle rfl<|o7 (.bool E.2) rfl nle rfl<|l7 (.I E.1) rfl<|l7 (.bool E.2) rfl<|dk<|sr<|l7 (.I G) rfl<|l7 (.I E.1) rfl<|o7 (.I (w64 (G + E.1))) rfl rfl rfl<|l7 (.I (w64 (G + E.1))) rfl<|dk<|o6<|?_
             obtain ⟨P,hb2,hc1⟩:=ob hc1
             refine a2d ([(1,(.I D)),(2,(.ptr 0 0 0)),(7,(.I (w64 (G + E.1)))),(8,(.I (F:Int))),(176,(.bool P))],[.box 5 (.agg [(.I A.Kind),(.I A.N),(.str A.T),(.lst 1 (A.Keys.map AV.str)),(.lst 5 (A.Items.map l9))])]) ?_ ?_
             ·refine a0t ?_
              rcases oi hb2 with ⟨c177,hb2⟩ | ⟨c177,hb2⟩
              ·refine l7 (.bool E.2) rfl<|o7 (.bool (!E.2)) rfl tr rfl<|l7 (.bool (!E.2)) rfl<|a0x (s:=173) (b:=true) rfl c177<|y5 rfl rfl<|y5 rfl rfl<|o7 (.bool true) rfl tr rfl<|a0e<|?_;obtain rfl:=os hb2;exact ⟨[],[0],_,_,rfl,rfl,⟨.r,⟨.r,⟨.r,⟨.r,⟨.r,tr⟩⟩⟩⟩⟩,.r⟩
              ·refine l7 (.bool E.2) rfl<|o7 (.bool (!E.2)) rfl tr rfl<|l7 (.bool (!E.2)) rfl<|a0x (s:=173) (b:=false) rfl (bf c177)<|s_on rfl<|l7 (.I (w64 (G + E.1))) rfl<|s_on rfl<|o7 (.bool (decide (w64 (G + E.1) > 400))) rfl rfl rfl<|o7 (.bool (decide (w64 (G + E.1) > 400))) rfl tr rfl<|a0e<|?_;obtain rfl:=os hb2;exact ⟨[],[0],_,_,rfl,rfl,⟨.r,⟨.r,⟨.r,⟨.r,⟨.r,tr⟩⟩⟩⟩⟩,.r⟩
             ·rcases oi hc1 with ⟨c178,hc1⟩ | ⟨c178,hc1⟩
              ·refine x9 rfl c178<|sr<|l7 (.I 0) rfl<|l7 (.bool false) rfl<|dk<|a0d<|?_;obtain rfl:=os hc1;obtain rfl:=os hf;exact a0f ⟨tr,⟨tr,tr⟩⟩ rfl .r
              ·refine x8 rfl (bf c178)<|a0h<|a1v<|a0j<|a0t<|l7 (.I (F:Int)) rfl<|o7 (.I (w64 ((F:Int) + 1))) rfl rfl rfl<|l7 (.I (w64 ((F:Int) + 1))) rfl<|a0e<|?_;exact a1p ⟨(w64 (G + E.1),(F + 1)),hc1⟩ (mul hlt138) ⟨[],[0],_,_,rfl,rfl,⟨.r,⟨.r,⟨.r,⟨.of_eq (congrArg (AV.int _) (a1r hlt138 hl146)),tr⟩⟩⟩⟩,.r⟩
         ·rintro ⟨S,rfl⟩
          refine sr<|l7 (.I S) rfl<|l7 (.I S) rfl<|l7 (.bool true) rfl<|dk<|a0d<|?_;obtain rfl:=os hf;exact a0f ⟨tr,⟨tr,tr⟩⟩ rfl .r
def a7p:Nat → y8 → Int → Option (Int × Bool)
 | 0,_,_ => none
 | k + 1,A,D => b1h (a7p k) A D
theorem c1q:∀ (k:Nat) (A:y8) (D:Int) (r:(Int × Bool)),a7p k A D = some r → a0a Tryz.prog 217 .flat [(l9 A),(.I D)] (.tup [(.I r.1),(.bool r.2)])
 | 0,A,D,r,h => by rw [a7p.eq_1] at h;cases h
 | k + 1,A,D,r,h => by
  rw [a7p.eq_2] at h;exact c6x _ (c1q k) A D r h
def d8v:a0q :=
 (.seq (.reg (tq 1 (.box 5 (.t 0)) (tm 2 (.c (.bool false)) .done)))
 (.seq (.reg (tq 6 (.load 5 true (.t 1)) (tq 7 (.call 217 [(.t 6),(.c (.int .i64 12))]) (tm 5 (.t 7) (tq 8 (.extract 0 (.t 5)) (tq 9 (.extract 1 (.t 5)) (tm 3 (.t 8) (tm 4 (.t 9) .done))))))))
 (.seq (.reg (tm 10 (.t 4) (tm 2 (.t 10) .done)))
 .ret)))
theorem e6e:a1b Tryz.prog Tryz.f120 = some (d8v.erase,[.mov (.t 2)],11):=by kernel_rfl
def b2u (A:y8):Option Bool :=
    (a7p FUEL A 12).bind fun B =>
    some B.2
theorem c8o (A:y8) (r:Bool) (hf:b2u A = some r):a0a Tryz.prog 120 .flat [(l9 A)] (.bool r):=by
 refine a0a.of_awp mixed Tryz.func120 e6e nle ?_;rw [a0l];rw [o9 A];unfold b2u at hf;unfold d8v;refine (show awp Tryz.prog false 0 _ (ofL [(0,(.agg [(.I A.Kind),(.I A.N),(.str A.T),(.lst 1 (A.Keys.map AV.str)),(.lst 5 (A.Items.map l9))]))]) [] _ from ?_);refine sr<|y7 (a1i (j:=0) (c:=(.agg [(.I A.Kind),(.I A.N),(.str A.T),(.lst 1 (A.Keys.map AV.str)),(.lst 5 (A.Items.map l9))])) rfl tr rfl rfl)<|l7 (.bool false) rfl<|dk<|sr<|?_
 obtain ⟨B,er3,hf⟩:=ob hf
 refine o7 (.agg [(.I A.Kind),(.I A.N),(.str A.T),(.lst 1 (A.Keys.map AV.str)),(.lst 5 (A.Items.map l9))]) rfl nle rfl<|y7 (a0p (c1q FUEL _ _ _ er3) rfl (.cons (.of_eq (o9 A).symm) (.cons .r .nil)) rfl)<|l7 (.tup [(.I B.1),(.bool B.2)]) rfl<|o7 (.I B.1) rfl nle rfl<|o7 (.bool B.2) rfl nle rfl<|l7 (.I B.1) rfl<|l7 (.bool B.2) rfl<|dk<|sr<|l7 (.bool B.2) rfl<|l7 (.bool B.2) rfl<|dk<|a0d<|?_;obtain rfl:=os hf;exact a0f ⟨tr,tr⟩ rfl .r
def e6f:a0q :=
 (.seq (.reg (tq 1 (.box 5 (.t 0)) (tm 2 (.c .nil) (tm 3 (.c (.bool false)) .done))))
 (.seq (.reg (tq 6 (.bslice 1 []) (tm 4 (.t 6) .done)))
 (.seq (.seq (.reg (tm 5 (.c (.int .i64 0)) .done))
 (.block 0 (.loop (.seq (.seq (.reg (tm 7 (.t 5) (tq 8 (.faddr 4 (.t 1)) (tq 9 (.load 1 false (.t 8)) (tq 10 (.len (.t 9)) (tq 11 (.bin .lss (.t 7) (.t 10)) .done))))))
 (.cond (.t 11) .skip
 (.exit 0)))
 (.seq (.block 1 (.seq (.seq (.reg (tq 14 (.faddr 4 (.t 1)) (tq 15 (.load 1 false (.t 14)) (tm 16 (.t 5) (tq 17 (.iaddr 5 (.t 15) (.t 16)) (tq 18 (.faddr 0 (.t 17)) (tq 19 (.load 1 false (.t 18)) (tq 20 (.bin .neq (.t 19) (.c (.int .i64 3))) .done))))))))
 (.cond (.t 20) (.seq (.reg (tq 21 (.bslice 1 []) (tm 2 (.t 21) (tm 3 (.c (.bool false)) .done))))
 .ret)
 .skip))
 (.reg (tm 22 (.t 4) (tq 23 (.faddr 4 (.t 1)) (tq 24 (.load 1 false (.t 23)) (tm 25 (.t 5) (tq 26 (.iaddr 5 (.t 24) (.t 25)) (tq 27 (.faddr 2 (.t 26)) (tq 28 (.load 1 false (.t 27)) (tq 29 (.bslice 1 [(.t 28)]) (tq 30 (.append 1 16 (.t 22) (.t 29)) (tm 4 (.t 30) .done)))))))))))))
 (.reg (tm 12 (.t 5) (tq 13 (.bin .add (.t 12) (.c (.int .i64 1))) (tm 5 (.t 13) .done)))))))))
 (.cut (.seq (.reg (tm 31 (.t 4) (tq 32 (.faddr 0 (.t 1)) (tq 33 (.load 1 false (.t 32)) (tq 34 (.bin .eql (.t 33) (.c (.int .i64 4))) (tm 2 (.t 31) (tm 3 (.t 34) .done)))))))
 .ret)))))
theorem e6g:a1b Tryz.prog Tryz.f254 = some (e6f.erase,[.mov (.t 2),.mov (.t 3)],35):=by kernel_rfl
def a3n :List y8 → (List Str) → Option (Fl ((List Str) × Bool) (List Str))
  | [],B =>
    some (.go B)
  | D :: xs,B =>
    if (D.Kind != 3) then
    some (.ret ([],false))
    else
    if (B ++ [D.T]).length ≤ 2 ^ 30 then
    a3n xs  (B ++ [D.T])
    else none
def a8y (A:y8):Option ((List Str) × Bool) :=
    (a3n A.Items []).bind fun q => (match q with
    | .ret r => some r
    | .go F =>
    some (F,(A.Kind == 4)))
theorem c5b (A:y8) (r:((List Str) × Bool)) (hf:a8y A = some r):a0a Tryz.prog 254 .fresh [(l9 A)] (.tup [(.lst 1 (r.1.map AV.str)),(.bool r.2)]):=by
 refine a0a.of_awp mixed Tryz.func254 e6g nle ?_;rw [a0l];rw [o9 A];unfold a8y at hf;unfold e6f;refine (show awp Tryz.prog true 0 _ (ofL [(0,(.agg [(.I A.Kind),(.I A.N),(.str A.T),(.lst 1 (A.Keys.map AV.str)),(.lst 5 (A.Items.map l9))]))]) [] _ from ?_);refine sr<|y7 (a1i (j:=0) (c:=(.agg [(.I A.Kind),(.I A.N),(.str A.T),(.lst 1 (A.Keys.map AV.str)),(.lst 5 (A.Items.map l9))])) rfl tr rfl rfl)<|l7 .nil rfl<|l7 (.bool false) rfl<|dk<|sr<|?_;refine y7 (a1o (j:=1) (as':=[]) rfl (fun _ => by decide) tr .r rfl rfl rfl) ?_;refine l7 (.own 1 0 0) rfl ?_
 refine dk<|o6<|sr<|l7 (.I 0) rfl<|dk<|?_
 obtain ⟨p32,hb1,hf⟩:=ob hf
 refine a1u (X:={q:(List Str) // p32 = .go q}) (fun q => ([(1,(.ptr 0 0 0)),(4,(.own 1 0 q.1.length))],[.box 5 (.agg [(.I A.Kind),(.I A.N),(.str A.T),(.lst 1 (A.Keys.map AV.str)),(.lst 5 (A.Items.map l9))]),.row 1 (q.1.map AV.str)])) ?_ ?_
 ·refine a1h (X:={q:(Nat × (List Str)) // a3n (A.Items.drop q.1) q.2 = some p32}) (fun q => ([(1,(.ptr 0 0 0)),(4,(.own 1 0 q.1.2.length)),(5,(.I (q.1.1:Int)))],[.box 5 (.agg [(.I A.Kind),(.I A.N),(.str A.T),(.lst 1 (A.Keys.map AV.str)),(.lst 5 (A.Items.map l9))]),.row 1 (q.1.2.map AV.str)])) (fun q => A.Items.length - q.1.1) ⟨(0,[]),hb1⟩ ⟨[],[0,1],_,_,rfl,rfl,⟨.r,⟨.of_eq (congrArg (AV.own _ 0) (by simp)),⟨.r,tr⟩⟩⟩,.r⟩ ?_
  rintro ⟨⟨E,B⟩,hc1⟩
  have hc1:a3n (A.Items.drop E) B = some p32:=hc1
  refine (show awp Tryz.prog true 0 _ (ofL [(1,(.ptr 0 0 0)),(4,(.own 1 0 B.length)),(5,(.I (E:Int)))]) [.box 5 (.agg [(.I A.Kind),(.I A.N),(.str A.T),(.lst 1 (A.Keys.map AV.str)),(.lst 5 (A.Items.map l9))]),.row 1 (B.map AV.str)] _ from ?_)
  rcases a5j A.Items E with ⟨hie35,hd38⟩ | ⟨hlt33,D,hx34,hd38⟩
  ·rw [hd38,a3n.eq_1] at hc1
   have hq37:=dlf hie35
   refine o6<|sr<|l7 (.I (E:Int)) rfl<|o7 (.ptr 0 0 4) rfl tr rfl<|o7 (.lst 5 (A.Items.map l9)) rfl nle rfl<|a1a (a1t (enc:=l9) rfl) fun hl40 => o7 (.bool (decide ((E:Int) < (A.Items.length:Int)))) rfl rfl rfl<|dk<|x8 rfl hq37<|a2o<|a2n<|a1s<|a2m<|?_;obtain rfl:=os hc1;exact a2s ⟨_,rfl⟩ ⟨[],[0,1],_,_,rfl,rfl,⟨.r,⟨.r,tr⟩⟩,.r⟩
  ·rw [hd38,a3n.eq_2] at hc1
   have hq37:=dlt hlt33
   refine o6<|sr<|l7 (.I (E:Int)) rfl<|o7 (.ptr 0 0 4) rfl tr rfl<|o7 (.lst 5 (A.Items.map l9)) rfl nle rfl<|a1a (a1t (enc:=l9) rfl) fun hl41 => o7 (.bool (decide ((E:Int) < (A.Items.length:Int)))) rfl rfl rfl<|dk<|x9 rfl hq37<|a0h<|a0j<|o6<|a2y<|o6<|sr<|o7 (.ptr 0 0 4) rfl tr rfl<|o7 (.lst 5 (A.Items.map l9)) rfl nle rfl<|l7 (.I (E:Int)) rfl<|y7 (a1m (enc:=l9) rfl rfl hx34)<|o7 (.iptr (l9 D) 0) rfl tr rfl<|y7 (a2l (v:=(.I D.Kind)) rfl (o9 _) nle rfl)<|o7 (.bool (D.Kind != 3)) rfl rfl rfl<|?_
   refine dk<|?_
   rcases oi hc1 with ⟨c42,hc1⟩ | ⟨c42,hc1⟩
   ·refine x9 rfl c42<|sr<|?_;refine y7 (a1o (j:=2) (as':=[]) rfl (fun _ => by decide) tr .r rfl rfl rfl) ?_;refine l7 (.own 2 0 0) rfl<|l7 (.bool false) rfl<|dk<|a0d<|?_;obtain rfl:=os hc1;obtain rfl:=os hf;exact a1x ⟨tr,⟨tr,tr⟩⟩ rfl (by decide) .r
   ·refine x8 rfl (bf c42)<|a0h<|a0j<|a0t<|?_
    obtain ⟨g43,hc1⟩:=og hc1
    refine l7 (.own 1 0 B.length) rfl<|o7 (.ptr 0 0 4) rfl tr rfl<|o7 (.lst 5 (A.Items.map l9)) rfl nle rfl<|l7 (.I (E:Int)) rfl<|y7 (a1m (enc:=l9) rfl rfl hx34)<|o7 (.iptr (l9 D) 2) rfl tr rfl<|y7 (a2l (v:=(.str D.T)) rfl (o9 _) nle rfl)<|?_;refine y7 (a1o (j:=2) (as':=[(.str D.T)]) rfl (fun _ => by decide) ⟨rfl,tr⟩ .r rfl rfl rfl) ?_
    refine y7 (a4k (j:=3) (L:=((B ++ [D.T]).map AV.str)) (len:=(B ++ [D.T]).length) rfl false rfl rfl (fun _ => flo (enc:=AV.str) (fun _ => rfl) [D.T] _) (fun _ _ h => (b8y (show AV.own _ _ _ = AV.lst _ _ from h)).elim) (by decide) (d1o (enc:=AV.str) B [D.T] _ (by rfl)) (by simp <;> omega) g43 rfl rfl) ?_
    refine l7 (.own 3 0 ((B ++ [D.T]).length)) rfl<|a0e<|a1v<|a0j<|a0t<|l7 (.I (E:Int)) rfl<|o7 (.I (w64 ((E:Int) + 1))) rfl rfl rfl<|l7 (.I (w64 ((E:Int) + 1))) rfl<|a0e<|?_;exact a1p ⟨((E + 1),B ++ [D.T]),hc1⟩ (mul hlt33) ⟨[],[0,3],_,_,rfl,rfl,⟨.r,⟨.r,⟨.of_eq (congrArg (AV.int _) (a1r hlt33 hl41)),tr⟩⟩⟩,.r⟩
 ·rintro ⟨F,rfl⟩
  refine sr<|l7 (.own 1 0 F.length) rfl<|o7 (.ptr 0 0 0) rfl tr rfl<|o7 (.I A.Kind) rfl nle rfl<|o7 (.bool (A.Kind == 4)) rfl rfl rfl<|l7 (.own 1 0 F.length) rfl<|l7 (.bool (A.Kind == 4)) rfl<|dk<|a0d<|?_;obtain rfl:=os hf;exact a1x ⟨tr,⟨tr,tr⟩⟩ rfl (by decide) (.tup (.cons (.of_eq (congrArg (AV.lst _) (tk (enc:=AV.str) F))) (.cons .r .nil)))
def e6h:a0q :=
 (.seq (.reg (tq 2 (.box 5 (.t 0)) (tq 4 (.box 5 (.c (.agg [(.int .i64 0),(.int .i64 0),(.str []),.nil,.nil]))) (tm 5 (.c (.bool false)) .done))))
 (.seq (.seq (.reg (tq 6 (.faddr 0 (.t 2)) (tq 7 (.load 1 false (.t 6)) (tq 8 (.bin .neq (.t 7) (.c (.int .i64 4))) (tm 9 (.t 8) (tg 10 9 false (.faddr 4 (.t 2)) (tg 11 9 false (.load 1 false (.t 10)) (tg 12 9 false (.len (.t 11)) (tg 13 9 false (.bin .neq (.t 12) (.c (.int .i64 2))) (tq 14 (.pick (.t 9) (.c (.bool true)) (.t 13)) (tm 15 (.t 14) (tg 16 15 false (.faddr 4 (.t 2)) (tg 17 15 false (.load 1 false (.t 16)) (tg 18 15 false (.iaddr 5 (.t 17) (.c (.int .i64 0))) (tg 19 15 false (.faddr 0 (.t 18)) (tg 20 15 false (.load 1 false (.t 19)) (tg 21 15 false (.bin .neq (.t 20) (.c (.int .i64 3))) (tq 22 (.pick (.t 15) (.c (.bool true)) (.t 21)) (tm 23 (.t 22) (tg 24 23 false (.faddr 4 (.t 2)) (tg 25 23 false (.load 1 false (.t 24)) (tg 26 23 false (.iaddr 5 (.t 25) (.c (.int .i64 0))) (tg 27 23 false (.faddr 2 (.t 26)) (tg 28 23 false (.load 1 false (.t 27)) (tg 29 23 false (.mov (.t 1)) (tg 30 23 false (.bin .neq (.t 28) (.t 29)) (tq 31 (.pick (.t 23) (.c (.bool true)) (.t 30)) .done)))))))))))))))))))))))))))
 (.cut (.cond (.t 31) (.seq (.reg (tq 32 (.build [(.int .i64 0),(.int .i64 0),(.str []),.nil,.nil] []) (.q ⟨none,none,.store 5 (.t 4) (.t 32)⟩
 (tm 5 (.c (.bool false)) .done))))
 .ret)
 .skip)))
 (.seq (.reg (tq 33 (.faddr 4 (.t 2)) (tq 34 (.load 1 false (.t 33)) (tq 35 (.iaddr 5 (.t 34) (.c (.int .i64 1))) (tq 36 (.load 5 true (.t 35)) (.q ⟨none,none,.store 5 (.t 4) (.t 36)⟩
 (tm 5 (.c (.bool true)) .done)))))))
 .ret)))
theorem e6i:a1b Tryz.prog Tryz.f387 = some (e6h.erase,[.load 5 true (.t 4),.mov (.t 5)],37):=by kernel_rfl
def a3t (A:y8) (D:Str):Option (y8 × Bool) :=
    ((if (bif (A.Kind != 4) then true else ((A.Items.length:Int) != 2)) then
    some true
    else
    (idx A.Items 0).bind fun E =>
    if (E.Kind != 3) then
    some true
    else
    (idx A.Items 0).bind fun F =>
    some (!(F.T == D)):Option Bool)).bind fun G =>
    if G then
    some ((⟨0,0,[],[],[]⟩:y8),false)
    else
    (idx A.Items 1).bind fun B =>
    some (B,true)
theorem b7p (A:y8) (D:Str) (r:(y8 × Bool)) (hf:a3t A D = some r):a0a Tryz.prog 387 .weak [(l9 A),(.str D)] (.tup [(l9 r.1),(.bool r.2)]):=by
 refine a0a.of_awp mixed Tryz.func387 e6i nle ?_;rw [a0l];rw [o9 A];unfold a3t at hf;unfold e6h;refine (show awp Tryz.prog false 0 _ (ofL [(0,(.agg [(.I A.Kind),(.I A.N),(.str A.T),(.lst 1 (A.Keys.map AV.str)),(.lst 5 (A.Items.map l9))])),(1,(.str D))]) [] _ from ?_);refine sr<|y7 (a1i (j:=0) (c:=(.agg [(.I A.Kind),(.I A.N),(.str A.T),(.lst 1 (A.Keys.map AV.str)),(.lst 5 (A.Items.map l9))])) rfl tr rfl rfl)<|y7 (a1i (j:=1) (c:=(.agg [(.I 0),(.I 0),(.str []),.nil,.nil])) rfl tr rfl rfl)<|l7 (.bool false) rfl<|dk<|o6<|o6<|?_
 obtain ⟨G,hb1,hf⟩:=ob hf
 refine a2d ([(2,(.ptr 0 0 0)),(4,(.ptr 1 0 0)),(31,(.bool G))],[.box 5 (.agg [(.I A.Kind),(.I A.N),(.str A.T),(.lst 1 (A.Keys.map AV.str)),(.lst 5 (A.Items.map l9))]),.box 5 (.agg [(.I 0),(.I 0),(.str []),.nil,.nil])]) ?_ ?_
 ·refine a0t<|o7 (.ptr 0 0 0) rfl tr rfl<|o7 (.I A.Kind) rfl nle rfl<|o7 (.bool (A.Kind != 4)) rfl rfl rfl<|l7 (.bool (A.Kind != 4)) rfl<|?_;refine s_g (v:=(A.Kind != 4)) (.ptr 0 0 4) rfl (fun hv => by (try simp only [a0c hv]);exact ⟨rfl,tr,rfl⟩) ?_;refine s_g (v:=(A.Kind != 4)) (.lst 5 (A.Items.map l9)) rfl (fun hv => by (try simp only [a0c hv]);exact ⟨rfl,nle,rfl⟩) ?_;refine s_g (v:=(A.Kind != 4)) (.I (A.Items.length:Int)) rfl (fun hv => by (try simp only [a0c hv]);exact ⟨rfl,tr,lenV _ _⟩) ?_;refine s_g (v:=(A.Kind != 4)) (.bool ((A.Items.length:Int) != 2)) rfl (fun hv => by (try simp only [a0c hv]);exact ⟨rfl,rfl,rfl⟩) ?_
  refine a3a (x:=true) (y:=((A.Items.length:Int) != 2)) rfl (fun hv => by (try simp only [a0c hv]);rfl) (fun hv => by (try simp only [a0c hv]);rfl) ?_;refine l7 (.bool (bif (A.Kind != 4) then true else ((A.Items.length:Int) != 2))) rfl ?_
  rcases oi hb1 with ⟨c13,hb1⟩ | ⟨c13,hb1⟩
  ·refine a0x (s:=15) (b:=true) rfl c13<|y5 rfl rfl<|y5 rfl rfl<|y5 rfl rfl<|y5 rfl rfl<|y5 rfl rfl<|y5 rfl rfl<|o7 (.bool true) rfl tr rfl<|l7 (.bool true) rfl<|y5 rfl rfl<|y5 rfl rfl<|y5 rfl rfl<|y5 rfl rfl<|y5 rfl rfl<|y5 rfl rfl<|y5 rfl rfl<|o7 (.bool true) rfl tr rfl<|a0e<|?_;obtain rfl:=os hb1;exact ⟨[],[0,1],_,_,rfl,rfl,⟨.r,⟨.r,⟨.r,tr⟩⟩⟩,.r⟩
  ·refine a0x (s:=15) (b:=false) rfl (bf c13)<|s_on rfl<|o7 (.ptr 0 0 4) rfl tr rfl<|s_on rfl<|o7 (.lst 5 (A.Items.map l9)) rfl nle rfl<|s_on rfl<|?_
   obtain ⟨E,ex15,hb1⟩:=ob hb1
   refine y7 (a3d (enc:=l9) rfl rfl (b0a ex15) (b0b ex15))<|s_on rfl<|o7 (.iptr (l9 E) 0) rfl tr rfl<|s_on rfl<|y7 (a2l (v:=(.I E.Kind)) rfl (o9 _) nle rfl)<|s_on rfl<|o7 (.bool (E.Kind != 3)) rfl rfl rfl<|o7 (.bool (E.Kind != 3)) rfl tr rfl<|l7 (.bool (E.Kind != 3)) rfl<|?_
   rcases oi hb1 with ⟨c16,hb1⟩ | ⟨c16,hb1⟩
   ·refine a0x (s:=23) (b:=true) rfl c16<|y5 rfl rfl<|y5 rfl rfl<|y5 rfl rfl<|y5 rfl rfl<|y5 rfl rfl<|y5 rfl rfl<|y5 rfl rfl<|o7 (.bool true) rfl tr rfl<|a0e<|?_;obtain rfl:=os hb1;exact ⟨[],[0,1],_,_,rfl,rfl,⟨.r,⟨.r,⟨.r,tr⟩⟩⟩,.r⟩
   ·refine a0x (s:=23) (b:=false) rfl (bf c16)<|s_on rfl<|o7 (.ptr 0 0 4) rfl tr rfl<|s_on rfl<|o7 (.lst 5 (A.Items.map l9)) rfl nle rfl<|s_on rfl<|?_
    obtain ⟨F,ex18,hb1⟩:=ob hb1
    refine y7 (a3d (enc:=l9) rfl rfl (b0a ex18) (b0b ex18))<|s_on rfl<|o7 (.iptr (l9 F) 2) rfl tr rfl<|s_on rfl<|y7 (a2l (v:=(.str F.T)) rfl (o9 _) nle rfl)<|s_on rfl<|l7 (.str D) rfl<|s_on rfl<|o7 (.bool (!(F.T == D))) rfl tr rfl<|o7 (.bool (!(F.T == D))) rfl tr rfl<|a0e<|?_;obtain rfl:=os hb1;exact ⟨[],[0,1],_,_,rfl,rfl,⟨.r,⟨.r,⟨.r,tr⟩⟩⟩,.r⟩
 ·rcases oi hf with ⟨c19,hf⟩ | ⟨c19,hf⟩
  ·refine x9 rfl c19<|sr<|o7 (.agg [(.I 0),(.I 0),(.str []),.nil,.nil]) rfl tr rfl<|a1k (a0i (v:=(.agg [(.I 0),(.I 0),(.str []),.nil,.nil])) (y':=(.agg [(.I 0),(.I 0),(.str []),.nil,.nil])) rfl rfl rfl tr ⟨rfl,nle⟩ ⟨⟨rfl,tr⟩,⟨⟨rfl,tr⟩,⟨⟨rfl,tr⟩,⟨⟨rfl,tr⟩,⟨⟨rfl,tr⟩,tr⟩⟩⟩⟩⟩ rfl)<|l7 (.bool false) rfl<|dk<|a0d<|?_;obtain rfl:=os hf;exact b7l ⟨nle,⟨tr,tr⟩⟩ rfl (.tup (.cons (leJ (x:=(⟨0,0,[],[],[]⟩:y8)) (.agg (.cons .r (.cons .r (.cons .r (.cons (.nil _) (.cons (.nil _) .nil))))))) (.cons .r .nil)))
  ·refine x8 rfl (bf c19)<|a0h<|a0j<|sr<|?_
   obtain ⟨B,ex21,hf⟩:=ob hf
   refine o7 (.ptr 0 0 4) rfl tr rfl<|o7 (.lst 5 (A.Items.map l9)) rfl nle rfl<|y7 (a3d (enc:=l9) rfl rfl (b0a ex21) (b0b ex21))<|y7 (a2l (v:=(.agg [(.I B.Kind),(.I B.N),(.str B.T),(.lst 1 (B.Keys.map AV.str)),(.lst 5 (B.Items.map l9))])) rfl (o9 _) nle rfl)<|a1k (a0i (v:=(.agg [(.I B.Kind),(.I B.N),(.str B.T),(.lst 1 (B.Keys.map AV.str)),(.lst 5 (B.Items.map l9))])) (y':=(.agg [(.I B.Kind),(.I B.N),(.str B.T),(.lst 1 (B.Keys.map AV.str)),(.lst 5 (B.Items.map l9))])) rfl rfl rfl tr ⟨rfl,nle⟩ ⟨⟨rfl,tr⟩,⟨⟨rfl,tr⟩,⟨⟨rfl,tr⟩,⟨⟨rfl,tr⟩,⟨⟨rfl,tr⟩,tr⟩⟩⟩⟩⟩ rfl)<|?_
   refine l7 (.bool true) rfl<|dk<|a0d<|?_;obtain rfl:=os hf;exact b7l ⟨nle,⟨tr,tr⟩⟩ rfl (.tup (.cons (.of_eq (o9 B).symm) (.cons .r .nil)))
def c228:a0q :=
 (.seq (.reg (tq 1 (.box 3 (.t 0)) (tm 2 (.c (.bool false)) .done)))
 (.seq (.seq (.reg (tq 3 (.faddr 0 (.t 1)) (tq 4 (.load 1 false (.t 3)) .done)))
 (.block 0 (.seq (.reg (tq 6 (.bin .eql (.t 4) (.c (.int .i64 1))) (tm 5 (.t 6) .done)))
 (.cond (.t 5) (.seq (.reg (tq 7 (.faddr 1 (.t 1)) (tq 8 (.load 1 false (.t 7)) (tq 9 (.call 85 [(.t 8),(.c (.int .i64 (-1000000000))),(.c (.int .i64 1000000000))]) (tm 10 (.t 9) (tg 11 10 true (.faddr 2 (.t 1)) (tg 12 10 true (.load 1 false (.t 11)) (tg 13 10 true (.bin .eql (.t 12) (.c (.str []))) (tq 14 (.pick (.t 10) (.t 13) (.c (.bool false))) (tm 2 (.t 14) .done))))))))))
 .ret)
 (.seq (.reg (tq 16 (.bin .eql (.t 4) (.c (.int .i64 2))) (tm 15 (.t 16) .done)))
 (.cond (.t 15) (.seq (.reg (tq 17 (.faddr 1 (.t 1)) (tq 18 (.load 1 false (.t 17)) (tq 19 (.bin .eql (.t 18) (.c (.int .i64 0))) (tm 20 (.t 19) (tg 21 20 true (.faddr 2 (.t 1)) (tg 22 20 true (.load 1 false (.t 21)) (tg 23 20 true (.call 298 [(.t 22)]) (tq 24 (.pick (.t 20) (.t 23) (.c (.bool false))) (tm 2 (.t 24) .done))))))))))
 .ret)
 (.seq (.reg (tq 26 (.bin .eql (.t 4) (.c (.int .i64 3))) (tm 25 (.t 26) .done)))
 (.cond (.t 25) (.seq (.reg (tq 27 (.faddr 1 (.t 1)) (tq 28 (.load 1 false (.t 27)) (tq 29 (.call 85 [(.t 28),(.c (.int .i64 0)),(.c (.int .i64 1))]) (tm 30 (.t 29) (tg 31 30 true (.faddr 2 (.t 1)) (tg 32 30 true (.load 1 false (.t 31)) (tg 33 30 true (.bin .eql (.t 32) (.c (.str []))) (tq 34 (.pick (.t 30) (.t 33) (.c (.bool false))) (tm 2 (.t 34) .done))))))))))
 .ret)
 (.seq (.reg (tq 36 (.bin .eql (.t 4) (.c (.int .i64 4))) (tm 35 (.t 36) .done)))
 (.cond (.t 35) (.seq (.reg (tq 37 (.faddr 1 (.t 1)) (tq 38 (.load 1 false (.t 37)) (tq 39 (.call 85 [(.t 38),(.c (.int .i64 1)),(.c (.int .i64 1000000))]) (tm 40 (.t 39) (tg 41 40 true (.faddr 2 (.t 1)) (tg 42 40 true (.load 1 false (.t 41)) (tg 43 40 true (.bin .eql (.t 42) (.c (.str []))) (tq 44 (.pick (.t 40) (.t 43) (.c (.bool false))) (tm 2 (.t 44) .done))))))))))
 .ret)
 .skip))))))))))
 (.seq (.reg (tm 2 (.c (.bool false)) .done))
 .ret)))
theorem e6j:a1b Tryz.prog Tryz.f228 = some (c228.erase,[.mov (.t 2)],45):=by kernel_rfl
def a7j (A:a0g):Option Bool :=
    if (A.Kind == 1) then
    (a7o A.N (-1000000000) 1000000000).bind fun E =>
    if E then
    some (A.T == [])
    else
    some false
    else
    if (A.Kind == 2) then
    if (A.N == 0) then
    (a6r A.T).bind fun F =>
    some F
    else
    some false
    else
    if (A.Kind == 3) then
    (a7o A.N 0 1).bind fun B =>
    if B then
    some (A.T == [])
    else
    some false
    else
    if (A.Kind == 4) then
    (a7o A.N 1 1000000).bind fun D =>
    if D then
    some (A.T == [])
    else
    some false
    else
    some false
theorem b5b (A:a0g) (r:Bool) (hf:a7j A = some r):a0a Tryz.prog 228 .flat [(o5 A)] (.bool r):=by
 refine a0a.of_awp mixed Tryz.func228 e6j nle ?_;rw [a0l];unfold a7j at hf;unfold c228;refine (show awp Tryz.prog false 0 _ (ofL [(0,(o5 A))]) [] _ from ?_);refine sr<|y7 (a1i (j:=0) (c:=(.agg [(.I A.Kind),(.I A.N),(.str A.T)])) rfl tr rfl rfl)<|l7 (.bool false) rfl<|dk<|o6<|sr<|o7 (.ptr 0 0 0) rfl tr rfl<|o7 (.I A.Kind) rfl nle rfl<|dk<|a2y<|sr<|o7 (.bool (A.Kind == 1)) rfl rfl rfl<|l7 (.bool (A.Kind == 1)) rfl<|dk<|?_
 rcases oi hf with ⟨c2,hf⟩ | ⟨c2,hf⟩
 ·refine x9 rfl c2<|sr<|?_
  obtain ⟨E,er4,hf⟩:=ob hf
  rcases oi hf with ⟨c5,hf⟩ | ⟨c5,hf⟩
  ·refine o7 (.ptr 0 0 1) rfl tr rfl<|o7 (.I A.N) rfl nle rfl<|y7 (a0p (a6q _ _ _ _ er4) rfl .r rfl)<|l7 (.bool E) rfl<|a0x (s:=10) (b:=true) rfl c5<|s_on rfl<|o7 (.ptr 0 0 2) rfl tr rfl<|s_on rfl<|o7 (.str A.T) rfl nle rfl<|s_on rfl<|o7 (.bool (A.T == [])) rfl tr rfl<|o7 (.bool (A.T == [])) rfl tr rfl<|l7 (.bool (A.T == [])) rfl<|dk<|a0d<|?_;obtain rfl:=os hf;exact a0f ⟨tr,tr⟩ rfl .r
  ·refine o7 (.ptr 0 0 1) rfl tr rfl<|o7 (.I A.N) rfl nle rfl<|y7 (a0p (a6q _ _ _ _ er4) rfl .r rfl)<|l7 (.bool E) rfl<|a0x (s:=10) (b:=false) rfl (bf c5)<|y5 rfl rfl<|y5 rfl rfl<|y5 rfl rfl<|o7 (.bool false) rfl tr rfl<|l7 (.bool false) rfl<|dk<|a0d<|?_;obtain rfl:=os hf;exact a0f ⟨tr,tr⟩ rfl .r
 ·refine x8 rfl (bf c2)<|sr<|o7 (.bool (A.Kind == 2)) rfl rfl rfl<|l7 (.bool (A.Kind == 2)) rfl<|dk<|?_
  rcases oi hf with ⟨c6,hf⟩ | ⟨c6,hf⟩
  ·refine x9 rfl c6<|sr<|?_
   rcases oi hf with ⟨c7,hf⟩ | ⟨c7,hf⟩
   ·obtain ⟨F,er9,hf⟩:=ob hf
    refine o7 (.ptr 0 0 1) rfl tr rfl<|o7 (.I A.N) rfl nle rfl<|o7 (.bool (A.N == 0)) rfl rfl rfl<|l7 (.bool (A.N == 0)) rfl<|a0x (s:=20) (b:=true) rfl c7<|s_on rfl<|o7 (.ptr 0 0 2) rfl tr rfl<|s_on rfl<|o7 (.str A.T) rfl nle rfl<|s_on rfl<|y7 (a0p (b4g _ _ er9) rfl .r rfl)<|o7 (.bool F) rfl tr rfl<|l7 (.bool F) rfl<|dk<|a0d<|?_;obtain rfl:=os hf;exact a0f ⟨tr,tr⟩ rfl .r
   ·refine o7 (.ptr 0 0 1) rfl tr rfl<|o7 (.I A.N) rfl nle rfl<|o7 (.bool (A.N == 0)) rfl rfl rfl<|l7 (.bool (A.N == 0)) rfl<|a0x (s:=20) (b:=false) rfl (bf c7)<|y5 rfl rfl<|y5 rfl rfl<|y5 rfl rfl<|o7 (.bool false) rfl tr rfl<|l7 (.bool false) rfl<|dk<|a0d<|?_;obtain rfl:=os hf;exact a0f ⟨tr,tr⟩ rfl .r
  ·refine x8 rfl (bf c6)<|sr<|o7 (.bool (A.Kind == 3)) rfl rfl rfl<|l7 (.bool (A.Kind == 3)) rfl<|dk<|?_
   rcases oi hf with ⟨c10,hf⟩ | ⟨c10,hf⟩
   ·refine x9 rfl c10<|sr<|?_
    obtain ⟨B,er12,hf⟩:=ob hf
    rcases oi hf with ⟨c13,hf⟩ | ⟨c13,hf⟩
    ·refine o7 (.ptr 0 0 1) rfl tr rfl<|o7 (.I A.N) rfl nle rfl<|y7 (a0p (a6q _ _ _ _ er12) rfl .r rfl)<|l7 (.bool B) rfl<|a0x (s:=30) (b:=true) rfl c13<|s_on rfl<|o7 (.ptr 0 0 2) rfl tr rfl<|s_on rfl<|o7 (.str A.T) rfl nle rfl<|s_on rfl<|o7 (.bool (A.T == [])) rfl tr rfl<|o7 (.bool (A.T == [])) rfl tr rfl<|l7 (.bool (A.T == [])) rfl<|dk<|a0d<|?_;obtain rfl:=os hf;exact a0f ⟨tr,tr⟩ rfl .r
    ·refine o7 (.ptr 0 0 1) rfl tr rfl<|o7 (.I A.N) rfl nle rfl<|y7 (a0p (a6q _ _ _ _ er12) rfl .r rfl)<|l7 (.bool B) rfl<|a0x (s:=30) (b:=false) rfl (bf c13)<|y5 rfl rfl<|y5 rfl rfl<|y5 rfl rfl<|o7 (.bool false) rfl tr rfl<|l7 (.bool false) rfl<|dk<|a0d<|?_;obtain rfl:=os hf;exact a0f ⟨tr,tr⟩ rfl .r
   ·refine x8 rfl (bf c10)<|sr<|o7 (.bool (A.Kind == 4)) rfl rfl rfl<|l7 (.bool (A.Kind == 4)) rfl<|dk<|?_
    rcases oi hf with ⟨c14,hf⟩ | ⟨c14,hf⟩
    ·refine x9 rfl c14<|sr<|?_
     obtain ⟨D,er16,hf⟩:=ob hf
     rcases oi hf with ⟨c17,hf⟩ | ⟨c17,hf⟩
     ·refine o7 (.ptr 0 0 1) rfl tr rfl<|o7 (.I A.N) rfl nle rfl<|y7 (a0p (a6q _ _ _ _ er16) rfl .r rfl)<|l7 (.bool D) rfl<|a0x (s:=40) (b:=true) rfl c17<|s_on rfl<|o7 (.ptr 0 0 2) rfl tr rfl<|s_on rfl<|o7 (.str A.T) rfl nle rfl<|s_on rfl<|o7 (.bool (A.T == [])) rfl tr rfl<|o7 (.bool (A.T == [])) rfl tr rfl<|l7 (.bool (A.T == [])) rfl<|dk<|a0d<|?_;obtain rfl:=os hf;exact a0f ⟨tr,tr⟩ rfl .r
     ·refine o7 (.ptr 0 0 1) rfl tr rfl<|o7 (.I A.N) rfl nle rfl<|y7 (a0p (a6q _ _ _ _ er16) rfl .r rfl)<|l7 (.bool D) rfl<|a0x (s:=40) (b:=false) rfl (bf c17)<|y5 rfl rfl<|y5 rfl rfl<|y5 rfl rfl<|o7 (.bool false) rfl tr rfl<|l7 (.bool false) rfl<|dk<|a0d<|?_;obtain rfl:=os hf;exact a0f ⟨tr,tr⟩ rfl .r
    ·refine x8 rfl (bf c14)<|a0h<|a1v<|a0j<|sr<|l7 (.bool false) rfl<|dk<|a0d<|?_;obtain rfl:=os hf;exact a0f ⟨tr,tr⟩ rfl .r
def e6k:a0q :=
 (.seq (.reg (tq 1 (.box 5 (.t 0)) (tq 2 (.box 3 (.c (.agg [(.int .i64 0),(.int .i64 0),(.str [])]))) (tm 3 (.c (.bool false)) .done))))
 (.seq (.reg (tq 7 (.build [(.int .i64 0),(.int .i64 0),(.str [])] []) (tq 4 (.box 3 (.c (.agg [(.int .i64 0),(.int .i64 0),(.str [])]))) (.q ⟨none,none,.store 3 (.t 4) (.t 7)⟩
 .done))))
 (.seq (.seq (.reg (tq 8 (.faddr 0 (.t 1)) (tq 9 (.load 1 false (.t 8)) .done)))
 (.block 0 (.seq (.reg (tq 27 (.bin .eql (.t 9) (.c (.int .i64 2))) (tm 26 (.t 27) .done)))
 (.cond (.t 26) (.reg (tq 28 (.faddr 1 (.t 1)) (tq 29 (.load 1 false (.t 28)) (tq 30 (.build [(.int .i64 0),(.int .i64 0),(.str [])] [(0,1,(.c (.int .i64 1))),(1,1,(.t 29))]) (.q ⟨none,none,.store 3 (.t 4) (.t 30)⟩
 .done)))))
 (.seq (.reg (tq 32 (.bin .eql (.t 9) (.c (.int .i64 3))) (tm 31 (.t 32) .done)))
 (.cond (.t 31) (.reg (tq 33 (.faddr 2 (.t 1)) (tq 34 (.load 1 false (.t 33)) (tq 35 (.build [(.int .i64 0),(.int .i64 0),(.str [])] [(0,1,(.c (.int .i64 2))),(2,1,(.t 34))]) (.q ⟨none,none,.store 3 (.t 4) (.t 35)⟩
 .done)))))
 (.seq (.reg (tq 37 (.bin .eql (.t 9) (.c (.int .i64 1))) (tm 36 (.t 37) .done)))
 (.cond (.t 36) (.reg (tq 38 (.faddr 1 (.t 1)) (tq 39 (.load 1 false (.t 38)) (tq 40 (.build [(.int .i64 0),(.int .i64 0),(.str [])] [(0,1,(.c (.int .i64 3))),(1,1,(.t 39))]) (.q ⟨none,none,.store 3 (.t 4) (.t 40)⟩
 .done)))))
 (.seq (.reg (tq 11 (.load 5 true (.t 1)) (tq 12 (.call 387 [(.t 11),(.c (.str [117,117,105,100]))]) (tm 10 (.t 12) (tq 13 (.extract 0 (.t 10)) (tq 14 (.extract 1 (.t 10)) (tq 5 (.box 5 (.c (.agg [(.int .i64 0),(.int .i64 0),(.str []),.nil,.nil]))) (.q ⟨none,none,.store 5 (.t 5) (.t 13)⟩
 (tm 6 (.t 14) .done)))))))))
 (.seq (.seq (.reg (tm 15 (.t 6) (tq 16 (.not (.t 15)) (tm 17 (.t 16) (tg 18 17 false (.faddr 0 (.t 5)) (tg 19 17 false (.load 1 false (.t 18)) (tg 20 17 false (.bin .neq (.t 19) (.c (.int .i64 2))) (tq 21 (.pick (.t 17) (.c (.bool true)) (.t 20)) .done))))))))
 (.cut (.cond (.t 21) (.seq (.reg (tq 22 (.build [(.int .i64 0),(.int .i64 0),(.str [])] []) (.q ⟨none,none,.store 3 (.t 2) (.t 22)⟩
 (tm 3 (.c (.bool false)) .done))))
 .ret)
 .skip)))
 (.reg (tq 23 (.faddr 1 (.t 5)) (tq 24 (.load 1 false (.t 23)) (tq 25 (.build [(.int .i64 0),(.int .i64 0),(.str [])] [(0,1,(.c (.int .i64 4))),(1,1,(.t 24))]) (.q ⟨none,none,.store 3 (.t 4) (.t 25)⟩
 .done)))))))))))))))
 (.cut (.seq (.seq (.reg (tq 41 (.load 3 true (.t 4)) (tq 42 (.call 228 [(.t 41)]) (tq 43 (.not (.t 42)) .done))))
 (.cond (.t 43) (.seq (.reg (tq 44 (.build [(.int .i64 0),(.int .i64 0),(.str [])] []) (.q ⟨none,none,.store 3 (.t 2) (.t 44)⟩
 (tm 3 (.c (.bool false)) .done))))
 .ret)
 .skip))
 (.seq (.reg (tq 45 (.load 3 true (.t 4)) (.q ⟨none,none,.store 3 (.t 2) (.t 45)⟩
 (tm 3 (.c (.bool true)) .done))))
 .ret))))))
theorem e6l:a1b Tryz.prog Tryz.f388 = some (e6k.erase,[.load 3 true (.t 2),.mov (.t 3)],46):=by kernel_rfl
def a7c (B:y8):Option (a0g × Bool) :=
    ((if (B.Kind == 2) then
    some (.go (1,B.N,[]))
    else
    if (B.Kind == 3) then
    some (.go (2,0,B.T))
    else
    if (B.Kind == 1) then
    some (.go (3,B.N,[]))
    else
    (a3t B [117,117,105,100]).bind fun A =>
    ((if (!A.2) then
    some true
    else
    some (A.1.Kind != 2):Option Bool)).bind fun G =>
    if G then
    some (.ret ((⟨0,0,[]⟩:a0g),false))
    else
    some (.go (4,A.1.N,[])):Option (Fl (a0g × Bool) (Int × Int × Str)))).bind fun q => (match q with
    | .ret r => some r
    | .go (D,E,F) =>
    (a7j (⟨D,E,F⟩:a0g)).bind fun H =>
    if (!H) then
    some ((⟨0,0,[]⟩:a0g),false)
    else
    some ((⟨D,E,F⟩:a0g),true))
theorem b5j (B:y8) (r:(a0g × Bool)) (hf:a7c B = some r):a0a Tryz.prog 388 .flat [(l9 B)] (.tup [(o5 r.1),(.bool r.2)]):=by
 refine a0a.of_awp mixed Tryz.func388 e6l nle ?_;rw [a0l];rw [o9 B];unfold a7c at hf;unfold e6k;refine (show awp Tryz.prog false 0 _ (ofL [(0,(.agg [(.I B.Kind),(.I B.N),(.str B.T),(.lst 1 (B.Keys.map AV.str)),(.lst 5 (B.Items.map l9))]))]) [] _ from ?_);refine sr<|y7 (a1i (j:=0) (c:=(.agg [(.I B.Kind),(.I B.N),(.str B.T),(.lst 1 (B.Keys.map AV.str)),(.lst 5 (B.Items.map l9))])) rfl tr rfl rfl)<|y7 (a1i (j:=1) (c:=(.agg [(.I 0),(.I 0),(.str [])])) rfl tr rfl rfl)<|l7 (.bool false) rfl<|dk<|sr<|o7 (.agg [(.I 0),(.I 0),(.str [])]) rfl tr rfl<|?_
 refine y7 (a1i (j:=2) (c:=(.agg [(.I 0),(.I 0),(.str [])])) rfl tr rfl rfl)<|a1k (a0i (v:=(.agg [(.I 0),(.I 0),(.str [])])) (y':=(.agg [(.I 0),(.I 0),(.str [])])) rfl rfl rfl tr ⟨rfl,nle⟩ ⟨⟨rfl,tr⟩,⟨⟨rfl,tr⟩,⟨⟨rfl,tr⟩,tr⟩⟩⟩ rfl)<|dk<|o6<|?_
 obtain ⟨p15,hb1,hf⟩:=ob hf
 refine a1u (X:={q:(Int × Int × Str) // p15 = .go q}) (fun q => ([(2,(.ptr 0 0 0)),(4,(.ptr 1 0 0))],[.box 3 (.agg [(.I 0),(.I 0),(.str [])]),.box 3 (.agg [(.I q.1.1),(.I q.1.2.1),(.str q.1.2.2)])])) ?_ ?_
 ·refine sr<|o7 (.ptr 0 0 0) rfl tr rfl<|o7 (.I B.Kind) rfl nle rfl<|dk<|a2y<|sr<|o7 (.bool (B.Kind == 2)) rfl rfl rfl<|l7 (.bool (B.Kind == 2)) rfl<|dk<|?_
  rcases oi hb1 with ⟨c16,hb1⟩ | ⟨c16,hb1⟩
  ·refine x9 rfl c16<|a0t<|o7 (.ptr 0 0 1) rfl tr rfl<|o7 (.I B.N) rfl nle rfl<|o7 (.agg [(.I 1),(.I B.N),(.str [])]) rfl ⟨⟨rfl,nle,tr⟩,⟨⟨rfl,nle,tr⟩,tr⟩⟩ rfl<|a1k (a0i (v:=(.agg [(.I 1),(.I B.N),(.str [])])) (y':=(.agg [(.I 1),(.I B.N),(.str [])])) rfl rfl rfl tr ⟨rfl,nle⟩ ⟨⟨rfl,tr⟩,⟨⟨rfl,tr⟩,⟨⟨rfl,tr⟩,tr⟩⟩⟩ rfl)<|a0e<|a1v<|?_;obtain rfl:=os hb1;exact a2s ⟨_,rfl⟩ ⟨[],[1,2],_,_,rfl,rfl,⟨.r,⟨.r,tr⟩⟩,.r⟩
  ·refine x8 rfl (bf c16)<|sr<|o7 (.bool (B.Kind == 3)) rfl rfl rfl<|l7 (.bool (B.Kind == 3)) rfl<|dk<|?_
   rcases oi hb1 with ⟨c17,hb1⟩ | ⟨c17,hb1⟩
   ·refine x9 rfl c17<|a0t<|o7 (.ptr 0 0 2) rfl tr rfl<|o7 (.str B.T) rfl nle rfl<|o7 (.agg [(.I 2),(.I 0),(.str B.T)]) rfl ⟨⟨rfl,nle,tr⟩,⟨⟨rfl,nle,tr⟩,tr⟩⟩ rfl<|a1k (a0i (v:=(.agg [(.I 2),(.I 0),(.str B.T)])) (y':=(.agg [(.I 2),(.I 0),(.str B.T)])) rfl rfl rfl tr ⟨rfl,nle⟩ ⟨⟨rfl,tr⟩,⟨⟨rfl,tr⟩,⟨⟨rfl,tr⟩,tr⟩⟩⟩ rfl)<|a0e<|a1v<|?_;obtain rfl:=os hb1;exact a2s ⟨_,rfl⟩ ⟨[],[1,2],_,_,rfl,rfl,⟨.r,⟨.r,tr⟩⟩,.r⟩
   ·refine x8 rfl (bf c17)<|sr<|o7 (.bool (B.Kind == 1)) rfl rfl rfl<|l7 (.bool (B.Kind == 1)) rfl<|dk<|?_
    rcases oi hb1 with ⟨c18,hb1⟩ | ⟨c18,hb1⟩
    ·refine x9 rfl c18<|a0t<|o7 (.ptr 0 0 1) rfl tr rfl<|o7 (.I B.N) rfl nle rfl<|o7 (.agg [(.I 3),(.I B.N),(.str [])]) rfl ⟨⟨rfl,nle,tr⟩,⟨⟨rfl,nle,tr⟩,tr⟩⟩ rfl<|a1k (a0i (v:=(.agg [(.I 3),(.I B.N),(.str [])])) (y':=(.agg [(.I 3),(.I B.N),(.str [])])) rfl rfl rfl tr ⟨rfl,nle⟩ ⟨⟨rfl,tr⟩,⟨⟨rfl,tr⟩,⟨⟨rfl,tr⟩,tr⟩⟩⟩ rfl)<|a0e<|a1v<|?_;obtain rfl:=os hb1;exact a2s ⟨_,rfl⟩ ⟨[],[1,2],_,_,rfl,rfl,⟨.r,⟨.r,tr⟩⟩,.r⟩
    ·refine x8 rfl (bf c18)<|sr<|?_
     obtain ⟨A,er20,hb1⟩:=ob hb1
     refine o7 (.agg [(.I B.Kind),(.I B.N),(.str B.T),(.lst 1 (B.Keys.map AV.str)),(.lst 5 (B.Items.map l9))]) rfl nle rfl<|y7 (b8p (v:=(.tup [(.agg [(.I A.1.Kind),(.I A.1.N),(.str A.1.T),(.lst 1 (A.1.Keys.map AV.str)),(.lst 5 (A.1.Items.map l9))]),(.bool A.2)])) rfl (b7p _ _ _ er20) rfl (.cons (.of_eq (o9 B).symm) (.cons .r .nil)) (by simp only [o9]) rfl)<|l7 (.tup [(.agg [(.I A.1.Kind),(.I A.1.N),(.str A.1.T),(.lst 1 (A.1.Keys.map AV.str)),(.lst 5 (A.1.Items.map l9))]),(.bool A.2)]) rfl<|o7 (.agg [(.I A.1.Kind),(.I A.1.N),(.str A.1.T),(.lst 1 (A.1.Keys.map AV.str)),(.lst 5 (A.1.Items.map l9))]) rfl nle rfl<|?_
     refine o7 (.bool A.2) rfl nle rfl<|y7 (a1i (j:=3) (c:=(.agg [(.I 0),(.I 0),(.str []),.nil,.nil])) rfl tr rfl rfl)<|a1k (a0i (v:=(.agg [(.I A.1.Kind),(.I A.1.N),(.str A.1.T),(.lst 1 (A.1.Keys.map AV.str)),(.lst 5 (A.1.Items.map l9))])) (y':=(.agg [(.I A.1.Kind),(.I A.1.N),(.str A.1.T),(.lst 1 (A.1.Keys.map AV.str)),(.lst 5 (A.1.Items.map l9))])) rfl rfl rfl tr ⟨rfl,nle⟩ ⟨⟨rfl,tr⟩,⟨⟨rfl,tr⟩,⟨⟨rfl,tr⟩,⟨⟨rfl,tr⟩,⟨⟨rfl,tr⟩,tr⟩⟩⟩⟩⟩ rfl)<|l7 (.bool A.2) rfl<|dk<|o6<|o6<|?_
     obtain ⟨G,hb2,hb1⟩:=ob hb1
     refine a2d ([(2,(.ptr 0 0 0)),(4,(.ptr 1 0 0)),(5,(.ptr 2 0 0)),(21,(.bool G))],[.box 3 (.agg [(.I 0),(.I 0),(.str [])]),.box 3 (.agg [(.I 0),(.I 0),(.str [])]),.box 5 (.agg [(.I A.1.Kind),(.I A.1.N),(.str A.1.T),(.lst 1 (A.1.Keys.map AV.str)),(.lst 5 (A.1.Items.map l9))])]) ?_ ?_
     ·refine a0t ?_
      rcases oi hb2 with ⟨c24,hb2⟩ | ⟨c24,hb2⟩
      ·refine l7 (.bool A.2) rfl<|o7 (.bool (!A.2)) rfl tr rfl<|l7 (.bool (!A.2)) rfl<|a0x (s:=17) (b:=true) rfl c24<|y5 rfl rfl<|y5 rfl rfl<|y5 rfl rfl<|o7 (.bool true) rfl tr rfl<|a0e<|?_;obtain rfl:=os hb2;exact ⟨[],[1,2,3],_,_,rfl,rfl,⟨.r,⟨.r,⟨.r,⟨.r,tr⟩⟩⟩⟩,.r⟩
      ·refine l7 (.bool A.2) rfl<|o7 (.bool (!A.2)) rfl tr rfl<|l7 (.bool (!A.2)) rfl<|a0x (s:=17) (b:=false) rfl (bf c24)<|s_on rfl<|o7 (.ptr 3 0 0) rfl tr rfl<|s_on rfl<|o7 (.I A.1.Kind) rfl nle rfl<|s_on rfl<|o7 (.bool (A.1.Kind != 2)) rfl rfl rfl<|o7 (.bool (A.1.Kind != 2)) rfl tr rfl<|a0e<|?_;obtain rfl:=os hb2;exact ⟨[],[1,2,3],_,_,rfl,rfl,⟨.r,⟨.r,⟨.r,⟨.r,tr⟩⟩⟩⟩,.r⟩
     ·rcases oi hb1 with ⟨c25,hb1⟩ | ⟨c25,hb1⟩
      ·refine x9 rfl c25<|sr<|o7 (.agg [(.I 0),(.I 0),(.str [])]) rfl tr rfl<|a1k (a0i (v:=(.agg [(.I 0),(.I 0),(.str [])])) (y':=(.agg [(.I 0),(.I 0),(.str [])])) rfl rfl rfl tr ⟨rfl,nle⟩ ⟨⟨rfl,tr⟩,⟨⟨rfl,tr⟩,⟨⟨rfl,tr⟩,tr⟩⟩⟩ rfl)<|l7 (.bool false) rfl<|dk<|a0d<|?_;obtain rfl:=os hb1;obtain rfl:=os hf;exact a0f ⟨nle,⟨tr,tr⟩⟩ rfl .r
      ·refine x8 rfl (bf c25)<|a0h<|a0j<|a0t<|o7 (.ptr 2 0 1) rfl tr rfl<|o7 (.I A.1.N) rfl nle rfl<|o7 (.agg [(.I 4),(.I A.1.N),(.str [])]) rfl ⟨⟨rfl,nle,tr⟩,⟨⟨rfl,nle,tr⟩,tr⟩⟩ rfl<|a1k (a0i (v:=(.agg [(.I 4),(.I A.1.N),(.str [])])) (y':=(.agg [(.I 4),(.I A.1.N),(.str [])])) rfl rfl rfl tr ⟨rfl,nle⟩ ⟨⟨rfl,tr⟩,⟨⟨rfl,tr⟩,⟨⟨rfl,tr⟩,tr⟩⟩⟩ rfl)<|a0e<|a1v<|?_;obtain rfl:=os hb1;exact a2s ⟨_,rfl⟩ ⟨[],[0,1],_,_,rfl,rfl,⟨.r,⟨.r,tr⟩⟩,.r⟩
 ·rintro ⟨⟨D,E,F⟩,rfl⟩
  refine o6<|sr<|?_
  obtain ⟨H,er27,hf⟩:=ob hf
  refine o7 (.agg [(.I D),(.I E),(.str F)]) rfl nle rfl<|y7 (a0p (b5b _ _ er27) rfl .r rfl)<|o7 (.bool (!H)) rfl tr rfl<|dk<|?_
  rcases oi hf with ⟨c28,hf⟩ | ⟨c28,hf⟩
  ·refine x9 rfl c28<|sr<|o7 (.agg [(.I 0),(.I 0),(.str [])]) rfl tr rfl<|a1k (a0i (v:=(.agg [(.I 0),(.I 0),(.str [])])) (y':=(.agg [(.I 0),(.I 0),(.str [])])) rfl rfl rfl tr ⟨rfl,nle⟩ ⟨⟨rfl,tr⟩,⟨⟨rfl,tr⟩,⟨⟨rfl,tr⟩,tr⟩⟩⟩ rfl)<|l7 (.bool false) rfl<|dk<|a0d<|?_;obtain rfl:=os hf;exact a0f ⟨nle,⟨tr,tr⟩⟩ rfl .r
  ·refine x8 rfl (bf c28)<|a0h<|a0j<|sr<|o7 (.agg [(.I D),(.I E),(.str F)]) rfl nle rfl<|a1k (a0i (v:=(.agg [(.I D),(.I E),(.str F)])) (y':=(.agg [(.I D),(.I E),(.str F)])) rfl rfl rfl tr ⟨rfl,nle⟩ ⟨⟨rfl,tr⟩,⟨⟨rfl,tr⟩,⟨⟨rfl,tr⟩,tr⟩⟩⟩ rfl)<|l7 (.bool true) rfl<|dk<|a0d<|?_;obtain rfl:=os hf;exact a0f ⟨nle,⟨tr,tr⟩⟩ rfl .r
def e6m:a0q :=
 (.seq (.reg (tq 3 (.box 3 (.t 1)) (tm 4 (.c (.bool false)) .done)))
 (.seq (.seq (.reg (tm 5 (.c (.int .i64 0)) .done))
 (.block 0 (.loop (.seq (.seq (.reg (tm 6 (.t 5) (tm 7 (.t 0) (tq 8 (.len (.t 7)) (tq 9 (.bin .lss (.t 6) (.t 8)) .done)))))
 (.cond (.t 9) .skip
 (.exit 0)))
 (.seq (.block 1 (.seq (.reg (tm 12 (.t 0) (tm 13 (.t 5) (tq 14 (.iaddr 3 (.t 12) (.t 13)) (tq 15 (.load 3 true (.t 14)) (tq 16 (.load 3 true (.t 3)) (tq 17 (.eqs false [0,0,2] (.t 15) (.t 16)) .done)))))))
 (.cond (.t 17) (.seq (.reg (tm 4 (.c (.bool true)) .done))
 .ret)
 .skip)))
 (.reg (tm 10 (.t 5) (tq 11 (.bin .add (.t 10) (.c (.int .i64 1))) (tm 5 (.t 11) .done)))))))))
 (.cut (.seq (.reg (tm 4 (.c (.bool false)) .done))
 .ret))))
theorem e6n:a1b Tryz.prog Tryz.f185 = some (e6m.erase,[.mov (.t 4)],18):=by kernel_rfl
def a5l (A:a0g):List a0g → Option (Fl Bool Unit)
  | [] =>
    some (.go ())
  | E :: xs =>
    if (E.Kind == A.Kind && (E.N == A.N && (E.T == A.T && true))) then
    some (.ret true)
    else
    a5l A xs 
def b2v (D:(List a0g)) (A:a0g):Option Bool :=
    (a5l A D ).bind fun q => (match q with
    | .ret r => some r
    | .go _ =>
    some false)
theorem c8p (D:(List a0g)) (A:a0g) (r:Bool) (hf:b2v D A = some r):a0a Tryz.prog 185 .flat [(.lst 3 (D.map o5)),(o5 A)] (.bool r):=by
 refine a0a.of_awp mixed Tryz.func185 e6n nle ?_;rw [a0l];unfold b2v at hf;unfold e6m;refine (show awp Tryz.prog false 0 _ (ofL [(0,(.lst 3 (D.map o5))),(1,(o5 A))]) [] _ from ?_);refine sr<|y7 (a1i (j:=0) (c:=(.agg [(.I A.Kind),(.I A.N),(.str A.T)])) rfl tr rfl rfl)<|l7 (.bool false) rfl<|dk<|o6<|sr<|l7 (.I 0) rfl<|dk<|?_
 obtain ⟨p21,hb1,hf⟩:=ob hf
 refine a1u (X:={q:Unit // p21 = .go q}) (fun q => ([],[])) ?_ ?_
 ·refine a1h (X:={q:Nat // a5l A (D.drop q)  = some p21}) (fun q => ([(0,(.lst 3 (D.map o5))),(3,(.ptr 0 0 0)),(5,(.I (q.1:Int)))],[.box 3 (.agg [(.I A.Kind),(.I A.N),(.str A.T)])])) (fun q => D.length - q.1) ⟨0,hb1⟩ ⟨[],[0],_,_,rfl,rfl,⟨.r,⟨.r,⟨.r,tr⟩⟩⟩,.r⟩ ?_
  rintro ⟨B,hc1⟩
  have hc1:a5l A (D.drop B)  = some p21:=hc1
  refine (show awp Tryz.prog false 0 _ (ofL [(0,(.lst 3 (D.map o5))),(3,(.ptr 0 0 0)),(5,(.I (B:Int)))]) [.box 3 (.agg [(.I A.Kind),(.I A.N),(.str A.T)])] _ from ?_)
  rcases a5j D B with ⟨hie24,hd27⟩ | ⟨hlt22,E,hx23,hd27⟩
  ·rw [hd27,a5l.eq_1] at hc1
   have hq26:=dlf hie24
   refine o6<|sr<|l7 (.I (B:Int)) rfl<|l7 (.lst 3 (D.map o5)) rfl<|a1a (a1t (enc:=o5) rfl) fun hl29 => o7 (.bool (decide ((B:Int) < (D.length:Int)))) rfl rfl rfl<|dk<|x8 rfl hq26<|a2o<|a2n<|a1s<|a2m<|?_;obtain rfl:=os hc1;exact a2s ⟨_,rfl⟩ ⟨[],[],_,_,rfl,rfl,tr,.r⟩
  ·rw [hd27,a5l.eq_2] at hc1
   have hq26:=dlt hlt22
   refine o6<|sr<|l7 (.I (B:Int)) rfl<|l7 (.lst 3 (D.map o5)) rfl<|a1a (a1t (enc:=o5) rfl) fun hl30 => o7 (.bool (decide ((B:Int) < (D.length:Int)))) rfl rfl rfl<|dk<|x9 rfl hq26<|a0h<|a0j<|o6<|a2y<|sr<|l7 (.lst 3 (D.map o5)) rfl<|l7 (.I (B:Int)) rfl<|y7 (a1m (enc:=o5) rfl rfl hx23)<|o7 (o5 E) rfl nle rfl<|o7 (.agg [(.I A.Kind),(.I A.N),(.str A.T)]) rfl nle rfl<|o7 (.bool (E.Kind == A.Kind && (E.N == A.N && (E.T == A.T && true)))) rfl ⟨⟨rfl,rfl⟩,⟨⟨rfl,rfl⟩,⟨rfl,tr⟩⟩⟩ rfl<|?_
   refine dk<|?_
   rcases oi hc1 with ⟨c31,hc1⟩ | ⟨c31,hc1⟩
   ·refine x9 rfl c31<|sr<|l7 (.bool true) rfl<|dk<|a0d<|?_;obtain rfl:=os hc1;obtain rfl:=os hf;exact a0f ⟨tr,tr⟩ rfl .r
   ·refine x8 rfl (bf c31)<|a0h<|a1v<|a0j<|a0t<|l7 (.I (B:Int)) rfl<|o7 (.I (w64 ((B:Int) + 1))) rfl rfl rfl<|l7 (.I (w64 ((B:Int) + 1))) rfl<|a0e<|?_;exact a1p ⟨(B + 1),hc1⟩ (mul hlt22) ⟨[],[0],_,_,rfl,rfl,⟨.r,⟨.r,⟨.of_eq (congrArg (AV.int _) (a1r hlt22 hl30)),tr⟩⟩⟩,.r⟩
 ·rintro ⟨_,rfl⟩
  refine sr<|l7 (.bool false) rfl<|dk<|a0d<|?_;obtain rfl:=os hf;exact a0f ⟨tr,tr⟩ rfl .r
def e6o:a0q :=
 (.seq (.reg (tm 2 (.c (.int .i64 0)) .done))
 (.seq (.seq (.reg (tm 3 (.t 0) .done))
 (.cond (.t 3) (.seq (.reg (tm 2 (.c (.int .i64 1)) .done))
 .ret)
 .skip))
 (.seq (.reg (tm 2 (.c (.int .i64 0)) .done))
 .ret)))
theorem e6p:a1b Tryz.prog Tryz.f184 = some (e6o.erase,[.mov (.t 2)],4):=by kernel_rfl
def b0y (A:Bool):Option Int :=
    if A then
    some 1
    else
    some 0
theorem b5c (A:Bool) (r:Int) (hf:b0y A = some r):a0a Tryz.prog 184 .flat [(.bool A)] (.I r):=by
  refine a0a.of_awp mixed Tryz.func184 e6p nle ?_
  rw [a0l]
  unfold b0y at hf
  unfold e6o
  refine (show awp Tryz.prog false 0 _ (ofL [(0,(.bool A))]) [] _ from ?_)
  refine o6 ?_
  refine a0t ?_
  refine y7 (a4c (.I 0) rfl) ?_
  refine a0e ?_
  refine a0j ?_
  refine o6 ?_
  refine o6 ?_
  refine a0t ?_
  refine y7 (a4c (.bool A) rfl) ?_
  refine a0e ?_
  refine a0j ?_
  rcases oi hf with ⟨c2,hf⟩ | ⟨c2,hf⟩
  · refine x9 rfl c2 ?_
    refine o6 ?_
    refine a0t ?_
    refine y7 (a4c (.I 1) rfl) ?_
    refine a0e ?_
    refine a0j ?_
    refine a0d ?_
    obtain rfl:=os hf
    exact a0f ⟨tr,tr⟩ rfl .r
  · refine x8 rfl (bf c2) ?_
    refine a0h ?_
    refine a0j ?_
    refine o6 ?_
    refine a0t ?_
    refine y7 (a4c (.I 0) rfl) ?_
    refine a0e ?_
    refine a0j ?_
    refine a0d ?_
    obtain rfl:=os hf
    exact a0f ⟨tr,tr⟩ rfl .r
def c229:a0q :=
 (.seq (.reg (tq 2 (.box 3 (.t 0)) (tq 3 (.box 3 (.t 1)) (tm 4 (.c (.int .i64 0)) .done))))
 (.seq (.block 0 (.seq (.reg (tq 6 (.faddr 0 (.t 2)) (tq 7 (.load 1 false (.t 6)) (tq 8 (.faddr 0 (.t 3)) (tq 9 (.load 1 false (.t 8)) (tq 10 (.bin .neq (.t 7) (.t 9)) (tm 5 (.t 10) .done)))))))
 (.cond (.t 5) (.seq (.reg (tq 11 (.faddr 0 (.t 2)) (tq 12 (.load 1 false (.t 11)) (tq 13 (.faddr 0 (.t 3)) (tq 14 (.load 1 false (.t 13)) (tq 15 (.bin .lss (.t 12) (.t 14)) (tq 16 (.call 184 [(.t 15)]) (tq 17 (.bin .mul (.c (.int .i64 2)) (.t 16)) (tq 18 (.bin .sub (.c (.int .i64 1)) (.t 17)) (tm 4 (.t 18) .done))))))))))
 .ret)
 (.seq (.reg (tq 20 (.faddr 1 (.t 2)) (tq 21 (.load 1 false (.t 20)) (tq 22 (.faddr 1 (.t 3)) (tq 23 (.load 1 false (.t 22)) (tq 24 (.bin .neq (.t 21) (.t 23)) (tm 19 (.t 24) .done)))))))
 (.cond (.t 19) (.seq (.reg (tq 25 (.faddr 1 (.t 2)) (tq 26 (.load 1 false (.t 25)) (tq 27 (.faddr 1 (.t 3)) (tq 28 (.load 1 false (.t 27)) (tq 29 (.bin .lss (.t 26) (.t 28)) (tq 30 (.call 184 [(.t 29)]) (tq 31 (.bin .mul (.c (.int .i64 2)) (.t 30)) (tq 32 (.bin .sub (.c (.int .i64 1)) (.t 31)) (tm 4 (.t 32) .done))))))))))
 .ret)
 (.seq (.reg (tq 34 (.faddr 2 (.t 2)) (tq 35 (.load 1 false (.t 34)) (tq 36 (.faddr 2 (.t 3)) (tq 37 (.load 1 false (.t 36)) (tq 38 (.bin .neq (.t 35) (.t 37)) (tm 33 (.t 38) .done)))))))
 (.cond (.t 33) (.seq (.reg (tq 39 (.faddr 2 (.t 2)) (tq 40 (.load 1 false (.t 39)) (tq 41 (.faddr 2 (.t 3)) (tq 42 (.load 1 false (.t 41)) (tq 43 (.bin .lss (.t 40) (.t 42)) (tq 44 (.call 184 [(.t 43)]) (tq 45 (.bin .mul (.c (.int .i64 2)) (.t 44)) (tq 46 (.bin .sub (.c (.int .i64 1)) (.t 45)) (tm 4 (.t 46) .done))))))))))
 .ret)
 .skip)))))))
 (.seq (.reg (tm 4 (.c (.int .i64 0)) .done))
 .ret)))
theorem e6q:a1b Tryz.prog Tryz.f229 = some (c229.erase,[.mov (.t 4)],47):=by kernel_rfl
def a7q (A:a0g) (B:a0g):Option Int :=
    if (A.Kind != B.Kind) then
    (b0y (decide (A.Kind < B.Kind))).bind fun E =>
    some (w64 (1 - (w64 (2 * E))))
    else
    if (A.N != B.N) then
    (b0y (decide (A.N < B.N))).bind fun F =>
    some (w64 (1 - (w64 (2 * F))))
    else
    if (!(A.T == B.T)) then
    (b0y (Op.bytesLess A.T B.T)).bind fun D =>
    some (w64 (1 - (w64 (2 * D))))
    else
    some 0
theorem b6t (A:a0g) (B:a0g) (r:Int) (hf:a7q A B = some r):a0a Tryz.prog 229 .flat [(o5 A),(o5 B)] (.I r):=by
 refine a0a.of_awp mixed Tryz.func229 e6q nle ?_;rw [a0l];unfold a7q at hf;unfold c229;refine (show awp Tryz.prog false 0 _ (ofL [(0,(o5 A)),(1,(o5 B))]) [] _ from ?_);refine sr<|y7 (a1i (j:=0) (c:=(.agg [(.I A.Kind),(.I A.N),(.str A.T)])) rfl tr rfl rfl)<|y7 (a1i (j:=1) (c:=(.agg [(.I B.Kind),(.I B.N),(.str B.T)])) rfl tr rfl rfl)<|l7 (.I 0) rfl<|dk<|o6<|a2y<|sr<|o7 (.ptr 0 0 0) rfl tr rfl<|o7 (.I A.Kind) rfl nle rfl<|o7 (.ptr 1 0 0) rfl tr rfl<|o7 (.I B.Kind) rfl nle rfl<|o7 (.bool (A.Kind != B.Kind)) rfl rfl rfl<|?_
 refine l7 (.bool (A.Kind != B.Kind)) rfl<|dk<|?_
 rcases oi hf with ⟨c3,hf⟩ | ⟨c3,hf⟩
 ·refine x9 rfl c3<|sr<|?_
  obtain ⟨E,er5,hf⟩:=ob hf
  refine o7 (.ptr 0 0 0) rfl tr rfl<|o7 (.I A.Kind) rfl nle rfl<|o7 (.ptr 1 0 0) rfl tr rfl<|o7 (.I B.Kind) rfl nle rfl<|o7 (.bool (decide (A.Kind < B.Kind))) rfl rfl rfl<|y7 (a0p (b5c _ _ er5) rfl .r rfl)<|o7 (.I (w64 (2 * E))) rfl rfl rfl<|o7 (.I (w64 (1 - (w64 (2 * E))))) rfl rfl rfl<|l7 (.I (w64 (1 - (w64 (2 * E))))) rfl<|dk<|a0d<|?_;obtain rfl:=os hf;exact a0f ⟨tr,tr⟩ rfl .r
 ·refine x8 rfl (bf c3)<|sr<|o7 (.ptr 0 0 1) rfl tr rfl<|o7 (.I A.N) rfl nle rfl<|o7 (.ptr 1 0 1) rfl tr rfl<|o7 (.I B.N) rfl nle rfl<|o7 (.bool (A.N != B.N)) rfl rfl rfl<|l7 (.bool (A.N != B.N)) rfl<|dk<|?_
  rcases oi hf with ⟨c6,hf⟩ | ⟨c6,hf⟩
  ·refine x9 rfl c6<|sr<|?_
   obtain ⟨F,er8,hf⟩:=ob hf
   refine o7 (.ptr 0 0 1) rfl tr rfl<|o7 (.I A.N) rfl nle rfl<|o7 (.ptr 1 0 1) rfl tr rfl<|o7 (.I B.N) rfl nle rfl<|o7 (.bool (decide (A.N < B.N))) rfl rfl rfl<|y7 (a0p (b5c _ _ er8) rfl .r rfl)<|o7 (.I (w64 (2 * F))) rfl rfl rfl<|o7 (.I (w64 (1 - (w64 (2 * F))))) rfl rfl rfl<|l7 (.I (w64 (1 - (w64 (2 * F))))) rfl<|dk<|a0d<|?_;obtain rfl:=os hf;exact a0f ⟨tr,tr⟩ rfl .r
  ·refine x8 rfl (bf c6)<|sr<|o7 (.ptr 0 0 2) rfl tr rfl<|o7 (.str A.T) rfl nle rfl<|o7 (.ptr 1 0 2) rfl tr rfl<|o7 (.str B.T) rfl nle rfl<|o7 (.bool (!(A.T == B.T))) rfl tr rfl<|l7 (.bool (!(A.T == B.T))) rfl<|dk<|?_
   rcases oi hf with ⟨c9,hf⟩ | ⟨c9,hf⟩
   ·refine x9 rfl c9<|sr<|?_
    obtain ⟨D,er11,hf⟩:=ob hf
    refine o7 (.ptr 0 0 2) rfl tr rfl<|o7 (.str A.T) rfl nle rfl<|o7 (.ptr 1 0 2) rfl tr rfl<|o7 (.str B.T) rfl nle rfl<|o7 (.bool (Op.bytesLess A.T B.T)) rfl tr rfl<|y7 (a0p (b5c _ _ er11) rfl .r rfl)<|o7 (.I (w64 (2 * D))) rfl rfl rfl<|o7 (.I (w64 (1 - (w64 (2 * D))))) rfl rfl rfl<|l7 (.I (w64 (1 - (w64 (2 * D))))) rfl<|dk<|a0d<|?_;obtain rfl:=os hf;exact a0f ⟨tr,tr⟩ rfl .r
   ·refine x8 rfl (bf c9)<|a0h<|a1v<|a0j<|sr<|l7 (.I 0) rfl<|dk<|a0d<|?_;obtain rfl:=os hf;exact a0f ⟨tr,tr⟩ rfl .r
abbrev wz0:List a4q:=[⟨(some 36),none,.slice 3 (.t 34) (some (.t 35)) none⟩,⟨(some 31),none,.load 3 true (.t 3)⟩,⟨(some 29),none,.slice 3 (.t 27) none (some (.t 28))⟩]
abbrev wz1:List a4q:=[⟨(some 36),none,.slice 3 (.t 34) (some (.t 35)) none⟩,⟨(some 29),none,.slice 3 (.t 27) none (some (.t 28))⟩]
abbrev wz2:List a4q:=[⟨(some 36),none,.slice 3 (.t 34) (some (.t 35)) none⟩,⟨(some 31),none,.load 3 true (.t 3)⟩]
abbrev wz3:List a4q:=[⟨(some 36),none,.slice 3 (.t 34) (some (.t 35)) none⟩]
def d7e:a0q :=
 (.seq (.reg (tq 3 (.box 3 (.t 1)) (tm 4 (.c .nil) .done)))
 (.seq (.seq (.reg (tm 6 (.t 0) (tq 7 (.load 3 true (.t 3)) (tq 8 (.call 185 [(.t 6),(.t 7)]) .done))))
 (.cond (.t 8) (.seq (.reg (tm 9 (.t 0) (tm 4 (.t 9) .done)))
 .ret)
 .skip))
 (.seq (.reg (tm 10 (.t 0) (tq 11 (.len (.t 10)) (tm 5 (.t 11) .done))))
 (.seq (.block 0 (.loop (.seq (.seq (.reg (tm 12 (.t 5) (tq 13 (.bin .gtr (.t 12) (.c (.int .i64 0))) (tm 14 (.t 13) (tg 15 14 true (.mov (.t 0)) (tg 16 14 true (.mov (.t 5)) (tg 17 14 true (.bin .sub (.t 16) (.c (.int .i64 1))) (tg 18 14 true (.iaddr 3 (.t 15) (.t 17)) (tg 19 14 true (.load 3 true (.t 18)) (tg 20 14 true (.load 3 true (.t 3)) (.l ⟨(some 21),(some (14,true)),.call 229 [(.t 19),(.t 20)]⟩ []
 (tg 22 14 true (.bin .gtr (.t 21) (.c (.int .i64 0))) (tq 23 (.pick (.t 14) (.t 22) (.c (.bool false))) .done)) .non)))))))))))
 (.cut (.cond (.t 23) .skip
 (.exit 0))))
 (.block 1 (.reg (tm 24 (.t 5) (tq 25 (.bin .sub (.t 24) (.c (.int .i64 1))) (tm 5 (.t 25) .done))))))))
 (.cut (.seq (.reg (tm 27 (.t 0) (tm 28 (.t 5) (tq 29 (.slice 3 (.t 27) none (some (.t 28))) (tq 31 (.load 3 true (.t 3)) (tm 34 (.t 0) (tm 35 (.t 5) (tq 36 (.slice 3 (.t 34) (some (.t 35)) none) (.l ⟨(some 26),none,.bslice 3 []⟩ wz0
 (.l ⟨(some 30),none,.append 3 32 (.t 26) (.t 29)⟩ wz2
 (.l ⟨(some 32),none,.bslice 3 [(.t 31)]⟩ wz1
 (.l ⟨(some 33),none,.append 3 32 (.t 30) (.t 32)⟩ wz3
 (.l ⟨(some 37),none,.append 3 32 (.t 33) (.t 36)⟩ []
 (tm 4 (.t 37) .done) .non) .non) .non) (.l ⟨(some 32),none,.bslice 3 [(.t 31)]⟩ wz1
 (.l ⟨(some 30),none,.append 3 32 (.t 26) (.t 29)⟩ wz2
 (.l ⟨(some 33),none,.append 3 32 (.t 30) (.t 32)⟩ wz3
 (.l ⟨(some 37),none,.append 3 32 (.t 33) (.t 36)⟩ []
 (tm 4 (.t 37) .done) .non) .non) .non) .non)) (.l ⟨(some 32),none,.bslice 3 [(.t 31)]⟩ wz1
 (.l ⟨(some 26),none,.bslice 3 []⟩ wz0
 (.l ⟨(some 30),none,.append 3 32 (.t 26) (.t 29)⟩ wz2
 (.l ⟨(some 33),none,.append 3 32 (.t 30) (.t 32)⟩ wz3
 (.l ⟨(some 37),none,.append 3 32 (.t 33) (.t 36)⟩ []
 (tm 4 (.t 37) .done) .non) .non) .non) .non) .non))))))))))
 .ret))))))
theorem e0x:a1b Tryz.prog Tryz.f225 = some (d7e.erase,[.mov (.t 4)],38):=by kernel_rfl
def a3u (A:(List a0g)) (D:a0g):Nat → Int → Option Int
  | 0,_ => none
  | k + 1,E =>
    ((if (decide (E > 0)) then
    if (0:Int) ≤ w64 (E - 1) ∧ w64 (E - 1) < (A.length:Int) then
    (A[(0 + (w64 (E - 1)).toNat)]?).bind fun H =>
    (a7q H D).bind fun G =>
    some (decide (G > 0))
    else none
    else
    some false:Option Bool)).bind fun F =>
    if F then
    a3u A D k (w64 (E - 1))
    else
    some E
def a9q (A:(List a0g)) (D:a0g):Option (List a0g) :=
    (b2v A D).bind fun J =>
    if J then
    some A
    else
    (a3u A D FUEL (A.length:Int)).bind fun B =>
    if (0:Int) ≤ B ∧ B ≤ (A.length:Int) then
    if (0:Int) ≤ B ∧ B ≤ (A.length:Int) then
    if ([] ++ (A.take B.toNat)).length ≤ 2 ^ 30 then
    if (([] ++ (A.take B.toNat)) ++ [D]).length ≤ 2 ^ 30 then
    if ((([] ++ (A.take B.toNat)) ++ [D]) ++ ((A.drop B.toNat).take (A.length - B.toNat))).length ≤ 2 ^ 30 then
    some ((([] ++ (A.take B.toNat)) ++ [D]) ++ ((A.drop B.toNat).take (A.length - B.toNat)))
    else none
    else none
    else none
    else none
    else none
theorem c3j (A:(List a0g)) (D:a0g) (r:(List a0g)) (hf:a9q A D = some r):a0z Tryz.prog true 225 [(.own 0 0 A.length),(o5 D)] [.row 3 (A.map o5)] (.own 1 0 r.length) [.dead,.row 3 (r.map o5)]:=by
 refine a0z.of_awp mixed Tryz.func225 e0x nle ?_;rw [a0l];unfold a9q at hf;unfold d7e;refine (show awp Tryz.prog true 1 _ (ofL [(0,(.own 0 0 A.length)),(1,(o5 D))]) [.row 3 (A.map o5)] _ from ?_);refine sr<|y7 (a1i (j:=1) (c:=(.agg [(.I D.Kind),(.I D.N),(.str D.T)])) rfl tr rfl rfl)<|l7 .nil rfl<|dk<|o6<|sr<|?_
 obtain ⟨J,er4,hf⟩:=ob hf
 refine l7 (.own 0 0 A.length) rfl<|o7 (.agg [(.I D.Kind),(.I D.N),(.str D.T)]) rfl nle rfl<|y7 (a0p (c8p _ _ _ er4) rfl (.cons (.of_eq (congrArg (AV.lst _) (tko A))) (.cons .r .nil)) rfl)<|dk<|?_
 rcases oi hf with ⟨c5,hf⟩ | ⟨c5,hf⟩
 ·refine x9 rfl c5<|sr<|l7 (.own 0 0 A.length) rfl<|l7 (.own 0 0 A.length) rfl<|dk<|a0d<|?_;obtain rfl:=os hf;exact a4p [.mv 0] [0,2] rfl ⟨tr,tr⟩ rfl .r .r
 ·refine x8 rfl (bf c5)<|a0h<|a0j<|sr<|l7 (.own 0 0 A.length) rfl<|a1a (a8p rfl rfl) fun hl6 => l7 (.I (A.length:Int)) rfl<|dk<|o6<|?_
  obtain ⟨B,hb1,hf⟩:=ob hf
  refine a2d ([(0,(.own 0 0 A.length)),(3,(.ptr 1 0 0)),(5,(.I B))],[.row 3 (A.map o5),.box 3 (.agg [(.I D.Kind),(.I D.N),(.str D.T)])]) ?_ ?_
  ·refine a1h (X:={q:(Nat × Int) // a3u A D q.1 q.2 = some B}) (fun q => ([(0,(.own 0 0 A.length)),(3,(.ptr 1 0 0)),(5,(.I q.1.2))],[.row 3 (A.map o5),.box 3 (.agg [(.I D.Kind),(.I D.N),(.str D.T)])])) (fun q => q.1.1) ⟨(FUEL,(A.length:Int)),hb1⟩ ⟨[],[0,1],_,_,rfl,rfl,⟨.r,⟨.r,⟨.r,tr⟩⟩⟩,.r⟩ ?_
   rintro ⟨⟨k,E⟩,hc1⟩
   have hc1:a3u A D k E = some B:=hc1
   refine (show awp Tryz.prog true 1 _ (ofL [(0,(.own 0 0 A.length)),(3,(.ptr 1 0 0)),(5,(.I E))]) [.row 3 (A.map o5),.box 3 (.agg [(.I D.Kind),(.I D.N),(.str D.T)])] _ from ?_)
   rcases k with _ | k
   ·rw [a3u.eq_1] at hc1
    cases hc1
   ·rw [a3u.eq_2] at hc1;refine o6<|o6<|?_
    obtain ⟨F,hb2,hc1⟩:=ob hc1
    refine a2d ([(0,(.own 0 0 A.length)),(3,(.ptr 1 0 0)),(5,(.I E)),(23,(.bool F))],[.row 3 (A.map o5),.box 3 (.agg [(.I D.Kind),(.I D.N),(.str D.T)])]) ?_ ?_
    ·refine a0t ?_
     rcases oi hb2 with ⟨c64,hb2⟩ | ⟨c64,hb2⟩
     ·obtain ⟨g65,hb2⟩:=og hb2
      obtain ⟨H,ex67,hb2⟩:=ob hb2
      obtain ⟨G,er69,hb2⟩:=ob hb2
      refine l7 (.I E) rfl<|o7 (.bool (decide (E > 0))) rfl rfl rfl<|l7 (.bool (decide (E > 0))) rfl<|a0x (s:=14) (b:=true) rfl c64<|s_on rfl<|l7 (.own 0 0 A.length) rfl<|s_on rfl<|l7 (.I E) rfl<|s_on rfl<|o7 (.I (w64 (E - 1))) rfl rfl rfl<|s_on rfl<|y7 (a2x rfl rfl g65.1 g65.2 rfl rfl)<|s_on rfl<|y7 (b2c (enc:=o5) (v:=(o5 H)) rfl rfl ex67 nle rfl)<|s_on rfl<|o7 (.agg [(.I D.Kind),(.I D.N),(.str D.T)]) rfl nle rfl<|c6t rfl<|a2e (a0p (b6t _ _ _ er69) rfl .r rfl) a2j tr<|s_on rfl<|o7 (.bool (decide (G > 0))) rfl rfl rfl<|?_
      refine o7 (.bool (decide (G > 0))) rfl tr rfl<|a0e<|?_;obtain rfl:=os hb2;exact ⟨[],[0,1],_,_,rfl,rfl,⟨.r,⟨.r,⟨.r,⟨.r,tr⟩⟩⟩⟩,.r⟩
     ·refine l7 (.I E) rfl<|o7 (.bool (decide (E > 0))) rfl rfl rfl<|l7 (.bool (decide (E > 0))) rfl<|a0x (s:=14) (b:=false) rfl (bf c64)<|y5 rfl rfl<|y5 rfl rfl<|y5 rfl rfl<|y5 rfl rfl<|y5 rfl rfl<|y5 rfl rfl<|c0d rfl rfl tr<|y5 rfl rfl<|o7 (.bool false) rfl tr rfl<|a0e<|?_;obtain rfl:=os hb2;exact ⟨[],[0,1],_,_,rfl,rfl,⟨.r,⟨.r,⟨.r,⟨.r,tr⟩⟩⟩⟩,.r⟩
    ·rcases oi hc1 with ⟨c70,hc1⟩ | ⟨c70,hc1⟩
     ·refine x9 rfl c70<|a0h<|a0j<|a2y<|a0t<|l7 (.I E) rfl<|o7 (.I (w64 (E - 1))) rfl rfl rfl<|l7 (.I (w64 (E - 1))) rfl<|a0e<|a1v<|?_;exact a1p ⟨(k,w64 (E - 1)),hc1⟩ (Nat.lt_succ_self _) ⟨[],[0,1],_,_,rfl,rfl,⟨.r,⟨.r,⟨.r,tr⟩⟩⟩,.r⟩
     ·refine x8 rfl (bf c70)<|a2o<|a2n<|a1s<|a2m<|?_;obtain rfl:=os hc1;exact ⟨[],[0,1],_,_,rfl,rfl,⟨.r,⟨.r,⟨.r,tr⟩⟩⟩,.r⟩
  ·refine sr<|?_
   obtain ⟨g71,hf⟩:=og hf
   obtain ⟨g72,hf⟩:=og hf
   obtain ⟨g73,hf⟩:=og hf
   obtain ⟨g74,hf⟩:=og hf
   obtain ⟨g75,hf⟩:=og hf
   refine l7 (.own 0 0 A.length) rfl<|l7 (.I B) rfl<|y7 (d5w rfl rfl rfl g71.1 g71.2)<|o7 (.agg [(.I D.Kind),(.I D.N),(.str D.T)]) rfl nle rfl<|l7 (.own 0 0 A.length) rfl<|l7 (.I B) rfl<|y7 (d1l rfl rfl rfl g72.1 g72.2)<|?_;refine a2e (a1o (j:=2) (as':=[]) rfl (fun _ => by decide) tr .r rfl rfl rfl) (.inr ⟨(b1f rfl rfl rfl g72.1 g72.2),⟨⟨nle,rfl⟩,⟨(c1j rfl rfl rfl g71.1 g71.2),tr⟩⟩⟩) ?_ ?_
   ·refine a2e (a1o (j:=2) (as':=[(o5 D)]) rfl (fun _ => by decide) ⟨rfl,tr⟩ .r rfl rfl rfl) (.inr ⟨(b1f rfl rfl rfl g72.1 g72.2),⟨(c1j rfl rfl rfl g71.1 g71.2),tr⟩⟩) tr ?_;refine a2e (a1o (j:=3) (as':=[]) rfl (fun _ => by decide) tr .r rfl rfl rfl) (.inr ⟨(b1f rfl rfl rfl g72.1 g72.2),⟨⟨nle,rfl⟩,⟨(c1j rfl rfl rfl g71.1 g71.2),tr⟩⟩⟩) tr ?_
    refine a2e (a4k (j:=4) (L:=(([] ++ (A.take B.toNat)).map o5)) (len:=([] ++ (A.take B.toNat)).length) rfl false rfl rfl (fun _ => flw (enc:=o5) (fun _ => rfl) A _ _) (fun _ _ h => (b8y (show AV.own _ _ _ = AV.lst _ _ from h)).elim) (by decide) ((by simp)) (by simp <;> omega) g73 rfl rfl) (.inr ⟨(b1f rfl rfl rfl g72.1 g72.2),⟨⟨nle,rfl⟩,tr⟩⟩) tr ?_
    refine a2e (a4k (j:=5) (L:=((([] ++ (A.take B.toNat)) ++ [D]).map o5)) (len:=(([] ++ (A.take B.toNat)) ++ [D]).length) rfl false rfl rfl (fun _ => flo (enc:=o5) (fun _ => rfl) [D] _) (fun _ _ h => (b8y (show AV.own _ _ _ = AV.lst _ _ from h)).elim) (by decide) (d1o (enc:=o5) ([] ++ (A.take B.toNat)) [D] _ (by rfl)) (by simp <;> omega) g74 rfl rfl) (.inr ⟨(b1f rfl rfl rfl g72.1 g72.2),tr⟩) tr ?_
    refine a2e (a4k (j:=6) (L:=(((([] ++ (A.take B.toNat)) ++ [D]) ++ ((A.drop B.toNat).take (A.length - B.toNat))).map o5)) (len:=((([] ++ (A.take B.toNat)) ++ [D]) ++ ((A.drop B.toNat).take (A.length - B.toNat))).length) rfl false rfl rfl (fun _ => flw (enc:=o5) (fun _ => rfl) A _ _) (fun _ _ h => (b8y (show AV.own _ _ _ = AV.lst _ _ from h)).elim) (by decide) ((apg (enc:=o5) (([] ++ (A.take B.toNat)) ++ [D]) ((A.drop B.toNat).take (A.length - B.toNat)) (tkw _ _ _))) (by simp <;> omega) g75 rfl rfl) tr tr ?_
    refine l7 (.own 6 0 (((([] ++ (A.take B.toNat)) ++ [D]) ++ ((A.drop B.toNat).take (A.length - B.toNat))).length)) rfl<|dk<|a0d<|?_;obtain rfl:=os hf;exact a4p [.kill 0] [0,6] rfl ⟨tr,tr⟩ rfl .r .r
   ·refine a2e (a4k (j:=3) (L:=(([] ++ (A.take B.toNat)).map o5)) (len:=([] ++ (A.take B.toNat)).length) rfl false rfl rfl (fun _ => flw (enc:=o5) (fun _ => rfl) A _ _) (fun _ _ h => (b8y (show AV.own _ _ _ = AV.lst _ _ from h)).elim) (by decide) ((by simp)) (by simp <;> omega) g73 rfl rfl) (.inr ⟨(b1f rfl rfl rfl g72.1 g72.2),⟨⟨nle,rfl⟩,tr⟩⟩) ?_ ?_
    ·refine a2e (a1o (j:=3) (as':=[(o5 D)]) rfl (fun _ => by decide) ⟨rfl,tr⟩ .r rfl rfl rfl) (.inr ⟨(b1f rfl rfl rfl g72.1 g72.2),⟨(c1j rfl rfl rfl g71.1 g71.2),tr⟩⟩) tr ?_
     refine a2e (a4k (j:=4) (L:=(([] ++ (A.take B.toNat)).map o5)) (len:=([] ++ (A.take B.toNat)).length) rfl false rfl rfl (fun _ => flw (enc:=o5) (fun _ => rfl) A _ _) (fun _ _ h => (b8y (show AV.own _ _ _ = AV.lst _ _ from h)).elim) (by decide) ((by simp)) (by simp <;> omega) g73 rfl rfl) (.inr ⟨(b1f rfl rfl rfl g72.1 g72.2),⟨⟨nle,rfl⟩,tr⟩⟩) tr ?_
     refine a2e (a4k (j:=5) (L:=((([] ++ (A.take B.toNat)) ++ [D]).map o5)) (len:=(([] ++ (A.take B.toNat)) ++ [D]).length) rfl false rfl rfl (fun _ => flo (enc:=o5) (fun _ => rfl) [D] _) (fun _ _ h => (b8y (show AV.own _ _ _ = AV.lst _ _ from h)).elim) (by decide) (d1o (enc:=o5) ([] ++ (A.take B.toNat)) [D] _ (by rfl)) (by simp <;> omega) g74 rfl rfl) (.inr ⟨(b1f rfl rfl rfl g72.1 g72.2),tr⟩) tr ?_
     refine a2e (a4k (j:=6) (L:=(((([] ++ (A.take B.toNat)) ++ [D]) ++ ((A.drop B.toNat).take (A.length - B.toNat))).map o5)) (len:=((([] ++ (A.take B.toNat)) ++ [D]) ++ ((A.drop B.toNat).take (A.length - B.toNat))).length) rfl false rfl rfl (fun _ => flw (enc:=o5) (fun _ => rfl) A _ _) (fun _ _ h => (b8y (show AV.own _ _ _ = AV.lst _ _ from h)).elim) (by decide) ((apg (enc:=o5) (([] ++ (A.take B.toNat)) ++ [D]) ((A.drop B.toNat).take (A.length - B.toNat)) (tkw _ _ _))) (by simp <;> omega) g75 rfl rfl) tr tr ?_
     refine l7 (.own 6 0 (((([] ++ (A.take B.toNat)) ++ [D]) ++ ((A.drop B.toNat).take (A.length - B.toNat))).length)) rfl<|dk<|a0d<|?_;obtain rfl:=os hf;exact a4p [.kill 0] [0,6] rfl ⟨tr,tr⟩ rfl .r .r
    ·refine a2e (a1o (j:=4) (as':=[(o5 D)]) rfl (fun _ => by decide) ⟨rfl,tr⟩ .r rfl rfl rfl) (.inr ⟨(b1f rfl rfl rfl g72.1 g72.2),⟨(c1j rfl rfl rfl g71.1 g71.2),tr⟩⟩) tr ?_
     refine a2e (a4k (j:=5) (L:=((([] ++ (A.take B.toNat)) ++ [D]).map o5)) (len:=(([] ++ (A.take B.toNat)) ++ [D]).length) rfl false rfl rfl (fun _ => flo (enc:=o5) (fun _ => rfl) [D] _) (fun _ _ h => (b8y (show AV.own _ _ _ = AV.lst _ _ from h)).elim) (by decide) (d1o (enc:=o5) ([] ++ (A.take B.toNat)) [D] _ (by rfl)) (by simp <;> omega) g74 rfl rfl) (.inr ⟨(b1f rfl rfl rfl g72.1 g72.2),tr⟩) tr ?_
     refine a2e (a4k (j:=6) (L:=(((([] ++ (A.take B.toNat)) ++ [D]) ++ ((A.drop B.toNat).take (A.length - B.toNat))).map o5)) (len:=((([] ++ (A.take B.toNat)) ++ [D]) ++ ((A.drop B.toNat).take (A.length - B.toNat))).length) rfl false rfl rfl (fun _ => flw (enc:=o5) (fun _ => rfl) A _ _) (fun _ _ h => (b8y (show AV.own _ _ _ = AV.lst _ _ from h)).elim) (by decide) ((apg (enc:=o5) (([] ++ (A.take B.toNat)) ++ [D]) ((A.drop B.toNat).take (A.length - B.toNat)) (tkw _ _ _))) (by simp <;> omega) g75 rfl rfl) tr tr ?_
     refine l7 (.own 6 0 (((([] ++ (A.take B.toNat)) ++ [D]) ++ ((A.drop B.toNat).take (A.length - B.toNat))).length)) rfl<|dk<|a0d<|?_;obtain rfl:=os hf;exact a4p [.kill 0] [0,6] rfl ⟨tr,tr⟩ rfl .r .r
def e6r:a0q :=
 (.seq (.reg (tm 4 (.c .nil) .done))
 (.seq (.reg (tq 7 (.bslice 3 []) (tm 8 (.t 0) (tq 9 (.append 3 32 (.t 7) (.t 8)) (tm 5 (.t 9) .done)))))
 (.seq (.seq (.reg (tm 6 (.c (.int .i64 0)) .done))
 (.block 0 (.loop (.seq (.seq (.reg (tm 10 (.t 6) (tm 11 (.t 1) (tq 12 (.len (.t 11)) (tq 13 (.bin .lss (.t 10) (.t 12)) .done)))))
 (.cond (.t 13) .skip
 (.exit 0)))
 (.seq (.block 1 (.reg (tm 16 (.t 5) (tm 17 (.t 1) (tm 18 (.t 6) (tq 19 (.iaddr 3 (.t 17) (.t 18)) (tq 20 (.load 3 true (.t 19)) (tq 21 (.call 225 [(.t 16),(.t 20)]) (tm 5 (.t 21) .done)))))))))
 (.reg (tm 14 (.t 6) (tq 15 (.bin .add (.t 14) (.c (.int .i64 1))) (tm 6 (.t 15) .done)))))))))
 (.cut (.seq (.reg (tm 22 (.t 5) (tm 4 (.t 22) .done)))
 .ret)))))
theorem e6s:a1b Tryz.prog Tryz.f407 = some (e6r.erase,[.mov (.t 4)],23):=by kernel_rfl
def a4w :List a0g → (List a0g) → Option (List a0g)
  | [],B =>
    some B
  | H :: xs,B =>
    (a9q B H).bind fun G =>
    a4w xs  G
def b3s (F:(List a0g)) (E:(List a0g)):Option (List a0g) :=
    if ([] ++ F).length ≤ 2 ^ 30 then
    (a4w E ([] ++ F)).bind fun A =>
    some A
    else none
theorem c6y (F:(List a0g)) (E:(List a0g)) (r:(List a0g)) (hf:b3s F E = some r):a0a Tryz.prog 407 .fresh [(.lst 3 (F.map o5)),(.lst 3 (E.map o5))] (.lst 3 (r.map o5)):=by
 refine a0a.of_awp mixed Tryz.func407 e6s nle ?_;rw [a0l];unfold b3s at hf;unfold e6r;refine (show awp Tryz.prog true 0 _ (ofL [(0,(.lst 3 (F.map o5))),(1,(.lst 3 (E.map o5)))]) [] _ from ?_);refine sr<|l7 .nil rfl<|dk<|sr<|?_
 obtain ⟨g3,hf⟩:=og hf
 refine y7 (a1o (j:=0) (as':=[]) rfl (fun _ => by decide) tr .r rfl rfl rfl) ?_;refine l7 (.lst 3 (F.map o5)) rfl ?_
 refine y7 (a4k (j:=1) (L:=(([] ++ F).map o5)) (len:=([] ++ F).length) rfl false rfl rfl (fun _ => flm (fun _ => rfl) _) (fun _ _ _ => flm (fun _ => rfl) _) (by decide) ((by simp)) (by simp <;> omega) g3 rfl rfl) ?_
 refine l7 (.own 1 0 (([] ++ F).length)) rfl<|dk<|o6<|sr<|l7 (.I 0) rfl<|dk<|?_
 obtain ⟨A,hb1,hf⟩:=ob hf
 refine a2d ([(5,(.own 0 0 A.length))],[.row 3 (A.map o5)]) ?_ ?_
 ·refine a1h (X:={q:(Nat × (List a0g)) // a4w (E.drop q.1) q.2 = some A}) (fun q => ([(1,(.lst 3 (E.map o5))),(5,(.own 0 0 q.1.2.length)),(6,(.I (q.1.1:Int)))],[.row 3 (q.1.2.map o5)])) (fun q => E.length - q.1.1) ⟨(0,[] ++ F),hb1⟩ ⟨[],[1],_,_,rfl,rfl,⟨.r,⟨.r,⟨.r,tr⟩⟩⟩,.r⟩ ?_
  rintro ⟨⟨D,B⟩,hc1⟩
  have hc1:a4w (E.drop D) B = some A:=hc1
  refine (show awp Tryz.prog true 0 _ (ofL [(1,(.lst 3 (E.map o5))),(5,(.own 0 0 B.length)),(6,(.I (D:Int)))]) [.row 3 (B.map o5)] _ from ?_)
  rcases a5j E D with ⟨hie31,hd34⟩ | ⟨hlt29,H,hx30,hd34⟩
  ·rw [hd34,a4w.eq_1] at hc1
   have hq33:=dlf hie31
   refine o6<|sr<|l7 (.I (D:Int)) rfl<|l7 (.lst 3 (E.map o5)) rfl<|a1a (a1t (enc:=o5) rfl) fun hl36 => o7 (.bool (decide ((D:Int) < (E.length:Int)))) rfl rfl rfl<|dk<|x8 rfl hq33<|a2o<|a2n<|a1s<|a2m<|?_;obtain rfl:=os hc1;exact ⟨[],[0],_,_,rfl,rfl,⟨.r,tr⟩,.r⟩
  ·rw [hd34,a4w.eq_2] at hc1
   have hq33:=dlt hlt29
   refine o6<|sr<|l7 (.I (D:Int)) rfl<|l7 (.lst 3 (E.map o5)) rfl<|a1a (a1t (enc:=o5) rfl) fun hl37 => o7 (.bool (decide ((D:Int) < (E.length:Int)))) rfl rfl rfl<|dk<|x9 rfl hq33<|a0h<|a0j<|o6<|a2y<|a0t<|?_
   obtain ⟨G,er39,hc1⟩:=ob hc1
   refine l7 (.own 0 0 B.length) rfl<|l7 (.lst 3 (E.map o5)) rfl<|l7 (.I (D:Int)) rfl<|y7 (a1m (enc:=o5) rfl rfl hx30)<|o7 (o5 H) rfl nle rfl<|?_;refine y7 (b3q (v:=(.own 1 0 G.length)) (h2:=[.dead,.row 3 (G.map o5)]) [] [0] (fun _ => rfl) (c3j _ _ _ er39) rfl .r .r rfl rfl) ?_;refine l7 (.own 1 0 G.length) rfl<|a0e<|a1v<|a0j<|a0t<|l7 (.I (D:Int)) rfl<|o7 (.I (w64 ((D:Int) + 1))) rfl rfl rfl<|l7 (.I (w64 ((D:Int) + 1))) rfl<|a0e<|?_;exact a1p ⟨((D + 1),G),hc1⟩ (mul hlt29) ⟨[],[1],_,_,rfl,rfl,⟨.r,⟨.r,⟨.of_eq (congrArg (AV.int _) (a1r hlt29 hl37)),tr⟩⟩⟩,.r⟩
 ·refine sr<|l7 (.own 0 0 A.length) rfl<|l7 (.own 0 0 A.length) rfl<|dk<|a0d<|?_;obtain rfl:=os hf;exact a1x ⟨tr,tr⟩ rfl (by decide) (.of_eq (congrArg (AV.lst _) (tk (enc:=o5) A)))
def e6t:a0q :=
 (.seq (.reg (tm 2 (.c .nil) (tm 3 (.c (.int .i64 0)) .done)))
 (.seq (.seq (.reg (tm 6 (.t 0) (tq 7 (.len (.t 6)) (tq 8 (.bin .gtr (.t 7) (.c (.int .i64 4096))) .done))))
 (.cond (.t 8) (.seq (.reg (tq 9 (.bslice 3 []) (tm 2 (.t 9) (tm 3 (.c (.int .i64 2)) .done))))
 .ret)
 .skip))
 (.seq (.seq (.reg (tm 4 (.c (.int .i64 0)) .done))
 (.block 0 (.loop (.seq (.seq (.reg (tm 10 (.t 4) (tm 11 (.t 0) (tq 12 (.len (.t 11)) (tq 13 (.bin .lss (.t 10) (.t 12)) .done)))))
 (.cond (.t 13) .skip
 (.exit 0)))
 (.seq (.block 1 (.seq (.seq (.reg (tm 16 (.t 0) (tm 17 (.t 4) (tq 18 (.iaddr 3 (.t 16) (.t 17)) (tq 19 (.load 3 true (.t 18)) (tq 20 (.call 228 [(.t 19)]) (tq 21 (.not (.t 20)) .done)))))))
 (.cond (.t 21) (.seq (.reg (tq 22 (.bslice 3 []) (tm 2 (.t 22) (tm 3 (.c (.int .i64 1)) .done))))
 .ret)
 .skip))
 (.seq (.reg (tm 23 (.t 0) (tm 24 (.t 4) (tq 25 (.iaddr 3 (.t 23) (.t 24)) (tq 26 (.faddr 0 (.t 25)) (tq 27 (.load 1 false (.t 26)) (tm 28 (.t 0) (tq 29 (.iaddr 3 (.t 28) (.c (.int .i64 0))) (tq 30 (.faddr 0 (.t 29)) (tq 31 (.load 1 false (.t 30)) (tq 32 (.bin .neq (.t 27) (.t 31)) .done)))))))))))
 (.cond (.t 32) (.seq (.reg (tq 33 (.bslice 3 []) (tm 2 (.t 33) (tm 3 (.c (.int .i64 9)) .done))))
 .ret)
 .skip))))
 (.reg (tm 14 (.t 4) (tq 15 (.bin .add (.t 14) (.c (.int .i64 1))) (tm 4 (.t 15) .done)))))))))
 (.cut (.seq (.reg (tq 34 (.bslice 3 []) (tm 35 (.t 0) (tq 36 (.call 407 [(.t 34),(.t 35)]) (tm 5 (.t 36) .done)))))
 (.seq (.seq (.reg (tm 37 (.t 5) (tq 38 (.len (.t 37)) (tq 39 (.bin .gtr (.t 38) (.c (.int .i64 8))) .done))))
 (.cond (.t 39) (.seq (.reg (tq 40 (.bslice 3 []) (tm 2 (.t 40) (tm 3 (.c (.int .i64 6)) .done))))
 .ret)
 .skip))
 (.seq (.reg (tm 41 (.t 5) (tm 2 (.t 41) (tm 3 (.c (.int .i64 0)) .done))))
 .ret)))))))
theorem e6u:a1b Tryz.prog Tryz.f389 = some (e6t.erase,[.mov (.t 2),.mov (.t 3)],42):=by kernel_rfl
def a4h (A:(List a0g)):List a0g → Option (Fl ((List a0g) × Int) Unit)
  | [] =>
    some (.go ())
  | E :: xs =>
    (a7j E).bind fun G =>
    if (!G) then
    some (.ret ([],1))
    else
    (idx A 0).bind fun F =>
    if (E.Kind != F.Kind) then
    some (.ret ([],9))
    else
    a4h A xs 
def b1i (A:(List a0g)):Option ((List a0g) × Int) :=
    if (decide ((A.length:Int) > 4096)) then
    some ([],2)
    else
    (a4h A A ).bind fun q => (match q with
    | .ret r => some r
    | .go _ =>
    (b3s [] A).bind fun D =>
    if (decide ((D.length:Int) > 8)) then
    some ([],6)
    else
    some (D,0))
theorem c6z (A:(List a0g)) (r:((List a0g) × Int)) (hf:b1i A = some r):a0a Tryz.prog 389 .fresh [(.lst 3 (A.map o5))] (.tup [(.lst 3 (r.1.map o5)),(.I r.2)]):=by
 refine a0a.of_awp mixed Tryz.func389 e6u nle ?_;rw [a0l];unfold b1i at hf;unfold e6t;refine (show awp Tryz.prog true 0 _ (ofL [(0,(.lst 3 (A.map o5)))]) [] _ from ?_);refine sr<|l7 .nil rfl<|l7 (.I 0) rfl<|dk<|o6<|sr<|l7 (.lst 3 (A.map o5)) rfl<|a1a (a1t (enc:=o5) rfl) fun hl2 => o7 (.bool (decide ((A.length:Int) > 4096))) rfl rfl rfl<|dk<|?_
 rcases oi hf with ⟨c3,hf⟩ | ⟨c3,hf⟩
 ·refine x9 rfl c3<|sr<|?_;refine y7 (a1o (j:=0) (as':=[]) rfl (fun _ => by decide) tr .r rfl rfl rfl) ?_;refine l7 (.own 0 0 0) rfl<|l7 (.I 2) rfl<|dk<|a0d<|?_;obtain rfl:=os hf;exact a1x ⟨tr,⟨tr,tr⟩⟩ rfl (by decide) .r
 ·refine x8 rfl (bf c3)<|a0h<|a0j<|o6<|sr<|l7 (.I 0) rfl<|dk<|?_
  obtain ⟨p43,hb1,hf⟩:=ob hf
  refine a1u (X:={q:Unit // p43 = .go q}) (fun q => ([(0,(.lst 3 (A.map o5)))],[])) ?_ ?_
  ·refine a1h (X:={q:Nat // a4h A (A.drop q)  = some p43}) (fun q => ([(0,(.lst 3 (A.map o5))),(4,(.I (q.1:Int)))],[])) (fun q => A.length - q.1) ⟨0,hb1⟩ ⟨[],[],_,_,rfl,rfl,⟨.r,⟨.r,tr⟩⟩,.r⟩ ?_
   rintro ⟨B,hc1⟩
   have hc1:a4h A (A.drop B)  = some p43:=hc1
   refine (show awp Tryz.prog true 0 _ (ofL [(0,(.lst 3 (A.map o5))),(4,(.I (B:Int)))]) [] _ from ?_)
   rcases a5j A B with ⟨hie46,hd49⟩ | ⟨hlt44,E,hx45,hd49⟩
   ·rw [hd49,a4h.eq_1] at hc1
    have hq48:=dlf hie46
    refine o6<|sr<|l7 (.I (B:Int)) rfl<|l7 (.lst 3 (A.map o5)) rfl<|a1a (a1t (enc:=o5) rfl) fun hl51 => o7 (.bool (decide ((B:Int) < (A.length:Int)))) rfl rfl rfl<|dk<|x8 rfl hq48<|a2o<|a2n<|a1s<|a2m<|?_;obtain rfl:=os hc1;exact a2s ⟨_,rfl⟩ ⟨[],[],_,_,rfl,rfl,⟨.r,tr⟩,.r⟩
   ·rw [hd49,a4h.eq_2] at hc1
    have hq48:=dlt hlt44
    refine o6<|sr<|l7 (.I (B:Int)) rfl<|l7 (.lst 3 (A.map o5)) rfl<|a1a (a1t (enc:=o5) rfl) fun hl52 => o7 (.bool (decide ((B:Int) < (A.length:Int)))) rfl rfl rfl<|dk<|x9 rfl hq48<|a0h<|a0j<|o6<|a2y<|o6<|sr<|?_
    obtain ⟨G,er54,hc1⟩:=ob hc1
    refine l7 (.lst 3 (A.map o5)) rfl<|l7 (.I (B:Int)) rfl<|y7 (a1m (enc:=o5) rfl rfl hx45)<|o7 (o5 E) rfl nle rfl<|y7 (a0p (b5b _ _ er54) rfl .r rfl)<|o7 (.bool (!G)) rfl tr rfl<|dk<|?_
    rcases oi hc1 with ⟨c55,hc1⟩ | ⟨c55,hc1⟩
    ·refine x9 rfl c55<|sr<|?_;refine y7 (a1o (j:=0) (as':=[]) rfl (fun _ => by decide) tr .r rfl rfl rfl) ?_;refine l7 (.own 0 0 0) rfl<|l7 (.I 1) rfl<|dk<|a0d<|?_;obtain rfl:=os hc1;obtain rfl:=os hf;exact a1x ⟨tr,⟨tr,tr⟩⟩ rfl (by decide) .r
    ·refine x8 rfl (bf c55)<|a0h<|a0j<|sr<|?_
     obtain ⟨F,ex57,hc1⟩:=ob hc1
     refine l7 (.lst 3 (A.map o5)) rfl<|l7 (.I (B:Int)) rfl<|y7 (a1m (enc:=o5) rfl rfl hx45)<|o7 (.iptr (o5 E) 0) rfl tr rfl<|o7 (.I E.Kind) rfl nle rfl<|l7 (.lst 3 (A.map o5)) rfl<|y7 (a3d (enc:=o5) rfl rfl (b0a ex57) (b0b ex57))<|o7 (.iptr (o5 F) 0) rfl tr rfl<|o7 (.I F.Kind) rfl nle rfl<|o7 (.bool (E.Kind != F.Kind)) rfl rfl rfl<|dk<|?_
     rcases oi hc1 with ⟨c58,hc1⟩ | ⟨c58,hc1⟩
     ·refine x9 rfl c58<|sr<|?_;refine y7 (a1o (j:=0) (as':=[]) rfl (fun _ => by decide) tr .r rfl rfl rfl) ?_;refine l7 (.own 0 0 0) rfl<|l7 (.I 9) rfl<|dk<|a0d<|?_;obtain rfl:=os hc1;obtain rfl:=os hf;exact a1x ⟨tr,⟨tr,tr⟩⟩ rfl (by decide) .r
     ·refine x8 rfl (bf c58)<|a0h<|a1v<|a0j<|a0t<|l7 (.I (B:Int)) rfl<|o7 (.I (w64 ((B:Int) + 1))) rfl rfl rfl<|l7 (.I (w64 ((B:Int) + 1))) rfl<|a0e<|?_;exact a1p ⟨(B + 1),hc1⟩ (mul hlt44) ⟨[],[],_,_,rfl,rfl,⟨.r,⟨.of_eq (congrArg (AV.int _) (a1r hlt44 hl52)),tr⟩⟩,.r⟩
  ·rintro ⟨_,rfl⟩
   refine sr<|?_
   obtain ⟨D,er60,hf⟩:=ob hf
   refine y7 (a1o (j:=0) (as':=[]) rfl (fun _ => by decide) tr .r rfl rfl rfl) ?_;refine l7 (.lst 3 (A.map o5)) rfl<|y7 (a5i (v:=(.own 1 0 D.length)) (h':=[.row 3 (D.map o5)]) (c6y _ _ _ er60) rfl (.cons (.of_eq (congrArg (AV.lst _) (by rfl))) (.cons .r .nil)) (by simp only [a2r,a2z,List.length_map,List.nil_append,List.append_nil,List.cons_append];rfl))<|l7 (.own 1 0 D.length) rfl<|dk<|o6<|sr<|l7 (.own 1 0 D.length) rfl<|a1a (a8p rfl rfl) fun hl61 => o7 (.bool (decide ((D.length:Int) > 8))) rfl rfl rfl<|dk<|?_
   rcases oi hf with ⟨c62,hf⟩ | ⟨c62,hf⟩
   ·refine x9 rfl c62<|sr<|?_;refine y7 (a1o (j:=2) (as':=[]) rfl (fun _ => by decide) tr .r rfl rfl rfl) ?_;refine l7 (.own 2 0 0) rfl<|l7 (.I 6) rfl<|dk<|a0d<|?_;obtain rfl:=os hf;exact a1x ⟨tr,⟨tr,tr⟩⟩ rfl (by decide) .r
   ·refine x8 rfl (bf c62)<|a0h<|a0j<|sr<|l7 (.own 1 0 D.length) rfl<|l7 (.own 1 0 D.length) rfl<|l7 (.I 0) rfl<|dk<|a0d<|?_;obtain rfl:=os hf;exact a1x ⟨tr,⟨tr,tr⟩⟩ rfl (by decide) (.tup (.cons (.of_eq (congrArg (AV.lst _) (tk (enc:=o5) D))) (.cons .r .nil)))
def e6v:a0q :=
 (.seq (.reg (tq 1 (.box 5 (.t 0)) (tm 2 (.c .nil) (tm 3 (.c (.bool false)) .done))))
 (.seq (.reg (tq 15 (.load 5 true (.t 1)) (tq 16 (.call 387 [(.t 15),(.c (.str [115,101,116]))]) (tm 14 (.t 16) (tq 17 (.extract 0 (.t 14)) (tq 18 (.extract 1 (.t 14)) (tq 4 (.box 5 (.c (.agg [(.int .i64 0),(.int .i64 0),(.str []),.nil,.nil]))) (.q ⟨none,none,.store 5 (.t 4) (.t 17)⟩
 (tm 5 (.t 18) .done)))))))))
 (.seq (.seq (.reg (tm 19 (.t 5) (tq 20 (.not (.t 19)) .done)))
 (.cond (.t 20) (.seq (.reg (tq 22 (.load 5 true (.t 1)) (tq 23 (.call 388 [(.t 22)]) (tm 21 (.t 23) (tq 24 (.extract 0 (.t 21)) (tq 25 (.extract 1 (.t 21)) (tq 6 (.box 3 (.c (.agg [(.int .i64 0),(.int .i64 0),(.str [])]))) (.q ⟨none,none,.store 3 (.t 6) (.t 24)⟩
 (tm 7 (.t 25) .done)))))))))
 (.seq (.reg (tq 26 (.load 3 true (.t 6)) (tq 27 (.bslice 3 [(.t 26)]) (tm 28 (.t 7) (tm 2 (.t 27) (tm 3 (.t 28) .done))))))
 .ret))
 .skip))
 (.seq (.reg (tq 29 (.bslice 3 []) (tm 8 (.t 29) .done)))
 (.seq (.seq (.reg (tm 9 (.c (.int .i64 0)) .done))
 (.block 0 (.loop (.seq (.seq (.reg (tm 30 (.t 9) (tq 31 (.faddr 4 (.t 4)) (tq 32 (.load 1 false (.t 31)) (tq 33 (.len (.t 32)) (tq 34 (.bin .lss (.t 30) (.t 33)) .done))))))
 (.cond (.t 34) .skip
 (.exit 0)))
 (.seq (.block 1 (.seq (.reg (tq 38 (.faddr 4 (.t 4)) (tq 39 (.load 1 false (.t 38)) (tm 40 (.t 9) (tq 41 (.iaddr 5 (.t 39) (.t 40)) (tq 42 (.load 5 true (.t 41)) (tq 43 (.call 388 [(.t 42)]) (tm 37 (.t 43) (tq 44 (.extract 0 (.t 37)) (tq 45 (.extract 1 (.t 37)) (tq 10 (.box 3 (.c (.agg [(.int .i64 0),(.int .i64 0),(.str [])]))) (.q ⟨none,none,.store 3 (.t 10) (.t 44)⟩
 (tm 11 (.t 45) .done)))))))))))))
 (.seq (.seq (.reg (tm 46 (.t 11) (tq 47 (.not (.t 46)) .done)))
 (.cond (.t 47) (.seq (.reg (tq 48 (.bslice 3 []) (tm 2 (.t 48) (tm 3 (.c (.bool false)) .done))))
 .ret)
 .skip))
 (.reg (tm 49 (.t 8) (tq 50 (.load 3 true (.t 10)) (tq 51 (.bslice 3 [(.t 50)]) (tq 52 (.append 3 32 (.t 49) (.t 51)) (tm 8 (.t 52) .done)))))))))
 (.reg (tm 35 (.t 9) (tq 36 (.bin .add (.t 35) (.c (.int .i64 1))) (tm 9 (.t 36) .done)))))))))
 (.cut (.seq (.reg (tm 54 (.t 8) (tq 55 (.call 389 [(.t 54)]) (tm 53 (.t 55) (tq 56 (.extract 0 (.t 53)) (tq 57 (.extract 1 (.t 53)) (tm 12 (.t 56) (tm 13 (.t 57) .done))))))))
 (.seq (.reg (tm 58 (.t 12) (tq 59 (.faddr 0 (.t 4)) (tq 60 (.load 1 false (.t 59)) (tq 61 (.bin .eql (.t 60) (.c (.int .i64 4))) (tm 62 (.t 61) (tg 63 62 true (.mov (.t 13)) (tg 64 62 true (.bin .eql (.t 63) (.c (.int .i64 0))) (tq 65 (.pick (.t 62) (.t 64) (.c (.bool false))) (tm 2 (.t 58) (tm 3 (.t 65) .done)))))))))))
 .ret))))))))
theorem e6w:a1b Tryz.prog Tryz.f355 = some (e6v.erase,[.mov (.t 2),.mov (.t 3)],66):=by kernel_rfl
def a3b :List y8 → (List a0g) → Option (Fl ((List a0g) × Bool) (List a0g))
  | [],D =>
    some (.go D)
  | J :: xs,D =>
    (a7c J).bind fun B =>
    if (!B.2) then
    some (.ret ([],false))
    else
    if (D ++ [B.1]).length ≤ 2 ^ 30 then
    a3b xs  (D ++ [B.1])
    else none
def a8q (F:y8):Option ((List a0g) × Bool) :=
    (a3t F [115,101,116]).bind fun A =>
    if (!A.2) then
    (a7c F).bind fun G =>
    some ([G.1],G.2)
    else
    (a3b A.1.Items []).bind fun q => (match q with
    | .ret r => some r
    | .go K =>
    (b1i K).bind fun E =>
    if (A.1.Kind == 4) then
    some (E.1,(E.2 == 0))
    else
    some (E.1,false))
theorem c1r (F:y8) (r:((List a0g) × Bool)) (hf:a8q F = some r):a0a Tryz.prog 355 .fresh [(l9 F)] (.tup [(.lst 3 (r.1.map o5)),(.bool r.2)]):=by
 refine a0a.of_awp mixed Tryz.func355 e6w nle ?_;rw [a0l];rw [o9 F];unfold a8q at hf;unfold e6v;refine (show awp Tryz.prog true 0 _ (ofL [(0,(.agg [(.I F.Kind),(.I F.N),(.str F.T),(.lst 1 (F.Keys.map AV.str)),(.lst 5 (F.Items.map l9))]))]) [] _ from ?_);refine sr<|y7 (a1i (j:=0) (c:=(.agg [(.I F.Kind),(.I F.N),(.str F.T),(.lst 1 (F.Keys.map AV.str)),(.lst 5 (F.Items.map l9))])) rfl tr rfl rfl)<|l7 .nil rfl<|l7 (.bool false) rfl<|dk<|sr<|?_
 obtain ⟨A,er3,hf⟩:=ob hf
 refine o7 (.agg [(.I F.Kind),(.I F.N),(.str F.T),(.lst 1 (F.Keys.map AV.str)),(.lst 5 (F.Items.map l9))]) rfl nle rfl<|y7 (b8p (v:=(.tup [(.agg [(.I A.1.Kind),(.I A.1.N),(.str A.1.T),(.lst 1 (A.1.Keys.map AV.str)),(.lst 5 (A.1.Items.map l9))]),(.bool A.2)])) rfl (b7p _ _ _ er3) rfl (.cons (.of_eq (o9 F).symm) (.cons .r .nil)) (by simp only [o9]) rfl)<|l7 (.tup [(.agg [(.I A.1.Kind),(.I A.1.N),(.str A.1.T),(.lst 1 (A.1.Keys.map AV.str)),(.lst 5 (A.1.Items.map l9))]),(.bool A.2)]) rfl<|o7 (.agg [(.I A.1.Kind),(.I A.1.N),(.str A.1.T),(.lst 1 (A.1.Keys.map AV.str)),(.lst 5 (A.1.Items.map l9))]) rfl nle rfl<|?_
 refine o7 (.bool A.2) rfl nle rfl<|y7 (a1i (j:=1) (c:=(.agg [(.I 0),(.I 0),(.str []),.nil,.nil])) rfl tr rfl rfl)<|a1k (a0i (v:=(.agg [(.I A.1.Kind),(.I A.1.N),(.str A.1.T),(.lst 1 (A.1.Keys.map AV.str)),(.lst 5 (A.1.Items.map l9))])) (y':=(.agg [(.I A.1.Kind),(.I A.1.N),(.str A.1.T),(.lst 1 (A.1.Keys.map AV.str)),(.lst 5 (A.1.Items.map l9))])) rfl rfl rfl tr ⟨rfl,nle⟩ ⟨⟨rfl,tr⟩,⟨⟨rfl,tr⟩,⟨⟨rfl,tr⟩,⟨⟨rfl,tr⟩,⟨⟨rfl,tr⟩,tr⟩⟩⟩⟩⟩ rfl)<|l7 (.bool A.2) rfl<|dk<|o6<|sr<|l7 (.bool A.2) rfl<|o7 (.bool (!A.2)) rfl tr rfl<|?_
 refine dk<|?_
 rcases oi hf with ⟨c4,hf⟩ | ⟨c4,hf⟩
 ·refine x9 rfl c4<|sr<|?_
  obtain ⟨G,er6,hf⟩:=ob hf
  refine o7 (.agg [(.I F.Kind),(.I F.N),(.str F.T),(.lst 1 (F.Keys.map AV.str)),(.lst 5 (F.Items.map l9))]) rfl nle rfl<|y7 (a0p (b5j _ _ er6) rfl (.cons (.of_eq (o9 F).symm) .nil) rfl)<|l7 (.tup [(o5 G.1),(.bool G.2)]) rfl<|o7 (o5 G.1) rfl nle rfl<|o7 (.bool G.2) rfl nle rfl<|y7 (a1i (j:=2) (c:=(.agg [(.I 0),(.I 0),(.str [])])) rfl tr rfl rfl)<|a1k (a0i (v:=(.agg [(.I G.1.Kind),(.I G.1.N),(.str G.1.T)])) (y':=(.agg [(.I G.1.Kind),(.I G.1.N),(.str G.1.T)])) rfl rfl rfl tr ⟨rfl,nle⟩ ⟨⟨rfl,tr⟩,⟨⟨rfl,tr⟩,⟨⟨rfl,tr⟩,tr⟩⟩⟩ rfl)<|?_
  refine l7 (.bool G.2) rfl<|dk<|sr<|o7 (.agg [(.I G.1.Kind),(.I G.1.N),(.str G.1.T)]) rfl nle rfl<|?_;refine y7 (a1o (j:=3) (as':=[(o5 G.1)]) rfl (fun _ => by decide) ⟨rfl,tr⟩ .r rfl rfl rfl) ?_;refine l7 (.bool G.2) rfl<|l7 (.own 3 0 1) rfl<|l7 (.bool G.2) rfl<|dk<|a0d<|?_;obtain rfl:=os hf;exact a1x ⟨tr,⟨tr,tr⟩⟩ rfl (by decide) .r
 ·refine x8 rfl (bf c4)<|a0h<|a0j<|sr<|?_;refine y7 (a1o (j:=2) (as':=[]) rfl (fun _ => by decide) tr .r rfl rfl rfl) ?_;refine l7 (.own 2 0 0) rfl<|dk<|o6<|sr<|l7 (.I 0) rfl<|dk<|?_
  obtain ⟨p37,hb1,hf⟩:=ob hf
  refine a1u (X:={q:(List a0g) // p37 = .go q}) (fun q => ([(4,(.ptr 0 0 0)),(8,(.own 1 0 q.1.length))],[.box 5 (.agg [(.I A.1.Kind),(.I A.1.N),(.str A.1.T),(.lst 1 (A.1.Keys.map AV.str)),(.lst 5 (A.1.Items.map l9))]),.row 3 (q.1.map o5)])) ?_ ?_
  ·refine a1h (X:={q:(Nat × (List a0g)) // a3b (A.1.Items.drop q.1) q.2 = some p37}) (fun q => ([(4,(.ptr 0 0 0)),(8,(.own 1 0 q.1.2.length)),(9,(.I (q.1.1:Int)))],[.box 5 (.agg [(.I A.1.Kind),(.I A.1.N),(.str A.1.T),(.lst 1 (A.1.Keys.map AV.str)),(.lst 5 (A.1.Items.map l9))]),.row 3 (q.1.2.map o5)])) (fun q => A.1.Items.length - q.1.1) ⟨(0,[]),hb1⟩ ⟨[],[1,2],_,_,rfl,rfl,⟨.r,⟨.of_eq (congrArg (AV.own _ 0) (by simp)),⟨.r,tr⟩⟩⟩,.r⟩ ?_
   rintro ⟨⟨H,D⟩,hc1⟩
   have hc1:a3b (A.1.Items.drop H) D = some p37:=hc1
   refine (show awp Tryz.prog true 0 _ (ofL [(4,(.ptr 0 0 0)),(8,(.own 1 0 D.length)),(9,(.I (H:Int)))]) [.box 5 (.agg [(.I A.1.Kind),(.I A.1.N),(.str A.1.T),(.lst 1 (A.1.Keys.map AV.str)),(.lst 5 (A.1.Items.map l9))]),.row 3 (D.map o5)] _ from ?_)
   rcases a5j A.1.Items H with ⟨hie40,hd43⟩ | ⟨hlt38,J,hx39,hd43⟩
   ·rw [hd43,a3b.eq_1] at hc1
    have hq42:=dlf hie40
    refine o6<|sr<|l7 (.I (H:Int)) rfl<|o7 (.ptr 0 0 4) rfl tr rfl<|o7 (.lst 5 (A.1.Items.map l9)) rfl nle rfl<|a1a (a1t (enc:=l9) rfl) fun hl45 => o7 (.bool (decide ((H:Int) < (A.1.Items.length:Int)))) rfl rfl rfl<|dk<|x8 rfl hq42<|a2o<|a2n<|a1s<|a2m<|?_;obtain rfl:=os hc1;exact a2s ⟨_,rfl⟩ ⟨[],[0,1],_,_,rfl,rfl,⟨.r,⟨.r,tr⟩⟩,.r⟩
   ·rw [hd43,a3b.eq_2] at hc1
    have hq42:=dlt hlt38
    refine o6<|sr<|l7 (.I (H:Int)) rfl<|o7 (.ptr 0 0 4) rfl tr rfl<|o7 (.lst 5 (A.1.Items.map l9)) rfl nle rfl<|a1a (a1t (enc:=l9) rfl) fun hl46 => o7 (.bool (decide ((H:Int) < (A.1.Items.length:Int)))) rfl rfl rfl<|dk<|x9 rfl hq42<|a0h<|a0j<|o6<|a2y<|sr<|?_
    obtain ⟨B,er48,hc1⟩:=ob hc1
    refine o7 (.ptr 0 0 4) rfl tr rfl<|o7 (.lst 5 (A.1.Items.map l9)) rfl nle rfl<|l7 (.I (H:Int)) rfl<|y7 (a1m (enc:=l9) rfl rfl hx39)<|y7 (a2l (v:=(.agg [(.I J.Kind),(.I J.N),(.str J.T),(.lst 1 (J.Keys.map AV.str)),(.lst 5 (J.Items.map l9))])) rfl (o9 _) nle rfl)<|y7 (a0p (b5j _ _ er48) rfl (.cons (.of_eq (o9 J).symm) .nil) rfl)<|l7 (.tup [(o5 B.1),(.bool B.2)]) rfl<|o7 (o5 B.1) rfl nle rfl<|o7 (.bool B.2) rfl nle rfl<|y7 (a1i (j:=2) (c:=(.agg [(.I 0),(.I 0),(.str [])])) rfl tr rfl rfl)<|a1k (a0i (v:=(.agg [(.I B.1.Kind),(.I B.1.N),(.str B.1.T)])) (y':=(.agg [(.I B.1.Kind),(.I B.1.N),(.str B.1.T)])) rfl rfl rfl tr ⟨rfl,nle⟩ ⟨⟨rfl,tr⟩,⟨⟨rfl,tr⟩,⟨⟨rfl,tr⟩,tr⟩⟩⟩ rfl)<|?_
    refine l7 (.bool B.2) rfl<|dk<|o6<|sr<|l7 (.bool B.2) rfl<|o7 (.bool (!B.2)) rfl tr rfl<|dk<|?_
    rcases oi hc1 with ⟨c49,hc1⟩ | ⟨c49,hc1⟩
    ·refine x9 rfl c49<|sr<|?_;refine y7 (a1o (j:=3) (as':=[]) rfl (fun _ => by decide) tr .r rfl rfl rfl) ?_;refine l7 (.own 3 0 0) rfl<|l7 (.bool false) rfl<|dk<|a0d<|?_;obtain rfl:=os hc1;obtain rfl:=os hf;exact a1x ⟨tr,⟨tr,tr⟩⟩ rfl (by decide) .r
    ·refine x8 rfl (bf c49)<|a0h<|a0j<|a0t<|?_
     obtain ⟨g50,hc1⟩:=og hc1
     refine l7 (.own 1 0 D.length) rfl<|o7 (.agg [(.I B.1.Kind),(.I B.1.N),(.str B.1.T)]) rfl nle rfl<|?_;refine y7 (a1o (j:=3) (as':=[(o5 B.1)]) rfl (fun _ => by decide) ⟨rfl,tr⟩ .r rfl rfl rfl) ?_
     refine y7 (a4k (j:=4) (L:=((D ++ [B.1]).map o5)) (len:=(D ++ [B.1]).length) rfl false rfl rfl (fun _ => flo (enc:=o5) (fun _ => rfl) [B.1] _) (fun _ _ h => (b8y (show AV.own _ _ _ = AV.lst _ _ from h)).elim) (by decide) (d1o (enc:=o5) D [B.1] _ (by rfl)) (by simp <;> omega) g50 rfl rfl) ?_
     refine l7 (.own 4 0 ((D ++ [B.1]).length)) rfl<|a0e<|a1v<|a0j<|a0t<|l7 (.I (H:Int)) rfl<|o7 (.I (w64 ((H:Int) + 1))) rfl rfl rfl<|l7 (.I (w64 ((H:Int) + 1))) rfl<|a0e<|?_;exact a1p ⟨((H + 1),D ++ [B.1]),hc1⟩ (mul hlt38) ⟨[],[0,4],_,_,rfl,rfl,⟨.r,⟨.r,⟨.of_eq (congrArg (AV.int _) (a1r hlt38 hl46)),tr⟩⟩⟩,.r⟩
  ·rintro ⟨K,rfl⟩
   refine sr<|?_
   obtain ⟨E,er52,hf⟩:=ob hf
   refine l7 (.own 1 0 K.length) rfl<|y7 (a5i (v:=(.tup [(.own 2 0 E.1.length),(.I E.2)])) (h':=[.row 3 (E.1.map o5)]) (c6z _ _ er52) rfl (.cons (.of_eq (congrArg (AV.lst _) (tko K))) .nil) (by simp only [a2r,a2z,List.length_map,List.nil_append,List.append_nil,List.cons_append];rfl))<|l7 (.tup [(.own 2 0 E.1.length),(.I E.2)]) rfl<|o7 (.own 2 0 E.1.length) rfl nle rfl<|o7 (.I E.2) rfl nle rfl<|l7 (.own 2 0 E.1.length) rfl<|l7 (.I E.2) rfl<|dk<|sr<|?_
   rcases oi hf with ⟨c53,hf⟩ | ⟨c53,hf⟩
   ·refine l7 (.own 2 0 E.1.length) rfl<|o7 (.ptr 0 0 0) rfl tr rfl<|o7 (.I A.1.Kind) rfl nle rfl<|o7 (.bool (A.1.Kind == 4)) rfl rfl rfl<|l7 (.bool (A.1.Kind == 4)) rfl<|a0x (s:=62) (b:=true) rfl c53<|s_on rfl<|l7 (.I E.2) rfl<|s_on rfl<|o7 (.bool (E.2 == 0)) rfl rfl rfl<|o7 (.bool (E.2 == 0)) rfl tr rfl<|l7 (.own 2 0 E.1.length) rfl<|l7 (.bool (E.2 == 0)) rfl<|dk<|a0d<|?_;obtain rfl:=os hf;exact a1x ⟨tr,⟨tr,tr⟩⟩ rfl (by decide) (.tup (.cons (.of_eq (congrArg (AV.lst _) (tk (enc:=o5) E.1))) (.cons .r .nil)))
   ·refine l7 (.own 2 0 E.1.length) rfl<|o7 (.ptr 0 0 0) rfl tr rfl<|o7 (.I A.1.Kind) rfl nle rfl<|o7 (.bool (A.1.Kind == 4)) rfl rfl rfl<|l7 (.bool (A.1.Kind == 4)) rfl<|a0x (s:=62) (b:=false) rfl (bf c53)<|y5 rfl rfl<|y5 rfl rfl<|o7 (.bool false) rfl tr rfl<|l7 (.own 2 0 E.1.length) rfl<|l7 (.bool false) rfl<|dk<|a0d<|?_;obtain rfl:=os hf;exact a1x ⟨tr,⟨tr,tr⟩⟩ rfl (by decide) (.tup (.cons (.of_eq (congrArg (AV.lst _) (tk (enc:=o5) E.1))) (.cons .r .nil)))
end Go.R
