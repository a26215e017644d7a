/- Walks. -/
import Derived.Test.YtgdkfnndbknjpaaJDT
set_option linter.all false
namespace Go.R
open Go Go.Proofs
set_option linter.unusedVariables false
set_option linter.unusedSimpArgs false
set_option maxHeartbeats 8000000
/- laws.szStringS -/
def c13:a0p :=
 (.seq (.reg (tm 4 (.c (.int .i64 0)) .done))
 (.seq (.reg (tm 6 (.t 1) (tm 7 (.t 0) (tq 8 (.len (.t 7)) (tq 9 (.bin .sub (.t 6) (.t 8)) (tm 1 (.t 9) .done))))))
 (.seq (.seq (.reg (tm 10 (.t 1) (tq 11 (.bin .lss (.t 10) (.c (.int .i64 0))) .done)))
 (.cond (.t 11) (.seq (.reg (tq 4 (.mov (.c (.int .i64 (-1)))) .done))
 .ret)
 .skip))
 (.seq (.seq (.reg (tm 5 (.c (.int .i64 0)) .done))
 (.block 0 (.loop (.seq (.seq (.reg (tm 12 (.t 5) (tm 13 (.t 0) (tq 14 (.len (.t 13)) (tq 15 (.bin .lss (.t 12) (.t 14)) .done)))))
 (.cond (.t 15) .skip
 (.exit 0)))
 (.seq (.block 1 (.seq (.reg (tm 18 (.t 1) (tm 19 (.t 0) (tm 20 (.t 5) (tq 21 (.iaddr 1 (.t 19) (.t 20)) (tq 22 (.load 1 false (.t 21)) (tq 23 (.lenS (.t 22)) (tq 24 (.bin .sub (.t 18) (.t 23)) (tm 1 (.t 24) .done)))))))))
 (.seq (.reg (tm 25 (.t 1) (tq 26 (.bin .lss (.t 25) (.c (.int .i64 0))) .done)))
 (.cond (.t 26) (.seq (.reg (tq 4 (.mov (.c (.int .i64 (-1)))) .done))
 .ret)
 .skip))))
 (.reg (tm 16 (.t 5) (tq 17 (.bin .add (.t 16) (.c (.int .i64 1))) (tm 5 (.t 17) .done)))))))))
 (.cut (.seq (.reg (tm 27 (.t 1) (tm 4 (.t 27) .done)))
 .ret))))))
theorem d4y:a1f Try.prog Try.f13 = some (c13.erase,[.mov (.t 4)],28):=by kernel_rfl
def a1q :List Str → Int → Option (Fl Int Int)
  | [],left_19 =>
    some (.go left_19)
  | x_36 :: xs,left_19 =>
    if (decide (w64 (left_19 - (x_36.length:Int)) < 0)) then
    some (.ret (-1))
    else
    a1q xs (w64 (left_19 - (x_36.length:Int))) 

def a6e (a_1:(List Str)) (left_2:Int):Option Int :=
    if (decide (w64 (left_2 - (a_1.length:Int)) < 0)) then
    some (-1)
    else
    (a1q a_1 (w64 (left_2 - (a_1.length:Int)))).bind fun q => (match q with
    | .ret r => some r
    | .go left_28 =>
    some left_28)
theorem b6b (a_1:(List Str)) (left_2:Int) (r:Int) (hf:a6e a_1 left_2 = some r):a0d Try.prog 13 .flat [(.lst 1 (a_1.map AV.str)),(.int .i64 left_2)] (.int .i64 r):=by
 refine a0d.of_awp mixed Try.func13 d4y nle ?_;rw [a0q];unfold a6e at hf;unfold c13;refine (show awp Try.prog false 0 _ (ofL [(0,(.lst 1 (a_1.map AV.str))),(1,(.int .i64 left_2))]) [] _ from ?_);refine sr<|l7 (.int .i64 0) rfl<|dk<|sr<|l7 (.int .i64 left_2) rfl<|l7 (.lst 1 (a_1.map AV.str)) rfl<|a1d (a2q (enc:=AV.str) rfl) fun hl3 => x9 (.int .i64 (w64 (left_2 - (a_1.length:Int)))) rfl rfl rfl<|l7 (.int .i64 (w64 (left_2 - (a_1.length:Int)))) rfl<|dk<|o6<|sr<|l7 (.int .i64 (w64 (left_2 - (a_1.length:Int)))) rfl<|x9 (.bool (decide (w64 (left_2 - (a_1.length:Int)) < 0))) rfl rfl rfl<|?_
 refine dk<|?_
 rcases oi hf with ⟨c4,hf⟩ | ⟨c4,hf⟩
 ·refine y7 rfl c4<|sr<|l7 (.int .i64 (-1)) rfl<|dk<|a0c<|?_;obtain rfl:=os hf;exact a0h ⟨trivial,trivial⟩ rfl (.refl _)
 ·refine y8 rfl (bf c4)<|a0k<|a0m<|o6<|sr<|l7 (.int .i64 0) rfl<|dk<|?_
  obtain ⟨p29,hb1,hf⟩:=ob hf
  refine a3f (X:={q:Int // p29 = .go q}) (fun q => ([(1,(.int .i64 q.1))],[])) ?_ ?_
  ·refine a1o (X:={q:(Int × Nat) // a1q (a_1.drop q.2) q.1 = some p29}) (fun q => ([(0,(.lst 1 (a_1.map AV.str))),(1,(.int .i64 q.1.1)),(5,(.int .i64 (q.1.2:Int)))],[])) (fun q => a_1.length - q.1.2) ⟨(w64 (left_2 - (a_1.length:Int)),0),hb1⟩ ⟨[],[],_,_,rfl,rfl,⟨.refl _,⟨.refl _,⟨.refl _,trivial⟩⟩⟩,(.refl _)⟩ ?_
   rintro ⟨⟨left_19,i_20⟩,hc1⟩
   have hc1:a1q (a_1.drop i_20) left_19 = some p29:=hc1
   refine (show awp Try.prog false 0 _ (ofL [(0,(.lst 1 (a_1.map AV.str))),(1,(.int .i64 left_19)),(5,(.int .i64 (i_20:Int)))]) [] _ from ?_)
   rcases a7n a_1 i_20 with ⟨hie32,hd35⟩ | ⟨hlt30,x_36,hx31,hd35⟩
   ·rw [hd35,a1q.eq_1] at hc1
    have hq34:=dlf hie32
    refine o6<|sr<|l7 (.int .i64 (i_20:Int)) rfl<|l7 (.lst 1 (a_1.map AV.str)) rfl<|a1d (a2q (enc:=AV.str) rfl) fun hl37 => x9 (.bool (decide ((i_20:Int) < (a_1.length:Int)))) rfl rfl rfl<|dk<|y8 rfl hq34<|a3x<|a3w<|a2o<|a3v<|?_;obtain rfl:=os hc1;exact a3u ⟨_,rfl⟩ ⟨[],[],_,_,rfl,rfl,⟨.refl _,trivial⟩,(.refl _)⟩
   ·rw [hd35,a1q.eq_2] at hc1
    have hq34:=dlt hlt30
    refine o6<|sr<|l7 (.int .i64 (i_20:Int)) rfl<|l7 (.lst 1 (a_1.map AV.str)) rfl<|a1d (a2q (enc:=AV.str) rfl) fun hl38 => x9 (.bool (decide ((i_20:Int) < (a_1.length:Int)))) rfl rfl rfl<|dk<|y7 rfl hq34<|a0k<|a0m<|o6<|a4a<|sr<|l7 (.int .i64 left_19) rfl<|l7 (.lst 1 (a_1.map AV.str)) rfl<|l7 (.int .i64 (i_20:Int)) rfl<|a0b (a3a (enc:=AV.str) rfl rfl hx31)<|x9 (.str x_36) rfl ⟨rfl,rfl⟩ rfl<|a1d (b4d rfl) fun hl39 => x9 (.int .i64 (w64 (left_19 - (x_36.length:Int)))) rfl rfl rfl<|l7 (.int .i64 (w64 (left_19 - (x_36.length:Int)))) rfl<|dk<|?_
    refine sr<|l7 (.int .i64 (w64 (left_19 - (x_36.length:Int)))) rfl<|x9 (.bool (decide (w64 (left_19 - (x_36.length:Int)) < 0))) rfl rfl rfl<|dk<|?_
    rcases oi hc1 with ⟨c40,hc1⟩ | ⟨c40,hc1⟩
    ·refine y7 rfl c40<|sr<|l7 (.int .i64 (-1)) rfl<|dk<|a0c<|?_;obtain rfl:=os hc1;obtain rfl:=os hf;exact a0h ⟨trivial,trivial⟩ rfl (.refl _)
    ·refine y8 rfl (bf c40)<|a0k<|a2y<|a0m<|a0x<|l7 (.int .i64 (i_20:Int)) rfl<|x9 (.int .i64 (w64 ((i_20:Int) + 1))) rfl rfl rfl<|l7 (.int .i64 (w64 ((i_20:Int) + 1))) rfl<|a0l<|?_;exact a2g ⟨(w64 (left_19 - (x_36.length:Int)),(i_20 + 1)),hc1⟩ (mul hlt30) ⟨[],[],_,_,rfl,rfl,⟨.refl _,⟨.refl _,⟨.of_eq (congrArg (AV.int _) (a2z hlt30 hl38)),trivial⟩⟩⟩,(.refl _)⟩
  ·rintro ⟨left_28,rfl⟩
   refine sr<|l7 (.int .i64 left_28) rfl<|l7 (.int .i64 left_28) rfl<|dk<|a0c<|?_;obtain rfl:=os hf;exact a0h ⟨trivial,trivial⟩ rfl (.refl _)

/- laws.szJsonS -/
def c14:a0p :=
 (.seq (.reg (tm 4 (.c (.int .i64 0)) .done))
 (.seq (.reg (tm 6 (.t 1) (tm 7 (.t 0) (tq 8 (.len (.t 7)) (tq 9 (.bin .sub (.t 6) (.t 8)) (tm 1 (.t 9) .done))))))
 (.seq (.seq (.reg (tm 10 (.t 1) (tq 11 (.bin .lss (.t 10) (.c (.int .i64 0))) .done)))
 (.cond (.t 11) (.seq (.reg (tq 4 (.mov (.c (.int .i64 (-1)))) .done))
 .ret)
 .skip))
 (.seq (.seq (.reg (tm 5 (.c (.int .i64 0)) .done))
 (.block 0 (.loop (.seq (.seq (.reg (tm 12 (.t 5) (tm 13 (.t 0) (tq 14 (.len (.t 13)) (tq 15 (.bin .lss (.t 12) (.t 14)) .done)))))
 (.cond (.t 15) .skip
 (.exit 0)))
 (.seq (.block 1 (.seq (.reg (tm 18 (.t 0) (tm 19 (.t 5) (tq 20 (.iaddr 5 (.t 18) (.t 19)) (tq 21 (.load 5 true (.t 20)) (tm 22 (.t 1) (tq 23 (.call 4 [(.t 21),(.t 22)]) (tm 1 (.t 23) .done))))))))
 (.seq (.reg (tm 24 (.t 1) (tq 25 (.bin .lss (.t 24) (.c (.int .i64 0))) .done)))
 (.cond (.t 25) (.seq (.reg (tq 4 (.mov (.c (.int .i64 (-1)))) .done))
 .ret)
 .skip))))
 (.reg (tm 16 (.t 5) (tq 17 (.bin .add (.t 16) (.c (.int .i64 1))) (tm 5 (.t 17) .done)))))))))
 (.cut (.seq (.reg (tm 26 (.t 1) (tm 4 (.t 26) .done)))
 .ret))))))
theorem d4z:a1f Try.prog Try.f14 = some (c14.erase,[.mov (.t 4)],27):=by kernel_rfl
def a2c (rec:(o8 → Int → Option Int)):List o8 → Int → Option (Fl Int Int)
  | [],left_21 =>
    some (.go left_21)
  | x_39 :: xs,left_21 =>
    (rec x_39 left_21).bind fun r_42 =>
    if (decide (r_42 < 0)) then
    some (.ret (-1))
    else
    a2c rec xs r_42 

def a7v (rec:(o8 → Int → Option Int)) (a_1:(List o8)) (left_2:Int):Option Int :=
    if (decide (w64 (left_2 - (a_1.length:Int)) < 0)) then
    some (-1)
    else
    (a2c rec a_1 (w64 (left_2 - (a_1.length:Int)))).bind fun q => (match q with
    | .ret r => some r
    | .go left_31 =>
    some left_31)
theorem b8p (rec:(o8 → Int → Option Int)) (hrec:∀ a0 a1 r,rec a0 a1 = some r → a0d Try.prog 4 .flat [(l9 a0),(.int .i64 a1)] (.int .i64 r)) (a_1:(List o8)) (left_2:Int) (r:Int) (hf:a7v rec a_1 left_2 = some r):a0d Try.prog 14 .flat [(.lst 5 (a_1.map l9)),(.int .i64 left_2)] (.int .i64 r):=by
 refine a0d.of_awp mixed Try.func14 d4z nle ?_;rw [a0q];unfold a7v at hf;unfold c14;refine (show awp Try.prog false 0 _ (ofL [(0,(.lst 5 (a_1.map l9))),(1,(.int .i64 left_2))]) [] _ from ?_);refine sr<|l7 (.int .i64 0) rfl<|dk<|sr<|l7 (.int .i64 left_2) rfl<|l7 (.lst 5 (a_1.map l9)) rfl<|a1d (a2q (enc:=l9) rfl) fun hl3 => x9 (.int .i64 (w64 (left_2 - (a_1.length:Int)))) rfl rfl rfl<|l7 (.int .i64 (w64 (left_2 - (a_1.length:Int)))) rfl<|dk<|o6<|sr<|l7 (.int .i64 (w64 (left_2 - (a_1.length:Int)))) rfl<|x9 (.bool (decide (w64 (left_2 - (a_1.length:Int)) < 0))) rfl rfl rfl<|?_
 refine dk<|?_
 rcases oi hf with ⟨c4,hf⟩ | ⟨c4,hf⟩
 ·refine y7 rfl c4<|sr<|l7 (.int .i64 (-1)) rfl<|dk<|a0c<|?_;obtain rfl:=os hf;exact a0h ⟨trivial,trivial⟩ rfl (.refl _)
 ·refine y8 rfl (bf c4)<|a0k<|a0m<|o6<|sr<|l7 (.int .i64 0) rfl<|dk<|?_
  obtain ⟨p32,hb1,hf⟩:=ob hf
  refine a3f (X:={q:Int // p32 = .go q}) (fun q => ([(1,(.int .i64 q.1))],[])) ?_ ?_
  ·refine a1o (X:={q:(Int × Nat) // a2c rec (a_1.drop q.2) q.1 = some p32}) (fun q => ([(0,(.lst 5 (a_1.map l9))),(1,(.int .i64 q.1.1)),(5,(.int .i64 (q.1.2:Int)))],[])) (fun q => a_1.length - q.1.2) ⟨(w64 (left_2 - (a_1.length:Int)),0),hb1⟩ ⟨[],[],_,_,rfl,rfl,⟨.refl _,⟨.refl _,⟨.refl _,trivial⟩⟩⟩,(.refl _)⟩ ?_
   rintro ⟨⟨left_21,i_22⟩,hc1⟩
   have hc1:a2c rec (a_1.drop i_22) left_21 = some p32:=hc1
   refine (show awp Try.prog false 0 _ (ofL [(0,(.lst 5 (a_1.map l9))),(1,(.int .i64 left_21)),(5,(.int .i64 (i_22:Int)))]) [] _ from ?_)
   rcases a7n a_1 i_22 with ⟨hie35,hd38⟩ | ⟨hlt33,x_39,hx34,hd38⟩
   ·rw [hd38,a2c.eq_1] at hc1
    have hq37:=dlf hie35
    refine o6<|sr<|l7 (.int .i64 (i_22:Int)) rfl<|l7 (.lst 5 (a_1.map l9)) rfl<|a1d (a2q (enc:=l9) rfl) fun hl40 => x9 (.bool (decide ((i_22:Int) < (a_1.length:Int)))) rfl rfl rfl<|dk<|y8 rfl hq37<|a3x<|a3w<|a2o<|a3v<|?_;obtain rfl:=os hc1;exact a3u ⟨_,rfl⟩ ⟨[],[],_,_,rfl,rfl,⟨.refl _,trivial⟩,(.refl _)⟩
   ·rw [hd38,a2c.eq_2] at hc1
    have hq37:=dlt hlt33
    refine o6<|sr<|l7 (.int .i64 (i_22:Int)) rfl<|l7 (.lst 5 (a_1.map l9)) rfl<|a1d (a2q (enc:=l9) rfl) fun hl41 => x9 (.bool (decide ((i_22:Int) < (a_1.length:Int)))) rfl rfl rfl<|dk<|y7 rfl hq37<|a0k<|a0m<|o6<|a4a<|sr<|?_
    obtain ⟨r_42,er43,hc1⟩:=ob hc1
    refine l7 (.lst 5 (a_1.map l9)) rfl<|l7 (.int .i64 (i_22:Int)) rfl<|a0b (a3a (enc:=l9) rfl rfl hx34)<|a0b (a4w (v:=(.agg [(.int .i64 x_39.Kind),(.int .i64 x_39.N),(.str x_39.T),(.lst 1 (x_39.Keys.map AV.str)),(.lst 5 (x_39.Items.map l9))])) rfl (o9 _) nle rfl)<|l7 (.int .i64 left_21) rfl<|a0b (a0s (hrec _ _ _ er43) rfl (.cons (.of_eq (o9 x_39).symm) (.cons (.refl _) .nil)) rfl)<|l7 (.int .i64 r_42) rfl<|dk<|sr<|l7 (.int .i64 r_42) rfl<|x9 (.bool (decide (r_42 < 0))) rfl rfl rfl<|dk<|?_
    rcases oi hc1 with ⟨c44,hc1⟩ | ⟨c44,hc1⟩
    ·refine y7 rfl c44<|sr<|l7 (.int .i64 (-1)) rfl<|dk<|a0c<|?_;obtain rfl:=os hc1;obtain rfl:=os hf;exact a0h ⟨trivial,trivial⟩ rfl (.refl _)
    ·refine y8 rfl (bf c44)<|a0k<|a2y<|a0m<|a0x<|l7 (.int .i64 (i_22:Int)) rfl<|x9 (.int .i64 (w64 ((i_22:Int) + 1))) rfl rfl rfl<|l7 (.int .i64 (w64 ((i_22:Int) + 1))) rfl<|a0l<|?_;exact a2g ⟨(r_42,(i_22 + 1)),hc1⟩ (mul hlt33) ⟨[],[],_,_,rfl,rfl,⟨.refl _,⟨.refl _,⟨.of_eq (congrArg (AV.int _) (a2z hlt33 hl41)),trivial⟩⟩⟩,(.refl _)⟩
  ·rintro ⟨left_31,rfl⟩
   refine sr<|l7 (.int .i64 left_31) rfl<|l7 (.int .i64 left_31) rfl<|dk<|a0c<|?_;obtain rfl:=os hf;exact a0h ⟨trivial,trivial⟩ rfl (.refl _)

/- laws.szJson -/
def c4:a0p :=
 (.seq (.reg (tq 2 (.box 5 (.t 0)) (tm 4 (.c (.int .i64 0)) .done)))
 (.seq (.reg (tm 5 (.t 1) (tq 6 (.faddr 2 (.t 2)) (tq 7 (.load 1 false (.t 6)) (tq 8 (.lenS (.t 7)) (tq 9 (.bin .sub (.t 5) (.t 8)) (tm 1 (.t 9) .done)))))))
 (.seq (.seq (.reg (tm 10 (.t 1) (tq 11 (.bin .lss (.t 10) (.c (.int .i64 0))) .done)))
 (.cond (.t 11) (.seq (.reg (tq 4 (.mov (.c (.int .i64 (-1)))) .done))
 .ret)
 .skip))
 (.seq (.reg (tq 12 (.faddr 3 (.t 2)) (tq 13 (.load 1 false (.t 12)) (tm 14 (.t 1) (tq 15 (.call 13 [(.t 13),(.t 14)]) (tm 1 (.t 15) .done))))))
 (.seq (.seq (.reg (tm 16 (.t 1) (tq 17 (.bin .lss (.t 16) (.c (.int .i64 0))) .done)))
 (.cond (.t 17) (.seq (.reg (tq 4 (.mov (.c (.int .i64 (-1)))) .done))
 .ret)
 .skip))
 (.seq (.reg (tq 18 (.faddr 4 (.t 2)) (tq 19 (.load 1 false (.t 18)) (tm 20 (.t 1) (tq 21 (.call 14 [(.t 19),(.t 20)]) (tm 1 (.t 21) .done))))))
 (.seq (.seq (.reg (tm 22 (.t 1) (tq 23 (.bin .lss (.t 22) (.c (.int .i64 0))) .done)))
 (.cond (.t 23) (.seq (.reg (tq 4 (.mov (.c (.int .i64 (-1)))) .done))
 .ret)
 .skip))
 (.seq (.reg (tm 24 (.t 1) (tm 4 (.t 24) .done)))
 .ret))))))))
theorem fc4:a1f Try.prog Try.f4 = some (c4.erase,[.mov (.t 4)],25):=by kernel_rfl
def a8g (rec:(o8 → Int → Option Int)) (a_1:o8) (left_2:Int):Option Int :=
    if (decide (w64 (left_2 - (a_1.T.length:Int)) < 0)) then
    some (-1)
    else
    (a6e a_1.Keys (w64 (left_2 - (a_1.T.length:Int)))).bind fun r_5 =>
    if (decide (r_5 < 0)) then
    some (-1)
    else
    (a7v rec a_1.Items r_5).bind fun r_8 =>
    if (decide (r_8 < 0)) then
    some (-1)
    else
    some r_8
theorem b6z (rec:(o8 → Int → Option Int)) (hrec:∀ a0 a1 r,rec a0 a1 = some r → a0d Try.prog 4 .flat [(l9 a0),(.int .i64 a1)] (.int .i64 r)) (a_1:o8) (left_2:Int) (r:Int) (hf:a8g rec a_1 left_2 = some r):a0d Try.prog 4 .flat [(l9 a_1),(.int .i64 left_2)] (.int .i64 r):=by
 refine a0d.of_awp mixed Try.func4 fc4 nle ?_;rw [a0q];rw [o9 a_1];unfold a8g at hf;unfold c4;refine (show awp Try.prog false 0 _ (ofL [(0,(.agg [(.int .i64 a_1.Kind),(.int .i64 a_1.N),(.str a_1.T),(.lst 1 (a_1.Keys.map AV.str)),(.lst 5 (a_1.Items.map l9))])),(1,(.int .i64 left_2))]) [] _ from ?_);refine sr<|a0b (a1p (j:=0) (c:=(.agg [(.int .i64 a_1.Kind),(.int .i64 a_1.N),(.str a_1.T),(.lst 1 (a_1.Keys.map AV.str)),(.lst 5 (a_1.Items.map l9))])) rfl trivial rfl rfl)<|l7 (.int .i64 0) rfl<|dk<|sr<|l7 (.int .i64 left_2) rfl<|x9 (.ptr 0 0 2) rfl trivial rfl<|x9 (.str a_1.T) rfl nle rfl<|a1d (b4d rfl) fun hl3 => ?_
 refine x9 (.int .i64 (w64 (left_2 - (a_1.T.length:Int)))) rfl rfl rfl<|l7 (.int .i64 (w64 (left_2 - (a_1.T.length:Int)))) rfl<|dk<|o6<|sr<|l7 (.int .i64 (w64 (left_2 - (a_1.T.length:Int)))) rfl<|x9 (.bool (decide (w64 (left_2 - (a_1.T.length:Int)) < 0))) rfl rfl rfl<|dk<|?_
 rcases oi hf with ⟨c4,hf⟩ | ⟨c4,hf⟩
 ·refine y7 rfl c4<|sr<|l7 (.int .i64 (-1)) rfl<|dk<|a0c<|?_;obtain rfl:=os hf;exact a0h ⟨trivial,trivial⟩ rfl (.refl _)
 ·refine y8 rfl (bf c4)<|a0k<|a0m<|sr<|?_
  obtain ⟨r_5,er6,hf⟩:=ob hf
  refine x9 (.ptr 0 0 3) rfl trivial rfl<|x9 (.lst 1 (a_1.Keys.map AV.str)) rfl nle rfl<|l7 (.int .i64 (w64 (left_2 - (a_1.T.length:Int)))) rfl<|a0b (a0s (b6b _ _ _ er6) rfl (.refl _) rfl)<|l7 (.int .i64 r_5) rfl<|dk<|o6<|sr<|l7 (.int .i64 r_5) rfl<|x9 (.bool (decide (r_5 < 0))) rfl rfl rfl<|dk<|?_
  rcases oi hf with ⟨c7,hf⟩ | ⟨c7,hf⟩
  ·refine y7 rfl c7<|sr<|l7 (.int .i64 (-1)) rfl<|dk<|a0c<|?_;obtain rfl:=os hf;exact a0h ⟨trivial,trivial⟩ rfl (.refl _)
  ·refine y8 rfl (bf c7)<|a0k<|a0m<|sr<|?_
   obtain ⟨r_8,er9,hf⟩:=ob hf
   refine x9 (.ptr 0 0 4) rfl trivial rfl<|x9 (.lst 5 (a_1.Items.map l9)) rfl nle rfl<|l7 (.int .i64 r_5) rfl<|a0b (a0s (b8p rec hrec _ _ _ er9) rfl (.refl _) rfl)<|l7 (.int .i64 r_8) rfl<|dk<|o6<|sr<|l7 (.int .i64 r_8) rfl<|x9 (.bool (decide (r_8 < 0))) rfl rfl rfl<|dk<|?_
   rcases oi hf with ⟨c10,hf⟩ | ⟨c10,hf⟩
   ·refine y7 rfl c10<|sr<|l7 (.int .i64 (-1)) rfl<|dk<|a0c<|?_;obtain rfl:=os hf;exact a0h ⟨trivial,trivial⟩ rfl (.refl _)
   ·refine y8 rfl (bf c10)<|a0k<|a0m<|sr<|l7 (.int .i64 r_8) rfl<|l7 (.int .i64 r_8) rfl<|dk<|a0c<|?_;obtain rfl:=os hf;exact a0h ⟨trivial,trivial⟩ rfl (.refl _)
def a4h:Nat → o8 → Int → Option Int
 | 0,_,_ => none
 | k + 1,a_1,left_2 => a8g (a4h k) a_1 left_2
theorem b3g:∀ (k:Nat) (a_1:o8) (left_2:Int) (r:Int),a4h k a_1 left_2 = some r → a0d Try.prog 4 .flat [(l9 a_1),(.int .i64 left_2)] (.int .i64 r)
 | 0,a_1,left_2,r,h => by rw [a4h.eq_1] at h;cases h
 | k + 1,a_1,left_2,r,h => by
  rw [a4h.eq_2] at h;exact b6z _ (b3g k) a_1 left_2 r h

/- laws.toStringS -/
def c17:a0p :=
 (.seq (.reg (tm 2 (.c .nil) .done))
 (.seq (.reg (tm 5 (.t 0) (tq 6 (.len (.t 5)) (tq 7 (.mkslice 1 16 (.str []) (.t 6) (.t 6)) (tm 3 (.t 7) .done)))))
 (.seq (.seq (.reg (tm 4 (.c (.int .i64 0)) .done))
 (.block 0 (.loop (.seq (.seq (.reg (tm 8 (.t 4) (tm 9 (.t 0) (tq 10 (.len (.t 9)) (tq 11 (.bin .lss (.t 8) (.t 10)) .done)))))
 (.cond (.t 11) .skip
 (.exit 0)))
 (.seq (.block 1 (.reg (tm 14 (.t 3) (tm 15 (.t 4) (tm 16 (.t 0) (tm 17 (.t 4) (tq 18 (.iaddr 1 (.t 16) (.t 17)) (tq 19 (.load 1 false (.t 18)) (tq 20 (.iaddr 1 (.t 14) (.t 15)) (.q ⟨none,none,.store 1 (.t 20) (.t 19)⟩
 .done))))))))))
 (.reg (tm 12 (.t 4) (tq 13 (.bin .add (.t 12) (.c (.int .i64 1))) (tm 4 (.t 13) .done)))))))))
 (.cut (.seq (.reg (tm 21 (.t 3) (tm 2 (.t 21) .done)))
 .ret)))))
theorem d5a:a1f Try.prog Try.f17 = some (c17.erase,[.mov (.t 2)],22):=by kernel_rfl
def a1r :List Str → Nat → (List Str) → Option (List Str)
  | [],i_20,out_21 =>
    some out_21
  | x_38 :: xs,i_20,out_21 =>
    if i_20 < out_21.length then
    (out_21[i_20]?).bind fun x_42 =>
    a1r xs (i_20 + 1) (out_21.set i_20 x_38)
    else none

def a6f (a_1:(List Str)):Option (List Str) :=
    if (a_1.length:Int) ≤ 2 ^ 30 then
    (a1r a_1 0 (List.replicate a_1.length [])).bind fun out_30 =>
    some out_30
    else none
theorem b6c (a_1:(List Str)) (r:(List Str)) (hf:a6f a_1 = some r):a0d Try.prog 17 .fresh [(.lst 1 (a_1.map AV.str))] (.lst 1 (r.map AV.str)):=by
 refine a0d.of_awp mixed Try.func17 d5a nle ?_;rw [a0q];unfold a6f at hf;unfold c17;refine (show awp Try.prog true 0 _ (ofL [(0,(.lst 1 (a_1.map AV.str)))]) [] _ from ?_);refine sr<|l7 .nil rfl<|dk<|sr<|?_
 obtain ⟨g3,hf⟩:=og hf
 refine l7 (.lst 1 (a_1.map AV.str)) rfl<|a1d (a2q (enc:=AV.str) rfl) fun hl2 => a0b (c1h (j:=0) (enc:=AV.str) (m:=a_1.length) [] (.refl _) rfl rfl (Int.le_refl _) g3 rfl)<|l7 (.own 0 0 a_1.length) rfl<|dk<|o6<|sr<|l7 (.int .i64 0) rfl<|dk<|?_
 obtain ⟨out_30,hb1,hf⟩:=ob hf
 refine a2n ([(3,(.own 0 0 out_30.length))],[.row 1 (out_30.map AV.str)]) ?_ ?_
 ·refine a1o (X:={q:(Nat × (List Str)) // a1r (a_1.drop q.1) q.1 q.2 = some out_30}) (fun q => ([(0,(.lst 1 (a_1.map AV.str))),(3,(.own 0 0 q.1.2.length)),(4,(.int .i64 (q.1.1:Int)))],[.row 1 (q.1.2.map AV.str)])) (fun q => a_1.length - q.1.1) ⟨(0,List.replicate a_1.length []),hb1⟩ ⟨[],[0],_,_,rfl,rfl,⟨.refl _,⟨.of_eq (congrArg (AV.own _ 0) (by simp)),⟨.refl _,trivial⟩⟩⟩,(.refl _)⟩ ?_
  rintro ⟨⟨i_20,out_21⟩,hc1⟩
  have hc1:a1r (a_1.drop i_20) i_20 out_21 = some out_30:=hc1
  refine (show awp Try.prog true 0 _ (ofL [(0,(.lst 1 (a_1.map AV.str))),(3,(.own 0 0 out_21.length)),(4,(.int .i64 (i_20:Int)))]) [.row 1 (out_21.map AV.str)] _ from ?_)
  rcases a7n a_1 i_20 with ⟨hie34,hd37⟩ | ⟨hlt32,x_38,hx33,hd37⟩
  ·rw [hd37,a1r.eq_1] at hc1
   have hq36:=dlf hie34
   refine o6<|sr<|l7 (.int .i64 (i_20:Int)) rfl<|l7 (.lst 1 (a_1.map AV.str)) rfl<|a1d (a2q (enc:=AV.str) rfl) fun hl39 => x9 (.bool (decide ((i_20:Int) < (a_1.length:Int)))) rfl rfl rfl<|dk<|y8 rfl hq36<|a3x<|a3w<|a2o<|a3v<|?_;obtain rfl:=os hc1;exact ⟨[],[0],_,_,rfl,rfl,⟨.refl _,trivial⟩,(.refl _)⟩
  ·rw [hd37,a1r.eq_2] at hc1
   have hq36:=dlt hlt32
   refine o6<|sr<|l7 (.int .i64 (i_20:Int)) rfl<|l7 (.lst 1 (a_1.map AV.str)) rfl<|a1d (a2q (enc:=AV.str) rfl) fun hl40 => x9 (.bool (decide ((i_20:Int) < (a_1.length:Int)))) rfl rfl rfl<|dk<|y7 rfl hq36<|a0k<|a0m<|o6<|a4a<|a0x<|?_
   obtain ⟨g41,hc1⟩:=og hc1
   obtain ⟨x_42,ex43,hc1⟩:=ob hc1
   refine l7 (.own 0 0 out_21.length) rfl<|l7 (.int .i64 (i_20:Int)) rfl<|l7 (.lst 1 (a_1.map AV.str)) rfl<|l7 (.int .i64 (i_20:Int)) rfl<|a0b (a3a (enc:=AV.str) rfl rfl hx33)<|x9 (.str x_38) rfl ⟨rfl,rfl⟩ rfl<|a0b (b1r rfl rfl g41 rfl rfl)<|?_;refine a2a (a7h (v':=(.str x_38)) (e':=x_38) rfl rfl ex43 rfl rfl rfl (by decide) (fun _ => by decide) ⟨rfl,rfl,rfl⟩ (.refl _) rfl) ?_;refine a0l<|a2y<|a0m<|a0x<|l7 (.int .i64 (i_20:Int)) rfl<|x9 (.int .i64 (w64 ((i_20:Int) + 1))) rfl rfl rfl<|l7 (.int .i64 (w64 ((i_20:Int) + 1))) rfl<|a0l<|?_;exact a2g ⟨((i_20 + 1),out_21.set i_20 x_38),hc1⟩ (mul hlt32) ⟨[],[0],_,_,rfl,rfl,⟨.refl _,⟨.of_eq (congrArg (AV.own _ 0) (by simp)),⟨.of_eq (congrArg (AV.int _) (a2z hlt32 hl40)),trivial⟩⟩⟩,(.refl _)⟩
 ·refine sr<|l7 (.own 0 0 out_30.length) rfl<|l7 (.own 0 0 out_30.length) rfl<|dk<|a0c<|?_;obtain rfl:=os hf;exact a2p ⟨trivial,trivial⟩ rfl (by decide) (.of_eq (congrArg (AV.lst _) (tk (enc:=AV.str) out_30)))

/- laws.toJsonS -/
def c18:a0p :=
 (.seq (.reg (tm 2 (.c .nil) .done))
 (.seq (.reg (tm 5 (.t 0) (tq 6 (.len (.t 5)) (tq 7 (.mkslice 5 80 (.agg [(.int .i64 0),(.int .i64 0),(.str []),.nil,.nil]) (.t 6) (.t 6)) (tm 3 (.t 7) .done)))))
 (.seq (.seq (.reg (tm 4 (.c (.int .i64 0)) .done))
 (.block 0 (.loop (.seq (.seq (.reg (tm 8 (.t 4) (tm 9 (.t 0) (tq 10 (.len (.t 9)) (tq 11 (.bin .lss (.t 8) (.t 10)) .done)))))
 (.cond (.t 11) .skip
 (.exit 0)))
 (.seq (.block 1 (.reg (tm 14 (.t 3) (tm 15 (.t 4) (tm 16 (.t 0) (tm 17 (.t 4) (tq 18 (.iaddr 5 (.t 16) (.t 17)) (tq 19 (.load 5 true (.t 18)) (tq 20 (.call 6 [(.t 19)]) (tq 21 (.iaddr 5 (.t 14) (.t 15)) (.q ⟨none,none,.store 5 (.t 21) (.t 20)⟩
 .done)))))))))))
 (.reg (tm 12 (.t 4) (tq 13 (.bin .add (.t 12) (.c (.int .i64 1))) (tm 4 (.t 13) .done)))))))))
 (.cut (.seq (.reg (tm 22 (.t 3) (tm 2 (.t 22) .done)))
 .ret)))))
theorem d5b:a1f Try.prog Try.f18 = some (c18.erase,[.mov (.t 2)],23):=by kernel_rfl
def a2s (rec:(o8 → Option o8)):List o8 → Nat → (List o8) → Option (List o8)
  | [],i_24,out_25 =>
    some out_25
  | x_44 :: xs,i_24,out_25 =>
    (rec x_44).bind fun r_47 =>
    if i_24 < out_25.length then
    (out_25[i_24]?).bind fun x_50 =>
    a2s rec xs (i_24 + 1) (out_25.set i_24 r_47)
    else none

def a9d (rec:(o8 → Option o8)) (a_1:(List o8)):Option (List o8) :=
    if (a_1.length:Int) ≤ 2 ^ 30 then
    (a2s rec a_1 0 (List.replicate a_1.length (⟨0,0,[],[],[]⟩:o8))).bind fun out_36 =>
    some out_36
    else none
theorem b8q (rec:(o8 → Option o8)) (hrec:∀ a0 r,rec a0 = some r → a0d Try.prog 6 .fresh [(l9 a0)] (l9 r)) (a_1:(List o8)) (r:(List o8)) (hf:a9d rec a_1 = some r):a0d Try.prog 18 .fresh [(.lst 5 (a_1.map l9))] (.lst 5 (r.map l9)):=by
 refine a0d.of_awp mixed Try.func18 d5b nle ?_;rw [a0q];unfold a9d at hf;unfold c18;refine (show awp Try.prog true 0 _ (ofL [(0,(.lst 5 (a_1.map l9)))]) [] _ from ?_);refine sr<|l7 .nil rfl<|dk<|sr<|?_
 obtain ⟨g3,hf⟩:=og hf
 refine l7 (.lst 5 (a_1.map l9)) rfl<|a1d (a2q (enc:=l9) rfl) fun hl2 => a0b (c1h (j:=0) (enc:=l9) (m:=a_1.length) (⟨0,0,[],[],[]⟩:o8) (leJ (x:=(⟨0,0,[],[],[]⟩:o8)) (.agg (.cons (.refl _) (.cons (.refl _) (.cons (.refl _) (.cons (.nil _) (.cons (.nil _) .nil))))))) rfl rfl (Int.le_refl _) g3 rfl)<|l7 (.own 0 0 a_1.length) rfl<|dk<|o6<|sr<|l7 (.int .i64 0) rfl<|dk<|?_
 obtain ⟨out_36,hb1,hf⟩:=ob hf
 refine a2n ([(3,(.own 0 0 out_36.length))],[.row 5 (out_36.map l9)]) ?_ ?_
 ·refine a1o (X:={q:(Nat × (List o8)) // a2s rec (a_1.drop q.1) q.1 q.2 = some out_36}) (fun q => ([(0,(.lst 5 (a_1.map l9))),(3,(.own 0 0 q.1.2.length)),(4,(.int .i64 (q.1.1:Int)))],[.row 5 (q.1.2.map l9)])) (fun q => a_1.length - q.1.1) ⟨(0,List.replicate a_1.length (⟨0,0,[],[],[]⟩:o8)),hb1⟩ ⟨[],[0],_,_,rfl,rfl,⟨.refl _,⟨.of_eq (congrArg (AV.own _ 0) (by simp)),⟨.refl _,trivial⟩⟩⟩,(.refl _)⟩ ?_
  rintro ⟨⟨i_24,out_25⟩,hc1⟩
  have hc1:a2s rec (a_1.drop i_24) i_24 out_25 = some out_36:=hc1
  refine (show awp Try.prog true 0 _ (ofL [(0,(.lst 5 (a_1.map l9))),(3,(.own 0 0 out_25.length)),(4,(.int .i64 (i_24:Int)))]) [.row 5 (out_25.map l9)] _ from ?_)
  rcases a7n a_1 i_24 with ⟨hie40,hd43⟩ | ⟨hlt38,x_44,hx39,hd43⟩
  ·rw [hd43,a2s.eq_1] at hc1
   have hq42:=dlf hie40
   refine o6<|sr<|l7 (.int .i64 (i_24:Int)) rfl<|l7 (.lst 5 (a_1.map l9)) rfl<|a1d (a2q (enc:=l9) rfl) fun hl45 => x9 (.bool (decide ((i_24:Int) < (a_1.length:Int)))) rfl rfl rfl<|dk<|y8 rfl hq42<|a3x<|a3w<|a2o<|a3v<|?_;obtain rfl:=os hc1;exact ⟨[],[0],_,_,rfl,rfl,⟨.refl _,trivial⟩,(.refl _)⟩
  ·rw [hd43,a2s.eq_2] at hc1
   have hq42:=dlt hlt38
   refine o6<|sr<|l7 (.int .i64 (i_24:Int)) rfl<|l7 (.lst 5 (a_1.map l9)) rfl<|a1d (a2q (enc:=l9) rfl) fun hl46 => x9 (.bool (decide ((i_24:Int) < (a_1.length:Int)))) rfl rfl rfl<|dk<|y7 rfl hq42<|a0k<|a0m<|o6<|a4a<|a0x<|?_
   obtain ⟨r_47,er48,hc1⟩:=ob hc1
   obtain ⟨g49,hc1⟩:=og hc1
   obtain ⟨x_50,ex51,hc1⟩:=ob hc1
   refine l7 (.own 0 0 out_25.length) rfl<|l7 (.int .i64 (i_24:Int)) rfl<|l7 (.lst 5 (a_1.map l9)) rfl<|l7 (.int .i64 (i_24:Int)) rfl<|a0b (a3a (enc:=l9) rfl rfl hx39)<|a0b (a4w (v:=(.agg [(.int .i64 x_44.Kind),(.int .i64 x_44.N),(.str x_44.T),(.lst 1 (x_44.Keys.map AV.str)),(.lst 5 (x_44.Items.map l9))])) rfl (o9 _) nle rfl)<|a0b (a4x (v:=(.agg [(.int .i64 r_47.Kind),(.int .i64 r_47.N),(.str r_47.T),(.own 1 0 r_47.Keys.length),(.own 2 0 r_47.Items.length)])) (h':=[.row 1 (r_47.Keys.map AV.str),.row 5 (r_47.Items.map l9)]) (hrec _ _ er48) rfl (.cons (.of_eq (o9 x_44).symm) .nil) (by simp only [a1n,a1y,List.length_map,o9,List.nil_append,List.append_nil,List.cons_append];rfl))<|?_
   refine a0b (b1r rfl rfl g49 rfl rfl) ?_
   refine a2a (a9c (v':=(.agg [(.int .i64 r_47.Kind),(.int .i64 r_47.N),(.str r_47.T),(.lst 1 (r_47.Keys.map AV.str)),(.lst 5 (r_47.Items.map l9))])) (e':=r_47) rfl rfl ex51 (o9 _) rfl rfl (by first | (simp only [tk,tko,List.take_length];done) | rfl | simp) (by decide) (fun _ => by decide) ⟨rfl,nle⟩ (.of_eq (o9 r_47).symm) rfl) ?_
   refine a0l<|a2y<|a0m<|a0x<|l7 (.int .i64 (i_24:Int)) rfl<|x9 (.int .i64 (w64 ((i_24:Int) + 1))) rfl rfl rfl<|l7 (.int .i64 (w64 ((i_24:Int) + 1))) rfl<|a0l<|?_;exact a2g ⟨((i_24 + 1),out_25.set i_24 r_47),hc1⟩ (mul hlt38) ⟨[],[0],_,_,rfl,rfl,⟨.refl _,⟨.of_eq (congrArg (AV.own _ 0) (by simp)),⟨.of_eq (congrArg (AV.int _) (a2z hlt38 hl46)),trivial⟩⟩⟩,(.refl _)⟩
 ·refine sr<|l7 (.own 0 0 out_36.length) rfl<|l7 (.own 0 0 out_36.length) rfl<|dk<|a0c<|?_;obtain rfl:=os hf;exact a2p ⟨trivial,trivial⟩ rfl (by decide) (.of_eq (congrArg (AV.lst _) (tk (enc:=l9) out_36)))

/- laws.toJson -/
def c6:a0p :=
 (.seq (.reg (tq 1 (.box 5 (.t 0)) (tq 2 (.box 5 (.c (.agg [(.int .i64 0),(.int .i64 0),(.str []),.nil,.nil]))) .done)))
 (.seq (.reg (tq 3 (.box 5 (.c (.agg [(.int .i64 0),(.int .i64 0),(.str []),.nil,.nil]))) .done))
 (.seq (.reg (tq 4 (.faddr 0 (.t 1)) (tq 5 (.load 1 false (.t 4)) (tq 6 (.faddr 0 (.t 3)) (.q ⟨none,none,.store 1 (.t 6) (.t 5)⟩
 .done)))))
 (.seq (.reg (tq 7 (.faddr 1 (.t 1)) (tq 8 (.load 1 false (.t 7)) (tq 9 (.faddr 1 (.t 3)) (.q ⟨none,none,.store 1 (.t 9) (.t 8)⟩
 .done)))))
 (.seq (.reg (tq 10 (.faddr 2 (.t 1)) (tq 11 (.load 1 false (.t 10)) (tq 12 (.faddr 2 (.t 3)) (.q ⟨none,none,.store 1 (.t 12) (.t 11)⟩
 .done)))))
 (.seq (.reg (tq 13 (.faddr 3 (.t 1)) (tq 14 (.load 1 false (.t 13)) (tq 15 (.call 17 [(.t 14)]) (tq 16 (.faddr 3 (.t 3)) (.q ⟨none,none,.store 1 (.t 16) (.t 15)⟩
 .done))))))
 (.seq (.reg (tq 17 (.faddr 4 (.t 1)) (tq 18 (.load 1 false (.t 17)) (tq 19 (.call 18 [(.t 18)]) (tq 20 (.faddr 4 (.t 3)) (.q ⟨none,none,.store 1 (.t 20) (.t 19)⟩
 .done))))))
 (.seq (.reg (tq 21 (.load 5 true (.t 3)) (.q ⟨none,none,.store 5 (.t 2) (.t 21)⟩
 .done)))
 .ret))))))))
theorem fc6:a1f Try.prog Try.f6 = some (c6.erase,[.load 5 true (.t 2)],22):=by kernel_rfl
def a8h (rec:(o8 → Option o8)) (a_1:o8):Option o8 :=
    (a6f a_1.Keys).bind fun r_2 =>
    (a9d rec a_1.Items).bind fun r_4 =>
    some (⟨a_1.Kind,a_1.N,a_1.T,r_2,r_4⟩:o8)
theorem b7a (rec:(o8 → Option o8)) (hrec:∀ a0 r,rec a0 = some r → a0d Try.prog 6 .fresh [(l9 a0)] (l9 r)) (a_1:o8) (r:o8) (hf:a8h rec a_1 = some r):a0d Try.prog 6 .fresh [(l9 a_1)] (l9 r):=by
 refine a0d.of_awp mixed Try.func6 fc6 nle ?_;rw [a0q];rw [o9 a_1];unfold a8h at hf;unfold c6;refine (show awp Try.prog true 0 _ (ofL [(0,(.agg [(.int .i64 a_1.Kind),(.int .i64 a_1.N),(.str a_1.T),(.lst 1 (a_1.Keys.map AV.str)),(.lst 5 (a_1.Items.map l9))]))]) [] _ from ?_);refine sr<|a0b (a1p (j:=0) (c:=(.agg [(.int .i64 a_1.Kind),(.int .i64 a_1.N),(.str a_1.T),(.lst 1 (a_1.Keys.map AV.str)),(.lst 5 (a_1.Items.map l9))])) rfl trivial rfl rfl)<|a0b (a1p (j:=1) (c:=(.agg [(.int .i64 0),(.int .i64 0),(.str []),.nil,.nil])) rfl trivial rfl rfl)<|dk<|sr<|a0b (a1p (j:=2) (c:=(.agg [(.int .i64 0),(.int .i64 0),(.str []),.nil,.nil])) rfl trivial rfl rfl)<|?_
 refine dk<|sr<|x9 (.ptr 0 0 0) rfl trivial rfl<|x9 (.int .i64 a_1.Kind) rfl nle rfl<|x9 (.ptr 2 0 0) rfl trivial rfl<|a2a (a0o (v:=(.int .i64 a_1.Kind)) (y':=(.agg [(.int .i64 a_1.Kind),(.int .i64 0),(.str []),.nil,.nil])) rfl rfl rfl trivial ⟨rfl,nle⟩ ⟨⟨rfl,trivial⟩,trivial⟩ rfl)<|dk<|sr<|x9 (.ptr 0 0 1) rfl trivial rfl<|x9 (.int .i64 a_1.N) rfl nle rfl<|x9 (.ptr 2 0 1) rfl trivial rfl<|a2a (a0o (v:=(.int .i64 a_1.N)) (y':=(.agg [(.int .i64 a_1.Kind),(.int .i64 a_1.N),(.str []),.nil,.nil])) rfl rfl rfl trivial ⟨rfl,nle⟩ ⟨⟨rfl,trivial⟩,trivial⟩ rfl)<|dk<|o6<|?_
 refine a0x<|x9 (.ptr 0 0 2) rfl trivial rfl<|x9 (.str a_1.T) rfl nle rfl<|x9 (.ptr 2 0 2) rfl trivial rfl<|a2a (a0o (v:=(.str a_1.T)) (y':=(.agg [(.int .i64 a_1.Kind),(.int .i64 a_1.N),(.str a_1.T),.nil,.nil])) rfl rfl rfl trivial ⟨rfl,nle⟩ ⟨⟨rfl,trivial⟩,trivial⟩ rfl)<|dk<|sr<|?_
 obtain ⟨r_2,er3,hf⟩:=ob hf
 refine x9 (.ptr 0 0 3) rfl trivial rfl<|x9 (.lst 1 (a_1.Keys.map AV.str)) rfl nle rfl<|a0b (a4x (v:=(.own 3 0 r_2.length)) (h':=[.row 1 (r_2.map AV.str)]) (b6c _ _ er3) rfl (.refl _) (by simp only [a1n,a1y,List.length_map,List.nil_append,List.append_nil,List.cons_append];rfl))<|x9 (.ptr 2 0 3) rfl trivial rfl<|a2a (a0o (v:=(.own 3 0 r_2.length)) (y':=(.agg [(.int .i64 a_1.Kind),(.int .i64 a_1.N),(.str a_1.T),(.own 3 0 r_2.length),.nil])) rfl rfl rfl trivial ⟨rfl,nle⟩ ⟨⟨rfl,trivial⟩,trivial⟩ rfl)<|dk<|sr<|?_
 obtain ⟨r_4,er5,hf⟩:=ob hf
 refine x9 (.ptr 0 0 4) rfl trivial rfl<|x9 (.lst 5 (a_1.Items.map l9)) rfl nle rfl<|a0b (a4x (v:=(.own 4 0 r_4.length)) (h':=[.row 5 (r_4.map l9)]) (b8q rec hrec _ _ er5) rfl (.refl _) (by simp only [a1n,a1y,List.length_map,List.nil_append,List.append_nil,List.cons_append];rfl))<|x9 (.ptr 2 0 4) rfl trivial rfl<|a2a (a0o (v:=(.own 4 0 r_4.length)) (y':=(.agg [(.int .i64 a_1.Kind),(.int .i64 a_1.N),(.str a_1.T),(.own 3 0 r_2.length),(.own 4 0 r_4.length)])) rfl rfl rfl trivial ⟨rfl,nle⟩ ⟨⟨rfl,trivial⟩,trivial⟩ rfl)<|dk<|sr<|x9 (.agg [(.int .i64 a_1.Kind),(.int .i64 a_1.N),(.str a_1.T),(.own 3 0 r_2.length),(.own 4 0 r_4.length)]) rfl nle rfl<|?_
 refine a2a (a0o (v:=(.agg [(.int .i64 a_1.Kind),(.int .i64 a_1.N),(.str a_1.T),(.own 3 0 r_2.length),(.own 4 0 r_4.length)])) (y':=(.agg [(.int .i64 a_1.Kind),(.int .i64 a_1.N),(.str a_1.T),(.own 3 0 r_2.length),(.own 4 0 r_4.length)])) rfl rfl rfl trivial ⟨rfl,nle⟩ ⟨⟨rfl,trivial⟩,⟨⟨rfl,trivial⟩,⟨⟨rfl,trivial⟩,⟨⟨rfl,trivial⟩,⟨⟨rfl,trivial⟩,trivial⟩⟩⟩⟩⟩ rfl)<|dk<|a0c<|?_;obtain rfl:=os hf;exact a2p ⟨nle,trivial⟩ rfl (by decide) (leJ (x:=(⟨a_1.Kind,a_1.N,a_1.T,r_2,r_4⟩:o8)) (.agg (.cons (.refl _) (.cons (.refl _) (.cons (.refl _) (.cons (.of_eq (congrArg (AV.lst _) (tk (enc:=AV.str) r_2))) (.cons (.of_eq (congrArg (AV.lst _) (tk (enc:=l9) r_4))) .nil)))))))
def a3n:Nat → o8 → Option o8
 | 0,_ => none
 | k + 1,a_1 => a8h (a3n k) a_1
theorem a6z:∀ (k:Nat) (a_1:o8) (r:o8),a3n k a_1 = some r → a0d Try.prog 6 .fresh [(l9 a_1)] (l9 r)
 | 0,a_1,r,h => by rw [a3n.eq_1] at h;cases h
 | k + 1,a_1,r,h => by
  rw [a3n.eq_2] at h;exact b7a _ (a6z k) a_1 r h

/- spec.l01In -/
def c35:a0p :=
 (.seq (.reg (tm 6 (.c (.bool false)) .done))
 (.seq (.reg (tm 7 (.t 1) (tm 8 (.t 0) (tq 9 (.bin .leq (.t 7) (.t 8)) (tm 10 (.t 9) (tg 11 10 true (.mov (.t 0)) (tg 12 10 true (.mov (.t 2)) (tg 13 10 true (.bin .leq (.t 11) (.t 12)) (tq 14 (.pick (.t 10) (.t 13) (.c (.bool false))) (tm 6 (.t 14) .done))))))))))
 .ret))
theorem d5c:a1f Try.prog Try.f35 = some (c35.erase,[.mov (.t 6)],15):=by kernel_rfl
def a5m (n_1:Int) (low_2:Int) (high_3:Int):Option Bool :=
    if (decide (low_2 ≤ n_1)) then
    some (decide (n_1 ≤ high_3))
    else
    some false
theorem a4y (n_1:Int) (low_2:Int) (high_3:Int) (r:Bool) (hf:a5m n_1 low_2 high_3 = some r):a0d Try.prog 35 .flat [(.int .i64 n_1),(.int .i64 low_2),(.int .i64 high_3)] (.bool r):=by
 refine a0d.of_awp mixed Try.func35 d5c nle ?_;rw [a0q];unfold a5m at hf;unfold c35;refine (show awp Try.prog false 0 _ (ofL [(0,(.int .i64 n_1)),(1,(.int .i64 low_2)),(2,(.int .i64 high_3))]) [] _ from ?_);refine sr<|l7 (.bool false) rfl<|dk<|sr<|?_
 rcases oi hf with ⟨c4,hf⟩ | ⟨c4,hf⟩
 ·refine l7 (.int .i64 low_2) rfl<|l7 (.int .i64 n_1) rfl<|x9 (.bool (decide (low_2 ≤ n_1))) rfl rfl rfl<|l7 (.bool (decide (low_2 ≤ n_1))) rfl<|a0v (s:=10) (b:=true) rfl c4<|s_on rfl<|l7 (.int .i64 n_1) rfl<|s_on rfl<|l7 (.int .i64 high_3) rfl<|s_on rfl<|x9 (.bool (decide (n_1 ≤ high_3))) rfl rfl rfl<|x9 (.bool (decide (n_1 ≤ high_3))) rfl trivial rfl<|l7 (.bool (decide (n_1 ≤ high_3))) rfl<|dk<|a0c<|?_;obtain rfl:=os hf;exact a0h ⟨trivial,trivial⟩ rfl (.refl _)
 ·refine l7 (.int .i64 low_2) rfl<|l7 (.int .i64 n_1) rfl<|x9 (.bool (decide (low_2 ≤ n_1))) rfl rfl rfl<|l7 (.bool (decide (low_2 ≤ n_1))) rfl<|a0v (s:=10) (b:=false) rfl (bf c4)<|a0a rfl rfl<|a0a rfl rfl<|a0a rfl rfl<|x9 (.bool false) rfl trivial rfl<|l7 (.bool false) rfl<|dk<|a0c<|?_;obtain rfl:=os hf;exact a0h ⟨trivial,trivial⟩ rfl (.refl _)

/- spec.l01Text -/
def c36:a0p :=
 (.seq (.reg (tm 2 (.c (.bool false)) .done))
 (.seq (.seq (.reg (tm 3 (.c (.int .i64 0)) .done))
 (.block 0 (.loop (.seq (.seq (.reg (tm 4 (.t 3) (tm 5 (.t 0) (tq 6 (.lenS (.t 5)) (tq 7 (.bin .lss (.t 4) (.t 6)) .done)))))
 (.cond (.t 7) .skip
 (.exit 0)))
 (.seq (.block 1 (.seq (.reg (tm 10 (.t 0) (tm 11 (.t 3) (tq 12 (.idxs (.t 10) (.t 11)) (tq 13 (.bin .lss (.t 12) (.c (.int .u8 32))) (tm 14 (.t 13) (tg 15 14 false (.mov (.t 0)) (tg 16 14 false (.mov (.t 3)) (tg 17 14 false (.idxs (.t 15) (.t 16)) (tg 18 14 false (.bin .gtr (.t 17) (.c (.int .u8 126))) (tq 19 (.pick (.t 14) (.c (.bool true)) (.t 18)) .done)))))))))))
 (.cut (.cond (.t 19) (.seq (.reg (tm 2 (.c (.bool false)) .done))
 .ret)
 .skip))))
 (.reg (tm 8 (.t 3) (tq 9 (.bin .add (.t 8) (.c (.int .i64 1))) (tm 3 (.t 9) .done)))))))))
 (.cut (.seq (.reg (tm 20 (.t 0) (tq 21 (.lenS (.t 20)) (tq 22 (.bin .leq (.t 21) (.c (.int .i64 200))) (tm 2 (.t 22) .done)))))
 .ret))))
theorem d5d:a1f Try.prog Try.f36 = some (c36.erase,[.mov (.t 2)],23):=by kernel_rfl
def a2t :List UInt8 → Option (Fl Bool Unit)
  | [] =>
    some (.go ())
  | x_57 :: xs =>
    ((if (decide ((x_57.toNat:Int) < 32)) then
    some true
    else
    some (decide ((x_57.toNat:Int) > 126)):Option Bool)).bind fun s19_61 =>
    if s19_61 then
    some (.ret false)
    else
    a2t xs 

def a4e (t_1:Str):Option Bool :=
    (a2t t_1 ).bind fun q => (match q with
    | .ret r => some r
    | .go _ =>
    some (decide ((t_1.length:Int) ≤ 200)))
theorem a9s (t_1:Str) (r:Bool) (hf:a4e t_1 = some r):a0d Try.prog 36 .flat [(.str t_1)] (.bool r):=by
 refine a0d.of_awp mixed Try.func36 d5d nle ?_;rw [a0q];unfold a4e at hf;unfold c36;refine (show awp Try.prog false 0 _ (ofL [(0,(.str t_1))]) [] _ from ?_);refine sr<|l7 (.bool false) rfl<|dk<|o6<|sr<|l7 (.int .i64 0) rfl<|dk<|?_
 obtain ⟨p50,hb1,hf⟩:=ob hf
 refine a3f (X:={q:Unit // p50 = .go q}) (fun q => ([(0,(.str t_1))],[])) ?_ ?_
 ·refine a1o (X:={q:Nat // a2t (t_1.drop q)  = some p50}) (fun q => ([(0,(.str t_1)),(3,(.int .i64 (q.1:Int)))],[])) (fun q => t_1.length - q.1) ⟨0,hb1⟩ ⟨[],[],_,_,rfl,rfl,⟨.refl _,⟨.refl _,trivial⟩⟩,(.refl _)⟩ ?_
  rintro ⟨i_33,hc1⟩
  have hc1:a2t (t_1.drop i_33)  = some p50:=hc1
  refine (show awp Try.prog false 0 _ (ofL [(0,(.str t_1)),(3,(.int .i64 (i_33:Int)))]) [] _ from ?_)
  rcases a7n t_1 i_33 with ⟨hie53,hd56⟩ | ⟨hlt51,x_57,hx52,hd56⟩
  ·rw [hd56,a2t.eq_1] at hc1
   have hq55:=dlf hie53
   refine o6<|sr<|l7 (.int .i64 (i_33:Int)) rfl<|l7 (.str t_1) rfl<|a1d (b4d rfl) fun hl58 => x9 (.bool (decide ((i_33:Int) < (t_1.length:Int)))) rfl rfl rfl<|dk<|y8 rfl hq55<|a3x<|a3w<|a2o<|a3v<|?_;obtain rfl:=os hc1;exact a3u ⟨_,rfl⟩ ⟨[],[],_,_,rfl,rfl,⟨.refl _,trivial⟩,(.refl _)⟩
  ·rw [hd56,a2t.eq_2] at hc1
   have hq55:=dlt hlt51
   refine o6<|sr<|l7 (.int .i64 (i_33:Int)) rfl<|l7 (.str t_1) rfl<|a1d (b4d rfl) fun hl59 => x9 (.bool (decide ((i_33:Int) < (t_1.length:Int)))) rfl rfl rfl<|dk<|y7 rfl hq55<|a0k<|a0m<|o6<|a4a<|o6<|?_
   obtain ⟨s19_61,hb2,hc1⟩:=ob hc1
   refine a2n ([(0,(.str t_1)),(3,(.int .i64 (i_33:Int))),(19,(.bool s19_61))],[]) ?_ ?_
   ·refine a0x ?_
    rcases oi hb2 with ⟨c63,hb2⟩ | ⟨c63,hb2⟩
    ·refine l7 (.str t_1) rfl<|l7 (.int .i64 (i_33:Int)) rfl<|a0b (b2q rfl rfl hx52)<|x9 (.bool (decide ((x_57.toNat:Int) < 32))) rfl rfl rfl<|l7 (.bool (decide ((x_57.toNat:Int) < 32))) rfl<|a0v (s:=14) (b:=true) rfl c63<|a0a rfl rfl<|a0a rfl rfl<|a0a rfl rfl<|a0a rfl rfl<|x9 (.bool true) rfl trivial rfl<|a0l<|?_;obtain rfl:=os hb2;exact ⟨[],[],_,_,rfl,rfl,⟨.refl _,⟨.refl _,⟨.refl _,trivial⟩⟩⟩,(.refl _)⟩
    ·refine l7 (.str t_1) rfl<|l7 (.int .i64 (i_33:Int)) rfl<|a0b (b2q rfl rfl hx52)<|x9 (.bool (decide ((x_57.toNat:Int) < 32))) rfl rfl rfl<|l7 (.bool (decide ((x_57.toNat:Int) < 32))) rfl<|a0v (s:=14) (b:=false) rfl (bf c63)<|s_on rfl<|l7 (.str t_1) rfl<|s_on rfl<|l7 (.int .i64 (i_33:Int)) rfl<|s_on rfl<|a0b (b2q rfl rfl hx52)<|s_on rfl<|x9 (.bool (decide ((x_57.toNat:Int) > 126))) rfl rfl rfl<|x9 (.bool (decide ((x_57.toNat:Int) > 126))) rfl trivial rfl<|a0l<|?_;obtain rfl:=os hb2;exact ⟨[],[],_,_,rfl,rfl,⟨.refl _,⟨.refl _,⟨.refl _,trivial⟩⟩⟩,(.refl _)⟩
   ·rcases oi hc1 with ⟨c64,hc1⟩ | ⟨c64,hc1⟩
    ·refine y7 rfl c64<|sr<|l7 (.bool false) rfl<|dk<|a0c<|?_;obtain rfl:=os hc1;obtain rfl:=os hf;exact a0h ⟨trivial,trivial⟩ rfl (.refl _)
    ·refine y8 rfl (bf c64)<|a0k<|a2y<|a0m<|a0x<|l7 (.int .i64 (i_33:Int)) rfl<|x9 (.int .i64 (w64 ((i_33:Int) + 1))) rfl rfl rfl<|l7 (.int .i64 (w64 ((i_33:Int) + 1))) rfl<|a0l<|?_;exact a2g ⟨(i_33 + 1),hc1⟩ (mul hlt51) ⟨[],[],_,_,rfl,rfl,⟨.refl _,⟨.of_eq (congrArg (AV.int _) (a2z hlt51 hl59)),trivial⟩⟩,(.refl _)⟩
 ·rintro ⟨_,rfl⟩
  refine sr<|l7 (.str t_1) rfl<|a1d (b4d rfl) fun hl65 => x9 (.bool (decide ((t_1.length:Int) ≤ 200))) rfl rfl rfl<|l7 (.bool (decide ((t_1.length:Int) ≤ 200))) rfl<|dk<|a0c<|?_;obtain rfl:=os hf;exact a0h ⟨trivial,trivial⟩ rfl (.refl _)

/- spec.l01OK -/
def c27:a0p :=
 (.seq (.reg (tq 2 (.box 5 (.t 0)) (tm 4 (.c (.int .i64 0)) (tm 5 (.c (.bool false)) .done))))
 (.seq (.seq (.reg (tm 11 (.t 1) (tq 12 (.bin .eql (.t 11) (.c (.int .i64 0))) .done)))
 (.cond (.t 12) (.seq (.reg (tm 4 (.c (.int .i64 0)) (tm 5 (.c (.bool false)) .done)))
 .ret)
 .skip))
 (.seq (.reg (tq 13 (.faddr 3 (.t 2)) (tq 14 (.load 1 false (.t 13)) (tq 15 (.len (.t 14)) (tq 16 (.bin .eql (.t 15) (.c (.int .i64 0))) (tm 17 (.t 16) (tg 18 17 true (.faddr 4 (.t 2)) (tg 19 17 true (.load 1 false (.t 18)) (tg 20 17 true (.len (.t 19)) (tg 21 17 true (.bin .eql (.t 20) (.c (.int .i64 0))) (tq 22 (.pick (.t 17) (.t 21) (.c (.bool false))) (tm 6 (.t 22) .done))))))))))))
 (.cut (.seq (.seq (.reg (tq 23 (.faddr 0 (.t 2)) (tq 24 (.load 1 false (.t 23)) .done)))
 (.block 0 (.seq (.reg (tq 26 (.bin .eql (.t 24) (.c (.int .i64 0))) (tm 25 (.t 26) .done)))
 (.cond (.t 25) (.seq (.reg (tm 27 (.t 6) (tm 28 (.t 27) (tg 29 28 true (.faddr 1 (.t 2)) (tg 30 28 true (.load 1 false (.t 29)) (tg 31 28 true (.bin .eql (.t 30) (.c (.int .i64 0))) (tq 32 (.pick (.t 28) (.t 31) (.c (.bool false))) (tm 33 (.t 32) (tg 34 33 true (.faddr 2 (.t 2)) (tg 35 33 true (.load 1 false (.t 34)) (tg 36 33 true (.bin .eql (.t 35) (.c (.str []))) (tq 37 (.pick (.t 33) (.t 36) (.c (.bool false))) (tm 4 (.c (.int .i64 1)) (tm 5 (.t 37) .done))))))))))))))
 .ret)
 (.seq (.reg (tq 39 (.bin .eql (.t 24) (.c (.int .i64 1))) (tm 38 (.t 39) .done)))
 (.cond (.t 38) (.seq (.reg (tm 40 (.t 6) (tm 41 (.t 40) (tg 42 41 true (.faddr 1 (.t 2)) (tg 43 41 true (.load 1 false (.t 42)) (.l ⟨(some 44),(some (41,true)),.call 35 [(.t 43),(.c (.int .i64 0)),(.c (.int .i64 1))]⟩ []
 (tq 45 (.pick (.t 41) (.t 44) (.c (.bool false))) (tm 46 (.t 45) (tg 47 46 true (.faddr 2 (.t 2)) (tg 48 46 true (.load 1 false (.t 47)) (tg 49 46 true (.bin .eql (.t 48) (.c (.str []))) (tq 50 (.pick (.t 46) (.t 49) (.c (.bool false))) (tm 4 (.c (.int .i64 1)) (tm 5 (.t 50) .done)))))))) .non))))))
 .ret)
 (.seq (.reg (tq 52 (.bin .eql (.t 24) (.c (.int .i64 2))) (tm 51 (.t 52) .done)))
 (.cond (.t 51) (.seq (.reg (tm 53 (.t 6) (tm 54 (.t 53) (tg 55 54 true (.faddr 1 (.t 2)) (tg 56 54 true (.load 1 false (.t 55)) (.l ⟨(some 57),(some (54,true)),.call 35 [(.t 56),(.c (.int .i64 (-1000000000))),(.c (.int .i64 1000000000))]⟩ []
 (tq 58 (.pick (.t 54) (.t 57) (.c (.bool false))) (tm 59 (.t 58) (tg 60 59 true (.faddr 2 (.t 2)) (tg 61 59 true (.load 1 false (.t 60)) (tg 62 59 true (.bin .eql (.t 61) (.c (.str []))) (tq 63 (.pick (.t 59) (.t 62) (.c (.bool false))) (tm 4 (.c (.int .i64 1)) (tm 5 (.t 63) .done)))))))) .non))))))
 .ret)
 (.seq (.reg (tq 65 (.bin .eql (.t 24) (.c (.int .i64 3))) (tm 64 (.t 65) .done)))
 (.cond (.t 64) (.seq (.reg (tm 66 (.t 6) (tm 67 (.t 66) (tg 68 67 true (.faddr 1 (.t 2)) (tg 69 67 true (.load 1 false (.t 68)) (tg 70 67 true (.bin .eql (.t 69) (.c (.int .i64 0))) (tq 71 (.pick (.t 67) (.t 70) (.c (.bool false))) (tm 72 (.t 71) (tg 73 72 true (.faddr 2 (.t 2)) (tg 74 72 true (.load 1 false (.t 73)) (tg 75 72 true (.call 36 [(.t 74)]) (tq 76 (.pick (.t 72) (.t 75) (.c (.bool false))) (tm 4 (.c (.int .i64 1)) (tm 5 (.t 76) .done))))))))))))))
 .ret)
 .skip))))))))))
 (.seq (.seq (.reg (tq 77 (.faddr 0 (.t 2)) (tq 78 (.load 1 false (.t 77)) (tq 79 (.bin .neq (.t 78) (.c (.int .i64 4))) (tm 80 (.t 79) (tg 81 80 true (.faddr 0 (.t 2)) (tg 82 80 true (.load 1 false (.t 81)) (tg 83 80 true (.bin .neq (.t 82) (.c (.int .i64 5))) (tq 84 (.pick (.t 80) (.t 83) (.c (.bool false))) (tm 85 (.t 84) (tg 86 85 false (.faddr 1 (.t 2)) (tg 87 85 false (.load 1 false (.t 86)) (tg 88 85 false (.bin .neq (.t 87) (.c (.int .i64 0))) (tq 89 (.pick (.t 85) (.c (.bool true)) (.t 88)) (tm 90 (.t 89) (tg 91 90 false (.faddr 2 (.t 2)) (tg 92 90 false (.load 1 false (.t 91)) (tg 93 90 false (.bin .neq (.t 92) (.c (.str []))) (tq 94 (.pick (.t 90) (.c (.bool true)) (.t 93)) (tm 95 (.t 94) (tg 96 95 false (.faddr 0 (.t 2)) (tg 97 95 false (.load 1 false (.t 96)) (tg 98 95 false (.bin .eql (.t 97) (.c (.int .i64 4))) (tg 99 95 false (.mov (.t 98)) (tg 100 99 true (.faddr 3 (.t 2)) (tg 101 99 true (.load 1 false (.t 100)) (tg 102 99 true (.len (.t 101)) (tg 103 99 true (.bin .gtr (.t 102) (.c (.int .i64 0))) (tg 104 95 false (.pick (.t 99) (.t 103) (.c (.bool false))) (tq 105 (.pick (.t 95) (.c (.bool true)) (.t 104)) (tm 106 (.t 105) (tg 107 106 false (.faddr 0 (.t 2)) (tg 108 106 false (.load 1 false (.t 107)) (tg 109 106 false (.bin .eql (.t 108) (.c (.int .i64 5))) (tg 110 106 false (.mov (.t 109)) (tg 111 110 true (.faddr 3 (.t 2)) (tg 112 110 true (.load 1 false (.t 111)) (tg 113 110 true (.len (.t 112)) (tg 114 110 true (.faddr 4 (.t 2)) (tg 115 110 true (.load 1 false (.t 114)) (tg 116 110 true (.len (.t 115)) (tg 117 110 true (.bin .neq (.t 113) (.t 116)) (tg 118 106 false (.pick (.t 110) (.t 117) (.c (.bool false))) (tq 119 (.pick (.t 106) (.c (.bool true)) (.t 118)) .done))))))))))))))))))))))))))))))))))))))))))))
 (.cut (.cond (.t 119) (.seq (.reg (tm 4 (.c (.int .i64 0)) (tm 5 (.c (.bool false)) .done)))
 .ret)
 .skip)))
 (.seq (.reg (tm 7 (.c (.int .i64 1)) .done))
 (.seq (.seq (.reg (tm 8 (.c (.int .i64 0)) .done))
 (.block 1 (.loop (.seq (.seq (.reg (tm 120 (.t 8) (tq 121 (.faddr 4 (.t 2)) (tq 122 (.load 1 false (.t 121)) (tq 123 (.len (.t 122)) (tq 124 (.bin .lss (.t 120) (.t 123)) .done))))))
 (.cond (.t 124) .skip
 (.exit 1)))
 (.seq (.block 2 (.seq (.seq (.reg (tq 127 (.faddr 0 (.t 2)) (tq 128 (.load 1 false (.t 127)) (tq 129 (.bin .eql (.t 128) (.c (.int .i64 5))) (tm 130 (.t 129) (tg 131 130 true (.faddr 3 (.t 2)) (tg 132 130 true (.load 1 false (.t 131)) (tg 133 130 true (.mov (.t 8)) (tg 134 130 true (.iaddr 1 (.t 132) (.t 133)) (tg 135 130 true (.load 1 false (.t 134)) (.l ⟨(some 136),(some (130,true)),.call 36 [(.t 135)]⟩ []
 (tg 137 130 true (.not (.t 136)) (tg 138 130 true (.mov (.t 137)) (tg 139 138 false (.mov (.t 8)) (tg 140 138 false (.bin .gtr (.t 139) (.c (.int .i64 0))) (tg 141 138 false (.mov (.t 140)) (tg 142 141 true (.faddr 3 (.t 2)) (tg 143 141 true (.load 1 false (.t 142)) (tg 144 141 true (.mov (.t 8)) (tg 145 141 true (.bin .sub (.t 144) (.c (.int .i64 1))) (tg 146 141 true (.iaddr 1 (.t 143) (.t 145)) (tg 147 141 true (.load 1 false (.t 146)) (tg 148 141 true (.faddr 3 (.t 2)) (tg 149 141 true (.load 1 false (.t 148)) (tg 150 141 true (.mov (.t 8)) (tg 151 141 true (.iaddr 1 (.t 149) (.t 150)) (tg 152 141 true (.load 1 false (.t 151)) (tg 153 141 true (.bin .geq (.t 147) (.t 152)) (tg 154 138 false (.pick (.t 141) (.t 153) (.c (.bool false))) (tg 155 130 true (.pick (.t 138) (.c (.bool true)) (.t 154)) (tq 156 (.pick (.t 130) (.t 155) (.c (.bool false))) .done)))))))))))))))))))) .non)))))))))))
 (.cut (.cond (.t 156) (.seq (.reg (tm 4 (.c (.int .i64 0)) (tm 5 (.c (.bool false)) .done)))
 .ret)
 .skip)))
 (.seq (.reg (tq 158 (.faddr 4 (.t 2)) (tq 159 (.load 1 false (.t 158)) (tm 160 (.t 8) (tq 161 (.iaddr 5 (.t 159) (.t 160)) (tq 162 (.load 5 true (.t 161)) (tm 163 (.t 1) (tq 164 (.bin .sub (.t 163) (.c (.int .i64 1))) (tq 165 (.call 27 [(.t 162),(.t 164)]) (tm 157 (.t 165) (tq 166 (.extract 0 (.t 157)) (tq 167 (.extract 1 (.t 157)) (tm 9 (.t 166) (tm 10 (.t 167) .done))))))))))))))
 (.seq (.reg (tm 168 (.t 7) (tm 169 (.t 9) (tq 170 (.bin .add (.t 168) (.t 169)) (tm 7 (.t 170) .done)))))
 (.seq (.reg (tm 171 (.t 10) (tq 172 (.not (.t 171)) (tm 173 (.t 172) (tg 174 173 false (.mov (.t 7)) (tg 175 173 false (.bin .gtr (.t 174) (.c (.int .i64 400))) (tq 176 (.pick (.t 173) (.c (.bool true)) (.t 175)) .done)))))))
 (.cut (.cond (.t 176) (.seq (.reg (tm 4 (.c (.int .i64 0)) (tm 5 (.c (.bool false)) .done)))
 .ret)
 .skip)))))))
 (.reg (tm 125 (.t 8) (tq 126 (.bin .add (.t 125) (.c (.int .i64 1))) (tm 8 (.t 126) .done)))))))))
 (.cut (.seq (.reg (tm 177 (.t 7) (tm 4 (.t 177) (tm 5 (.c (.bool true)) .done))))
 .ret))))))))))
theorem d5e:a1f Try.prog Try.f27 = some (c27.erase,[.mov (.t 4),.mov (.t 5)],178):=by kernel_rfl
def a2d (j_1:o8) (rec:(o8 → Int → Option (Int × Bool))) (deep_2:Int):List o8 → Int → Nat → Option (Fl (Int × Bool) Int)
  | [],n_107,i_108 =>
    some (.go n_107)
  | x_154 :: xs,n_107,i_108 =>
    ((if (j_1.Kind == 5) then
    (idx j_1.Keys (i_108:Int)).bind fun x_171 =>
    (a4e x_171).bind fun r_173 =>
    if (!r_173) then
    some true
    else
    if (decide ((i_108:Int) > 0)) then
    (idx j_1.Keys (w64 ((i_108:Int) - 1))).bind fun x_177 =>
    (idx j_1.Keys (i_108:Int)).bind fun x_179 =>
    some (!Op.bytesLess x_177 x_179)
    else
    some false
    else
    some false:Option Bool)).bind fun s156_168 =>
    if s156_168 then
    some (.ret (0,false))
    else
    (rec x_154 (w64 (deep_2 - 1))).bind fun r_182 =>
    ((if (!r_182.2) then
    some true
    else
    some (decide (w64 (n_107 + r_182.1) > 400)):Option Bool)).bind fun s176_185 =>
    if s176_185 then
    some (.ret (0,false))
    else
    a2d j_1 rec deep_2 xs (w64 (n_107 + r_182.1)) (i_108 + 1)

def a7w (rec:(o8 → Int → Option (Int × Bool))) (j_1:o8) (deep_2:Int):Option (Int × Bool) :=
    if (deep_2 == 0) then
    some (0,false)
    else
    ((if ((j_1.Keys.length:Int) == 0) then
    some ((j_1.Items.length:Int) == 0)
    else
    some false:Option Bool)).bind fun plain_7 =>
    if (j_1.Kind == 0) then
    some (1,(bif (bif plain_7 then (j_1.N == 0) else false) then (j_1.T == []) else false))
    else
    if (j_1.Kind == 1) then
    if plain_7 then
    (a5m j_1.N 0 1).bind fun r_15 =>
    some (1,(bif r_15 then (j_1.T == []) else false))
    else
    some (1,false)
    else
    if (j_1.Kind == 2) then
    if plain_7 then
    (a5m j_1.N (-1000000000) 1000000000).bind fun r_19 =>
    some (1,(bif r_19 then (j_1.T == []) else false))
    else
    some (1,false)
    else
    if (j_1.Kind == 3) then
    if (bif plain_7 then (j_1.N == 0) else false) then
    (a4e j_1.T).bind fun r_23 =>
    some (1,r_23)
    else
    some (1,false)
    else
    ((some ():Option Unit)).bind fun _ =>
    if (bif (bif (bif (bif (bif (j_1.Kind != 4) then (j_1.Kind != 5) else false) then true else (j_1.N != 0)) then true else (!(j_1.T == []))) then true else (bif (j_1.Kind == 4) then (decide ((j_1.Keys.length:Int) > 0)) else false)) then true else (bif (j_1.Kind == 5) then ((j_1.Keys.length:Int) != (j_1.Items.length:Int)) else false)) then
    some (0,false)
    else
    (a2d j_1 rec deep_2 j_1.Items 1 0).bind fun q => (match q with
    | .ret r => some r
    | .go n_146 =>
    some (n_146,true))
theorem b8r (rec:(o8 → Int → Option (Int × Bool))) (hrec:∀ a0 a1 r,rec a0 a1 = some r → a0d Try.prog 27 .flat [(l9 a0),(.int .i64 a1)] (.tup [(.int .i64 r.1),(.bool r.2)])) (j_1:o8) (deep_2:Int) (r:(Int × Bool)) (hf:a7w rec j_1 deep_2 = some r):a0d Try.prog 27 .flat [(l9 j_1),(.int .i64 deep_2)] (.tup [(.int .i64 r.1),(.bool r.2)]):=by
 refine a0d.of_awp mixed Try.func27 d5e nle ?_;rw [a0q];rw [o9 j_1];unfold a7w at hf;unfold c27;refine (show awp Try.prog false 0 _ (ofL [(0,(.agg [(.int .i64 j_1.Kind),(.int .i64 j_1.N),(.str j_1.T),(.lst 1 (j_1.Keys.map AV.str)),(.lst 5 (j_1.Items.map l9))])),(1,(.int .i64 deep_2))]) [] _ from ?_);refine sr<|a0b (a1p (j:=0) (c:=(.agg [(.int .i64 j_1.Kind),(.int .i64 j_1.N),(.str j_1.T),(.lst 1 (j_1.Keys.map AV.str)),(.lst 5 (j_1.Items.map l9))])) rfl trivial rfl rfl)<|l7 (.int .i64 0) rfl<|l7 (.bool false) rfl<|dk<|o6<|sr<|l7 (.int .i64 deep_2) rfl<|x9 (.bool (deep_2 == 0)) rfl rfl rfl<|a0l<|?_
 refine a0m ?_
 rcases oi hf with ⟨c3,hf⟩ | ⟨c3,hf⟩
 ·refine y7 rfl c3<|sr<|l7 (.int .i64 0) rfl<|l7 (.bool false) rfl<|dk<|a0c<|?_;obtain rfl:=os hf;exact a0h ⟨trivial,⟨trivial,trivial⟩⟩ rfl (.refl _)
 ·refine y8 rfl (bf c3)<|a0k<|a0m<|o6<|?_
  obtain ⟨plain_7,hb1,hf⟩:=ob hf
  refine a2n ([(1,(.int .i64 deep_2)),(2,(.ptr 0 0 0)),(6,(.bool plain_7))],[.box 5 (.agg [(.int .i64 j_1.Kind),(.int .i64 j_1.N),(.str j_1.T),(.lst 1 (j_1.Keys.map AV.str)),(.lst 5 (j_1.Items.map l9))])]) ?_ ?_
  ·refine a0x ?_
   rcases oi hb1 with ⟨c10,hb1⟩ | ⟨c10,hb1⟩
   ·refine x9 (.ptr 0 0 3) rfl trivial rfl<|x9 (.lst 1 (j_1.Keys.map AV.str)) rfl nle rfl<|a1d (a2q (enc:=AV.str) rfl) fun hl9 => x9 (.bool ((j_1.Keys.length:Int) == 0)) rfl rfl rfl<|l7 (.bool ((j_1.Keys.length:Int) == 0)) rfl<|a0v (s:=17) (b:=true) rfl c10<|s_on rfl<|x9 (.ptr 0 0 4) rfl trivial rfl<|s_on rfl<|x9 (.lst 5 (j_1.Items.map l9)) rfl nle rfl<|s_on rfl<|a1d (a2q (enc:=l9) rfl) fun hl11 => s_on rfl<|x9 (.bool ((j_1.Items.length:Int) == 0)) rfl rfl rfl<|x9 (.bool ((j_1.Items.length:Int) == 0)) rfl trivial rfl<|l7 (.bool ((j_1.Items.length:Int) == 0)) rfl<|a0l<|?_;obtain rfl:=os hb1;exact ⟨[],[0],_,_,rfl,rfl,⟨.refl _,⟨.refl _,⟨.refl _,trivial⟩⟩⟩,(.refl _)⟩
   ·refine x9 (.ptr 0 0 3) rfl trivial rfl<|x9 (.lst 1 (j_1.Keys.map AV.str)) rfl nle rfl<|a1d (a2q (enc:=AV.str) rfl) fun hl9 => x9 (.bool ((j_1.Keys.length:Int) == 0)) rfl rfl rfl<|l7 (.bool ((j_1.Keys.length:Int) == 0)) rfl<|a0v (s:=17) (b:=false) rfl (bf c10)<|a0a rfl rfl<|a0a rfl rfl<|a0a rfl rfl<|a0a rfl rfl<|x9 (.bool false) rfl trivial rfl<|l7 (.bool false) rfl<|a0l<|?_;obtain rfl:=os hb1;exact ⟨[],[0],_,_,rfl,rfl,⟨.refl _,⟨.refl _,⟨.refl _,trivial⟩⟩⟩,(.refl _)⟩
  ·refine o6<|sr<|x9 (.ptr 0 0 0) rfl trivial rfl<|x9 (.int .i64 j_1.Kind) rfl nle rfl<|dk<|a4a<|sr<|x9 (.bool (j_1.Kind == 0)) rfl rfl rfl<|l7 (.bool (j_1.Kind == 0)) rfl<|dk<|?_
   rcases oi hf with ⟨c12,hf⟩ | ⟨c12,hf⟩
   ·refine y7 rfl c12<|sr<|l7 (.bool plain_7) rfl<|l7 (.bool plain_7) rfl<|?_;refine s_g (v:=plain_7) (.ptr 0 0 1) rfl (fun hv => by (try simp only [y9 hv]);exact ⟨rfl,trivial,rfl⟩) ?_;refine s_g (v:=plain_7) (.int .i64 j_1.N) rfl (fun hv => by (try simp only [y9 hv]);exact ⟨rfl,nle,rfl⟩) ?_;refine s_g (v:=plain_7) (.bool (j_1.N == 0)) rfl (fun hv => by (try simp only [y9 hv]);exact ⟨rfl,rfl,rfl⟩) ?_;refine a3g (x:=(j_1.N == 0)) (y:=false) rfl (fun hv => by (try simp only [y9 hv]);rfl) (fun hv => by (try simp only [y9 hv]);rfl) ?_;refine l7 (.bool (bif plain_7 then (j_1.N == 0) else false)) rfl ?_;refine s_g (v:=(bif plain_7 then (j_1.N == 0) else false)) (.ptr 0 0 2) rfl (fun hv => by (try simp only [y9 hv]);exact ⟨rfl,trivial,rfl⟩) ?_
    refine s_g (v:=(bif plain_7 then (j_1.N == 0) else false)) (.str j_1.T) rfl (fun hv => by (try simp only [y9 hv]);exact ⟨rfl,nle,rfl⟩) ?_;refine s_g (v:=(bif plain_7 then (j_1.N == 0) else false)) (.bool (j_1.T == [])) rfl (fun hv => by (try simp only [y9 hv]);exact ⟨rfl,trivial,rfl⟩) ?_;refine a3g (x:=(j_1.T == [])) (y:=false) rfl (fun hv => by (try simp only [y9 hv]);rfl) (fun hv => by (try simp only [y9 hv]);rfl) ?_;refine l7 (.int .i64 1) rfl<|l7 (.bool (bif (bif plain_7 then (j_1.N == 0) else false) then (j_1.T == []) else false)) rfl<|dk<|a0c<|?_;obtain rfl:=os hf;exact a0h ⟨trivial,⟨trivial,trivial⟩⟩ rfl (.refl _)
   ·refine y8 rfl (bf c12)<|sr<|x9 (.bool (j_1.Kind == 1)) rfl rfl rfl<|l7 (.bool (j_1.Kind == 1)) rfl<|dk<|?_
    rcases oi hf with ⟨c13,hf⟩ | ⟨c13,hf⟩
    ·refine y7 rfl c13<|sr<|l7 (.bool plain_7) rfl<|l7 (.bool plain_7) rfl<|?_
     rcases oi hf with ⟨c14,hf⟩ | ⟨c14,hf⟩
     ·refine a0v (s:=41) (b:=true) rfl c14<|s_on rfl<|x9 (.ptr 0 0 1) rfl trivial rfl<|s_on rfl<|x9 (.int .i64 j_1.N) rfl nle rfl<|c7d rfl<|?_
      obtain ⟨r_15,er16,hf⟩:=ob hf
      refine a5x (a0s (a4y _ _ _ _ er16) rfl (.refl _) rfl) b0f trivial<|x9 (.bool r_15) rfl trivial rfl<|l7 (.bool r_15) rfl<|?_;refine s_g (v:=r_15) (.ptr 0 0 2) rfl (fun hv => by (try simp only [y9 hv]);exact ⟨rfl,trivial,rfl⟩) ?_;refine s_g (v:=r_15) (.str j_1.T) rfl (fun hv => by (try simp only [y9 hv]);exact ⟨rfl,nle,rfl⟩) ?_;refine s_g (v:=r_15) (.bool (j_1.T == [])) rfl (fun hv => by (try simp only [y9 hv]);exact ⟨rfl,trivial,rfl⟩) ?_;refine a3g (x:=(j_1.T == [])) (y:=false) rfl (fun hv => by (try simp only [y9 hv]);rfl) (fun hv => by (try simp only [y9 hv]);rfl) ?_;refine l7 (.int .i64 1) rfl<|l7 (.bool (bif r_15 then (j_1.T == []) else false)) rfl<|?_
      refine dk<|a0c<|?_;obtain rfl:=os hf;exact a0h ⟨trivial,⟨trivial,trivial⟩⟩ rfl (.refl _)
     ·refine a0v (s:=41) (b:=false) rfl (bf c14)<|a0a rfl rfl<|a0a rfl rfl<|c2o rfl rfl trivial<|x9 (.bool false) rfl trivial rfl<|l7 (.bool false) rfl<|a0a rfl rfl<|a0a rfl rfl<|a0a rfl rfl<|x9 (.bool false) rfl trivial rfl<|l7 (.int .i64 1) rfl<|l7 (.bool false) rfl<|dk<|a0c<|?_;obtain rfl:=os hf;exact a0h ⟨trivial,⟨trivial,trivial⟩⟩ rfl (.refl _)
    ·refine y8 rfl (bf c13)<|sr<|x9 (.bool (j_1.Kind == 2)) rfl rfl rfl<|l7 (.bool (j_1.Kind == 2)) rfl<|dk<|?_
     rcases oi hf with ⟨c17,hf⟩ | ⟨c17,hf⟩
     ·refine y7 rfl c17<|sr<|l7 (.bool plain_7) rfl<|l7 (.bool plain_7) rfl<|?_
      rcases oi hf with ⟨c18,hf⟩ | ⟨c18,hf⟩
      ·refine a0v (s:=54) (b:=true) rfl c18<|s_on rfl<|x9 (.ptr 0 0 1) rfl trivial rfl<|s_on rfl<|x9 (.int .i64 j_1.N) rfl nle rfl<|c7d rfl<|?_
       obtain ⟨r_19,er20,hf⟩:=ob hf
       refine a5x (a0s (a4y _ _ _ _ er20) rfl (.refl _) rfl) b0f trivial<|x9 (.bool r_19) rfl trivial rfl<|l7 (.bool r_19) rfl<|?_;refine s_g (v:=r_19) (.ptr 0 0 2) rfl (fun hv => by (try simp only [y9 hv]);exact ⟨rfl,trivial,rfl⟩) ?_;refine s_g (v:=r_19) (.str j_1.T) rfl (fun hv => by (try simp only [y9 hv]);exact ⟨rfl,nle,rfl⟩) ?_;refine s_g (v:=r_19) (.bool (j_1.T == [])) rfl (fun hv => by (try simp only [y9 hv]);exact ⟨rfl,trivial,rfl⟩) ?_;refine a3g (x:=(j_1.T == [])) (y:=false) rfl (fun hv => by (try simp only [y9 hv]);rfl) (fun hv => by (try simp only [y9 hv]);rfl) ?_;refine l7 (.int .i64 1) rfl<|l7 (.bool (bif r_19 then (j_1.T == []) else false)) rfl<|?_
       refine dk<|a0c<|?_;obtain rfl:=os hf;exact a0h ⟨trivial,⟨trivial,trivial⟩⟩ rfl (.refl _)
      ·refine a0v (s:=54) (b:=false) rfl (bf c18)<|a0a rfl rfl<|a0a rfl rfl<|c2o rfl rfl trivial<|x9 (.bool false) rfl trivial rfl<|l7 (.bool false) rfl<|a0a rfl rfl<|a0a rfl rfl<|a0a rfl rfl<|x9 (.bool false) rfl trivial rfl<|l7 (.int .i64 1) rfl<|l7 (.bool false) rfl<|dk<|a0c<|?_;obtain rfl:=os hf;exact a0h ⟨trivial,⟨trivial,trivial⟩⟩ rfl (.refl _)
     ·refine y8 rfl (bf c17)<|sr<|x9 (.bool (j_1.Kind == 3)) rfl rfl rfl<|l7 (.bool (j_1.Kind == 3)) rfl<|dk<|?_
      rcases oi hf with ⟨c21,hf⟩ | ⟨c21,hf⟩
      ·refine y7 rfl c21<|sr<|l7 (.bool plain_7) rfl<|l7 (.bool plain_7) rfl<|?_;refine s_g (v:=plain_7) (.ptr 0 0 1) rfl (fun hv => by (try simp only [y9 hv]);exact ⟨rfl,trivial,rfl⟩) ?_;refine s_g (v:=plain_7) (.int .i64 j_1.N) rfl (fun hv => by (try simp only [y9 hv]);exact ⟨rfl,nle,rfl⟩) ?_;refine s_g (v:=plain_7) (.bool (j_1.N == 0)) rfl (fun hv => by (try simp only [y9 hv]);exact ⟨rfl,rfl,rfl⟩) ?_;refine a3g (x:=(j_1.N == 0)) (y:=false) rfl (fun hv => by (try simp only [y9 hv]);rfl) (fun hv => by (try simp only [y9 hv]);rfl) ?_;refine l7 (.bool (bif plain_7 then (j_1.N == 0) else false)) rfl ?_
       rcases oi hf with ⟨c22,hf⟩ | ⟨c22,hf⟩
       ·refine a0v (s:=72) (b:=true) rfl c22<|s_on rfl<|x9 (.ptr 0 0 2) rfl trivial rfl<|s_on rfl<|x9 (.str j_1.T) rfl nle rfl<|s_on rfl<|?_
        obtain ⟨r_23,er24,hf⟩:=ob hf
        refine a0b (a0s (a9s _ _ er24) rfl (.refl _) rfl)<|x9 (.bool r_23) rfl trivial rfl<|l7 (.int .i64 1) rfl<|l7 (.bool r_23) rfl<|dk<|a0c<|?_;obtain rfl:=os hf;exact a0h ⟨trivial,⟨trivial,trivial⟩⟩ rfl (.refl _)
       ·refine a0v (s:=72) (b:=false) rfl (bf c22)<|a0a rfl rfl<|a0a rfl rfl<|a0a rfl rfl<|x9 (.bool false) rfl trivial rfl<|l7 (.int .i64 1) rfl<|l7 (.bool false) rfl<|dk<|a0c<|?_;obtain rfl:=os hf;exact a0h ⟨trivial,⟨trivial,trivial⟩⟩ rfl (.refl _)
      ·refine y8 rfl (bf c21)<|a0k<|a2y<|a0m<|o6<|o6<|?_
       obtain ⟨p28,hb1,hf⟩:=ob hf
       refine a2n ([(1,(.int .i64 deep_2)),(2,(.ptr 0 0 0)),(119,(.bool (bif (bif (bif (bif (bif (j_1.Kind != 4) then (j_1.Kind != 5) else false) then true else (j_1.N != 0)) then true else (!(j_1.T == []))) then true else (bif (j_1.Kind == 4) then (decide ((j_1.Keys.length:Int) > 0)) else false)) then true else (bif (j_1.Kind == 5) then ((j_1.Keys.length:Int) != (j_1.Items.length:Int)) else false))))],[.box 5 (.agg [(.int .i64 j_1.Kind),(.int .i64 j_1.N),(.str j_1.T),(.lst 1 (j_1.Keys.map AV.str)),(.lst 5 (j_1.Items.map l9))])]) ?_ ?_
       ·refine a0x<|x9 (.ptr 0 0 0) rfl trivial rfl<|x9 (.int .i64 j_1.Kind) rfl nle rfl<|x9 (.bool (j_1.Kind != 4)) rfl rfl rfl<|l7 (.bool (j_1.Kind != 4)) rfl<|?_;refine s_g (v:=(j_1.Kind != 4)) (.ptr 0 0 0) rfl (fun hv => by (try simp only [y9 hv]);exact ⟨rfl,trivial,rfl⟩) ?_;refine s_g (v:=(j_1.Kind != 4)) (.int .i64 j_1.Kind) rfl (fun hv => by (try simp only [y9 hv]);exact ⟨rfl,nle,rfl⟩) ?_;refine s_g (v:=(j_1.Kind != 4)) (.bool (j_1.Kind != 5)) rfl (fun hv => by (try simp only [y9 hv]);exact ⟨rfl,rfl,rfl⟩) ?_;refine a3g (x:=(j_1.Kind != 5)) (y:=false) rfl (fun hv => by (try simp only [y9 hv]);rfl) (fun hv => by (try simp only [y9 hv]);rfl) ?_;refine l7 (.bool (bif (j_1.Kind != 4) then (j_1.Kind != 5) else false)) rfl ?_
        refine s_g (v:=(bif (j_1.Kind != 4) then (j_1.Kind != 5) else false)) (.ptr 0 0 1) rfl (fun hv => by (try simp only [y9 hv]);exact ⟨rfl,trivial,rfl⟩) ?_;refine s_g (v:=(bif (j_1.Kind != 4) then (j_1.Kind != 5) else false)) (.int .i64 j_1.N) rfl (fun hv => by (try simp only [y9 hv]);exact ⟨rfl,nle,rfl⟩) ?_;refine s_g (v:=(bif (j_1.Kind != 4) then (j_1.Kind != 5) else false)) (.bool (j_1.N != 0)) rfl (fun hv => by (try simp only [y9 hv]);exact ⟨rfl,rfl,rfl⟩) ?_;refine a3g (x:=true) (y:=(j_1.N != 0)) rfl (fun hv => by (try simp only [y9 hv]);rfl) (fun hv => by (try simp only [y9 hv]);rfl) ?_;refine l7 (.bool (bif (bif (j_1.Kind != 4) then (j_1.Kind != 5) else false) then true else (j_1.N != 0))) rfl ?_
        refine s_g (v:=(bif (bif (j_1.Kind != 4) then (j_1.Kind != 5) else false) then true else (j_1.N != 0))) (.ptr 0 0 2) rfl (fun hv => by (try simp only [y9 hv]);exact ⟨rfl,trivial,rfl⟩) ?_;refine s_g (v:=(bif (bif (j_1.Kind != 4) then (j_1.Kind != 5) else false) then true else (j_1.N != 0))) (.str j_1.T) rfl (fun hv => by (try simp only [y9 hv]);exact ⟨rfl,nle,rfl⟩) ?_;refine s_g (v:=(bif (bif (j_1.Kind != 4) then (j_1.Kind != 5) else false) then true else (j_1.N != 0))) (.bool (!(j_1.T == []))) rfl (fun hv => by (try simp only [y9 hv]);exact ⟨rfl,trivial,rfl⟩) ?_;refine a3g (x:=true) (y:=(!(j_1.T == []))) rfl (fun hv => by (try simp only [y9 hv]);rfl) (fun hv => by (try simp only [y9 hv]);rfl) ?_
        refine l7 (.bool (bif (bif (bif (j_1.Kind != 4) then (j_1.Kind != 5) else false) then true else (j_1.N != 0)) then true else (!(j_1.T == [])))) rfl ?_;refine s_g (v:=(bif (bif (bif (j_1.Kind != 4) then (j_1.Kind != 5) else false) then true else (j_1.N != 0)) then true else (!(j_1.T == [])))) (.ptr 0 0 0) rfl (fun hv => by (try simp only [y9 hv]);exact ⟨rfl,trivial,rfl⟩) ?_;refine s_g (v:=(bif (bif (bif (j_1.Kind != 4) then (j_1.Kind != 5) else false) then true else (j_1.N != 0)) then true else (!(j_1.T == [])))) (.int .i64 j_1.Kind) rfl (fun hv => by (try simp only [y9 hv]);exact ⟨rfl,nle,rfl⟩) ?_;refine s_g (v:=(bif (bif (bif (j_1.Kind != 4) then (j_1.Kind != 5) else false) then true else (j_1.N != 0)) then true else (!(j_1.T == [])))) (.bool (j_1.Kind == 4)) rfl (fun hv => by (try simp only [y9 hv]);exact ⟨rfl,rfl,rfl⟩) ?_
        refine s_g (v:=(bif (bif (bif (j_1.Kind != 4) then (j_1.Kind != 5) else false) then true else (j_1.N != 0)) then true else (!(j_1.T == [])))) (.bool (j_1.Kind == 4)) rfl (fun hv => by (try simp only [y9 hv]);exact ⟨rfl,trivial,rfl⟩) ?_;refine b8o (v1:=(bif (bif (bif (j_1.Kind != 4) then (j_1.Kind != 5) else false) then true else (j_1.N != 0)) then true else (!(j_1.T == [])))) (b1:=false) (v2:=(j_1.Kind == 4)) (.ptr 0 0 3) rfl (fun hv hw => by (try simp only [y9 hv,y9 hw]);exact ⟨rfl,trivial,rfl⟩) ?_;refine b8o (v1:=(bif (bif (bif (j_1.Kind != 4) then (j_1.Kind != 5) else false) then true else (j_1.N != 0)) then true else (!(j_1.T == [])))) (b1:=false) (v2:=(j_1.Kind == 4)) (.lst 1 (j_1.Keys.map AV.str)) rfl (fun hv hw => by (try simp only [y9 hv,y9 hw]);exact ⟨rfl,nle,rfl⟩) ?_
        refine b8o (v1:=(bif (bif (bif (j_1.Kind != 4) then (j_1.Kind != 5) else false) then true else (j_1.N != 0)) then true else (!(j_1.T == [])))) (b1:=false) (v2:=(j_1.Kind == 4)) (.int .i64 (j_1.Keys.length:Int)) rfl (fun hv hw => by (try simp only [y9 hv,y9 hw]);exact ⟨rfl,trivial,lenV _ _⟩) ?_;refine b8o (v1:=(bif (bif (bif (j_1.Kind != 4) then (j_1.Kind != 5) else false) then true else (j_1.N != 0)) then true else (!(j_1.T == [])))) (b1:=false) (v2:=(j_1.Kind == 4)) (.bool (decide ((j_1.Keys.length:Int) > 0))) rfl (fun hv hw => by (try simp only [y9 hv,y9 hw]);exact ⟨rfl,rfl,rfl⟩) ?_;refine d4h (v1:=(bif (bif (bif (j_1.Kind != 4) then (j_1.Kind != 5) else false) then true else (j_1.N != 0)) then true else (!(j_1.T == [])))) (b1:=false) (v2:=(j_1.Kind == 4)) (x:=(decide ((j_1.Keys.length:Int) > 0))) (y:=false) rfl (fun hv => by (try simp only [y9 hv]);rfl) (fun hv hw => by (try simp only [y9 hv,y9 hw]);rfl) (fun hv hw => by (try simp only [y9 hv,y9 hw]);rfl) ?_
        refine a3g (x:=true) (y:=(bif (j_1.Kind == 4) then (decide ((j_1.Keys.length:Int) > 0)) else false)) rfl (fun hv => by (try simp only [y9 hv]);rfl) (fun hv => by (try simp only [y9 hv]);rfl) ?_;refine l7 (.bool (bif (bif (bif (bif (j_1.Kind != 4) then (j_1.Kind != 5) else false) then true else (j_1.N != 0)) then true else (!(j_1.T == []))) then true else (bif (j_1.Kind == 4) then (decide ((j_1.Keys.length:Int) > 0)) else false))) rfl ?_;refine s_g (v:=(bif (bif (bif (bif (j_1.Kind != 4) then (j_1.Kind != 5) else false) then true else (j_1.N != 0)) then true else (!(j_1.T == []))) then true else (bif (j_1.Kind == 4) then (decide ((j_1.Keys.length:Int) > 0)) else false))) (.ptr 0 0 0) rfl (fun hv => by (try simp only [y9 hv]);exact ⟨rfl,trivial,rfl⟩) ?_
        refine s_g (v:=(bif (bif (bif (bif (j_1.Kind != 4) then (j_1.Kind != 5) else false) then true else (j_1.N != 0)) then true else (!(j_1.T == []))) then true else (bif (j_1.Kind == 4) then (decide ((j_1.Keys.length:Int) > 0)) else false))) (.int .i64 j_1.Kind) rfl (fun hv => by (try simp only [y9 hv]);exact ⟨rfl,nle,rfl⟩) ?_;refine s_g (v:=(bif (bif (bif (bif (j_1.Kind != 4) then (j_1.Kind != 5) else false) then true else (j_1.N != 0)) then true else (!(j_1.T == []))) then true else (bif (j_1.Kind == 4) then (decide ((j_1.Keys.length:Int) > 0)) else false))) (.bool (j_1.Kind == 5)) rfl (fun hv => by (try simp only [y9 hv]);exact ⟨rfl,rfl,rfl⟩) ?_;refine s_g (v:=(bif (bif (bif (bif (j_1.Kind != 4) then (j_1.Kind != 5) else false) then true else (j_1.N != 0)) then true else (!(j_1.T == []))) then true else (bif (j_1.Kind == 4) then (decide ((j_1.Keys.length:Int) > 0)) else false))) (.bool (j_1.Kind == 5)) rfl (fun hv => by (try simp only [y9 hv]);exact ⟨rfl,trivial,rfl⟩) ?_
        refine b8o (v1:=(bif (bif (bif (bif (j_1.Kind != 4) then (j_1.Kind != 5) else false) then true else (j_1.N != 0)) then true else (!(j_1.T == []))) then true else (bif (j_1.Kind == 4) then (decide ((j_1.Keys.length:Int) > 0)) else false))) (b1:=false) (v2:=(j_1.Kind == 5)) (.ptr 0 0 3) rfl (fun hv hw => by (try simp only [y9 hv,y9 hw]);exact ⟨rfl,trivial,rfl⟩) ?_;refine b8o (v1:=(bif (bif (bif (bif (j_1.Kind != 4) then (j_1.Kind != 5) else false) then true else (j_1.N != 0)) then true else (!(j_1.T == []))) then true else (bif (j_1.Kind == 4) then (decide ((j_1.Keys.length:Int) > 0)) else false))) (b1:=false) (v2:=(j_1.Kind == 5)) (.lst 1 (j_1.Keys.map AV.str)) rfl (fun hv hw => by (try simp only [y9 hv,y9 hw]);exact ⟨rfl,nle,rfl⟩) ?_
        refine b8o (v1:=(bif (bif (bif (bif (j_1.Kind != 4) then (j_1.Kind != 5) else false) then true else (j_1.N != 0)) then true else (!(j_1.T == []))) then true else (bif (j_1.Kind == 4) then (decide ((j_1.Keys.length:Int) > 0)) else false))) (b1:=false) (v2:=(j_1.Kind == 5)) (.int .i64 (j_1.Keys.length:Int)) rfl (fun hv hw => by (try simp only [y9 hv,y9 hw]);exact ⟨rfl,trivial,lenV _ _⟩) ?_;refine b8o (v1:=(bif (bif (bif (bif (j_1.Kind != 4) then (j_1.Kind != 5) else false) then true else (j_1.N != 0)) then true else (!(j_1.T == []))) then true else (bif (j_1.Kind == 4) then (decide ((j_1.Keys.length:Int) > 0)) else false))) (b1:=false) (v2:=(j_1.Kind == 5)) (.ptr 0 0 4) rfl (fun hv hw => by (try simp only [y9 hv,y9 hw]);exact ⟨rfl,trivial,rfl⟩) ?_
        refine b8o (v1:=(bif (bif (bif (bif (j_1.Kind != 4) then (j_1.Kind != 5) else false) then true else (j_1.N != 0)) then true else (!(j_1.T == []))) then true else (bif (j_1.Kind == 4) then (decide ((j_1.Keys.length:Int) > 0)) else false))) (b1:=false) (v2:=(j_1.Kind == 5)) (.lst 5 (j_1.Items.map l9)) rfl (fun hv hw => by (try simp only [y9 hv,y9 hw]);exact ⟨rfl,nle,rfl⟩) ?_;refine b8o (v1:=(bif (bif (bif (bif (j_1.Kind != 4) then (j_1.Kind != 5) else false) then true else (j_1.N != 0)) then true else (!(j_1.T == []))) then true else (bif (j_1.Kind == 4) then (decide ((j_1.Keys.length:Int) > 0)) else false))) (b1:=false) (v2:=(j_1.Kind == 5)) (.int .i64 (j_1.Items.length:Int)) rfl (fun hv hw => by (try simp only [y9 hv,y9 hw]);exact ⟨rfl,trivial,lenV _ _⟩) ?_
        refine b8o (v1:=(bif (bif (bif (bif (j_1.Kind != 4) then (j_1.Kind != 5) else false) then true else (j_1.N != 0)) then true else (!(j_1.T == []))) then true else (bif (j_1.Kind == 4) then (decide ((j_1.Keys.length:Int) > 0)) else false))) (b1:=false) (v2:=(j_1.Kind == 5)) (.bool ((j_1.Keys.length:Int) != (j_1.Items.length:Int))) rfl (fun hv hw => by (try simp only [y9 hv,y9 hw]);exact ⟨rfl,rfl,rfl⟩) ?_;refine d4h (v1:=(bif (bif (bif (bif (j_1.Kind != 4) then (j_1.Kind != 5) else false) then true else (j_1.N != 0)) then true else (!(j_1.T == []))) then true else (bif (j_1.Kind == 4) then (decide ((j_1.Keys.length:Int) > 0)) else false))) (b1:=false) (v2:=(j_1.Kind == 5)) (x:=((j_1.Keys.length:Int) != (j_1.Items.length:Int))) (y:=false) rfl (fun hv => by (try simp only [y9 hv]);rfl) (fun hv hw => by (try simp only [y9 hv,y9 hw]);rfl) (fun hv hw => by (try simp only [y9 hv,y9 hw]);rfl) ?_
        refine a3g (x:=true) (y:=(bif (j_1.Kind == 5) then ((j_1.Keys.length:Int) != (j_1.Items.length:Int)) else false)) rfl (fun hv => by (try simp only [y9 hv]);rfl) (fun hv => by (try simp only [y9 hv]);rfl) ?_;refine a0l ?_;obtain rfl:=os hb1;exact ⟨[],[0],_,_,rfl,rfl,⟨.refl _,⟨.refl _,⟨.refl _,trivial⟩⟩⟩,(.refl _)⟩
       ·rcases oi hf with ⟨c32,hf⟩ | ⟨c32,hf⟩
        ·refine y7 rfl c32<|sr<|l7 (.int .i64 0) rfl<|l7 (.bool false) rfl<|dk<|a0c<|?_;obtain rfl:=os hf;exact a0h ⟨trivial,⟨trivial,trivial⟩⟩ rfl (.refl _)
        ·refine y8 rfl (bf c32)<|a0k<|a0m<|sr<|l7 (.int .i64 1) rfl<|dk<|o6<|sr<|l7 (.int .i64 0) rfl<|dk<|?_
         obtain ⟨p147,hb1,hf⟩:=ob hf
         refine a3f (X:={q:Int // p147 = .go q}) (fun q => ([(7,(.int .i64 q.1))],[])) ?_ ?_
         ·refine a1o (X:={q:(Int × Nat) // a2d j_1 rec deep_2 (j_1.Items.drop q.2) q.1 q.2 = some p147}) (fun q => ([(1,(.int .i64 deep_2)),(2,(.ptr 0 0 0)),(7,(.int .i64 q.1.1)),(8,(.int .i64 (q.1.2:Int)))],[.box 5 (.agg [(.int .i64 j_1.Kind),(.int .i64 j_1.N),(.str j_1.T),(.lst 1 (j_1.Keys.map AV.str)),(.lst 5 (j_1.Items.map l9))])])) (fun q => j_1.Items.length - q.1.2) ⟨(1,0),hb1⟩ ⟨[],[0],_,_,rfl,rfl,⟨.refl _,⟨.refl _,⟨.refl _,⟨.refl _,trivial⟩⟩⟩⟩,(.refl _)⟩ ?_
          rintro ⟨⟨n_107,i_108⟩,hc1⟩
          have hc1:a2d j_1 rec deep_2 (j_1.Items.drop i_108) n_107 i_108 = some p147:=hc1
          refine (show awp Try.prog false 0 _ (ofL [(1,(.int .i64 deep_2)),(2,(.ptr 0 0 0)),(7,(.int .i64 n_107)),(8,(.int .i64 (i_108:Int)))]) [.box 5 (.agg [(.int .i64 j_1.Kind),(.int .i64 j_1.N),(.str j_1.T),(.lst 1 (j_1.Keys.map AV.str)),(.lst 5 (j_1.Items.map l9))])] _ from ?_)
          rcases a7n j_1.Items i_108 with ⟨hie150,hd153⟩ | ⟨hlt148,x_154,hx149,hd153⟩
          ·rw [hd153,a2d.eq_1] at hc1
           have hq152:=dlf hie150
           refine o6<|sr<|l7 (.int .i64 (i_108:Int)) rfl<|x9 (.ptr 0 0 4) rfl trivial rfl<|x9 (.lst 5 (j_1.Items.map l9)) rfl nle rfl<|a1d (a2q (enc:=l9) rfl) fun hl155 => x9 (.bool (decide ((i_108:Int) < (j_1.Items.length:Int)))) rfl rfl rfl<|dk<|y8 rfl hq152<|a3x<|a3w<|a2o<|a3v<|?_;obtain rfl:=os hc1;exact a3u ⟨_,rfl⟩ ⟨[],[],_,_,rfl,rfl,⟨.refl _,trivial⟩,(.refl _)⟩
          ·rw [hd153,a2d.eq_2] at hc1
           have hq152:=dlt hlt148
           refine o6<|sr<|l7 (.int .i64 (i_108:Int)) rfl<|x9 (.ptr 0 0 4) rfl trivial rfl<|x9 (.lst 5 (j_1.Items.map l9)) rfl nle rfl<|a1d (a2q (enc:=l9) rfl) fun hl156 => x9 (.bool (decide ((i_108:Int) < (j_1.Items.length:Int)))) rfl rfl rfl<|dk<|y7 rfl hq152<|a0k<|a0m<|o6<|a4a<|o6<|o6<|?_
           obtain ⟨s156_168,hb2,hc1⟩:=ob hc1
           refine a2n ([(1,(.int .i64 deep_2)),(2,(.ptr 0 0 0)),(7,(.int .i64 n_107)),(8,(.int .i64 (i_108:Int))),(156,(.bool s156_168))],[.box 5 (.agg [(.int .i64 j_1.Kind),(.int .i64 j_1.N),(.str j_1.T),(.lst 1 (j_1.Keys.map AV.str)),(.lst 5 (j_1.Items.map l9))])]) ?_ ?_
           ·refine a0x<|x9 (.ptr 0 0 0) rfl trivial rfl<|x9 (.int .i64 j_1.Kind) rfl nle rfl<|x9 (.bool (j_1.Kind == 5)) rfl rfl rfl<|l7 (.bool (j_1.Kind == 5)) rfl<|?_
            rcases oi hb2 with ⟨c170,hb2⟩ | ⟨c170,hb2⟩
            ·refine a0v (s:=130) (b:=true) rfl c170<|s_on rfl<|x9 (.ptr 0 0 3) rfl trivial rfl<|s_on rfl<|x9 (.lst 1 (j_1.Keys.map AV.str)) rfl nle rfl<|s_on rfl<|l7 (.int .i64 (i_108:Int)) rfl<|s_on rfl<|?_
             obtain ⟨x_171,ex172,hb2⟩:=ob hb2
             refine a0b (a5c (enc:=AV.str) rfl rfl (b4b ex172) (b4c ex172))<|s_on rfl<|x9 (.str x_171) rfl ⟨rfl,rfl⟩ rfl<|c7d rfl<|?_
             obtain ⟨r_173,er174,hb2⟩:=ob hb2
             refine a5x (a0s (a9s _ _ er174) rfl (.refl _) rfl) b0f trivial<|s_on rfl<|x9 (.bool (!r_173)) rfl trivial rfl<|s_on rfl<|l7 (.bool (!r_173)) rfl<|?_
             rcases oi hb2 with ⟨c175,hb2⟩ | ⟨c175,hb2⟩
             ·refine a0v (s:=138) (b:=true) rfl c175<|a0a rfl rfl<|a0a rfl rfl<|a0a rfl rfl<|a1z rfl<|a1z rfl<|a1z rfl<|a1z rfl<|a1z rfl<|a1z rfl<|a1z rfl<|a1z rfl<|a1z rfl<|a1z rfl<|a1z rfl<|a1z rfl<|a0a rfl rfl<|s_on rfl<|x9 (.bool true) rfl trivial rfl<|x9 (.bool true) rfl trivial rfl<|a0l<|?_;obtain rfl:=os hb2;exact ⟨[],[0],_,_,rfl,rfl,⟨.refl _,⟨.refl _,⟨.refl _,⟨.refl _,⟨.refl _,trivial⟩⟩⟩⟩⟩,(.refl _)⟩
             ·refine a0v (s:=138) (b:=false) rfl (bf c175)<|s_on rfl<|l7 (.int .i64 (i_108:Int)) rfl<|s_on rfl<|x9 (.bool (decide ((i_108:Int) > 0))) rfl rfl rfl<|s_on rfl<|l7 (.bool (decide ((i_108:Int) > 0))) rfl<|?_
              rcases oi hb2 with ⟨c176,hb2⟩ | ⟨c176,hb2⟩
              ·refine a0v (s:=141) (b:=true) rfl c176<|s_on rfl<|x9 (.ptr 0 0 3) rfl trivial rfl<|s_on rfl<|x9 (.lst 1 (j_1.Keys.map AV.str)) rfl nle rfl<|s_on rfl<|l7 (.int .i64 (i_108:Int)) rfl<|s_on rfl<|x9 (.int .i64 (w64 ((i_108:Int) - 1))) rfl rfl rfl<|s_on rfl<|?_
               obtain ⟨x_177,ex178,hb2⟩:=ob hb2
               refine a0b (a5c (enc:=AV.str) rfl rfl (b4b ex178) (b4c ex178))<|s_on rfl<|x9 (.str x_177) rfl ⟨rfl,rfl⟩ rfl<|s_on rfl<|x9 (.ptr 0 0 3) rfl trivial rfl<|s_on rfl<|x9 (.lst 1 (j_1.Keys.map AV.str)) rfl nle rfl<|s_on rfl<|l7 (.int .i64 (i_108:Int)) rfl<|s_on rfl<|?_
               obtain ⟨x_179,ex180,hb2⟩:=ob hb2
               refine a0b (a5c (enc:=AV.str) rfl rfl (b4b ex180) (b4c ex180))<|s_on rfl<|x9 (.str x_179) rfl ⟨rfl,rfl⟩ rfl<|s_on rfl<|x9 (.bool (!Op.bytesLess x_177 x_179)) rfl trivial rfl<|s_on rfl<|x9 (.bool (!Op.bytesLess x_177 x_179)) rfl trivial rfl<|s_on rfl<|x9 (.bool (!Op.bytesLess x_177 x_179)) rfl trivial rfl<|x9 (.bool (!Op.bytesLess x_177 x_179)) rfl trivial rfl<|a0l<|?_;obtain rfl:=os hb2;exact ⟨[],[0],_,_,rfl,rfl,⟨.refl _,⟨.refl _,⟨.refl _,⟨.refl _,⟨.refl _,trivial⟩⟩⟩⟩⟩,(.refl _)⟩
              ·refine a0v (s:=141) (b:=false) rfl (bf c176)<|a0a rfl rfl<|a0a rfl rfl<|a0a rfl rfl<|a0a rfl rfl<|a0a rfl rfl<|a0a rfl rfl<|a0a rfl rfl<|a0a rfl rfl<|a0a rfl rfl<|a0a rfl rfl<|a0a rfl rfl<|a0a rfl rfl<|s_on rfl<|x9 (.bool false) rfl trivial rfl<|s_on rfl<|x9 (.bool false) rfl trivial rfl<|x9 (.bool false) rfl trivial rfl<|a0l<|?_;obtain rfl:=os hb2;exact ⟨[],[0],_,_,rfl,rfl,⟨.refl _,⟨.refl _,⟨.refl _,⟨.refl _,⟨.refl _,trivial⟩⟩⟩⟩⟩,(.refl _)⟩
            ·refine a0v (s:=130) (b:=false) rfl (bf c170)<|a0a rfl rfl<|a0a rfl rfl<|a0a rfl rfl<|a0a rfl rfl<|a0a rfl rfl<|c2o rfl rfl trivial<|a0a rfl rfl<|a0a rfl rfl<|a1z rfl<|a1z rfl<|a1z rfl<|a1z rfl<|a1z rfl<|a1z rfl<|a1z rfl<|a1z rfl<|a1z rfl<|a1z rfl<|a1z rfl<|a1z rfl<|a1z rfl<|a1z rfl<|a1z rfl<|a1z rfl<|a0a rfl rfl<|x9 (.bool false) rfl trivial rfl<|a0l<|?_;obtain rfl:=os hb2;exact ⟨[],[0],_,_,rfl,rfl,⟨.refl _,⟨.refl _,⟨.refl _,⟨.refl _,⟨.refl _,trivial⟩⟩⟩⟩⟩,(.refl _)⟩
           ·rcases oi hc1 with ⟨c181,hc1⟩ | ⟨c181,hc1⟩
            ·refine y7 rfl c181<|sr<|l7 (.int .i64 0) rfl<|l7 (.bool false) rfl<|dk<|a0c<|?_;obtain rfl:=os hc1;obtain rfl:=os hf;exact a0h ⟨trivial,⟨trivial,trivial⟩⟩ rfl (.refl _)
            ·refine y8 rfl (bf c181)<|a0k<|a0m<|sr<|x9 (.ptr 0 0 4) rfl trivial rfl<|x9 (.lst 5 (j_1.Items.map l9)) rfl nle rfl<|l7 (.int .i64 (i_108:Int)) rfl<|a0b (a3a (enc:=l9) rfl rfl hx149)<|a0b (a4w (v:=(.agg [(.int .i64 x_154.Kind),(.int .i64 x_154.N),(.str x_154.T),(.lst 1 (x_154.Keys.map AV.str)),(.lst 5 (x_154.Items.map l9))])) rfl (o9 _) nle rfl)<|l7 (.int .i64 deep_2) rfl<|x9 (.int .i64 (w64 (deep_2 - 1))) rfl rfl rfl<|?_
             obtain ⟨r_182,er183,hc1⟩:=ob hc1
             refine a0b (a0s (hrec _ _ _ er183) rfl (.cons (.of_eq (o9 x_154).symm) (.cons (.refl _) .nil)) rfl)<|l7 (.tup [(.int .i64 r_182.1),(.bool r_182.2)]) rfl<|x9 (.int .i64 r_182.1) rfl nle rfl<|x9 (.bool r_182.2) rfl nle rfl<|l7 (.int .i64 r_182.1) rfl<|l7 (.bool r_182.2) rfl<|dk<|sr<|l7 (.int .i64 n_107) rfl<|l7 (.int .i64 r_182.1) rfl<|x9 (.int .i64 (w64 (n_107 + r_182.1))) rfl rfl rfl<|l7 (.int .i64 (w64 (n_107 + r_182.1))) rfl<|dk<|o6<|?_
             obtain ⟨s176_185,hb2,hc1⟩:=ob hc1
             refine a2n ([(1,(.int .i64 deep_2)),(2,(.ptr 0 0 0)),(7,(.int .i64 (w64 (n_107 + r_182.1)))),(8,(.int .i64 (i_108:Int))),(176,(.bool s176_185))],[.box 5 (.agg [(.int .i64 j_1.Kind),(.int .i64 j_1.N),(.str j_1.T),(.lst 1 (j_1.Keys.map AV.str)),(.lst 5 (j_1.Items.map l9))])]) ?_ ?_
             ·refine a0x ?_
              rcases oi hb2 with ⟨c187,hb2⟩ | ⟨c187,hb2⟩
              ·refine l7 (.bool r_182.2) rfl<|x9 (.bool (!r_182.2)) rfl trivial rfl<|l7 (.bool (!r_182.2)) rfl<|a0v (s:=173) (b:=true) rfl c187<|a0a rfl rfl<|a0a rfl rfl<|x9 (.bool true) rfl trivial rfl<|a0l<|?_;obtain rfl:=os hb2;exact ⟨[],[0],_,_,rfl,rfl,⟨.refl _,⟨.refl _,⟨.refl _,⟨.refl _,⟨.refl _,trivial⟩⟩⟩⟩⟩,(.refl _)⟩
              ·refine l7 (.bool r_182.2) rfl<|x9 (.bool (!r_182.2)) rfl trivial rfl<|l7 (.bool (!r_182.2)) rfl<|a0v (s:=173) (b:=false) rfl (bf c187)<|s_on rfl<|l7 (.int .i64 (w64 (n_107 + r_182.1))) rfl<|s_on rfl<|x9 (.bool (decide (w64 (n_107 + r_182.1) > 400))) rfl rfl rfl<|x9 (.bool (decide (w64 (n_107 + r_182.1) > 400))) rfl trivial rfl<|a0l<|?_;obtain rfl:=os hb2;exact ⟨[],[0],_,_,rfl,rfl,⟨.refl _,⟨.refl _,⟨.refl _,⟨.refl _,⟨.refl _,trivial⟩⟩⟩⟩⟩,(.refl _)⟩
             ·rcases oi hc1 with ⟨c188,hc1⟩ | ⟨c188,hc1⟩
              ·refine y7 rfl c188<|sr<|l7 (.int .i64 0) rfl<|l7 (.bool false) rfl<|dk<|a0c<|?_;obtain rfl:=os hc1;obtain rfl:=os hf;exact a0h ⟨trivial,⟨trivial,trivial⟩⟩ rfl (.refl _)
              ·refine y8 rfl (bf c188)<|a0k<|a2y<|a0m<|a0x<|l7 (.int .i64 (i_108:Int)) rfl<|x9 (.int .i64 (w64 ((i_108:Int) + 1))) rfl rfl rfl<|l7 (.int .i64 (w64 ((i_108:Int) + 1))) rfl<|a0l<|?_;exact a2g ⟨(w64 (n_107 + r_182.1),(i_108 + 1)),hc1⟩ (mul hlt148) ⟨[],[0],_,_,rfl,rfl,⟨.refl _,⟨.refl _,⟨.refl _,⟨.of_eq (congrArg (AV.int _) (a2z hlt148 hl156)),trivial⟩⟩⟩⟩,(.refl _)⟩
         ·rintro ⟨n_146,rfl⟩
          refine sr<|l7 (.int .i64 n_146) rfl<|l7 (.int .i64 n_146) rfl<|l7 (.bool true) rfl<|dk<|a0c<|?_;obtain rfl:=os hf;exact a0h ⟨trivial,⟨trivial,trivial⟩⟩ rfl (.refl _)
def a5a:Nat → o8 → Int → Option (Int × Bool)
 | 0,_,_ => none
 | k + 1,j_1,deep_2 => a7w (a5a k) j_1 deep_2
theorem b5d:∀ (k:Nat) (j_1:o8) (deep_2:Int) (r:(Int × Bool)),a5a k j_1 deep_2 = some r → a0d Try.prog 27 .flat [(l9 j_1),(.int .i64 deep_2)] (.tup [(.int .i64 r.1),(.bool r.2)])
 | 0,j_1,deep_2,r,h => by rw [a5a.eq_1] at h;cases h
 | k + 1,j_1,deep_2,r,h => by
  rw [a5a.eq_2] at h;exact b8r _ (b5d k) j_1 deep_2 r h

/- spec.JsonOK -/
def c15:a0p :=
 (.seq (.reg (tq 1 (.box 5 (.t 0)) (tm 2 (.c (.bool false)) .done)))
 (.seq (.reg (tq 6 (.load 5 true (.t 1)) (tq 7 (.call 27 [(.t 6),(.c (.int .i64 12))]) (tm 5 (.t 7) (tq 8 (.extract 0 (.t 5)) (tq 9 (.extract 1 (.t 5)) (tm 3 (.t 8) (tm 4 (.t 9) .done))))))))
 (.seq (.reg (tm 10 (.t 4) (tm 2 (.t 10) .done)))
 .ret)))
theorem d5f:a1f Try.prog Try.f15 = some (c15.erase,[.mov (.t 2)],11):=by kernel_rfl
def a8n (j_1:o8):Option Bool :=
    (a5a FUEL j_1 12).bind fun r_2 =>
    some r_2.2
theorem b9v (j_1:o8) (r:Bool) (hf:a8n j_1 = some r):a0d Try.prog 15 .flat [(l9 j_1)] (.bool r):=by
 refine a0d.of_awp mixed Try.func15 d5f nle ?_;rw [a0q];rw [o9 j_1];unfold a8n at hf;unfold c15;refine (show awp Try.prog false 0 _ (ofL [(0,(.agg [(.int .i64 j_1.Kind),(.int .i64 j_1.N),(.str j_1.T),(.lst 1 (j_1.Keys.map AV.str)),(.lst 5 (j_1.Items.map l9))]))]) [] _ from ?_);refine sr<|a0b (a1p (j:=0) (c:=(.agg [(.int .i64 j_1.Kind),(.int .i64 j_1.N),(.str j_1.T),(.lst 1 (j_1.Keys.map AV.str)),(.lst 5 (j_1.Items.map l9))])) rfl trivial rfl rfl)<|l7 (.bool false) rfl<|dk<|sr<|?_
 obtain ⟨r_2,er3,hf⟩:=ob hf
 refine x9 (.agg [(.int .i64 j_1.Kind),(.int .i64 j_1.N),(.str j_1.T),(.lst 1 (j_1.Keys.map AV.str)),(.lst 5 (j_1.Items.map l9))]) rfl nle rfl<|a0b (a0s (b5d FUEL _ _ _ er3) rfl (.cons (.of_eq (o9 j_1).symm) (.cons (.refl _) .nil)) rfl)<|l7 (.tup [(.int .i64 r_2.1),(.bool r_2.2)]) rfl<|x9 (.int .i64 r_2.1) rfl nle rfl<|x9 (.bool r_2.2) rfl nle rfl<|l7 (.int .i64 r_2.1) rfl<|l7 (.bool r_2.2) rfl<|dk<|sr<|l7 (.bool r_2.2) rfl<|l7 (.bool r_2.2) rfl<|dk<|a0c<|?_;obtain rfl:=os hf;exact a0h ⟨trivial,trivial⟩ rfl (.refl _)

/- spec.l13Pair -/
def c28:a0p :=
 (.seq (.reg (tq 2 (.box 5 (.t 0)) (tq 4 (.box 5 (.c (.agg [(.int .i64 0),(.int .i64 0),(.str []),.nil,.nil]))) (tm 5 (.c (.bool false)) .done))))
 (.seq (.seq (.reg (tq 6 (.faddr 0 (.t 2)) (tq 7 (.load 1 false (.t 6)) (tq 8 (.bin .neq (.t 7) (.c (.int .i64 4))) (tm 9 (.t 8) (tg 10 9 false (.faddr 4 (.t 2)) (tg 11 9 false (.load 1 false (.t 10)) (tg 12 9 false (.len (.t 11)) (tg 13 9 false (.bin .neq (.t 12) (.c (.int .i64 2))) (tq 14 (.pick (.t 9) (.c (.bool true)) (.t 13)) (tm 15 (.t 14) (tg 16 15 false (.faddr 4 (.t 2)) (tg 17 15 false (.load 1 false (.t 16)) (tg 18 15 false (.iaddr 5 (.t 17) (.c (.int .i64 0))) (tg 19 15 false (.faddr 0 (.t 18)) (tg 20 15 false (.load 1 false (.t 19)) (tg 21 15 false (.bin .neq (.t 20) (.c (.int .i64 3))) (tq 22 (.pick (.t 15) (.c (.bool true)) (.t 21)) (tm 23 (.t 22) (tg 24 23 false (.faddr 4 (.t 2)) (tg 25 23 false (.load 1 false (.t 24)) (tg 26 23 false (.iaddr 5 (.t 25) (.c (.int .i64 0))) (tg 27 23 false (.faddr 2 (.t 26)) (tg 28 23 false (.load 1 false (.t 27)) (tg 29 23 false (.mov (.t 1)) (tg 30 23 false (.bin .neq (.t 28) (.t 29)) (tq 31 (.pick (.t 23) (.c (.bool true)) (.t 30)) .done)))))))))))))))))))))))))))
 (.cut (.cond (.t 31) (.seq (.reg (tq 32 (.build [(.int .i64 0),(.int .i64 0),(.str []),.nil,.nil] []) (.q ⟨none,none,.store 5 (.t 4) (.t 32)⟩
 (tm 5 (.c (.bool false)) .done))))
 .ret)
 .skip)))
 (.seq (.reg (tq 33 (.faddr 4 (.t 2)) (tq 34 (.load 1 false (.t 33)) (tq 35 (.iaddr 5 (.t 34) (.c (.int .i64 1))) (tq 36 (.load 5 true (.t 35)) (.q ⟨none,none,.store 5 (.t 4) (.t 36)⟩
 (tm 5 (.c (.bool true)) .done)))))))
 .ret)))
theorem d5g:a1f Try.prog Try.f28 = some (c28.erase,[.load 5 true (.t 4),.mov (.t 5)],37):=by kernel_rfl
def a1s (j_1:o8) (word_2:Str):Option (o8 × Bool) :=
    ((if (bif (j_1.Kind != 4) then true else ((j_1.Items.length:Int) != 2)) then
    some true
    else
    (idx j_1.Items 0).bind fun x_14 =>
    if (x_14.Kind != 3) then
    some true
    else
    (idx j_1.Items 0).bind fun x_17 =>
    some (!(x_17.T == word_2)):Option Bool)).bind fun s31_10 =>
    if s31_10 then
    some ((⟨0,0,[],[],[]⟩:o8),false)
    else
    (idx j_1.Items 1).bind fun x_20 =>
    some (x_20,true)
theorem b1u (j_1:o8) (word_2:Str) (r:(o8 × Bool)) (hf:a1s j_1 word_2 = some r):a0d Try.prog 28 .weak [(l9 j_1),(.str word_2)] (.tup [(l9 r.1),(.bool r.2)]):=by
 refine a0d.of_awp mixed Try.func28 d5g nle ?_;rw [a0q];rw [o9 j_1];unfold a1s at hf;unfold c28;refine (show awp Try.prog false 0 _ (ofL [(0,(.agg [(.int .i64 j_1.Kind),(.int .i64 j_1.N),(.str j_1.T),(.lst 1 (j_1.Keys.map AV.str)),(.lst 5 (j_1.Items.map l9))])),(1,(.str word_2))]) [] _ from ?_);refine sr<|a0b (a1p (j:=0) (c:=(.agg [(.int .i64 j_1.Kind),(.int .i64 j_1.N),(.str j_1.T),(.lst 1 (j_1.Keys.map AV.str)),(.lst 5 (j_1.Items.map l9))])) rfl trivial rfl rfl)<|a0b (a1p (j:=1) (c:=(.agg [(.int .i64 0),(.int .i64 0),(.str []),.nil,.nil])) rfl trivial rfl rfl)<|l7 (.bool false) rfl<|dk<|o6<|o6<|?_
 obtain ⟨s31_10,hb1,hf⟩:=ob hf
 refine a2n ([(2,(.ptr 0 0 0)),(4,(.ptr 1 0 0)),(31,(.bool s31_10))],[.box 5 (.agg [(.int .i64 j_1.Kind),(.int .i64 j_1.N),(.str j_1.T),(.lst 1 (j_1.Keys.map AV.str)),(.lst 5 (j_1.Items.map l9))]),.box 5 (.agg [(.int .i64 0),(.int .i64 0),(.str []),.nil,.nil])]) ?_ ?_
 ·refine a0x<|x9 (.ptr 0 0 0) rfl trivial rfl<|x9 (.int .i64 j_1.Kind) rfl nle rfl<|x9 (.bool (j_1.Kind != 4)) rfl rfl rfl<|l7 (.bool (j_1.Kind != 4)) rfl<|?_;refine s_g (v:=(j_1.Kind != 4)) (.ptr 0 0 4) rfl (fun hv => by (try simp only [y9 hv]);exact ⟨rfl,trivial,rfl⟩) ?_;refine s_g (v:=(j_1.Kind != 4)) (.lst 5 (j_1.Items.map l9)) rfl (fun hv => by (try simp only [y9 hv]);exact ⟨rfl,nle,rfl⟩) ?_;refine s_g (v:=(j_1.Kind != 4)) (.int .i64 (j_1.Items.length:Int)) rfl (fun hv => by (try simp only [y9 hv]);exact ⟨rfl,trivial,lenV _ _⟩) ?_;refine s_g (v:=(j_1.Kind != 4)) (.bool ((j_1.Items.length:Int) != 2)) rfl (fun hv => by (try simp only [y9 hv]);exact ⟨rfl,rfl,rfl⟩) ?_
  refine a3g (x:=true) (y:=((j_1.Items.length:Int) != 2)) rfl (fun hv => by (try simp only [y9 hv]);rfl) (fun hv => by (try simp only [y9 hv]);rfl) ?_;refine l7 (.bool (bif (j_1.Kind != 4) then true else ((j_1.Items.length:Int) != 2))) rfl ?_
  rcases oi hb1 with ⟨c13,hb1⟩ | ⟨c13,hb1⟩
  ·refine a0v (s:=15) (b:=true) rfl c13<|a0a rfl rfl<|a0a rfl rfl<|a0a rfl rfl<|a0a rfl rfl<|a0a rfl rfl<|a0a rfl rfl<|x9 (.bool true) rfl trivial rfl<|l7 (.bool true) rfl<|a0a rfl rfl<|a0a rfl rfl<|a0a rfl rfl<|a0a rfl rfl<|a0a rfl rfl<|a0a rfl rfl<|a0a rfl rfl<|x9 (.bool true) rfl trivial rfl<|a0l<|?_;obtain rfl:=os hb1;exact ⟨[],[0,1],_,_,rfl,rfl,⟨.refl _,⟨.refl _,⟨.refl _,trivial⟩⟩⟩,(.refl _)⟩
  ·refine a0v (s:=15) (b:=false) rfl (bf c13)<|s_on rfl<|x9 (.ptr 0 0 4) rfl trivial rfl<|s_on rfl<|x9 (.lst 5 (j_1.Items.map l9)) rfl nle rfl<|s_on rfl<|?_
   obtain ⟨x_14,ex15,hb1⟩:=ob hb1
   refine a0b (a5c (enc:=l9) rfl rfl (b4b ex15) (b4c ex15))<|s_on rfl<|x9 (.iptr (l9 x_14) 0) rfl trivial rfl<|s_on rfl<|a0b (a4w (v:=(.int .i64 x_14.Kind)) rfl (o9 _) nle rfl)<|s_on rfl<|x9 (.bool (x_14.Kind != 3)) rfl rfl rfl<|x9 (.bool (x_14.Kind != 3)) rfl trivial rfl<|l7 (.bool (x_14.Kind != 3)) rfl<|?_
   rcases oi hb1 with ⟨c16,hb1⟩ | ⟨c16,hb1⟩
   ·refine a0v (s:=23) (b:=true) rfl c16<|a0a rfl rfl<|a0a rfl rfl<|a0a rfl rfl<|a0a rfl rfl<|a0a rfl rfl<|a0a rfl rfl<|a0a rfl rfl<|x9 (.bool true) rfl trivial rfl<|a0l<|?_;obtain rfl:=os hb1;exact ⟨[],[0,1],_,_,rfl,rfl,⟨.refl _,⟨.refl _,⟨.refl _,trivial⟩⟩⟩,(.refl _)⟩
   ·refine a0v (s:=23) (b:=false) rfl (bf c16)<|s_on rfl<|x9 (.ptr 0 0 4) rfl trivial rfl<|s_on rfl<|x9 (.lst 5 (j_1.Items.map l9)) rfl nle rfl<|s_on rfl<|?_
    obtain ⟨x_17,ex18,hb1⟩:=ob hb1
    refine a0b (a5c (enc:=l9) rfl rfl (b4b ex18) (b4c ex18))<|s_on rfl<|x9 (.iptr (l9 x_17) 2) rfl trivial rfl<|s_on rfl<|a0b (a4w (v:=(.str x_17.T)) rfl (o9 _) nle rfl)<|s_on rfl<|l7 (.str word_2) rfl<|s_on rfl<|x9 (.bool (!(x_17.T == word_2))) rfl trivial rfl<|x9 (.bool (!(x_17.T == word_2))) rfl trivial rfl<|a0l<|?_;obtain rfl:=os hb1;exact ⟨[],[0,1],_,_,rfl,rfl,⟨.refl _,⟨.refl _,⟨.refl _,trivial⟩⟩⟩,(.refl _)⟩
 ·rcases oi hf with ⟨c19,hf⟩ | ⟨c19,hf⟩
  ·refine y7 rfl c19<|sr<|x9 (.agg [(.int .i64 0),(.int .i64 0),(.str []),.nil,.nil]) rfl trivial rfl<|a2a (a0o (v:=(.agg [(.int .i64 0),(.int .i64 0),(.str []),.nil,.nil])) (y':=(.agg [(.int .i64 0),(.int .i64 0),(.str []),.nil,.nil])) rfl rfl rfl trivial ⟨rfl,nle⟩ ⟨⟨rfl,trivial⟩,⟨⟨rfl,trivial⟩,⟨⟨rfl,trivial⟩,⟨⟨rfl,trivial⟩,⟨⟨rfl,trivial⟩,trivial⟩⟩⟩⟩⟩ rfl)<|l7 (.bool false) rfl<|dk<|a0c<|?_;obtain rfl:=os hf;exact b5x ⟨nle,⟨trivial,trivial⟩⟩ rfl (.tup (.cons (leJ (x:=(⟨0,0,[],[],[]⟩:o8)) (.agg (.cons (.refl _) (.cons (.refl _) (.cons (.refl _) (.cons (.nil _) (.cons (.nil _) .nil))))))) (.cons (.refl _) .nil)))
  ·refine y8 rfl (bf c19)<|a0k<|a0m<|sr<|?_
   obtain ⟨x_20,ex21,hf⟩:=ob hf
   refine x9 (.ptr 0 0 4) rfl trivial rfl<|x9 (.lst 5 (j_1.Items.map l9)) rfl nle rfl<|a0b (a5c (enc:=l9) rfl rfl (b4b ex21) (b4c ex21))<|a0b (a4w (v:=(.agg [(.int .i64 x_20.Kind),(.int .i64 x_20.N),(.str x_20.T),(.lst 1 (x_20.Keys.map AV.str)),(.lst 5 (x_20.Items.map l9))])) rfl (o9 _) nle rfl)<|a2a (a0o (v:=(.agg [(.int .i64 x_20.Kind),(.int .i64 x_20.N),(.str x_20.T),(.lst 1 (x_20.Keys.map AV.str)),(.lst 5 (x_20.Items.map l9))])) (y':=(.agg [(.int .i64 x_20.Kind),(.int .i64 x_20.N),(.str x_20.T),(.lst 1 (x_20.Keys.map AV.str)),(.lst 5 (x_20.Items.map l9))])) rfl rfl rfl trivial ⟨rfl,nle⟩ ⟨⟨rfl,trivial⟩,⟨⟨rfl,trivial⟩,⟨⟨rfl,trivial⟩,⟨⟨rfl,trivial⟩,⟨⟨rfl,trivial⟩,trivial⟩⟩⟩⟩⟩ rfl)<|?_
   refine l7 (.bool true) rfl<|dk<|a0c<|?_;obtain rfl:=os hf;exact b5x ⟨nle,⟨trivial,trivial⟩⟩ rfl (.tup (.cons (.of_eq (o9 x_20).symm) (.cons (.refl _) .nil)))

/- spec.AtomOK -/
def c37:a0p :=
 (.seq (.reg (tq 1 (.box 3 (.t 0)) (tm 2 (.c (.bool false)) .done)))
 (.seq (.seq (.reg (tq 3 (.faddr 0 (.t 1)) (tq 4 (.load 1 false (.t 3)) .done)))
 (.block 0 (.seq (.reg (tq 6 (.bin .eql (.t 4) (.c (.int .i64 1))) (tm 5 (.t 6) .done)))
 (.cond (.t 5) (.seq (.reg (tq 7 (.faddr 1 (.t 1)) (tq 8 (.load 1 false (.t 7)) (tq 9 (.call 35 [(.t 8),(.c (.int .i64 (-1000000000))),(.c (.int .i64 1000000000))]) (tm 10 (.t 9) (tg 11 10 true (.faddr 2 (.t 1)) (tg 12 10 true (.load 1 false (.t 11)) (tg 13 10 true (.bin .eql (.t 12) (.c (.str []))) (tq 14 (.pick (.t 10) (.t 13) (.c (.bool false))) (tm 2 (.t 14) .done))))))))))
 .ret)
 (.seq (.reg (tq 16 (.bin .eql (.t 4) (.c (.int .i64 2))) (tm 15 (.t 16) .done)))
 (.cond (.t 15) (.seq (.reg (tq 17 (.faddr 1 (.t 1)) (tq 18 (.load 1 false (.t 17)) (tq 19 (.bin .eql (.t 18) (.c (.int .i64 0))) (tm 20 (.t 19) (tg 21 20 true (.faddr 2 (.t 1)) (tg 22 20 true (.load 1 false (.t 21)) (tg 23 20 true (.call 36 [(.t 22)]) (tq 24 (.pick (.t 20) (.t 23) (.c (.bool false))) (tm 2 (.t 24) .done))))))))))
 .ret)
 (.seq (.reg (tq 26 (.bin .eql (.t 4) (.c (.int .i64 3))) (tm 25 (.t 26) .done)))
 (.cond (.t 25) (.seq (.reg (tq 27 (.faddr 1 (.t 1)) (tq 28 (.load 1 false (.t 27)) (tq 29 (.call 35 [(.t 28),(.c (.int .i64 0)),(.c (.int .i64 1))]) (tm 30 (.t 29) (tg 31 30 true (.faddr 2 (.t 1)) (tg 32 30 true (.load 1 false (.t 31)) (tg 33 30 true (.bin .eql (.t 32) (.c (.str []))) (tq 34 (.pick (.t 30) (.t 33) (.c (.bool false))) (tm 2 (.t 34) .done))))))))))
 .ret)
 (.seq (.reg (tq 36 (.bin .eql (.t 4) (.c (.int .i64 4))) (tm 35 (.t 36) .done)))
 (.cond (.t 35) (.seq (.reg (tq 37 (.faddr 1 (.t 1)) (tq 38 (.load 1 false (.t 37)) (tq 39 (.call 35 [(.t 38),(.c (.int .i64 1)),(.c (.int .i64 1000000))]) (tm 40 (.t 39) (tg 41 40 true (.faddr 2 (.t 1)) (tg 42 40 true (.load 1 false (.t 41)) (tg 43 40 true (.bin .eql (.t 42) (.c (.str []))) (tq 44 (.pick (.t 40) (.t 43) (.c (.bool false))) (tm 2 (.t 44) .done))))))))))
 .ret)
 .skip))))))))))
 (.seq (.reg (tm 2 (.c (.bool false)) .done))
 .ret)))
theorem d5h:a1f Try.prog Try.f37 = some (c37.erase,[.mov (.t 2)],45):=by kernel_rfl
def a6g (a_1:y5):Option Bool :=
    if (a_1.Kind == 1) then
    (a5m a_1.N (-1000000000) 1000000000).bind fun r_3 =>
    if r_3 then
    some (a_1.T == [])
    else
    some false
    else
    if (a_1.Kind == 2) then
    if (a_1.N == 0) then
    (a4e a_1.T).bind fun r_8 =>
    some r_8
    else
    some false
    else
    if (a_1.Kind == 3) then
    (a5m a_1.N 0 1).bind fun r_11 =>
    if r_11 then
    some (a_1.T == [])
    else
    some false
    else
    if (a_1.Kind == 4) then
    (a5m a_1.N 1 1000000).bind fun r_15 =>
    if r_15 then
    some (a_1.T == [])
    else
    some false
    else
    some false
theorem b3h (a_1:y5) (r:Bool) (hf:a6g a_1 = some r):a0d Try.prog 37 .flat [(o5 a_1)] (.bool r):=by
 refine a0d.of_awp mixed Try.func37 d5h nle ?_;rw [a0q];unfold a6g at hf;unfold c37;refine (show awp Try.prog false 0 _ (ofL [(0,(o5 a_1))]) [] _ from ?_);refine sr<|a0b (a1p (j:=0) (c:=(.agg [(.int .i64 a_1.Kind),(.int .i64 a_1.N),(.str a_1.T)])) rfl trivial rfl rfl)<|l7 (.bool false) rfl<|dk<|o6<|sr<|x9 (.ptr 0 0 0) rfl trivial rfl<|x9 (.int .i64 a_1.Kind) rfl nle rfl<|dk<|a4a<|sr<|x9 (.bool (a_1.Kind == 1)) rfl rfl rfl<|l7 (.bool (a_1.Kind == 1)) rfl<|dk<|?_
 rcases oi hf with ⟨c2,hf⟩ | ⟨c2,hf⟩
 ·refine y7 rfl c2<|sr<|?_
  obtain ⟨r_3,er4,hf⟩:=ob hf
  rcases oi hf with ⟨c5,hf⟩ | ⟨c5,hf⟩
  ·refine x9 (.ptr 0 0 1) rfl trivial rfl<|x9 (.int .i64 a_1.N) rfl nle rfl<|a0b (a0s (a4y _ _ _ _ er4) rfl (.refl _) rfl)<|l7 (.bool r_3) rfl<|a0v (s:=10) (b:=true) rfl c5<|s_on rfl<|x9 (.ptr 0 0 2) rfl trivial rfl<|s_on rfl<|x9 (.str a_1.T) rfl nle rfl<|s_on rfl<|x9 (.bool (a_1.T == [])) rfl trivial rfl<|x9 (.bool (a_1.T == [])) rfl trivial rfl<|l7 (.bool (a_1.T == [])) rfl<|dk<|a0c<|?_;obtain rfl:=os hf;exact a0h ⟨trivial,trivial⟩ rfl (.refl _)
  ·refine x9 (.ptr 0 0 1) rfl trivial rfl<|x9 (.int .i64 a_1.N) rfl nle rfl<|a0b (a0s (a4y _ _ _ _ er4) rfl (.refl _) rfl)<|l7 (.bool r_3) rfl<|a0v (s:=10) (b:=false) rfl (bf c5)<|a0a rfl rfl<|a0a rfl rfl<|a0a rfl rfl<|x9 (.bool false) rfl trivial rfl<|l7 (.bool false) rfl<|dk<|a0c<|?_;obtain rfl:=os hf;exact a0h ⟨trivial,trivial⟩ rfl (.refl _)
 ·refine y8 rfl (bf c2)<|sr<|x9 (.bool (a_1.Kind == 2)) rfl rfl rfl<|l7 (.bool (a_1.Kind == 2)) rfl<|dk<|?_
  rcases oi hf with ⟨c6,hf⟩ | ⟨c6,hf⟩
  ·refine y7 rfl c6<|sr<|?_
   rcases oi hf with ⟨c7,hf⟩ | ⟨c7,hf⟩
   ·obtain ⟨r_8,er9,hf⟩:=ob hf
    refine x9 (.ptr 0 0 1) rfl trivial rfl<|x9 (.int .i64 a_1.N) rfl nle rfl<|x9 (.bool (a_1.N == 0)) rfl rfl rfl<|l7 (.bool (a_1.N == 0)) rfl<|a0v (s:=20) (b:=true) rfl c7<|s_on rfl<|x9 (.ptr 0 0 2) rfl trivial rfl<|s_on rfl<|x9 (.str a_1.T) rfl nle rfl<|s_on rfl<|a0b (a0s (a9s _ _ er9) rfl (.refl _) rfl)<|x9 (.bool r_8) rfl trivial rfl<|l7 (.bool r_8) rfl<|dk<|a0c<|?_;obtain rfl:=os hf;exact a0h ⟨trivial,trivial⟩ rfl (.refl _)
   ·refine x9 (.ptr 0 0 1) rfl trivial rfl<|x9 (.int .i64 a_1.N) rfl nle rfl<|x9 (.bool (a_1.N == 0)) rfl rfl rfl<|l7 (.bool (a_1.N == 0)) rfl<|a0v (s:=20) (b:=false) rfl (bf c7)<|a0a rfl rfl<|a0a rfl rfl<|a0a rfl rfl<|x9 (.bool false) rfl trivial rfl<|l7 (.bool false) rfl<|dk<|a0c<|?_;obtain rfl:=os hf;exact a0h ⟨trivial,trivial⟩ rfl (.refl _)
  ·refine y8 rfl (bf c6)<|sr<|x9 (.bool (a_1.Kind == 3)) rfl rfl rfl<|l7 (.bool (a_1.Kind == 3)) rfl<|dk<|?_
   rcases oi hf with ⟨c10,hf⟩ | ⟨c10,hf⟩
   ·refine y7 rfl c10<|sr<|?_
    obtain ⟨r_11,er12,hf⟩:=ob hf
    rcases oi hf with ⟨c13,hf⟩ | ⟨c13,hf⟩
    ·refine x9 (.ptr 0 0 1) rfl trivial rfl<|x9 (.int .i64 a_1.N) rfl nle rfl<|a0b (a0s (a4y _ _ _ _ er12) rfl (.refl _) rfl)<|l7 (.bool r_11) rfl<|a0v (s:=30) (b:=true) rfl c13<|s_on rfl<|x9 (.ptr 0 0 2) rfl trivial rfl<|s_on rfl<|x9 (.str a_1.T) rfl nle rfl<|s_on rfl<|x9 (.bool (a_1.T == [])) rfl trivial rfl<|x9 (.bool (a_1.T == [])) rfl trivial rfl<|l7 (.bool (a_1.T == [])) rfl<|dk<|a0c<|?_;obtain rfl:=os hf;exact a0h ⟨trivial,trivial⟩ rfl (.refl _)
    ·refine x9 (.ptr 0 0 1) rfl trivial rfl<|x9 (.int .i64 a_1.N) rfl nle rfl<|a0b (a0s (a4y _ _ _ _ er12) rfl (.refl _) rfl)<|l7 (.bool r_11) rfl<|a0v (s:=30) (b:=false) rfl (bf c13)<|a0a rfl rfl<|a0a rfl rfl<|a0a rfl rfl<|x9 (.bool false) rfl trivial rfl<|l7 (.bool false) rfl<|dk<|a0c<|?_;obtain rfl:=os hf;exact a0h ⟨trivial,trivial⟩ rfl (.refl _)
   ·refine y8 rfl (bf c10)<|sr<|x9 (.bool (a_1.Kind == 4)) rfl rfl rfl<|l7 (.bool (a_1.Kind == 4)) rfl<|dk<|?_
    rcases oi hf with ⟨c14,hf⟩ | ⟨c14,hf⟩
    ·refine y7 rfl c14<|sr<|?_
     obtain ⟨r_15,er16,hf⟩:=ob hf
     rcases oi hf with ⟨c17,hf⟩ | ⟨c17,hf⟩
     ·refine x9 (.ptr 0 0 1) rfl trivial rfl<|x9 (.int .i64 a_1.N) rfl nle rfl<|a0b (a0s (a4y _ _ _ _ er16) rfl (.refl _) rfl)<|l7 (.bool r_15) rfl<|a0v (s:=40) (b:=true) rfl c17<|s_on rfl<|x9 (.ptr 0 0 2) rfl trivial rfl<|s_on rfl<|x9 (.str a_1.T) rfl nle rfl<|s_on rfl<|x9 (.bool (a_1.T == [])) rfl trivial rfl<|x9 (.bool (a_1.T == [])) rfl trivial rfl<|l7 (.bool (a_1.T == [])) rfl<|dk<|a0c<|?_;obtain rfl:=os hf;exact a0h ⟨trivial,trivial⟩ rfl (.refl _)
     ·refine x9 (.ptr 0 0 1) rfl trivial rfl<|x9 (.int .i64 a_1.N) rfl nle rfl<|a0b (a0s (a4y _ _ _ _ er16) rfl (.refl _) rfl)<|l7 (.bool r_15) rfl<|a0v (s:=40) (b:=false) rfl (bf c17)<|a0a rfl rfl<|a0a rfl rfl<|a0a rfl rfl<|x9 (.bool false) rfl trivial rfl<|l7 (.bool false) rfl<|dk<|a0c<|?_;obtain rfl:=os hf;exact a0h ⟨trivial,trivial⟩ rfl (.refl _)
    ·refine y8 rfl (bf c14)<|a0k<|a2y<|a0m<|sr<|l7 (.bool false) rfl<|dk<|a0c<|?_;obtain rfl:=os hf;exact a0h ⟨trivial,trivial⟩ rfl (.refl _)

/- spec.l13ToAtom -/
def c29:a0p :=
 (.seq (.reg (tq 1 (.box 5 (.t 0)) (tq 2 (.box 3 (.c (.agg [(.int .i64 0),(.int .i64 0),(.str [])]))) (tm 3 (.c (.bool false)) .done))))
 (.seq (.reg (tq 7 (.build [(.int .i64 0),(.int .i64 0),(.str [])] []) (tq 4 (.box 3 (.c (.agg [(.int .i64 0),(.int .i64 0),(.str [])]))) (.q ⟨none,none,.store 3 (.t 4) (.t 7)⟩
 .done))))
 (.seq (.seq (.reg (tq 8 (.faddr 0 (.t 1)) (tq 9 (.load 1 false (.t 8)) .done)))
 (.block 0 (.seq (.reg (tq 27 (.bin .eql (.t 9) (.c (.int .i64 2))) (tm 26 (.t 27) .done)))
 (.cond (.t 26) (.reg (tq 28 (.faddr 1 (.t 1)) (tq 29 (.load 1 false (.t 28)) (tq 30 (.build [(.int .i64 0),(.int .i64 0),(.str [])] [(0,1,(.c (.int .i64 1))),(1,1,(.t 29))]) (.q ⟨none,none,.store 3 (.t 4) (.t 30)⟩
 .done)))))
 (.seq (.reg (tq 32 (.bin .eql (.t 9) (.c (.int .i64 3))) (tm 31 (.t 32) .done)))
 (.cond (.t 31) (.reg (tq 33 (.faddr 2 (.t 1)) (tq 34 (.load 1 false (.t 33)) (tq 35 (.build [(.int .i64 0),(.int .i64 0),(.str [])] [(0,1,(.c (.int .i64 2))),(2,1,(.t 34))]) (.q ⟨none,none,.store 3 (.t 4) (.t 35)⟩
 .done)))))
 (.seq (.reg (tq 37 (.bin .eql (.t 9) (.c (.int .i64 1))) (tm 36 (.t 37) .done)))
 (.cond (.t 36) (.reg (tq 38 (.faddr 1 (.t 1)) (tq 39 (.load 1 false (.t 38)) (tq 40 (.build [(.int .i64 0),(.int .i64 0),(.str [])] [(0,1,(.c (.int .i64 3))),(1,1,(.t 39))]) (.q ⟨none,none,.store 3 (.t 4) (.t 40)⟩
 .done)))))
 (.seq (.reg (tq 11 (.load 5 true (.t 1)) (tq 12 (.call 28 [(.t 11),(.c (.str [117,117,105,100]))]) (tm 10 (.t 12) (tq 13 (.extract 0 (.t 10)) (tq 14 (.extract 1 (.t 10)) (tq 5 (.box 5 (.c (.agg [(.int .i64 0),(.int .i64 0),(.str []),.nil,.nil]))) (.q ⟨none,none,.store 5 (.t 5) (.t 13)⟩
 (tm 6 (.t 14) .done)))))))))
 (.seq (.seq (.reg (tm 15 (.t 6) (tq 16 (.not (.t 15)) (tm 17 (.t 16) (tg 18 17 false (.faddr 0 (.t 5)) (tg 19 17 false (.load 1 false (.t 18)) (tg 20 17 false (.bin .neq (.t 19) (.c (.int .i64 2))) (tq 21 (.pick (.t 17) (.c (.bool true)) (.t 20)) .done))))))))
 (.cut (.cond (.t 21) (.seq (.reg (tq 22 (.build [(.int .i64 0),(.int .i64 0),(.str [])] []) (.q ⟨none,none,.store 3 (.t 2) (.t 22)⟩
 (tm 3 (.c (.bool false)) .done))))
 .ret)
 .skip)))
 (.reg (tq 23 (.faddr 1 (.t 5)) (tq 24 (.load 1 false (.t 23)) (tq 25 (.build [(.int .i64 0),(.int .i64 0),(.str [])] [(0,1,(.c (.int .i64 4))),(1,1,(.t 24))]) (.q ⟨none,none,.store 3 (.t 4) (.t 25)⟩
 .done)))))))))))))))
 (.cut (.seq (.seq (.reg (tq 41 (.load 3 true (.t 4)) (tq 42 (.call 37 [(.t 41)]) (tq 43 (.not (.t 42)) .done))))
 (.cond (.t 43) (.seq (.reg (tq 44 (.build [(.int .i64 0),(.int .i64 0),(.str [])] []) (.q ⟨none,none,.store 3 (.t 2) (.t 44)⟩
 (tm 3 (.c (.bool false)) .done))))
 .ret)
 .skip))
 (.seq (.reg (tq 45 (.load 3 true (.t 4)) (.q ⟨none,none,.store 3 (.t 2) (.t 45)⟩
 (tm 3 (.c (.bool true)) .done))))
 .ret))))))
theorem d5i:a1f Try.prog Try.f29 = some (c29.erase,[.load 3 true (.t 2),.mov (.t 3)],46):=by kernel_rfl
def a4n (j_1:o8):Option (y5 × Bool) :=
    ((if (j_1.Kind == 2) then
    some (.go (1,j_1.N,[]))
    else
    if (j_1.Kind == 3) then
    some (.go (2,0,j_1.T))
    else
    if (j_1.Kind == 1) then
    some (.go (3,j_1.N,[]))
    else
    (a1s j_1 [117,117,105,100]).bind fun r_19 =>
    ((if (!r_19.2) then
    some true
    else
    some (r_19.1.Kind != 2):Option Bool)).bind fun s21_22 =>
    if s21_22 then
    some (.ret ((⟨0,0,[]⟩:y5),false))
    else
    some (.go (4,r_19.1.N,[])):Option (Fl (y5 × Bool) (Int × Int × Str)))).bind fun q => (match q with
    | .ret r => some r
    | .go (x_12,x_13,x_14) =>
    (a6g (⟨x_12,x_13,x_14⟩:y5)).bind fun r_26 =>
    if (!r_26) then
    some ((⟨0,0,[]⟩:y5),false)
    else
    some ((⟨x_12,x_13,x_14⟩:y5),true))
theorem b0k (j_1:o8) (r:(y5 × Bool)) (hf:a4n j_1 = some r):a0d Try.prog 29 .flat [(l9 j_1)] (.tup [(o5 r.1),(.bool r.2)]):=by
 refine a0d.of_awp mixed Try.func29 d5i nle ?_;rw [a0q];rw [o9 j_1];unfold a4n at hf;unfold c29;refine (show awp Try.prog false 0 _ (ofL [(0,(.agg [(.int .i64 j_1.Kind),(.int .i64 j_1.N),(.str j_1.T),(.lst 1 (j_1.Keys.map AV.str)),(.lst 5 (j_1.Items.map l9))]))]) [] _ from ?_);refine sr<|a0b (a1p (j:=0) (c:=(.agg [(.int .i64 j_1.Kind),(.int .i64 j_1.N),(.str j_1.T),(.lst 1 (j_1.Keys.map AV.str)),(.lst 5 (j_1.Items.map l9))])) rfl trivial rfl rfl)<|a0b (a1p (j:=1) (c:=(.agg [(.int .i64 0),(.int .i64 0),(.str [])])) rfl trivial rfl rfl)<|l7 (.bool false) rfl<|dk<|sr<|x9 (.agg [(.int .i64 0),(.int .i64 0),(.str [])]) rfl trivial rfl<|?_
 refine a0b (a1p (j:=2) (c:=(.agg [(.int .i64 0),(.int .i64 0),(.str [])])) rfl trivial rfl rfl)<|a2a (a0o (v:=(.agg [(.int .i64 0),(.int .i64 0),(.str [])])) (y':=(.agg [(.int .i64 0),(.int .i64 0),(.str [])])) rfl rfl rfl trivial ⟨rfl,nle⟩ ⟨⟨rfl,trivial⟩,⟨⟨rfl,trivial⟩,⟨⟨rfl,trivial⟩,trivial⟩⟩⟩ rfl)<|dk<|o6<|?_
 obtain ⟨p15,hb1,hf⟩:=ob hf
 refine a3f (X:={q:(Int × Int × Str) // p15 = .go q}) (fun q => ([(2,(.ptr 0 0 0)),(4,(.ptr 1 0 0))],[.box 3 (.agg [(.int .i64 0),(.int .i64 0),(.str [])]),.box 3 (.agg [(.int .i64 q.1.1),(.int .i64 q.1.2.1),(.str q.1.2.2)])])) ?_ ?_
 ·refine sr<|x9 (.ptr 0 0 0) rfl trivial rfl<|x9 (.int .i64 j_1.Kind) rfl nle rfl<|dk<|a4a<|sr<|x9 (.bool (j_1.Kind == 2)) rfl rfl rfl<|l7 (.bool (j_1.Kind == 2)) rfl<|dk<|?_
  rcases oi hb1 with ⟨c16,hb1⟩ | ⟨c16,hb1⟩
  ·refine y7 rfl c16<|a0x<|x9 (.ptr 0 0 1) rfl trivial rfl<|x9 (.int .i64 j_1.N) rfl nle rfl<|x9 (.agg [(.int .i64 1),(.int .i64 j_1.N),(.str [])]) rfl ⟨⟨rfl,nle,trivial⟩,⟨⟨rfl,nle,trivial⟩,trivial⟩⟩ rfl<|a2a (a0o (v:=(.agg [(.int .i64 1),(.int .i64 j_1.N),(.str [])])) (y':=(.agg [(.int .i64 1),(.int .i64 j_1.N),(.str [])])) rfl rfl rfl trivial ⟨rfl,nle⟩ ⟨⟨rfl,trivial⟩,⟨⟨rfl,trivial⟩,⟨⟨rfl,trivial⟩,trivial⟩⟩⟩ rfl)<|a0l<|a2y<|?_;obtain rfl:=os hb1;exact a3u ⟨_,rfl⟩ ⟨[],[1,2],_,_,rfl,rfl,⟨.refl _,⟨.refl _,trivial⟩⟩,(.refl _)⟩
  ·refine y8 rfl (bf c16)<|sr<|x9 (.bool (j_1.Kind == 3)) rfl rfl rfl<|l7 (.bool (j_1.Kind == 3)) rfl<|dk<|?_
   rcases oi hb1 with ⟨c17,hb1⟩ | ⟨c17,hb1⟩
   ·refine y7 rfl c17<|a0x<|x9 (.ptr 0 0 2) rfl trivial rfl<|x9 (.str j_1.T) rfl nle rfl<|x9 (.agg [(.int .i64 2),(.int .i64 0),(.str j_1.T)]) rfl ⟨⟨rfl,nle,trivial⟩,⟨⟨rfl,nle,trivial⟩,trivial⟩⟩ rfl<|a2a (a0o (v:=(.agg [(.int .i64 2),(.int .i64 0),(.str j_1.T)])) (y':=(.agg [(.int .i64 2),(.int .i64 0),(.str j_1.T)])) rfl rfl rfl trivial ⟨rfl,nle⟩ ⟨⟨rfl,trivial⟩,⟨⟨rfl,trivial⟩,⟨⟨rfl,trivial⟩,trivial⟩⟩⟩ rfl)<|a0l<|a2y<|?_;obtain rfl:=os hb1;exact a3u ⟨_,rfl⟩ ⟨[],[1,2],_,_,rfl,rfl,⟨.refl _,⟨.refl _,trivial⟩⟩,(.refl _)⟩
   ·refine y8 rfl (bf c17)<|sr<|x9 (.bool (j_1.Kind == 1)) rfl rfl rfl<|l7 (.bool (j_1.Kind == 1)) rfl<|dk<|?_
    rcases oi hb1 with ⟨c18,hb1⟩ | ⟨c18,hb1⟩
    ·refine y7 rfl c18<|a0x<|x9 (.ptr 0 0 1) rfl trivial rfl<|x9 (.int .i64 j_1.N) rfl nle rfl<|x9 (.agg [(.int .i64 3),(.int .i64 j_1.N),(.str [])]) rfl ⟨⟨rfl,nle,trivial⟩,⟨⟨rfl,nle,trivial⟩,trivial⟩⟩ rfl<|a2a (a0o (v:=(.agg [(.int .i64 3),(.int .i64 j_1.N),(.str [])])) (y':=(.agg [(.int .i64 3),(.int .i64 j_1.N),(.str [])])) rfl rfl rfl trivial ⟨rfl,nle⟩ ⟨⟨rfl,trivial⟩,⟨⟨rfl,trivial⟩,⟨⟨rfl,trivial⟩,trivial⟩⟩⟩ rfl)<|a0l<|a2y<|?_;obtain rfl:=os hb1;exact a3u ⟨_,rfl⟩ ⟨[],[1,2],_,_,rfl,rfl,⟨.refl _,⟨.refl _,trivial⟩⟩,(.refl _)⟩
    ·refine y8 rfl (bf c18)<|sr<|?_
     obtain ⟨r_19,er20,hb1⟩:=ob hb1
     refine x9 (.agg [(.int .i64 j_1.Kind),(.int .i64 j_1.N),(.str j_1.T),(.lst 1 (j_1.Keys.map AV.str)),(.lst 5 (j_1.Items.map l9))]) rfl nle rfl<|a0b (b4x (v:=(.tup [(.agg [(.int .i64 r_19.1.Kind),(.int .i64 r_19.1.N),(.str r_19.1.T),(.lst 1 (r_19.1.Keys.map AV.str)),(.lst 5 (r_19.1.Items.map l9))]),(.bool r_19.2)])) rfl (b1u _ _ _ er20) rfl (.cons (.of_eq (o9 j_1).symm) (.cons (.refl _) .nil)) (by simp only [o9]) rfl)<|l7 (.tup [(.agg [(.int .i64 r_19.1.Kind),(.int .i64 r_19.1.N),(.str r_19.1.T),(.lst 1 (r_19.1.Keys.map AV.str)),(.lst 5 (r_19.1.Items.map l9))]),(.bool r_19.2)]) rfl<|x9 (.agg [(.int .i64 r_19.1.Kind),(.int .i64 r_19.1.N),(.str r_19.1.T),(.lst 1 (r_19.1.Keys.map AV.str)),(.lst 5 (r_19.1.Items.map l9))]) rfl nle rfl<|?_
     refine x9 (.bool r_19.2) rfl nle rfl<|a0b (a1p (j:=3) (c:=(.agg [(.int .i64 0),(.int .i64 0),(.str []),.nil,.nil])) rfl trivial rfl rfl)<|a2a (a0o (v:=(.agg [(.int .i64 r_19.1.Kind),(.int .i64 r_19.1.N),(.str r_19.1.T),(.lst 1 (r_19.1.Keys.map AV.str)),(.lst 5 (r_19.1.Items.map l9))])) (y':=(.agg [(.int .i64 r_19.1.Kind),(.int .i64 r_19.1.N),(.str r_19.1.T),(.lst 1 (r_19.1.Keys.map AV.str)),(.lst 5 (r_19.1.Items.map l9))])) rfl rfl rfl trivial ⟨rfl,nle⟩ ⟨⟨rfl,trivial⟩,⟨⟨rfl,trivial⟩,⟨⟨rfl,trivial⟩,⟨⟨rfl,trivial⟩,⟨⟨rfl,trivial⟩,trivial⟩⟩⟩⟩⟩ rfl)<|l7 (.bool r_19.2) rfl<|dk<|o6<|o6<|?_
     obtain ⟨s21_22,hb2,hb1⟩:=ob hb1
     refine a2n ([(2,(.ptr 0 0 0)),(4,(.ptr 1 0 0)),(5,(.ptr 2 0 0)),(21,(.bool s21_22))],[.box 3 (.agg [(.int .i64 0),(.int .i64 0),(.str [])]),.box 3 (.agg [(.int .i64 0),(.int .i64 0),(.str [])]),.box 5 (.agg [(.int .i64 r_19.1.Kind),(.int .i64 r_19.1.N),(.str r_19.1.T),(.lst 1 (r_19.1.Keys.map AV.str)),(.lst 5 (r_19.1.Items.map l9))])]) ?_ ?_
     ·refine a0x ?_
      rcases oi hb2 with ⟨c24,hb2⟩ | ⟨c24,hb2⟩
      ·refine l7 (.bool r_19.2) rfl<|x9 (.bool (!r_19.2)) rfl trivial rfl<|l7 (.bool (!r_19.2)) rfl<|a0v (s:=17) (b:=true) rfl c24<|a0a rfl rfl<|a0a rfl rfl<|a0a rfl rfl<|x9 (.bool true) rfl trivial rfl<|a0l<|?_;obtain rfl:=os hb2;exact ⟨[],[1,2,3],_,_,rfl,rfl,⟨.refl _,⟨.refl _,⟨.refl _,⟨.refl _,trivial⟩⟩⟩⟩,(.refl _)⟩
      ·refine l7 (.bool r_19.2) rfl<|x9 (.bool (!r_19.2)) rfl trivial rfl<|l7 (.bool (!r_19.2)) rfl<|a0v (s:=17) (b:=false) rfl (bf c24)<|s_on rfl<|x9 (.ptr 3 0 0) rfl trivial rfl<|s_on rfl<|x9 (.int .i64 r_19.1.Kind) rfl nle rfl<|s_on rfl<|x9 (.bool (r_19.1.Kind != 2)) rfl rfl rfl<|x9 (.bool (r_19.1.Kind != 2)) rfl trivial rfl<|a0l<|?_;obtain rfl:=os hb2;exact ⟨[],[1,2,3],_,_,rfl,rfl,⟨.refl _,⟨.refl _,⟨.refl _,⟨.refl _,trivial⟩⟩⟩⟩,(.refl _)⟩
     ·rcases oi hb1 with ⟨c25,hb1⟩ | ⟨c25,hb1⟩
      ·refine y7 rfl c25<|sr<|x9 (.agg [(.int .i64 0),(.int .i64 0),(.str [])]) rfl trivial rfl<|a2a (a0o (v:=(.agg [(.int .i64 0),(.int .i64 0),(.str [])])) (y':=(.agg [(.int .i64 0),(.int .i64 0),(.str [])])) rfl rfl rfl trivial ⟨rfl,nle⟩ ⟨⟨rfl,trivial⟩,⟨⟨rfl,trivial⟩,⟨⟨rfl,trivial⟩,trivial⟩⟩⟩ rfl)<|l7 (.bool false) rfl<|dk<|a0c<|?_;obtain rfl:=os hb1;obtain rfl:=os hf;exact a0h ⟨nle,⟨trivial,trivial⟩⟩ rfl (.refl _)
      ·refine y8 rfl (bf c25)<|a0k<|a0m<|a0x<|x9 (.ptr 2 0 1) rfl trivial rfl<|x9 (.int .i64 r_19.1.N) rfl nle rfl<|x9 (.agg [(.int .i64 4),(.int .i64 r_19.1.N),(.str [])]) rfl ⟨⟨rfl,nle,trivial⟩,⟨⟨rfl,nle,trivial⟩,trivial⟩⟩ rfl<|a2a (a0o (v:=(.agg [(.int .i64 4),(.int .i64 r_19.1.N),(.str [])])) (y':=(.agg [(.int .i64 4),(.int .i64 r_19.1.N),(.str [])])) rfl rfl rfl trivial ⟨rfl,nle⟩ ⟨⟨rfl,trivial⟩,⟨⟨rfl,trivial⟩,⟨⟨rfl,trivial⟩,trivial⟩⟩⟩ rfl)<|a0l<|a2y<|?_;obtain rfl:=os hb1;exact a3u ⟨_,rfl⟩ ⟨[],[0,1],_,_,rfl,rfl,⟨.refl _,⟨.refl _,trivial⟩⟩,(.refl _)⟩
 ·rintro ⟨⟨x_12,x_13,x_14⟩,rfl⟩
  refine o6<|sr<|?_
  obtain ⟨r_26,er27,hf⟩:=ob hf
  refine x9 (.agg [(.int .i64 x_12),(.int .i64 x_13),(.str x_14)]) rfl nle rfl<|a0b (a0s (b3h _ _ er27) rfl (.refl _) rfl)<|x9 (.bool (!r_26)) rfl trivial rfl<|dk<|?_
  rcases oi hf with ⟨c28,hf⟩ | ⟨c28,hf⟩
  ·refine y7 rfl c28<|sr<|x9 (.agg [(.int .i64 0),(.int .i64 0),(.str [])]) rfl trivial rfl<|a2a (a0o (v:=(.agg [(.int .i64 0),(.int .i64 0),(.str [])])) (y':=(.agg [(.int .i64 0),(.int .i64 0),(.str [])])) rfl rfl rfl trivial ⟨rfl,nle⟩ ⟨⟨rfl,trivial⟩,⟨⟨rfl,trivial⟩,⟨⟨rfl,trivial⟩,trivial⟩⟩⟩ rfl)<|l7 (.bool false) rfl<|dk<|a0c<|?_;obtain rfl:=os hf;exact a0h ⟨nle,⟨trivial,trivial⟩⟩ rfl (.refl _)
  ·refine y8 rfl (bf c28)<|a0k<|a0m<|sr<|x9 (.agg [(.int .i64 x_12),(.int .i64 x_13),(.str x_14)]) rfl nle rfl<|a2a (a0o (v:=(.agg [(.int .i64 x_12),(.int .i64 x_13),(.str x_14)])) (y':=(.agg [(.int .i64 x_12),(.int .i64 x_13),(.str x_14)])) rfl rfl rfl trivial ⟨rfl,nle⟩ ⟨⟨rfl,trivial⟩,⟨⟨rfl,trivial⟩,⟨⟨rfl,trivial⟩,trivial⟩⟩⟩ rfl)<|l7 (.bool true) rfl<|dk<|a0c<|?_;obtain rfl:=os hf;exact a0h ⟨nle,⟨trivial,trivial⟩⟩ rfl (.refl _)

/- spec.l03Has -/
def c56:a0p :=
 (.seq (.reg (tq 3 (.box 3 (.t 1)) (tm 4 (.c (.bool false)) .done)))
 (.seq (.seq (.reg (tm 5 (.c (.int .i64 0)) .done))
 (.block 0 (.loop (.seq (.seq (.reg (tm 6 (.t 5) (tm 7 (.t 0) (tq 8 (.len (.t 7)) (tq 9 (.bin .lss (.t 6) (.t 8)) .done)))))
 (.cond (.t 9) .skip
 (.exit 0)))
 (.seq (.block 1 (.seq (.reg (tm 12 (.t 0) (tm 13 (.t 5) (tq 14 (.iaddr 3 (.t 12) (.t 13)) (tq 15 (.load 3 true (.t 14)) (tq 16 (.load 3 true (.t 3)) (tq 17 (.eqs false [0,0,2] (.t 15) (.t 16)) .done)))))))
 (.cond (.t 17) (.seq (.reg (tm 4 (.c (.bool true)) .done))
 .ret)
 .skip)))
 (.reg (tm 10 (.t 5) (tq 11 (.bin .add (.t 10) (.c (.int .i64 1))) (tm 5 (.t 11) .done)))))))))
 (.cut (.seq (.reg (tm 4 (.c (.bool false)) .done))
 .ret))))
theorem d5j:a1f Try.prog Try.f56 = some (c56.erase,[.mov (.t 4)],18):=by kernel_rfl
def a3i (a_2:y5):List y5 → Option (Fl Bool Unit)
  | [] =>
    some (.go ())
  | x_28 :: xs =>
    if (x_28.Kind == a_2.Kind && (x_28.N == a_2.N && (x_28.T == a_2.T && true))) then
    some (.ret true)
    else
    a3i a_2 xs 

def a8o (d_1:(List y5)) (a_2:y5):Option Bool :=
    (a3i a_2 d_1 ).bind fun q => (match q with
    | .ret r => some r
    | .go _ =>
    some false)
theorem b9w (d_1:(List y5)) (a_2:y5) (r:Bool) (hf:a8o d_1 a_2 = some r):a0d Try.prog 56 .flat [(.lst 3 (d_1.map o5)),(o5 a_2)] (.bool r):=by
 refine a0d.of_awp mixed Try.func56 d5j nle ?_;rw [a0q];unfold a8o at hf;unfold c56;refine (show awp Try.prog false 0 _ (ofL [(0,(.lst 3 (d_1.map o5))),(1,(o5 a_2))]) [] _ from ?_);refine sr<|a0b (a1p (j:=0) (c:=(.agg [(.int .i64 a_2.Kind),(.int .i64 a_2.N),(.str a_2.T)])) rfl trivial rfl rfl)<|l7 (.bool false) rfl<|dk<|o6<|sr<|l7 (.int .i64 0) rfl<|dk<|?_
 obtain ⟨p21,hb1,hf⟩:=ob hf
 refine a3f (X:={q:Unit // p21 = .go q}) (fun q => ([],[])) ?_ ?_
 ·refine a1o (X:={q:Nat // a3i a_2 (d_1.drop q)  = some p21}) (fun q => ([(0,(.lst 3 (d_1.map o5))),(3,(.ptr 0 0 0)),(5,(.int .i64 (q.1:Int)))],[.box 3 (.agg [(.int .i64 a_2.Kind),(.int .i64 a_2.N),(.str a_2.T)])])) (fun q => d_1.length - q.1) ⟨0,hb1⟩ ⟨[],[0],_,_,rfl,rfl,⟨.refl _,⟨.refl _,⟨.refl _,trivial⟩⟩⟩,(.refl _)⟩ ?_
  rintro ⟨i_14,hc1⟩
  have hc1:a3i a_2 (d_1.drop i_14)  = some p21:=hc1
  refine (show awp Try.prog false 0 _ (ofL [(0,(.lst 3 (d_1.map o5))),(3,(.ptr 0 0 0)),(5,(.int .i64 (i_14:Int)))]) [.box 3 (.agg [(.int .i64 a_2.Kind),(.int .i64 a_2.N),(.str a_2.T)])] _ from ?_)
  rcases a7n d_1 i_14 with ⟨hie24,hd27⟩ | ⟨hlt22,x_28,hx23,hd27⟩
  ·rw [hd27,a3i.eq_1] at hc1
   have hq26:=dlf hie24
   refine o6<|sr<|l7 (.int .i64 (i_14:Int)) rfl<|l7 (.lst 3 (d_1.map o5)) rfl<|a1d (a2q (enc:=o5) rfl) fun hl29 => x9 (.bool (decide ((i_14:Int) < (d_1.length:Int)))) rfl rfl rfl<|dk<|y8 rfl hq26<|a3x<|a3w<|a2o<|a3v<|?_;obtain rfl:=os hc1;exact a3u ⟨_,rfl⟩ ⟨[],[],_,_,rfl,rfl,trivial,(.refl _)⟩
  ·rw [hd27,a3i.eq_2] at hc1
   have hq26:=dlt hlt22
   refine o6<|sr<|l7 (.int .i64 (i_14:Int)) rfl<|l7 (.lst 3 (d_1.map o5)) rfl<|a1d (a2q (enc:=o5) rfl) fun hl30 => x9 (.bool (decide ((i_14:Int) < (d_1.length:Int)))) rfl rfl rfl<|dk<|y7 rfl hq26<|a0k<|a0m<|o6<|a4a<|sr<|l7 (.lst 3 (d_1.map o5)) rfl<|l7 (.int .i64 (i_14:Int)) rfl<|a0b (a3a (enc:=o5) rfl rfl hx23)<|x9 (o5 x_28) rfl nle rfl<|x9 (.agg [(.int .i64 a_2.Kind),(.int .i64 a_2.N),(.str a_2.T)]) rfl nle rfl<|x9 (.bool (x_28.Kind == a_2.Kind && (x_28.N == a_2.N && (x_28.T == a_2.T && true)))) rfl ⟨⟨rfl,rfl⟩,⟨⟨rfl,rfl⟩,⟨rfl,trivial⟩⟩⟩ rfl<|?_
   refine dk<|?_
   rcases oi hc1 with ⟨c31,hc1⟩ | ⟨c31,hc1⟩
   ·refine y7 rfl c31<|sr<|l7 (.bool true) rfl<|dk<|a0c<|?_;obtain rfl:=os hc1;obtain rfl:=os hf;exact a0h ⟨trivial,trivial⟩ rfl (.refl _)
   ·refine y8 rfl (bf c31)<|a0k<|a2y<|a0m<|a0x<|l7 (.int .i64 (i_14:Int)) rfl<|x9 (.int .i64 (w64 ((i_14:Int) + 1))) rfl rfl rfl<|l7 (.int .i64 (w64 ((i_14:Int) + 1))) rfl<|a0l<|?_;exact a2g ⟨(i_14 + 1),hc1⟩ (mul hlt22) ⟨[],[0],_,_,rfl,rfl,⟨.refl _,⟨.refl _,⟨.of_eq (congrArg (AV.int _) (a2z hlt22 hl30)),trivial⟩⟩⟩,(.refl _)⟩
 ·rintro ⟨_,rfl⟩
  refine sr<|l7 (.bool false) rfl<|dk<|a0c<|?_;obtain rfl:=os hf;exact a0h ⟨trivial,trivial⟩ rfl (.refl _)

/- spec.l01Bit -/
def c63:a0p :=
 (.seq (.reg (tm 2 (.c (.int .i64 0)) .done))
 (.seq (.seq (.reg (tm 3 (.t 0) .done))
 (.cond (.t 3) (.seq (.reg (tm 2 (.c (.int .i64 1)) .done))
 .ret)
 .skip))
 (.seq (.reg (tm 2 (.c (.int .i64 0)) .done))
 .ret)))
theorem d5k:a1f Try.prog Try.f63 = some (c63.erase,[.mov (.t 2)],4):=by kernel_rfl
def a7o (b_1:Bool):Option Int :=
    if b_1 then
    some 1
    else
    some 0
theorem b0g (b_1:Bool) (r:Int) (hf:a7o b_1 = some r):a0d Try.prog 63 .flat [(.bool b_1)] (.int .i64 r):=by
  refine a0d.of_awp mixed Try.func63 d5k nle ?_
  rw [a0q]
  unfold a7o at hf
  unfold c63
  refine (show awp Try.prog false 0 _ (ofL [(0,(.bool b_1))]) [] _ from ?_)
  refine o6 ?_
  refine a0x ?_
  refine a0b (b3d (.int .i64 0) rfl) ?_
  refine a0l ?_
  refine a0m ?_
  refine o6 ?_
  refine o6 ?_
  refine a0x ?_
  refine a0b (b3d (.bool b_1) rfl) ?_
  refine a0l ?_
  refine a0m ?_
  rcases oi hf with ⟨c2,hf⟩ | ⟨c2,hf⟩
  · refine y7 rfl c2 ?_
    refine o6 ?_
    refine a0x ?_
    refine a0b (b3d (.int .i64 1) rfl) ?_
    refine a0l ?_
    refine a0m ?_
    refine a0c ?_
    obtain rfl:=os hf
    exact a0h ⟨trivial,trivial⟩ rfl (.refl _)
  · refine y8 rfl (bf c2) ?_
    refine a0k ?_
    refine a0m ?_
    refine o6 ?_
    refine a0x ?_
    refine a0b (b3d (.int .i64 0) rfl) ?_
    refine a0l ?_
    refine a0m ?_
    refine a0c ?_
    obtain rfl:=os hf
    exact a0h ⟨trivial,trivial⟩ rfl (.refl _)

/- spec.l03Order -/
def c57:a0p :=
 (.seq (.reg (tq 2 (.box 3 (.t 0)) (tq 3 (.box 3 (.t 1)) (tm 4 (.c (.int .i64 0)) .done))))
 (.seq (.block 0 (.seq (.reg (tq 6 (.faddr 0 (.t 2)) (tq 7 (.load 1 false (.t 6)) (tq 8 (.faddr 0 (.t 3)) (tq 9 (.load 1 false (.t 8)) (tq 10 (.bin .neq (.t 7) (.t 9)) (tm 5 (.t 10) .done)))))))
 (.cond (.t 5) (.seq (.reg (tq 11 (.faddr 0 (.t 2)) (tq 12 (.load 1 false (.t 11)) (tq 13 (.faddr 0 (.t 3)) (tq 14 (.load 1 false (.t 13)) (tq 15 (.bin .lss (.t 12) (.t 14)) (tq 16 (.call 63 [(.t 15)]) (tq 17 (.bin .mul (.c (.int .i64 2)) (.t 16)) (tq 18 (.bin .sub (.c (.int .i64 1)) (.t 17)) (tm 4 (.t 18) .done))))))))))
 .ret)
 (.seq (.reg (tq 20 (.faddr 1 (.t 2)) (tq 21 (.load 1 false (.t 20)) (tq 22 (.faddr 1 (.t 3)) (tq 23 (.load 1 false (.t 22)) (tq 24 (.bin .neq (.t 21) (.t 23)) (tm 19 (.t 24) .done)))))))
 (.cond (.t 19) (.seq (.reg (tq 25 (.faddr 1 (.t 2)) (tq 26 (.load 1 false (.t 25)) (tq 27 (.faddr 1 (.t 3)) (tq 28 (.load 1 false (.t 27)) (tq 29 (.bin .lss (.t 26) (.t 28)) (tq 30 (.call 63 [(.t 29)]) (tq 31 (.bin .mul (.c (.int .i64 2)) (.t 30)) (tq 32 (.bin .sub (.c (.int .i64 1)) (.t 31)) (tm 4 (.t 32) .done))))))))))
 .ret)
 (.seq (.reg (tq 34 (.faddr 2 (.t 2)) (tq 35 (.load 1 false (.t 34)) (tq 36 (.faddr 2 (.t 3)) (tq 37 (.load 1 false (.t 36)) (tq 38 (.bin .neq (.t 35) (.t 37)) (tm 33 (.t 38) .done)))))))
 (.cond (.t 33) (.seq (.reg (tq 39 (.faddr 2 (.t 2)) (tq 40 (.load 1 false (.t 39)) (tq 41 (.faddr 2 (.t 3)) (tq 42 (.load 1 false (.t 41)) (tq 43 (.bin .lss (.t 40) (.t 42)) (tq 44 (.call 63 [(.t 43)]) (tq 45 (.bin .mul (.c (.int .i64 2)) (.t 44)) (tq 46 (.bin .sub (.c (.int .i64 1)) (.t 45)) (tm 4 (.t 46) .done))))))))))
 .ret)
 .skip)))))))
 (.seq (.reg (tm 4 (.c (.int .i64 0)) .done))
 .ret)))
theorem d5l:a1f Try.prog Try.f57 = some (c57.erase,[.mov (.t 4)],47):=by kernel_rfl
def a7a (a_1:y5) (b_2:y5):Option Int :=
    if (a_1.Kind != b_2.Kind) then
    (a7o (decide (a_1.Kind < b_2.Kind))).bind fun r_4 =>
    some (w64 (1 - (w64 (2 * r_4))))
    else
    if (a_1.N != b_2.N) then
    (a7o (decide (a_1.N < b_2.N))).bind fun r_7 =>
    some (w64 (1 - (w64 (2 * r_7))))
    else
    if (!(a_1.T == b_2.T)) then
    (a7o (Op.bytesLess a_1.T b_2.T)).bind fun r_10 =>
    some (w64 (1 - (w64 (2 * r_10))))
    else
    some 0
theorem b7b (a_1:y5) (b_2:y5) (r:Int) (hf:a7a a_1 b_2 = some r):a0d Try.prog 57 .flat [(o5 a_1),(o5 b_2)] (.int .i64 r):=by
 refine a0d.of_awp mixed Try.func57 d5l nle ?_;rw [a0q];unfold a7a at hf;unfold c57;refine (show awp Try.prog false 0 _ (ofL [(0,(o5 a_1)),(1,(o5 b_2))]) [] _ from ?_);refine sr<|a0b (a1p (j:=0) (c:=(.agg [(.int .i64 a_1.Kind),(.int .i64 a_1.N),(.str a_1.T)])) rfl trivial rfl rfl)<|a0b (a1p (j:=1) (c:=(.agg [(.int .i64 b_2.Kind),(.int .i64 b_2.N),(.str b_2.T)])) rfl trivial rfl rfl)<|l7 (.int .i64 0) rfl<|dk<|o6<|a4a<|sr<|x9 (.ptr 0 0 0) rfl trivial rfl<|x9 (.int .i64 a_1.Kind) rfl nle rfl<|x9 (.ptr 1 0 0) rfl trivial rfl<|x9 (.int .i64 b_2.Kind) rfl nle rfl<|x9 (.bool (a_1.Kind != b_2.Kind)) rfl rfl rfl<|?_
 refine l7 (.bool (a_1.Kind != b_2.Kind)) rfl<|dk<|?_
 rcases oi hf with ⟨c3,hf⟩ | ⟨c3,hf⟩
 ·refine y7 rfl c3<|sr<|?_
  obtain ⟨r_4,er5,hf⟩:=ob hf
  refine x9 (.ptr 0 0 0) rfl trivial rfl<|x9 (.int .i64 a_1.Kind) rfl nle rfl<|x9 (.ptr 1 0 0) rfl trivial rfl<|x9 (.int .i64 b_2.Kind) rfl nle rfl<|x9 (.bool (decide (a_1.Kind < b_2.Kind))) rfl rfl rfl<|a0b (a0s (b0g _ _ er5) rfl (.refl _) rfl)<|x9 (.int .i64 (w64 (2 * r_4))) rfl rfl rfl<|x9 (.int .i64 (w64 (1 - (w64 (2 * r_4))))) rfl rfl rfl<|l7 (.int .i64 (w64 (1 - (w64 (2 * r_4))))) rfl<|dk<|a0c<|?_;obtain rfl:=os hf;exact a0h ⟨trivial,trivial⟩ rfl (.refl _)
 ·refine y8 rfl (bf c3)<|sr<|x9 (.ptr 0 0 1) rfl trivial rfl<|x9 (.int .i64 a_1.N) rfl nle rfl<|x9 (.ptr 1 0 1) rfl trivial rfl<|x9 (.int .i64 b_2.N) rfl nle rfl<|x9 (.bool (a_1.N != b_2.N)) rfl rfl rfl<|l7 (.bool (a_1.N != b_2.N)) rfl<|dk<|?_
  rcases oi hf with ⟨c6,hf⟩ | ⟨c6,hf⟩
  ·refine y7 rfl c6<|sr<|?_
   obtain ⟨r_7,er8,hf⟩:=ob hf
   refine x9 (.ptr 0 0 1) rfl trivial rfl<|x9 (.int .i64 a_1.N) rfl nle rfl<|x9 (.ptr 1 0 1) rfl trivial rfl<|x9 (.int .i64 b_2.N) rfl nle rfl<|x9 (.bool (decide (a_1.N < b_2.N))) rfl rfl rfl<|a0b (a0s (b0g _ _ er8) rfl (.refl _) rfl)<|x9 (.int .i64 (w64 (2 * r_7))) rfl rfl rfl<|x9 (.int .i64 (w64 (1 - (w64 (2 * r_7))))) rfl rfl rfl<|l7 (.int .i64 (w64 (1 - (w64 (2 * r_7))))) rfl<|dk<|a0c<|?_;obtain rfl:=os hf;exact a0h ⟨trivial,trivial⟩ rfl (.refl _)
  ·refine y8 rfl (bf c6)<|sr<|x9 (.ptr 0 0 2) rfl trivial rfl<|x9 (.str a_1.T) rfl nle rfl<|x9 (.ptr 1 0 2) rfl trivial rfl<|x9 (.str b_2.T) rfl nle rfl<|x9 (.bool (!(a_1.T == b_2.T))) rfl trivial rfl<|l7 (.bool (!(a_1.T == b_2.T))) rfl<|dk<|?_
   rcases oi hf with ⟨c9,hf⟩ | ⟨c9,hf⟩
   ·refine y7 rfl c9<|sr<|?_
    obtain ⟨r_10,er11,hf⟩:=ob hf
    refine x9 (.ptr 0 0 2) rfl trivial rfl<|x9 (.str a_1.T) rfl nle rfl<|x9 (.ptr 1 0 2) rfl trivial rfl<|x9 (.str b_2.T) rfl nle rfl<|x9 (.bool (Op.bytesLess a_1.T b_2.T)) rfl trivial rfl<|a0b (a0s (b0g _ _ er11) rfl (.refl _) rfl)<|x9 (.int .i64 (w64 (2 * r_10))) rfl rfl rfl<|x9 (.int .i64 (w64 (1 - (w64 (2 * r_10))))) rfl rfl rfl<|l7 (.int .i64 (w64 (1 - (w64 (2 * r_10))))) rfl<|dk<|a0c<|?_;obtain rfl:=os hf;exact a0h ⟨trivial,trivial⟩ rfl (.refl _)
   ·refine y8 rfl (bf c9)<|a0k<|a2y<|a0m<|sr<|l7 (.int .i64 0) rfl<|dk<|a0c<|?_;obtain rfl:=os hf;exact a0h ⟨trivial,trivial⟩ rfl (.refl _)

/- spec.l03Put -/
def c9v:a0p :=
 (.seq (.reg (tq 3 (.box 3 (.t 1)) (tm 4 (.c .nil) .done)))
 (.seq (.seq (.reg (tm 6 (.t 0) (tq 7 (.load 3 true (.t 3)) (tq 8 (.call 56 [(.t 6),(.t 7)]) .done))))
 (.cond (.t 8) (.seq (.reg (tm 9 (.t 0) (tm 4 (.t 9) .done)))
 .ret)
 .skip))
 (.seq (.reg (tm 10 (.t 0) (tq 11 (.len (.t 10)) (tm 5 (.t 11) .done))))
 (.seq (.block 0 (.loop (.seq (.seq (.reg (tm 12 (.t 5) (tq 13 (.bin .gtr (.t 12) (.c (.int .i64 0))) (tm 14 (.t 13) (tg 15 14 true (.mov (.t 0)) (tg 16 14 true (.mov (.t 5)) (tg 17 14 true (.bin .sub (.t 16) (.c (.int .i64 1))) (tg 18 14 true (.iaddr 3 (.t 15) (.t 17)) (tg 19 14 true (.load 3 true (.t 18)) (tg 20 14 true (.load 3 true (.t 3)) (.l ⟨(some 21),(some (14,true)),.call 57 [(.t 19),(.t 20)]⟩ []
 (tg 22 14 true (.bin .gtr (.t 21) (.c (.int .i64 0))) (tq 23 (.pick (.t 14) (.t 22) (.c (.bool false))) .done)) .non)))))))))))
 (.cut (.cond (.t 23) .skip
 (.exit 0))))
 (.block 1 (.reg (tm 24 (.t 5) (tq 25 (.bin .sub (.t 24) (.c (.int .i64 1))) (tm 5 (.t 25) .done))))))))
 (.cut (.seq (.reg (tm 27 (.t 0) (tm 28 (.t 5) (tq 29 (.slice 3 (.t 27) none (some (.t 28))) (tq 31 (.load 3 true (.t 3)) (tm 34 (.t 0) (tm 35 (.t 5) (tq 36 (.slice 3 (.t 34) (some (.t 35)) none) (.l ⟨(some 26),none,.bslice 3 []⟩ [⟨(some 36),none,.slice 3 (.t 34) (some (.t 35)) none⟩,⟨(some 31),none,.load 3 true (.t 3)⟩,⟨(some 29),none,.slice 3 (.t 27) none (some (.t 28))⟩]
 (.l ⟨(some 30),none,.append 3 32 (.t 26) (.t 29)⟩ [⟨(some 36),none,.slice 3 (.t 34) (some (.t 35)) none⟩,⟨(some 31),none,.load 3 true (.t 3)⟩]
 (.l ⟨(some 32),none,.bslice 3 [(.t 31)]⟩ [⟨(some 36),none,.slice 3 (.t 34) (some (.t 35)) none⟩,⟨(some 29),none,.slice 3 (.t 27) none (some (.t 28))⟩]
 (.l ⟨(some 33),none,.append 3 32 (.t 30) (.t 32)⟩ [⟨(some 36),none,.slice 3 (.t 34) (some (.t 35)) none⟩]
 (.l ⟨(some 37),none,.append 3 32 (.t 33) (.t 36)⟩ []
 (tm 4 (.t 37) .done) .non) .non) .non) (.l ⟨(some 32),none,.bslice 3 [(.t 31)]⟩ [⟨(some 36),none,.slice 3 (.t 34) (some (.t 35)) none⟩,⟨(some 29),none,.slice 3 (.t 27) none (some (.t 28))⟩]
 (.l ⟨(some 30),none,.append 3 32 (.t 26) (.t 29)⟩ [⟨(some 36),none,.slice 3 (.t 34) (some (.t 35)) none⟩,⟨(some 31),none,.load 3 true (.t 3)⟩]
 (.l ⟨(some 33),none,.append 3 32 (.t 30) (.t 32)⟩ [⟨(some 36),none,.slice 3 (.t 34) (some (.t 35)) none⟩]
 (.l ⟨(some 37),none,.append 3 32 (.t 33) (.t 36)⟩ []
 (tm 4 (.t 37) .done) .non) .non) .non) .non)) (.l ⟨(some 32),none,.bslice 3 [(.t 31)]⟩ [⟨(some 36),none,.slice 3 (.t 34) (some (.t 35)) none⟩,⟨(some 29),none,.slice 3 (.t 27) none (some (.t 28))⟩]
 (.l ⟨(some 26),none,.bslice 3 []⟩ [⟨(some 36),none,.slice 3 (.t 34) (some (.t 35)) none⟩,⟨(some 31),none,.load 3 true (.t 3)⟩,⟨(some 29),none,.slice 3 (.t 27) none (some (.t 28))⟩]
 (.l ⟨(some 30),none,.append 3 32 (.t 26) (.t 29)⟩ [⟨(some 36),none,.slice 3 (.t 34) (some (.t 35)) none⟩,⟨(some 31),none,.load 3 true (.t 3)⟩]
 (.l ⟨(some 33),none,.append 3 32 (.t 30) (.t 32)⟩ [⟨(some 36),none,.slice 3 (.t 34) (some (.t 35)) none⟩]
 (.l ⟨(some 37),none,.append 3 32 (.t 33) (.t 36)⟩ []
 (tm 4 (.t 37) .done) .non) .non) .non) .non) .non))))))))))
 .ret))))))
theorem d1k:a1f Try.prog Try.f45 = some (c9v.erase,[.mov (.t 4)],38):=by kernel_rfl
def a1t (d_1:(List y5)) (a_2:y5):Nat → Int → Option Int
  | 0,_ => none
  | k + 1,k_38 =>
    ((if (decide (k_38 > 0)) then
    if (0:Int) ≤ w64 (k_38 - 1) ∧ w64 (k_38 - 1) < (d_1.length:Int) then
    (d_1[(0 + (w64 (k_38 - 1)).toNat)]?).bind fun x_66 =>
    (a7a x_66 a_2).bind fun r_68 =>
    some (decide (r_68 > 0))
    else none
    else
    some false:Option Bool)).bind fun s23_62 =>
    if s23_62 then
    a1t d_1 a_2 k (w64 (k_38 - 1))
    else
    some k_38

def a6h (d_1:(List y5)) (a_2:y5):Option (List y5) :=
    (a8o d_1 a_2).bind fun r_3 =>
    if r_3 then
    some d_1
    else
    (a1t d_1 a_2 FUEL (d_1.length:Int)).bind fun k_54 =>
    if (0:Int) ≤ k_54 ∧ k_54 ≤ (d_1.length:Int) then
    if (0:Int) ≤ k_54 ∧ k_54 ≤ (d_1.length:Int) then
    if ([] ++ (d_1.take k_54.toNat)).length ≤ 2 ^ 30 then
    if (([] ++ (d_1.take k_54.toNat)) ++ [a_2]).length ≤ 2 ^ 30 then
    if ((([] ++ (d_1.take k_54.toNat)) ++ [a_2]) ++ ((d_1.drop k_54.toNat).take (d_1.length - k_54.toNat))).length ≤ 2 ^ 30 then
    some ((([] ++ (d_1.take k_54.toNat)) ++ [a_2]) ++ ((d_1.drop k_54.toNat).take (d_1.length - k_54.toNat)))
    else none
    else none
    else none
    else none
    else none
theorem b6d (d_1:(List y5)) (a_2:y5) (r:(List y5)) (hf:a6h d_1 a_2 = some r):a0r Try.prog true 45 [(.own 0 0 d_1.length),(o5 a_2)] [.row 3 (d_1.map o5)] (.own 1 0 r.length) [.dead,.row 3 (r.map o5)]:=by
 refine a0r.of_awp mixed Try.func45 d1k nle ?_;rw [a0q];unfold a6h at hf;unfold c9v;refine (show awp Try.prog true 1 _ (ofL [(0,(.own 0 0 d_1.length)),(1,(o5 a_2))]) [.row 3 (d_1.map o5)] _ from ?_);refine sr<|a0b (a1p (j:=1) (c:=(.agg [(.int .i64 a_2.Kind),(.int .i64 a_2.N),(.str a_2.T)])) rfl trivial rfl rfl)<|l7 .nil rfl<|dk<|o6<|sr<|?_
 obtain ⟨r_3,er4,hf⟩:=ob hf
 refine l7 (.own 0 0 d_1.length) rfl<|x9 (.agg [(.int .i64 a_2.Kind),(.int .i64 a_2.N),(.str a_2.T)]) rfl nle rfl<|a0b (a0s (b9w _ _ _ er4) rfl (.cons (.of_eq (congrArg (AV.lst _) (tko d_1))) (.cons (.refl _) .nil)) rfl)<|dk<|?_
 rcases oi hf with ⟨c5,hf⟩ | ⟨c5,hf⟩
 ·refine y7 rfl c5<|sr<|l7 (.own 0 0 d_1.length) rfl<|l7 (.own 0 0 d_1.length) rfl<|dk<|a0c<|?_;obtain rfl:=os hf;exact a6d [.mv 0] [0,2] rfl ⟨trivial,trivial⟩ rfl (.refl _) (.refl _)
 ·refine y8 rfl (bf c5)<|a0k<|a0m<|sr<|l7 (.own 0 0 d_1.length) rfl<|a1d (a6y rfl rfl) fun hl6 => l7 (.int .i64 (d_1.length:Int)) rfl<|dk<|o6<|?_
  obtain ⟨k_54,hb1,hf⟩:=ob hf
  refine a2n ([(0,(.own 0 0 d_1.length)),(3,(.ptr 1 0 0)),(5,(.int .i64 k_54))],[.row 3 (d_1.map o5),.box 3 (.agg [(.int .i64 a_2.Kind),(.int .i64 a_2.N),(.str a_2.T)])]) ?_ ?_
  ·refine a1o (X:={q:(Nat × Int) // a1t d_1 a_2 q.1 q.2 = some k_54}) (fun q => ([(0,(.own 0 0 d_1.length)),(3,(.ptr 1 0 0)),(5,(.int .i64 q.1.2))],[.row 3 (d_1.map o5),.box 3 (.agg [(.int .i64 a_2.Kind),(.int .i64 a_2.N),(.str a_2.T)])])) (fun q => q.1.1) ⟨(FUEL,(d_1.length:Int)),hb1⟩ ⟨[],[0,1],_,_,rfl,rfl,⟨.refl _,⟨.refl _,⟨.refl _,trivial⟩⟩⟩,(.refl _)⟩ ?_
   rintro ⟨⟨k,k_38⟩,hc1⟩
   have hc1:a1t d_1 a_2 k k_38 = some k_54:=hc1
   refine (show awp Try.prog true 1 _ (ofL [(0,(.own 0 0 d_1.length)),(3,(.ptr 1 0 0)),(5,(.int .i64 k_38))]) [.row 3 (d_1.map o5),.box 3 (.agg [(.int .i64 a_2.Kind),(.int .i64 a_2.N),(.str a_2.T)])] _ from ?_)
   rcases k with _ | k
   ·rw [a1t.eq_1] at hc1
    cases hc1
   ·rw [a1t.eq_2] at hc1;refine o6<|o6<|?_
    obtain ⟨s23_62,hb2,hc1⟩:=ob hc1
    refine a2n ([(0,(.own 0 0 d_1.length)),(3,(.ptr 1 0 0)),(5,(.int .i64 k_38)),(23,(.bool s23_62))],[.row 3 (d_1.map o5),.box 3 (.agg [(.int .i64 a_2.Kind),(.int .i64 a_2.N),(.str a_2.T)])]) ?_ ?_
    ·refine a0x ?_
     rcases oi hb2 with ⟨c64,hb2⟩ | ⟨c64,hb2⟩
     ·obtain ⟨g65,hb2⟩:=og hb2
      obtain ⟨x_66,ex67,hb2⟩:=ob hb2
      obtain ⟨r_68,er69,hb2⟩:=ob hb2
      refine l7 (.int .i64 k_38) rfl<|x9 (.bool (decide (k_38 > 0))) rfl rfl rfl<|l7 (.bool (decide (k_38 > 0))) rfl<|a0v (s:=14) (b:=true) rfl c64<|s_on rfl<|l7 (.own 0 0 d_1.length) rfl<|s_on rfl<|l7 (.int .i64 k_38) rfl<|s_on rfl<|x9 (.int .i64 (w64 (k_38 - 1))) rfl rfl rfl<|s_on rfl<|a0b (a2k rfl rfl g65.1 g65.2 rfl rfl)<|s_on rfl<|a0b (a9j (enc:=o5) (v:=(o5 x_66)) rfl rfl ex67 nle rfl)<|s_on rfl<|x9 (.agg [(.int .i64 a_2.Kind),(.int .i64 a_2.N),(.str a_2.T)]) rfl nle rfl<|c7d rfl<|a5x (a0s (b7b _ _ _ er69) rfl (.refl _) rfl) b0f trivial<|s_on rfl<|x9 (.bool (decide (r_68 > 0))) rfl rfl rfl<|?_
      refine x9 (.bool (decide (r_68 > 0))) rfl trivial rfl<|a0l<|?_;obtain rfl:=os hb2;exact ⟨[],[0,1],_,_,rfl,rfl,⟨.refl _,⟨.refl _,⟨.refl _,⟨.refl _,trivial⟩⟩⟩⟩,(.refl _)⟩
     ·refine l7 (.int .i64 k_38) rfl<|x9 (.bool (decide (k_38 > 0))) rfl rfl rfl<|l7 (.bool (decide (k_38 > 0))) rfl<|a0v (s:=14) (b:=false) rfl (bf c64)<|a0a rfl rfl<|a0a rfl rfl<|a0a rfl rfl<|a0a rfl rfl<|a0a rfl rfl<|a0a rfl rfl<|c2o rfl rfl trivial<|a0a rfl rfl<|x9 (.bool false) rfl trivial rfl<|a0l<|?_;obtain rfl:=os hb2;exact ⟨[],[0,1],_,_,rfl,rfl,⟨.refl _,⟨.refl _,⟨.refl _,⟨.refl _,trivial⟩⟩⟩⟩,(.refl _)⟩
    ·rcases oi hc1 with ⟨c70,hc1⟩ | ⟨c70,hc1⟩
     ·refine y7 rfl c70<|a0k<|a0m<|a4a<|a0x<|l7 (.int .i64 k_38) rfl<|x9 (.int .i64 (w64 (k_38 - 1))) rfl rfl rfl<|l7 (.int .i64 (w64 (k_38 - 1))) rfl<|a0l<|a2y<|?_;exact a2g ⟨(k,w64 (k_38 - 1)),hc1⟩ (Nat.lt_succ_self _) ⟨[],[0,1],_,_,rfl,rfl,⟨.refl _,⟨.refl _,⟨.refl _,trivial⟩⟩⟩,(.refl _)⟩
     ·refine y8 rfl (bf c70)<|a3x<|a3w<|a2o<|a3v<|?_;obtain rfl:=os hc1;exact ⟨[],[0,1],_,_,rfl,rfl,⟨.refl _,⟨.refl _,⟨.refl _,trivial⟩⟩⟩,(.refl _)⟩
  ·refine sr<|?_
   obtain ⟨g71,hf⟩:=og hf
   obtain ⟨g72,hf⟩:=og hf
   obtain ⟨g73,hf⟩:=og hf
   obtain ⟨g74,hf⟩:=og hf
   obtain ⟨g75,hf⟩:=og hf
   refine l7 (.own 0 0 d_1.length) rfl<|l7 (.int .i64 k_54) rfl<|a0b (c6l rfl rfl rfl g71.1 g71.2)<|x9 (.agg [(.int .i64 a_2.Kind),(.int .i64 a_2.N),(.str a_2.T)]) rfl nle rfl<|l7 (.own 0 0 d_1.length) rfl<|l7 (.int .i64 k_54) rfl<|a0b (c2p rfl rfl rfl g72.1 g72.2)<|?_;refine a5x (a2i (j:=2) (as':=[]) rfl (fun _ => by decide) trivial (.refl _) rfl rfl rfl) (.inr ⟨(a7u rfl rfl rfl g72.1 g72.2),⟨⟨nle,rfl⟩,⟨(b4w rfl rfl rfl g71.1 g71.2),trivial⟩⟩⟩) ?_ ?_
   ·refine a5x (a2i (j:=2) (as':=[(o5 a_2)]) rfl (fun _ => by decide) ⟨rfl,trivial⟩ (.refl _) rfl rfl rfl) (.inr ⟨(a7u rfl rfl rfl g72.1 g72.2),⟨(b4w rfl rfl rfl g71.1 g71.2),trivial⟩⟩) trivial ?_;refine a5x (a2i (j:=3) (as':=[]) rfl (fun _ => by decide) trivial (.refl _) rfl rfl rfl) (.inr ⟨(a7u rfl rfl rfl g72.1 g72.2),⟨⟨nle,rfl⟩,⟨(b4w rfl rfl rfl g71.1 g71.2),trivial⟩⟩⟩) trivial ?_
    refine a5x (a4t (j:=4) (L:=(([] ++ (d_1.take k_54.toNat)).map o5)) (len:=([] ++ (d_1.take k_54.toNat)).length) rfl false rfl rfl (fun _ => flw (enc:=o5) (fun _ => rfl) d_1 _ _) (fun _ _ h => (b9t (show AV.own _ _ _ = AV.lst _ _ from h)).elim) (by decide) ((by simp)) (by simp <;> omega) g73 rfl rfl) (.inr ⟨(a7u rfl rfl rfl g72.1 g72.2),⟨⟨nle,rfl⟩,trivial⟩⟩) trivial ?_
    refine a5x (a4t (j:=5) (L:=((([] ++ (d_1.take k_54.toNat)) ++ [a_2]).map o5)) (len:=(([] ++ (d_1.take k_54.toNat)) ++ [a_2]).length) rfl false rfl rfl (fun _ => flo (enc:=o5) (fun _ => rfl) [a_2] _) (fun _ _ h => (b9t (show AV.own _ _ _ = AV.lst _ _ from h)).elim) (by decide) (c9q (enc:=o5) ([] ++ (d_1.take k_54.toNat)) [a_2] _ (by rfl)) (by simp <;> omega) g74 rfl rfl) (.inr ⟨(a7u rfl rfl rfl g72.1 g72.2),trivial⟩) trivial ?_
    refine a5x (a4t (j:=6) (L:=(((([] ++ (d_1.take k_54.toNat)) ++ [a_2]) ++ ((d_1.drop k_54.toNat).take (d_1.length - k_54.toNat))).map o5)) (len:=((([] ++ (d_1.take k_54.toNat)) ++ [a_2]) ++ ((d_1.drop k_54.toNat).take (d_1.length - k_54.toNat))).length) rfl false rfl rfl (fun _ => flw (enc:=o5) (fun _ => rfl) d_1 _ _) (fun _ _ h => (b9t (show AV.own _ _ _ = AV.lst _ _ from h)).elim) (by decide) ((apg (enc:=o5) (([] ++ (d_1.take k_54.toNat)) ++ [a_2]) ((d_1.drop k_54.toNat).take (d_1.length - k_54.toNat)) (tkw _ _ _))) (by simp <;> omega) g75 rfl rfl) trivial trivial ?_
    refine l7 (.own 6 0 (((([] ++ (d_1.take k_54.toNat)) ++ [a_2]) ++ ((d_1.drop k_54.toNat).take (d_1.length - k_54.toNat))).length)) rfl<|dk<|a0c<|?_;obtain rfl:=os hf;exact a6d [.kill 0] [0,6] rfl ⟨trivial,trivial⟩ rfl (.refl _) (.refl _)
   ·refine a5x (a4t (j:=3) (L:=(([] ++ (d_1.take k_54.toNat)).map o5)) (len:=([] ++ (d_1.take k_54.toNat)).length) rfl false rfl rfl (fun _ => flw (enc:=o5) (fun _ => rfl) d_1 _ _) (fun _ _ h => (b9t (show AV.own _ _ _ = AV.lst _ _ from h)).elim) (by decide) ((by simp)) (by simp <;> omega) g73 rfl rfl) (.inr ⟨(a7u rfl rfl rfl g72.1 g72.2),⟨⟨nle,rfl⟩,trivial⟩⟩) ?_ ?_
    ·refine a5x (a2i (j:=3) (as':=[(o5 a_2)]) rfl (fun _ => by decide) ⟨rfl,trivial⟩ (.refl _) rfl rfl rfl) (.inr ⟨(a7u rfl rfl rfl g72.1 g72.2),⟨(b4w rfl rfl rfl g71.1 g71.2),trivial⟩⟩) trivial ?_
     refine a5x (a4t (j:=4) (L:=(([] ++ (d_1.take k_54.toNat)).map o5)) (len:=([] ++ (d_1.take k_54.toNat)).length) rfl false rfl rfl (fun _ => flw (enc:=o5) (fun _ => rfl) d_1 _ _) (fun _ _ h => (b9t (show AV.own _ _ _ = AV.lst _ _ from h)).elim) (by decide) ((by simp)) (by simp <;> omega) g73 rfl rfl) (.inr ⟨(a7u rfl rfl rfl g72.1 g72.2),⟨⟨nle,rfl⟩,trivial⟩⟩) trivial ?_
     refine a5x (a4t (j:=5) (L:=((([] ++ (d_1.take k_54.toNat)) ++ [a_2]).map o5)) (len:=(([] ++ (d_1.take k_54.toNat)) ++ [a_2]).length) rfl false rfl rfl (fun _ => flo (enc:=o5) (fun _ => rfl) [a_2] _) (fun _ _ h => (b9t (show AV.own _ _ _ = AV.lst _ _ from h)).elim) (by decide) (c9q (enc:=o5) ([] ++ (d_1.take k_54.toNat)) [a_2] _ (by rfl)) (by simp <;> omega) g74 rfl rfl) (.inr ⟨(a7u rfl rfl rfl g72.1 g72.2),trivial⟩) trivial ?_
     refine a5x (a4t (j:=6) (L:=(((([] ++ (d_1.take k_54.toNat)) ++ [a_2]) ++ ((d_1.drop k_54.toNat).take (d_1.length - k_54.toNat))).map o5)) (len:=((([] ++ (d_1.take k_54.toNat)) ++ [a_2]) ++ ((d_1.drop k_54.toNat).take (d_1.length - k_54.toNat))).length) rfl false rfl rfl (fun _ => flw (enc:=o5) (fun _ => rfl) d_1 _ _) (fun _ _ h => (b9t (show AV.own _ _ _ = AV.lst _ _ from h)).elim) (by decide) ((apg (enc:=o5) (([] ++ (d_1.take k_54.toNat)) ++ [a_2]) ((d_1.drop k_54.toNat).take (d_1.length - k_54.toNat)) (tkw _ _ _))) (by simp <;> omega) g75 rfl rfl) trivial trivial ?_
     refine l7 (.own 6 0 (((([] ++ (d_1.take k_54.toNat)) ++ [a_2]) ++ ((d_1.drop k_54.toNat).take (d_1.length - k_54.toNat))).length)) rfl<|dk<|a0c<|?_;obtain rfl:=os hf;exact a6d [.kill 0] [0,6] rfl ⟨trivial,trivial⟩ rfl (.refl _) (.refl _)
    ·refine a5x (a2i (j:=4) (as':=[(o5 a_2)]) rfl (fun _ => by decide) ⟨rfl,trivial⟩ (.refl _) rfl rfl rfl) (.inr ⟨(a7u rfl rfl rfl g72.1 g72.2),⟨(b4w rfl rfl rfl g71.1 g71.2),trivial⟩⟩) trivial ?_
     refine a5x (a4t (j:=5) (L:=((([] ++ (d_1.take k_54.toNat)) ++ [a_2]).map o5)) (len:=(([] ++ (d_1.take k_54.toNat)) ++ [a_2]).length) rfl false rfl rfl (fun _ => flo (enc:=o5) (fun _ => rfl) [a_2] _) (fun _ _ h => (b9t (show AV.own _ _ _ = AV.lst _ _ from h)).elim) (by decide) (c9q (enc:=o5) ([] ++ (d_1.take k_54.toNat)) [a_2] _ (by rfl)) (by simp <;> omega) g74 rfl rfl) (.inr ⟨(a7u rfl rfl rfl g72.1 g72.2),trivial⟩) trivial ?_
     refine a5x (a4t (j:=6) (L:=(((([] ++ (d_1.take k_54.toNat)) ++ [a_2]) ++ ((d_1.drop k_54.toNat).take (d_1.length - k_54.toNat))).map o5)) (len:=((([] ++ (d_1.take k_54.toNat)) ++ [a_2]) ++ ((d_1.drop k_54.toNat).take (d_1.length - k_54.toNat))).length) rfl false rfl rfl (fun _ => flw (enc:=o5) (fun _ => rfl) d_1 _ _) (fun _ _ h => (b9t (show AV.own _ _ _ = AV.lst _ _ from h)).elim) (by decide) ((apg (enc:=o5) (([] ++ (d_1.take k_54.toNat)) ++ [a_2]) ((d_1.drop k_54.toNat).take (d_1.length - k_54.toNat)) (tkw _ _ _))) (by simp <;> omega) g75 rfl rfl) trivial trivial ?_
     refine l7 (.own 6 0 (((([] ++ (d_1.take k_54.toNat)) ++ [a_2]) ++ ((d_1.drop k_54.toNat).take (d_1.length - k_54.toNat))).length)) rfl<|dk<|a0c<|?_;obtain rfl:=os hf;exact a6d [.kill 0] [0,6] rfl ⟨trivial,trivial⟩ rfl (.refl _) (.refl _)

/- spec.l03Join -/
def c38:a0p :=
 (.seq (.reg (tm 4 (.c .nil) .done))
 (.seq (.reg (tq 7 (.bslice 3 []) (tm 8 (.t 0) (tq 9 (.append 3 32 (.t 7) (.t 8)) (tm 5 (.t 9) .done)))))
 (.seq (.seq (.reg (tm 6 (.c (.int .i64 0)) .done))
 (.block 0 (.loop (.seq (.seq (.reg (tm 10 (.t 6) (tm 11 (.t 1) (tq 12 (.len (.t 11)) (tq 13 (.bin .lss (.t 10) (.t 12)) .done)))))
 (.cond (.t 13) .skip
 (.exit 0)))
 (.seq (.block 1 (.reg (tm 16 (.t 5) (tm 17 (.t 1) (tm 18 (.t 6) (tq 19 (.iaddr 3 (.t 17) (.t 18)) (tq 20 (.load 3 true (.t 19)) (tq 21 (.call 45 [(.t 16),(.t 20)]) (tm 5 (.t 21) .done)))))))))
 (.reg (tm 14 (.t 6) (tq 15 (.bin .add (.t 14) (.c (.int .i64 1))) (tm 6 (.t 15) .done)))))))))
 (.cut (.seq (.reg (tm 22 (.t 5) (tm 4 (.t 22) .done)))
 .ret)))))
theorem d5m:a1f Try.prog Try.f38 = some (c38.erase,[.mov (.t 4)],23):=by kernel_rfl
def a2u :List y5 → (List y5) → Option (List y5)
  | [],out_19 =>
    some out_19
  | x_35 :: xs,out_19 =>
    (a6h out_19 x_35).bind fun r_38 =>
    a2u xs  r_38

def a9e (a_1:(List y5)) (b_2:(List y5)):Option (List y5) :=
    if ([] ++ a_1).length ≤ 2 ^ 30 then
    (a2u b_2 ([] ++ a_1)).bind fun out_27 =>
    some out_27
    else none
theorem b8s (a_1:(List y5)) (b_2:(List y5)) (r:(List y5)) (hf:a9e a_1 b_2 = some r):a0d Try.prog 38 .fresh [(.lst 3 (a_1.map o5)),(.lst 3 (b_2.map o5))] (.lst 3 (r.map o5)):=by
 refine a0d.of_awp mixed Try.func38 d5m nle ?_;rw [a0q];unfold a9e at hf;unfold c38;refine (show awp Try.prog true 0 _ (ofL [(0,(.lst 3 (a_1.map o5))),(1,(.lst 3 (b_2.map o5)))]) [] _ from ?_);refine sr<|l7 .nil rfl<|dk<|sr<|?_
 obtain ⟨g3,hf⟩:=og hf
 refine a0b (a2i (j:=0) (as':=[]) rfl (fun _ => by decide) trivial (.refl _) rfl rfl rfl) ?_;refine l7 (.lst 3 (a_1.map o5)) rfl ?_
 refine a0b (a4t (j:=1) (L:=(([] ++ a_1).map o5)) (len:=([] ++ a_1).length) rfl false rfl rfl (fun _ => flm (fun _ => rfl) _) (fun _ _ _ => flm (fun _ => rfl) _) (by decide) ((by simp)) (by simp <;> omega) g3 rfl rfl) ?_
 refine l7 (.own 1 0 (([] ++ a_1).length)) rfl<|dk<|o6<|sr<|l7 (.int .i64 0) rfl<|dk<|?_
 obtain ⟨out_27,hb1,hf⟩:=ob hf
 refine a2n ([(5,(.own 0 0 out_27.length))],[.row 3 (out_27.map o5)]) ?_ ?_
 ·refine a1o (X:={q:(Nat × (List y5)) // a2u (b_2.drop q.1) q.2 = some out_27}) (fun q => ([(1,(.lst 3 (b_2.map o5))),(5,(.own 0 0 q.1.2.length)),(6,(.int .i64 (q.1.1:Int)))],[.row 3 (q.1.2.map o5)])) (fun q => b_2.length - q.1.1) ⟨(0,[] ++ a_1),hb1⟩ ⟨[],[1],_,_,rfl,rfl,⟨.refl _,⟨.refl _,⟨.refl _,trivial⟩⟩⟩,(.refl _)⟩ ?_
  rintro ⟨⟨i_18,out_19⟩,hc1⟩
  have hc1:a2u (b_2.drop i_18) out_19 = some out_27:=hc1
  refine (show awp Try.prog true 0 _ (ofL [(1,(.lst 3 (b_2.map o5))),(5,(.own 0 0 out_19.length)),(6,(.int .i64 (i_18:Int)))]) [.row 3 (out_19.map o5)] _ from ?_)
  rcases a7n b_2 i_18 with ⟨hie31,hd34⟩ | ⟨hlt29,x_35,hx30,hd34⟩
  ·rw [hd34,a2u.eq_1] at hc1
   have hq33:=dlf hie31
   refine o6<|sr<|l7 (.int .i64 (i_18:Int)) rfl<|l7 (.lst 3 (b_2.map o5)) rfl<|a1d (a2q (enc:=o5) rfl) fun hl36 => x9 (.bool (decide ((i_18:Int) < (b_2.length:Int)))) rfl rfl rfl<|dk<|y8 rfl hq33<|a3x<|a3w<|a2o<|a3v<|?_;obtain rfl:=os hc1;exact ⟨[],[0],_,_,rfl,rfl,⟨.refl _,trivial⟩,(.refl _)⟩
  ·rw [hd34,a2u.eq_2] at hc1
   have hq33:=dlt hlt29
   refine o6<|sr<|l7 (.int .i64 (i_18:Int)) rfl<|l7 (.lst 3 (b_2.map o5)) rfl<|a1d (a2q (enc:=o5) rfl) fun hl37 => x9 (.bool (decide ((i_18:Int) < (b_2.length:Int)))) rfl rfl rfl<|dk<|y7 rfl hq33<|a0k<|a0m<|o6<|a4a<|a0x<|?_
   obtain ⟨r_38,er39,hc1⟩:=ob hc1
   refine l7 (.own 0 0 out_19.length) rfl<|l7 (.lst 3 (b_2.map o5)) rfl<|l7 (.int .i64 (i_18:Int)) rfl<|a0b (a3a (enc:=o5) rfl rfl hx30)<|x9 (o5 x_35) rfl nle rfl<|?_;refine a0b (b2r (v:=(.own 1 0 r_38.length)) (h2:=[.dead,.row 3 (r_38.map o5)]) [] [0] (fun _ => rfl) (b6d _ _ _ er39) rfl (.refl _) (.refl _) rfl rfl) ?_;refine l7 (.own 1 0 r_38.length) rfl<|a0l<|a2y<|a0m<|a0x<|l7 (.int .i64 (i_18:Int)) rfl<|x9 (.int .i64 (w64 ((i_18:Int) + 1))) rfl rfl rfl<|l7 (.int .i64 (w64 ((i_18:Int) + 1))) rfl<|a0l<|?_;exact a2g ⟨((i_18 + 1),r_38),hc1⟩ (mul hlt29) ⟨[],[1],_,_,rfl,rfl,⟨.refl _,⟨.refl _,⟨.of_eq (congrArg (AV.int _) (a2z hlt29 hl37)),trivial⟩⟩⟩,(.refl _)⟩
 ·refine sr<|l7 (.own 0 0 out_27.length) rfl<|l7 (.own 0 0 out_27.length) rfl<|dk<|a0c<|?_;obtain rfl:=os hf;exact a2p ⟨trivial,trivial⟩ rfl (by decide) (.of_eq (congrArg (AV.lst _) (tk (enc:=o5) out_27)))

/- spec.DatumOf -/
def c30:a0p :=
 (.seq (.reg (tm 2 (.c .nil) (tm 3 (.c (.int .i64 0)) .done)))
 (.seq (.seq (.reg (tm 6 (.t 0) (tq 7 (.len (.t 6)) (tq 8 (.bin .gtr (.t 7) (.c (.int .i64 4096))) .done))))
 (.cond (.t 8) (.seq (.reg (tq 9 (.bslice 3 []) (tm 2 (.t 9) (tm 3 (.c (.int .i64 2)) .done))))
 .ret)
 .skip))
 (.seq (.seq (.reg (tm 4 (.c (.int .i64 0)) .done))
 (.block 0 (.loop (.seq (.seq (.reg (tm 10 (.t 4) (tm 11 (.t 0) (tq 12 (.len (.t 11)) (tq 13 (.bin .lss (.t 10) (.t 12)) .done)))))
 (.cond (.t 13) .skip
 (.exit 0)))
 (.seq (.block 1 (.seq (.seq (.reg (tm 16 (.t 0) (tm 17 (.t 4) (tq 18 (.iaddr 3 (.t 16) (.t 17)) (tq 19 (.load 3 true (.t 18)) (tq 20 (.call 37 [(.t 19)]) (tq 21 (.not (.t 20)) .done)))))))
 (.cond (.t 21) (.seq (.reg (tq 22 (.bslice 3 []) (tm 2 (.t 22) (tm 3 (.c (.int .i64 1)) .done))))
 .ret)
 .skip))
 (.seq (.reg (tm 23 (.t 0) (tm 24 (.t 4) (tq 25 (.iaddr 3 (.t 23) (.t 24)) (tq 26 (.faddr 0 (.t 25)) (tq 27 (.load 1 false (.t 26)) (tm 28 (.t 0) (tq 29 (.iaddr 3 (.t 28) (.c (.int .i64 0))) (tq 30 (.faddr 0 (.t 29)) (tq 31 (.load 1 false (.t 30)) (tq 32 (.bin .neq (.t 27) (.t 31)) .done)))))))))))
 (.cond (.t 32) (.seq (.reg (tq 33 (.bslice 3 []) (tm 2 (.t 33) (tm 3 (.c (.int .i64 9)) .done))))
 .ret)
 .skip))))
 (.reg (tm 14 (.t 4) (tq 15 (.bin .add (.t 14) (.c (.int .i64 1))) (tm 4 (.t 15) .done)))))))))
 (.cut (.seq (.reg (tq 34 (.bslice 3 []) (tm 35 (.t 0) (tq 36 (.call 38 [(.t 34),(.t 35)]) (tm 5 (.t 36) .done)))))
 (.seq (.seq (.reg (tm 37 (.t 5) (tq 38 (.len (.t 37)) (tq 39 (.bin .gtr (.t 38) (.c (.int .i64 8))) .done))))
 (.cond (.t 39) (.seq (.reg (tq 40 (.bslice 3 []) (tm 2 (.t 40) (tm 3 (.c (.int .i64 6)) .done))))
 .ret)
 .skip))
 (.seq (.reg (tm 41 (.t 5) (tm 2 (.t 41) (tm 3 (.c (.int .i64 0)) .done))))
 .ret)))))))
theorem d5n:a1f Try.prog Try.f30 = some (c30.erase,[.mov (.t 2),.mov (.t 3)],42):=by kernel_rfl
def a2e (list_1:(List y5)):List y5 → Option (Fl ((List y5) × Int) Unit)
  | [] =>
    some (.go ())
  | x_50 :: xs =>
    (a6g x_50).bind fun r_53 =>
    if (!r_53) then
    some (.ret ([],1))
    else
    (idx list_1 0).bind fun x_56 =>
    if (x_50.Kind != x_56.Kind) then
    some (.ret ([],9))
    else
    a2e list_1 xs 

def a7x (list_1:(List y5)):Option ((List y5) × Int) :=
    if (decide ((list_1.length:Int) > 4096)) then
    some ([],2)
    else
    (a2e list_1 list_1 ).bind fun q => (match q with
    | .ret r => some r
    | .go _ =>
    (a9e [] list_1).bind fun r_59 =>
    if (decide ((r_59.length:Int) > 8)) then
    some ([],6)
    else
    some (r_59,0))
theorem b8t (list_1:(List y5)) (r:((List y5) × Int)) (hf:a7x list_1 = some r):a0d Try.prog 30 .fresh [(.lst 3 (list_1.map o5))] (.tup [(.lst 3 (r.1.map o5)),(.int .i64 r.2)]):=by
 refine a0d.of_awp mixed Try.func30 d5n nle ?_;rw [a0q];unfold a7x at hf;unfold c30;refine (show awp Try.prog true 0 _ (ofL [(0,(.lst 3 (list_1.map o5)))]) [] _ from ?_);refine sr<|l7 .nil rfl<|l7 (.int .i64 0) rfl<|dk<|o6<|sr<|l7 (.lst 3 (list_1.map o5)) rfl<|a1d (a2q (enc:=o5) rfl) fun hl2 => x9 (.bool (decide ((list_1.length:Int) > 4096))) rfl rfl rfl<|dk<|?_
 rcases oi hf with ⟨c3,hf⟩ | ⟨c3,hf⟩
 ·refine y7 rfl c3<|sr<|?_;refine a0b (a2i (j:=0) (as':=[]) rfl (fun _ => by decide) trivial (.refl _) rfl rfl rfl) ?_;refine l7 (.own 0 0 0) rfl<|l7 (.int .i64 2) rfl<|dk<|a0c<|?_;obtain rfl:=os hf;exact a2p ⟨trivial,⟨trivial,trivial⟩⟩ rfl (by decide) (.refl _)
 ·refine y8 rfl (bf c3)<|a0k<|a0m<|o6<|sr<|l7 (.int .i64 0) rfl<|dk<|?_
  obtain ⟨p43,hb1,hf⟩:=ob hf
  refine a3f (X:={q:Unit // p43 = .go q}) (fun q => ([(0,(.lst 3 (list_1.map o5)))],[])) ?_ ?_
  ·refine a1o (X:={q:Nat // a2e list_1 (list_1.drop q)  = some p43}) (fun q => ([(0,(.lst 3 (list_1.map o5))),(4,(.int .i64 (q.1:Int)))],[])) (fun q => list_1.length - q.1) ⟨0,hb1⟩ ⟨[],[],_,_,rfl,rfl,⟨.refl _,⟨.refl _,trivial⟩⟩,(.refl _)⟩ ?_
   rintro ⟨i_29,hc1⟩
   have hc1:a2e list_1 (list_1.drop i_29)  = some p43:=hc1
   refine (show awp Try.prog true 0 _ (ofL [(0,(.lst 3 (list_1.map o5))),(4,(.int .i64 (i_29:Int)))]) [] _ from ?_)
   rcases a7n list_1 i_29 with ⟨hie46,hd49⟩ | ⟨hlt44,x_50,hx45,hd49⟩
   ·rw [hd49,a2e.eq_1] at hc1
    have hq48:=dlf hie46
    refine o6<|sr<|l7 (.int .i64 (i_29:Int)) rfl<|l7 (.lst 3 (list_1.map o5)) rfl<|a1d (a2q (enc:=o5) rfl) fun hl51 => x9 (.bool (decide ((i_29:Int) < (list_1.length:Int)))) rfl rfl rfl<|dk<|y8 rfl hq48<|a3x<|a3w<|a2o<|a3v<|?_;obtain rfl:=os hc1;exact a3u ⟨_,rfl⟩ ⟨[],[],_,_,rfl,rfl,⟨.refl _,trivial⟩,(.refl _)⟩
   ·rw [hd49,a2e.eq_2] at hc1
    have hq48:=dlt hlt44
    refine o6<|sr<|l7 (.int .i64 (i_29:Int)) rfl<|l7 (.lst 3 (list_1.map o5)) rfl<|a1d (a2q (enc:=o5) rfl) fun hl52 => x9 (.bool (decide ((i_29:Int) < (list_1.length:Int)))) rfl rfl rfl<|dk<|y7 rfl hq48<|a0k<|a0m<|o6<|a4a<|o6<|sr<|?_
    obtain ⟨r_53,er54,hc1⟩:=ob hc1
    refine l7 (.lst 3 (list_1.map o5)) rfl<|l7 (.int .i64 (i_29:Int)) rfl<|a0b (a3a (enc:=o5) rfl rfl hx45)<|x9 (o5 x_50) rfl nle rfl<|a0b (a0s (b3h _ _ er54) rfl (.refl _) rfl)<|x9 (.bool (!r_53)) rfl trivial rfl<|dk<|?_
    rcases oi hc1 with ⟨c55,hc1⟩ | ⟨c55,hc1⟩
    ·refine y7 rfl c55<|sr<|?_;refine a0b (a2i (j:=0) (as':=[]) rfl (fun _ => by decide) trivial (.refl _) rfl rfl rfl) ?_;refine l7 (.own 0 0 0) rfl<|l7 (.int .i64 1) rfl<|dk<|a0c<|?_;obtain rfl:=os hc1;obtain rfl:=os hf;exact a2p ⟨trivial,⟨trivial,trivial⟩⟩ rfl (by decide) (.refl _)
    ·refine y8 rfl (bf c55)<|a0k<|a0m<|sr<|?_
     obtain ⟨x_56,ex57,hc1⟩:=ob hc1
     refine l7 (.lst 3 (list_1.map o5)) rfl<|l7 (.int .i64 (i_29:Int)) rfl<|a0b (a3a (enc:=o5) rfl rfl hx45)<|x9 (.iptr (o5 x_50) 0) rfl trivial rfl<|x9 (.int .i64 x_50.Kind) rfl nle rfl<|l7 (.lst 3 (list_1.map o5)) rfl<|a0b (a5c (enc:=o5) rfl rfl (b4b ex57) (b4c ex57))<|x9 (.iptr (o5 x_56) 0) rfl trivial rfl<|x9 (.int .i64 x_56.Kind) rfl nle rfl<|x9 (.bool (x_50.Kind != x_56.Kind)) rfl rfl rfl<|dk<|?_
     rcases oi hc1 with ⟨c58,hc1⟩ | ⟨c58,hc1⟩
     ·refine y7 rfl c58<|sr<|?_;refine a0b (a2i (j:=0) (as':=[]) rfl (fun _ => by decide) trivial (.refl _) rfl rfl rfl) ?_;refine l7 (.own 0 0 0) rfl<|l7 (.int .i64 9) rfl<|dk<|a0c<|?_;obtain rfl:=os hc1;obtain rfl:=os hf;exact a2p ⟨trivial,⟨trivial,trivial⟩⟩ rfl (by decide) (.refl _)
     ·refine y8 rfl (bf c58)<|a0k<|a2y<|a0m<|a0x<|l7 (.int .i64 (i_29:Int)) rfl<|x9 (.int .i64 (w64 ((i_29:Int) + 1))) rfl rfl rfl<|l7 (.int .i64 (w64 ((i_29:Int) + 1))) rfl<|a0l<|?_;exact a2g ⟨(i_29 + 1),hc1⟩ (mul hlt44) ⟨[],[],_,_,rfl,rfl,⟨.refl _,⟨.of_eq (congrArg (AV.int _) (a2z hlt44 hl52)),trivial⟩⟩,(.refl _)⟩
  ·rintro ⟨_,rfl⟩
   refine sr<|?_
   obtain ⟨r_59,er60,hf⟩:=ob hf
   refine a0b (a2i (j:=0) (as':=[]) rfl (fun _ => by decide) trivial (.refl _) rfl rfl rfl) ?_;refine l7 (.lst 3 (list_1.map o5)) rfl<|a0b (a4x (v:=(.own 1 0 r_59.length)) (h':=[.row 3 (r_59.map o5)]) (b8s _ _ _ er60) rfl (.cons (.of_eq (congrArg (AV.lst _) (by rfl))) (.cons (.refl _) .nil)) (by simp only [a1n,a1y,List.length_map,List.nil_append,List.append_nil,List.cons_append];rfl))<|l7 (.own 1 0 r_59.length) rfl<|dk<|o6<|sr<|l7 (.own 1 0 r_59.length) rfl<|a1d (a6y rfl rfl) fun hl61 => x9 (.bool (decide ((r_59.length:Int) > 8))) rfl rfl rfl<|dk<|?_
   rcases oi hf with ⟨c62,hf⟩ | ⟨c62,hf⟩
   ·refine y7 rfl c62<|sr<|?_;refine a0b (a2i (j:=2) (as':=[]) rfl (fun _ => by decide) trivial (.refl _) rfl rfl rfl) ?_;refine l7 (.own 2 0 0) rfl<|l7 (.int .i64 6) rfl<|dk<|a0c<|?_;obtain rfl:=os hf;exact a2p ⟨trivial,⟨trivial,trivial⟩⟩ rfl (by decide) (.refl _)
   ·refine y8 rfl (bf c62)<|a0k<|a0m<|sr<|l7 (.own 1 0 r_59.length) rfl<|l7 (.own 1 0 r_59.length) rfl<|l7 (.int .i64 0) rfl<|dk<|a0c<|?_;obtain rfl:=os hf;exact a2p ⟨trivial,⟨trivial,trivial⟩⟩ rfl (by decide) (.tup (.cons (.of_eq (congrArg (AV.lst _) (tk (enc:=o5) r_59))) (.cons (.refl _) .nil)))

/- spec.l13ToDatum -/
def c16:a0p :=
 (.seq (.reg (tq 1 (.box 5 (.t 0)) (tm 2 (.c .nil) (tm 3 (.c (.bool false)) .done))))
 (.seq (.reg (tq 15 (.load 5 true (.t 1)) (tq 16 (.call 28 [(.t 15),(.c (.str [115,101,116]))]) (tm 14 (.t 16) (tq 17 (.extract 0 (.t 14)) (tq 18 (.extract 1 (.t 14)) (tq 4 (.box 5 (.c (.agg [(.int .i64 0),(.int .i64 0),(.str []),.nil,.nil]))) (.q ⟨none,none,.store 5 (.t 4) (.t 17)⟩
 (tm 5 (.t 18) .done)))))))))
 (.seq (.seq (.reg (tm 19 (.t 5) (tq 20 (.not (.t 19)) .done)))
 (.cond (.t 20) (.seq (.reg (tq 22 (.load 5 true (.t 1)) (tq 23 (.call 29 [(.t 22)]) (tm 21 (.t 23) (tq 24 (.extract 0 (.t 21)) (tq 25 (.extract 1 (.t 21)) (tq 6 (.box 3 (.c (.agg [(.int .i64 0),(.int .i64 0),(.str [])]))) (.q ⟨none,none,.store 3 (.t 6) (.t 24)⟩
 (tm 7 (.t 25) .done)))))))))
 (.seq (.reg (tq 26 (.load 3 true (.t 6)) (tq 27 (.bslice 3 [(.t 26)]) (tm 28 (.t 7) (tm 2 (.t 27) (tm 3 (.t 28) .done))))))
 .ret))
 .skip))
 (.seq (.reg (tq 29 (.bslice 3 []) (tm 8 (.t 29) .done)))
 (.seq (.seq (.reg (tm 9 (.c (.int .i64 0)) .done))
 (.block 0 (.loop (.seq (.seq (.reg (tm 30 (.t 9) (tq 31 (.faddr 4 (.t 4)) (tq 32 (.load 1 false (.t 31)) (tq 33 (.len (.t 32)) (tq 34 (.bin .lss (.t 30) (.t 33)) .done))))))
 (.cond (.t 34) .skip
 (.exit 0)))
 (.seq (.block 1 (.seq (.reg (tq 38 (.faddr 4 (.t 4)) (tq 39 (.load 1 false (.t 38)) (tm 40 (.t 9) (tq 41 (.iaddr 5 (.t 39) (.t 40)) (tq 42 (.load 5 true (.t 41)) (tq 43 (.call 29 [(.t 42)]) (tm 37 (.t 43) (tq 44 (.extract 0 (.t 37)) (tq 45 (.extract 1 (.t 37)) (tq 10 (.box 3 (.c (.agg [(.int .i64 0),(.int .i64 0),(.str [])]))) (.q ⟨none,none,.store 3 (.t 10) (.t 44)⟩
 (tm 11 (.t 45) .done)))))))))))))
 (.seq (.seq (.reg (tm 46 (.t 11) (tq 47 (.not (.t 46)) .done)))
 (.cond (.t 47) (.seq (.reg (tq 48 (.bslice 3 []) (tm 2 (.t 48) (tm 3 (.c (.bool false)) .done))))
 .ret)
 .skip))
 (.reg (tm 49 (.t 8) (tq 50 (.load 3 true (.t 10)) (tq 51 (.bslice 3 [(.t 50)]) (tq 52 (.append 3 32 (.t 49) (.t 51)) (tm 8 (.t 52) .done)))))))))
 (.reg (tm 35 (.t 9) (tq 36 (.bin .add (.t 35) (.c (.int .i64 1))) (tm 9 (.t 36) .done)))))))))
 (.cut (.seq (.reg (tm 54 (.t 8) (tq 55 (.call 30 [(.t 54)]) (tm 53 (.t 55) (tq 56 (.extract 0 (.t 53)) (tq 57 (.extract 1 (.t 53)) (tm 12 (.t 56) (tm 13 (.t 57) .done))))))))
 (.seq (.reg (tm 58 (.t 12) (tq 59 (.faddr 0 (.t 4)) (tq 60 (.load 1 false (.t 59)) (tq 61 (.bin .eql (.t 60) (.c (.int .i64 4))) (tm 62 (.t 61) (tg 63 62 true (.mov (.t 13)) (tg 64 62 true (.bin .eql (.t 63) (.c (.int .i64 0))) (tq 65 (.pick (.t 62) (.t 64) (.c (.bool false))) (tm 2 (.t 58) (tm 3 (.t 65) .done)))))))))))
 .ret))))))))
theorem d5o:a1f Try.prog Try.f16 = some (c16.erase,[.mov (.t 2),.mov (.t 3)],66):=by kernel_rfl
def a1j :List o8 → (List y5) → Option (Fl ((List y5) × Bool) (List y5))
  | [],list_26 =>
    some (.go list_26)
  | x_44 :: xs,list_26 =>
    (a4n x_44).bind fun r_47 =>
    if (!r_47.2) then
    some (.ret ([],false))
    else
    if (list_26 ++ [r_47.1]).length ≤ 2 ^ 30 then
    a1j xs  (list_26 ++ [r_47.1])
    else none

def a5r (j_1:o8):Option ((List y5) × Bool) :=
    (a1s j_1 [115,101,116]).bind fun r_2 =>
    if (!r_2.2) then
    (a4n j_1).bind fun r_5 =>
    some ([r_5.1],r_5.2)
    else
    (a1j r_2.1.Items []).bind fun q => (match q with
    | .ret r => some r
    | .go list_36 =>
    (a7x list_36).bind fun r_51 =>
    if (r_2.1.Kind == 4) then
    some (r_51.1,(r_51.2 == 0))
    else
    some (r_51.1,false))
theorem b5e (j_1:o8) (r:((List y5) × Bool)) (hf:a5r j_1 = some r):a0d Try.prog 16 .fresh [(l9 j_1)] (.tup [(.lst 3 (r.1.map o5)),(.bool r.2)]):=by
 refine a0d.of_awp mixed Try.func16 d5o nle ?_;rw [a0q];rw [o9 j_1];unfold a5r at hf;unfold c16;refine (show awp Try.prog true 0 _ (ofL [(0,(.agg [(.int .i64 j_1.Kind),(.int .i64 j_1.N),(.str j_1.T),(.lst 1 (j_1.Keys.map AV.str)),(.lst 5 (j_1.Items.map l9))]))]) [] _ from ?_);refine sr<|a0b (a1p (j:=0) (c:=(.agg [(.int .i64 j_1.Kind),(.int .i64 j_1.N),(.str j_1.T),(.lst 1 (j_1.Keys.map AV.str)),(.lst 5 (j_1.Items.map l9))])) rfl trivial rfl rfl)<|l7 .nil rfl<|l7 (.bool false) rfl<|dk<|sr<|?_
 obtain ⟨r_2,er3,hf⟩:=ob hf
 refine x9 (.agg [(.int .i64 j_1.Kind),(.int .i64 j_1.N),(.str j_1.T),(.lst 1 (j_1.Keys.map AV.str)),(.lst 5 (j_1.Items.map l9))]) rfl nle rfl<|a0b (b4x (v:=(.tup [(.agg [(.int .i64 r_2.1.Kind),(.int .i64 r_2.1.N),(.str r_2.1.T),(.lst 1 (r_2.1.Keys.map AV.str)),(.lst 5 (r_2.1.Items.map l9))]),(.bool r_2.2)])) rfl (b1u _ _ _ er3) rfl (.cons (.of_eq (o9 j_1).symm) (.cons (.refl _) .nil)) (by simp only [o9]) rfl)<|l7 (.tup [(.agg [(.int .i64 r_2.1.Kind),(.int .i64 r_2.1.N),(.str r_2.1.T),(.lst 1 (r_2.1.Keys.map AV.str)),(.lst 5 (r_2.1.Items.map l9))]),(.bool r_2.2)]) rfl<|x9 (.agg [(.int .i64 r_2.1.Kind),(.int .i64 r_2.1.N),(.str r_2.1.T),(.lst 1 (r_2.1.Keys.map AV.str)),(.lst 5 (r_2.1.Items.map l9))]) rfl nle rfl<|?_
 refine x9 (.bool r_2.2) rfl nle rfl<|a0b (a1p (j:=1) (c:=(.agg [(.int .i64 0),(.int .i64 0),(.str []),.nil,.nil])) rfl trivial rfl rfl)<|a2a (a0o (v:=(.agg [(.int .i64 r_2.1.Kind),(.int .i64 r_2.1.N),(.str r_2.1.T),(.lst 1 (r_2.1.Keys.map AV.str)),(.lst 5 (r_2.1.Items.map l9))])) (y':=(.agg [(.int .i64 r_2.1.Kind),(.int .i64 r_2.1.N),(.str r_2.1.T),(.lst 1 (r_2.1.Keys.map AV.str)),(.lst 5 (r_2.1.Items.map l9))])) rfl rfl rfl trivial ⟨rfl,nle⟩ ⟨⟨rfl,trivial⟩,⟨⟨rfl,trivial⟩,⟨⟨rfl,trivial⟩,⟨⟨rfl,trivial⟩,⟨⟨rfl,trivial⟩,trivial⟩⟩⟩⟩⟩ rfl)<|l7 (.bool r_2.2) rfl<|dk<|o6<|sr<|l7 (.bool r_2.2) rfl<|x9 (.bool (!r_2.2)) rfl trivial rfl<|?_
 refine dk<|?_
 rcases oi hf with ⟨c4,hf⟩ | ⟨c4,hf⟩
 ·refine y7 rfl c4<|sr<|?_
  obtain ⟨r_5,er6,hf⟩:=ob hf
  refine x9 (.agg [(.int .i64 j_1.Kind),(.int .i64 j_1.N),(.str j_1.T),(.lst 1 (j_1.Keys.map AV.str)),(.lst 5 (j_1.Items.map l9))]) rfl nle rfl<|a0b (a0s (b0k _ _ er6) rfl (.cons (.of_eq (o9 j_1).symm) .nil) rfl)<|l7 (.tup [(o5 r_5.1),(.bool r_5.2)]) rfl<|x9 (o5 r_5.1) rfl nle rfl<|x9 (.bool r_5.2) rfl nle rfl<|a0b (a1p (j:=2) (c:=(.agg [(.int .i64 0),(.int .i64 0),(.str [])])) rfl trivial rfl rfl)<|a2a (a0o (v:=(.agg [(.int .i64 r_5.1.Kind),(.int .i64 r_5.1.N),(.str r_5.1.T)])) (y':=(.agg [(.int .i64 r_5.1.Kind),(.int .i64 r_5.1.N),(.str r_5.1.T)])) rfl rfl rfl trivial ⟨rfl,nle⟩ ⟨⟨rfl,trivial⟩,⟨⟨rfl,trivial⟩,⟨⟨rfl,trivial⟩,trivial⟩⟩⟩ rfl)<|?_
  refine l7 (.bool r_5.2) rfl<|dk<|sr<|x9 (.agg [(.int .i64 r_5.1.Kind),(.int .i64 r_5.1.N),(.str r_5.1.T)]) rfl nle rfl<|?_;refine a0b (a2i (j:=3) (as':=[(o5 r_5.1)]) rfl (fun _ => by decide) ⟨rfl,trivial⟩ (.refl _) rfl rfl rfl) ?_;refine l7 (.bool r_5.2) rfl<|l7 (.own 3 0 1) rfl<|l7 (.bool r_5.2) rfl<|dk<|a0c<|?_;obtain rfl:=os hf;exact a2p ⟨trivial,⟨trivial,trivial⟩⟩ rfl (by decide) (.refl _)
 ·refine y8 rfl (bf c4)<|a0k<|a0m<|sr<|?_;refine a0b (a2i (j:=2) (as':=[]) rfl (fun _ => by decide) trivial (.refl _) rfl rfl rfl) ?_;refine l7 (.own 2 0 0) rfl<|dk<|o6<|sr<|l7 (.int .i64 0) rfl<|dk<|?_
  obtain ⟨p37,hb1,hf⟩:=ob hf
  refine a3f (X:={q:(List y5) // p37 = .go q}) (fun q => ([(4,(.ptr 0 0 0)),(8,(.own 1 0 q.1.length))],[.box 5 (.agg [(.int .i64 r_2.1.Kind),(.int .i64 r_2.1.N),(.str r_2.1.T),(.lst 1 (r_2.1.Keys.map AV.str)),(.lst 5 (r_2.1.Items.map l9))]),.row 3 (q.1.map o5)])) ?_ ?_
  ·refine a1o (X:={q:(Nat × (List y5)) // a1j (r_2.1.Items.drop q.1) q.2 = some p37}) (fun q => ([(4,(.ptr 0 0 0)),(8,(.own 1 0 q.1.2.length)),(9,(.int .i64 (q.1.1:Int)))],[.box 5 (.agg [(.int .i64 r_2.1.Kind),(.int .i64 r_2.1.N),(.str r_2.1.T),(.lst 1 (r_2.1.Keys.map AV.str)),(.lst 5 (r_2.1.Items.map l9))]),.row 3 (q.1.2.map o5)])) (fun q => r_2.1.Items.length - q.1.1) ⟨(0,[]),hb1⟩ ⟨[],[1,2],_,_,rfl,rfl,⟨.refl _,⟨.of_eq (congrArg (AV.own _ 0) (by simp)),⟨.refl _,trivial⟩⟩⟩,(.refl _)⟩ ?_
   rintro ⟨⟨i_25,list_26⟩,hc1⟩
   have hc1:a1j (r_2.1.Items.drop i_25) list_26 = some p37:=hc1
   refine (show awp Try.prog true 0 _ (ofL [(4,(.ptr 0 0 0)),(8,(.own 1 0 list_26.length)),(9,(.int .i64 (i_25:Int)))]) [.box 5 (.agg [(.int .i64 r_2.1.Kind),(.int .i64 r_2.1.N),(.str r_2.1.T),(.lst 1 (r_2.1.Keys.map AV.str)),(.lst 5 (r_2.1.Items.map l9))]),.row 3 (list_26.map o5)] _ from ?_)
   rcases a7n r_2.1.Items i_25 with ⟨hie40,hd43⟩ | ⟨hlt38,x_44,hx39,hd43⟩
   ·rw [hd43,a1j.eq_1] at hc1
    have hq42:=dlf hie40
    refine o6<|sr<|l7 (.int .i64 (i_25:Int)) rfl<|x9 (.ptr 0 0 4) rfl trivial rfl<|x9 (.lst 5 (r_2.1.Items.map l9)) rfl nle rfl<|a1d (a2q (enc:=l9) rfl) fun hl45 => x9 (.bool (decide ((i_25:Int) < (r_2.1.Items.length:Int)))) rfl rfl rfl<|dk<|y8 rfl hq42<|a3x<|a3w<|a2o<|a3v<|?_;obtain rfl:=os hc1;exact a3u ⟨_,rfl⟩ ⟨[],[0,1],_,_,rfl,rfl,⟨.refl _,⟨.refl _,trivial⟩⟩,(.refl _)⟩
   ·rw [hd43,a1j.eq_2] at hc1
    have hq42:=dlt hlt38
    refine o6<|sr<|l7 (.int .i64 (i_25:Int)) rfl<|x9 (.ptr 0 0 4) rfl trivial rfl<|x9 (.lst 5 (r_2.1.Items.map l9)) rfl nle rfl<|a1d (a2q (enc:=l9) rfl) fun hl46 => x9 (.bool (decide ((i_25:Int) < (r_2.1.Items.length:Int)))) rfl rfl rfl<|dk<|y7 rfl hq42<|a0k<|a0m<|o6<|a4a<|sr<|?_
    obtain ⟨r_47,er48,hc1⟩:=ob hc1
    refine x9 (.ptr 0 0 4) rfl trivial rfl<|x9 (.lst 5 (r_2.1.Items.map l9)) rfl nle rfl<|l7 (.int .i64 (i_25:Int)) rfl<|a0b (a3a (enc:=l9) rfl rfl hx39)<|a0b (a4w (v:=(.agg [(.int .i64 x_44.Kind),(.int .i64 x_44.N),(.str x_44.T),(.lst 1 (x_44.Keys.map AV.str)),(.lst 5 (x_44.Items.map l9))])) rfl (o9 _) nle rfl)<|a0b (a0s (b0k _ _ er48) rfl (.cons (.of_eq (o9 x_44).symm) .nil) rfl)<|l7 (.tup [(o5 r_47.1),(.bool r_47.2)]) rfl<|x9 (o5 r_47.1) rfl nle rfl<|x9 (.bool r_47.2) rfl nle rfl<|a0b (a1p (j:=2) (c:=(.agg [(.int .i64 0),(.int .i64 0),(.str [])])) rfl trivial rfl rfl)<|a2a (a0o (v:=(.agg [(.int .i64 r_47.1.Kind),(.int .i64 r_47.1.N),(.str r_47.1.T)])) (y':=(.agg [(.int .i64 r_47.1.Kind),(.int .i64 r_47.1.N),(.str r_47.1.T)])) rfl rfl rfl trivial ⟨rfl,nle⟩ ⟨⟨rfl,trivial⟩,⟨⟨rfl,trivial⟩,⟨⟨rfl,trivial⟩,trivial⟩⟩⟩ rfl)<|?_
    refine l7 (.bool r_47.2) rfl<|dk<|o6<|sr<|l7 (.bool r_47.2) rfl<|x9 (.bool (!r_47.2)) rfl trivial rfl<|dk<|?_
    rcases oi hc1 with ⟨c49,hc1⟩ | ⟨c49,hc1⟩
    ·refine y7 rfl c49<|sr<|?_;refine a0b (a2i (j:=3) (as':=[]) rfl (fun _ => by decide) trivial (.refl _) rfl rfl rfl) ?_;refine l7 (.own 3 0 0) rfl<|l7 (.bool false) rfl<|dk<|a0c<|?_;obtain rfl:=os hc1;obtain rfl:=os hf;exact a2p ⟨trivial,⟨trivial,trivial⟩⟩ rfl (by decide) (.refl _)
    ·refine y8 rfl (bf c49)<|a0k<|a0m<|a0x<|?_
     obtain ⟨g50,hc1⟩:=og hc1
     refine l7 (.own 1 0 list_26.length) rfl<|x9 (.agg [(.int .i64 r_47.1.Kind),(.int .i64 r_47.1.N),(.str r_47.1.T)]) rfl nle rfl<|?_;refine a0b (a2i (j:=3) (as':=[(o5 r_47.1)]) rfl (fun _ => by decide) ⟨rfl,trivial⟩ (.refl _) rfl rfl rfl) ?_
     refine a0b (a4t (j:=4) (L:=((list_26 ++ [r_47.1]).map o5)) (len:=(list_26 ++ [r_47.1]).length) rfl false rfl rfl (fun _ => flo (enc:=o5) (fun _ => rfl) [r_47.1] _) (fun _ _ h => (b9t (show AV.own _ _ _ = AV.lst _ _ from h)).elim) (by decide) (c9q (enc:=o5) list_26 [r_47.1] _ (by rfl)) (by simp <;> omega) g50 rfl rfl) ?_
     refine l7 (.own 4 0 ((list_26 ++ [r_47.1]).length)) rfl<|a0l<|a2y<|a0m<|a0x<|l7 (.int .i64 (i_25:Int)) rfl<|x9 (.int .i64 (w64 ((i_25:Int) + 1))) rfl rfl rfl<|l7 (.int .i64 (w64 ((i_25:Int) + 1))) rfl<|a0l<|?_;exact a2g ⟨((i_25 + 1),list_26 ++ [r_47.1]),hc1⟩ (mul hlt38) ⟨[],[0,4],_,_,rfl,rfl,⟨.refl _,⟨.refl _,⟨.of_eq (congrArg (AV.int _) (a2z hlt38 hl46)),trivial⟩⟩⟩,(.refl _)⟩
  ·rintro ⟨list_36,rfl⟩
   refine sr<|?_
   obtain ⟨r_51,er52,hf⟩:=ob hf
   refine l7 (.own 1 0 list_36.length) rfl<|a0b (a4x (v:=(.tup [(.own 2 0 r_51.1.length),(.int .i64 r_51.2)])) (h':=[.row 3 (r_51.1.map o5)]) (b8t _ _ er52) rfl (.cons (.of_eq (congrArg (AV.lst _) (tko list_36))) .nil) (by simp only [a1n,a1y,List.length_map,List.nil_append,List.append_nil,List.cons_append];rfl))<|l7 (.tup [(.own 2 0 r_51.1.length),(.int .i64 r_51.2)]) rfl<|x9 (.own 2 0 r_51.1.length) rfl nle rfl<|x9 (.int .i64 r_51.2) rfl nle rfl<|l7 (.own 2 0 r_51.1.length) rfl<|l7 (.int .i64 r_51.2) rfl<|dk<|sr<|?_
   rcases oi hf with ⟨c53,hf⟩ | ⟨c53,hf⟩
   ·refine l7 (.own 2 0 r_51.1.length) rfl<|x9 (.ptr 0 0 0) rfl trivial rfl<|x9 (.int .i64 r_2.1.Kind) rfl nle rfl<|x9 (.bool (r_2.1.Kind == 4)) rfl rfl rfl<|l7 (.bool (r_2.1.Kind == 4)) rfl<|a0v (s:=62) (b:=true) rfl c53<|s_on rfl<|l7 (.int .i64 r_51.2) rfl<|s_on rfl<|x9 (.bool (r_51.2 == 0)) rfl rfl rfl<|x9 (.bool (r_51.2 == 0)) rfl trivial rfl<|l7 (.own 2 0 r_51.1.length) rfl<|l7 (.bool (r_51.2 == 0)) rfl<|dk<|a0c<|?_;obtain rfl:=os hf;exact a2p ⟨trivial,⟨trivial,trivial⟩⟩ rfl (by decide) (.tup (.cons (.of_eq (congrArg (AV.lst _) (tk (enc:=o5) r_51.1))) (.cons (.refl _) .nil)))
   ·refine l7 (.own 2 0 r_51.1.length) rfl<|x9 (.ptr 0 0 0) rfl trivial rfl<|x9 (.int .i64 r_2.1.Kind) rfl nle rfl<|x9 (.bool (r_2.1.Kind == 4)) rfl rfl rfl<|l7 (.bool (r_2.1.Kind == 4)) rfl<|a0v (s:=62) (b:=false) rfl (bf c53)<|a0a rfl rfl<|a0a rfl rfl<|x9 (.bool false) rfl trivial rfl<|l7 (.own 2 0 r_51.1.length) rfl<|l7 (.bool false) rfl<|dk<|a0c<|?_;obtain rfl:=os hf;exact a2p ⟨trivial,⟨trivial,trivial⟩⟩ rfl (by decide) (.tup (.cons (.of_eq (congrArg (AV.lst _) (tk (enc:=o5) r_51.1))) (.cons (.refl _) .nil)))

/- spec.JsonDatum -/
def c5:a0p :=
 (.seq (.reg (tq 1 (.box 5 (.t 0)) (tm 2 (.c .nil) (tm 3 (.c (.int .i64 0)) .done))))
 (.seq (.seq (.reg (tq 6 (.load 5 true (.t 1)) (tq 7 (.call 15 [(.t 6)]) (tq 8 (.not (.t 7)) .done))))
 (.cond (.t 8) (.seq (.reg (tq 9 (.bslice 3 []) (tm 2 (.t 9) (tm 3 (.c (.int .i64 1)) .done))))
 .ret)
 .skip))
 (.seq (.reg (tq 11 (.load 5 true (.t 1)) (tq 12 (.call 16 [(.t 11)]) (tm 10 (.t 12) (tq 13 (.extract 0 (.t 10)) (tq 14 (.extract 1 (.t 10)) (tm 4 (.t 13) (tm 5 (.t 14) .done))))))))
 (.seq (.seq (.reg (tm 15 (.t 5) (tq 16 (.not (.t 15)) .done)))
 (.cond (.t 16) (.seq (.reg (tq 17 (.bslice 3 []) (tm 2 (.t 17) (tm 3 (.c (.int .i64 3)) .done))))
 .ret)
 .skip))
 (.seq (.reg (tm 18 (.t 4) (tm 2 (.t 18) (tm 3 (.c (.int .i64 0)) .done))))
 .ret)))))
theorem fc5:a1f Try.prog Try.f5 = some (c5.erase,[.mov (.t 2),.mov (.t 3)],19):=by kernel_rfl
def a6i (j_1:o8):Option ((List y5) × Int) :=
    (a8n j_1).bind fun r_2 =>
    if (!r_2) then
    some ([],1)
    else
    (a5r j_1).bind fun r_5 =>
    if (!r_5.2) then
    some ([],3)
    else
    some (r_5.1,0)
theorem b6e (j_1:o8) (r:((List y5) × Int)) (hf:a6i j_1 = some r):a0d Try.prog 5 .fresh [(l9 j_1)] (.tup [(.lst 3 (r.1.map o5)),(.int .i64 r.2)]):=by
 refine a0d.of_awp mixed Try.func5 fc5 nle ?_;rw [a0q];rw [o9 j_1];unfold a6i at hf;unfold c5;refine (show awp Try.prog true 0 _ (ofL [(0,(.agg [(.int .i64 j_1.Kind),(.int .i64 j_1.N),(.str j_1.T),(.lst 1 (j_1.Keys.map AV.str)),(.lst 5 (j_1.Items.map l9))]))]) [] _ from ?_);refine sr<|a0b (a1p (j:=0) (c:=(.agg [(.int .i64 j_1.Kind),(.int .i64 j_1.N),(.str j_1.T),(.lst 1 (j_1.Keys.map AV.str)),(.lst 5 (j_1.Items.map l9))])) rfl trivial rfl rfl)<|l7 .nil rfl<|l7 (.int .i64 0) rfl<|dk<|o6<|sr<|?_
 obtain ⟨r_2,er3,hf⟩:=ob hf
 refine x9 (.agg [(.int .i64 j_1.Kind),(.int .i64 j_1.N),(.str j_1.T),(.lst 1 (j_1.Keys.map AV.str)),(.lst 5 (j_1.Items.map l9))]) rfl nle rfl<|a0b (a0s (b9v _ _ er3) rfl (.cons (.of_eq (o9 j_1).symm) .nil) rfl)<|x9 (.bool (!r_2)) rfl trivial rfl<|dk<|?_
 rcases oi hf with ⟨c4,hf⟩ | ⟨c4,hf⟩
 ·refine y7 rfl c4<|sr<|?_;refine a0b (a2i (j:=1) (as':=[]) rfl (fun _ => by decide) trivial (.refl _) rfl rfl rfl) ?_;refine l7 (.own 1 0 0) rfl<|l7 (.int .i64 1) rfl<|dk<|a0c<|?_;obtain rfl:=os hf;exact a2p ⟨trivial,⟨trivial,trivial⟩⟩ rfl (by decide) (.refl _)
 ·refine y8 rfl (bf c4)<|a0k<|a0m<|sr<|?_
  obtain ⟨r_5,er6,hf⟩:=ob hf
  refine x9 (.agg [(.int .i64 j_1.Kind),(.int .i64 j_1.N),(.str j_1.T),(.lst 1 (j_1.Keys.map AV.str)),(.lst 5 (j_1.Items.map l9))]) rfl nle rfl<|a0b (a4x (v:=(.tup [(.own 1 0 r_5.1.length),(.bool r_5.2)])) (h':=[.row 3 (r_5.1.map o5)]) (b5e _ _ er6) rfl (.cons (.of_eq (o9 j_1).symm) .nil) (by simp only [a1n,a1y,List.length_map,List.nil_append,List.append_nil,List.cons_append];rfl))<|l7 (.tup [(.own 1 0 r_5.1.length),(.bool r_5.2)]) rfl<|x9 (.own 1 0 r_5.1.length) rfl nle rfl<|x9 (.bool r_5.2) rfl nle rfl<|l7 (.own 1 0 r_5.1.length) rfl<|l7 (.bool r_5.2) rfl<|dk<|o6<|sr<|l7 (.bool r_5.2) rfl<|?_
  refine x9 (.bool (!r_5.2)) rfl trivial rfl<|dk<|?_
  rcases oi hf with ⟨c7,hf⟩ | ⟨c7,hf⟩
  ·refine y7 rfl c7<|sr<|?_;refine a0b (a2i (j:=2) (as':=[]) rfl (fun _ => by decide) trivial (.refl _) rfl rfl rfl) ?_;refine l7 (.own 2 0 0) rfl<|l7 (.int .i64 3) rfl<|dk<|a0c<|?_;obtain rfl:=os hf;exact a2p ⟨trivial,⟨trivial,trivial⟩⟩ rfl (by decide) (.refl _)
  ·refine y8 rfl (bf c7)<|a0k<|a0m<|sr<|l7 (.own 1 0 r_5.1.length) rfl<|l7 (.own 1 0 r_5.1.length) rfl<|l7 (.int .i64 0) rfl<|dk<|a0c<|?_;obtain rfl:=os hf;exact a2p ⟨trivial,⟨trivial,trivial⟩⟩ rfl (by decide) (.tup (.cons (.of_eq (congrArg (AV.lst _) (tk (enc:=o5) r_5.1))) (.cons (.refl _) .nil)))

/- impl.within -/
def c46:a0p :=
 (.seq (.reg (tm 6 (.c (.bool false)) .done))
 (.seq (.reg (tm 7 (.t 0) (tm 8 (.t 1) (tq 9 (.bin .geq (.t 7) (.t 8)) (tm 10 (.t 9) (tg 11 10 true (.mov (.t 0)) (tg 12 10 true (.mov (.t 2)) (tg 13 10 true (.bin .leq (.t 11) (.t 12)) (tq 14 (.pick (.t 10) (.t 13) (.c (.bool false))) (tm 6 (.t 14) .done))))))))))
 .ret))
theorem d5p:a1f Try.prog Try.f46 = some (c46.erase,[.mov (.t 6)],15):=by kernel_rfl
def a5k (n_1:Int) (low_2:Int) (high_3:Int):Option Bool :=
    if (decide (n_1 ≥ low_2)) then
    some (decide (n_1 ≤ high_3))
    else
    some false
theorem a7b (n_1:Int) (low_2:Int) (high_3:Int) (r:Bool) (hf:a5k n_1 low_2 high_3 = some r):a0d Try.prog 46 .flat [(.int .i64 n_1),(.int .i64 low_2),(.int .i64 high_3)] (.bool r):=by
 refine a0d.of_awp mixed Try.func46 d5p nle ?_;rw [a0q];unfold a5k at hf;unfold c46;refine (show awp Try.prog false 0 _ (ofL [(0,(.int .i64 n_1)),(1,(.int .i64 low_2)),(2,(.int .i64 high_3))]) [] _ from ?_);refine sr<|l7 (.bool false) rfl<|dk<|sr<|?_
 rcases oi hf with ⟨c4,hf⟩ | ⟨c4,hf⟩
 ·refine l7 (.int .i64 n_1) rfl<|l7 (.int .i64 low_2) rfl<|x9 (.bool (decide (n_1 ≥ low_2))) rfl rfl rfl<|l7 (.bool (decide (n_1 ≥ low_2))) rfl<|a0v (s:=10) (b:=true) rfl c4<|s_on rfl<|l7 (.int .i64 n_1) rfl<|s_on rfl<|l7 (.int .i64 high_3) rfl<|s_on rfl<|x9 (.bool (decide (n_1 ≤ high_3))) rfl rfl rfl<|x9 (.bool (decide (n_1 ≤ high_3))) rfl trivial rfl<|l7 (.bool (decide (n_1 ≤ high_3))) rfl<|dk<|a0c<|?_;obtain rfl:=os hf;exact a0h ⟨trivial,trivial⟩ rfl (.refl _)
 ·refine l7 (.int .i64 n_1) rfl<|l7 (.int .i64 low_2) rfl<|x9 (.bool (decide (n_1 ≥ low_2))) rfl rfl rfl<|l7 (.bool (decide (n_1 ≥ low_2))) rfl<|a0v (s:=10) (b:=false) rfl (bf c4)<|a0a rfl rfl<|a0a rfl rfl<|a0a rfl rfl<|x9 (.bool false) rfl trivial rfl<|l7 (.bool false) rfl<|dk<|a0c<|?_;obtain rfl:=os hf;exact a0h ⟨trivial,trivial⟩ rfl (.refl _)

/- impl.isNumber -/
def c47:a0p :=
 (.seq (.reg (tm 2 (.c (.bool false)) .done))
 (.seq (.reg (tm 3 (.t 0) (tq 4 (.call 46 [(.t 3),(.c (.int .i64 (-1000000000))),(.c (.int .i64 1000000000))]) (tm 2 (.t 4) .done))))
 .ret))
theorem d5q:a1f Try.prog Try.f47 = some (c47.erase,[.mov (.t 2)],5):=by kernel_rfl
def a5t (n_1:Int):Option Bool :=
    (a5k n_1 (-1000000000) 1000000000).bind fun r_2 =>
    some r_2
theorem a8v (n_1:Int) (r:Bool) (hf:a5t n_1 = some r):a0d Try.prog 47 .flat [(.int .i64 n_1)] (.bool r):=by
  refine a0d.of_awp mixed Try.func47 d5q nle ?_
  rw [a0q]
  unfold a5t at hf
  unfold c47
  refine (show awp Try.prog false 0 _ (ofL [(0,(.int .i64 n_1))]) [] _ from ?_)
  refine o6 ?_
  refine a0x ?_
  refine a0b (b3d (.bool false) rfl) ?_
  refine a0l ?_
  refine a0m ?_
  refine o6 ?_
  refine a0x ?_
  obtain ⟨r_2,er3,hf⟩:=ob hf
  refine a0b (b3d (.int .i64 n_1) rfl) ?_
  refine a0b (a0s (a7b _ _ _ _ er3) rfl (.refl _) rfl) ?_
  refine a0b (b3d (.bool r_2) rfl) ?_
  refine a0l ?_
  refine a0m ?_
  refine a0c ?_
  obtain rfl:=os hf
  exact a0h ⟨trivial,trivial⟩ rfl (.refl _)

/- impl.isPlain -/
def c48:a0p :=
 (.seq (.reg (tm 2 (.c (.bool false)) .done))
 (.seq (.seq (.reg (tm 4 (.t 0) (tq 5 (.lenS (.t 4)) (tm 6 (.c (.int .i64 0)) .done))))
 (.block 0 (.loop (.seq (.reg (tq 7 (.bin .lss (.t 6) (.t 5)) .done))
 (.seq (.cond (.t 7) .skip
 (.exit 0))
 (.seq (.block 1 (.seq (.reg (tm 8 (.t 6) (tm 3 (.t 8) .done)))
 (.seq (.reg (tm 9 (.t 0) (tm 10 (.t 3) (tq 11 (.idxs (.t 9) (.t 10)) (tq 12 (.bin .lss (.t 11) (.c (.int .u8 32))) (tm 13 (.t 12) (tg 14 13 false (.mov (.t 0)) (tg 15 13 false (.mov (.t 3)) (tg 16 13 false (.idxs (.t 14) (.t 15)) (tg 17 13 false (.bin .gtr (.t 16) (.c (.int .u8 126))) (tq 18 (.pick (.t 13) (.c (.bool true)) (.t 17)) .done)))))))))))
 (.cut (.cond (.t 18) (.seq (.reg (tm 2 (.c (.bool false)) .done))
 .ret)
 .skip)))))
 (.reg (tq 19 (.bin .add (.t 6) (.c (.int .i64 1))) (tm 6 (.t 19) .done)))))))))
 (.cut (.seq (.reg (tm 20 (.t 0) (tq 21 (.lenS (.t 20)) (tq 22 (.bin .leq (.t 21) (.c (.int .i64 200))) (tm 2 (.t 22) .done)))))
 .ret))))
theorem d5r:a1f Try.prog Try.f48 = some (c48.erase,[.mov (.t 2)],23):=by kernel_rfl
def a2v :List UInt8 → Option (Fl Bool Unit)
  | [] =>
    some (.go ())
  | x_54 :: xs =>
    ((if (decide ((x_54.toNat:Int) < 32)) then
    some true
    else
    some (decide ((x_54.toNat:Int) > 126)):Option Bool)).bind fun s18_56 =>
    if s18_56 then
    some (.ret false)
    else
    a2v xs 

def a5n (t_1:Str):Option Bool :=
    (a2v t_1 ).bind fun q => (match q with
    | .ret r => some r
    | .go _ =>
    some (decide ((t_1.length:Int) ≤ 200)))
theorem a9t (t_1:Str) (r:Bool) (hf:a5n t_1 = some r):a0d Try.prog 48 .flat [(.str t_1)] (.bool r):=by
 refine a0d.of_awp mixed Try.func48 d5r nle ?_;rw [a0q];unfold a5n at hf;unfold c48;refine (show awp Try.prog false 0 _ (ofL [(0,(.str t_1))]) [] _ from ?_);refine sr<|l7 (.bool false) rfl<|dk<|o6<|sr<|l7 (.str t_1) rfl<|a1d (b4d rfl) fun hl2 => l7 (.int .i64 0) rfl<|dk<|?_
 obtain ⟨p47,hb1,hf⟩:=ob hf
 refine a3f (X:={q:Unit // p47 = .go q}) (fun q => ([(0,(.str t_1))],[])) ?_ ?_
 ·refine a1o (X:={q:Nat // a2v (t_1.drop q)  = some p47}) (fun q => ([(0,(.str t_1)),(5,(.int .i64 (t_1.length:Int))),(6,(.int .i64 (q.1:Int)))],[])) (fun q => t_1.length - q.1) ⟨0,hb1⟩ ⟨[],[],_,_,rfl,rfl,⟨.refl _,⟨.refl _,⟨.refl _,trivial⟩⟩⟩,(.refl _)⟩ ?_
  rintro ⟨s6_32,hc1⟩
  have hc1:a2v (t_1.drop s6_32)  = some p47:=hc1
  refine (show awp Try.prog false 0 _ (ofL [(0,(.str t_1)),(5,(.int .i64 (t_1.length:Int))),(6,(.int .i64 (s6_32:Int)))]) [] _ from ?_)
  rcases a7n t_1 s6_32 with ⟨hie50,hd53⟩ | ⟨hlt48,x_54,hx49,hd53⟩
  ·rw [hd53,a2v.eq_1] at hc1
   have hq52:=dlf hie50
   refine sr<|x9 (.bool (decide ((s6_32:Int) < (t_1.length:Int)))) rfl rfl rfl<|dk<|o6<|y8 rfl hq52<|a3x<|a3w<|a2o<|a3v<|?_;obtain rfl:=os hc1;exact a3u ⟨_,rfl⟩ ⟨[],[],_,_,rfl,rfl,⟨.refl _,trivial⟩,(.refl _)⟩
  ·rw [hd53,a2v.eq_2] at hc1
   have hq52:=dlt hlt48
   refine sr<|x9 (.bool (decide ((s6_32:Int) < (t_1.length:Int)))) rfl rfl rfl<|dk<|o6<|y7 rfl hq52<|a0k<|a0m<|o6<|a4a<|sr<|l7 (.int .i64 (s6_32:Int)) rfl<|l7 (.int .i64 (s6_32:Int)) rfl<|dk<|o6<|?_
   obtain ⟨s18_56,hb2,hc1⟩:=ob hc1
   refine a2n ([(0,(.str t_1)),(5,(.int .i64 (t_1.length:Int))),(6,(.int .i64 (s6_32:Int))),(18,(.bool s18_56))],[]) ?_ ?_
   ·refine a0x ?_
    rcases oi hb2 with ⟨c58,hb2⟩ | ⟨c58,hb2⟩
    ·refine l7 (.str t_1) rfl<|l7 (.int .i64 (s6_32:Int)) rfl<|a0b (b2q rfl rfl hx49)<|x9 (.bool (decide ((x_54.toNat:Int) < 32))) rfl rfl rfl<|l7 (.bool (decide ((x_54.toNat:Int) < 32))) rfl<|a0v (s:=13) (b:=true) rfl c58<|a0a rfl rfl<|a0a rfl rfl<|a0a rfl rfl<|a0a rfl rfl<|x9 (.bool true) rfl trivial rfl<|a0l<|?_;obtain rfl:=os hb2;exact ⟨[],[],_,_,rfl,rfl,⟨.refl _,⟨.refl _,⟨.refl _,⟨.refl _,trivial⟩⟩⟩⟩,(.refl _)⟩
    ·refine l7 (.str t_1) rfl<|l7 (.int .i64 (s6_32:Int)) rfl<|a0b (b2q rfl rfl hx49)<|x9 (.bool (decide ((x_54.toNat:Int) < 32))) rfl rfl rfl<|l7 (.bool (decide ((x_54.toNat:Int) < 32))) rfl<|a0v (s:=13) (b:=false) rfl (bf c58)<|s_on rfl<|l7 (.str t_1) rfl<|s_on rfl<|l7 (.int .i64 (s6_32:Int)) rfl<|s_on rfl<|a0b (b2q rfl rfl hx49)<|s_on rfl<|x9 (.bool (decide ((x_54.toNat:Int) > 126))) rfl rfl rfl<|x9 (.bool (decide ((x_54.toNat:Int) > 126))) rfl trivial rfl<|a0l<|?_;obtain rfl:=os hb2;exact ⟨[],[],_,_,rfl,rfl,⟨.refl _,⟨.refl _,⟨.refl _,⟨.refl _,trivial⟩⟩⟩⟩,(.refl _)⟩
   ·rcases oi hc1 with ⟨c59,hc1⟩ | ⟨c59,hc1⟩
    ·refine y7 rfl c59<|sr<|l7 (.bool false) rfl<|dk<|a0c<|?_;obtain rfl:=os hc1;obtain rfl:=os hf;exact a0h ⟨trivial,trivial⟩ rfl (.refl _)
    ·refine y8 rfl (bf c59)<|a0k<|a2y<|a0m<|a0x<|x9 (.int .i64 (w64 ((s6_32:Int) + 1))) rfl rfl rfl<|l7 (.int .i64 (w64 ((s6_32:Int) + 1))) rfl<|a0l<|?_;exact a2g ⟨(s6_32 + 1),hc1⟩ (mul hlt48) ⟨[],[],_,_,rfl,rfl,⟨.refl _,⟨.refl _,⟨.of_eq (congrArg (AV.int _) (a2z hlt48 hl2)),trivial⟩⟩⟩,(.refl _)⟩
 ·rintro ⟨_,rfl⟩
  refine sr<|l7 (.str t_1) rfl<|a1d (b4d rfl) fun hl60 => x9 (.bool (decide ((t_1.length:Int) ≤ 200))) rfl rfl rfl<|l7 (.bool (decide ((t_1.length:Int) ≤ 200))) rfl<|dk<|a0c<|?_;obtain rfl:=os hf;exact a0h ⟨trivial,trivial⟩ rfl (.refl _)

end Go.R
