/- Walks. -/
import Derived.Test.YtldahjcikmpifaaGreatROJT
set_option linter.all false
namespace Go.R
open Go Go.Proofs
set_option linter.unusedVariables false
set_option linter.unusedSimpArgs false
set_option maxHeartbeats 8000000
/- laws.szStringS -/
def c17:a0m :=
 (.seq (.reg (tm 4 (.c (.int .i64 0)) .done))
 (.seq (.reg (tm 6 (.t 1) (tm 7 (.t 0) (tq 8 (.len (.t 7)) (tq 9 (.bin .sub (.t 6) (.t 8)) (tm 1 (.t 9) .done))))))
 (.seq (.seq (.reg (tm 10 (.t 1) (tq 11 (.bin .lss (.t 10) (.c (.int .i64 0))) .done)))
 (.cond (.t 11) (.seq (.reg (tq 4 (.mov (.c (.int .i64 (-1)))) .done))
 .ret)
 .skip))
 (.seq (.seq (.reg (tm 5 (.c (.int .i64 0)) .done))
 (.block 0 (.loop (.seq (.seq (.reg (tm 12 (.t 5) (tm 13 (.t 0) (tq 14 (.len (.t 13)) (tq 15 (.bin .lss (.t 12) (.t 14)) .done)))))
 (.cond (.t 15) .skip
 (.exit 0)))
 (.seq (.block 1 (.seq (.reg (tm 18 (.t 1) (tm 19 (.t 0) (tm 20 (.t 5) (tq 21 (.iaddr 1 (.t 19) (.t 20)) (tq 22 (.load 1 false (.t 21)) (tq 23 (.lenS (.t 22)) (tq 24 (.bin .sub (.t 18) (.t 23)) (tm 1 (.t 24) .done)))))))))
 (.seq (.reg (tm 25 (.t 1) (tq 26 (.bin .lss (.t 25) (.c (.int .i64 0))) .done)))
 (.cond (.t 26) (.seq (.reg (tq 4 (.mov (.c (.int .i64 (-1)))) .done))
 .ret)
 .skip))))
 (.reg (tm 16 (.t 5) (tq 17 (.bin .add (.t 16) (.c (.int .i64 1))) (tm 5 (.t 17) .done)))))))))
 (.cut (.seq (.reg (tm 27 (.t 1) (tm 4 (.t 27) .done)))
 .ret))))))
theorem e5u:a1a Tryz.prog Tryz.f17 = some (c17.erase,[.mov (.t 4)],28):=by kernel_rfl
def a3a :List Str → Int → Option (Fl Int Int)
  | [],left_19 =>
    some (.go left_19)
  | x_36 :: xs,left_19 =>
    if (decide (w64 (left_19 - (x_36.length:Int)) < 0)) then
    some (.ret (-1))
    else
    a3a xs (w64 (left_19 - (x_36.length:Int))) 

def a7w (a_1:(List Str)) (left_2:Int):Option Int :=
    if (decide (w64 (left_2 - (a_1.length:Int)) < 0)) then
    some (-1)
    else
    (a3a a_1 (w64 (left_2 - (a_1.length:Int)))).bind fun q => (match q with
    | .ret r => some r
    | .go left_28 =>
    some left_28)
theorem c0t (a_1:(List Str)) (left_2:Int) (r:Int) (hf:a7w a_1 left_2 = some r):x9 Tryz.prog 17 .flat [(.lst 1 (a_1.map AV.str)),(.int .i64 left_2)] (.int .i64 r):=by
 refine x9.of_awp mixed Tryz.func17 e5u nle ?_;rw [a0j];unfold a7w at hf;unfold c17;refine (show awp Tryz.prog false 0 _ (ofL [(0,(.lst 1 (a_1.map AV.str))),(1,(.int .i64 left_2))]) [] _ from ?_);refine sr<|l7 (.int .i64 0) rfl<|dk<|sr<|l7 (.int .i64 left_2) rfl<|l7 (.lst 1 (a_1.map AV.str)) rfl<|a0w (a1r (enc:=AV.str) rfl) fun hl3 => x8 (.int .i64 (w64 (left_2 - (a_1.length:Int)))) rfl rfl rfl<|l7 (.int .i64 (w64 (left_2 - (a_1.length:Int)))) rfl<|dk<|o6<|sr<|l7 (.int .i64 (w64 (left_2 - (a_1.length:Int)))) rfl<|x8 (.bool (decide (w64 (left_2 - (a_1.length:Int)) < 0))) rfl rfl rfl<|?_
 refine dk<|?_
 rcases oi hf with ⟨c4,hf⟩ | ⟨c4,hf⟩
 ·refine y7 rfl c4<|sr<|l7 (.int .i64 (-1)) rfl<|dk<|a0d<|?_;obtain rfl:=os hf;exact a0e ⟨trivial,trivial⟩ rfl (.refl _)
 ·refine y8 rfl (bf c4)<|a0h<|a0f<|o6<|sr<|l7 (.int .i64 0) rfl<|dk<|?_
  obtain ⟨p29,hb1,hf⟩:=ob hf
  refine a4n (X:={q:Int // p29 = .go q}) (fun q => ([(1,(.int .i64 q.1))],[])) ?_ ?_
  ·refine a1g (X:={q:(Int × Nat) // a3a (a_1.drop q.2) q.1 = some p29}) (fun q => ([(0,(.lst 1 (a_1.map AV.str))),(1,(.int .i64 q.1.1)),(5,(.int .i64 (q.1.2:Int)))],[])) (fun q => a_1.length - q.1.2) ⟨(w64 (left_2 - (a_1.length:Int)),0),hb1⟩ ⟨[],[],_,_,rfl,rfl,⟨.refl _,⟨.refl _,⟨.refl _,trivial⟩⟩⟩,(.refl _)⟩ ?_
   rintro ⟨⟨left_19,i_20⟩,hc1⟩
   have hc1:a3a (a_1.drop i_20) left_19 = some p29:=hc1
   refine (show awp Tryz.prog false 0 _ (ofL [(0,(.lst 1 (a_1.map AV.str))),(1,(.int .i64 left_19)),(5,(.int .i64 (i_20:Int)))]) [] _ from ?_)
   rcases a5z a_1 i_20 with ⟨hie32,hd35⟩ | ⟨hlt30,x_36,hx31,hd35⟩
   ·rw [hd35,a3a.eq_1] at hc1
    have hq34:=dlf hie32
    refine o6<|sr<|l7 (.int .i64 (i_20:Int)) rfl<|l7 (.lst 1 (a_1.map AV.str)) rfl<|a0w (a1r (enc:=AV.str) rfl) fun hl37 => x8 (.bool (decide ((i_20:Int) < (a_1.length:Int)))) rfl rfl rfl<|dk<|y8 rfl hq34<|a2t<|a2s<|a1y<|a2r<|?_;obtain rfl:=os hc1;exact a6r ⟨_,rfl⟩ ⟨[],[],_,_,rfl,rfl,⟨.refl _,trivial⟩,(.refl _)⟩
   ·rw [hd35,a3a.eq_2] at hc1
    have hq34:=dlt hlt30
    refine o6<|sr<|l7 (.int .i64 (i_20:Int)) rfl<|l7 (.lst 1 (a_1.map AV.str)) rfl<|a0w (a1r (enc:=AV.str) rfl) fun hl38 => x8 (.bool (decide ((i_20:Int) < (a_1.length:Int)))) rfl rfl rfl<|dk<|y7 rfl hq34<|a0h<|a0f<|o6<|a3g<|sr<|l7 (.int .i64 left_19) rfl<|l7 (.lst 1 (a_1.map AV.str)) rfl<|l7 (.int .i64 (i_20:Int)) rfl<|y5 (a2c (enc:=AV.str) rfl rfl hx31)<|x8 (.str x_36) rfl ⟨rfl,rfl⟩ rfl<|a0w (b2d rfl) fun hl39 => x8 (.int .i64 (w64 (left_19 - (x_36.length:Int)))) rfl rfl rfl<|l7 (.int .i64 (w64 (left_19 - (x_36.length:Int)))) rfl<|dk<|?_
    refine sr<|l7 (.int .i64 (w64 (left_19 - (x_36.length:Int)))) rfl<|x8 (.bool (decide (w64 (left_19 - (x_36.length:Int)) < 0))) rfl rfl rfl<|dk<|?_
    rcases oi hc1 with ⟨c40,hc1⟩ | ⟨c40,hc1⟩
    ·refine y7 rfl c40<|sr<|l7 (.int .i64 (-1)) rfl<|dk<|a0d<|?_;obtain rfl:=os hc1;obtain rfl:=os hf;exact a0e ⟨trivial,trivial⟩ rfl (.refl _)
    ·refine y8 rfl (bf c40)<|a0h<|a3f<|a0f<|a0s<|l7 (.int .i64 (i_20:Int)) rfl<|x8 (.int .i64 (w64 ((i_20:Int) + 1))) rfl rfl rfl<|l7 (.int .i64 (w64 ((i_20:Int) + 1))) rfl<|a0b<|?_;exact a1q ⟨(w64 (left_19 - (x_36.length:Int)),(i_20 + 1)),hc1⟩ (mul hlt30) ⟨[],[],_,_,rfl,rfl,⟨.refl _,⟨.refl _,⟨.of_eq (congrArg (AV.int _) (a1w hlt30 hl38)),trivial⟩⟩⟩,(.refl _)⟩
  ·rintro ⟨left_28,rfl⟩
   refine sr<|l7 (.int .i64 left_28) rfl<|l7 (.int .i64 left_28) rfl<|dk<|a0d<|?_;obtain rfl:=os hf;exact a0e ⟨trivial,trivial⟩ rfl (.refl _)

/- laws.szAtom -/
def e2a:a0m :=
 (.seq (.reg (tq 2 (.box 3 (.t 0)) (tm 4 (.c (.int .i64 0)) .done)))
 (.seq (.reg (tm 5 (.t 1) (tq 6 (.faddr 2 (.t 2)) (tq 7 (.load 1 false (.t 6)) (tq 8 (.lenS (.t 7)) (tq 9 (.bin .sub (.t 5) (.t 8)) (tm 1 (.t 9) .done)))))))
 (.seq (.seq (.reg (tm 10 (.t 1) (tq 11 (.bin .lss (.t 10) (.c (.int .i64 0))) .done)))
 (.cond (.t 11) (.seq (.reg (tq 4 (.mov (.c (.int .i64 (-1)))) .done))
 .ret)
 .skip))
 (.seq (.reg (tm 12 (.t 1) (tm 4 (.t 12) .done)))
 .ret))))
theorem e2c:a1a Tryz.prog Tryz.f281 = some (e2a.erase,[.mov (.t 4)],13):=by kernel_rfl
def b1p (a_1:a0a) (left_2:Int):Option Int :=
    if (decide (w64 (left_2 - (a_1.T.length:Int)) < 0)) then
    some (-1)
    else
    some (w64 (left_2 - (a_1.T.length:Int)))
theorem c6c (a_1:a0a) (left_2:Int) (r:Int) (hf:b1p a_1 left_2 = some r):x9 Tryz.prog 281 .flat [(l9 a_1),(.int .i64 left_2)] (.int .i64 r):=by
 refine x9.of_awp mixed Tryz.func281 e2c nle ?_;rw [a0j];unfold b1p at hf;unfold e2a;refine (show awp Tryz.prog false 0 _ (ofL [(0,(l9 a_1)),(1,(.int .i64 left_2))]) [] _ from ?_);refine sr<|y5 (a1i (j:=0) (c:=(.agg [(.int .i64 a_1.Kind),(.int .i64 a_1.N),(.str a_1.T)])) rfl trivial rfl rfl)<|l7 (.int .i64 0) rfl<|dk<|sr<|l7 (.int .i64 left_2) rfl<|x8 (.ptr 0 0 2) rfl trivial rfl<|x8 (.str a_1.T) rfl nle rfl<|a0w (b2d rfl) fun hl3 => x8 (.int .i64 (w64 (left_2 - (a_1.T.length:Int)))) rfl rfl rfl<|l7 (.int .i64 (w64 (left_2 - (a_1.T.length:Int)))) rfl<|dk<|o6<|sr<|?_
 refine l7 (.int .i64 (w64 (left_2 - (a_1.T.length:Int)))) rfl<|x8 (.bool (decide (w64 (left_2 - (a_1.T.length:Int)) < 0))) rfl rfl rfl<|dk<|?_
 rcases oi hf with ⟨c4,hf⟩ | ⟨c4,hf⟩
 ·refine y7 rfl c4<|sr<|l7 (.int .i64 (-1)) rfl<|dk<|a0d<|?_;obtain rfl:=os hf;exact a0e ⟨trivial,trivial⟩ rfl (.refl _)
 ·refine y8 rfl (bf c4)<|a0h<|a0f<|sr<|l7 (.int .i64 (w64 (left_2 - (a_1.T.length:Int)))) rfl<|l7 (.int .i64 (w64 (left_2 - (a_1.T.length:Int)))) rfl<|dk<|a0d<|?_;obtain rfl:=os hf;exact a0e ⟨trivial,trivial⟩ rfl (.refl _)

/- laws.szAtomS -/
def e2d:a0m :=
 (.seq (.reg (tm 4 (.c (.int .i64 0)) .done))
 (.seq (.reg (tm 6 (.t 1) (tm 7 (.t 0) (tq 8 (.len (.t 7)) (tq 9 (.bin .sub (.t 6) (.t 8)) (tm 1 (.t 9) .done))))))
 (.seq (.seq (.reg (tm 10 (.t 1) (tq 11 (.bin .lss (.t 10) (.c (.int .i64 0))) .done)))
 (.cond (.t 11) (.seq (.reg (tq 4 (.mov (.c (.int .i64 (-1)))) .done))
 .ret)
 .skip))
 (.seq (.seq (.reg (tm 5 (.c (.int .i64 0)) .done))
 (.block 0 (.loop (.seq (.seq (.reg (tm 12 (.t 5) (tm 13 (.t 0) (tq 14 (.len (.t 13)) (tq 15 (.bin .lss (.t 12) (.t 14)) .done)))))
 (.cond (.t 15) .skip
 (.exit 0)))
 (.seq (.block 1 (.seq (.reg (tm 18 (.t 0) (tm 19 (.t 5) (tq 20 (.iaddr 3 (.t 18) (.t 19)) (tq 21 (.load 3 true (.t 20)) (tm 22 (.t 1) (tq 23 (.call 281 [(.t 21),(.t 22)]) (tm 1 (.t 23) .done))))))))
 (.seq (.reg (tm 24 (.t 1) (tq 25 (.bin .lss (.t 24) (.c (.int .i64 0))) .done)))
 (.cond (.t 25) (.seq (.reg (tq 4 (.mov (.c (.int .i64 (-1)))) .done))
 .ret)
 .skip))))
 (.reg (tm 16 (.t 5) (tq 17 (.bin .add (.t 16) (.c (.int .i64 1))) (tm 5 (.t 17) .done)))))))))
 (.cut (.seq (.reg (tm 26 (.t 1) (tm 4 (.t 26) .done)))
 .ret))))))
theorem e2e:a1a Tryz.prog Tryz.f190 = some (e2d.erase,[.mov (.t 4)],27):=by kernel_rfl
def a3z :List a0a → Int → Option (Fl Int Int)
  | [],left_21 =>
    some (.go left_21)
  | x_39 :: xs,left_21 =>
    (b1p x_39 left_21).bind fun r_42 =>
    if (decide (r_42 < 0)) then
    some (.ret (-1))
    else
    a3z xs r_42 

def a9x (a_1:(List a0a)) (left_2:Int):Option Int :=
    if (decide (w64 (left_2 - (a_1.length:Int)) < 0)) then
    some (-1)
    else
    (a3z a_1 (w64 (left_2 - (a_1.length:Int)))).bind fun q => (match q with
    | .ret r => some r
    | .go left_31 =>
    some left_31)
theorem c4p (a_1:(List a0a)) (left_2:Int) (r:Int) (hf:a9x a_1 left_2 = some r):x9 Tryz.prog 190 .flat [(.lst 3 (a_1.map l9)),(.int .i64 left_2)] (.int .i64 r):=by
 refine x9.of_awp mixed Tryz.func190 e2e nle ?_;rw [a0j];unfold a9x at hf;unfold e2d;refine (show awp Tryz.prog false 0 _ (ofL [(0,(.lst 3 (a_1.map l9))),(1,(.int .i64 left_2))]) [] _ from ?_);refine sr<|l7 (.int .i64 0) rfl<|dk<|sr<|l7 (.int .i64 left_2) rfl<|l7 (.lst 3 (a_1.map l9)) rfl<|a0w (a1r (enc:=l9) rfl) fun hl3 => x8 (.int .i64 (w64 (left_2 - (a_1.length:Int)))) rfl rfl rfl<|l7 (.int .i64 (w64 (left_2 - (a_1.length:Int)))) rfl<|dk<|o6<|sr<|l7 (.int .i64 (w64 (left_2 - (a_1.length:Int)))) rfl<|x8 (.bool (decide (w64 (left_2 - (a_1.length:Int)) < 0))) rfl rfl rfl<|?_
 refine dk<|?_
 rcases oi hf with ⟨c4,hf⟩ | ⟨c4,hf⟩
 ·refine y7 rfl c4<|sr<|l7 (.int .i64 (-1)) rfl<|dk<|a0d<|?_;obtain rfl:=os hf;exact a0e ⟨trivial,trivial⟩ rfl (.refl _)
 ·refine y8 rfl (bf c4)<|a0h<|a0f<|o6<|sr<|l7 (.int .i64 0) rfl<|dk<|?_
  obtain ⟨p32,hb1,hf⟩:=ob hf
  refine a4n (X:={q:Int // p32 = .go q}) (fun q => ([(1,(.int .i64 q.1))],[])) ?_ ?_
  ·refine a1g (X:={q:(Int × Nat) // a3z (a_1.drop q.2) q.1 = some p32}) (fun q => ([(0,(.lst 3 (a_1.map l9))),(1,(.int .i64 q.1.1)),(5,(.int .i64 (q.1.2:Int)))],[])) (fun q => a_1.length - q.1.2) ⟨(w64 (left_2 - (a_1.length:Int)),0),hb1⟩ ⟨[],[],_,_,rfl,rfl,⟨.refl _,⟨.refl _,⟨.refl _,trivial⟩⟩⟩,(.refl _)⟩ ?_
   rintro ⟨⟨left_21,i_22⟩,hc1⟩
   have hc1:a3z (a_1.drop i_22) left_21 = some p32:=hc1
   refine (show awp Tryz.prog false 0 _ (ofL [(0,(.lst 3 (a_1.map l9))),(1,(.int .i64 left_21)),(5,(.int .i64 (i_22:Int)))]) [] _ from ?_)
   rcases a5z a_1 i_22 with ⟨hie35,hd38⟩ | ⟨hlt33,x_39,hx34,hd38⟩
   ·rw [hd38,a3z.eq_1] at hc1
    have hq37:=dlf hie35
    refine o6<|sr<|l7 (.int .i64 (i_22:Int)) rfl<|l7 (.lst 3 (a_1.map l9)) rfl<|a0w (a1r (enc:=l9) rfl) fun hl40 => x8 (.bool (decide ((i_22:Int) < (a_1.length:Int)))) rfl rfl rfl<|dk<|y8 rfl hq37<|a2t<|a2s<|a1y<|a2r<|?_;obtain rfl:=os hc1;exact a6r ⟨_,rfl⟩ ⟨[],[],_,_,rfl,rfl,⟨.refl _,trivial⟩,(.refl _)⟩
   ·rw [hd38,a3z.eq_2] at hc1
    have hq37:=dlt hlt33
    refine o6<|sr<|l7 (.int .i64 (i_22:Int)) rfl<|l7 (.lst 3 (a_1.map l9)) rfl<|a0w (a1r (enc:=l9) rfl) fun hl41 => x8 (.bool (decide ((i_22:Int) < (a_1.length:Int)))) rfl rfl rfl<|dk<|y7 rfl hq37<|a0h<|a0f<|o6<|a3g<|sr<|?_
    obtain ⟨r_42,er43,hc1⟩:=ob hc1
    refine l7 (.lst 3 (a_1.map l9)) rfl<|l7 (.int .i64 (i_22:Int)) rfl<|y5 (a2c (enc:=l9) rfl rfl hx34)<|x8 (l9 x_39) rfl nle rfl<|l7 (.int .i64 left_21) rfl<|y5 (a0v (c6c _ _ _ er43) rfl (.refl _) rfl)<|l7 (.int .i64 r_42) rfl<|dk<|sr<|l7 (.int .i64 r_42) rfl<|x8 (.bool (decide (r_42 < 0))) rfl rfl rfl<|dk<|?_
    rcases oi hc1 with ⟨c44,hc1⟩ | ⟨c44,hc1⟩
    ·refine y7 rfl c44<|sr<|l7 (.int .i64 (-1)) rfl<|dk<|a0d<|?_;obtain rfl:=os hc1;obtain rfl:=os hf;exact a0e ⟨trivial,trivial⟩ rfl (.refl _)
    ·refine y8 rfl (bf c44)<|a0h<|a3f<|a0f<|a0s<|l7 (.int .i64 (i_22:Int)) rfl<|x8 (.int .i64 (w64 ((i_22:Int) + 1))) rfl rfl rfl<|l7 (.int .i64 (w64 ((i_22:Int) + 1))) rfl<|a0b<|?_;exact a1q ⟨(r_42,(i_22 + 1)),hc1⟩ (mul hlt33) ⟨[],[],_,_,rfl,rfl,⟨.refl _,⟨.refl _,⟨.of_eq (congrArg (AV.int _) (a1w hlt33 hl41)),trivial⟩⟩⟩,(.refl _)⟩
  ·rintro ⟨left_31,rfl⟩
   refine sr<|l7 (.int .i64 left_31) rfl<|l7 (.int .i64 left_31) rfl<|dk<|a0d<|?_;obtain rfl:=os hf;exact a0e ⟨trivial,trivial⟩ rfl (.refl _)

/- laws.szAtomSS -/
def c91:a0m :=
 (.seq (.reg (tm 4 (.c (.int .i64 0)) .done))
 (.seq (.reg (tm 6 (.t 1) (tm 7 (.t 0) (tq 8 (.len (.t 7)) (tq 9 (.bin .sub (.t 6) (.t 8)) (tm 1 (.t 9) .done))))))
 (.seq (.seq (.reg (tm 10 (.t 1) (tq 11 (.bin .lss (.t 10) (.c (.int .i64 0))) .done)))
 (.cond (.t 11) (.seq (.reg (tq 4 (.mov (.c (.int .i64 (-1)))) .done))
 .ret)
 .skip))
 (.seq (.seq (.reg (tm 5 (.c (.int .i64 0)) .done))
 (.block 0 (.loop (.seq (.seq (.reg (tm 12 (.t 5) (tm 13 (.t 0) (tq 14 (.len (.t 13)) (tq 15 (.bin .lss (.t 12) (.t 14)) .done)))))
 (.cond (.t 15) .skip
 (.exit 0)))
 (.seq (.block 1 (.seq (.reg (tm 18 (.t 0) (tm 19 (.t 5) (tq 20 (.iaddr 1 (.t 18) (.t 19)) (tq 21 (.load 1 false (.t 20)) (tm 22 (.t 1) (tq 23 (.call 190 [(.t 21),(.t 22)]) (tm 1 (.t 23) .done))))))))
 (.seq (.reg (tm 24 (.t 1) (tq 25 (.bin .lss (.t 24) (.c (.int .i64 0))) .done)))
 (.cond (.t 25) (.seq (.reg (tq 4 (.mov (.c (.int .i64 (-1)))) .done))
 .ret)
 .skip))))
 (.reg (tm 16 (.t 5) (tq 17 (.bin .add (.t 16) (.c (.int .i64 1))) (tm 5 (.t 17) .done)))))))))
 (.cut (.seq (.reg (tm 26 (.t 1) (tm 4 (.t 26) .done)))
 .ret))))))
theorem e5v:a1a Tryz.prog Tryz.f91 = some (c91.erase,[.mov (.t 4)],27):=by kernel_rfl
def a3k :List (List a0a) → Int → Option (Fl Int Int)
  | [],left_21 =>
    some (.go left_21)
  | x_39 :: xs,left_21 =>
    (a9x x_39 left_21).bind fun r_42 =>
    if (decide (r_42 < 0)) then
    some (.ret (-1))
    else
    a3k xs r_42 

def a8q (a_1:(List (List a0a))) (left_2:Int):Option Int :=
    if (decide (w64 (left_2 - (a_1.length:Int)) < 0)) then
    some (-1)
    else
    (a3k a_1 (w64 (left_2 - (a_1.length:Int)))).bind fun q => (match q with
    | .ret r => some r
    | .go left_31 =>
    some left_31)
theorem c2i (a_1:(List (List a0a))) (left_2:Int) (r:Int) (hf:a8q a_1 left_2 = some r):x9 Tryz.prog 91 .flat [(.lst 1 (a_1.map (a0t 3 l9))),(.int .i64 left_2)] (.int .i64 r):=by
 refine x9.of_awp mixed Tryz.func91 e5v nle ?_;rw [a0j];unfold a8q at hf;unfold c91;refine (show awp Tryz.prog false 0 _ (ofL [(0,(.lst 1 (a_1.map (a0t 3 l9)))),(1,(.int .i64 left_2))]) [] _ from ?_);refine sr<|l7 (.int .i64 0) rfl<|dk<|sr<|l7 (.int .i64 left_2) rfl<|l7 (.lst 1 (a_1.map (a0t 3 l9))) rfl<|a0w (a1r (enc:=(a0t 3 l9)) rfl) fun hl3 => x8 (.int .i64 (w64 (left_2 - (a_1.length:Int)))) rfl rfl rfl<|l7 (.int .i64 (w64 (left_2 - (a_1.length:Int)))) rfl<|dk<|o6<|sr<|l7 (.int .i64 (w64 (left_2 - (a_1.length:Int)))) rfl<|x8 (.bool (decide (w64 (left_2 - (a_1.length:Int)) < 0))) rfl rfl rfl<|?_
 refine dk<|?_
 rcases oi hf with ⟨c4,hf⟩ | ⟨c4,hf⟩
 ·refine y7 rfl c4<|sr<|l7 (.int .i64 (-1)) rfl<|dk<|a0d<|?_;obtain rfl:=os hf;exact a0e ⟨trivial,trivial⟩ rfl (.refl _)
 ·refine y8 rfl (bf c4)<|a0h<|a0f<|o6<|sr<|l7 (.int .i64 0) rfl<|dk<|?_
  obtain ⟨p32,hb1,hf⟩:=ob hf
  refine a4n (X:={q:Int // p32 = .go q}) (fun q => ([(1,(.int .i64 q.1))],[])) ?_ ?_
  ·refine a1g (X:={q:(Int × Nat) // a3k (a_1.drop q.2) q.1 = some p32}) (fun q => ([(0,(.lst 1 (a_1.map (a0t 3 l9)))),(1,(.int .i64 q.1.1)),(5,(.int .i64 (q.1.2:Int)))],[])) (fun q => a_1.length - q.1.2) ⟨(w64 (left_2 - (a_1.length:Int)),0),hb1⟩ ⟨[],[],_,_,rfl,rfl,⟨.refl _,⟨.refl _,⟨.refl _,trivial⟩⟩⟩,(.refl _)⟩ ?_
   rintro ⟨⟨left_21,i_22⟩,hc1⟩
   have hc1:a3k (a_1.drop i_22) left_21 = some p32:=hc1
   refine (show awp Tryz.prog false 0 _ (ofL [(0,(.lst 1 (a_1.map (a0t 3 l9)))),(1,(.int .i64 left_21)),(5,(.int .i64 (i_22:Int)))]) [] _ from ?_)
   rcases a5z a_1 i_22 with ⟨hie35,hd38⟩ | ⟨hlt33,x_39,hx34,hd38⟩
   ·rw [hd38,a3k.eq_1] at hc1
    have hq37:=dlf hie35
    refine o6<|sr<|l7 (.int .i64 (i_22:Int)) rfl<|l7 (.lst 1 (a_1.map (a0t 3 l9))) rfl<|a0w (a1r (enc:=(a0t 3 l9)) rfl) fun hl40 => x8 (.bool (decide ((i_22:Int) < (a_1.length:Int)))) rfl rfl rfl<|dk<|y8 rfl hq37<|a2t<|a2s<|a1y<|a2r<|?_;obtain rfl:=os hc1;exact a6r ⟨_,rfl⟩ ⟨[],[],_,_,rfl,rfl,⟨.refl _,trivial⟩,(.refl _)⟩
   ·rw [hd38,a3k.eq_2] at hc1
    have hq37:=dlt hlt33
    refine o6<|sr<|l7 (.int .i64 (i_22:Int)) rfl<|l7 (.lst 1 (a_1.map (a0t 3 l9))) rfl<|a0w (a1r (enc:=(a0t 3 l9)) rfl) fun hl41 => x8 (.bool (decide ((i_22:Int) < (a_1.length:Int)))) rfl rfl rfl<|dk<|y7 rfl hq37<|a0h<|a0f<|o6<|a3g<|sr<|?_
    obtain ⟨r_42,er43,hc1⟩:=ob hc1
    refine l7 (.lst 1 (a_1.map (a0t 3 l9))) rfl<|l7 (.int .i64 (i_22:Int)) rfl<|y5 (a2c (enc:=(a0t 3 l9)) rfl rfl hx34)<|x8 (.lst 3 (x_39.map l9)) rfl ⟨rfl,rfl⟩ rfl<|l7 (.int .i64 left_21) rfl<|y5 (a0v (c4p _ _ _ er43) rfl (.refl _) rfl)<|l7 (.int .i64 r_42) rfl<|dk<|sr<|l7 (.int .i64 r_42) rfl<|x8 (.bool (decide (r_42 < 0))) rfl rfl rfl<|dk<|?_
    rcases oi hc1 with ⟨c44,hc1⟩ | ⟨c44,hc1⟩
    ·refine y7 rfl c44<|sr<|l7 (.int .i64 (-1)) rfl<|dk<|a0d<|?_;obtain rfl:=os hc1;obtain rfl:=os hf;exact a0e ⟨trivial,trivial⟩ rfl (.refl _)
    ·refine y8 rfl (bf c44)<|a0h<|a3f<|a0f<|a0s<|l7 (.int .i64 (i_22:Int)) rfl<|x8 (.int .i64 (w64 ((i_22:Int) + 1))) rfl rfl rfl<|l7 (.int .i64 (w64 ((i_22:Int) + 1))) rfl<|a0b<|?_;exact a1q ⟨(r_42,(i_22 + 1)),hc1⟩ (mul hlt33) ⟨[],[],_,_,rfl,rfl,⟨.refl _,⟨.refl _,⟨.of_eq (congrArg (AV.int _) (a1w hlt33 hl41)),trivial⟩⟩⟩,(.refl _)⟩
  ·rintro ⟨left_31,rfl⟩
   refine sr<|l7 (.int .i64 left_31) rfl<|l7 (.int .i64 left_31) rfl<|dk<|a0d<|?_;obtain rfl:=os hf;exact a0e ⟨trivial,trivial⟩ rfl (.refl _)

/- laws.szRow -/
def c18:a0m :=
 (.seq (.reg (tq 2 (.box 2 (.t 0)) (tm 4 (.c (.int .i64 0)) .done)))
 (.seq (.reg (tq 5 (.faddr 1 (.t 2)) (tq 6 (.load 1 false (.t 5)) (tm 7 (.t 1) (tq 8 (.call 91 [(.t 6),(.t 7)]) (tm 1 (.t 8) .done))))))
 (.seq (.seq (.reg (tm 9 (.t 1) (tq 10 (.bin .lss (.t 9) (.c (.int .i64 0))) .done)))
 (.cond (.t 10) (.seq (.reg (tq 4 (.mov (.c (.int .i64 (-1)))) .done))
 .ret)
 .skip))
 (.seq (.reg (tm 11 (.t 1) (tm 4 (.t 11) .done)))
 .ret))))
theorem e5w:a1a Tryz.prog Tryz.f18 = some (c18.erase,[.mov (.t 4)],12):=by kernel_rfl
def b2z (a_1:a3r) (left_2:Int):Option Int :=
    (a8q a_1.Cells left_2).bind fun r_3 =>
    if (decide (r_3 < 0)) then
    some (-1)
    else
    some r_3
theorem c9f (a_1:a3r) (left_2:Int) (r:Int) (hf:b2z a_1 left_2 = some r):x9 Tryz.prog 18 .flat [(a3t a_1),(.int .i64 left_2)] (.int .i64 r):=by
 refine x9.of_awp mixed Tryz.func18 e5w nle ?_;rw [a0j];unfold b2z at hf;unfold c18;refine (show awp Tryz.prog false 0 _ (ofL [(0,(a3t a_1)),(1,(.int .i64 left_2))]) [] _ from ?_);refine sr<|y5 (a1i (j:=0) (c:=(.agg [(.int .i64 a_1.Id),(.lst 1 (a_1.Cells.map (a0t 3 l9)))])) rfl trivial rfl rfl)<|l7 (.int .i64 0) rfl<|dk<|sr<|?_
 obtain ⟨r_3,er4,hf⟩:=ob hf
 refine x8 (.ptr 0 0 1) rfl trivial rfl<|x8 (.lst 1 (a_1.Cells.map (a0t 3 l9))) rfl nle rfl<|l7 (.int .i64 left_2) rfl<|y5 (a0v (c2i _ _ _ er4) rfl (.refl _) rfl)<|l7 (.int .i64 r_3) rfl<|dk<|o6<|sr<|l7 (.int .i64 r_3) rfl<|x8 (.bool (decide (r_3 < 0))) rfl rfl rfl<|dk<|?_
 rcases oi hf with ⟨c5,hf⟩ | ⟨c5,hf⟩
 ·refine y7 rfl c5<|sr<|l7 (.int .i64 (-1)) rfl<|dk<|a0d<|?_;obtain rfl:=os hf;exact a0e ⟨trivial,trivial⟩ rfl (.refl _)
 ·refine y8 rfl (bf c5)<|a0h<|a0f<|sr<|l7 (.int .i64 r_3) rfl<|l7 (.int .i64 r_3) rfl<|dk<|a0d<|?_;obtain rfl:=os hf;exact a0e ⟨trivial,trivial⟩ rfl (.refl _)

/- laws.toStringS -/
def c20:a0m :=
 (.seq (.reg (tm 2 (.c .nil) .done))
 (.seq (.reg (tm 5 (.t 0) (tq 6 (.len (.t 5)) (tq 7 (.mkslice 1 16 (.str []) (.t 6) (.t 6)) (tm 3 (.t 7) .done)))))
 (.seq (.seq (.reg (tm 4 (.c (.int .i64 0)) .done))
 (.block 0 (.loop (.seq (.seq (.reg (tm 8 (.t 4) (tm 9 (.t 0) (tq 10 (.len (.t 9)) (tq 11 (.bin .lss (.t 8) (.t 10)) .done)))))
 (.cond (.t 11) .skip
 (.exit 0)))
 (.seq (.block 1 (.reg (tm 14 (.t 3) (tm 15 (.t 4) (tm 16 (.t 0) (tm 17 (.t 4) (tq 18 (.iaddr 1 (.t 16) (.t 17)) (tq 19 (.load 1 false (.t 18)) (tq 20 (.iaddr 1 (.t 14) (.t 15)) (.q ⟨none,none,.store 1 (.t 20) (.t 19)⟩
 .done))))))))))
 (.reg (tm 12 (.t 4) (tq 13 (.bin .add (.t 12) (.c (.int .i64 1))) (tm 4 (.t 13) .done)))))))))
 (.cut (.seq (.reg (tm 21 (.t 3) (tm 2 (.t 21) .done)))
 .ret)))))
theorem e5x:a1a Tryz.prog Tryz.f20 = some (c20.erase,[.mov (.t 2)],22):=by kernel_rfl
def a3b :List Str → Nat → (List Str) → Option (List Str)
  | [],i_20,out_21 =>
    some out_21
  | x_38 :: xs,i_20,out_21 =>
    if i_20 < out_21.length then
    (out_21[i_20]?).bind fun x_42 =>
    a3b xs (i_20 + 1) (out_21.set i_20 x_38)
    else none

def a5l (a_1:(List Str)):Option (List Str) :=
    if (a_1.length:Int) ≤ 2 ^ 30 then
    (a3b a_1 0 (List.replicate a_1.length [])).bind fun out_30 =>
    some out_30
    else none
theorem a5v (a_1:(List Str)) (r:(List Str)) (hf:a5l a_1 = some r):x9 Tryz.prog 20 .fresh [(.lst 1 (a_1.map AV.str))] (.lst 1 (r.map AV.str)):=by
 refine x9.of_awp mixed Tryz.func20 e5x nle ?_;rw [a0j];unfold a5l at hf;unfold c20;refine (show awp Tryz.prog true 0 _ (ofL [(0,(.lst 1 (a_1.map AV.str)))]) [] _ from ?_);refine sr<|l7 .nil rfl<|dk<|sr<|?_
 obtain ⟨g3,hf⟩:=og hf
 refine l7 (.lst 1 (a_1.map AV.str)) rfl<|a0w (a1r (enc:=AV.str) rfl) fun hl2 => y5 (c0r (j:=0) (enc:=AV.str) (m:=a_1.length) [] (.refl _) rfl rfl (Int.le_refl _) g3 rfl)<|l7 (.own 0 0 a_1.length) rfl<|dk<|o6<|sr<|l7 (.int .i64 0) rfl<|dk<|?_
 obtain ⟨out_30,hb1,hf⟩:=ob hf
 refine a2a ([(3,(.own 0 0 out_30.length))],[.row 1 (out_30.map AV.str)]) ?_ ?_
 ·refine a1g (X:={q:(Nat × (List Str)) // a3b (a_1.drop q.1) q.1 q.2 = some out_30}) (fun q => ([(0,(.lst 1 (a_1.map AV.str))),(3,(.own 0 0 q.1.2.length)),(4,(.int .i64 (q.1.1:Int)))],[.row 1 (q.1.2.map AV.str)])) (fun q => a_1.length - q.1.1) ⟨(0,List.replicate a_1.length []),hb1⟩ ⟨[],[0],_,_,rfl,rfl,⟨.refl _,⟨.of_eq (congrArg (AV.own _ 0) (by simp)),⟨.refl _,trivial⟩⟩⟩,(.refl _)⟩ ?_
  rintro ⟨⟨i_20,out_21⟩,hc1⟩
  have hc1:a3b (a_1.drop i_20) i_20 out_21 = some out_30:=hc1
  refine (show awp Tryz.prog true 0 _ (ofL [(0,(.lst 1 (a_1.map AV.str))),(3,(.own 0 0 out_21.length)),(4,(.int .i64 (i_20:Int)))]) [.row 1 (out_21.map AV.str)] _ from ?_)
  rcases a5z a_1 i_20 with ⟨hie34,hd37⟩ | ⟨hlt32,x_38,hx33,hd37⟩
  ·rw [hd37,a3b.eq_1] at hc1
   have hq36:=dlf hie34
   refine o6<|sr<|l7 (.int .i64 (i_20:Int)) rfl<|l7 (.lst 1 (a_1.map AV.str)) rfl<|a0w (a1r (enc:=AV.str) rfl) fun hl39 => x8 (.bool (decide ((i_20:Int) < (a_1.length:Int)))) rfl rfl rfl<|dk<|y8 rfl hq36<|a2t<|a2s<|a1y<|a2r<|?_;obtain rfl:=os hc1;exact ⟨[],[0],_,_,rfl,rfl,⟨.refl _,trivial⟩,(.refl _)⟩
  ·rw [hd37,a3b.eq_2] at hc1
   have hq36:=dlt hlt32
   refine o6<|sr<|l7 (.int .i64 (i_20:Int)) rfl<|l7 (.lst 1 (a_1.map AV.str)) rfl<|a0w (a1r (enc:=AV.str) rfl) fun hl40 => x8 (.bool (decide ((i_20:Int) < (a_1.length:Int)))) rfl rfl rfl<|dk<|y7 rfl hq36<|a0h<|a0f<|o6<|a3g<|a0s<|?_
   obtain ⟨g41,hc1⟩:=og hc1
   obtain ⟨x_42,ex43,hc1⟩:=ob hc1
   refine l7 (.own 0 0 out_21.length) rfl<|l7 (.int .i64 (i_20:Int)) rfl<|l7 (.lst 1 (a_1.map AV.str)) rfl<|l7 (.int .i64 (i_20:Int)) rfl<|y5 (a2c (enc:=AV.str) rfl rfl hx33)<|x8 (.str x_38) rfl ⟨rfl,rfl⟩ rfl<|y5 (b1o rfl rfl g41 rfl rfl)<|?_;refine a2i (a5y (v':=(.str x_38)) (e':=x_38) rfl rfl ex43 rfl rfl rfl (by decide) (fun _ => by decide) ⟨rfl,rfl,rfl⟩ (.refl _) rfl) ?_;refine a0b<|a3f<|a0f<|a0s<|l7 (.int .i64 (i_20:Int)) rfl<|x8 (.int .i64 (w64 ((i_20:Int) + 1))) rfl rfl rfl<|l7 (.int .i64 (w64 ((i_20:Int) + 1))) rfl<|a0b<|?_;exact a1q ⟨((i_20 + 1),out_21.set i_20 x_38),hc1⟩ (mul hlt32) ⟨[],[0],_,_,rfl,rfl,⟨.refl _,⟨.of_eq (congrArg (AV.own _ 0) (by simp)),⟨.of_eq (congrArg (AV.int _) (a1w hlt32 hl40)),trivial⟩⟩⟩,(.refl _)⟩
 ·refine sr<|l7 (.own 0 0 out_30.length) rfl<|l7 (.own 0 0 out_30.length) rfl<|dk<|a0d<|?_;obtain rfl:=os hf;exact a2k ⟨trivial,trivial⟩ rfl (by decide) (.of_eq (congrArg (AV.lst _) (tk (enc:=AV.str) out_30)))

/- laws.toAtom -/
def e2f:a0m :=
 (.seq (.reg (tq 1 (.box 3 (.t 0)) (tq 2 (.box 3 (.c (.agg [(.int .i64 0),(.int .i64 0),(.str [])]))) .done)))
 (.seq (.reg (tq 3 (.box 3 (.c (.agg [(.int .i64 0),(.int .i64 0),(.str [])]))) .done))
 (.seq (.reg (tq 4 (.faddr 0 (.t 1)) (tq 5 (.load 1 false (.t 4)) (tq 6 (.faddr 0 (.t 3)) (.q ⟨none,none,.store 1 (.t 6) (.t 5)⟩
 .done)))))
 (.seq (.reg (tq 7 (.faddr 1 (.t 1)) (tq 8 (.load 1 false (.t 7)) (tq 9 (.faddr 1 (.t 3)) (.q ⟨none,none,.store 1 (.t 9) (.t 8)⟩
 .done)))))
 (.seq (.reg (tq 10 (.faddr 2 (.t 1)) (tq 11 (.load 1 false (.t 10)) (tq 12 (.faddr 2 (.t 3)) (.q ⟨none,none,.store 1 (.t 12) (.t 11)⟩
 .done)))))
 (.seq (.reg (tq 13 (.load 3 true (.t 3)) (.q ⟨none,none,.store 3 (.t 2) (.t 13)⟩
 .done)))
 .ret))))))
theorem e2g:a1a Tryz.prog Tryz.f283 = some (e2f.erase,[.load 3 true (.t 2)],14):=by kernel_rfl
def b1q (a_1:a0a):Option a0a :=
    some a_1
theorem c6d (a_1:a0a) (r:a0a) (hf:b1q a_1 = some r):x9 Tryz.prog 283 .flat [(l9 a_1)] (l9 r):=by
 refine x9.of_awp mixed Tryz.func283 e2g nle ?_;rw [a0j];unfold b1q at hf;unfold e2f;refine (show awp Tryz.prog false 0 _ (ofL [(0,(l9 a_1))]) [] _ from ?_);refine sr<|y5 (a1i (j:=0) (c:=(.agg [(.int .i64 a_1.Kind),(.int .i64 a_1.N),(.str a_1.T)])) rfl trivial rfl rfl)<|y5 (a1i (j:=1) (c:=(.agg [(.int .i64 0),(.int .i64 0),(.str [])])) rfl trivial rfl rfl)<|dk<|sr<|y5 (a1i (j:=2) (c:=(.agg [(.int .i64 0),(.int .i64 0),(.str [])])) rfl trivial rfl rfl)<|dk<|sr<|x8 (.ptr 0 0 0) rfl trivial rfl<|x8 (.int .i64 a_1.Kind) rfl nle rfl<|x8 (.ptr 2 0 0) rfl trivial rfl<|a2i (a0c (v:=(.int .i64 a_1.Kind)) (y':=(.agg [(.int .i64 a_1.Kind),(.int .i64 0),(.str [])])) rfl rfl rfl trivial ⟨rfl,nle⟩ ⟨⟨rfl,trivial⟩,trivial⟩ rfl)<|?_
 refine dk<|sr<|x8 (.ptr 0 0 1) rfl trivial rfl<|x8 (.int .i64 a_1.N) rfl nle rfl<|x8 (.ptr 2 0 1) rfl trivial rfl<|a2i (a0c (v:=(.int .i64 a_1.N)) (y':=(.agg [(.int .i64 a_1.Kind),(.int .i64 a_1.N),(.str [])])) rfl rfl rfl trivial ⟨rfl,nle⟩ ⟨⟨rfl,trivial⟩,trivial⟩ rfl)<|dk<|sr<|x8 (.ptr 0 0 2) rfl trivial rfl<|x8 (.str a_1.T) rfl nle rfl<|x8 (.ptr 2 0 2) rfl trivial rfl<|a2i (a0c (v:=(.str a_1.T)) (y':=(.agg [(.int .i64 a_1.Kind),(.int .i64 a_1.N),(.str a_1.T)])) rfl rfl rfl trivial ⟨rfl,nle⟩ ⟨⟨rfl,trivial⟩,trivial⟩ rfl)<|dk<|sr<|x8 (.agg [(.int .i64 a_1.Kind),(.int .i64 a_1.N),(.str a_1.T)]) rfl nle rfl<|?_
 refine a2i (a0c (v:=(.agg [(.int .i64 a_1.Kind),(.int .i64 a_1.N),(.str a_1.T)])) (y':=(.agg [(.int .i64 a_1.Kind),(.int .i64 a_1.N),(.str a_1.T)])) rfl rfl rfl trivial ⟨rfl,nle⟩ ⟨⟨rfl,trivial⟩,⟨⟨rfl,trivial⟩,⟨⟨rfl,trivial⟩,trivial⟩⟩⟩ rfl)<|dk<|a0d<|?_;obtain rfl:=os hf;exact a0e ⟨nle,trivial⟩ rfl (.refl _)

/- laws.toAtomS -/
def c193:a0m :=
 (.seq (.reg (tm 2 (.c .nil) .done))
 (.seq (.reg (tm 5 (.t 0) (tq 6 (.len (.t 5)) (tq 7 (.mkslice 3 32 (.agg [(.int .i64 0),(.int .i64 0),(.str [])]) (.t 6) (.t 6)) (tm 3 (.t 7) .done)))))
 (.seq (.seq (.reg (tm 4 (.c (.int .i64 0)) .done))
 (.block 0 (.loop (.seq (.seq (.reg (tm 8 (.t 4) (tm 9 (.t 0) (tq 10 (.len (.t 9)) (tq 11 (.bin .lss (.t 8) (.t 10)) .done)))))
 (.cond (.t 11) .skip
 (.exit 0)))
 (.seq (.block 1 (.reg (tm 14 (.t 3) (tm 15 (.t 4) (tm 16 (.t 0) (tm 17 (.t 4) (tq 18 (.iaddr 3 (.t 16) (.t 17)) (tq 19 (.load 3 true (.t 18)) (tq 20 (.call 283 [(.t 19)]) (tq 21 (.iaddr 3 (.t 14) (.t 15)) (.q ⟨none,none,.store 3 (.t 21) (.t 20)⟩
 .done)))))))))))
 (.reg (tm 12 (.t 4) (tq 13 (.bin .add (.t 12) (.c (.int .i64 1))) (tm 4 (.t 13) .done)))))))))
 (.cut (.seq (.reg (tm 22 (.t 3) (tm 2 (.t 22) .done)))
 .ret)))))
theorem e2h:a1a Tryz.prog Tryz.f193 = some (c193.erase,[.mov (.t 2)],23):=by kernel_rfl
def a4a :List a0a → Nat → (List a0a) → Option (List a0a)
  | [],i_24,out_25 =>
    some out_25
  | x_44 :: xs,i_24,out_25 =>
    (b1q x_44).bind fun r_47 =>
    if i_24 < out_25.length then
    (out_25[i_24]?).bind fun x_50 =>
    a4a xs (i_24 + 1) (out_25.set i_24 r_47)
    else none

def a9y (a_1:(List a0a)):Option (List a0a) :=
    if (a_1.length:Int) ≤ 2 ^ 30 then
    (a4a a_1 0 (List.replicate a_1.length (⟨0,0,[]⟩:a0a))).bind fun out_36 =>
    some out_36
    else none
theorem c4q (a_1:(List a0a)) (r:(List a0a)) (hf:a9y a_1 = some r):x9 Tryz.prog 193 .fresh [(.lst 3 (a_1.map l9))] (.lst 3 (r.map l9)):=by
 refine x9.of_awp mixed Tryz.func193 e2h nle ?_;rw [a0j];unfold a9y at hf;unfold c193;refine (show awp Tryz.prog true 0 _ (ofL [(0,(.lst 3 (a_1.map l9)))]) [] _ from ?_);refine sr<|l7 .nil rfl<|dk<|sr<|?_
 obtain ⟨g3,hf⟩:=og hf
 refine l7 (.lst 3 (a_1.map l9)) rfl<|a0w (a1r (enc:=l9) rfl) fun hl2 => y5 (c0r (j:=0) (enc:=l9) (m:=a_1.length) (⟨0,0,[]⟩:a0a) (.refl _) rfl rfl (Int.le_refl _) g3 rfl)<|l7 (.own 0 0 a_1.length) rfl<|dk<|o6<|sr<|l7 (.int .i64 0) rfl<|dk<|?_
 obtain ⟨out_36,hb1,hf⟩:=ob hf
 refine a2a ([(3,(.own 0 0 out_36.length))],[.row 3 (out_36.map l9)]) ?_ ?_
 ·refine a1g (X:={q:(Nat × (List a0a)) // a4a (a_1.drop q.1) q.1 q.2 = some out_36}) (fun q => ([(0,(.lst 3 (a_1.map l9))),(3,(.own 0 0 q.1.2.length)),(4,(.int .i64 (q.1.1:Int)))],[.row 3 (q.1.2.map l9)])) (fun q => a_1.length - q.1.1) ⟨(0,List.replicate a_1.length (⟨0,0,[]⟩:a0a)),hb1⟩ ⟨[],[0],_,_,rfl,rfl,⟨.refl _,⟨.of_eq (congrArg (AV.own _ 0) (by simp)),⟨.refl _,trivial⟩⟩⟩,(.refl _)⟩ ?_
  rintro ⟨⟨i_24,out_25⟩,hc1⟩
  have hc1:a4a (a_1.drop i_24) i_24 out_25 = some out_36:=hc1
  refine (show awp Tryz.prog true 0 _ (ofL [(0,(.lst 3 (a_1.map l9))),(3,(.own 0 0 out_25.length)),(4,(.int .i64 (i_24:Int)))]) [.row 3 (out_25.map l9)] _ from ?_)
  rcases a5z a_1 i_24 with ⟨hie40,hd43⟩ | ⟨hlt38,x_44,hx39,hd43⟩
  ·rw [hd43,a4a.eq_1] at hc1
   have hq42:=dlf hie40
   refine o6<|sr<|l7 (.int .i64 (i_24:Int)) rfl<|l7 (.lst 3 (a_1.map l9)) rfl<|a0w (a1r (enc:=l9) rfl) fun hl45 => x8 (.bool (decide ((i_24:Int) < (a_1.length:Int)))) rfl rfl rfl<|dk<|y8 rfl hq42<|a2t<|a2s<|a1y<|a2r<|?_;obtain rfl:=os hc1;exact ⟨[],[0],_,_,rfl,rfl,⟨.refl _,trivial⟩,(.refl _)⟩
  ·rw [hd43,a4a.eq_2] at hc1
   have hq42:=dlt hlt38
   refine o6<|sr<|l7 (.int .i64 (i_24:Int)) rfl<|l7 (.lst 3 (a_1.map l9)) rfl<|a0w (a1r (enc:=l9) rfl) fun hl46 => x8 (.bool (decide ((i_24:Int) < (a_1.length:Int)))) rfl rfl rfl<|dk<|y7 rfl hq42<|a0h<|a0f<|o6<|a3g<|a0s<|?_
   obtain ⟨r_47,er48,hc1⟩:=ob hc1
   obtain ⟨g49,hc1⟩:=og hc1
   obtain ⟨x_50,ex51,hc1⟩:=ob hc1
   refine l7 (.own 0 0 out_25.length) rfl<|l7 (.int .i64 (i_24:Int)) rfl<|l7 (.lst 3 (a_1.map l9)) rfl<|l7 (.int .i64 (i_24:Int)) rfl<|y5 (a2c (enc:=l9) rfl rfl hx39)<|x8 (l9 x_44) rfl nle rfl<|y5 (a0v (c6d _ _ er48) rfl (.refl _) rfl)<|y5 (b1o rfl rfl g49 rfl rfl)<|?_;refine a2i (a5y (v':=(l9 r_47)) (e':=r_47) rfl rfl ex51 rfl rfl rfl (by decide) (fun _ => by decide) ⟨rfl,nle⟩ (.refl _) rfl) ?_;refine a0b<|a3f<|a0f<|a0s<|l7 (.int .i64 (i_24:Int)) rfl<|x8 (.int .i64 (w64 ((i_24:Int) + 1))) rfl rfl rfl<|l7 (.int .i64 (w64 ((i_24:Int) + 1))) rfl<|a0b<|?_;exact a1q ⟨((i_24 + 1),out_25.set i_24 r_47),hc1⟩ (mul hlt38) ⟨[],[0],_,_,rfl,rfl,⟨.refl _,⟨.of_eq (congrArg (AV.own _ 0) (by simp)),⟨.of_eq (congrArg (AV.int _) (a1w hlt38 hl46)),trivial⟩⟩⟩,(.refl _)⟩
 ·refine sr<|l7 (.own 0 0 out_36.length) rfl<|l7 (.own 0 0 out_36.length) rfl<|dk<|a0d<|?_;obtain rfl:=os hf;exact a2k ⟨trivial,trivial⟩ rfl (by decide) (.of_eq (congrArg (AV.lst _) (tk (enc:=l9) out_36)))

/- laws.toAtomSS -/
def c95:a0m :=
 (.seq (.reg (tm 2 (.c .nil) .done))
 (.seq (.reg (tm 5 (.t 0) (tq 6 (.len (.t 5)) (tq 7 (.mkslice 1 24 .nil (.t 6) (.t 6)) (tm 3 (.t 7) .done)))))
 (.seq (.seq (.reg (tm 4 (.c (.int .i64 0)) .done))
 (.block 0 (.loop (.seq (.seq (.reg (tm 8 (.t 4) (tm 9 (.t 0) (tq 10 (.len (.t 9)) (tq 11 (.bin .lss (.t 8) (.t 10)) .done)))))
 (.cond (.t 11) .skip
 (.exit 0)))
 (.seq (.block 1 (.reg (tm 14 (.t 3) (tm 15 (.t 4) (tm 16 (.t 0) (tm 17 (.t 4) (tq 18 (.iaddr 1 (.t 16) (.t 17)) (tq 19 (.load 1 false (.t 18)) (tq 20 (.call 193 [(.t 19)]) (tq 21 (.iaddr 1 (.t 14) (.t 15)) (.q ⟨none,none,.store 1 (.t 21) (.t 20)⟩
 .done)))))))))))
 (.reg (tm 12 (.t 4) (tq 13 (.bin .add (.t 12) (.c (.int .i64 1))) (tm 4 (.t 13) .done)))))))))
 (.cut (.seq (.reg (tm 22 (.t 3) (tm 2 (.t 22) .done)))
 .ret)))))
theorem e5y:a1a Tryz.prog Tryz.f95 = some (c95.erase,[.mov (.t 2)],23):=by kernel_rfl
def a3l :List (List a0a) → Nat → (List (List a0a)) → Option (List (List a0a))
  | [],i_24,out_25 =>
    some out_25
  | x_44 :: xs,i_24,out_25 =>
    (a9y x_44).bind fun r_47 =>
    if i_24 < out_25.length then
    (out_25[i_24]?).bind fun x_50 =>
    a3l xs (i_24 + 1) (out_25.set i_24 r_47)
    else none

def a8r (a_1:(List (List a0a))):Option (List (List a0a)) :=
    if (a_1.length:Int) ≤ 2 ^ 30 then
    (a3l a_1 0 (List.replicate a_1.length [])).bind fun out_36 =>
    some out_36
    else none
theorem c2j (a_1:(List (List a0a))) (r:(List (List a0a))) (hf:a8r a_1 = some r):x9 Tryz.prog 95 .fresh [(.lst 1 (a_1.map (a0t 3 l9)))] (.lst 1 (r.map (a0t 3 l9))):=by
 refine x9.of_awp mixed Tryz.func95 e5y nle ?_;rw [a0j];unfold a8r at hf;unfold c95;refine (show awp Tryz.prog true 0 _ (ofL [(0,(.lst 1 (a_1.map (a0t 3 l9))))]) [] _ from ?_);refine sr<|l7 .nil rfl<|dk<|sr<|?_
 obtain ⟨g3,hf⟩:=og hf
 refine l7 (.lst 1 (a_1.map (a0t 3 l9))) rfl<|a0w (a1r (enc:=(a0t 3 l9)) rfl) fun hl2 => y5 (c0r (j:=0) (enc:=(a0t 3 l9)) (m:=a_1.length) [] (.nil _) rfl rfl (Int.le_refl _) g3 rfl)<|l7 (.own 0 0 a_1.length) rfl<|dk<|o6<|sr<|l7 (.int .i64 0) rfl<|dk<|?_
 obtain ⟨out_36,hb1,hf⟩:=ob hf
 refine a2a ([(3,(.own 0 0 out_36.length))],[.row 1 (out_36.map (a0t 3 l9))]) ?_ ?_
 ·refine a1g (X:={q:(Nat × (List (List a0a))) // a3l (a_1.drop q.1) q.1 q.2 = some out_36}) (fun q => ([(0,(.lst 1 (a_1.map (a0t 3 l9)))),(3,(.own 0 0 q.1.2.length)),(4,(.int .i64 (q.1.1:Int)))],[.row 1 (q.1.2.map (a0t 3 l9))])) (fun q => a_1.length - q.1.1) ⟨(0,List.replicate a_1.length []),hb1⟩ ⟨[],[0],_,_,rfl,rfl,⟨.refl _,⟨.of_eq (congrArg (AV.own _ 0) (by simp)),⟨.refl _,trivial⟩⟩⟩,(.refl _)⟩ ?_
  rintro ⟨⟨i_24,out_25⟩,hc1⟩
  have hc1:a3l (a_1.drop i_24) i_24 out_25 = some out_36:=hc1
  refine (show awp Tryz.prog true 0 _ (ofL [(0,(.lst 1 (a_1.map (a0t 3 l9)))),(3,(.own 0 0 out_25.length)),(4,(.int .i64 (i_24:Int)))]) [.row 1 (out_25.map (a0t 3 l9))] _ from ?_)
  rcases a5z a_1 i_24 with ⟨hie40,hd43⟩ | ⟨hlt38,x_44,hx39,hd43⟩
  ·rw [hd43,a3l.eq_1] at hc1
   have hq42:=dlf hie40
   refine o6<|sr<|l7 (.int .i64 (i_24:Int)) rfl<|l7 (.lst 1 (a_1.map (a0t 3 l9))) rfl<|a0w (a1r (enc:=(a0t 3 l9)) rfl) fun hl45 => x8 (.bool (decide ((i_24:Int) < (a_1.length:Int)))) rfl rfl rfl<|dk<|y8 rfl hq42<|a2t<|a2s<|a1y<|a2r<|?_;obtain rfl:=os hc1;exact ⟨[],[0],_,_,rfl,rfl,⟨.refl _,trivial⟩,(.refl _)⟩
  ·rw [hd43,a3l.eq_2] at hc1
   have hq42:=dlt hlt38
   refine o6<|sr<|l7 (.int .i64 (i_24:Int)) rfl<|l7 (.lst 1 (a_1.map (a0t 3 l9))) rfl<|a0w (a1r (enc:=(a0t 3 l9)) rfl) fun hl46 => x8 (.bool (decide ((i_24:Int) < (a_1.length:Int)))) rfl rfl rfl<|dk<|y7 rfl hq42<|a0h<|a0f<|o6<|a3g<|a0s<|?_
   obtain ⟨r_47,er48,hc1⟩:=ob hc1
   obtain ⟨g49,hc1⟩:=og hc1
   obtain ⟨x_50,ex51,hc1⟩:=ob hc1
   refine l7 (.own 0 0 out_25.length) rfl<|l7 (.int .i64 (i_24:Int)) rfl<|l7 (.lst 1 (a_1.map (a0t 3 l9))) rfl<|l7 (.int .i64 (i_24:Int)) rfl<|y5 (a2c (enc:=(a0t 3 l9)) rfl rfl hx39)<|x8 (.lst 3 (x_44.map l9)) rfl ⟨rfl,rfl⟩ rfl<|y5 (a1m (v:=(.own 1 0 r_47.length)) (h':=[.row 3 (r_47.map l9)]) (c4q _ _ er48) rfl (.refl _) (by simp only [a1e,a1c,List.length_map,List.nil_append,List.append_nil,List.cons_append];rfl))<|y5 (b1o rfl rfl g49 rfl rfl)<|?_
   refine a2i (a5y (v':=(.lst 3 (r_47.map l9))) (e':=r_47) rfl rfl ex51 rfl rfl (by first | (simp only [tk,tko,List.take_length];done) | rfl | simp) (by decide) (fun _ => by decide) ⟨rfl,rfl,rfl⟩ (.refl _) rfl) ?_
   refine a0b<|a3f<|a0f<|a0s<|l7 (.int .i64 (i_24:Int)) rfl<|x8 (.int .i64 (w64 ((i_24:Int) + 1))) rfl rfl rfl<|l7 (.int .i64 (w64 ((i_24:Int) + 1))) rfl<|a0b<|?_;exact a1q ⟨((i_24 + 1),out_25.set i_24 r_47),hc1⟩ (mul hlt38) ⟨[],[0],_,_,rfl,rfl,⟨.refl _,⟨.of_eq (congrArg (AV.own _ 0) (by simp)),⟨.of_eq (congrArg (AV.int _) (a1w hlt38 hl46)),trivial⟩⟩⟩,(.refl _)⟩
 ·refine sr<|l7 (.own 0 0 out_36.length) rfl<|l7 (.own 0 0 out_36.length) rfl<|dk<|a0d<|?_;obtain rfl:=os hf;exact a2k ⟨trivial,trivial⟩ rfl (by decide) (.of_eq (congrArg (AV.lst _) (tk (enc:=(a0t 3 l9)) out_36)))

/- laws.toRow -/
def c21:a0m :=
 (.seq (.reg (tq 1 (.box 2 (.t 0)) (tq 2 (.box 2 (.c (.agg [(.int .i64 0),.nil]))) .done)))
 (.seq (.reg (tq 3 (.box 2 (.c (.agg [(.int .i64 0),.nil]))) .done))
 (.seq (.reg (tq 4 (.faddr 0 (.t 1)) (tq 5 (.load 1 false (.t 4)) (tq 6 (.faddr 0 (.t 3)) (.q ⟨none,none,.store 1 (.t 6) (.t 5)⟩
 .done)))))
 (.seq (.reg (tq 7 (.faddr 1 (.t 1)) (tq 8 (.load 1 false (.t 7)) (tq 9 (.call 95 [(.t 8)]) (tq 10 (.faddr 1 (.t 3)) (.q ⟨none,none,.store 1 (.t 10) (.t 9)⟩
 .done))))))
 (.seq (.reg (tq 11 (.load 2 true (.t 3)) (.q ⟨none,none,.store 2 (.t 2) (.t 11)⟩
 .done)))
 .ret)))))
theorem e5z:a1a Tryz.prog Tryz.f21 = some (c21.erase,[.load 2 true (.t 2)],12):=by kernel_rfl
def a7x (a_1:a3r):Option a3r :=
    (a8r a_1.Cells).bind fun r_2 =>
    some (⟨a_1.Id,r_2⟩:a3r)
theorem a6f (a_1:a3r) (r:a3r) (hf:a7x a_1 = some r):x9 Tryz.prog 21 .fresh [(a3t a_1)] (a3t r):=by
 refine x9.of_awp mixed Tryz.func21 e5z nle ?_;rw [a0j];unfold a7x at hf;unfold c21;refine (show awp Tryz.prog true 0 _ (ofL [(0,(a3t a_1))]) [] _ from ?_);refine sr<|y5 (a1i (j:=0) (c:=(.agg [(.int .i64 a_1.Id),(.lst 1 (a_1.Cells.map (a0t 3 l9)))])) rfl trivial rfl rfl)<|y5 (a1i (j:=1) (c:=(.agg [(.int .i64 0),.nil])) rfl trivial rfl rfl)<|dk<|sr<|y5 (a1i (j:=2) (c:=(.agg [(.int .i64 0),.nil])) rfl trivial rfl rfl)<|dk<|sr<|x8 (.ptr 0 0 0) rfl trivial rfl<|x8 (.int .i64 a_1.Id) rfl nle rfl<|x8 (.ptr 2 0 0) rfl trivial rfl<|a2i (a0c (v:=(.int .i64 a_1.Id)) (y':=(.agg [(.int .i64 a_1.Id),.nil])) rfl rfl rfl trivial ⟨rfl,nle⟩ ⟨⟨rfl,trivial⟩,trivial⟩ rfl)<|?_
 refine dk<|sr<|?_
 obtain ⟨r_2,er3,hf⟩:=ob hf
 refine x8 (.ptr 0 0 1) rfl trivial rfl<|x8 (.lst 1 (a_1.Cells.map (a0t 3 l9))) rfl nle rfl<|y5 (a1m (v:=(.own 3 0 r_2.length)) (h':=[.row 1 (r_2.map (a0t 3 l9))]) (c2j _ _ er3) rfl (.refl _) (by simp only [a1e,a1c,List.length_map,List.nil_append,List.append_nil,List.cons_append];rfl))<|x8 (.ptr 2 0 1) rfl trivial rfl<|a2i (a0c (v:=(.own 3 0 r_2.length)) (y':=(.agg [(.int .i64 a_1.Id),(.own 3 0 r_2.length)])) rfl rfl rfl trivial ⟨rfl,nle⟩ ⟨⟨rfl,trivial⟩,trivial⟩ rfl)<|dk<|sr<|x8 (.agg [(.int .i64 a_1.Id),(.own 3 0 r_2.length)]) rfl nle rfl<|a2i (a0c (v:=(.agg [(.int .i64 a_1.Id),(.own 3 0 r_2.length)])) (y':=(.agg [(.int .i64 a_1.Id),(.own 3 0 r_2.length)])) rfl rfl rfl trivial ⟨rfl,nle⟩ ⟨⟨rfl,trivial⟩,⟨⟨rfl,trivial⟩,trivial⟩⟩ rfl)<|?_
 refine dk<|a0d<|?_;obtain rfl:=os hf;exact a2k ⟨nle,trivial⟩ rfl (by decide) (.agg (.cons (.refl _) (.cons (.of_eq (congrArg (AV.lst _) (tk (enc:=(a0t 3 l9)) r_2))) .nil)))

/- spec.l00Letter -/
def e2i:a0m :=
 (.seq (.reg (tm 2 (.c (.bool false)) .done))
 (.seq (.reg (tm 3 (.t 0) (tq 4 (.bin .geq (.t 3) (.c (.int .u8 97))) (tm 5 (.t 4) (tg 6 5 true (.mov (.t 0)) (tg 7 5 true (.bin .leq (.t 6) (.c (.int .u8 122))) (tq 8 (.pick (.t 5) (.t 7) (.c (.bool false))) (tm 9 (.t 8) (tg 10 9 false (.mov (.t 0)) (tg 11 9 false (.bin .geq (.t 10) (.c (.int .u8 65))) (tg 12 9 false (.mov (.t 11)) (tg 13 12 true (.mov (.t 0)) (tg 14 12 true (.bin .leq (.t 13) (.c (.int .u8 90))) (tg 15 9 false (.pick (.t 12) (.t 14) (.c (.bool false))) (tq 16 (.pick (.t 9) (.c (.bool true)) (.t 15)) (tm 17 (.t 16) (tg 18 17 false (.mov (.t 0)) (tg 19 17 false (.bin .eql (.t 18) (.c (.int .u8 95))) (tq 20 (.pick (.t 17) (.c (.bool true)) (.t 19)) (tm 2 (.t 20) .done))))))))))))))))))))
 .ret))
theorem e2j:a1a Tryz.prog Tryz.f332 = some (e2i.erase,[.mov (.t 2)],21):=by kernel_rfl
def a6t (c_1:Int):Option Bool :=
    some (bif (bif (bif (decide (c_1 ≥ 97)) then (decide (c_1 ≤ 122)) else false) then true else (bif (decide (c_1 ≥ 65)) then (decide (c_1 ≤ 90)) else false)) then true else (c_1 == 95))
theorem b0w (c_1:Int) (r:Bool) (hf:a6t c_1 = some r):x9 Tryz.prog 332 .flat [(.int .u8 c_1)] (.bool r):=by
 refine x9.of_awp mixed Tryz.func332 e2j nle ?_;rw [a0j];unfold a6t at hf;unfold e2i;refine (show awp Tryz.prog false 0 _ (ofL [(0,(.int .u8 c_1))]) [] _ from ?_);refine sr<|l7 (.bool false) rfl<|dk<|sr<|l7 (.int .u8 c_1) rfl<|x8 (.bool (decide (c_1 ≥ 97))) rfl rfl rfl<|l7 (.bool (decide (c_1 ≥ 97))) rfl<|?_;refine s_g (v:=(decide (c_1 ≥ 97))) (.int .u8 c_1) rfl (fun hv => by (try simp only [a1s hv]);exact ⟨rfl,trivial,rfl⟩) ?_;refine s_g (v:=(decide (c_1 ≥ 97))) (.bool (decide (c_1 ≤ 122))) rfl (fun hv => by (try simp only [a1s hv]);exact ⟨rfl,rfl,rfl⟩) ?_;refine b3q (x:=(decide (c_1 ≤ 122))) (y:=false) rfl (fun hv => by (try simp only [a1s hv]);rfl) (fun hv => by (try simp only [a1s hv]);rfl) ?_
 refine l7 (.bool (bif (decide (c_1 ≥ 97)) then (decide (c_1 ≤ 122)) else false)) rfl ?_;refine s_g (v:=(bif (decide (c_1 ≥ 97)) then (decide (c_1 ≤ 122)) else false)) (.int .u8 c_1) rfl (fun hv => by (try simp only [a1s hv]);exact ⟨rfl,trivial,rfl⟩) ?_;refine s_g (v:=(bif (decide (c_1 ≥ 97)) then (decide (c_1 ≤ 122)) else false)) (.bool (decide (c_1 ≥ 65))) rfl (fun hv => by (try simp only [a1s hv]);exact ⟨rfl,rfl,rfl⟩) ?_;refine s_g (v:=(bif (decide (c_1 ≥ 97)) then (decide (c_1 ≤ 122)) else false)) (.bool (decide (c_1 ≥ 65))) rfl (fun hv => by (try simp only [a1s hv]);exact ⟨rfl,trivial,rfl⟩) ?_;refine d9n (v1:=(bif (decide (c_1 ≥ 97)) then (decide (c_1 ≤ 122)) else false)) (b1:=false) (v2:=(decide (c_1 ≥ 65))) (.int .u8 c_1) rfl (fun hv hw => by (try simp only [a1s hv,a1s hw]);exact ⟨rfl,trivial,rfl⟩) ?_
 refine d9n (v1:=(bif (decide (c_1 ≥ 97)) then (decide (c_1 ≤ 122)) else false)) (b1:=false) (v2:=(decide (c_1 ≥ 65))) (.bool (decide (c_1 ≤ 90))) rfl (fun hv hw => by (try simp only [a1s hv,a1s hw]);exact ⟨rfl,rfl,rfl⟩) ?_;refine e1y (v1:=(bif (decide (c_1 ≥ 97)) then (decide (c_1 ≤ 122)) else false)) (b1:=false) (v2:=(decide (c_1 ≥ 65))) (x:=(decide (c_1 ≤ 90))) (y:=false) rfl (fun hv => by (try simp only [a1s hv]);rfl) (fun hv hw => by (try simp only [a1s hv,a1s hw]);rfl) (fun hv hw => by (try simp only [a1s hv,a1s hw]);rfl) ?_;refine b3q (x:=true) (y:=(bif (decide (c_1 ≥ 65)) then (decide (c_1 ≤ 90)) else false)) rfl (fun hv => by (try simp only [a1s hv]);rfl) (fun hv => by (try simp only [a1s hv]);rfl) ?_
 refine l7 (.bool (bif (bif (decide (c_1 ≥ 97)) then (decide (c_1 ≤ 122)) else false) then true else (bif (decide (c_1 ≥ 65)) then (decide (c_1 ≤ 90)) else false))) rfl ?_;refine s_g (v:=(bif (bif (decide (c_1 ≥ 97)) then (decide (c_1 ≤ 122)) else false) then true else (bif (decide (c_1 ≥ 65)) then (decide (c_1 ≤ 90)) else false))) (.int .u8 c_1) rfl (fun hv => by (try simp only [a1s hv]);exact ⟨rfl,trivial,rfl⟩) ?_;refine s_g (v:=(bif (bif (decide (c_1 ≥ 97)) then (decide (c_1 ≤ 122)) else false) then true else (bif (decide (c_1 ≥ 65)) then (decide (c_1 ≤ 90)) else false))) (.bool (c_1 == 95)) rfl (fun hv => by (try simp only [a1s hv]);exact ⟨rfl,rfl,rfl⟩) ?_;refine b3q (x:=true) (y:=(c_1 == 95)) rfl (fun hv => by (try simp only [a1s hv]);rfl) (fun hv => by (try simp only [a1s hv]);rfl) ?_
 refine l7 (.bool (bif (bif (bif (decide (c_1 ≥ 97)) then (decide (c_1 ≤ 122)) else false) then true else (bif (decide (c_1 ≥ 65)) then (decide (c_1 ≤ 90)) else false)) then true else (c_1 == 95))) rfl<|dk<|a0d<|?_;obtain rfl:=os hf;exact a0e ⟨trivial,trivial⟩ rfl (.refl _)

/- spec.l00Digit -/
def e2k:a0m :=
 (.seq (.reg (tm 2 (.c (.bool false)) .done))
 (.seq (.reg (tm 3 (.t 0) (tq 4 (.bin .geq (.t 3) (.c (.int .u8 48))) (tm 5 (.t 4) (tg 6 5 true (.mov (.t 0)) (tg 7 5 true (.bin .leq (.t 6) (.c (.int .u8 57))) (tq 8 (.pick (.t 5) (.t 7) (.c (.bool false))) (tm 2 (.t 8) .done))))))))
 .ret))
theorem e2l:a1a Tryz.prog Tryz.f333 = some (e2k.erase,[.mov (.t 2)],9):=by kernel_rfl
def a8s (c_1:Int):Option Bool :=
    if (decide (c_1 ≥ 48)) then
    some (decide (c_1 ≤ 57))
    else
    some false
theorem c2k (c_1:Int) (r:Bool) (hf:a8s c_1 = some r):x9 Tryz.prog 333 .flat [(.int .u8 c_1)] (.bool r):=by
 refine x9.of_awp mixed Tryz.func333 e2l nle ?_;rw [a0j];unfold a8s at hf;unfold e2k;refine (show awp Tryz.prog false 0 _ (ofL [(0,(.int .u8 c_1))]) [] _ from ?_);refine sr<|l7 (.bool false) rfl<|dk<|sr<|?_
 rcases oi hf with ⟨c2,hf⟩ | ⟨c2,hf⟩
 ·refine l7 (.int .u8 c_1) rfl<|x8 (.bool (decide (c_1 ≥ 48))) rfl rfl rfl<|l7 (.bool (decide (c_1 ≥ 48))) rfl<|a1p (s:=5) (b:=true) rfl c2<|s_on rfl<|l7 (.int .u8 c_1) rfl<|s_on rfl<|x8 (.bool (decide (c_1 ≤ 57))) rfl rfl rfl<|x8 (.bool (decide (c_1 ≤ 57))) rfl trivial rfl<|l7 (.bool (decide (c_1 ≤ 57))) rfl<|dk<|a0d<|?_;obtain rfl:=os hf;exact a0e ⟨trivial,trivial⟩ rfl (.refl _)
 ·refine l7 (.int .u8 c_1) rfl<|x8 (.bool (decide (c_1 ≥ 48))) rfl rfl rfl<|l7 (.bool (decide (c_1 ≥ 48))) rfl<|a1p (s:=5) (b:=false) rfl (bf c2)<|a0g rfl rfl<|a0g rfl rfl<|x8 (.bool false) rfl trivial rfl<|l7 (.bool false) rfl<|dk<|a0d<|?_;obtain rfl:=os hf;exact a0e ⟨trivial,trivial⟩ rfl (.refl _)

/- spec.l00Word -/
def e2m:a0m :=
 (.seq (.reg (tm 2 (.c (.bool false)) .done))
 (.seq (.seq (.reg (tm 4 (.t 0) (tq 5 (.lenS (.t 4)) (tq 6 (.bin .lss (.t 5) (.c (.int .i64 1))) (tm 7 (.t 6) (tg 8 7 false (.mov (.t 0)) (tg 9 7 false (.lenS (.t 8)) (tg 10 7 false (.bin .gtr (.t 9) (.c (.int .i64 40))) (tq 11 (.pick (.t 7) (.c (.bool true)) (.t 10)) (tm 12 (.t 11) (tg 13 12 false (.mov (.t 0)) (tg 14 12 false (.idxs (.t 13) (.c (.int .i64 0))) (tg 15 12 false (.call 332 [(.t 14)]) (tg 16 12 false (.not (.t 15)) (tq 17 (.pick (.t 12) (.c (.bool true)) (.t 16)) .done)))))))))))))))
 (.cut (.cond (.t 17) (.seq (.reg (tm 2 (.c (.bool false)) .done))
 .ret)
 .skip)))
 (.seq (.seq (.reg (tm 3 (.c (.int .i64 1)) .done))
 (.block 0 (.loop (.seq (.seq (.reg (tm 18 (.t 3) (tm 19 (.t 0) (tq 20 (.lenS (.t 19)) (tq 21 (.bin .lss (.t 18) (.t 20)) .done)))))
 (.cond (.t 21) .skip
 (.exit 0)))
 (.seq (.block 1 (.seq (.reg (tm 24 (.t 0) (tm 25 (.t 3) (tq 26 (.idxs (.t 24) (.t 25)) (tq 27 (.call 332 [(.t 26)]) (tq 28 (.not (.t 27)) (tm 29 (.t 28) (tg 30 29 true (.mov (.t 0)) (tg 31 29 true (.mov (.t 3)) (tg 32 29 true (.idxs (.t 30) (.t 31)) (tg 33 29 true (.call 333 [(.t 32)]) (tg 34 29 true (.not (.t 33)) (tq 35 (.pick (.t 29) (.t 34) (.c (.bool false))) .done)))))))))))))
 (.cut (.cond (.t 35) (.seq (.reg (tm 2 (.c (.bool false)) .done))
 .ret)
 .skip))))
 (.reg (tm 22 (.t 3) (tq 23 (.bin .add (.t 22) (.c (.int .i64 1))) (tm 3 (.t 23) .done)))))))))
 (.cut (.seq (.reg (tm 2 (.c (.bool true)) .done))
 .ret)))))
theorem e2n:a1a Tryz.prog Tryz.f282 = some (e2m.erase,[.mov (.t 2)],36):=by kernel_rfl
def a4b :List UInt8 → Option (Fl Bool Unit)
  | [] =>
    some (.go ())
  | x_98 :: xs =>
    (((a6t (x_98.toNat:Int)).bind fun r_108 =>
    if (!r_108) then
    (a8s (x_98.toNat:Int)).bind fun r_111 =>
    some (!r_111)
    else
    some false:Option Bool)).bind fun s35_106 =>
    if s35_106 then
    some (.ret false)
    else
    a4b xs 

def a9z (t_1:Str):Option Bool :=
    ((if (bif (decide ((t_1.length:Int) < 1)) then true else (decide ((t_1.length:Int) > 40))) then
    some true
    else
    (idx t_1 0).bind fun b_14 =>
    (a6t (b_14.toNat:Int)).bind fun r_16 =>
    some (!r_16):Option Bool)).bind fun s17_9 =>
    if s17_9 then
    some false
    else
    (a4b (t_1.drop 1) ).bind fun q => (match q with
    | .ret r => some r
    | .go _ =>
    some true)
theorem c4r (t_1:Str) (r:Bool) (hf:a9z t_1 = some r):x9 Tryz.prog 282 .flat [(.str t_1)] (.bool r):=by
 refine x9.of_awp mixed Tryz.func282 e2n nle ?_;rw [a0j];unfold a9z at hf;unfold e2m;refine (show awp Tryz.prog false 0 _ (ofL [(0,(.str t_1))]) [] _ from ?_);refine sr<|l7 (.bool false) rfl<|dk<|o6<|o6<|?_
 obtain ⟨s17_9,hb1,hf⟩:=ob hf
 refine a2a ([(0,(.str t_1)),(17,(.bool s17_9))],[]) ?_ ?_
 ·refine a0s<|l7 (.str t_1) rfl<|a0w (b2d rfl) fun hl11 => x8 (.bool (decide ((t_1.length:Int) < 1))) rfl rfl rfl<|l7 (.bool (decide ((t_1.length:Int) < 1))) rfl<|?_;refine s_g (v:=(decide ((t_1.length:Int) < 1))) (.str t_1) rfl (fun hv => by (try simp only [a1s hv]);exact ⟨rfl,trivial,rfl⟩) ?_;refine s_g (v:=(decide ((t_1.length:Int) < 1))) (.int .i64 (t_1.length:Int)) rfl (fun hv => by (try simp only [a1s hv]);exact ⟨rfl,trivial,rfl⟩) ?_;refine s_g (v:=(decide ((t_1.length:Int) < 1))) (.bool (decide ((t_1.length:Int) > 40))) rfl (fun hv => by (try simp only [a1s hv]);exact ⟨rfl,rfl,rfl⟩) ?_;refine b3q (x:=true) (y:=(decide ((t_1.length:Int) > 40))) rfl (fun hv => by (try simp only [a1s hv]);rfl) (fun hv => by (try simp only [a1s hv]);rfl) ?_
  refine l7 (.bool (bif (decide ((t_1.length:Int) < 1)) then true else (decide ((t_1.length:Int) > 40)))) rfl ?_
  rcases oi hb1 with ⟨c13,hb1⟩ | ⟨c13,hb1⟩
  ·refine a1p (s:=12) (b:=true) rfl c13<|a0g rfl rfl<|a0g rfl rfl<|a0g rfl rfl<|a0g rfl rfl<|x8 (.bool true) rfl trivial rfl<|a0b<|?_;obtain rfl:=os hb1;exact ⟨[],[],_,_,rfl,rfl,⟨.refl _,⟨.refl _,trivial⟩⟩,(.refl _)⟩
  ·refine a1p (s:=12) (b:=false) rfl (bf c13)<|s_on rfl<|l7 (.str t_1) rfl<|s_on rfl<|?_
   obtain ⟨b_14,eb15,hb1⟩:=ob hb1
   refine y5 (c8y rfl rfl (b3h eb15) (b3i eb15))<|s_on rfl<|?_
   obtain ⟨r_16,er17,hb1⟩:=ob hb1
   refine y5 (a0v (b0w _ _ er17) rfl (.refl _) rfl)<|s_on rfl<|x8 (.bool (!r_16)) rfl trivial rfl<|x8 (.bool (!r_16)) rfl trivial rfl<|a0b<|?_;obtain rfl:=os hb1;exact ⟨[],[],_,_,rfl,rfl,⟨.refl _,⟨.refl _,trivial⟩⟩,(.refl _)⟩
 ·rcases oi hf with ⟨c18,hf⟩ | ⟨c18,hf⟩
  ·refine y7 rfl c18<|sr<|l7 (.bool false) rfl<|dk<|a0d<|?_;obtain rfl:=os hf;exact a0e ⟨trivial,trivial⟩ rfl (.refl _)
  ·refine y8 rfl (bf c18)<|a0h<|a0f<|o6<|sr<|l7 (.int .i64 1) rfl<|dk<|?_
   obtain ⟨p91,hb1,hf⟩:=ob hf
   refine a4n (X:={q:Unit // p91 = .go q}) (fun q => ([],[])) ?_ ?_
   ·refine a1g (X:={q:Nat // a4b (t_1.drop q)  = some p91}) (fun q => ([(0,(.str t_1)),(3,(.int .i64 (q.1:Int)))],[])) (fun q => t_1.length - q.1) ⟨1,hb1⟩ ⟨[],[],_,_,rfl,rfl,⟨.refl _,⟨.refl _,trivial⟩⟩,(.refl _)⟩ ?_
    rintro ⟨i_66,hc1⟩
    have hc1:a4b (t_1.drop i_66)  = some p91:=hc1
    refine (show awp Tryz.prog false 0 _ (ofL [(0,(.str t_1)),(3,(.int .i64 (i_66:Int)))]) [] _ from ?_)
    rcases a5z t_1 i_66 with ⟨hie94,hd97⟩ | ⟨hlt92,x_98,hx93,hd97⟩
    ·rw [hd97,a4b.eq_1] at hc1
     have hq96:=dlf hie94
     refine o6<|sr<|l7 (.int .i64 (i_66:Int)) rfl<|l7 (.str t_1) rfl<|a0w (b2d rfl) fun hl99 => x8 (.bool (decide ((i_66:Int) < (t_1.length:Int)))) rfl rfl rfl<|dk<|y8 rfl hq96<|a2t<|a2s<|a1y<|a2r<|?_;obtain rfl:=os hc1;exact a6r ⟨_,rfl⟩ ⟨[],[],_,_,rfl,rfl,trivial,(.refl _)⟩
    ·rw [hd97,a4b.eq_2] at hc1
     have hq96:=dlt hlt92
     refine o6<|sr<|l7 (.int .i64 (i_66:Int)) rfl<|l7 (.str t_1) rfl<|a0w (b2d rfl) fun hl100 => x8 (.bool (decide ((i_66:Int) < (t_1.length:Int)))) rfl rfl rfl<|dk<|y7 rfl hq96<|a0h<|a0f<|o6<|a3g<|o6<|?_
     obtain ⟨s35_106,hb2,hc1⟩:=ob hc1
     refine a2a ([(0,(.str t_1)),(3,(.int .i64 (i_66:Int))),(35,(.bool s35_106))],[]) ?_ ?_
     ·refine a0s ?_
      obtain ⟨r_108,er109,hb2⟩:=ob hb2
      rcases oi hb2 with ⟨c110,hb2⟩ | ⟨c110,hb2⟩
      ·obtain ⟨r_111,er112,hb2⟩:=ob hb2
       refine l7 (.str t_1) rfl<|l7 (.int .i64 (i_66:Int)) rfl<|y5 (b1d rfl rfl hx93)<|y5 (a0v (b0w _ _ er109) rfl (.refl _) rfl)<|x8 (.bool (!r_108)) rfl trivial rfl<|l7 (.bool (!r_108)) rfl<|a1p (s:=29) (b:=true) rfl c110<|s_on rfl<|l7 (.str t_1) rfl<|s_on rfl<|l7 (.int .i64 (i_66:Int)) rfl<|s_on rfl<|y5 (b1d rfl rfl hx93)<|s_on rfl<|y5 (a0v (c2k _ _ er112) rfl (.refl _) rfl)<|s_on rfl<|x8 (.bool (!r_111)) rfl trivial rfl<|x8 (.bool (!r_111)) rfl trivial rfl<|a0b<|?_;obtain rfl:=os hb2;exact ⟨[],[],_,_,rfl,rfl,⟨.refl _,⟨.refl _,⟨.refl _,trivial⟩⟩⟩,(.refl _)⟩
      ·refine l7 (.str t_1) rfl<|l7 (.int .i64 (i_66:Int)) rfl<|y5 (b1d rfl rfl hx93)<|y5 (a0v (b0w _ _ er109) rfl (.refl _) rfl)<|x8 (.bool (!r_108)) rfl trivial rfl<|l7 (.bool (!r_108)) rfl<|a1p (s:=29) (b:=false) rfl (bf c110)<|a0g rfl rfl<|a0g rfl rfl<|a0g rfl rfl<|a0g rfl rfl<|a0g rfl rfl<|x8 (.bool false) rfl trivial rfl<|a0b<|?_;obtain rfl:=os hb2;exact ⟨[],[],_,_,rfl,rfl,⟨.refl _,⟨.refl _,⟨.refl _,trivial⟩⟩⟩,(.refl _)⟩
     ·rcases oi hc1 with ⟨c113,hc1⟩ | ⟨c113,hc1⟩
      ·refine y7 rfl c113<|sr<|l7 (.bool false) rfl<|dk<|a0d<|?_;obtain rfl:=os hc1;obtain rfl:=os hf;exact a0e ⟨trivial,trivial⟩ rfl (.refl _)
      ·refine y8 rfl (bf c113)<|a0h<|a3f<|a0f<|a0s<|l7 (.int .i64 (i_66:Int)) rfl<|x8 (.int .i64 (w64 ((i_66:Int) + 1))) rfl rfl rfl<|l7 (.int .i64 (w64 ((i_66:Int) + 1))) rfl<|a0b<|?_;exact a1q ⟨(i_66 + 1),hc1⟩ (mul hlt92) ⟨[],[],_,_,rfl,rfl,⟨.refl _,⟨.of_eq (congrArg (AV.int _) (a1w hlt92 hl100)),trivial⟩⟩,(.refl _)⟩
   ·rintro ⟨_,rfl⟩
    refine sr<|l7 (.bool true) rfl<|dk<|a0d<|?_;obtain rfl:=os hf;exact a0e ⟨trivial,trivial⟩ rfl (.refl _)

/- spec.NameOK -/
def e2o:a0m :=
 (.seq (.reg (tm 2 (.c (.bool false)) .done))
 (.seq (.reg (tm 3 (.t 0) (tq 4 (.call 282 [(.t 3)]) (tm 2 (.t 4) .done))))
 .ret))
theorem e2p:a1a Tryz.prog Tryz.f191 = some (e2o.erase,[.mov (.t 2)],5):=by kernel_rfl
def b1r (t_1:Str):Option Bool :=
    (a9z t_1).bind fun r_2 =>
    some r_2
theorem c6e (t_1:Str) (r:Bool) (hf:b1r t_1 = some r):x9 Tryz.prog 191 .flat [(.str t_1)] (.bool r):=by
  refine x9.of_awp mixed Tryz.func191 e2p nle ?_
  rw [a0j]
  unfold b1r at hf
  unfold e2o
  refine (show awp Tryz.prog false 0 _ (ofL [(0,(.str t_1))]) [] _ from ?_)
  refine o6 ?_
  refine a0s ?_
  refine y5 (a2x (.bool false) rfl) ?_
  refine a0b ?_
  refine a0f ?_
  refine o6 ?_
  refine a0s ?_
  obtain ⟨r_2,er3,hf⟩:=ob hf
  refine y5 (a2x (.str t_1) rfl) ?_
  refine y5 (a0v (c4r _ _ er3) rfl (.refl _) rfl) ?_
  refine y5 (a2x (.bool r_2) rfl) ?_
  refine a0b ?_
  refine a0f ?_
  refine a0d ?_
  obtain rfl:=os hf
  exact a0e ⟨trivial,trivial⟩ rfl (.refl _)

/- spec.l01In -/
def c85:a0m :=
 (.seq (.reg (tm 6 (.c (.bool false)) .done))
 (.seq (.reg (tm 7 (.t 1) (tm 8 (.t 0) (tq 9 (.bin .leq (.t 7) (.t 8)) (tm 10 (.t 9) (tg 11 10 true (.mov (.t 0)) (tg 12 10 true (.mov (.t 2)) (tg 13 10 true (.bin .leq (.t 11) (.t 12)) (tq 14 (.pick (.t 10) (.t 13) (.c (.bool false))) (tm 6 (.t 14) .done))))))))))
 .ret))
theorem e6a:a1a Tryz.prog Tryz.f85 = some (c85.erase,[.mov (.t 6)],15):=by kernel_rfl
def a9h (n_1:Int) (low_2:Int) (high_3:Int):Option Bool :=
    if (decide (low_2 ≤ n_1)) then
    some (decide (n_1 ≤ high_3))
    else
    some false
theorem a8g (n_1:Int) (low_2:Int) (high_3:Int) (r:Bool) (hf:a9h n_1 low_2 high_3 = some r):x9 Tryz.prog 85 .flat [(.int .i64 n_1),(.int .i64 low_2),(.int .i64 high_3)] (.bool r):=by
 refine x9.of_awp mixed Tryz.func85 e6a nle ?_;rw [a0j];unfold a9h at hf;unfold c85;refine (show awp Tryz.prog false 0 _ (ofL [(0,(.int .i64 n_1)),(1,(.int .i64 low_2)),(2,(.int .i64 high_3))]) [] _ from ?_);refine sr<|l7 (.bool false) rfl<|dk<|sr<|?_
 rcases oi hf with ⟨c4,hf⟩ | ⟨c4,hf⟩
 ·refine l7 (.int .i64 low_2) rfl<|l7 (.int .i64 n_1) rfl<|x8 (.bool (decide (low_2 ≤ n_1))) rfl rfl rfl<|l7 (.bool (decide (low_2 ≤ n_1))) rfl<|a1p (s:=10) (b:=true) rfl c4<|s_on rfl<|l7 (.int .i64 n_1) rfl<|s_on rfl<|l7 (.int .i64 high_3) rfl<|s_on rfl<|x8 (.bool (decide (n_1 ≤ high_3))) rfl rfl rfl<|x8 (.bool (decide (n_1 ≤ high_3))) rfl trivial rfl<|l7 (.bool (decide (n_1 ≤ high_3))) rfl<|dk<|a0d<|?_;obtain rfl:=os hf;exact a0e ⟨trivial,trivial⟩ rfl (.refl _)
 ·refine l7 (.int .i64 low_2) rfl<|l7 (.int .i64 n_1) rfl<|x8 (.bool (decide (low_2 ≤ n_1))) rfl rfl rfl<|l7 (.bool (decide (low_2 ≤ n_1))) rfl<|a1p (s:=10) (b:=false) rfl (bf c4)<|a0g rfl rfl<|a0g rfl rfl<|a0g rfl rfl<|x8 (.bool false) rfl trivial rfl<|l7 (.bool false) rfl<|dk<|a0d<|?_;obtain rfl:=os hf;exact a0e ⟨trivial,trivial⟩ rfl (.refl _)

/- spec.l01Text -/
def e2q:a0m :=
 (.seq (.reg (tm 2 (.c (.bool false)) .done))
 (.seq (.seq (.reg (tm 3 (.c (.int .i64 0)) .done))
 (.block 0 (.loop (.seq (.seq (.reg (tm 4 (.t 3) (tm 5 (.t 0) (tq 6 (.lenS (.t 5)) (tq 7 (.bin .lss (.t 4) (.t 6)) .done)))))
 (.cond (.t 7) .skip
 (.exit 0)))
 (.seq (.block 1 (.seq (.reg (tm 10 (.t 0) (tm 11 (.t 3) (tq 12 (.idxs (.t 10) (.t 11)) (tq 13 (.bin .lss (.t 12) (.c (.int .u8 32))) (tm 14 (.t 13) (tg 15 14 false (.mov (.t 0)) (tg 16 14 false (.mov (.t 3)) (tg 17 14 false (.idxs (.t 15) (.t 16)) (tg 18 14 false (.bin .gtr (.t 17) (.c (.int .u8 126))) (tq 19 (.pick (.t 14) (.c (.bool true)) (.t 18)) .done)))))))))))
 (.cut (.cond (.t 19) (.seq (.reg (tm 2 (.c (.bool false)) .done))
 .ret)
 .skip))))
 (.reg (tm 8 (.t 3) (tq 9 (.bin .add (.t 8) (.c (.int .i64 1))) (tm 3 (.t 9) .done)))))))))
 (.cut (.seq (.reg (tm 20 (.t 0) (tq 21 (.lenS (.t 20)) (tq 22 (.bin .leq (.t 21) (.c (.int .i64 200))) (tm 2 (.t 22) .done)))))
 .ret))))
theorem e2r:a1a Tryz.prog Tryz.f298 = some (e2q.erase,[.mov (.t 2)],23):=by kernel_rfl
def a4c :List UInt8 → Option (Fl Bool Unit)
  | [] =>
    some (.go ())
  | x_57 :: xs =>
    ((if (decide ((x_57.toNat:Int) < 32)) then
    some true
    else
    some (decide ((x_57.toNat:Int) > 126)):Option Bool)).bind fun s19_61 =>
    if s19_61 then
    some (.ret false)
    else
    a4c xs 

def b0a (t_1:Str):Option Bool :=
    (a4c t_1 ).bind fun q => (match q with
    | .ret r => some r
    | .go _ =>
    some (decide ((t_1.length:Int) ≤ 200)))
theorem c4s (t_1:Str) (r:Bool) (hf:b0a t_1 = some r):x9 Tryz.prog 298 .flat [(.str t_1)] (.bool r):=by
 refine x9.of_awp mixed Tryz.func298 e2r nle ?_;rw [a0j];unfold b0a at hf;unfold e2q;refine (show awp Tryz.prog false 0 _ (ofL [(0,(.str t_1))]) [] _ from ?_);refine sr<|l7 (.bool false) rfl<|dk<|o6<|sr<|l7 (.int .i64 0) rfl<|dk<|?_
 obtain ⟨p50,hb1,hf⟩:=ob hf
 refine a4n (X:={q:Unit // p50 = .go q}) (fun q => ([(0,(.str t_1))],[])) ?_ ?_
 ·refine a1g (X:={q:Nat // a4c (t_1.drop q)  = some p50}) (fun q => ([(0,(.str t_1)),(3,(.int .i64 (q.1:Int)))],[])) (fun q => t_1.length - q.1) ⟨0,hb1⟩ ⟨[],[],_,_,rfl,rfl,⟨.refl _,⟨.refl _,trivial⟩⟩,(.refl _)⟩ ?_
  rintro ⟨i_33,hc1⟩
  have hc1:a4c (t_1.drop i_33)  = some p50:=hc1
  refine (show awp Tryz.prog false 0 _ (ofL [(0,(.str t_1)),(3,(.int .i64 (i_33:Int)))]) [] _ from ?_)
  rcases a5z t_1 i_33 with ⟨hie53,hd56⟩ | ⟨hlt51,x_57,hx52,hd56⟩
  ·rw [hd56,a4c.eq_1] at hc1
   have hq55:=dlf hie53
   refine o6<|sr<|l7 (.int .i64 (i_33:Int)) rfl<|l7 (.str t_1) rfl<|a0w (b2d rfl) fun hl58 => x8 (.bool (decide ((i_33:Int) < (t_1.length:Int)))) rfl rfl rfl<|dk<|y8 rfl hq55<|a2t<|a2s<|a1y<|a2r<|?_;obtain rfl:=os hc1;exact a6r ⟨_,rfl⟩ ⟨[],[],_,_,rfl,rfl,⟨.refl _,trivial⟩,(.refl _)⟩
  ·rw [hd56,a4c.eq_2] at hc1
   have hq55:=dlt hlt51
   refine o6<|sr<|l7 (.int .i64 (i_33:Int)) rfl<|l7 (.str t_1) rfl<|a0w (b2d rfl) fun hl59 => x8 (.bool (decide ((i_33:Int) < (t_1.length:Int)))) rfl rfl rfl<|dk<|y7 rfl hq55<|a0h<|a0f<|o6<|a3g<|o6<|?_
   obtain ⟨s19_61,hb2,hc1⟩:=ob hc1
   refine a2a ([(0,(.str t_1)),(3,(.int .i64 (i_33:Int))),(19,(.bool s19_61))],[]) ?_ ?_
   ·refine a0s ?_
    rcases oi hb2 with ⟨c63,hb2⟩ | ⟨c63,hb2⟩
    ·refine l7 (.str t_1) rfl<|l7 (.int .i64 (i_33:Int)) rfl<|y5 (b1d rfl rfl hx52)<|x8 (.bool (decide ((x_57.toNat:Int) < 32))) rfl rfl rfl<|l7 (.bool (decide ((x_57.toNat:Int) < 32))) rfl<|a1p (s:=14) (b:=true) rfl c63<|a0g rfl rfl<|a0g rfl rfl<|a0g rfl rfl<|a0g rfl rfl<|x8 (.bool true) rfl trivial rfl<|a0b<|?_;obtain rfl:=os hb2;exact ⟨[],[],_,_,rfl,rfl,⟨.refl _,⟨.refl _,⟨.refl _,trivial⟩⟩⟩,(.refl _)⟩
    ·refine l7 (.str t_1) rfl<|l7 (.int .i64 (i_33:Int)) rfl<|y5 (b1d rfl rfl hx52)<|x8 (.bool (decide ((x_57.toNat:Int) < 32))) rfl rfl rfl<|l7 (.bool (decide ((x_57.toNat:Int) < 32))) rfl<|a1p (s:=14) (b:=false) rfl (bf c63)<|s_on rfl<|l7 (.str t_1) rfl<|s_on rfl<|l7 (.int .i64 (i_33:Int)) rfl<|s_on rfl<|y5 (b1d rfl rfl hx52)<|s_on rfl<|x8 (.bool (decide ((x_57.toNat:Int) > 126))) rfl rfl rfl<|x8 (.bool (decide ((x_57.toNat:Int) > 126))) rfl trivial rfl<|a0b<|?_;obtain rfl:=os hb2;exact ⟨[],[],_,_,rfl,rfl,⟨.refl _,⟨.refl _,⟨.refl _,trivial⟩⟩⟩,(.refl _)⟩
   ·rcases oi hc1 with ⟨c64,hc1⟩ | ⟨c64,hc1⟩
    ·refine y7 rfl c64<|sr<|l7 (.bool false) rfl<|dk<|a0d<|?_;obtain rfl:=os hc1;obtain rfl:=os hf;exact a0e ⟨trivial,trivial⟩ rfl (.refl _)
    ·refine y8 rfl (bf c64)<|a0h<|a3f<|a0f<|a0s<|l7 (.int .i64 (i_33:Int)) rfl<|x8 (.int .i64 (w64 ((i_33:Int) + 1))) rfl rfl rfl<|l7 (.int .i64 (w64 ((i_33:Int) + 1))) rfl<|a0b<|?_;exact a1q ⟨(i_33 + 1),hc1⟩ (mul hlt51) ⟨[],[],_,_,rfl,rfl,⟨.refl _,⟨.of_eq (congrArg (AV.int _) (a1w hlt51 hl59)),trivial⟩⟩,(.refl _)⟩
 ·rintro ⟨_,rfl⟩
  refine sr<|l7 (.str t_1) rfl<|a0w (b2d rfl) fun hl65 => x8 (.bool (decide ((t_1.length:Int) ≤ 200))) rfl rfl rfl<|l7 (.bool (decide ((t_1.length:Int) ≤ 200))) rfl<|dk<|a0d<|?_;obtain rfl:=os hf;exact a0e ⟨trivial,trivial⟩ rfl (.refl _)

/- spec.AtomOK -/
def c228:a0m :=
 (.seq (.reg (tq 1 (.box 3 (.t 0)) (tm 2 (.c (.bool false)) .done)))
 (.seq (.seq (.reg (tq 3 (.faddr 0 (.t 1)) (tq 4 (.load 1 false (.t 3)) .done)))
 (.block 0 (.seq (.reg (tq 6 (.bin .eql (.t 4) (.c (.int .i64 1))) (tm 5 (.t 6) .done)))
 (.cond (.t 5) (.seq (.reg (tq 7 (.faddr 1 (.t 1)) (tq 8 (.load 1 false (.t 7)) (tq 9 (.call 85 [(.t 8),(.c (.int .i64 (-1000000000))),(.c (.int .i64 1000000000))]) (tm 10 (.t 9) (tg 11 10 true (.faddr 2 (.t 1)) (tg 12 10 true (.load 1 false (.t 11)) (tg 13 10 true (.bin .eql (.t 12) (.c (.str []))) (tq 14 (.pick (.t 10) (.t 13) (.c (.bool false))) (tm 2 (.t 14) .done))))))))))
 .ret)
 (.seq (.reg (tq 16 (.bin .eql (.t 4) (.c (.int .i64 2))) (tm 15 (.t 16) .done)))
 (.cond (.t 15) (.seq (.reg (tq 17 (.faddr 1 (.t 1)) (tq 18 (.load 1 false (.t 17)) (tq 19 (.bin .eql (.t 18) (.c (.int .i64 0))) (tm 20 (.t 19) (tg 21 20 true (.faddr 2 (.t 1)) (tg 22 20 true (.load 1 false (.t 21)) (tg 23 20 true (.call 298 [(.t 22)]) (tq 24 (.pick (.t 20) (.t 23) (.c (.bool false))) (tm 2 (.t 24) .done))))))))))
 .ret)
 (.seq (.reg (tq 26 (.bin .eql (.t 4) (.c (.int .i64 3))) (tm 25 (.t 26) .done)))
 (.cond (.t 25) (.seq (.reg (tq 27 (.faddr 1 (.t 1)) (tq 28 (.load 1 false (.t 27)) (tq 29 (.call 85 [(.t 28),(.c (.int .i64 0)),(.c (.int .i64 1))]) (tm 30 (.t 29) (tg 31 30 true (.faddr 2 (.t 1)) (tg 32 30 true (.load 1 false (.t 31)) (tg 33 30 true (.bin .eql (.t 32) (.c (.str []))) (tq 34 (.pick (.t 30) (.t 33) (.c (.bool false))) (tm 2 (.t 34) .done))))))))))
 .ret)
 (.seq (.reg (tq 36 (.bin .eql (.t 4) (.c (.int .i64 4))) (tm 35 (.t 36) .done)))
 (.cond (.t 35) (.seq (.reg (tq 37 (.faddr 1 (.t 1)) (tq 38 (.load 1 false (.t 37)) (tq 39 (.call 85 [(.t 38),(.c (.int .i64 1)),(.c (.int .i64 1000000))]) (tm 40 (.t 39) (tg 41 40 true (.faddr 2 (.t 1)) (tg 42 40 true (.load 1 false (.t 41)) (tg 43 40 true (.bin .eql (.t 42) (.c (.str []))) (tq 44 (.pick (.t 40) (.t 43) (.c (.bool false))) (tm 2 (.t 44) .done))))))))))
 .ret)
 .skip))))))))))
 (.seq (.reg (tm 2 (.c (.bool false)) .done))
 .ret)))
theorem e2s:a1a Tryz.prog Tryz.f228 = some (c228.erase,[.mov (.t 2)],45):=by kernel_rfl
def a9o (a_1:a0a):Option Bool :=
    if (a_1.Kind == 1) then
    (a9h a_1.N (-1000000000) 1000000000).bind fun r_3 =>
    if r_3 then
    some (a_1.T == [])
    else
    some false
    else
    if (a_1.Kind == 2) then
    if (a_1.N == 0) then
    (b0a a_1.T).bind fun r_8 =>
    some r_8
    else
    some false
    else
    if (a_1.Kind == 3) then
    (a9h a_1.N 0 1).bind fun r_11 =>
    if r_11 then
    some (a_1.T == [])
    else
    some false
    else
    if (a_1.Kind == 4) then
    (a9h a_1.N 1 1000000).bind fun r_15 =>
    if r_15 then
    some (a_1.T == [])
    else
    some false
    else
    some false
theorem c6f (a_1:a0a) (r:Bool) (hf:a9o a_1 = some r):x9 Tryz.prog 228 .flat [(l9 a_1)] (.bool r):=by
 refine x9.of_awp mixed Tryz.func228 e2s nle ?_;rw [a0j];unfold a9o at hf;unfold c228;refine (show awp Tryz.prog false 0 _ (ofL [(0,(l9 a_1))]) [] _ from ?_);refine sr<|y5 (a1i (j:=0) (c:=(.agg [(.int .i64 a_1.Kind),(.int .i64 a_1.N),(.str a_1.T)])) rfl trivial rfl rfl)<|l7 (.bool false) rfl<|dk<|o6<|sr<|x8 (.ptr 0 0 0) rfl trivial rfl<|x8 (.int .i64 a_1.Kind) rfl nle rfl<|dk<|a3g<|sr<|x8 (.bool (a_1.Kind == 1)) rfl rfl rfl<|l7 (.bool (a_1.Kind == 1)) rfl<|dk<|?_
 rcases oi hf with ⟨c2,hf⟩ | ⟨c2,hf⟩
 ·refine y7 rfl c2<|sr<|?_
  obtain ⟨r_3,er4,hf⟩:=ob hf
  rcases oi hf with ⟨c5,hf⟩ | ⟨c5,hf⟩
  ·refine x8 (.ptr 0 0 1) rfl trivial rfl<|x8 (.int .i64 a_1.N) rfl nle rfl<|y5 (a0v (a8g _ _ _ _ er4) rfl (.refl _) rfl)<|l7 (.bool r_3) rfl<|a1p (s:=10) (b:=true) rfl c5<|s_on rfl<|x8 (.ptr 0 0 2) rfl trivial rfl<|s_on rfl<|x8 (.str a_1.T) rfl nle rfl<|s_on rfl<|x8 (.bool (a_1.T == [])) rfl trivial rfl<|x8 (.bool (a_1.T == [])) rfl trivial rfl<|l7 (.bool (a_1.T == [])) rfl<|dk<|a0d<|?_;obtain rfl:=os hf;exact a0e ⟨trivial,trivial⟩ rfl (.refl _)
  ·refine x8 (.ptr 0 0 1) rfl trivial rfl<|x8 (.int .i64 a_1.N) rfl nle rfl<|y5 (a0v (a8g _ _ _ _ er4) rfl (.refl _) rfl)<|l7 (.bool r_3) rfl<|a1p (s:=10) (b:=false) rfl (bf c5)<|a0g rfl rfl<|a0g rfl rfl<|a0g rfl rfl<|x8 (.bool false) rfl trivial rfl<|l7 (.bool false) rfl<|dk<|a0d<|?_;obtain rfl:=os hf;exact a0e ⟨trivial,trivial⟩ rfl (.refl _)
 ·refine y8 rfl (bf c2)<|sr<|x8 (.bool (a_1.Kind == 2)) rfl rfl rfl<|l7 (.bool (a_1.Kind == 2)) rfl<|dk<|?_
  rcases oi hf with ⟨c6,hf⟩ | ⟨c6,hf⟩
  ·refine y7 rfl c6<|sr<|?_
   rcases oi hf with ⟨c7,hf⟩ | ⟨c7,hf⟩
   ·obtain ⟨r_8,er9,hf⟩:=ob hf
    refine x8 (.ptr 0 0 1) rfl trivial rfl<|x8 (.int .i64 a_1.N) rfl nle rfl<|x8 (.bool (a_1.N == 0)) rfl rfl rfl<|l7 (.bool (a_1.N == 0)) rfl<|a1p (s:=20) (b:=true) rfl c7<|s_on rfl<|x8 (.ptr 0 0 2) rfl trivial rfl<|s_on rfl<|x8 (.str a_1.T) rfl nle rfl<|s_on rfl<|y5 (a0v (c4s _ _ er9) rfl (.refl _) rfl)<|x8 (.bool r_8) rfl trivial rfl<|l7 (.bool r_8) rfl<|dk<|a0d<|?_;obtain rfl:=os hf;exact a0e ⟨trivial,trivial⟩ rfl (.refl _)
   ·refine x8 (.ptr 0 0 1) rfl trivial rfl<|x8 (.int .i64 a_1.N) rfl nle rfl<|x8 (.bool (a_1.N == 0)) rfl rfl rfl<|l7 (.bool (a_1.N == 0)) rfl<|a1p (s:=20) (b:=false) rfl (bf c7)<|a0g rfl rfl<|a0g rfl rfl<|a0g rfl rfl<|x8 (.bool false) rfl trivial rfl<|l7 (.bool false) rfl<|dk<|a0d<|?_;obtain rfl:=os hf;exact a0e ⟨trivial,trivial⟩ rfl (.refl _)
  ·refine y8 rfl (bf c6)<|sr<|x8 (.bool (a_1.Kind == 3)) rfl rfl rfl<|l7 (.bool (a_1.Kind == 3)) rfl<|dk<|?_
   rcases oi hf with ⟨c10,hf⟩ | ⟨c10,hf⟩
   ·refine y7 rfl c10<|sr<|?_
    obtain ⟨r_11,er12,hf⟩:=ob hf
    rcases oi hf with ⟨c13,hf⟩ | ⟨c13,hf⟩
    ·refine x8 (.ptr 0 0 1) rfl trivial rfl<|x8 (.int .i64 a_1.N) rfl nle rfl<|y5 (a0v (a8g _ _ _ _ er12) rfl (.refl _) rfl)<|l7 (.bool r_11) rfl<|a1p (s:=30) (b:=true) rfl c13<|s_on rfl<|x8 (.ptr 0 0 2) rfl trivial rfl<|s_on rfl<|x8 (.str a_1.T) rfl nle rfl<|s_on rfl<|x8 (.bool (a_1.T == [])) rfl trivial rfl<|x8 (.bool (a_1.T == [])) rfl trivial rfl<|l7 (.bool (a_1.T == [])) rfl<|dk<|a0d<|?_;obtain rfl:=os hf;exact a0e ⟨trivial,trivial⟩ rfl (.refl _)
    ·refine x8 (.ptr 0 0 1) rfl trivial rfl<|x8 (.int .i64 a_1.N) rfl nle rfl<|y5 (a0v (a8g _ _ _ _ er12) rfl (.refl _) rfl)<|l7 (.bool r_11) rfl<|a1p (s:=30) (b:=false) rfl (bf c13)<|a0g rfl rfl<|a0g rfl rfl<|a0g rfl rfl<|x8 (.bool false) rfl trivial rfl<|l7 (.bool false) rfl<|dk<|a0d<|?_;obtain rfl:=os hf;exact a0e ⟨trivial,trivial⟩ rfl (.refl _)
   ·refine y8 rfl (bf c10)<|sr<|x8 (.bool (a_1.Kind == 4)) rfl rfl rfl<|l7 (.bool (a_1.Kind == 4)) rfl<|dk<|?_
    rcases oi hf with ⟨c14,hf⟩ | ⟨c14,hf⟩
    ·refine y7 rfl c14<|sr<|?_
     obtain ⟨r_15,er16,hf⟩:=ob hf
     rcases oi hf with ⟨c17,hf⟩ | ⟨c17,hf⟩
     ·refine x8 (.ptr 0 0 1) rfl trivial rfl<|x8 (.int .i64 a_1.N) rfl nle rfl<|y5 (a0v (a8g _ _ _ _ er16) rfl (.refl _) rfl)<|l7 (.bool r_15) rfl<|a1p (s:=40) (b:=true) rfl c17<|s_on rfl<|x8 (.ptr 0 0 2) rfl trivial rfl<|s_on rfl<|x8 (.str a_1.T) rfl nle rfl<|s_on rfl<|x8 (.bool (a_1.T == [])) rfl trivial rfl<|x8 (.bool (a_1.T == [])) rfl trivial rfl<|l7 (.bool (a_1.T == [])) rfl<|dk<|a0d<|?_;obtain rfl:=os hf;exact a0e ⟨trivial,trivial⟩ rfl (.refl _)
     ·refine x8 (.ptr 0 0 1) rfl trivial rfl<|x8 (.int .i64 a_1.N) rfl nle rfl<|y5 (a0v (a8g _ _ _ _ er16) rfl (.refl _) rfl)<|l7 (.bool r_15) rfl<|a1p (s:=40) (b:=false) rfl (bf c17)<|a0g rfl rfl<|a0g rfl rfl<|a0g rfl rfl<|x8 (.bool false) rfl trivial rfl<|l7 (.bool false) rfl<|dk<|a0d<|?_;obtain rfl:=os hf;exact a0e ⟨trivial,trivial⟩ rfl (.refl _)
    ·refine y8 rfl (bf c14)<|a0h<|a3f<|a0f<|sr<|l7 (.bool false) rfl<|dk<|a0d<|?_;obtain rfl:=os hf;exact a0e ⟨trivial,trivial⟩ rfl (.refl _)

/- spec.l01Bit -/
def e2t:a0m :=
 (.seq (.reg (tm 2 (.c (.int .i64 0)) .done))
 (.seq (.seq (.reg (tm 3 (.t 0) .done))
 (.cond (.t 3) (.seq (.reg (tm 2 (.c (.int .i64 1)) .done))
 .ret)
 .skip))
 (.seq (.reg (tm 2 (.c (.int .i64 0)) .done))
 .ret)))
theorem e2u:a1a Tryz.prog Tryz.f184 = some (e2t.erase,[.mov (.t 2)],4):=by kernel_rfl
def a7y (b_1:Bool):Option Int :=
    if b_1 then
    some 1
    else
    some 0
theorem b1f (b_1:Bool) (r:Int) (hf:a7y b_1 = some r):x9 Tryz.prog 184 .flat [(.bool b_1)] (.int .i64 r):=by
  refine x9.of_awp mixed Tryz.func184 e2u nle ?_
  rw [a0j]
  unfold a7y at hf
  unfold e2t
  refine (show awp Tryz.prog false 0 _ (ofL [(0,(.bool b_1))]) [] _ from ?_)
  refine o6 ?_
  refine a0s ?_
  refine y5 (a2x (.int .i64 0) rfl) ?_
  refine a0b ?_
  refine a0f ?_
  refine o6 ?_
  refine o6 ?_
  refine a0s ?_
  refine y5 (a2x (.bool b_1) rfl) ?_
  refine a0b ?_
  refine a0f ?_
  rcases oi hf with ⟨c2,hf⟩ | ⟨c2,hf⟩
  · refine y7 rfl c2 ?_
    refine o6 ?_
    refine a0s ?_
    refine y5 (a2x (.int .i64 1) rfl) ?_
    refine a0b ?_
    refine a0f ?_
    refine a0d ?_
    obtain rfl:=os hf
    exact a0e ⟨trivial,trivial⟩ rfl (.refl _)
  · refine y8 rfl (bf c2) ?_
    refine a0h ?_
    refine a0f ?_
    refine o6 ?_
    refine a0s ?_
    refine y5 (a2x (.int .i64 0) rfl) ?_
    refine a0b ?_
    refine a0f ?_
    refine a0d ?_
    obtain rfl:=os hf
    exact a0e ⟨trivial,trivial⟩ rfl (.refl _)

/- spec.l03Order -/
def c229:a0m :=
 (.seq (.reg (tq 2 (.box 3 (.t 0)) (tq 3 (.box 3 (.t 1)) (tm 4 (.c (.int .i64 0)) .done))))
 (.seq (.block 0 (.seq (.reg (tq 6 (.faddr 0 (.t 2)) (tq 7 (.load 1 false (.t 6)) (tq 8 (.faddr 0 (.t 3)) (tq 9 (.load 1 false (.t 8)) (tq 10 (.bin .neq (.t 7) (.t 9)) (tm 5 (.t 10) .done)))))))
 (.cond (.t 5) (.seq (.reg (tq 11 (.faddr 0 (.t 2)) (tq 12 (.load 1 false (.t 11)) (tq 13 (.faddr 0 (.t 3)) (tq 14 (.load 1 false (.t 13)) (tq 15 (.bin .lss (.t 12) (.t 14)) (tq 16 (.call 184 [(.t 15)]) (tq 17 (.bin .mul (.c (.int .i64 2)) (.t 16)) (tq 18 (.bin .sub (.c (.int .i64 1)) (.t 17)) (tm 4 (.t 18) .done))))))))))
 .ret)
 (.seq (.reg (tq 20 (.faddr 1 (.t 2)) (tq 21 (.load 1 false (.t 20)) (tq 22 (.faddr 1 (.t 3)) (tq 23 (.load 1 false (.t 22)) (tq 24 (.bin .neq (.t 21) (.t 23)) (tm 19 (.t 24) .done)))))))
 (.cond (.t 19) (.seq (.reg (tq 25 (.faddr 1 (.t 2)) (tq 26 (.load 1 false (.t 25)) (tq 27 (.faddr 1 (.t 3)) (tq 28 (.load 1 false (.t 27)) (tq 29 (.bin .lss (.t 26) (.t 28)) (tq 30 (.call 184 [(.t 29)]) (tq 31 (.bin .mul (.c (.int .i64 2)) (.t 30)) (tq 32 (.bin .sub (.c (.int .i64 1)) (.t 31)) (tm 4 (.t 32) .done))))))))))
 .ret)
 (.seq (.reg (tq 34 (.faddr 2 (.t 2)) (tq 35 (.load 1 false (.t 34)) (tq 36 (.faddr 2 (.t 3)) (tq 37 (.load 1 false (.t 36)) (tq 38 (.bin .neq (.t 35) (.t 37)) (tm 33 (.t 38) .done)))))))
 (.cond (.t 33) (.seq (.reg (tq 39 (.faddr 2 (.t 2)) (tq 40 (.load 1 false (.t 39)) (tq 41 (.faddr 2 (.t 3)) (tq 42 (.load 1 false (.t 41)) (tq 43 (.bin .lss (.t 40) (.t 42)) (tq 44 (.call 184 [(.t 43)]) (tq 45 (.bin .mul (.c (.int .i64 2)) (.t 44)) (tq 46 (.bin .sub (.c (.int .i64 1)) (.t 45)) (tm 4 (.t 46) .done))))))))))
 .ret)
 .skip)))))))
 (.seq (.reg (tm 4 (.c (.int .i64 0)) .done))
 .ret)))
theorem e2v:a1a Tryz.prog Tryz.f229 = some (c229.erase,[.mov (.t 4)],47):=by kernel_rfl
def a7g (a_1:a0a) (b_2:a0a):Option Int :=
    if (a_1.Kind != b_2.Kind) then
    (a7y (decide (a_1.Kind < b_2.Kind))).bind fun r_4 =>
    some (w64 (1 - (w64 (2 * r_4))))
    else
    if (a_1.N != b_2.N) then
    (a7y (decide (a_1.N < b_2.N))).bind fun r_7 =>
    some (w64 (1 - (w64 (2 * r_7))))
    else
    if (!(a_1.T == b_2.T)) then
    (a7y (Op.bytesLess a_1.T b_2.T)).bind fun r_10 =>
    some (w64 (1 - (w64 (2 * r_10))))
    else
    some 0
theorem c2l (a_1:a0a) (b_2:a0a) (r:Int) (hf:a7g a_1 b_2 = some r):x9 Tryz.prog 229 .flat [(l9 a_1),(l9 b_2)] (.int .i64 r):=by
 refine x9.of_awp mixed Tryz.func229 e2v nle ?_;rw [a0j];unfold a7g at hf;unfold c229;refine (show awp Tryz.prog false 0 _ (ofL [(0,(l9 a_1)),(1,(l9 b_2))]) [] _ from ?_);refine sr<|y5 (a1i (j:=0) (c:=(.agg [(.int .i64 a_1.Kind),(.int .i64 a_1.N),(.str a_1.T)])) rfl trivial rfl rfl)<|y5 (a1i (j:=1) (c:=(.agg [(.int .i64 b_2.Kind),(.int .i64 b_2.N),(.str b_2.T)])) rfl trivial rfl rfl)<|l7 (.int .i64 0) rfl<|dk<|o6<|a3g<|sr<|x8 (.ptr 0 0 0) rfl trivial rfl<|x8 (.int .i64 a_1.Kind) rfl nle rfl<|x8 (.ptr 1 0 0) rfl trivial rfl<|x8 (.int .i64 b_2.Kind) rfl nle rfl<|x8 (.bool (a_1.Kind != b_2.Kind)) rfl rfl rfl<|?_
 refine l7 (.bool (a_1.Kind != b_2.Kind)) rfl<|dk<|?_
 rcases oi hf with ⟨c3,hf⟩ | ⟨c3,hf⟩
 ·refine y7 rfl c3<|sr<|?_
  obtain ⟨r_4,er5,hf⟩:=ob hf
  refine x8 (.ptr 0 0 0) rfl trivial rfl<|x8 (.int .i64 a_1.Kind) rfl nle rfl<|x8 (.ptr 1 0 0) rfl trivial rfl<|x8 (.int .i64 b_2.Kind) rfl nle rfl<|x8 (.bool (decide (a_1.Kind < b_2.Kind))) rfl rfl rfl<|y5 (a0v (b1f _ _ er5) rfl (.refl _) rfl)<|x8 (.int .i64 (w64 (2 * r_4))) rfl rfl rfl<|x8 (.int .i64 (w64 (1 - (w64 (2 * r_4))))) rfl rfl rfl<|l7 (.int .i64 (w64 (1 - (w64 (2 * r_4))))) rfl<|dk<|a0d<|?_;obtain rfl:=os hf;exact a0e ⟨trivial,trivial⟩ rfl (.refl _)
 ·refine y8 rfl (bf c3)<|sr<|x8 (.ptr 0 0 1) rfl trivial rfl<|x8 (.int .i64 a_1.N) rfl nle rfl<|x8 (.ptr 1 0 1) rfl trivial rfl<|x8 (.int .i64 b_2.N) rfl nle rfl<|x8 (.bool (a_1.N != b_2.N)) rfl rfl rfl<|l7 (.bool (a_1.N != b_2.N)) rfl<|dk<|?_
  rcases oi hf with ⟨c6,hf⟩ | ⟨c6,hf⟩
  ·refine y7 rfl c6<|sr<|?_
   obtain ⟨r_7,er8,hf⟩:=ob hf
   refine x8 (.ptr 0 0 1) rfl trivial rfl<|x8 (.int .i64 a_1.N) rfl nle rfl<|x8 (.ptr 1 0 1) rfl trivial rfl<|x8 (.int .i64 b_2.N) rfl nle rfl<|x8 (.bool (decide (a_1.N < b_2.N))) rfl rfl rfl<|y5 (a0v (b1f _ _ er8) rfl (.refl _) rfl)<|x8 (.int .i64 (w64 (2 * r_7))) rfl rfl rfl<|x8 (.int .i64 (w64 (1 - (w64 (2 * r_7))))) rfl rfl rfl<|l7 (.int .i64 (w64 (1 - (w64 (2 * r_7))))) rfl<|dk<|a0d<|?_;obtain rfl:=os hf;exact a0e ⟨trivial,trivial⟩ rfl (.refl _)
  ·refine y8 rfl (bf c6)<|sr<|x8 (.ptr 0 0 2) rfl trivial rfl<|x8 (.str a_1.T) rfl nle rfl<|x8 (.ptr 1 0 2) rfl trivial rfl<|x8 (.str b_2.T) rfl nle rfl<|x8 (.bool (!(a_1.T == b_2.T))) rfl trivial rfl<|l7 (.bool (!(a_1.T == b_2.T))) rfl<|dk<|?_
   rcases oi hf with ⟨c9,hf⟩ | ⟨c9,hf⟩
   ·refine y7 rfl c9<|sr<|?_
    obtain ⟨r_10,er11,hf⟩:=ob hf
    refine x8 (.ptr 0 0 2) rfl trivial rfl<|x8 (.str a_1.T) rfl nle rfl<|x8 (.ptr 1 0 2) rfl trivial rfl<|x8 (.str b_2.T) rfl nle rfl<|x8 (.bool (Op.bytesLess a_1.T b_2.T)) rfl trivial rfl<|y5 (a0v (b1f _ _ er11) rfl (.refl _) rfl)<|x8 (.int .i64 (w64 (2 * r_10))) rfl rfl rfl<|x8 (.int .i64 (w64 (1 - (w64 (2 * r_10))))) rfl rfl rfl<|l7 (.int .i64 (w64 (1 - (w64 (2 * r_10))))) rfl<|dk<|a0d<|?_;obtain rfl:=os hf;exact a0e ⟨trivial,trivial⟩ rfl (.refl _)
   ·refine y8 rfl (bf c9)<|a0h<|a3f<|a0f<|sr<|l7 (.int .i64 0) rfl<|dk<|a0d<|?_;obtain rfl:=os hf;exact a0e ⟨trivial,trivial⟩ rfl (.refl _)

/- spec.DatumOK -/
def c131:a0m :=
 (.seq (.reg (tm 2 (.c (.bool false)) .done))
 (.seq (.seq (.reg (tm 4 (.t 0) (tq 5 (.len (.t 4)) (tq 6 (.bin .gtr (.t 5) (.c (.int .i64 4096))) .done))))
 (.cond (.t 6) (.seq (.reg (tm 2 (.c (.bool false)) .done))
 .ret)
 .skip))
 (.seq (.seq (.reg (tm 3 (.c (.int .i64 0)) .done))
 (.block 0 (.loop (.seq (.seq (.reg (tm 7 (.t 3) (tm 8 (.t 0) (tq 9 (.len (.t 8)) (tq 10 (.bin .lss (.t 7) (.t 9)) .done)))))
 (.cond (.t 10) .skip
 (.exit 0)))
 (.seq (.block 1 (.seq (.reg (tm 13 (.t 0) (tm 14 (.t 3) (tq 15 (.iaddr 3 (.t 13) (.t 14)) (tq 16 (.load 3 true (.t 15)) (.l ⟨(some 17),none,.call 228 [(.t 16)]⟩ []
 (tq 18 (.not (.t 17)) (tm 19 (.t 18) (tg 20 19 false (.mov (.t 0)) (tg 21 19 false (.mov (.t 3)) (tg 22 19 false (.iaddr 3 (.t 20) (.t 21)) (tg 23 19 false (.faddr 0 (.t 22)) (tg 24 19 false (.load 1 false (.t 23)) (tg 25 19 false (.mov (.t 0)) (tg 26 19 false (.iaddr 3 (.t 25) (.c (.int .i64 0))) (tg 27 19 false (.faddr 0 (.t 26)) (tg 28 19 false (.load 1 false (.t 27)) (tg 29 19 false (.bin .neq (.t 24) (.t 28)) (tq 30 (.pick (.t 19) (.c (.bool true)) (.t 29)) (tm 31 (.t 30) (tg 32 31 false (.mov (.t 3)) (tg 33 31 false (.bin .gtr (.t 32) (.c (.int .i64 0))) (tg 34 31 false (.mov (.t 33)) (tg 35 34 true (.mov (.t 0)) (tg 36 34 true (.mov (.t 3)) (tg 37 34 true (.bin .sub (.t 36) (.c (.int .i64 1))) (tg 38 34 true (.iaddr 3 (.t 35) (.t 37)) (tg 39 34 true (.load 3 true (.t 38)) (tg 40 34 true (.mov (.t 0)) (tg 41 34 true (.mov (.t 3)) (tg 42 34 true (.iaddr 3 (.t 40) (.t 41)) (tg 43 34 true (.load 3 true (.t 42)) (.l ⟨(some 44),(some (34,true)),.call 229 [(.t 39),(.t 43)]⟩ []
 (tg 45 34 true (.bin .geq (.t 44) (.c (.int .i64 0))) (tg 46 31 false (.pick (.t 34) (.t 45) (.c (.bool false))) (tq 47 (.pick (.t 31) (.c (.bool true)) (.t 46)) .done))) .non))))))))))))))))))))))))))) .non))))))
 (.cut (.cond (.t 47) (.seq (.reg (tm 2 (.c (.bool false)) .done))
 .ret)
 .skip))))
 (.reg (tm 11 (.t 3) (tq 12 (.bin .add (.t 11) (.c (.int .i64 1))) (tm 3 (.t 12) .done)))))))))
 (.cut (.seq (.reg (tm 48 (.t 0) (tq 49 (.len (.t 48)) (tq 50 (.bin .leq (.t 49) (.c (.int .i64 8))) (tm 2 (.t 50) .done)))))
 .ret)))))
theorem e2w:a1a Tryz.prog Tryz.f131 = some (c131.erase,[.mov (.t 2)],51):=by kernel_rfl
def a4d (d_1:(List a0a)):List a0a → Nat → Option (Fl Bool Unit)
  | [],i_69 =>
    some (.go ())
  | x_117 :: xs,i_69 =>
    (((a9o x_117).bind fun r_133 =>
    if (!r_133) then
    some true
    else
    (idx d_1 0).bind fun x_136 =>
    if (x_117.Kind != x_136.Kind) then
    some true
    else
    if (decide ((i_69:Int) > 0)) then
    (idx d_1 (w64 ((i_69:Int) - 1))).bind fun x_140 =>
    (a7g x_140 x_117).bind fun r_142 =>
    some (decide (r_142 ≥ 0))
    else
    some false:Option Bool)).bind fun s47_131 =>
    if s47_131 then
    some (.ret false)
    else
    a4d d_1 xs (i_69 + 1)

def b0b (d_1:(List a0a)):Option Bool :=
    if (decide ((d_1.length:Int) > 4096)) then
    some false
    else
    (a4d d_1 d_1 0).bind fun q => (match q with
    | .ret r => some r
    | .go _ =>
    some (decide ((d_1.length:Int) ≤ 8)))
theorem c4t (d_1:(List a0a)) (r:Bool) (hf:b0b d_1 = some r):x9 Tryz.prog 131 .flat [(.lst 3 (d_1.map l9))] (.bool r):=by
 refine x9.of_awp mixed Tryz.func131 e2w nle ?_;rw [a0j];unfold b0b at hf;unfold c131;refine (show awp Tryz.prog false 0 _ (ofL [(0,(.lst 3 (d_1.map l9)))]) [] _ from ?_);refine sr<|l7 (.bool false) rfl<|dk<|o6<|sr<|l7 (.lst 3 (d_1.map l9)) rfl<|a0w (a1r (enc:=l9) rfl) fun hl2 => x8 (.bool (decide ((d_1.length:Int) > 4096))) rfl rfl rfl<|dk<|?_
 rcases oi hf with ⟨c3,hf⟩ | ⟨c3,hf⟩
 ·refine y7 rfl c3<|sr<|l7 (.bool false) rfl<|dk<|a0d<|?_;obtain rfl:=os hf;exact a0e ⟨trivial,trivial⟩ rfl (.refl _)
 ·refine y8 rfl (bf c3)<|a0h<|a0f<|o6<|sr<|l7 (.int .i64 0) rfl<|dk<|?_
  obtain ⟨p110,hb1,hf⟩:=ob hf
  refine a4n (X:={q:Unit // p110 = .go q}) (fun q => ([(0,(.lst 3 (d_1.map l9)))],[])) ?_ ?_
  ·refine a1g (X:={q:Nat // a4d d_1 (d_1.drop q) q = some p110}) (fun q => ([(0,(.lst 3 (d_1.map l9))),(3,(.int .i64 (q.1:Int)))],[])) (fun q => d_1.length - q.1) ⟨0,hb1⟩ ⟨[],[],_,_,rfl,rfl,⟨.refl _,⟨.refl _,trivial⟩⟩,(.refl _)⟩ ?_
   rintro ⟨i_69,hc1⟩
   have hc1:a4d d_1 (d_1.drop i_69) i_69 = some p110:=hc1
   refine (show awp Tryz.prog false 0 _ (ofL [(0,(.lst 3 (d_1.map l9))),(3,(.int .i64 (i_69:Int)))]) [] _ from ?_)
   rcases a5z d_1 i_69 with ⟨hie113,hd116⟩ | ⟨hlt111,x_117,hx112,hd116⟩
   ·rw [hd116,a4d.eq_1] at hc1
    have hq115:=dlf hie113
    refine o6<|sr<|l7 (.int .i64 (i_69:Int)) rfl<|l7 (.lst 3 (d_1.map l9)) rfl<|a0w (a1r (enc:=l9) rfl) fun hl118 => x8 (.bool (decide ((i_69:Int) < (d_1.length:Int)))) rfl rfl rfl<|dk<|y8 rfl hq115<|a2t<|a2s<|a1y<|a2r<|?_;obtain rfl:=os hc1;exact a6r ⟨_,rfl⟩ ⟨[],[],_,_,rfl,rfl,⟨.refl _,trivial⟩,(.refl _)⟩
   ·rw [hd116,a4d.eq_2] at hc1
    have hq115:=dlt hlt111
    refine o6<|sr<|l7 (.int .i64 (i_69:Int)) rfl<|l7 (.lst 3 (d_1.map l9)) rfl<|a0w (a1r (enc:=l9) rfl) fun hl119 => x8 (.bool (decide ((i_69:Int) < (d_1.length:Int)))) rfl rfl rfl<|dk<|y7 rfl hq115<|a0h<|a0f<|o6<|a3g<|o6<|?_
    obtain ⟨s47_131,hb2,hc1⟩:=ob hc1
    refine a2a ([(0,(.lst 3 (d_1.map l9))),(3,(.int .i64 (i_69:Int))),(47,(.bool s47_131))],[]) ?_ ?_
    ·refine a0s<|l7 (.lst 3 (d_1.map l9)) rfl<|l7 (.int .i64 (i_69:Int)) rfl<|y5 (a2c (enc:=l9) rfl rfl hx112)<|x8 (l9 x_117) rfl nle rfl<|?_
     obtain ⟨r_133,er134,hb2⟩:=ob hb2
     refine a0r (a0v (c6f _ _ er134) rfl (.refl _) rfl) a7s trivial<|x8 (.bool (!r_133)) rfl trivial rfl<|l7 (.bool (!r_133)) rfl<|?_
     rcases oi hb2 with ⟨d5a,hb2⟩ | ⟨d5a,hb2⟩
     ·refine a1p (s:=19) (b:=true) rfl d5a<|a0g rfl rfl<|a0g rfl rfl<|a0g rfl rfl<|a0g rfl rfl<|a0g rfl rfl<|a0g rfl rfl<|a0g rfl rfl<|a0g rfl rfl<|a0g rfl rfl<|a0g rfl rfl<|x8 (.bool true) rfl trivial rfl<|l7 (.bool true) rfl<|a0g rfl rfl<|a0g rfl rfl<|a0g rfl rfl<|a2w rfl<|a2w rfl<|a2w rfl<|a2w rfl<|a2w rfl<|a2w rfl<|a2w rfl<|a2w rfl<|a2w rfl<|c3d rfl trivial<|a2w rfl<|a0g rfl rfl<|x8 (.bool true) rfl trivial rfl<|a0b<|?_;obtain rfl:=os hb2;exact ⟨[],[],_,_,rfl,rfl,⟨.refl _,⟨.refl _,⟨.refl _,trivial⟩⟩⟩,(.refl _)⟩
     ·refine a1p (s:=19) (b:=false) rfl (bf d5a)<|s_on rfl<|l7 (.lst 3 (d_1.map l9)) rfl<|s_on rfl<|l7 (.int .i64 (i_69:Int)) rfl<|s_on rfl<|y5 (a2c (enc:=l9) rfl rfl hx112)<|s_on rfl<|x8 (.iptr (l9 x_117) 0) rfl trivial rfl<|s_on rfl<|x8 (.int .i64 x_117.Kind) rfl nle rfl<|s_on rfl<|l7 (.lst 3 (d_1.map l9)) rfl<|s_on rfl<|?_
      obtain ⟨x_136,ex137,hb2⟩:=ob hb2
      refine y5 (a6n (enc:=l9) rfl rfl (b3h ex137) (b3i ex137))<|s_on rfl<|x8 (.iptr (l9 x_136) 0) rfl trivial rfl<|s_on rfl<|x8 (.int .i64 x_136.Kind) rfl nle rfl<|s_on rfl<|x8 (.bool (x_117.Kind != x_136.Kind)) rfl rfl rfl<|x8 (.bool (x_117.Kind != x_136.Kind)) rfl trivial rfl<|l7 (.bool (x_117.Kind != x_136.Kind)) rfl<|?_
      rcases oi hb2 with ⟨c138,hb2⟩ | ⟨c138,hb2⟩
      ·refine a1p (s:=31) (b:=true) rfl c138<|a0g rfl rfl<|a0g rfl rfl<|a0g rfl rfl<|a2w rfl<|a2w rfl<|a2w rfl<|a2w rfl<|a2w rfl<|a2w rfl<|a2w rfl<|a2w rfl<|a2w rfl<|c3d rfl trivial<|a2w rfl<|a0g rfl rfl<|x8 (.bool true) rfl trivial rfl<|a0b<|?_;obtain rfl:=os hb2;exact ⟨[],[],_,_,rfl,rfl,⟨.refl _,⟨.refl _,⟨.refl _,trivial⟩⟩⟩,(.refl _)⟩
      ·refine a1p (s:=31) (b:=false) rfl (bf c138)<|s_on rfl<|l7 (.int .i64 (i_69:Int)) rfl<|s_on rfl<|x8 (.bool (decide ((i_69:Int) > 0))) rfl rfl rfl<|s_on rfl<|l7 (.bool (decide ((i_69:Int) > 0))) rfl<|?_
       rcases oi hb2 with ⟨c139,hb2⟩ | ⟨c139,hb2⟩
       ·refine a1p (s:=34) (b:=true) rfl c139<|s_on rfl<|l7 (.lst 3 (d_1.map l9)) rfl<|s_on rfl<|l7 (.int .i64 (i_69:Int)) rfl<|s_on rfl<|x8 (.int .i64 (w64 ((i_69:Int) - 1))) rfl rfl rfl<|s_on rfl<|?_
        obtain ⟨x_140,ex141,hb2⟩:=ob hb2
        refine y5 (a6n (enc:=l9) rfl rfl (b3h ex141) (b3i ex141))<|s_on rfl<|x8 (l9 x_140) rfl nle rfl<|s_on rfl<|l7 (.lst 3 (d_1.map l9)) rfl<|s_on rfl<|l7 (.int .i64 (i_69:Int)) rfl<|s_on rfl<|y5 (a2c (enc:=l9) rfl rfl hx112)<|s_on rfl<|x8 (l9 x_117) rfl nle rfl<|d7a rfl<|?_
        obtain ⟨r_142,er143,hb2⟩:=ob hb2
        refine a0r (a0v (c2l _ _ _ er143) rfl (.refl _) rfl) a7s trivial<|s_on rfl<|x8 (.bool (decide (r_142 ≥ 0))) rfl rfl rfl<|s_on rfl<|x8 (.bool (decide (r_142 ≥ 0))) rfl trivial rfl<|x8 (.bool (decide (r_142 ≥ 0))) rfl trivial rfl<|a0b<|?_;obtain rfl:=os hb2;exact ⟨[],[],_,_,rfl,rfl,⟨.refl _,⟨.refl _,⟨.refl _,trivial⟩⟩⟩,(.refl _)⟩
       ·refine a1p (s:=34) (b:=false) rfl (bf c139)<|a0g rfl rfl<|a0g rfl rfl<|a0g rfl rfl<|a0g rfl rfl<|a0g rfl rfl<|a0g rfl rfl<|a0g rfl rfl<|a0g rfl rfl<|a0g rfl rfl<|d2t rfl rfl trivial<|a0g rfl rfl<|s_on rfl<|x8 (.bool false) rfl trivial rfl<|x8 (.bool false) rfl trivial rfl<|a0b<|?_;obtain rfl:=os hb2;exact ⟨[],[],_,_,rfl,rfl,⟨.refl _,⟨.refl _,⟨.refl _,trivial⟩⟩⟩,(.refl _)⟩
    ·rcases oi hc1 with ⟨c144,hc1⟩ | ⟨c144,hc1⟩
     ·refine y7 rfl c144<|sr<|l7 (.bool false) rfl<|dk<|a0d<|?_;obtain rfl:=os hc1;obtain rfl:=os hf;exact a0e ⟨trivial,trivial⟩ rfl (.refl _)
     ·refine y8 rfl (bf c144)<|a0h<|a3f<|a0f<|a0s<|l7 (.int .i64 (i_69:Int)) rfl<|x8 (.int .i64 (w64 ((i_69:Int) + 1))) rfl rfl rfl<|l7 (.int .i64 (w64 ((i_69:Int) + 1))) rfl<|a0b<|?_;exact a1q ⟨(i_69 + 1),hc1⟩ (mul hlt111) ⟨[],[],_,_,rfl,rfl,⟨.refl _,⟨.of_eq (congrArg (AV.int _) (a1w hlt111 hl119)),trivial⟩⟩,(.refl _)⟩
  ·rintro ⟨_,rfl⟩
   refine sr<|l7 (.lst 3 (d_1.map l9)) rfl<|a0w (a1r (enc:=l9) rfl) fun hl145 => x8 (.bool (decide ((d_1.length:Int) ≤ 8))) rfl rfl rfl<|l7 (.bool (decide ((d_1.length:Int) ≤ 8))) rfl<|dk<|a0d<|?_;obtain rfl:=os hf;exact a0e ⟨trivial,trivial⟩ rfl (.refl _)

/- spec.l13RowOK -/
def c92:a0m :=
 (.seq (.reg (tq 3 (.box 2 (.t 1)) (tm 4 (.c (.bool false)) .done)))
 (.seq (.seq (.reg (tm 5 (.c (.int .i64 0)) .done))
 (.block 0 (.loop (.seq (.seq (.reg (tm 6 (.t 5) (tm 7 (.t 0) (tq 8 (.len (.t 7)) (tq 9 (.bin .lss (.t 6) (.t 8)) .done)))))
 (.cond (.t 9) .skip
 (.exit 0)))
 (.seq (.block 1 (.seq (.reg (tm 12 (.t 0) (tm 13 (.t 5) (tq 14 (.iaddr 1 (.t 12) (.t 13)) (tq 15 (.load 1 false (.t 14)) (tq 16 (.call 191 [(.t 15)]) (tq 17 (.not (.t 16)) (tm 18 (.t 17) (tg 19 18 false (.faddr 1 (.t 3)) (tg 20 18 false (.load 1 false (.t 19)) (tg 21 18 false (.len (.t 20)) (tg 22 18 false (.mov (.t 0)) (tg 23 18 false (.len (.t 22)) (tg 24 18 false (.bin .neq (.t 21) (.t 23)) (tq 25 (.pick (.t 18) (.c (.bool true)) (.t 24)) (tm 26 (.t 25) (tg 27 26 false (.faddr 1 (.t 3)) (tg 28 26 false (.load 1 false (.t 27)) (tg 29 26 false (.mov (.t 5)) (tg 30 26 false (.iaddr 1 (.t 28) (.t 29)) (tg 31 26 false (.load 1 false (.t 30)) (tg 32 26 false (.call 131 [(.t 31)]) (tg 33 26 false (.not (.t 32)) (tq 34 (.pick (.t 26) (.c (.bool true)) (.t 33)) .done))))))))))))))))))))))))
 (.cut (.cond (.t 34) (.seq (.reg (tm 4 (.c (.bool false)) .done))
 .ret)
 .skip))))
 (.reg (tm 10 (.t 5) (tq 11 (.bin .add (.t 10) (.c (.int .i64 1))) (tm 5 (.t 11) .done)))))))))
 (.cut (.seq (.reg (tq 35 (.faddr 1 (.t 3)) (tq 36 (.load 1 false (.t 35)) (tq 37 (.len (.t 36)) (tm 38 (.t 0) (tq 39 (.len (.t 38)) (tq 40 (.bin .eql (.t 37) (.t 39)) (tm 41 (.t 40) (tg 42 41 true (.mov (.t 0)) (tg 43 41 true (.len (.t 42)) (tg 44 41 true (.bin .leq (.t 43) (.c (.int .i64 6))) (tq 45 (.pick (.t 41) (.t 44) (.c (.bool false))) (tm 4 (.t 45) .done)))))))))))))
 .ret))))
theorem e6b:a1a Tryz.prog Tryz.f92 = some (c92.erase,[.mov (.t 4)],46):=by kernel_rfl
def a2p (r_2:a3r) (columns_1:(List Str)):List Str → Nat → Option (Fl Bool Unit)
  | [],i_58 =>
    some (.go ())
  | x_94 :: xs,i_58 =>
    (((b1r x_94).bind fun r_108 =>
    if (bif (!r_108) then true else ((r_2.Cells.length:Int) != (columns_1.length:Int))) then
    some true
    else
    (idx r_2.Cells (i_58:Int)).bind fun x_113 =>
    (b0b x_113).bind fun r_115 =>
    some (!r_115):Option Bool)).bind fun s34_106 =>
    if s34_106 then
    some (.ret false)
    else
    a2p r_2 columns_1 xs (i_58 + 1)

def a8t (columns_1:(List Str)) (r_2:a3r):Option Bool :=
    (a2p r_2 columns_1 columns_1 0).bind fun q => (match q with
    | .ret r => some r
    | .go _ =>
    if ((r_2.Cells.length:Int) == (columns_1.length:Int)) then
    some (decide ((columns_1.length:Int) ≤ 6))
    else
    some false)
theorem c2n (columns_1:(List Str)) (r_2:a3r) (r:Bool) (hf:a8t columns_1 r_2 = some r):x9 Tryz.prog 92 .flat [(.lst 1 (columns_1.map AV.str)),(a3t r_2)] (.bool r):=by
 refine x9.of_awp mixed Tryz.func92 e6b nle ?_;rw [a0j];unfold a8t at hf;unfold c92;refine (show awp Tryz.prog false 0 _ (ofL [(0,(.lst 1 (columns_1.map AV.str))),(1,(a3t r_2))]) [] _ from ?_);refine sr<|y5 (a1i (j:=0) (c:=(.agg [(.int .i64 r_2.Id),(.lst 1 (r_2.Cells.map (a0t 3 l9)))])) rfl trivial rfl rfl)<|l7 (.bool false) rfl<|dk<|o6<|sr<|l7 (.int .i64 0) rfl<|dk<|?_
 obtain ⟨p87,hb1,hf⟩:=ob hf
 refine a4n (X:={q:Unit // p87 = .go q}) (fun q => ([(0,(.lst 1 (columns_1.map AV.str))),(3,(.ptr 0 0 0))],[.box 2 (.agg [(.int .i64 r_2.Id),(.lst 1 (r_2.Cells.map (a0t 3 l9)))])])) ?_ ?_
 ·refine a1g (X:={q:Nat // a2p r_2 columns_1 (columns_1.drop q) q = some p87}) (fun q => ([(0,(.lst 1 (columns_1.map AV.str))),(3,(.ptr 0 0 0)),(5,(.int .i64 (q.1:Int)))],[.box 2 (.agg [(.int .i64 r_2.Id),(.lst 1 (r_2.Cells.map (a0t 3 l9)))])])) (fun q => columns_1.length - q.1) ⟨0,hb1⟩ ⟨[],[0],_,_,rfl,rfl,⟨.refl _,⟨.refl _,⟨.refl _,trivial⟩⟩⟩,(.refl _)⟩ ?_
  rintro ⟨i_58,hc1⟩
  have hc1:a2p r_2 columns_1 (columns_1.drop i_58) i_58 = some p87:=hc1
  refine (show awp Tryz.prog false 0 _ (ofL [(0,(.lst 1 (columns_1.map AV.str))),(3,(.ptr 0 0 0)),(5,(.int .i64 (i_58:Int)))]) [.box 2 (.agg [(.int .i64 r_2.Id),(.lst 1 (r_2.Cells.map (a0t 3 l9)))])] _ from ?_)
  rcases a5z columns_1 i_58 with ⟨hie90,hd93⟩ | ⟨hlt88,x_94,hx89,hd93⟩
  ·rw [hd93,a2p.eq_1] at hc1
   have hq92:=dlf hie90
   refine o6<|sr<|l7 (.int .i64 (i_58:Int)) rfl<|l7 (.lst 1 (columns_1.map AV.str)) rfl<|a0w (a1r (enc:=AV.str) rfl) fun hl95 => x8 (.bool (decide ((i_58:Int) < (columns_1.length:Int)))) rfl rfl rfl<|dk<|y8 rfl hq92<|a2t<|a2s<|a1y<|a2r<|?_;obtain rfl:=os hc1;exact a6r ⟨_,rfl⟩ ⟨[],[0],_,_,rfl,rfl,⟨.refl _,⟨.refl _,trivial⟩⟩,(.refl _)⟩
  ·rw [hd93,a2p.eq_2] at hc1
   have hq92:=dlt hlt88
   refine o6<|sr<|l7 (.int .i64 (i_58:Int)) rfl<|l7 (.lst 1 (columns_1.map AV.str)) rfl<|a0w (a1r (enc:=AV.str) rfl) fun hl96 => x8 (.bool (decide ((i_58:Int) < (columns_1.length:Int)))) rfl rfl rfl<|dk<|y7 rfl hq92<|a0h<|a0f<|o6<|a3g<|o6<|?_
   obtain ⟨s34_106,hb2,hc1⟩:=ob hc1
   refine a2a ([(0,(.lst 1 (columns_1.map AV.str))),(3,(.ptr 0 0 0)),(5,(.int .i64 (i_58:Int))),(34,(.bool s34_106))],[.box 2 (.agg [(.int .i64 r_2.Id),(.lst 1 (r_2.Cells.map (a0t 3 l9)))])]) ?_ ?_
   ·refine a0s<|l7 (.lst 1 (columns_1.map AV.str)) rfl<|l7 (.int .i64 (i_58:Int)) rfl<|y5 (a2c (enc:=AV.str) rfl rfl hx89)<|x8 (.str x_94) rfl ⟨rfl,rfl⟩ rfl<|?_
    obtain ⟨r_108,er109,hb2⟩:=ob hb2
    refine y5 (a0v (c6e _ _ er109) rfl (.refl _) rfl)<|x8 (.bool (!r_108)) rfl trivial rfl<|l7 (.bool (!r_108)) rfl<|?_;refine s_g (v:=(!r_108)) (.ptr 0 0 1) rfl (fun hv => by (try simp only [a1s hv]);exact ⟨rfl,trivial,rfl⟩) ?_;refine s_g (v:=(!r_108)) (.lst 1 (r_2.Cells.map (a0t 3 l9))) rfl (fun hv => by (try simp only [a1s hv]);exact ⟨rfl,nle,rfl⟩) ?_;refine s_g (v:=(!r_108)) (.int .i64 (r_2.Cells.length:Int)) rfl (fun hv => by (try simp only [a1s hv]);exact ⟨rfl,trivial,lenV _ _⟩) ?_;refine s_g (v:=(!r_108)) (.lst 1 (columns_1.map AV.str)) rfl (fun hv => by (try simp only [a1s hv]);exact ⟨rfl,trivial,rfl⟩) ?_;refine s_g (v:=(!r_108)) (.int .i64 (columns_1.length:Int)) rfl (fun hv => by (try simp only [a1s hv]);exact ⟨rfl,trivial,lenV _ _⟩) ?_
    refine s_g (v:=(!r_108)) (.bool ((r_2.Cells.length:Int) != (columns_1.length:Int))) rfl (fun hv => by (try simp only [a1s hv]);exact ⟨rfl,rfl,rfl⟩) ?_;refine b3q (x:=true) (y:=((r_2.Cells.length:Int) != (columns_1.length:Int))) rfl (fun hv => by (try simp only [a1s hv]);rfl) (fun hv => by (try simp only [a1s hv]);rfl) ?_;refine l7 (.bool (bif (!r_108) then true else ((r_2.Cells.length:Int) != (columns_1.length:Int)))) rfl ?_
    rcases oi hb2 with ⟨c112,hb2⟩ | ⟨c112,hb2⟩
    ·refine a1p (s:=26) (b:=true) rfl c112<|a0g rfl rfl<|a0g rfl rfl<|a0g rfl rfl<|a0g rfl rfl<|a0g rfl rfl<|a0g rfl rfl<|a0g rfl rfl<|x8 (.bool true) rfl trivial rfl<|a0b<|?_;obtain rfl:=os hb2;exact ⟨[],[0],_,_,rfl,rfl,⟨.refl _,⟨.refl _,⟨.refl _,⟨.refl _,trivial⟩⟩⟩⟩,(.refl _)⟩
    ·refine a1p (s:=26) (b:=false) rfl (bf c112)<|s_on rfl<|x8 (.ptr 0 0 1) rfl trivial rfl<|s_on rfl<|x8 (.lst 1 (r_2.Cells.map (a0t 3 l9))) rfl nle rfl<|s_on rfl<|l7 (.int .i64 (i_58:Int)) rfl<|s_on rfl<|?_
     obtain ⟨x_113,ex114,hb2⟩:=ob hb2
     refine y5 (a6n (enc:=(a0t 3 l9)) rfl rfl (b3h ex114) (b3i ex114))<|s_on rfl<|x8 (.lst 3 (x_113.map l9)) rfl ⟨rfl,rfl⟩ rfl<|s_on rfl<|?_
     obtain ⟨r_115,er116,hb2⟩:=ob hb2
     refine y5 (a0v (c4t _ _ er116) rfl (.refl _) rfl)<|s_on rfl<|x8 (.bool (!r_115)) rfl trivial rfl<|x8 (.bool (!r_115)) rfl trivial rfl<|a0b<|?_;obtain rfl:=os hb2;exact ⟨[],[0],_,_,rfl,rfl,⟨.refl _,⟨.refl _,⟨.refl _,⟨.refl _,trivial⟩⟩⟩⟩,(.refl _)⟩
   ·rcases oi hc1 with ⟨c117,hc1⟩ | ⟨c117,hc1⟩
    ·refine y7 rfl c117<|sr<|l7 (.bool false) rfl<|dk<|a0d<|?_;obtain rfl:=os hc1;obtain rfl:=os hf;exact a0e ⟨trivial,trivial⟩ rfl (.refl _)
    ·refine y8 rfl (bf c117)<|a0h<|a3f<|a0f<|a0s<|l7 (.int .i64 (i_58:Int)) rfl<|x8 (.int .i64 (w64 ((i_58:Int) + 1))) rfl rfl rfl<|l7 (.int .i64 (w64 ((i_58:Int) + 1))) rfl<|a0b<|?_;exact a1q ⟨(i_58 + 1),hc1⟩ (mul hlt88) ⟨[],[0],_,_,rfl,rfl,⟨.refl _,⟨.refl _,⟨.of_eq (congrArg (AV.int _) (a1w hlt88 hl96)),trivial⟩⟩⟩,(.refl _)⟩
 ·rintro ⟨_,rfl⟩
  refine sr<|?_
  rcases oi hf with ⟨c120,hf⟩ | ⟨c120,hf⟩
  ·refine x8 (.ptr 0 0 1) rfl trivial rfl<|x8 (.lst 1 (r_2.Cells.map (a0t 3 l9))) rfl nle rfl<|a0w (a1r (enc:=(a0t 3 l9)) rfl) fun hl118 => l7 (.lst 1 (columns_1.map AV.str)) rfl<|a0w (a1r (enc:=AV.str) rfl) fun hl119 => x8 (.bool ((r_2.Cells.length:Int) == (columns_1.length:Int))) rfl rfl rfl<|l7 (.bool ((r_2.Cells.length:Int) == (columns_1.length:Int))) rfl<|a1p (s:=41) (b:=true) rfl c120<|s_on rfl<|l7 (.lst 1 (columns_1.map AV.str)) rfl<|s_on rfl<|a0w (a1r (enc:=AV.str) rfl) fun hl121 => s_on rfl<|x8 (.bool (decide ((columns_1.length:Int) ≤ 6))) rfl rfl rfl<|x8 (.bool (decide ((columns_1.length:Int) ≤ 6))) rfl trivial rfl<|?_
   refine l7 (.bool (decide ((columns_1.length:Int) ≤ 6))) rfl<|dk<|a0d<|?_;obtain rfl:=os hf;exact a0e ⟨trivial,trivial⟩ rfl (.refl _)
  ·refine x8 (.ptr 0 0 1) rfl trivial rfl<|x8 (.lst 1 (r_2.Cells.map (a0t 3 l9))) rfl nle rfl<|a0w (a1r (enc:=(a0t 3 l9)) rfl) fun hl118 => l7 (.lst 1 (columns_1.map AV.str)) rfl<|a0w (a1r (enc:=AV.str) rfl) fun hl119 => x8 (.bool ((r_2.Cells.length:Int) == (columns_1.length:Int))) rfl rfl rfl<|l7 (.bool ((r_2.Cells.length:Int) == (columns_1.length:Int))) rfl<|a1p (s:=41) (b:=false) rfl (bf c120)<|a0g rfl rfl<|a0g rfl rfl<|a0g rfl rfl<|x8 (.bool false) rfl trivial rfl<|l7 (.bool false) rfl<|dk<|a0d<|?_;obtain rfl:=os hf;exact a0e ⟨trivial,trivial⟩ rfl (.refl _)

/- spec.l13N -/
def e2x:a0m :=
 (.seq (.reg (tq 2 (.box 5 (.c (.agg [(.int .i64 0),(.int .i64 0),(.str []),.nil,.nil]))) .done))
 (.seq (.reg (tm 3 (.t 0) (tq 4 (.build [(.int .i64 0),(.int .i64 0),(.str []),.nil,.nil] [(0,1,(.c (.int .i64 2))),(1,1,(.t 3))]) (.q ⟨none,none,.store 5 (.t 2) (.t 4)⟩
 .done))))
 .ret))
theorem e2y:a1a Tryz.prog Tryz.f216 = some (e2x.erase,[.load 5 true (.t 2)],5):=by kernel_rfl
def b6u (n_1:Int):Option o8 :=
    some (⟨2,n_1,[],[],[]⟩:o8)
theorem c1p (n_1:Int) (r:o8) (hf:b6u n_1 = some r):x9 Tryz.prog 216 .fresh [(.int .i64 n_1)] (o5 r):=by
  refine x9.of_awp mixed Tryz.func216 e2y nle ?_
  rw [a0j]
  unfold b6u at hf
  unfold e2x
  refine (show awp Tryz.prog true 0 _ (ofL [(0,(.int .i64 n_1))]) [] _ from ?_)
  refine o6 ?_
  refine a0s ?_
  refine y5 (a1i (j:=0) (c:=(.agg [(.int .i64 0),(.int .i64 0),(.str []),.nil,.nil])) rfl trivial rfl rfl) ?_
  refine a0b ?_
  refine a0f ?_
  refine o6 ?_
  refine a0s ?_
  refine y5 (a2x (.int .i64 n_1) rfl) ?_
  refine y5 (o_q (.agg [(.int .i64 2),(.int .i64 n_1),(.str []),.nil,.nil]) rfl ⟨⟨rfl,nle,trivial⟩,⟨⟨rfl,nle,trivial⟩,trivial⟩⟩ rfl) ?_
  refine a2i (a0c (v:=(.agg [(.int .i64 2),(.int .i64 n_1),(.str []),.nil,.nil])) (y':=(.agg [(.int .i64 2),(.int .i64 n_1),(.str []),.nil,.nil])) rfl rfl rfl trivial ⟨rfl,nle⟩ ⟨⟨rfl,trivial⟩,⟨⟨rfl,trivial⟩,⟨⟨rfl,trivial⟩,⟨⟨rfl,trivial⟩,⟨⟨rfl,trivial⟩,trivial⟩⟩⟩⟩⟩ rfl) ?_
  refine a0b ?_
  refine a0f ?_
  refine a0d ?_
  obtain rfl:=os hf
  exact a2k ⟨nle,trivial⟩ rfl (by decide) (leJ (x:=(⟨2,n_1,[],[],[]⟩:o8)) (.agg (.cons (.refl _) (.cons (.refl _) (.cons (.refl _) (.cons (.nil _) (.cons (.nil _) .nil)))))))

/- spec.l13T -/
def c213:a0m :=
 (.seq (.reg (tq 2 (.box 5 (.c (.agg [(.int .i64 0),(.int .i64 0),(.str []),.nil,.nil]))) .done))
 (.seq (.reg (tm 3 (.t 0) (tq 4 (.build [(.int .i64 0),(.int .i64 0),(.str []),.nil,.nil] [(0,1,(.c (.int .i64 3))),(2,1,(.t 3))]) (.q ⟨none,none,.store 5 (.t 2) (.t 4)⟩
 .done))))
 .ret))
theorem e2z:a1a Tryz.prog Tryz.f213 = some (c213.erase,[.load 5 true (.t 2)],5):=by kernel_rfl
def b2r (t_1:Str):Option o8 :=
    some (⟨3,0,t_1,[],[]⟩:o8)
theorem b6b (t_1:Str) (r:o8) (hf:b2r t_1 = some r):x9 Tryz.prog 213 .fresh [(.str t_1)] (o5 r):=by
  refine x9.of_awp mixed Tryz.func213 e2z nle ?_
  rw [a0j]
  unfold b2r at hf
  unfold c213
  refine (show awp Tryz.prog true 0 _ (ofL [(0,(.str t_1))]) [] _ from ?_)
  refine o6 ?_
  refine a0s ?_
  refine y5 (a1i (j:=0) (c:=(.agg [(.int .i64 0),(.int .i64 0),(.str []),.nil,.nil])) rfl trivial rfl rfl) ?_
  refine a0b ?_
  refine a0f ?_
  refine o6 ?_
  refine a0s ?_
  refine y5 (a2x (.str t_1) rfl) ?_
  refine y5 (o_q (.agg [(.int .i64 3),(.int .i64 0),(.str t_1),.nil,.nil]) rfl ⟨⟨rfl,nle,trivial⟩,⟨⟨rfl,nle,trivial⟩,trivial⟩⟩ rfl) ?_
  refine a2i (a0c (v:=(.agg [(.int .i64 3),(.int .i64 0),(.str t_1),.nil,.nil])) (y':=(.agg [(.int .i64 3),(.int .i64 0),(.str t_1),.nil,.nil])) rfl rfl rfl trivial ⟨rfl,nle⟩ ⟨⟨rfl,trivial⟩,⟨⟨rfl,trivial⟩,⟨⟨rfl,trivial⟩,⟨⟨rfl,trivial⟩,⟨⟨rfl,trivial⟩,trivial⟩⟩⟩⟩⟩ rfl) ?_
  refine a0b ?_
  refine a0f ?_
  refine a0d ?_
  obtain rfl:=os hf
  exact a2k ⟨nle,trivial⟩ rfl (by decide) (leJ (x:=(⟨3,0,t_1,[],[]⟩:o8)) (.agg (.cons (.refl _) (.cons (.refl _) (.cons (.refl _) (.cons (.nil _) (.cons (.nil _) .nil)))))))

/- spec.l13B -/
def e3a:a0m :=
 (.seq (.reg (tq 2 (.box 5 (.c (.agg [(.int .i64 0),(.int .i64 0),(.str []),.nil,.nil]))) .done))
 (.seq (.reg (tm 3 (.t 0) (tq 4 (.call 184 [(.t 3)]) (tq 5 (.build [(.int .i64 0),(.int .i64 0),(.str []),.nil,.nil] [(0,1,(.c (.int .i64 1))),(1,1,(.t 4))]) (.q ⟨none,none,.store 5 (.t 2) (.t 5)⟩
 .done)))))
 .ret))
theorem e3c:a1a Tryz.prog Tryz.f306 = some (e3a.erase,[.load 5 true (.t 2)],6):=by kernel_rfl
def b6v (b_1:Bool):Option o8 :=
    (a7y b_1).bind fun r_2 =>
    some (⟨1,r_2,[],[],[]⟩:o8)
theorem d1f (b_1:Bool) (r:o8) (hf:b6v b_1 = some r):x9 Tryz.prog 306 .fresh [(.bool b_1)] (o5 r):=by
  refine x9.of_awp mixed Tryz.func306 e3c nle ?_
  rw [a0j]
  unfold b6v at hf
  unfold e3a
  refine (show awp Tryz.prog true 0 _ (ofL [(0,(.bool b_1))]) [] _ from ?_)
  refine o6 ?_
  refine a0s ?_
  refine y5 (a1i (j:=0) (c:=(.agg [(.int .i64 0),(.int .i64 0),(.str []),.nil,.nil])) rfl trivial rfl rfl) ?_
  refine a0b ?_
  refine a0f ?_
  refine o6 ?_
  refine a0s ?_
  obtain ⟨r_2,er3,hf⟩:=ob hf
  refine y5 (a2x (.bool b_1) rfl) ?_
  refine y5 (a0v (b1f _ _ er3) rfl (.refl _) rfl) ?_
  refine y5 (o_q (.agg [(.int .i64 1),(.int .i64 r_2),(.str []),.nil,.nil]) rfl ⟨⟨rfl,nle,trivial⟩,⟨⟨rfl,nle,trivial⟩,trivial⟩⟩ rfl) ?_
  refine a2i (a0c (v:=(.agg [(.int .i64 1),(.int .i64 r_2),(.str []),.nil,.nil])) (y':=(.agg [(.int .i64 1),(.int .i64 r_2),(.str []),.nil,.nil])) rfl rfl rfl trivial ⟨rfl,nle⟩ ⟨⟨rfl,trivial⟩,⟨⟨rfl,trivial⟩,⟨⟨rfl,trivial⟩,⟨⟨rfl,trivial⟩,⟨⟨rfl,trivial⟩,trivial⟩⟩⟩⟩⟩ rfl) ?_
  refine a0b ?_
  refine a0f ?_
  refine a0d ?_
  obtain rfl:=os hf
  exact a2k ⟨nle,trivial⟩ rfl (by decide) (leJ (x:=(⟨1,r_2,[],[],[]⟩:o8)) (.agg (.cons (.refl _) (.cons (.refl _) (.cons (.refl _) (.cons (.nil _) (.cons (.nil _) .nil)))))))

/- spec.l13L -/
def d3w:a0m :=
 (.seq (.reg (tq 2 (.box 5 (.c (.agg [(.int .i64 0),(.int .i64 0),(.str []),.nil,.nil]))) .done))
 (.seq (.reg (tq 3 (.bslice 5 []) (tm 4 (.t 0) (tq 5 (.append 5 80 (.t 3) (.t 4)) (tq 6 (.build [(.int .i64 0),(.int .i64 0),(.str []),.nil,.nil] [(0,1,(.c (.int .i64 4))),(4,1,(.t 5))]) (.q ⟨none,none,.store 5 (.t 2) (.t 6)⟩
 .done))))))
 .ret))
theorem d7m:a1a Tryz.prog Tryz.f215 = some (d3w.erase,[.load 5 true (.t 2)],7):=by kernel_rfl
def a6g (list_1:(List o8)):Option o8 :=
    if ([] ++ list_1).length ≤ 2 ^ 30 then
    some (⟨4,0,[],[],[] ++ list_1⟩:o8)
    else none
theorem b6c (list_1:(List o8)) (r:o8) (hf:a6g list_1 = some r):a0z Tryz.prog true 215 [(.own 0 0 list_1.length)] [.row 5 (list_1.map o5)] (.agg [(.int .i64 r.Kind),(.int .i64 r.N),(.str r.T),(.own 1 0 r.Keys.length),(.own 2 0 r.Items.length)]) [.dead,.row 1 (r.Keys.map AV.str),.row 5 (r.Items.map o5)]:=by
 refine a0z.of_awp mixed Tryz.func215 d7m nle ?_;rw [a0j];unfold a6g at hf;unfold d3w;refine (show awp Tryz.prog true 1 _ (ofL [(0,(.own 0 0 list_1.length))]) [.row 5 (list_1.map o5)] _ from ?_);refine sr<|y5 (a1i (j:=1) (c:=(.agg [(.int .i64 0),(.int .i64 0),(.str []),.nil,.nil])) rfl trivial rfl rfl)<|dk<|sr<|?_
 obtain ⟨g2,hf⟩:=og hf
 refine y5 (a1f (j:=2) (as':=[]) rfl (fun _ => by decide) trivial (.refl _) rfl rfl rfl) ?_;refine l7 (.own 0 0 list_1.length) rfl ?_
 refine y5 (a3u (j:=3) (L:=(([] ++ list_1).map o5)) (len:=([] ++ list_1).length) rfl true rfl rfl (fun h => Bool.noConfusion h) (fun _ _ h => (d7j (show AV.own _ _ _ = AV.lst _ _ from h)).elim) (by decide) ((by simp [← List.map_take])) (by simp <;> omega) g2 rfl rfl) ?_
 refine x8 (.agg [(.int .i64 4),(.int .i64 0),(.str []),.nil,(.own 3 0 (([] ++ list_1).length))]) rfl ⟨⟨rfl,nle,trivial⟩,⟨⟨rfl,nle,trivial⟩,trivial⟩⟩ rfl<|a2i (a0c (v:=(.agg [(.int .i64 4),(.int .i64 0),(.str []),.nil,(.own 3 0 (([] ++ list_1).length))])) (y':=(.agg [(.int .i64 4),(.int .i64 0),(.str []),.nil,(.own 3 0 (([] ++ list_1).length))])) rfl rfl rfl trivial ⟨rfl,nle⟩ ⟨⟨rfl,trivial⟩,⟨⟨rfl,trivial⟩,⟨⟨rfl,trivial⟩,⟨⟨rfl,trivial⟩,⟨⟨rfl,trivial⟩,trivial⟩⟩⟩⟩⟩ rfl)<|dk<|a0d<|?_;obtain rfl:=os hf;exact a7t [.nilC 1 3 1] [0,4,3] rfl ⟨nle,trivial⟩ rfl (.refl _) (.refl _)

/- spec.l13Atom -/
def e3d:a0m :=
 (.seq (.reg (tq 1 (.box 3 (.t 0)) (tq 2 (.box 5 (.c (.agg [(.int .i64 0),(.int .i64 0),(.str []),.nil,.nil]))) .done)))
 (.seq (.seq (.reg (tq 3 (.faddr 0 (.t 1)) (tq 4 (.load 1 false (.t 3)) .done)))
 (.block 0 (.seq (.reg (tq 6 (.bin .eql (.t 4) (.c (.int .i64 1))) (tm 5 (.t 6) .done)))
 (.cond (.t 5) (.seq (.reg (tq 7 (.faddr 1 (.t 1)) (tq 8 (.load 1 false (.t 7)) (tq 9 (.call 216 [(.t 8)]) (.q ⟨none,none,.store 5 (.t 2) (.t 9)⟩
 .done)))))
 .ret)
 (.seq (.reg (tq 11 (.bin .eql (.t 4) (.c (.int .i64 2))) (tm 10 (.t 11) .done)))
 (.cond (.t 10) (.seq (.reg (tq 12 (.faddr 2 (.t 1)) (tq 13 (.load 1 false (.t 12)) (tq 14 (.call 213 [(.t 13)]) (.q ⟨none,none,.store 5 (.t 2) (.t 14)⟩
 .done)))))
 .ret)
 (.seq (.reg (tq 16 (.bin .eql (.t 4) (.c (.int .i64 3))) (tm 15 (.t 16) .done)))
 (.cond (.t 15) (.seq (.reg (tq 17 (.faddr 1 (.t 1)) (tq 18 (.load 1 false (.t 17)) (tq 19 (.bin .eql (.t 18) (.c (.int .i64 1))) (tq 20 (.call 306 [(.t 19)]) (.q ⟨none,none,.store 5 (.t 2) (.t 20)⟩
 .done))))))
 .ret)
 .skip))))))))
 (.seq (.reg (tq 22 (.faddr 1 (.t 1)) (tq 23 (.load 1 false (.t 22)) (.l ⟨(some 21),none,.call 213 [(.c (.str [117,117,105,100]))]⟩ [⟨(some 23),none,.load 1 false (.t 22)⟩,⟨(some 22),none,.faddr 1 (.t 1)⟩]
 (.l ⟨(some 24),none,.call 216 [(.t 23)]⟩ []
 (.l ⟨(some 25),none,.bslice 5 [(.t 21),(.t 24)]⟩ []
 (.l ⟨(some 26),none,.call 215 [(.t 25)]⟩ []
 (.l ⟨none,none,.store 5 (.t 2) (.t 26)⟩ []
 .done .non) .non) .non) .non) .non))))
 .ret)))
theorem e3e:a1a Tryz.prog Tryz.f230 = some (e3d.erase,[.load 5 true (.t 2)],27):=by kernel_rfl
def a8h (a_1:a0a):Option o8 :=
    if (a_1.Kind == 1) then
    (b6u a_1.N).bind fun r_3 =>
    some r_3
    else
    if (a_1.Kind == 2) then
    (b2r a_1.T).bind fun r_6 =>
    some r_6
    else
    if (a_1.Kind == 3) then
    (b6v (a_1.N == 1)).bind fun r_9 =>
    some r_9
    else
    (b2r [117,117,105,100]).bind fun r_11 =>
    (b6u a_1.N).bind fun r_13 =>
    (a6g [r_11,r_13]).bind fun r_15 =>
    some r_15
theorem b6d (a_1:a0a) (r:o8) (hf:a8h a_1 = some r):x9 Tryz.prog 230 .fresh [(l9 a_1)] (o5 r):=by
 refine x9.of_awp mixed Tryz.func230 e3e nle ?_;rw [a0j];unfold a8h at hf;unfold e3d;refine (show awp Tryz.prog true 0 _ (ofL [(0,(l9 a_1))]) [] _ from ?_);refine sr<|y5 (a1i (j:=0) (c:=(.agg [(.int .i64 a_1.Kind),(.int .i64 a_1.N),(.str a_1.T)])) rfl trivial rfl rfl)<|y5 (a1i (j:=1) (c:=(.agg [(.int .i64 0),(.int .i64 0),(.str []),.nil,.nil])) rfl trivial rfl rfl)<|dk<|o6<|sr<|x8 (.ptr 0 0 0) rfl trivial rfl<|x8 (.int .i64 a_1.Kind) rfl nle rfl<|dk<|a3g<|sr<|x8 (.bool (a_1.Kind == 1)) rfl rfl rfl<|l7 (.bool (a_1.Kind == 1)) rfl<|dk<|?_
 rcases oi hf with ⟨c2,hf⟩ | ⟨c2,hf⟩
 ·refine y7 rfl c2<|sr<|?_
  obtain ⟨r_3,er4,hf⟩:=ob hf
  refine x8 (.ptr 0 0 1) rfl trivial rfl<|x8 (.int .i64 a_1.N) rfl nle rfl<|y5 (a1m (v:=(.agg [(.int .i64 r_3.Kind),(.int .i64 r_3.N),(.str r_3.T),(.own 2 0 r_3.Keys.length),(.own 3 0 r_3.Items.length)])) (h':=[.row 1 (r_3.Keys.map AV.str),.row 5 (r_3.Items.map o5)]) (c1p _ _ er4) rfl (.refl _) (by simp only [a1e,a1c,List.length_map,y9,List.nil_append,List.append_nil,List.cons_append];rfl))<|a2i (a0c (v:=(.agg [(.int .i64 r_3.Kind),(.int .i64 r_3.N),(.str r_3.T),(.own 2 0 r_3.Keys.length),(.own 3 0 r_3.Items.length)])) (y':=(.agg [(.int .i64 r_3.Kind),(.int .i64 r_3.N),(.str r_3.T),(.own 2 0 r_3.Keys.length),(.own 3 0 r_3.Items.length)])) rfl rfl rfl trivial ⟨rfl,nle⟩ ⟨⟨rfl,trivial⟩,⟨⟨rfl,trivial⟩,⟨⟨rfl,trivial⟩,⟨⟨rfl,trivial⟩,⟨⟨rfl,trivial⟩,trivial⟩⟩⟩⟩⟩ rfl)<|?_
  refine dk<|a0d<|?_;obtain rfl:=os hf;exact a2k ⟨nle,trivial⟩ rfl (by decide) (leJ (x:=r_3) (.agg (.cons (.refl _) (.cons (.refl _) (.cons (.refl _) (.cons (.of_eq (congrArg (AV.lst _) (tk (enc:=AV.str) r_3.Keys))) (.cons (.of_eq (congrArg (AV.lst _) (tk (enc:=o5) r_3.Items))) .nil)))))))
 ·refine y8 rfl (bf c2)<|sr<|x8 (.bool (a_1.Kind == 2)) rfl rfl rfl<|l7 (.bool (a_1.Kind == 2)) rfl<|dk<|?_
  rcases oi hf with ⟨c5,hf⟩ | ⟨c5,hf⟩
  ·refine y7 rfl c5<|sr<|?_
   obtain ⟨r_6,er7,hf⟩:=ob hf
   refine x8 (.ptr 0 0 2) rfl trivial rfl<|x8 (.str a_1.T) rfl nle rfl<|y5 (a1m (v:=(.agg [(.int .i64 r_6.Kind),(.int .i64 r_6.N),(.str r_6.T),(.own 2 0 r_6.Keys.length),(.own 3 0 r_6.Items.length)])) (h':=[.row 1 (r_6.Keys.map AV.str),.row 5 (r_6.Items.map o5)]) (b6b _ _ er7) rfl (.refl _) (by simp only [a1e,a1c,List.length_map,y9,List.nil_append,List.append_nil,List.cons_append];rfl))<|a2i (a0c (v:=(.agg [(.int .i64 r_6.Kind),(.int .i64 r_6.N),(.str r_6.T),(.own 2 0 r_6.Keys.length),(.own 3 0 r_6.Items.length)])) (y':=(.agg [(.int .i64 r_6.Kind),(.int .i64 r_6.N),(.str r_6.T),(.own 2 0 r_6.Keys.length),(.own 3 0 r_6.Items.length)])) rfl rfl rfl trivial ⟨rfl,nle⟩ ⟨⟨rfl,trivial⟩,⟨⟨rfl,trivial⟩,⟨⟨rfl,trivial⟩,⟨⟨rfl,trivial⟩,⟨⟨rfl,trivial⟩,trivial⟩⟩⟩⟩⟩ rfl)<|?_
   refine dk<|a0d<|?_;obtain rfl:=os hf;exact a2k ⟨nle,trivial⟩ rfl (by decide) (leJ (x:=r_6) (.agg (.cons (.refl _) (.cons (.refl _) (.cons (.refl _) (.cons (.of_eq (congrArg (AV.lst _) (tk (enc:=AV.str) r_6.Keys))) (.cons (.of_eq (congrArg (AV.lst _) (tk (enc:=o5) r_6.Items))) .nil)))))))
  ·refine y8 rfl (bf c5)<|sr<|x8 (.bool (a_1.Kind == 3)) rfl rfl rfl<|l7 (.bool (a_1.Kind == 3)) rfl<|dk<|?_
   rcases oi hf with ⟨c8,hf⟩ | ⟨c8,hf⟩
   ·refine y7 rfl c8<|sr<|?_
    obtain ⟨r_9,er10,hf⟩:=ob hf
    refine x8 (.ptr 0 0 1) rfl trivial rfl<|x8 (.int .i64 a_1.N) rfl nle rfl<|x8 (.bool (a_1.N == 1)) rfl rfl rfl<|y5 (a1m (v:=(.agg [(.int .i64 r_9.Kind),(.int .i64 r_9.N),(.str r_9.T),(.own 2 0 r_9.Keys.length),(.own 3 0 r_9.Items.length)])) (h':=[.row 1 (r_9.Keys.map AV.str),.row 5 (r_9.Items.map o5)]) (d1f _ _ er10) rfl (.refl _) (by simp only [a1e,a1c,List.length_map,y9,List.nil_append,List.append_nil,List.cons_append];rfl))<|a2i (a0c (v:=(.agg [(.int .i64 r_9.Kind),(.int .i64 r_9.N),(.str r_9.T),(.own 2 0 r_9.Keys.length),(.own 3 0 r_9.Items.length)])) (y':=(.agg [(.int .i64 r_9.Kind),(.int .i64 r_9.N),(.str r_9.T),(.own 2 0 r_9.Keys.length),(.own 3 0 r_9.Items.length)])) rfl rfl rfl trivial ⟨rfl,nle⟩ ⟨⟨rfl,trivial⟩,⟨⟨rfl,trivial⟩,⟨⟨rfl,trivial⟩,⟨⟨rfl,trivial⟩,⟨⟨rfl,trivial⟩,trivial⟩⟩⟩⟩⟩ rfl)<|?_
    refine dk<|a0d<|?_;obtain rfl:=os hf;exact a2k ⟨nle,trivial⟩ rfl (by decide) (leJ (x:=r_9) (.agg (.cons (.refl _) (.cons (.refl _) (.cons (.refl _) (.cons (.of_eq (congrArg (AV.lst _) (tk (enc:=AV.str) r_9.Keys))) (.cons (.of_eq (congrArg (AV.lst _) (tk (enc:=o5) r_9.Items))) .nil)))))))
   ·refine y8 rfl (bf c8)<|a0h<|a3f<|a0f<|sr<|?_
    obtain ⟨r_11,er12,hf⟩:=ob hf
    obtain ⟨r_13,er14,hf⟩:=ob hf
    obtain ⟨r_15,er16,hf⟩:=ob hf
    refine x8 (.ptr 0 0 1) rfl trivial rfl<|x8 (.int .i64 a_1.N) rfl nle rfl<|a0r (a1m (v:=(.agg [(.int .i64 r_11.Kind),(.int .i64 r_11.N),(.str r_11.T),(.own 2 0 r_11.Keys.length),(.own 3 0 r_11.Items.length)])) (h':=[.row 1 (r_11.Keys.map AV.str),.row 5 (r_11.Items.map o5)]) (b6b _ _ er12) rfl (.refl _) (by simp only [a1e,a1c,List.length_map,y9,List.nil_append,List.append_nil,List.cons_append];rfl)) (.inr ⟨⟨nle,rfl⟩,⟨⟨trivial,rfl⟩,trivial⟩⟩) trivial<|a0r (a1m (v:=(.agg [(.int .i64 r_13.Kind),(.int .i64 r_13.N),(.str r_13.T),(.own 4 0 r_13.Keys.length),(.own 5 0 r_13.Items.length)])) (h':=[.row 1 (r_13.Keys.map AV.str),.row 5 (r_13.Items.map o5)]) (c1p _ _ er14) rfl (.refl _) (by simp only [a1e,a1c,List.length_map,y9,List.nil_append,List.append_nil,List.cons_append];rfl)) trivial trivial<|?_
    refine a0r (a1f (j:=6) (as':=[(o5 r_11),(o5 r_13)]) rfl (fun _ => by decide) ⟨rfl,⟨rfl,trivial⟩⟩ (.cons (leJ (x:=r_11) (.agg (.cons (.refl _) (.cons (.refl _) (.cons (.refl _) (.cons (.of_eq (congrArg (AV.lst _) (tk (enc:=AV.str) r_11.Keys))) (.cons (.of_eq (congrArg (AV.lst _) (tk (enc:=o5) r_11.Items))) .nil))))))) (.cons (leJ (x:=r_13) (.agg (.cons (.refl _) (.cons (.refl _) (.cons (.refl _) (.cons (.of_eq (congrArg (AV.lst _) (tk (enc:=AV.str) r_13.Keys))) (.cons (.of_eq (congrArg (AV.lst _) (tk (enc:=o5) r_13.Items))) .nil))))))) .nil)) rfl rfl rfl) trivial trivial ?_;refine a0r (b3j (v:=(.agg [(.int .i64 r_15.Kind),(.int .i64 r_15.N),(.str r_15.T),(.own 7 0 r_15.Keys.length),(.own 8 0 r_15.Items.length)])) (h2:=[.box 3 (.agg [(.int .i64 a_1.Kind),(.int .i64 a_1.N),(.str a_1.T)]),.box 5 (.agg [(.int .i64 0),(.int .i64 0),(.str []),.nil,.nil]),.dead,.dead,.dead,.dead,.dead,.row 1 (r_15.Keys.map AV.str),.row 5 (r_15.Items.map o5)]) [] [6] (fun _ => rfl) (b6c _ _ er16) rfl (.cons (.of_eq (congrArg (AV.own _ 0) (by simp))) .nil) (.refl _) rfl rfl) trivial trivial ?_
    refine a3i (a0c (v:=(.agg [(.int .i64 r_15.Kind),(.int .i64 r_15.N),(.str r_15.T),(.own 7 0 r_15.Keys.length),(.own 8 0 r_15.Items.length)])) (y':=(.agg [(.int .i64 r_15.Kind),(.int .i64 r_15.N),(.str r_15.T),(.own 7 0 r_15.Keys.length),(.own 8 0 r_15.Items.length)])) rfl rfl rfl trivial ⟨rfl,nle⟩ ⟨⟨rfl,trivial⟩,⟨⟨rfl,trivial⟩,⟨⟨rfl,trivial⟩,⟨⟨rfl,trivial⟩,⟨⟨rfl,trivial⟩,trivial⟩⟩⟩⟩⟩ rfl) trivial trivial<|dk<|a0d<|?_;obtain rfl:=os hf;exact a2k ⟨nle,trivial⟩ rfl (by decide) (leJ (x:=r_15) (.agg (.cons (.refl _) (.cons (.refl _) (.cons (.refl _) (.cons (.of_eq (congrArg (AV.lst _) (tk (enc:=AV.str) r_15.Keys))) (.cons (.of_eq (congrArg (AV.lst _) (tk (enc:=o5) r_15.Items))) .nil)))))))

/- spec.l13L -/
def d3x:a0m :=
 (.seq (.reg (tq 2 (.box 5 (.c (.agg [(.int .i64 0),(.int .i64 0),(.str []),.nil,.nil]))) .done))
 (.seq (.reg (tq 3 (.bslice 5 []) (tm 4 (.t 0) (tq 5 (.append 5 80 (.t 3) (.t 4)) (tq 6 (.build [(.int .i64 0),(.int .i64 0),(.str []),.nil,.nil] [(0,1,(.c (.int .i64 4))),(4,1,(.t 5))]) (.q ⟨none,none,.store 5 (.t 2) (.t 6)⟩
 .done))))))
 .ret))
theorem d7n:a1a Tryz.prog Tryz.f215 = some (d3x.erase,[.load 5 true (.t 2)],7):=by kernel_rfl
def b0c :Option o8 :=
    if ([]:List o8).length ≤ 2 ^ 30 then
    some (⟨4,0,[],[],([]:List o8)⟩:o8)
    else none
theorem c4u  (r:o8) (hf:b0c = some r):a0z Tryz.prog true 215 [.nil] [] (.agg [(.int .i64 r.Kind),(.int .i64 r.N),(.str r.T),(.own 0 0 r.Keys.length),(.own 1 0 r.Items.length)]) [.row 1 (r.Keys.map AV.str),.row 5 (r.Items.map o5)]:=by
 refine a0z.of_awp mixed Tryz.func215 d7n nle ?_;rw [a0j];unfold b0c at hf;unfold d3x;refine (show awp Tryz.prog true 0 _ (ofL [(0,.nil)]) [] _ from ?_);refine sr<|y5 (a1i (j:=0) (c:=(.agg [(.int .i64 0),(.int .i64 0),(.str []),.nil,.nil])) rfl trivial rfl rfl)<|dk<|sr<|?_
 obtain ⟨g1,hf⟩:=og hf
 refine y5 (a1f (j:=1) (as':=[]) rfl (fun _ => by decide) trivial (.refl _) rfl rfl rfl) ?_;refine l7 .nil rfl ?_
 refine y5 (a3u (j:=2) (L:=(([]:List o8).map o5)) (len:=([]:List o8).length) rfl false rfl rfl (fun _ => e1w) (fun _ _ h => (e5s (show AV.nil = AV.lst _ _ from h)).elim) (by decide) ((by simp)) (by simp <;> omega) g1 rfl rfl) ?_
 refine x8 (.agg [(.int .i64 4),(.int .i64 0),(.str []),.nil,(.own 2 0 (([]:List o8).length))]) rfl ⟨⟨rfl,nle,trivial⟩,⟨⟨rfl,nle,trivial⟩,trivial⟩⟩ rfl<|a2i (a0c (v:=(.agg [(.int .i64 4),(.int .i64 0),(.str []),.nil,(.own 2 0 (([]:List o8).length))])) (y':=(.agg [(.int .i64 4),(.int .i64 0),(.str []),.nil,(.own 2 0 (([]:List o8).length))])) rfl rfl rfl trivial ⟨rfl,nle⟩ ⟨⟨rfl,trivial⟩,⟨⟨rfl,trivial⟩,⟨⟨rfl,trivial⟩,⟨⟨rfl,trivial⟩,⟨⟨rfl,trivial⟩,trivial⟩⟩⟩⟩⟩ rfl)<|dk<|a0d<|?_;obtain rfl:=os hf;exact a7t [.nilC 0 3 1] [3,2] rfl ⟨nle,trivial⟩ rfl (.refl _) (.refl _)

/- spec.l13Datum -/
def e3f:a0m :=
 (.seq (.reg (tq 2 (.box 5 (.c (.agg [(.int .i64 0),(.int .i64 0),(.str []),.nil,.nil]))) .done))
 (.seq (.seq (.reg (tm 5 (.t 0) (tq 6 (.len (.t 5)) (tq 7 (.bin .eql (.t 6) (.c (.int .i64 1))) .done))))
 (.cond (.t 7) (.seq (.reg (tm 8 (.t 0) (tq 9 (.iaddr 3 (.t 8) (.c (.int .i64 0))) (tq 10 (.load 3 true (.t 9)) (tq 11 (.call 230 [(.t 10)]) (.q ⟨none,none,.store 5 (.t 2) (.t 11)⟩
 .done))))))
 .ret)
 .skip))
 (.seq (.reg (tq 12 (.call 215 [(.c .nil)]) (tq 3 (.box 5 (.c (.agg [(.int .i64 0),(.int .i64 0),(.str []),.nil,.nil]))) (.q ⟨none,none,.store 5 (.t 3) (.t 12)⟩
 .done))))
 (.seq (.seq (.reg (tm 4 (.c (.int .i64 0)) .done))
 (.block 0 (.loop (.seq (.seq (.reg (tm 13 (.t 4) (tm 14 (.t 0) (tq 15 (.len (.t 14)) (tq 16 (.bin .lss (.t 13) (.t 15)) .done)))))
 (.cond (.t 16) .skip
 (.exit 0)))
 (.seq (.block 1 (.reg (tq 19 (.faddr 4 (.t 3)) (tq 20 (.load 1 false (.t 19)) (tm 21 (.t 0) (tm 22 (.t 4) (tq 23 (.iaddr 3 (.t 21) (.t 22)) (tq 24 (.load 3 true (.t 23)) (.l ⟨(some 25),none,.call 230 [(.t 24)]⟩ [⟨(some 20),none,.load 1 false (.t 19)⟩,⟨(some 19),none,.faddr 4 (.t 3)⟩]
 (.l ⟨(some 26),none,.bslice 5 [(.t 25)]⟩ [⟨(some 20),none,.load 1 false (.t 19)⟩,⟨(some 19),none,.faddr 4 (.t 3)⟩]
 (.l ⟨(some 27),none,.append 5 80 (.t 20) (.t 26)⟩ []
 (tq 28 (.faddr 4 (.t 3)) (.l ⟨none,none,.store 1 (.t 28) (.t 27)⟩ []
 .done .non)) .non) .non) .non)))))))))
 (.reg (tm 17 (.t 4) (tq 18 (.bin .add (.t 17) (.c (.int .i64 1))) (tm 4 (.t 18) .done)))))))))
 (.cut (.seq (.reg (tq 30 (.load 5 true (.t 3)) (.l ⟨(some 29),none,.call 213 [(.c (.str [115,101,116]))]⟩ [⟨(some 30),none,.load 5 true (.t 3)⟩]
 (.l ⟨(some 31),none,.bslice 5 [(.t 29),(.t 30)]⟩ []
 (.l ⟨(some 32),none,.call 215 [(.t 31)]⟩ []
 (.l ⟨none,none,.store 5 (.t 2) (.t 32)⟩ []
 .done .non) .non) .non) .non)))
 .ret))))))
theorem e3g:a1a Tryz.prog Tryz.f132 = some (e3f.erase,[.load 5 true (.t 2)],33):=by kernel_rfl
def a3m :List a0a → (List o8) → Option (List o8)
  | [],x_27 =>
    some x_27
  | x_44 :: xs,x_27 =>
    (a8h x_44).bind fun r_47 =>
    if (x_27 ++ [r_47]).length ≤ 2 ^ 30 then
    a3m xs  (x_27 ++ [r_47])
    else none

def a7h (d_1:(List a0a)):Option o8 :=
    if ((d_1.length:Int) == 1) then
    (idx d_1 0).bind fun x_4 =>
    (a8h x_4).bind fun r_6 =>
    some r_6
    else
    (b0c).bind fun r_8 =>
    (a3m d_1 r_8.Items).bind fun x_36 =>
    (b2r [115,101,116]).bind fun r_50 =>
    (a6g [r_50,(⟨r_8.Kind,r_8.N,r_8.T,r_8.Keys,x_36⟩:o8)]).bind fun r_52 =>
    some r_52
theorem c2o (d_1:(List a0a)) (r:o8) (hf:a7h d_1 = some r):x9 Tryz.prog 132 .fresh [(.lst 3 (d_1.map l9))] (o5 r):=by
 refine x9.of_awp mixed Tryz.func132 e3g nle ?_;rw [a0j];unfold a7h at hf;unfold e3f;refine (show awp Tryz.prog true 0 _ (ofL [(0,(.lst 3 (d_1.map l9)))]) [] _ from ?_);refine sr<|y5 (a1i (j:=0) (c:=(.agg [(.int .i64 0),(.int .i64 0),(.str []),.nil,.nil])) rfl trivial rfl rfl)<|dk<|o6<|sr<|l7 (.lst 3 (d_1.map l9)) rfl<|a0w (a1r (enc:=l9) rfl) fun hl2 => x8 (.bool ((d_1.length:Int) == 1)) rfl rfl rfl<|dk<|?_
 rcases oi hf with ⟨c3,hf⟩ | ⟨c3,hf⟩
 ·refine y7 rfl c3<|sr<|?_
  obtain ⟨x_4,ex5,hf⟩:=ob hf
  obtain ⟨r_6,er7,hf⟩:=ob hf
  refine l7 (.lst 3 (d_1.map l9)) rfl<|y5 (a6n (enc:=l9) rfl rfl (b3h ex5) (b3i ex5))<|x8 (l9 x_4) rfl nle rfl<|y5 (a1m (v:=(.agg [(.int .i64 r_6.Kind),(.int .i64 r_6.N),(.str r_6.T),(.own 1 0 r_6.Keys.length),(.own 2 0 r_6.Items.length)])) (h':=[.row 1 (r_6.Keys.map AV.str),.row 5 (r_6.Items.map o5)]) (b6d _ _ er7) rfl (.refl _) (by simp only [a1e,a1c,List.length_map,y9,List.nil_append,List.append_nil,List.cons_append];rfl))<|a2i (a0c (v:=(.agg [(.int .i64 r_6.Kind),(.int .i64 r_6.N),(.str r_6.T),(.own 1 0 r_6.Keys.length),(.own 2 0 r_6.Items.length)])) (y':=(.agg [(.int .i64 r_6.Kind),(.int .i64 r_6.N),(.str r_6.T),(.own 1 0 r_6.Keys.length),(.own 2 0 r_6.Items.length)])) rfl rfl rfl trivial ⟨rfl,nle⟩ ⟨⟨rfl,trivial⟩,⟨⟨rfl,trivial⟩,⟨⟨rfl,trivial⟩,⟨⟨rfl,trivial⟩,⟨⟨rfl,trivial⟩,trivial⟩⟩⟩⟩⟩ rfl)<|?_
  refine dk<|a0d<|?_;obtain rfl:=os hf;exact a2k ⟨nle,trivial⟩ rfl (by decide) (leJ (x:=r_6) (.agg (.cons (.refl _) (.cons (.refl _) (.cons (.refl _) (.cons (.of_eq (congrArg (AV.lst _) (tk (enc:=AV.str) r_6.Keys))) (.cons (.of_eq (congrArg (AV.lst _) (tk (enc:=o5) r_6.Items))) .nil)))))))
 ·refine y8 rfl (bf c3)<|a0h<|a0f<|sr<|?_
  obtain ⟨r_8,er9,hf⟩:=ob hf
  refine y5 (b3j (v:=(.agg [(.int .i64 r_8.Kind),(.int .i64 r_8.N),(.str r_8.T),(.own 1 0 r_8.Keys.length),(.own 2 0 r_8.Items.length)])) (h2:=[.box 5 (.agg [(.int .i64 0),(.int .i64 0),(.str []),.nil,.nil]),.row 1 (r_8.Keys.map AV.str),.row 5 (r_8.Items.map o5)]) [] [] (fun _ => rfl) (c4u _ er9) rfl (.refl _) (.refl _) rfl rfl) ?_;refine y5 (a1i (j:=3) (c:=(.agg [(.int .i64 0),(.int .i64 0),(.str []),.nil,.nil])) rfl trivial rfl rfl)<|a2i (a0c (v:=(.agg [(.int .i64 r_8.Kind),(.int .i64 r_8.N),(.str r_8.T),(.own 1 0 r_8.Keys.length),(.own 2 0 r_8.Items.length)])) (y':=(.agg [(.int .i64 r_8.Kind),(.int .i64 r_8.N),(.str r_8.T),(.own 1 0 r_8.Keys.length),(.own 2 0 r_8.Items.length)])) rfl rfl rfl trivial ⟨rfl,nle⟩ ⟨⟨rfl,trivial⟩,⟨⟨rfl,trivial⟩,⟨⟨rfl,trivial⟩,⟨⟨rfl,trivial⟩,⟨⟨rfl,trivial⟩,trivial⟩⟩⟩⟩⟩ rfl)<|?_
  refine dk<|o6<|sr<|l7 (.int .i64 0) rfl<|dk<|?_
  obtain ⟨x_36,hb1,hf⟩:=ob hf
  refine a2a ([(2,(.ptr 0 0 0)),(3,(.ptr 1 0 0))],[.box 5 (.agg [(.int .i64 0),(.int .i64 0),(.str []),.nil,.nil]),.box 5 (.agg [(.int .i64 r_8.Kind),(.int .i64 r_8.N),(.str r_8.T),(.own 2 0 r_8.Keys.length),(.own 3 0 x_36.length)]),.row 1 (r_8.Keys.map AV.str),.row 5 (x_36.map o5)]) ?_ ?_
  ·refine a1g (X:={q:(Nat × (List o8)) // a3m (d_1.drop q.1) q.2 = some x_36}) (fun q => ([(0,(.lst 3 (d_1.map l9))),(2,(.ptr 0 0 0)),(3,(.ptr 1 0 0)),(4,(.int .i64 (q.1.1:Int)))],[.box 5 (.agg [(.int .i64 0),(.int .i64 0),(.str []),.nil,.nil]),.box 5 (.agg [(.int .i64 r_8.Kind),(.int .i64 r_8.N),(.str r_8.T),(.own 2 0 r_8.Keys.length),(.own 3 0 q.1.2.length)]),.row 1 (r_8.Keys.map AV.str),.row 5 (q.1.2.map o5)])) (fun q => d_1.length - q.1.1) ⟨(0,r_8.Items),hb1⟩ ⟨[],[0,3,1,2],_,_,rfl,rfl,⟨.refl _,⟨.refl _,⟨.refl _,⟨.refl _,trivial⟩⟩⟩⟩,(.refl _)⟩ ?_
   rintro ⟨⟨i_26,x_27⟩,hc1⟩
   have hc1:a3m (d_1.drop i_26) x_27 = some x_36:=hc1
   refine (show awp Tryz.prog true 0 _ (ofL [(0,(.lst 3 (d_1.map l9))),(2,(.ptr 0 0 0)),(3,(.ptr 1 0 0)),(4,(.int .i64 (i_26:Int)))]) [.box 5 (.agg [(.int .i64 0),(.int .i64 0),(.str []),.nil,.nil]),.box 5 (.agg [(.int .i64 r_8.Kind),(.int .i64 r_8.N),(.str r_8.T),(.own 2 0 r_8.Keys.length),(.own 3 0 x_27.length)]),.row 1 (r_8.Keys.map AV.str),.row 5 (x_27.map o5)] _ from ?_)
   rcases a5z d_1 i_26 with ⟨hie40,hd43⟩ | ⟨hlt38,x_44,hx39,hd43⟩
   ·rw [hd43,a3m.eq_1] at hc1
    have hq42:=dlf hie40
    refine o6<|sr<|l7 (.int .i64 (i_26:Int)) rfl<|l7 (.lst 3 (d_1.map l9)) rfl<|a0w (a1r (enc:=l9) rfl) fun hl45 => x8 (.bool (decide ((i_26:Int) < (d_1.length:Int)))) rfl rfl rfl<|dk<|y8 rfl hq42<|a2t<|a2s<|a1y<|a2r<|?_;obtain rfl:=os hc1;exact ⟨[],[0,1,2,3],_,_,rfl,rfl,⟨.refl _,⟨.refl _,trivial⟩⟩,(.refl _)⟩
   ·rw [hd43,a3m.eq_2] at hc1
    have hq42:=dlt hlt38
    refine o6<|sr<|l7 (.int .i64 (i_26:Int)) rfl<|l7 (.lst 3 (d_1.map l9)) rfl<|a0w (a1r (enc:=l9) rfl) fun hl46 => x8 (.bool (decide ((i_26:Int) < (d_1.length:Int)))) rfl rfl rfl<|dk<|y7 rfl hq42<|a0h<|a0f<|o6<|a3g<|a0s<|?_
    obtain ⟨r_47,er48,hc1⟩:=ob hc1
    obtain ⟨g49,hc1⟩:=og hc1
    refine x8 (.ptr 1 0 4) rfl trivial rfl<|x8 (.own 3 0 x_27.length) rfl nle rfl<|l7 (.lst 3 (d_1.map l9)) rfl<|l7 (.int .i64 (i_26:Int)) rfl<|y5 (a2c (enc:=l9) rfl rfl hx39)<|x8 (l9 x_44) rfl nle rfl<|a0r (a1m (v:=(.agg [(.int .i64 r_47.Kind),(.int .i64 r_47.N),(.str r_47.T),(.own 4 0 r_47.Keys.length),(.own 5 0 r_47.Items.length)])) (h':=[.row 1 (r_47.Keys.map AV.str),.row 5 (r_47.Items.map o5)]) (b6d _ _ er48) rfl (.refl _) (by simp only [a1e,a1c,List.length_map,y9,List.nil_append,List.append_nil,List.cons_append];rfl)) (.inr ⟨⟨nle,rfl⟩,⟨⟨trivial,rfl⟩,trivial⟩⟩) trivial<|?_;refine a0r (a1f (j:=6) (as':=[(o5 r_47)]) rfl (fun _ => by decide) ⟨rfl,trivial⟩ (.cons (leJ (x:=r_47) (.agg (.cons (.refl _) (.cons (.refl _) (.cons (.refl _) (.cons (.of_eq (congrArg (AV.lst _) (tk (enc:=AV.str) r_47.Keys))) (.cons (.of_eq (congrArg (AV.lst _) (tk (enc:=o5) r_47.Items))) .nil))))))) .nil) rfl rfl rfl) (.inr ⟨⟨nle,rfl⟩,⟨⟨trivial,rfl⟩,trivial⟩⟩) trivial ?_
    refine a0r (a3u (j:=7) (L:=((x_27 ++ [r_47]).map o5)) (len:=(x_27 ++ [r_47]).length) rfl true rfl rfl (fun h => Bool.noConfusion h) (fun _ _ h => (d7j (show AV.own _ _ _ = AV.lst _ _ from h)).elim) (by decide) (c4n (enc:=o5) x_27 [r_47] _ (by rfl)) (by simp <;> omega) g49 rfl rfl) trivial trivial ?_
    refine x8 (.ptr 1 0 4) rfl trivial rfl<|a3i (a0c (v:=(.own 7 0 ((x_27 ++ [r_47]).length))) (y':=(.agg [(.int .i64 r_8.Kind),(.int .i64 r_8.N),(.str r_8.T),(.own 2 0 r_8.Keys.length),(.own 7 0 ((x_27 ++ [r_47]).length))])) rfl rfl rfl trivial ⟨rfl,nle⟩ ⟨⟨rfl,trivial⟩,trivial⟩ rfl) trivial trivial<|a0b<|a3f<|a0f<|a0s<|l7 (.int .i64 (i_26:Int)) rfl<|x8 (.int .i64 (w64 ((i_26:Int) + 1))) rfl rfl rfl<|l7 (.int .i64 (w64 ((i_26:Int) + 1))) rfl<|a0b<|?_;exact a1q ⟨((i_26 + 1),x_27 ++ [r_47]),hc1⟩ (mul hlt38) ⟨[],[0,1,2,7],_,_,rfl,rfl,⟨.refl _,⟨.refl _,⟨.refl _,⟨.of_eq (congrArg (AV.int _) (a1w hlt38 hl46)),trivial⟩⟩⟩⟩,(.refl _)⟩
  ·refine sr<|?_
   obtain ⟨r_50,er51,hf⟩:=ob hf
   obtain ⟨r_52,er53,hf⟩:=ob hf
   refine x8 (.agg [(.int .i64 r_8.Kind),(.int .i64 r_8.N),(.str r_8.T),(.own 2 0 r_8.Keys.length),(.own 3 0 x_36.length)]) rfl nle rfl<|a0r (a1m (v:=(.agg [(.int .i64 r_50.Kind),(.int .i64 r_50.N),(.str r_50.T),(.own 4 0 r_50.Keys.length),(.own 5 0 r_50.Items.length)])) (h':=[.row 1 (r_50.Keys.map AV.str),.row 5 (r_50.Items.map o5)]) (b6b _ _ er51) rfl (.refl _) (by simp only [a1e,a1c,List.length_map,y9,List.nil_append,List.append_nil,List.cons_append];rfl)) (.inr ⟨⟨nle,rfl⟩,trivial⟩) trivial<|?_;refine a0r (a1f (j:=6) (as':=[(o5 r_50),(o5 (⟨r_8.Kind,r_8.N,r_8.T,r_8.Keys,x_36⟩:o8))]) rfl (fun _ => by decide) ⟨rfl,⟨rfl,trivial⟩⟩ (.cons (leJ (x:=r_50) (.agg (.cons (.refl _) (.cons (.refl _) (.cons (.refl _) (.cons (.of_eq (congrArg (AV.lst _) (tk (enc:=AV.str) r_50.Keys))) (.cons (.of_eq (congrArg (AV.lst _) (tk (enc:=o5) r_50.Items))) .nil))))))) (.cons (leJ (x:=(⟨r_8.Kind,r_8.N,r_8.T,r_8.Keys,x_36⟩:o8)) (.agg (.cons (.refl _) (.cons (.refl _) (.cons (.refl _) (.cons (.of_eq (congrArg (AV.lst _) (tk (enc:=AV.str) r_8.Keys))) (.cons (.of_eq (congrArg (AV.lst _) (tk (enc:=o5) x_36))) .nil))))))) .nil)) rfl rfl rfl) trivial trivial ?_
   refine a0r (b3j (v:=(.agg [(.int .i64 r_52.Kind),(.int .i64 r_52.N),(.str r_52.T),(.own 7 0 r_52.Keys.length),(.own 8 0 r_52.Items.length)])) (h2:=[.box 5 (.agg [(.int .i64 0),(.int .i64 0),(.str []),.nil,.nil]),.box 5 (.agg [(.int .i64 r_8.Kind),(.int .i64 r_8.N),(.str r_8.T),(.own 2 0 r_8.Keys.length),(.own 3 0 x_36.length)]),.dead,.dead,.dead,.dead,.dead,.row 1 (r_52.Keys.map AV.str),.row 5 (r_52.Items.map o5)]) [] [6] (fun _ => rfl) (b6c _ _ er53) rfl (.cons (.of_eq (congrArg (AV.own _ 0) (by simp))) .nil) (.refl _) rfl rfl) trivial trivial ?_;refine a3i (a0c (v:=(.agg [(.int .i64 r_52.Kind),(.int .i64 r_52.N),(.str r_52.T),(.own 7 0 r_52.Keys.length),(.own 8 0 r_52.Items.length)])) (y':=(.agg [(.int .i64 r_52.Kind),(.int .i64 r_52.N),(.str r_52.T),(.own 7 0 r_52.Keys.length),(.own 8 0 r_52.Items.length)])) rfl rfl rfl trivial ⟨rfl,nle⟩ ⟨⟨rfl,trivial⟩,⟨⟨rfl,trivial⟩,⟨⟨rfl,trivial⟩,⟨⟨rfl,trivial⟩,⟨⟨rfl,trivial⟩,trivial⟩⟩⟩⟩⟩ rfl) trivial trivial ?_
   refine dk<|a0d<|?_;obtain rfl:=os hf;exact a2k ⟨nle,trivial⟩ rfl (by decide) (leJ (x:=r_52) (.agg (.cons (.refl _) (.cons (.refl _) (.cons (.refl _) (.cons (.of_eq (congrArg (AV.lst _) (tk (enc:=AV.str) r_52.Keys))) (.cons (.of_eq (congrArg (AV.lst _) (tk (enc:=o5) r_52.Items))) .nil)))))))

/- spec.l13O -/
def e3h:a0m :=
 (.seq (.reg (tq 4 (.box 5 (.c (.agg [(.int .i64 0),(.int .i64 0),(.str []),.nil,.nil]))) .done))
 (.seq (.reg (tq 8 (.build [(.int .i64 0),(.int .i64 0),(.str []),.nil,.nil] [(0,1,(.c (.int .i64 5)))]) (tq 5 (.box 5 (.c (.agg [(.int .i64 0),(.int .i64 0),(.str []),.nil,.nil]))) (.q ⟨none,none,.store 5 (.t 5) (.t 8)⟩
 .done))))
 (.seq (.seq (.reg (tm 6 (.c (.int .i64 0)) .done))
 (.block 0 (.loop (.seq (.seq (.reg (tm 9 (.t 6) (tm 10 (.t 0) (tq 11 (.len (.t 10)) (tq 12 (.bin .lss (.t 9) (.t 11)) .done)))))
 (.cond (.t 12) .skip
 (.exit 0)))
 (.seq (.block 1 (.seq (.reg (tm 7 (.c (.int .i64 0)) .done))
 (.seq (.block 2 (.loop (.seq (.seq (.reg (tm 15 (.t 7) (tq 16 (.faddr 3 (.t 5)) (tq 17 (.load 1 false (.t 16)) (tq 18 (.len (.t 17)) (tq 19 (.bin .lss (.t 15) (.t 18)) (tm 20 (.t 19) (tg 21 20 true (.faddr 3 (.t 5)) (tg 22 20 true (.load 1 false (.t 21)) (tg 23 20 true (.mov (.t 7)) (tg 24 20 true (.iaddr 1 (.t 22) (.t 23)) (tg 25 20 true (.load 1 false (.t 24)) (tg 26 20 true (.mov (.t 0)) (tg 27 20 true (.mov (.t 6)) (tg 28 20 true (.iaddr 1 (.t 26) (.t 27)) (tg 29 20 true (.load 1 false (.t 28)) (tg 30 20 true (.bin .lss (.t 25) (.t 29)) (tq 31 (.pick (.t 20) (.t 30) (.c (.bool false))) .done))))))))))))))))))
 (.cut (.cond (.t 31) .skip
 (.exit 2))))
 (.block 3 (.reg (tm 32 (.t 7) (tq 33 (.bin .add (.t 32) (.c (.int .i64 1))) (tm 7 (.t 33) .done))))))))
 (.cut (.seq (.seq (.reg (tm 34 (.t 7) (tq 35 (.faddr 3 (.t 5)) (tq 36 (.load 1 false (.t 35)) (tq 37 (.len (.t 36)) (tq 38 (.bin .lss (.t 34) (.t 37)) (tm 39 (.t 38) (tg 40 39 true (.faddr 3 (.t 5)) (tg 41 39 true (.load 1 false (.t 40)) (tg 42 39 true (.mov (.t 7)) (tg 43 39 true (.iaddr 1 (.t 41) (.t 42)) (tg 44 39 true (.load 1 false (.t 43)) (tg 45 39 true (.mov (.t 0)) (tg 46 39 true (.mov (.t 6)) (tg 47 39 true (.iaddr 1 (.t 45) (.t 46)) (tg 48 39 true (.load 1 false (.t 47)) (tg 49 39 true (.bin .eql (.t 44) (.t 48)) (tq 50 (.pick (.t 39) (.t 49) (.c (.bool false))) .done))))))))))))))))))
 (.cut (.cond (.t 50) (.seq (.reg (tq 51 (.faddr 4 (.t 5)) (tq 52 (.load 1 false (.t 51)) (tm 53 (.t 7) (tm 54 (.t 1) (tm 55 (.t 6) (tq 56 (.iaddr 5 (.t 54) (.t 55)) (tq 57 (.load 5 true (.t 56)) (tq 58 (.iaddr 5 (.t 52) (.t 53)) (.l ⟨none,none,.store 5 (.t 58) (.t 57)⟩ []
 .done .non))))))))))
 (.exit 1))
 .skip)))
 (.seq (.reg (tq 60 (.faddr 3 (.t 5)) (tq 61 (.load 1 false (.t 60)) (tm 62 (.t 7) (tq 63 (.slice 1 (.t 61) none (some (.t 62))) (tm 65 (.t 0) (tm 66 (.t 6) (tq 67 (.iaddr 1 (.t 65) (.t 66)) (tq 68 (.load 1 false (.t 67)) (tq 71 (.faddr 3 (.t 5)) (tq 72 (.load 1 false (.t 71)) (tm 73 (.t 7) (tq 74 (.slice 1 (.t 72) (some (.t 73)) none) (.l ⟨(some 59),none,.bslice 1 []⟩ [⟨(some 74),none,.slice 1 (.t 72) (some (.t 73)) none⟩,⟨(some 72),none,.load 1 false (.t 71)⟩,⟨(some 71),none,.faddr 3 (.t 5)⟩,⟨(some 68),none,.load 1 false (.t 67)⟩,⟨(some 67),none,.iaddr 1 (.t 65) (.t 66)⟩,⟨(some 63),none,.slice 1 (.t 61) none (some (.t 62))⟩,⟨(some 61),none,.load 1 false (.t 60)⟩,⟨(some 60),none,.faddr 3 (.t 5)⟩]
 (.l ⟨(some 64),none,.append 1 16 (.t 59) (.t 63)⟩ [⟨(some 74),none,.slice 1 (.t 72) (some (.t 73)) none⟩,⟨(some 72),none,.load 1 false (.t 71)⟩,⟨(some 71),none,.faddr 3 (.t 5)⟩,⟨(some 68),none,.load 1 false (.t 67)⟩,⟨(some 67),none,.iaddr 1 (.t 65) (.t 66)⟩]
 (.l ⟨(some 69),none,.bslice 1 [(.t 68)]⟩ [⟨(some 74),none,.slice 1 (.t 72) (some (.t 73)) none⟩,⟨(some 72),none,.load 1 false (.t 71)⟩,⟨(some 71),none,.faddr 3 (.t 5)⟩,⟨(some 63),none,.slice 1 (.t 61) none (some (.t 62))⟩,⟨(some 61),none,.load 1 false (.t 60)⟩,⟨(some 60),none,.faddr 3 (.t 5)⟩]
 (.l ⟨(some 70),none,.append 1 16 (.t 64) (.t 69)⟩ [⟨(some 74),none,.slice 1 (.t 72) (some (.t 73)) none⟩,⟨(some 72),none,.load 1 false (.t 71)⟩,⟨(some 71),none,.faddr 3 (.t 5)⟩]
 (.l ⟨(some 75),none,.append 1 16 (.t 70) (.t 74)⟩ []
 (tq 76 (.faddr 3 (.t 5)) (.l ⟨none,none,.store 1 (.t 76) (.t 75)⟩ []
 .done .non)) .non) .non) .non) (.l ⟨(some 69),none,.bslice 1 [(.t 68)]⟩ [⟨(some 74),none,.slice 1 (.t 72) (some (.t 73)) none⟩,⟨(some 72),none,.load 1 false (.t 71)⟩,⟨(some 71),none,.faddr 3 (.t 5)⟩,⟨(some 63),none,.slice 1 (.t 61) none (some (.t 62))⟩,⟨(some 61),none,.load 1 false (.t 60)⟩,⟨(some 60),none,.faddr 3 (.t 5)⟩]
 (.l ⟨(some 64),none,.append 1 16 (.t 59) (.t 63)⟩ [⟨(some 74),none,.slice 1 (.t 72) (some (.t 73)) none⟩,⟨(some 72),none,.load 1 false (.t 71)⟩,⟨(some 71),none,.faddr 3 (.t 5)⟩,⟨(some 68),none,.load 1 false (.t 67)⟩,⟨(some 67),none,.iaddr 1 (.t 65) (.t 66)⟩]
 (.l ⟨(some 70),none,.append 1 16 (.t 64) (.t 69)⟩ [⟨(some 74),none,.slice 1 (.t 72) (some (.t 73)) none⟩,⟨(some 72),none,.load 1 false (.t 71)⟩,⟨(some 71),none,.faddr 3 (.t 5)⟩]
 (.l ⟨(some 75),none,.append 1 16 (.t 70) (.t 74)⟩ []
 (tq 76 (.faddr 3 (.t 5)) (.l ⟨none,none,.store 1 (.t 76) (.t 75)⟩ []
 .done .non)) .non) .non) .non) .non)) (.l ⟨(some 69),none,.bslice 1 [(.t 68)]⟩ [⟨(some 74),none,.slice 1 (.t 72) (some (.t 73)) none⟩,⟨(some 72),none,.load 1 false (.t 71)⟩,⟨(some 71),none,.faddr 3 (.t 5)⟩,⟨(some 63),none,.slice 1 (.t 61) none (some (.t 62))⟩,⟨(some 61),none,.load 1 false (.t 60)⟩,⟨(some 60),none,.faddr 3 (.t 5)⟩]
 (.l ⟨(some 59),none,.bslice 1 []⟩ [⟨(some 74),none,.slice 1 (.t 72) (some (.t 73)) none⟩,⟨(some 72),none,.load 1 false (.t 71)⟩,⟨(some 71),none,.faddr 3 (.t 5)⟩,⟨(some 68),none,.load 1 false (.t 67)⟩,⟨(some 67),none,.iaddr 1 (.t 65) (.t 66)⟩,⟨(some 63),none,.slice 1 (.t 61) none (some (.t 62))⟩,⟨(some 61),none,.load 1 false (.t 60)⟩,⟨(some 60),none,.faddr 3 (.t 5)⟩]
 (.l ⟨(some 64),none,.append 1 16 (.t 59) (.t 63)⟩ [⟨(some 74),none,.slice 1 (.t 72) (some (.t 73)) none⟩,⟨(some 72),none,.load 1 false (.t 71)⟩,⟨(some 71),none,.faddr 3 (.t 5)⟩,⟨(some 68),none,.load 1 false (.t 67)⟩,⟨(some 67),none,.iaddr 1 (.t 65) (.t 66)⟩]
 (.l ⟨(some 70),none,.append 1 16 (.t 64) (.t 69)⟩ [⟨(some 74),none,.slice 1 (.t 72) (some (.t 73)) none⟩,⟨(some 72),none,.load 1 false (.t 71)⟩,⟨(some 71),none,.faddr 3 (.t 5)⟩]
 (.l ⟨(some 75),none,.append 1 16 (.t 70) (.t 74)⟩ []
 (tq 76 (.faddr 3 (.t 5)) (.l ⟨none,none,.store 1 (.t 76) (.t 75)⟩ []
 .done .non)) .non) .non) .non) .non) .non)))))))))))))))
 (.cut (.reg (tq 78 (.faddr 4 (.t 5)) (tq 79 (.load 1 false (.t 78)) (tm 80 (.t 7) (tq 81 (.slice 5 (.t 79) none (some (.t 80))) (tm 83 (.t 1) (tm 84 (.t 6) (tq 85 (.iaddr 5 (.t 83) (.t 84)) (tq 86 (.load 5 true (.t 85)) (tq 89 (.faddr 4 (.t 5)) (tq 90 (.load 1 false (.t 89)) (tm 91 (.t 7) (tq 92 (.slice 5 (.t 90) (some (.t 91)) none) (.l ⟨(some 77),none,.bslice 5 []⟩ [⟨(some 92),none,.slice 5 (.t 90) (some (.t 91)) none⟩,⟨(some 90),none,.load 1 false (.t 89)⟩,⟨(some 89),none,.faddr 4 (.t 5)⟩,⟨(some 86),none,.load 5 true (.t 85)⟩,⟨(some 85),none,.iaddr 5 (.t 83) (.t 84)⟩,⟨(some 81),none,.slice 5 (.t 79) none (some (.t 80))⟩,⟨(some 79),none,.load 1 false (.t 78)⟩,⟨(some 78),none,.faddr 4 (.t 5)⟩]
 (.l ⟨(some 82),none,.append 5 80 (.t 77) (.t 81)⟩ [⟨(some 92),none,.slice 5 (.t 90) (some (.t 91)) none⟩,⟨(some 90),none,.load 1 false (.t 89)⟩,⟨(some 89),none,.faddr 4 (.t 5)⟩,⟨(some 86),none,.load 5 true (.t 85)⟩,⟨(some 85),none,.iaddr 5 (.t 83) (.t 84)⟩]
 (.l ⟨(some 87),none,.bslice 5 [(.t 86)]⟩ [⟨(some 92),none,.slice 5 (.t 90) (some (.t 91)) none⟩,⟨(some 90),none,.load 1 false (.t 89)⟩,⟨(some 89),none,.faddr 4 (.t 5)⟩,⟨(some 81),none,.slice 5 (.t 79) none (some (.t 80))⟩,⟨(some 79),none,.load 1 false (.t 78)⟩,⟨(some 78),none,.faddr 4 (.t 5)⟩]
 (.l ⟨(some 88),none,.append 5 80 (.t 82) (.t 87)⟩ [⟨(some 92),none,.slice 5 (.t 90) (some (.t 91)) none⟩,⟨(some 90),none,.load 1 false (.t 89)⟩,⟨(some 89),none,.faddr 4 (.t 5)⟩]
 (.l ⟨(some 93),none,.append 5 80 (.t 88) (.t 92)⟩ []
 (tq 94 (.faddr 4 (.t 5)) (.l ⟨none,none,.store 1 (.t 94) (.t 93)⟩ []
 .done .non)) .non) .non) .non) (.l ⟨(some 87),none,.bslice 5 [(.t 86)]⟩ [⟨(some 92),none,.slice 5 (.t 90) (some (.t 91)) none⟩,⟨(some 90),none,.load 1 false (.t 89)⟩,⟨(some 89),none,.faddr 4 (.t 5)⟩,⟨(some 81),none,.slice 5 (.t 79) none (some (.t 80))⟩,⟨(some 79),none,.load 1 false (.t 78)⟩,⟨(some 78),none,.faddr 4 (.t 5)⟩]
 (.l ⟨(some 82),none,.append 5 80 (.t 77) (.t 81)⟩ [⟨(some 92),none,.slice 5 (.t 90) (some (.t 91)) none⟩,⟨(some 90),none,.load 1 false (.t 89)⟩,⟨(some 89),none,.faddr 4 (.t 5)⟩,⟨(some 86),none,.load 5 true (.t 85)⟩,⟨(some 85),none,.iaddr 5 (.t 83) (.t 84)⟩]
 (.l ⟨(some 88),none,.append 5 80 (.t 82) (.t 87)⟩ [⟨(some 92),none,.slice 5 (.t 90) (some (.t 91)) none⟩,⟨(some 90),none,.load 1 false (.t 89)⟩,⟨(some 89),none,.faddr 4 (.t 5)⟩]
 (.l ⟨(some 93),none,.append 5 80 (.t 88) (.t 92)⟩ []
 (tq 94 (.faddr 4 (.t 5)) (.l ⟨none,none,.store 1 (.t 94) (.t 93)⟩ []
 .done .non)) .non) .non) .non) .non)) (.l ⟨(some 87),none,.bslice 5 [(.t 86)]⟩ [⟨(some 92),none,.slice 5 (.t 90) (some (.t 91)) none⟩,⟨(some 90),none,.load 1 false (.t 89)⟩,⟨(some 89),none,.faddr 4 (.t 5)⟩,⟨(some 81),none,.slice 5 (.t 79) none (some (.t 80))⟩,⟨(some 79),none,.load 1 false (.t 78)⟩,⟨(some 78),none,.faddr 4 (.t 5)⟩]
 (.l ⟨(some 77),none,.bslice 5 []⟩ [⟨(some 92),none,.slice 5 (.t 90) (some (.t 91)) none⟩,⟨(some 90),none,.load 1 false (.t 89)⟩,⟨(some 89),none,.faddr 4 (.t 5)⟩,⟨(some 86),none,.load 5 true (.t 85)⟩,⟨(some 85),none,.iaddr 5 (.t 83) (.t 84)⟩,⟨(some 81),none,.slice 5 (.t 79) none (some (.t 80))⟩,⟨(some 79),none,.load 1 false (.t 78)⟩,⟨(some 78),none,.faddr 4 (.t 5)⟩]
 (.l ⟨(some 82),none,.append 5 80 (.t 77) (.t 81)⟩ [⟨(some 92),none,.slice 5 (.t 90) (some (.t 91)) none⟩,⟨(some 90),none,.load 1 false (.t 89)⟩,⟨(some 89),none,.faddr 4 (.t 5)⟩,⟨(some 86),none,.load 5 true (.t 85)⟩,⟨(some 85),none,.iaddr 5 (.t 83) (.t 84)⟩]
 (.l ⟨(some 88),none,.append 5 80 (.t 82) (.t 87)⟩ [⟨(some 92),none,.slice 5 (.t 90) (some (.t 91)) none⟩,⟨(some 90),none,.load 1 false (.t 89)⟩,⟨(some 89),none,.faddr 4 (.t 5)⟩]
 (.l ⟨(some 93),none,.append 5 80 (.t 88) (.t 92)⟩ []
 (tq 94 (.faddr 4 (.t 5)) (.l ⟨none,none,.store 1 (.t 94) (.t 93)⟩ []
 .done .non)) .non) .non) .non) .non) .non))))))))))))))))))))))
 (.reg (tm 13 (.t 6) (tq 14 (.bin .add (.t 13) (.c (.int .i64 1))) (tm 6 (.t 14) .done)))))))))
 (.cut (.seq (.reg (tq 95 (.load 5 true (.t 5)) (.q ⟨none,none,.store 5 (.t 4) (.t 95)⟩
 .done)))
 .ret)))))
theorem e3i:a1a Tryz.prog Tryz.f192 = some (e3h.erase,[.load 5 true (.t 4)],96):=by kernel_rfl
def a5i (x_150:(List Str)) (x_281:Str):Nat → Int → Option Int
  | 0,_ => none
  | k + 1,k_311 =>
    ((if (decide (k_311 < (x_150.length:Int))) then
    if (0:Int) ≤ k_311 ∧ k_311 < (x_150.length:Int) then
    (x_150[(0 + k_311.toNat)]?).bind fun x_337 =>
    some (Op.bytesLess x_337 x_281)
    else none
    else
    some false:Option Bool)).bind fun s31_332 =>
    if s31_332 then
    a5i x_150 x_281 k (w64 (k_311 + 1))
    else
    some k_311

def a5j (items_2:(List o8)):List Str → Nat → (List Str) → (List o8) → Option ((List Str) × (List o8))
  | [],i_149,x_150,x_151 =>
    some (x_150,x_151)
  | x_281 :: xs,i_149,x_150,x_151 =>
    (a5i x_150 x_281 FUEL 0).bind fun k_325 =>
    ((if (decide (k_325 < (x_150.length:Int))) then
    if (0:Int) ≤ k_325 ∧ k_325 < (x_150.length:Int) then
    (x_150[(0 + k_325.toNat)]?).bind fun x_350 =>
    some (x_350 == x_281)
    else none
    else
    some false:Option Bool)).bind fun s50_345 =>
    if s50_345 then
    (idx items_2 (i_149:Int)).bind fun x_353 =>
    if (0:Int) ≤ k_325 ∧ k_325 < (x_151.length:Int) then
    (x_151[(0 + k_325.toNat)]?).bind fun x_356 =>
    a5j items_2 xs (i_149 + 1) x_150 (x_151.set (0 + k_325.toNat) x_353)
    else none
    else
    ((if (0:Int) ≤ k_325 ∧ k_325 ≤ (x_150.length:Int) then
    if (0:Int) ≤ k_325 ∧ k_325 ≤ (x_150.length:Int) then
    if ([] ++ (x_150.take k_325.toNat)).length ≤ 2 ^ 30 then
    if (([] ++ (x_150.take k_325.toNat)) ++ [x_281]).length ≤ 2 ^ 30 then
    if ((([] ++ (x_150.take k_325.toNat)) ++ [x_281]) ++ ((x_150.drop k_325.toNat).take (x_150.length - k_325.toNat))).length ≤ 2 ^ 30 then
    some ()
    else none
    else none
    else none
    else none
    else none:Option Unit)).bind fun _ =>
    if (0:Int) ≤ k_325 ∧ k_325 ≤ (x_151.length:Int) then
    (idx items_2 (i_149:Int)).bind fun x_370 =>
    if (0:Int) ≤ k_325 ∧ k_325 ≤ (x_151.length:Int) then
    if ([] ++ (x_151.take k_325.toNat)).length ≤ 2 ^ 30 then
    if (([] ++ (x_151.take k_325.toNat)) ++ [x_370]).length ≤ 2 ^ 30 then
    if ((([] ++ (x_151.take k_325.toNat)) ++ [x_370]) ++ ((x_151.drop k_325.toNat).take (x_151.length - k_325.toNat))).length ≤ 2 ^ 30 then
    a5j items_2 xs (i_149 + 1) ((([] ++ (x_150.take k_325.toNat)) ++ [x_281]) ++ ((x_150.drop k_325.toNat).take (x_150.length - k_325.toNat))) ((([] ++ (x_151.take k_325.toNat)) ++ [x_370]) ++ ((x_151.drop k_325.toNat).take (x_151.length - k_325.toNat)))
    else none
    else none
    else none
    else none
    else none

def b4b (keys_1:(List Str)) (items_2:(List o8)):Option o8 :=
    (a5j items_2 keys_1 0 [] []).bind fun p274 =>
    (match p274 with
    | (x_272,x_273) =>
    some (⟨5,0,[],x_272,x_273⟩:o8))
theorem d1g (keys_1:(List Str)) (items_2:(List o8)) (r:o8) (hf:b4b keys_1 items_2 = some r):x9 Tryz.prog 192 .weak [(.lst 1 (keys_1.map AV.str)),(.lst 5 (items_2.map o5))] (o5 r):=by
 refine x9.of_awp mixed Tryz.func192 e3i nle ?_;rw [a0j];unfold b4b at hf;unfold e3h;refine (show awp Tryz.prog false 0 _ (ofL [(0,(.lst 1 (keys_1.map AV.str))),(1,(.lst 5 (items_2.map o5)))]) [] _ from ?_);refine sr<|y5 (a1i (j:=0) (c:=(.agg [(.int .i64 0),(.int .i64 0),(.str []),.nil,.nil])) rfl trivial rfl rfl)<|dk<|sr<|x8 (.agg [(.int .i64 5),(.int .i64 0),(.str []),.nil,.nil]) rfl ⟨⟨rfl,nle,trivial⟩,trivial⟩ rfl<|y5 (a1i (j:=1) (c:=(.agg [(.int .i64 0),(.int .i64 0),(.str []),.nil,.nil])) rfl trivial rfl rfl)<|a2i (a0c (v:=(.agg [(.int .i64 5),(.int .i64 0),(.str []),.nil,.nil])) (y':=(.agg [(.int .i64 5),(.int .i64 0),(.str []),.nil,.nil])) rfl rfl rfl trivial ⟨rfl,nle⟩ ⟨⟨rfl,trivial⟩,⟨⟨rfl,trivial⟩,⟨⟨rfl,trivial⟩,⟨⟨rfl,trivial⟩,⟨⟨rfl,trivial⟩,trivial⟩⟩⟩⟩⟩ rfl)<|?_
 refine dk<|o6<|sr<|l7 (.int .i64 0) rfl<|dk<|?_
 obtain ⟨p274,hb1,hf⟩:=ob hf
 refine a2a ([(4,(.ptr 0 0 0)),(5,(.ptr 1 0 0))],[.box 5 (.agg [(.int .i64 0),(.int .i64 0),(.str []),.nil,.nil]),.box 5 (.agg [(.int .i64 5),(.int .i64 0),(.str []),(.own 2 0 p274.1.length),(.own 3 0 p274.2.length)]),.row 1 (p274.1.map AV.str),.row 5 (p274.2.map o5)]) ?_ ?_
 ·refine a1g (X:={q:(Nat × (List Str) × (List o8)) // a5j items_2 (keys_1.drop q.1) q.1 q.2.1 q.2.2 = some p274}) (fun q => ([(0,(.lst 1 (keys_1.map AV.str))),(1,(.lst 5 (items_2.map o5))),(4,(.ptr 0 0 0)),(5,(.ptr 1 0 0)),(6,(.int .i64 (q.1.1:Int)))],[.box 5 (.agg [(.int .i64 0),(.int .i64 0),(.str []),.nil,.nil]),.box 5 (.agg [(.int .i64 5),(.int .i64 0),(.str []),(.own 2 0 q.1.2.1.length),(.own 3 0 q.1.2.2.length)]),.row 1 (q.1.2.1.map AV.str),.row 5 (q.1.2.2.map o5)])) (fun q => keys_1.length - q.1.1) ⟨(0,[],[]),hb1⟩ ⟨[.nilC 1 3 1,.nilC 1 4 5],[0,1,2,3],_,_,rfl,rfl,⟨.refl _,⟨.refl _,⟨.refl _,⟨.refl _,⟨.refl _,trivial⟩⟩⟩⟩⟩,(.refl _)⟩ ?_
  rintro ⟨⟨i_149,x_150,x_151⟩,hc1⟩
  have hc1:a5j items_2 (keys_1.drop i_149) i_149 x_150 x_151 = some p274:=hc1
  refine (show awp Tryz.prog false 0 _ (ofL [(0,(.lst 1 (keys_1.map AV.str))),(1,(.lst 5 (items_2.map o5))),(4,(.ptr 0 0 0)),(5,(.ptr 1 0 0)),(6,(.int .i64 (i_149:Int)))]) [.box 5 (.agg [(.int .i64 0),(.int .i64 0),(.str []),.nil,.nil]),.box 5 (.agg [(.int .i64 5),(.int .i64 0),(.str []),(.own 2 0 x_150.length),(.own 3 0 x_151.length)]),.row 1 (x_150.map AV.str),.row 5 (x_151.map o5)] _ from ?_)
  rcases a5z keys_1 i_149 with ⟨hie277,hd280⟩ | ⟨hlt275,x_281,hx276,hd280⟩
  ·rw [hd280,a5j.eq_1] at hc1
   have hq279:=dlf hie277
   refine o6<|sr<|l7 (.int .i64 (i_149:Int)) rfl<|l7 (.lst 1 (keys_1.map AV.str)) rfl<|a0w (a1r (enc:=AV.str) rfl) fun hl282 => x8 (.bool (decide ((i_149:Int) < (keys_1.length:Int)))) rfl rfl rfl<|dk<|y8 rfl hq279<|a2t<|a2s<|a1y<|a2r<|?_;obtain rfl:=os hc1;exact ⟨[],[0,1,2,3],_,_,rfl,rfl,⟨.refl _,⟨.refl _,trivial⟩⟩,(.refl _)⟩
  ·rw [hd280,a5j.eq_2] at hc1
   have hq279:=dlt hlt275
   refine o6<|sr<|l7 (.int .i64 (i_149:Int)) rfl<|l7 (.lst 1 (keys_1.map AV.str)) rfl<|a0w (a1r (enc:=AV.str) rfl) fun hl283 => x8 (.bool (decide ((i_149:Int) < (keys_1.length:Int)))) rfl rfl rfl<|dk<|y7 rfl hq279<|a0h<|a0f<|o6<|a3g<|sr<|l7 (.int .i64 0) rfl<|dk<|o6<|?_
   obtain ⟨k_325,hb2,hc1⟩:=ob hc1
   refine a2a ([(0,(.lst 1 (keys_1.map AV.str))),(1,(.lst 5 (items_2.map o5))),(4,(.ptr 0 0 0)),(5,(.ptr 1 0 0)),(6,(.int .i64 (i_149:Int))),(7,(.int .i64 k_325))],[.box 5 (.agg [(.int .i64 0),(.int .i64 0),(.str []),.nil,.nil]),.box 5 (.agg [(.int .i64 5),(.int .i64 0),(.str []),(.own 2 0 x_150.length),(.own 3 0 x_151.length)]),.row 1 (x_150.map AV.str),.row 5 (x_151.map o5)]) ?_ ?_
   ·refine a1g (X:={q:(Nat × Int) // a5i x_150 x_281 q.1 q.2 = some k_325}) (fun q => ([(0,(.lst 1 (keys_1.map AV.str))),(1,(.lst 5 (items_2.map o5))),(4,(.ptr 0 0 0)),(5,(.ptr 1 0 0)),(6,(.int .i64 (i_149:Int))),(7,(.int .i64 q.1.2))],[.box 5 (.agg [(.int .i64 0),(.int .i64 0),(.str []),.nil,.nil]),.box 5 (.agg [(.int .i64 5),(.int .i64 0),(.str []),(.own 2 0 x_150.length),(.own 3 0 x_151.length)]),.row 1 (x_150.map AV.str),.row 5 (x_151.map o5)])) (fun q => q.1.1) ⟨(FUEL,0),hb2⟩ ⟨[],[0,1,2,3],_,_,rfl,rfl,⟨.refl _,⟨.refl _,⟨.refl _,⟨.refl _,⟨.refl _,⟨.refl _,trivial⟩⟩⟩⟩⟩⟩,(.refl _)⟩ ?_
    rintro ⟨⟨k,k_311⟩,hc2⟩
    have hc2:a5i x_150 x_281 k k_311 = some k_325:=hc2
    refine (show awp Tryz.prog false 0 _ (ofL [(0,(.lst 1 (keys_1.map AV.str))),(1,(.lst 5 (items_2.map o5))),(4,(.ptr 0 0 0)),(5,(.ptr 1 0 0)),(6,(.int .i64 (i_149:Int))),(7,(.int .i64 k_311))]) [.box 5 (.agg [(.int .i64 0),(.int .i64 0),(.str []),.nil,.nil]),.box 5 (.agg [(.int .i64 5),(.int .i64 0),(.str []),(.own 2 0 x_150.length),(.own 3 0 x_151.length)]),.row 1 (x_150.map AV.str),.row 5 (x_151.map o5)] _ from ?_)
    rcases k with _ | k
    ·rw [a5i.eq_1] at hc2
     cases hc2
    ·rw [a5i.eq_2] at hc2;refine o6<|o6<|?_
     obtain ⟨s31_332,hb3,hc2⟩:=ob hc2
     refine a2a ([(0,(.lst 1 (keys_1.map AV.str))),(1,(.lst 5 (items_2.map o5))),(4,(.ptr 0 0 0)),(5,(.ptr 1 0 0)),(6,(.int .i64 (i_149:Int))),(7,(.int .i64 k_311)),(31,(.bool s31_332))],[.box 5 (.agg [(.int .i64 0),(.int .i64 0),(.str []),.nil,.nil]),.box 5 (.agg [(.int .i64 5),(.int .i64 0),(.str []),(.own 2 0 x_150.length),(.own 3 0 x_151.length)]),.row 1 (x_150.map AV.str),.row 5 (x_151.map o5)]) ?_ ?_
     ·refine a0s<|l7 (.int .i64 k_311) rfl<|x8 (.ptr 1 0 3) rfl trivial rfl<|x8 (.own 2 0 x_150.length) rfl nle rfl<|a0w (a6s rfl rfl) fun hl334 => x8 (.bool (decide (k_311 < (x_150.length:Int)))) rfl rfl rfl<|l7 (.bool (decide (k_311 < (x_150.length:Int)))) rfl<|?_
      rcases oi hb3 with ⟨c335,hb3⟩ | ⟨c335,hb3⟩
      ·refine a1p (s:=20) (b:=true) rfl c335<|s_on rfl<|x8 (.ptr 1 0 3) rfl trivial rfl<|s_on rfl<|x8 (.own 2 0 x_150.length) rfl nle rfl<|s_on rfl<|l7 (.int .i64 k_311) rfl<|s_on rfl<|?_
       obtain ⟨g336,hb3⟩:=og hb3
       refine y5 (a1v rfl rfl g336.1 g336.2 rfl rfl)<|s_on rfl<|?_
       obtain ⟨x_337,ex338,hb3⟩:=ob hb3
       refine y5 (a6c (enc:=AV.str) (v:=(.str x_337)) rfl rfl ex338 ⟨rfl,rfl⟩ rfl)<|s_on rfl<|l7 (.lst 1 (keys_1.map AV.str)) rfl<|s_on rfl<|l7 (.int .i64 (i_149:Int)) rfl<|s_on rfl<|y5 (a2c (enc:=AV.str) rfl rfl hx276)<|s_on rfl<|x8 (.str x_281) rfl ⟨rfl,rfl⟩ rfl<|s_on rfl<|x8 (.bool (Op.bytesLess x_337 x_281)) rfl trivial rfl<|x8 (.bool (Op.bytesLess x_337 x_281)) rfl trivial rfl<|a0b<|?_;obtain rfl:=os hb3;exact ⟨[],[0,1,2,3],_,_,rfl,rfl,⟨.refl _,⟨.refl _,⟨.refl _,⟨.refl _,⟨.refl _,⟨.refl _,⟨.refl _,trivial⟩⟩⟩⟩⟩⟩⟩,(.refl _)⟩
      ·refine a1p (s:=20) (b:=false) rfl (bf c335)<|a0g rfl rfl<|a0g rfl rfl<|a0g rfl rfl<|a0g rfl rfl<|a0g rfl rfl<|a0g rfl rfl<|a0g rfl rfl<|a0g rfl rfl<|a0g rfl rfl<|a0g rfl rfl<|x8 (.bool false) rfl trivial rfl<|a0b<|?_;obtain rfl:=os hb3;exact ⟨[],[0,1,2,3],_,_,rfl,rfl,⟨.refl _,⟨.refl _,⟨.refl _,⟨.refl _,⟨.refl _,⟨.refl _,⟨.refl _,trivial⟩⟩⟩⟩⟩⟩⟩,(.refl _)⟩
     ·rcases oi hc2 with ⟨c339,hc2⟩ | ⟨c339,hc2⟩
      ·refine y7 rfl c339<|a0h<|a0f<|a3g<|a0s<|l7 (.int .i64 k_311) rfl<|x8 (.int .i64 (w64 (k_311 + 1))) rfl rfl rfl<|l7 (.int .i64 (w64 (k_311 + 1))) rfl<|a0b<|a3f<|?_;exact a1q ⟨(k,w64 (k_311 + 1)),hc2⟩ (Nat.lt_succ_self _) ⟨[],[0,1,2,3],_,_,rfl,rfl,⟨.refl _,⟨.refl _,⟨.refl _,⟨.refl _,⟨.refl _,⟨.refl _,trivial⟩⟩⟩⟩⟩⟩,(.refl _)⟩
      ·refine y8 rfl (bf c339)<|a2t<|a2s<|a1y<|a2r<|?_;obtain rfl:=os hc2;exact ⟨[],[0,1,2,3],_,_,rfl,rfl,⟨.refl _,⟨.refl _,⟨.refl _,⟨.refl _,⟨.refl _,⟨.refl _,trivial⟩⟩⟩⟩⟩⟩,(.refl _)⟩
   ·refine o6<|o6<|?_
    obtain ⟨s50_345,hb2,hc1⟩:=ob hc1
    refine a2a ([(0,(.lst 1 (keys_1.map AV.str))),(1,(.lst 5 (items_2.map o5))),(4,(.ptr 0 0 0)),(5,(.ptr 1 0 0)),(6,(.int .i64 (i_149:Int))),(7,(.int .i64 k_325)),(50,(.bool s50_345))],[.box 5 (.agg [(.int .i64 0),(.int .i64 0),(.str []),.nil,.nil]),.box 5 (.agg [(.int .i64 5),(.int .i64 0),(.str []),(.own 2 0 x_150.length),(.own 3 0 x_151.length)]),.row 1 (x_150.map AV.str),.row 5 (x_151.map o5)]) ?_ ?_
    ·refine a0s<|l7 (.int .i64 k_325) rfl<|x8 (.ptr 1 0 3) rfl trivial rfl<|x8 (.own 2 0 x_150.length) rfl nle rfl<|a0w (a6s rfl rfl) fun hl347 => x8 (.bool (decide (k_325 < (x_150.length:Int)))) rfl rfl rfl<|l7 (.bool (decide (k_325 < (x_150.length:Int)))) rfl<|?_
     rcases oi hb2 with ⟨c348,hb2⟩ | ⟨c348,hb2⟩
     ·refine a1p (s:=39) (b:=true) rfl c348<|s_on rfl<|x8 (.ptr 1 0 3) rfl trivial rfl<|s_on rfl<|x8 (.own 2 0 x_150.length) rfl nle rfl<|s_on rfl<|l7 (.int .i64 k_325) rfl<|s_on rfl<|?_
      obtain ⟨g349,hb2⟩:=og hb2
      refine y5 (a1v rfl rfl g349.1 g349.2 rfl rfl)<|s_on rfl<|?_
      obtain ⟨x_350,ex351,hb2⟩:=ob hb2
      refine y5 (a6c (enc:=AV.str) (v:=(.str x_350)) rfl rfl ex351 ⟨rfl,rfl⟩ rfl)<|s_on rfl<|l7 (.lst 1 (keys_1.map AV.str)) rfl<|s_on rfl<|l7 (.int .i64 (i_149:Int)) rfl<|s_on rfl<|y5 (a2c (enc:=AV.str) rfl rfl hx276)<|s_on rfl<|x8 (.str x_281) rfl ⟨rfl,rfl⟩ rfl<|s_on rfl<|x8 (.bool (x_350 == x_281)) rfl trivial rfl<|x8 (.bool (x_350 == x_281)) rfl trivial rfl<|a0b<|?_;obtain rfl:=os hb2;exact ⟨[],[0,1,2,3],_,_,rfl,rfl,⟨.refl _,⟨.refl _,⟨.refl _,⟨.refl _,⟨.refl _,⟨.refl _,⟨.refl _,trivial⟩⟩⟩⟩⟩⟩⟩,(.refl _)⟩
     ·refine a1p (s:=39) (b:=false) rfl (bf c348)<|a0g rfl rfl<|a0g rfl rfl<|a0g rfl rfl<|a0g rfl rfl<|a0g rfl rfl<|a0g rfl rfl<|a0g rfl rfl<|a0g rfl rfl<|a0g rfl rfl<|a0g rfl rfl<|x8 (.bool false) rfl trivial rfl<|a0b<|?_;obtain rfl:=os hb2;exact ⟨[],[0,1,2,3],_,_,rfl,rfl,⟨.refl _,⟨.refl _,⟨.refl _,⟨.refl _,⟨.refl _,⟨.refl _,⟨.refl _,trivial⟩⟩⟩⟩⟩⟩⟩,(.refl _)⟩
    ·rcases oi hc1 with ⟨c352,hc1⟩ | ⟨c352,hc1⟩
     ·refine y7 rfl c352<|sr<|?_
      obtain ⟨x_353,ex354,hc1⟩:=ob hc1
      obtain ⟨g355,hc1⟩:=og hc1
      obtain ⟨x_356,ex357,hc1⟩:=ob hc1
      refine x8 (.ptr 1 0 4) rfl trivial rfl<|x8 (.own 3 0 x_151.length) rfl nle rfl<|l7 (.int .i64 k_325) rfl<|l7 (.lst 5 (items_2.map o5)) rfl<|l7 (.int .i64 (i_149:Int)) rfl<|y5 (a6n (enc:=o5) rfl rfl (b3h ex354) (b3i ex354))<|y5 (a7u (v:=(.agg [(.int .i64 x_353.Kind),(.int .i64 x_353.N),(.str x_353.T),(.lst 1 (x_353.Keys.map AV.str)),(.lst 5 (x_353.Items.map o5))])) rfl (y9 _) nle rfl)<|y5 (a1v rfl rfl g355.1 g355.2 rfl rfl)<|?_;refine a3i (b2n (v':=(.agg [(.int .i64 x_353.Kind),(.int .i64 x_353.N),(.str x_353.T),(.lst 1 (x_353.Keys.map AV.str)),(.lst 5 (x_353.Items.map o5))])) (e':=x_353) rfl rfl ex357 (y9 _) rfl rfl rfl (by decide) (fun _ => by decide) ⟨rfl,nle⟩ (.of_eq (y9 x_353).symm) rfl) trivial trivial ?_
      refine dk<|a2t<|a2s<|a2r<|?_;refine a0f<|a0s<|l7 (.int .i64 (i_149:Int)) rfl<|x8 (.int .i64 (w64 ((i_149:Int) + 1))) rfl rfl rfl<|l7 (.int .i64 (w64 ((i_149:Int) + 1))) rfl<|a0b<|?_;exact a1q ⟨((i_149 + 1),x_150,x_151.set (0 + k_325.toNat) x_353),hc1⟩ (mul hlt275) ⟨[],[0,1,2,3],_,_,rfl,rfl,⟨.refl _,⟨.refl _,⟨.refl _,⟨.refl _,⟨.of_eq (congrArg (AV.int _) (a1w hlt275 hl283)),trivial⟩⟩⟩⟩⟩,(.cons (.refl _) (.cons (.box (.agg (.cons (.refl _) (.cons (.refl _) (.cons (.refl _) (.cons (.refl _) (.cons (.of_eq (congrArg (AV.own _ 0) (by simp))) .nil))))))) (.cons (.refl _) (.cons (.refl _) .nil))))⟩
     ·refine y8 rfl (bf c352)<|a0h<|a0f<|o6<|?_
      obtain ⟨p363,hb2,hc1⟩:=ob hc1
      refine a2a ([(0,(.lst 1 (keys_1.map AV.str))),(1,(.lst 5 (items_2.map o5))),(4,(.ptr 0 0 0)),(5,(.ptr 1 0 0)),(6,(.int .i64 (i_149:Int))),(7,(.int .i64 k_325))],[.box 5 (.agg [(.int .i64 0),(.int .i64 0),(.str []),.nil,.nil]),.box 5 (.agg [(.int .i64 5),(.int .i64 0),(.str []),(.own 2 0 (((([] ++ (x_150.take k_325.toNat)) ++ [x_281]) ++ ((x_150.drop k_325.toNat).take (x_150.length - k_325.toNat))).length)),(.own 3 0 x_151.length)]),.row 1 (((([] ++ (x_150.take k_325.toNat)) ++ [x_281]) ++ ((x_150.drop k_325.toNat).take (x_150.length - k_325.toNat))).map AV.str),.row 5 (x_151.map o5)]) ?_ ?_
      ·refine a0s ?_
       obtain ⟨g364,hb2⟩:=og hb2
       obtain ⟨g365,hb2⟩:=og hb2
       obtain ⟨g366,hb2⟩:=og hb2
       obtain ⟨g367,hb2⟩:=og hb2
       obtain ⟨g368,hb2⟩:=og hb2
       refine x8 (.ptr 1 0 3) rfl trivial rfl<|x8 (.own 2 0 x_150.length) rfl nle rfl<|l7 (.int .i64 k_325) rfl<|y5 (c9a rfl rfl rfl g364.1 g364.2)<|l7 (.lst 1 (keys_1.map AV.str)) rfl<|l7 (.int .i64 (i_149:Int)) rfl<|y5 (a2c (enc:=AV.str) rfl rfl hx276)<|x8 (.str x_281) rfl ⟨rfl,rfl⟩ rfl<|x8 (.ptr 1 0 3) rfl trivial rfl<|x8 (.own 2 0 x_150.length) rfl nle rfl<|l7 (.int .i64 k_325) rfl<|y5 (c4m rfl rfl rfl g365.1 g365.2)<|?_;refine a0r (a1f (j:=4) (as':=[]) rfl (fun _ => by decide) trivial (.refl _) rfl rfl rfl) (.inr ⟨(a5c rfl rfl rfl g365.1 g365.2),⟨⟨nle,rfl⟩,⟨⟨trivial,rfl⟩,⟨⟨⟨rfl,rfl⟩,rfl⟩,⟨(b3z (enc:=AV.str) rfl rfl hx276),⟨(b1e rfl rfl rfl g364.1 g364.2),⟨⟨nle,rfl⟩,⟨⟨trivial,rfl⟩,trivial⟩⟩⟩⟩⟩⟩⟩⟩) ?_ ?_
       ·refine a0r (a1f (j:=4) (as':=[(.str x_281)]) rfl (fun _ => by decide) ⟨rfl,trivial⟩ (.refl _) rfl rfl rfl) (.inr ⟨(a5c rfl rfl rfl g365.1 g365.2),⟨⟨nle,rfl⟩,⟨⟨trivial,rfl⟩,⟨(b1e rfl rfl rfl g364.1 g364.2),⟨⟨nle,rfl⟩,⟨⟨trivial,rfl⟩,trivial⟩⟩⟩⟩⟩⟩) trivial ?_;refine a0r (a1f (j:=5) (as':=[]) rfl (fun _ => by decide) trivial (.refl _) rfl rfl rfl) (.inr ⟨(a5c rfl rfl rfl g365.1 g365.2),⟨⟨nle,rfl⟩,⟨⟨trivial,rfl⟩,⟨⟨⟨rfl,rfl⟩,rfl⟩,⟨(b3z (enc:=AV.str) rfl rfl hx276),⟨(b1e rfl rfl rfl g364.1 g364.2),⟨⟨nle,rfl⟩,⟨⟨trivial,rfl⟩,trivial⟩⟩⟩⟩⟩⟩⟩⟩) trivial ?_
        refine a0r (a3j (j:=6) (L:=(([] ++ (x_150.take k_325.toNat)).map AV.str)) (len:=([] ++ (x_150.take k_325.toNat)).length) rfl rfl ((by simp)) (by simp <;> omega) g366 rfl rfl) (.inr ⟨(a5c rfl rfl rfl g365.1 g365.2),⟨⟨nle,rfl⟩,⟨⟨trivial,rfl⟩,⟨⟨⟨rfl,rfl⟩,rfl⟩,⟨(b3z (enc:=AV.str) rfl rfl hx276),trivial⟩⟩⟩⟩⟩) trivial ?_
        refine a0r (a3j (j:=7) (L:=((([] ++ (x_150.take k_325.toNat)) ++ [x_281]).map AV.str)) (len:=(([] ++ (x_150.take k_325.toNat)) ++ [x_281]).length) rfl rfl (c4n (enc:=AV.str) ([] ++ (x_150.take k_325.toNat)) [x_281] _ (by rfl)) (by simp <;> omega) g367 rfl rfl) (.inr ⟨(a5c rfl rfl rfl g365.1 g365.2),⟨⟨nle,rfl⟩,⟨⟨trivial,rfl⟩,trivial⟩⟩⟩) trivial ?_
        refine a0r (a3j (j:=8) (L:=(((([] ++ (x_150.take k_325.toNat)) ++ [x_281]) ++ ((x_150.drop k_325.toNat).take (x_150.length - k_325.toNat))).map AV.str)) (len:=((([] ++ (x_150.take k_325.toNat)) ++ [x_281]) ++ ((x_150.drop k_325.toNat).take (x_150.length - k_325.toNat))).length) rfl rfl ((apg (enc:=AV.str) (([] ++ (x_150.take k_325.toNat)) ++ [x_281]) ((x_150.drop k_325.toNat).take (x_150.length - k_325.toNat)) (tkw _ _ _))) (by simp <;> omega) g368 rfl rfl) trivial trivial ?_
        refine x8 (.ptr 1 0 3) rfl trivial rfl<|a3i (a0c (v:=(.own 8 0 (((([] ++ (x_150.take k_325.toNat)) ++ [x_281]) ++ ((x_150.drop k_325.toNat).take (x_150.length - k_325.toNat))).length))) (y':=(.agg [(.int .i64 5),(.int .i64 0),(.str []),(.own 8 0 (((([] ++ (x_150.take k_325.toNat)) ++ [x_281]) ++ ((x_150.drop k_325.toNat).take (x_150.length - k_325.toNat))).length)),(.own 3 0 x_151.length)])) rfl rfl rfl trivial ⟨rfl,nle⟩ ⟨⟨rfl,trivial⟩,trivial⟩ rfl) trivial trivial<|a0b<|?_;obtain rfl:=os hb2;exact ⟨[],[0,1,8,3],_,_,rfl,rfl,⟨.refl _,⟨.refl _,⟨.refl _,⟨.refl _,⟨.refl _,⟨.refl _,trivial⟩⟩⟩⟩⟩⟩,(.refl _)⟩
       ·refine a0r (a3j (j:=5) (L:=(([] ++ (x_150.take k_325.toNat)).map AV.str)) (len:=([] ++ (x_150.take k_325.toNat)).length) rfl rfl ((by simp)) (by simp <;> omega) g366 rfl rfl) (.inr ⟨(a5c rfl rfl rfl g365.1 g365.2),⟨⟨nle,rfl⟩,⟨⟨trivial,rfl⟩,⟨⟨⟨rfl,rfl⟩,rfl⟩,⟨(b3z (enc:=AV.str) rfl rfl hx276),trivial⟩⟩⟩⟩⟩) ?_ ?_
        ·refine a0r (a1f (j:=5) (as':=[(.str x_281)]) rfl (fun _ => by decide) ⟨rfl,trivial⟩ (.refl _) rfl rfl rfl) (.inr ⟨(a5c rfl rfl rfl g365.1 g365.2),⟨⟨nle,rfl⟩,⟨⟨trivial,rfl⟩,⟨(b1e rfl rfl rfl g364.1 g364.2),⟨⟨nle,rfl⟩,⟨⟨trivial,rfl⟩,trivial⟩⟩⟩⟩⟩⟩) trivial ?_
         refine a0r (a3j (j:=6) (L:=(([] ++ (x_150.take k_325.toNat)).map AV.str)) (len:=([] ++ (x_150.take k_325.toNat)).length) rfl rfl ((by simp)) (by simp <;> omega) g366 rfl rfl) (.inr ⟨(a5c rfl rfl rfl g365.1 g365.2),⟨⟨nle,rfl⟩,⟨⟨trivial,rfl⟩,⟨⟨⟨rfl,rfl⟩,rfl⟩,⟨(b3z (enc:=AV.str) rfl rfl hx276),trivial⟩⟩⟩⟩⟩) trivial ?_
         refine a0r (a3j (j:=7) (L:=((([] ++ (x_150.take k_325.toNat)) ++ [x_281]).map AV.str)) (len:=(([] ++ (x_150.take k_325.toNat)) ++ [x_281]).length) rfl rfl (c4n (enc:=AV.str) ([] ++ (x_150.take k_325.toNat)) [x_281] _ (by rfl)) (by simp <;> omega) g367 rfl rfl) (.inr ⟨(a5c rfl rfl rfl g365.1 g365.2),⟨⟨nle,rfl⟩,⟨⟨trivial,rfl⟩,trivial⟩⟩⟩) trivial ?_
         refine a0r (a3j (j:=8) (L:=(((([] ++ (x_150.take k_325.toNat)) ++ [x_281]) ++ ((x_150.drop k_325.toNat).take (x_150.length - k_325.toNat))).map AV.str)) (len:=((([] ++ (x_150.take k_325.toNat)) ++ [x_281]) ++ ((x_150.drop k_325.toNat).take (x_150.length - k_325.toNat))).length) rfl rfl ((apg (enc:=AV.str) (([] ++ (x_150.take k_325.toNat)) ++ [x_281]) ((x_150.drop k_325.toNat).take (x_150.length - k_325.toNat)) (tkw _ _ _))) (by simp <;> omega) g368 rfl rfl) trivial trivial ?_
         refine x8 (.ptr 1 0 3) rfl trivial rfl<|a3i (a0c (v:=(.own 8 0 (((([] ++ (x_150.take k_325.toNat)) ++ [x_281]) ++ ((x_150.drop k_325.toNat).take (x_150.length - k_325.toNat))).length))) (y':=(.agg [(.int .i64 5),(.int .i64 0),(.str []),(.own 8 0 (((([] ++ (x_150.take k_325.toNat)) ++ [x_281]) ++ ((x_150.drop k_325.toNat).take (x_150.length - k_325.toNat))).length)),(.own 3 0 x_151.length)])) rfl rfl rfl trivial ⟨rfl,nle⟩ ⟨⟨rfl,trivial⟩,trivial⟩ rfl) trivial trivial<|a0b<|?_;obtain rfl:=os hb2;exact ⟨[],[0,1,8,3],_,_,rfl,rfl,⟨.refl _,⟨.refl _,⟨.refl _,⟨.refl _,⟨.refl _,⟨.refl _,trivial⟩⟩⟩⟩⟩⟩,(.refl _)⟩
        ·refine a0r (a1f (j:=6) (as':=[(.str x_281)]) rfl (fun _ => by decide) ⟨rfl,trivial⟩ (.refl _) rfl rfl rfl) (.inr ⟨(a5c rfl rfl rfl g365.1 g365.2),⟨⟨nle,rfl⟩,⟨⟨trivial,rfl⟩,⟨(b1e rfl rfl rfl g364.1 g364.2),⟨⟨nle,rfl⟩,⟨⟨trivial,rfl⟩,trivial⟩⟩⟩⟩⟩⟩) trivial ?_
         refine a0r (a3j (j:=7) (L:=((([] ++ (x_150.take k_325.toNat)) ++ [x_281]).map AV.str)) (len:=(([] ++ (x_150.take k_325.toNat)) ++ [x_281]).length) rfl rfl (c4n (enc:=AV.str) ([] ++ (x_150.take k_325.toNat)) [x_281] _ (by rfl)) (by simp <;> omega) g367 rfl rfl) (.inr ⟨(a5c rfl rfl rfl g365.1 g365.2),⟨⟨nle,rfl⟩,⟨⟨trivial,rfl⟩,trivial⟩⟩⟩) trivial ?_
         refine a0r (a3j (j:=8) (L:=(((([] ++ (x_150.take k_325.toNat)) ++ [x_281]) ++ ((x_150.drop k_325.toNat).take (x_150.length - k_325.toNat))).map AV.str)) (len:=((([] ++ (x_150.take k_325.toNat)) ++ [x_281]) ++ ((x_150.drop k_325.toNat).take (x_150.length - k_325.toNat))).length) rfl rfl ((apg (enc:=AV.str) (([] ++ (x_150.take k_325.toNat)) ++ [x_281]) ((x_150.drop k_325.toNat).take (x_150.length - k_325.toNat)) (tkw _ _ _))) (by simp <;> omega) g368 rfl rfl) trivial trivial ?_
         refine x8 (.ptr 1 0 3) rfl trivial rfl<|a3i (a0c (v:=(.own 8 0 (((([] ++ (x_150.take k_325.toNat)) ++ [x_281]) ++ ((x_150.drop k_325.toNat).take (x_150.length - k_325.toNat))).length))) (y':=(.agg [(.int .i64 5),(.int .i64 0),(.str []),(.own 8 0 (((([] ++ (x_150.take k_325.toNat)) ++ [x_281]) ++ ((x_150.drop k_325.toNat).take (x_150.length - k_325.toNat))).length)),(.own 3 0 x_151.length)])) rfl rfl rfl trivial ⟨rfl,nle⟩ ⟨⟨rfl,trivial⟩,trivial⟩ rfl) trivial trivial<|a0b<|?_;obtain rfl:=os hb2;exact ⟨[],[0,1,8,3],_,_,rfl,rfl,⟨.refl _,⟨.refl _,⟨.refl _,⟨.refl _,⟨.refl _,⟨.refl _,trivial⟩⟩⟩⟩⟩⟩,(.refl _)⟩
      ·refine a0s ?_
       obtain ⟨g369,hc1⟩:=og hc1
       obtain ⟨x_370,ex371,hc1⟩:=ob hc1
       obtain ⟨g372,hc1⟩:=og hc1
       obtain ⟨g373,hc1⟩:=og hc1
       obtain ⟨g374,hc1⟩:=og hc1
       obtain ⟨g375,hc1⟩:=og hc1
       refine x8 (.ptr 1 0 4) rfl trivial rfl<|x8 (.own 3 0 x_151.length) rfl nle rfl<|l7 (.int .i64 k_325) rfl<|y5 (c9a rfl rfl rfl g369.1 g369.2)<|l7 (.lst 5 (items_2.map o5)) rfl<|l7 (.int .i64 (i_149:Int)) rfl<|y5 (a6n (enc:=o5) rfl rfl (b3h ex371) (b3i ex371))<|y5 (a7u (v:=(.agg [(.int .i64 x_370.Kind),(.int .i64 x_370.N),(.str x_370.T),(.lst 1 (x_370.Keys.map AV.str)),(.lst 5 (x_370.Items.map o5))])) rfl (y9 _) nle rfl)<|x8 (.ptr 1 0 4) rfl trivial rfl<|x8 (.own 3 0 x_151.length) rfl nle rfl<|l7 (.int .i64 k_325) rfl<|y5 (c4m rfl rfl rfl g372.1 g372.2)<|?_;refine a0r (a1f (j:=4) (as':=[]) rfl (fun _ => by decide) trivial (.refl _) rfl rfl rfl) (.inr ⟨(a5c rfl rfl rfl g372.1 g372.2),⟨⟨nle,rfl⟩,⟨⟨trivial,rfl⟩,⟨(b4a (v:=(.agg [(.int .i64 x_370.Kind),(.int .i64 x_370.N),(.str x_370.T),(.lst 1 (x_370.Keys.map AV.str)),(.lst 5 (x_370.Items.map o5))])) rfl (y9 _) nle rfl),⟨(b3y (enc:=o5) rfl rfl (b3h ex371) (b3i ex371)),⟨(b1e rfl rfl rfl g369.1 g369.2),⟨⟨nle,rfl⟩,⟨⟨trivial,rfl⟩,trivial⟩⟩⟩⟩⟩⟩⟩⟩) ?_ ?_
       ·refine a0r (a1f (j:=4) (as':=[(o5 x_370)]) rfl (fun _ => by decide) ⟨rfl,trivial⟩ (.cons (.of_eq (y9 x_370).symm) .nil) rfl rfl rfl) (.inr ⟨(a5c rfl rfl rfl g372.1 g372.2),⟨⟨nle,rfl⟩,⟨⟨trivial,rfl⟩,⟨(b1e rfl rfl rfl g369.1 g369.2),⟨⟨nle,rfl⟩,⟨⟨trivial,rfl⟩,trivial⟩⟩⟩⟩⟩⟩) trivial ?_;refine a0r (a1f (j:=5) (as':=[]) rfl (fun _ => by decide) trivial (.refl _) rfl rfl rfl) (.inr ⟨(a5c rfl rfl rfl g372.1 g372.2),⟨⟨nle,rfl⟩,⟨⟨trivial,rfl⟩,⟨(b4a (v:=(.agg [(.int .i64 x_370.Kind),(.int .i64 x_370.N),(.str x_370.T),(.lst 1 (x_370.Keys.map AV.str)),(.lst 5 (x_370.Items.map o5))])) rfl (y9 _) nle rfl),⟨(b3y (enc:=o5) rfl rfl (b3h ex371) (b3i ex371)),⟨(b1e rfl rfl rfl g369.1 g369.2),⟨⟨nle,rfl⟩,⟨⟨trivial,rfl⟩,trivial⟩⟩⟩⟩⟩⟩⟩⟩) trivial ?_
        refine a0r (a3j (j:=6) (L:=(([] ++ (x_151.take k_325.toNat)).map o5)) (len:=([] ++ (x_151.take k_325.toNat)).length) rfl rfl ((by simp)) (by simp <;> omega) g373 rfl rfl) (.inr ⟨(a5c rfl rfl rfl g372.1 g372.2),⟨⟨nle,rfl⟩,⟨⟨trivial,rfl⟩,⟨(b4a (v:=(.agg [(.int .i64 x_370.Kind),(.int .i64 x_370.N),(.str x_370.T),(.lst 1 (x_370.Keys.map AV.str)),(.lst 5 (x_370.Items.map o5))])) rfl (y9 _) nle rfl),⟨(b3y (enc:=o5) rfl rfl (b3h ex371) (b3i ex371)),trivial⟩⟩⟩⟩⟩) trivial ?_
        refine a0r (a3j (j:=7) (L:=((([] ++ (x_151.take k_325.toNat)) ++ [x_370]).map o5)) (len:=(([] ++ (x_151.take k_325.toNat)) ++ [x_370]).length) rfl rfl (c4n (enc:=o5) ([] ++ (x_151.take k_325.toNat)) [x_370] _ (by rfl)) (by simp <;> omega) g374 rfl rfl) (.inr ⟨(a5c rfl rfl rfl g372.1 g372.2),⟨⟨nle,rfl⟩,⟨⟨trivial,rfl⟩,trivial⟩⟩⟩) trivial ?_
        refine a0r (a3j (j:=8) (L:=(((([] ++ (x_151.take k_325.toNat)) ++ [x_370]) ++ ((x_151.drop k_325.toNat).take (x_151.length - k_325.toNat))).map o5)) (len:=((([] ++ (x_151.take k_325.toNat)) ++ [x_370]) ++ ((x_151.drop k_325.toNat).take (x_151.length - k_325.toNat))).length) rfl rfl ((apg (enc:=o5) (([] ++ (x_151.take k_325.toNat)) ++ [x_370]) ((x_151.drop k_325.toNat).take (x_151.length - k_325.toNat)) (tkw _ _ _))) (by simp <;> omega) g375 rfl rfl) trivial trivial ?_
        refine x8 (.ptr 1 0 4) rfl trivial rfl<|a3i (a0c (v:=(.own 8 0 (((([] ++ (x_151.take k_325.toNat)) ++ [x_370]) ++ ((x_151.drop k_325.toNat).take (x_151.length - k_325.toNat))).length))) (y':=(.agg [(.int .i64 5),(.int .i64 0),(.str []),(.own 2 0 (((([] ++ (x_150.take k_325.toNat)) ++ [x_281]) ++ ((x_150.drop k_325.toNat).take (x_150.length - k_325.toNat))).length)),(.own 8 0 (((([] ++ (x_151.take k_325.toNat)) ++ [x_370]) ++ ((x_151.drop k_325.toNat).take (x_151.length - k_325.toNat))).length))])) rfl rfl rfl trivial ⟨rfl,nle⟩ ⟨⟨rfl,trivial⟩,trivial⟩ rfl) trivial trivial<|a0b<|a3f<|a0f<|a0s<|l7 (.int .i64 (i_149:Int)) rfl<|x8 (.int .i64 (w64 ((i_149:Int) + 1))) rfl rfl rfl<|?_
        refine l7 (.int .i64 (w64 ((i_149:Int) + 1))) rfl<|a0b<|?_;exact a1q ⟨((i_149 + 1),(([] ++ (x_150.take k_325.toNat)) ++ [x_281]) ++ ((x_150.drop k_325.toNat).take (x_150.length - k_325.toNat)),(([] ++ (x_151.take k_325.toNat)) ++ [x_370]) ++ ((x_151.drop k_325.toNat).take (x_151.length - k_325.toNat))),hc1⟩ (mul hlt275) ⟨[],[0,1,2,8],_,_,rfl,rfl,⟨.refl _,⟨.refl _,⟨.refl _,⟨.refl _,⟨.of_eq (congrArg (AV.int _) (a1w hlt275 hl283)),trivial⟩⟩⟩⟩⟩,(.refl _)⟩
       ·refine a0r (a3j (j:=5) (L:=(([] ++ (x_151.take k_325.toNat)).map o5)) (len:=([] ++ (x_151.take k_325.toNat)).length) rfl rfl ((by simp)) (by simp <;> omega) g373 rfl rfl) (.inr ⟨(a5c rfl rfl rfl g372.1 g372.2),⟨⟨nle,rfl⟩,⟨⟨trivial,rfl⟩,⟨(b4a (v:=(.agg [(.int .i64 x_370.Kind),(.int .i64 x_370.N),(.str x_370.T),(.lst 1 (x_370.Keys.map AV.str)),(.lst 5 (x_370.Items.map o5))])) rfl (y9 _) nle rfl),⟨(b3y (enc:=o5) rfl rfl (b3h ex371) (b3i ex371)),trivial⟩⟩⟩⟩⟩) ?_ ?_
        ·refine a0r (a1f (j:=5) (as':=[(o5 x_370)]) rfl (fun _ => by decide) ⟨rfl,trivial⟩ (.cons (.of_eq (y9 x_370).symm) .nil) rfl rfl rfl) (.inr ⟨(a5c rfl rfl rfl g372.1 g372.2),⟨⟨nle,rfl⟩,⟨⟨trivial,rfl⟩,⟨(b1e rfl rfl rfl g369.1 g369.2),⟨⟨nle,rfl⟩,⟨⟨trivial,rfl⟩,trivial⟩⟩⟩⟩⟩⟩) trivial ?_
         refine a0r (a3j (j:=6) (L:=(([] ++ (x_151.take k_325.toNat)).map o5)) (len:=([] ++ (x_151.take k_325.toNat)).length) rfl rfl ((by simp)) (by simp <;> omega) g373 rfl rfl) (.inr ⟨(a5c rfl rfl rfl g372.1 g372.2),⟨⟨nle,rfl⟩,⟨⟨trivial,rfl⟩,⟨(b4a (v:=(.agg [(.int .i64 x_370.Kind),(.int .i64 x_370.N),(.str x_370.T),(.lst 1 (x_370.Keys.map AV.str)),(.lst 5 (x_370.Items.map o5))])) rfl (y9 _) nle rfl),⟨(b3y (enc:=o5) rfl rfl (b3h ex371) (b3i ex371)),trivial⟩⟩⟩⟩⟩) trivial ?_
         refine a0r (a3j (j:=7) (L:=((([] ++ (x_151.take k_325.toNat)) ++ [x_370]).map o5)) (len:=(([] ++ (x_151.take k_325.toNat)) ++ [x_370]).length) rfl rfl (c4n (enc:=o5) ([] ++ (x_151.take k_325.toNat)) [x_370] _ (by rfl)) (by simp <;> omega) g374 rfl rfl) (.inr ⟨(a5c rfl rfl rfl g372.1 g372.2),⟨⟨nle,rfl⟩,⟨⟨trivial,rfl⟩,trivial⟩⟩⟩) trivial ?_
         refine a0r (a3j (j:=8) (L:=(((([] ++ (x_151.take k_325.toNat)) ++ [x_370]) ++ ((x_151.drop k_325.toNat).take (x_151.length - k_325.toNat))).map o5)) (len:=((([] ++ (x_151.take k_325.toNat)) ++ [x_370]) ++ ((x_151.drop k_325.toNat).take (x_151.length - k_325.toNat))).length) rfl rfl ((apg (enc:=o5) (([] ++ (x_151.take k_325.toNat)) ++ [x_370]) ((x_151.drop k_325.toNat).take (x_151.length - k_325.toNat)) (tkw _ _ _))) (by simp <;> omega) g375 rfl rfl) trivial trivial ?_
         refine x8 (.ptr 1 0 4) rfl trivial rfl<|a3i (a0c (v:=(.own 8 0 (((([] ++ (x_151.take k_325.toNat)) ++ [x_370]) ++ ((x_151.drop k_325.toNat).take (x_151.length - k_325.toNat))).length))) (y':=(.agg [(.int .i64 5),(.int .i64 0),(.str []),(.own 2 0 (((([] ++ (x_150.take k_325.toNat)) ++ [x_281]) ++ ((x_150.drop k_325.toNat).take (x_150.length - k_325.toNat))).length)),(.own 8 0 (((([] ++ (x_151.take k_325.toNat)) ++ [x_370]) ++ ((x_151.drop k_325.toNat).take (x_151.length - k_325.toNat))).length))])) rfl rfl rfl trivial ⟨rfl,nle⟩ ⟨⟨rfl,trivial⟩,trivial⟩ rfl) trivial trivial<|a0b<|a3f<|a0f<|a0s<|l7 (.int .i64 (i_149:Int)) rfl<|x8 (.int .i64 (w64 ((i_149:Int) + 1))) rfl rfl rfl<|?_
         refine l7 (.int .i64 (w64 ((i_149:Int) + 1))) rfl<|a0b<|?_;exact a1q ⟨((i_149 + 1),(([] ++ (x_150.take k_325.toNat)) ++ [x_281]) ++ ((x_150.drop k_325.toNat).take (x_150.length - k_325.toNat)),(([] ++ (x_151.take k_325.toNat)) ++ [x_370]) ++ ((x_151.drop k_325.toNat).take (x_151.length - k_325.toNat))),hc1⟩ (mul hlt275) ⟨[],[0,1,2,8],_,_,rfl,rfl,⟨.refl _,⟨.refl _,⟨.refl _,⟨.refl _,⟨.of_eq (congrArg (AV.int _) (a1w hlt275 hl283)),trivial⟩⟩⟩⟩⟩,(.refl _)⟩
        ·refine a0r (a1f (j:=6) (as':=[(o5 x_370)]) rfl (fun _ => by decide) ⟨rfl,trivial⟩ (.cons (.of_eq (y9 x_370).symm) .nil) rfl rfl rfl) (.inr ⟨(a5c rfl rfl rfl g372.1 g372.2),⟨⟨nle,rfl⟩,⟨⟨trivial,rfl⟩,⟨(b1e rfl rfl rfl g369.1 g369.2),⟨⟨nle,rfl⟩,⟨⟨trivial,rfl⟩,trivial⟩⟩⟩⟩⟩⟩) trivial ?_
         refine a0r (a3j (j:=7) (L:=((([] ++ (x_151.take k_325.toNat)) ++ [x_370]).map o5)) (len:=(([] ++ (x_151.take k_325.toNat)) ++ [x_370]).length) rfl rfl (c4n (enc:=o5) ([] ++ (x_151.take k_325.toNat)) [x_370] _ (by rfl)) (by simp <;> omega) g374 rfl rfl) (.inr ⟨(a5c rfl rfl rfl g372.1 g372.2),⟨⟨nle,rfl⟩,⟨⟨trivial,rfl⟩,trivial⟩⟩⟩) trivial ?_
         refine a0r (a3j (j:=8) (L:=(((([] ++ (x_151.take k_325.toNat)) ++ [x_370]) ++ ((x_151.drop k_325.toNat).take (x_151.length - k_325.toNat))).map o5)) (len:=((([] ++ (x_151.take k_325.toNat)) ++ [x_370]) ++ ((x_151.drop k_325.toNat).take (x_151.length - k_325.toNat))).length) rfl rfl ((apg (enc:=o5) (([] ++ (x_151.take k_325.toNat)) ++ [x_370]) ((x_151.drop k_325.toNat).take (x_151.length - k_325.toNat)) (tkw _ _ _))) (by simp <;> omega) g375 rfl rfl) trivial trivial ?_
         refine x8 (.ptr 1 0 4) rfl trivial rfl<|a3i (a0c (v:=(.own 8 0 (((([] ++ (x_151.take k_325.toNat)) ++ [x_370]) ++ ((x_151.drop k_325.toNat).take (x_151.length - k_325.toNat))).length))) (y':=(.agg [(.int .i64 5),(.int .i64 0),(.str []),(.own 2 0 (((([] ++ (x_150.take k_325.toNat)) ++ [x_281]) ++ ((x_150.drop k_325.toNat).take (x_150.length - k_325.toNat))).length)),(.own 8 0 (((([] ++ (x_151.take k_325.toNat)) ++ [x_370]) ++ ((x_151.drop k_325.toNat).take (x_151.length - k_325.toNat))).length))])) rfl rfl rfl trivial ⟨rfl,nle⟩ ⟨⟨rfl,trivial⟩,trivial⟩ rfl) trivial trivial<|a0b<|a3f<|a0f<|a0s<|l7 (.int .i64 (i_149:Int)) rfl<|x8 (.int .i64 (w64 ((i_149:Int) + 1))) rfl rfl rfl<|?_
         refine l7 (.int .i64 (w64 ((i_149:Int) + 1))) rfl<|a0b<|?_;exact a1q ⟨((i_149 + 1),(([] ++ (x_150.take k_325.toNat)) ++ [x_281]) ++ ((x_150.drop k_325.toNat).take (x_150.length - k_325.toNat)),(([] ++ (x_151.take k_325.toNat)) ++ [x_370]) ++ ((x_151.drop k_325.toNat).take (x_151.length - k_325.toNat))),hc1⟩ (mul hlt275) ⟨[],[0,1,2,8],_,_,rfl,rfl,⟨.refl _,⟨.refl _,⟨.refl _,⟨.refl _,⟨.of_eq (congrArg (AV.int _) (a1w hlt275 hl283)),trivial⟩⟩⟩⟩⟩,(.refl _)⟩
 ·obtain ⟨x_272,x_273⟩:=p274
  refine sr<|x8 (.agg [(.int .i64 5),(.int .i64 0),(.str []),(.own 2 0 x_272.length),(.own 3 0 x_273.length)]) rfl nle rfl<|a2i (a0c (v:=(.agg [(.int .i64 5),(.int .i64 0),(.str []),(.own 2 0 x_272.length),(.own 3 0 x_273.length)])) (y':=(.agg [(.int .i64 5),(.int .i64 0),(.str []),(.own 2 0 x_272.length),(.own 3 0 x_273.length)])) rfl rfl rfl trivial ⟨rfl,nle⟩ ⟨⟨rfl,trivial⟩,⟨⟨rfl,trivial⟩,⟨⟨rfl,trivial⟩,⟨⟨rfl,trivial⟩,⟨⟨rfl,trivial⟩,trivial⟩⟩⟩⟩⟩ rfl)<|dk<|a0d<|?_;obtain rfl:=os hf;exact d7c ⟨nle,trivial⟩ rfl (leJ (x:=(⟨5,0,[],x_272,x_273⟩:o8)) (.agg (.cons (.refl _) (.cons (.refl _) (.cons (.refl _) (.cons (.of_eq (congrArg (AV.lst _) (tko (enc:=AV.str) x_272))) (.cons (.of_eq (congrArg (AV.lst _) (tko (enc:=o5) x_273))) .nil)))))))

end Go.R
