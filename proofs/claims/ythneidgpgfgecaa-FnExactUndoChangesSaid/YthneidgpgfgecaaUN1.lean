/- Walks. -/
import Derived.Test.YthneidgpgfgecaaUNT
set_option linter.all false
namespace Go.R
open Go Go.Proofs
set_option linter.unusedVariables false
set_option linter.unusedSimpArgs false
set_option maxHeartbeats 8000000
/- laws.szAtom -/
def e3z:a0r :=
 (.seq (.reg (tq 2 (.box 3 (.t 0)) (tm 4 (.c (.int .i64 0)) .done)))
 (.seq (.reg (tm 5 (.t 1) (tq 6 (.faddr 2 (.t 2)) (tq 7 (.load 1 false (.t 6)) (tq 8 (.lenS (.t 7)) (tq 9 (.bin .sub (.t 5) (.t 8)) (tm 1 (.t 9) .done)))))))
 (.seq (.seq (.reg (tm 10 (.t 1) (tq 11 (.bin .lss (.t 10) (.c (.int .i64 0))) .done)))
 (.cond (.t 11) (.seq (.reg (tq 4 (.mov (.c (.int .i64 (-1)))) .done))
 .ret)
 .skip))
 (.seq (.reg (tm 12 (.t 1) (tm 4 (.t 12) .done)))
 .ret))))
theorem e4a:a1g Try.prog Try.f110 = some (e3z.erase,[.mov (.t 4)],13):=by kernel_rfl
def b1v (a_1:a0c) (left_2:Int):Option Int :=
    if (decide (w64 (left_2 - (a_1.T.length:Int)) < 0)) then
    some (-1)
    else
    some (w64 (left_2 - (a_1.T.length:Int)))
theorem c5z (a_1:a0c) (left_2:Int) (r:Int) (hf:b1v a_1 left_2 = some r):a0b Try.prog 110 .flat [(l7 a_1),(.int .i64 left_2)] (.int .i64 r):=by
 refine a0b.of_awp mixed Try.func110 e4a nle ?_;rw [a0q];unfold b1v at hf;unfold e3z;refine (show awp Try.prog false 0 _ (ofL [(0,(l7 a_1)),(1,(.int .i64 left_2))]) [] _ from ?_);refine sr<|a0a (a1m (j:=0) (c:=(.agg [(.int .i64 a_1.Kind),(.int .i64 a_1.N),(.str a_1.T)])) rfl trivial rfl rfl)<|l9 (.int .i64 0) rfl<|dk<|sr<|l9 (.int .i64 left_2) rfl<|y5 (.ptr 0 0 2) rfl trivial rfl<|y5 (.str a_1.T) rfl nle rfl<|a0w (e2q rfl) fun hl3 => y5 (.int .i64 (w64 (left_2 - (a_1.T.length:Int)))) rfl rfl rfl<|l9 (.int .i64 (w64 (left_2 - (a_1.T.length:Int)))) rfl<|dk<|o6<|sr<|?_
 refine l9 (.int .i64 (w64 (left_2 - (a_1.T.length:Int)))) rfl<|y5 (.bool (decide (w64 (left_2 - (a_1.T.length:Int)) < 0))) rfl rfl rfl<|dk<|?_
 rcases oi hf with ⟨c4,hf⟩ | ⟨c4,hf⟩
 ·refine y8 rfl c4<|sr<|l9 (.int .i64 (-1)) rfl<|dk<|a0f<|?_;obtain rfl:=os hf;exact a0k ⟨trivial,trivial⟩ rfl (.refl _)
 ·refine y7 rfl (bf c4)<|a0e<|a0h<|sr<|l9 (.int .i64 (w64 (left_2 - (a_1.T.length:Int)))) rfl<|l9 (.int .i64 (w64 (left_2 - (a_1.T.length:Int)))) rfl<|dk<|a0f<|?_;obtain rfl:=os hf;exact a0k ⟨trivial,trivial⟩ rfl (.refl _)

/- laws.szAtomS -/
def c95:a0r :=
 (.seq (.reg (tm 4 (.c (.int .i64 0)) .done))
 (.seq (.reg (tm 6 (.t 1) (tm 7 (.t 0) (tq 8 (.len (.t 7)) (tq 9 (.bin .sub (.t 6) (.t 8)) (tm 1 (.t 9) .done))))))
 (.seq (.seq (.reg (tm 10 (.t 1) (tq 11 (.bin .lss (.t 10) (.c (.int .i64 0))) .done)))
 (.cond (.t 11) (.seq (.reg (tq 4 (.mov (.c (.int .i64 (-1)))) .done))
 .ret)
 .skip))
 (.seq (.seq (.reg (tm 5 (.c (.int .i64 0)) .done))
 (.block 0 (.loop (.seq (.seq (.reg (tm 12 (.t 5) (tm 13 (.t 0) (tq 14 (.len (.t 13)) (tq 15 (.bin .lss (.t 12) (.t 14)) .done)))))
 (.cond (.t 15) .skip
 (.exit 0)))
 (.seq (.block 1 (.seq (.reg (tm 18 (.t 0) (tm 19 (.t 5) (tq 20 (.iaddr 3 (.t 18) (.t 19)) (tq 21 (.load 3 true (.t 20)) (tm 22 (.t 1) (tq 23 (.call 110 [(.t 21),(.t 22)]) (tm 1 (.t 23) .done))))))))
 (.seq (.reg (tm 24 (.t 1) (tq 25 (.bin .lss (.t 24) (.c (.int .i64 0))) .done)))
 (.cond (.t 25) (.seq (.reg (tq 4 (.mov (.c (.int .i64 (-1)))) .done))
 .ret)
 .skip))))
 (.reg (tm 16 (.t 5) (tq 17 (.bin .add (.t 16) (.c (.int .i64 1))) (tm 5 (.t 17) .done)))))))))
 (.cut (.seq (.reg (tm 26 (.t 1) (tm 4 (.t 26) .done)))
 .ret))))))
theorem e5a:a1g Try.prog Try.f95 = some (c95.erase,[.mov (.t 4)],27):=by kernel_rfl
def a4a :List a0c → Int → Option (Fl Int Int)
  | [],left_21 =>
    some (.go left_21)
  | x_39 :: xs,left_21 =>
    (b1v x_39 left_21).bind fun r_42 =>
    if (decide (r_42 < 0)) then
    some (.ret (-1))
    else
    a4a xs r_42 

def b0u (a_1:(List a0c)) (left_2:Int):Option Int :=
    if (decide (w64 (left_2 - (a_1.length:Int)) < 0)) then
    some (-1)
    else
    (a4a a_1 (w64 (left_2 - (a_1.length:Int)))).bind fun q => (match q with
    | .ret r => some r
    | .go left_31 =>
    some left_31)
theorem c4u (a_1:(List a0c)) (left_2:Int) (r:Int) (hf:b0u a_1 left_2 = some r):a0b Try.prog 95 .flat [(.lst 3 (a_1.map l7)),(.int .i64 left_2)] (.int .i64 r):=by
 refine a0b.of_awp mixed Try.func95 e5a nle ?_;rw [a0q];unfold b0u at hf;unfold c95;refine (show awp Try.prog false 0 _ (ofL [(0,(.lst 3 (a_1.map l7))),(1,(.int .i64 left_2))]) [] _ from ?_);refine sr<|l9 (.int .i64 0) rfl<|dk<|sr<|l9 (.int .i64 left_2) rfl<|l9 (.lst 3 (a_1.map l7)) rfl<|a0w (a1b (enc:=l7) rfl) fun hl3 => y5 (.int .i64 (w64 (left_2 - (a_1.length:Int)))) rfl rfl rfl<|l9 (.int .i64 (w64 (left_2 - (a_1.length:Int)))) rfl<|dk<|o6<|sr<|l9 (.int .i64 (w64 (left_2 - (a_1.length:Int)))) rfl<|y5 (.bool (decide (w64 (left_2 - (a_1.length:Int)) < 0))) rfl rfl rfl<|?_
 refine dk<|?_
 rcases oi hf with ⟨c4,hf⟩ | ⟨c4,hf⟩
 ·refine y8 rfl c4<|sr<|l9 (.int .i64 (-1)) rfl<|dk<|a0f<|?_;obtain rfl:=os hf;exact a0k ⟨trivial,trivial⟩ rfl (.refl _)
 ·refine y7 rfl (bf c4)<|a0e<|a0h<|o6<|sr<|l9 (.int .i64 0) rfl<|dk<|?_
  obtain ⟨p32,hb1,hf⟩:=ob hf
  refine a2q (X:={q:Int // p32 = .go q}) (fun q => ([(1,(.int .i64 q.1))],[])) ?_ ?_
  ·refine a1d (X:={q:(Int × Nat) // a4a (a_1.drop q.2) q.1 = some p32}) (fun q => ([(0,(.lst 3 (a_1.map l7))),(1,(.int .i64 q.1.1)),(5,(.int .i64 (q.1.2:Int)))],[])) (fun q => a_1.length - q.1.2) ⟨(w64 (left_2 - (a_1.length:Int)),0),hb1⟩ ⟨[],[],_,_,rfl,rfl,⟨.refl _,⟨.refl _,⟨.refl _,trivial⟩⟩⟩,(.refl _)⟩ ?_
   rintro ⟨⟨left_21,i_22⟩,hc1⟩
   have hc1:a4a (a_1.drop i_22) left_21 = some p32:=hc1
   refine (show awp Try.prog false 0 _ (ofL [(0,(.lst 3 (a_1.map l7))),(1,(.int .i64 left_21)),(5,(.int .i64 (i_22:Int)))]) [] _ from ?_)
   rcases a4u a_1 i_22 with ⟨hie35,hd38⟩ | ⟨hlt33,x_39,hx34,hd38⟩
   ·rw [hd38,a4a.eq_1] at hc1
    have hq37:=dlf hie35
    refine o6<|sr<|l9 (.int .i64 (i_22:Int)) rfl<|l9 (.lst 3 (a_1.map l7)) rfl<|a0w (a1b (enc:=l7) rfl) fun hl40 => y5 (.bool (decide ((i_22:Int) < (a_1.length:Int)))) rfl rfl rfl<|dk<|y7 rfl hq37<|a2e<|a2d<|a1l<|a2c<|?_;obtain rfl:=os hc1;exact a5g ⟨_,rfl⟩ ⟨[],[],_,_,rfl,rfl,⟨.refl _,trivial⟩,(.refl _)⟩
   ·rw [hd38,a4a.eq_2] at hc1
    have hq37:=dlt hlt33
    refine o6<|sr<|l9 (.int .i64 (i_22:Int)) rfl<|l9 (.lst 3 (a_1.map l7)) rfl<|a0w (a1b (enc:=l7) rfl) fun hl41 => y5 (.bool (decide ((i_22:Int) < (a_1.length:Int)))) rfl rfl rfl<|dk<|y8 rfl hq37<|a0e<|a0h<|o6<|a2u<|sr<|?_
    obtain ⟨r_42,er43,hc1⟩:=ob hc1
    refine l9 (.lst 3 (a_1.map l7)) rfl<|l9 (.int .i64 (i_22:Int)) rfl<|a0a (a1h (enc:=l7) rfl rfl hx34)<|y5 (l7 x_39) rfl nle rfl<|l9 (.int .i64 left_21) rfl<|a0a (a1o (c5z _ _ _ er43) rfl (.refl _) rfl)<|l9 (.int .i64 r_42) rfl<|dk<|sr<|l9 (.int .i64 r_42) rfl<|y5 (.bool (decide (r_42 < 0))) rfl rfl rfl<|dk<|?_
    rcases oi hc1 with ⟨c44,hc1⟩ | ⟨c44,hc1⟩
    ·refine y8 rfl c44<|sr<|l9 (.int .i64 (-1)) rfl<|dk<|a0f<|?_;obtain rfl:=os hc1;obtain rfl:=os hf;exact a0k ⟨trivial,trivial⟩ rfl (.refl _)
    ·refine y7 rfl (bf c44)<|a0e<|a2r<|a0h<|a0y<|l9 (.int .i64 (i_22:Int)) rfl<|y5 (.int .i64 (w64 ((i_22:Int) + 1))) rfl rfl rfl<|l9 (.int .i64 (w64 ((i_22:Int) + 1))) rfl<|a0n<|?_;exact a1j ⟨(r_42,(i_22 + 1)),hc1⟩ (mul hlt33) ⟨[],[],_,_,rfl,rfl,⟨.refl _,⟨.refl _,⟨.of_eq (congrArg (AV.int _) (a1k hlt33 hl41)),trivial⟩⟩⟩,(.refl _)⟩
  ·rintro ⟨left_31,rfl⟩
   refine sr<|l9 (.int .i64 left_31) rfl<|l9 (.int .i64 left_31) rfl<|dk<|a0f<|?_;obtain rfl:=os hf;exact a0k ⟨trivial,trivial⟩ rfl (.refl _)

/- laws.szAtomSS -/
def c72:a0r :=
 (.seq (.reg (tm 4 (.c (.int .i64 0)) .done))
 (.seq (.reg (tm 6 (.t 1) (tm 7 (.t 0) (tq 8 (.len (.t 7)) (tq 9 (.bin .sub (.t 6) (.t 8)) (tm 1 (.t 9) .done))))))
 (.seq (.seq (.reg (tm 10 (.t 1) (tq 11 (.bin .lss (.t 10) (.c (.int .i64 0))) .done)))
 (.cond (.t 11) (.seq (.reg (tq 4 (.mov (.c (.int .i64 (-1)))) .done))
 .ret)
 .skip))
 (.seq (.seq (.reg (tm 5 (.c (.int .i64 0)) .done))
 (.block 0 (.loop (.seq (.seq (.reg (tm 12 (.t 5) (tm 13 (.t 0) (tq 14 (.len (.t 13)) (tq 15 (.bin .lss (.t 12) (.t 14)) .done)))))
 (.cond (.t 15) .skip
 (.exit 0)))
 (.seq (.block 1 (.seq (.reg (tm 18 (.t 0) (tm 19 (.t 5) (tq 20 (.iaddr 1 (.t 18) (.t 19)) (tq 21 (.load 1 false (.t 20)) (tm 22 (.t 1) (tq 23 (.call 95 [(.t 21),(.t 22)]) (tm 1 (.t 23) .done))))))))
 (.seq (.reg (tm 24 (.t 1) (tq 25 (.bin .lss (.t 24) (.c (.int .i64 0))) .done)))
 (.cond (.t 25) (.seq (.reg (tq 4 (.mov (.c (.int .i64 (-1)))) .done))
 .ret)
 .skip))))
 (.reg (tm 16 (.t 5) (tq 17 (.bin .add (.t 16) (.c (.int .i64 1))) (tm 5 (.t 17) .done)))))))))
 (.cut (.seq (.reg (tm 26 (.t 1) (tm 4 (.t 26) .done)))
 .ret))))))
theorem e5b:a1g Try.prog Try.f72 = some (c72.erase,[.mov (.t 4)],27):=by kernel_rfl
def a3m :List (List a0c) → Int → Option (Fl Int Int)
  | [],left_21 =>
    some (.go left_21)
  | x_39 :: xs,left_21 =>
    (b0u x_39 left_21).bind fun r_42 =>
    if (decide (r_42 < 0)) then
    some (.ret (-1))
    else
    a3m xs r_42 

def a9o (a_1:(List (List a0c))) (left_2:Int):Option Int :=
    if (decide (w64 (left_2 - (a_1.length:Int)) < 0)) then
    some (-1)
    else
    (a3m a_1 (w64 (left_2 - (a_1.length:Int)))).bind fun q => (match q with
    | .ret r => some r
    | .go left_31 =>
    some left_31)
theorem c2n (a_1:(List (List a0c))) (left_2:Int) (r:Int) (hf:a9o a_1 left_2 = some r):a0b Try.prog 72 .flat [(.lst 1 (a_1.map (o7 3 l7))),(.int .i64 left_2)] (.int .i64 r):=by
 refine a0b.of_awp mixed Try.func72 e5b nle ?_;rw [a0q];unfold a9o at hf;unfold c72;refine (show awp Try.prog false 0 _ (ofL [(0,(.lst 1 (a_1.map (o7 3 l7)))),(1,(.int .i64 left_2))]) [] _ from ?_);refine sr<|l9 (.int .i64 0) rfl<|dk<|sr<|l9 (.int .i64 left_2) rfl<|l9 (.lst 1 (a_1.map (o7 3 l7))) rfl<|a0w (a1b (enc:=(o7 3 l7)) rfl) fun hl3 => y5 (.int .i64 (w64 (left_2 - (a_1.length:Int)))) rfl rfl rfl<|l9 (.int .i64 (w64 (left_2 - (a_1.length:Int)))) rfl<|dk<|o6<|sr<|l9 (.int .i64 (w64 (left_2 - (a_1.length:Int)))) rfl<|y5 (.bool (decide (w64 (left_2 - (a_1.length:Int)) < 0))) rfl rfl rfl<|?_
 refine dk<|?_
 rcases oi hf with ⟨c4,hf⟩ | ⟨c4,hf⟩
 ·refine y8 rfl c4<|sr<|l9 (.int .i64 (-1)) rfl<|dk<|a0f<|?_;obtain rfl:=os hf;exact a0k ⟨trivial,trivial⟩ rfl (.refl _)
 ·refine y7 rfl (bf c4)<|a0e<|a0h<|o6<|sr<|l9 (.int .i64 0) rfl<|dk<|?_
  obtain ⟨p32,hb1,hf⟩:=ob hf
  refine a2q (X:={q:Int // p32 = .go q}) (fun q => ([(1,(.int .i64 q.1))],[])) ?_ ?_
  ·refine a1d (X:={q:(Int × Nat) // a3m (a_1.drop q.2) q.1 = some p32}) (fun q => ([(0,(.lst 1 (a_1.map (o7 3 l7)))),(1,(.int .i64 q.1.1)),(5,(.int .i64 (q.1.2:Int)))],[])) (fun q => a_1.length - q.1.2) ⟨(w64 (left_2 - (a_1.length:Int)),0),hb1⟩ ⟨[],[],_,_,rfl,rfl,⟨.refl _,⟨.refl _,⟨.refl _,trivial⟩⟩⟩,(.refl _)⟩ ?_
   rintro ⟨⟨left_21,i_22⟩,hc1⟩
   have hc1:a3m (a_1.drop i_22) left_21 = some p32:=hc1
   refine (show awp Try.prog false 0 _ (ofL [(0,(.lst 1 (a_1.map (o7 3 l7)))),(1,(.int .i64 left_21)),(5,(.int .i64 (i_22:Int)))]) [] _ from ?_)
   rcases a4u a_1 i_22 with ⟨hie35,hd38⟩ | ⟨hlt33,x_39,hx34,hd38⟩
   ·rw [hd38,a3m.eq_1] at hc1
    have hq37:=dlf hie35
    refine o6<|sr<|l9 (.int .i64 (i_22:Int)) rfl<|l9 (.lst 1 (a_1.map (o7 3 l7))) rfl<|a0w (a1b (enc:=(o7 3 l7)) rfl) fun hl40 => y5 (.bool (decide ((i_22:Int) < (a_1.length:Int)))) rfl rfl rfl<|dk<|y7 rfl hq37<|a2e<|a2d<|a1l<|a2c<|?_;obtain rfl:=os hc1;exact a5g ⟨_,rfl⟩ ⟨[],[],_,_,rfl,rfl,⟨.refl _,trivial⟩,(.refl _)⟩
   ·rw [hd38,a3m.eq_2] at hc1
    have hq37:=dlt hlt33
    refine o6<|sr<|l9 (.int .i64 (i_22:Int)) rfl<|l9 (.lst 1 (a_1.map (o7 3 l7))) rfl<|a0w (a1b (enc:=(o7 3 l7)) rfl) fun hl41 => y5 (.bool (decide ((i_22:Int) < (a_1.length:Int)))) rfl rfl rfl<|dk<|y8 rfl hq37<|a0e<|a0h<|o6<|a2u<|sr<|?_
    obtain ⟨r_42,er43,hc1⟩:=ob hc1
    refine l9 (.lst 1 (a_1.map (o7 3 l7))) rfl<|l9 (.int .i64 (i_22:Int)) rfl<|a0a (a1h (enc:=(o7 3 l7)) rfl rfl hx34)<|y5 (.lst 3 (x_39.map l7)) rfl ⟨rfl,rfl⟩ rfl<|l9 (.int .i64 left_21) rfl<|a0a (a1o (c4u _ _ _ er43) rfl (.refl _) rfl)<|l9 (.int .i64 r_42) rfl<|dk<|sr<|l9 (.int .i64 r_42) rfl<|y5 (.bool (decide (r_42 < 0))) rfl rfl rfl<|dk<|?_
    rcases oi hc1 with ⟨c44,hc1⟩ | ⟨c44,hc1⟩
    ·refine y8 rfl c44<|sr<|l9 (.int .i64 (-1)) rfl<|dk<|a0f<|?_;obtain rfl:=os hc1;obtain rfl:=os hf;exact a0k ⟨trivial,trivial⟩ rfl (.refl _)
    ·refine y7 rfl (bf c44)<|a0e<|a2r<|a0h<|a0y<|l9 (.int .i64 (i_22:Int)) rfl<|y5 (.int .i64 (w64 ((i_22:Int) + 1))) rfl rfl rfl<|l9 (.int .i64 (w64 ((i_22:Int) + 1))) rfl<|a0n<|?_;exact a1j ⟨(r_42,(i_22 + 1)),hc1⟩ (mul hlt33) ⟨[],[],_,_,rfl,rfl,⟨.refl _,⟨.refl _,⟨.of_eq (congrArg (AV.int _) (a1k hlt33 hl41)),trivial⟩⟩⟩,(.refl _)⟩
  ·rintro ⟨left_31,rfl⟩
   refine sr<|l9 (.int .i64 left_31) rfl<|l9 (.int .i64 left_31) rfl<|dk<|a0f<|?_;obtain rfl:=os hf;exact a0k ⟨trivial,trivial⟩ rfl (.refl _)

/- laws.szRow -/
def c34:a0r :=
 (.seq (.reg (tq 2 (.box 2 (.t 0)) (tm 4 (.c (.int .i64 0)) .done)))
 (.seq (.reg (tq 5 (.faddr 1 (.t 2)) (tq 6 (.load 1 false (.t 5)) (tm 7 (.t 1) (tq 8 (.call 72 [(.t 6),(.t 7)]) (tm 1 (.t 8) .done))))))
 (.seq (.seq (.reg (tm 9 (.t 1) (tq 10 (.bin .lss (.t 9) (.c (.int .i64 0))) .done)))
 (.cond (.t 10) (.seq (.reg (tq 4 (.mov (.c (.int .i64 (-1)))) .done))
 .ret)
 .skip))
 (.seq (.reg (tm 11 (.t 1) (tm 4 (.t 11) .done)))
 .ret))))
theorem e5c:a1g Try.prog Try.f34 = some (c34.erase,[.mov (.t 4)],12):=by kernel_rfl
def b0f (a_1:x8) (left_2:Int):Option Int :=
    (a9o a_1.Cells left_2).bind fun r_3 =>
    if (decide (r_3 < 0)) then
    some (-1)
    else
    some r_3
theorem b4l (a_1:x8) (left_2:Int) (r:Int) (hf:b0f a_1 left_2 = some r):a0b Try.prog 34 .flat [(o5 a_1),(.int .i64 left_2)] (.int .i64 r):=by
 refine a0b.of_awp mixed Try.func34 e5c nle ?_;rw [a0q];unfold b0f at hf;unfold c34;refine (show awp Try.prog false 0 _ (ofL [(0,(o5 a_1)),(1,(.int .i64 left_2))]) [] _ from ?_);refine sr<|a0a (a1m (j:=0) (c:=(.agg [(.int .i64 a_1.Id),(.lst 1 (a_1.Cells.map (o7 3 l7)))])) rfl trivial rfl rfl)<|l9 (.int .i64 0) rfl<|dk<|sr<|?_
 obtain ⟨r_3,er4,hf⟩:=ob hf
 refine y5 (.ptr 0 0 1) rfl trivial rfl<|y5 (.lst 1 (a_1.Cells.map (o7 3 l7))) rfl nle rfl<|l9 (.int .i64 left_2) rfl<|a0a (a1o (c2n _ _ _ er4) rfl (.refl _) rfl)<|l9 (.int .i64 r_3) rfl<|dk<|o6<|sr<|l9 (.int .i64 r_3) rfl<|y5 (.bool (decide (r_3 < 0))) rfl rfl rfl<|dk<|?_
 rcases oi hf with ⟨c5,hf⟩ | ⟨c5,hf⟩
 ·refine y8 rfl c5<|sr<|l9 (.int .i64 (-1)) rfl<|dk<|a0f<|?_;obtain rfl:=os hf;exact a0k ⟨trivial,trivial⟩ rfl (.refl _)
 ·refine y7 rfl (bf c5)<|a0e<|a0h<|sr<|l9 (.int .i64 r_3) rfl<|l9 (.int .i64 r_3) rfl<|dk<|a0f<|?_;obtain rfl:=os hf;exact a0k ⟨trivial,trivial⟩ rfl (.refl _)

/- laws.szRowS -/
def c7:a0r :=
 (.seq (.reg (tm 4 (.c (.int .i64 0)) .done))
 (.seq (.reg (tm 6 (.t 1) (tm 7 (.t 0) (tq 8 (.len (.t 7)) (tq 9 (.bin .sub (.t 6) (.t 8)) (tm 1 (.t 9) .done))))))
 (.seq (.seq (.reg (tm 10 (.t 1) (tq 11 (.bin .lss (.t 10) (.c (.int .i64 0))) .done)))
 (.cond (.t 11) (.seq (.reg (tq 4 (.mov (.c (.int .i64 (-1)))) .done))
 .ret)
 .skip))
 (.seq (.seq (.reg (tm 5 (.c (.int .i64 0)) .done))
 (.block 0 (.loop (.seq (.seq (.reg (tm 12 (.t 5) (tm 13 (.t 0) (tq 14 (.len (.t 13)) (tq 15 (.bin .lss (.t 12) (.t 14)) .done)))))
 (.cond (.t 15) .skip
 (.exit 0)))
 (.seq (.block 1 (.seq (.reg (tm 18 (.t 0) (tm 19 (.t 5) (tq 20 (.iaddr 2 (.t 18) (.t 19)) (tq 21 (.load 2 true (.t 20)) (tm 22 (.t 1) (tq 23 (.call 34 [(.t 21),(.t 22)]) (tm 1 (.t 23) .done))))))))
 (.seq (.reg (tm 24 (.t 1) (tq 25 (.bin .lss (.t 24) (.c (.int .i64 0))) .done)))
 (.cond (.t 25) (.seq (.reg (tq 4 (.mov (.c (.int .i64 (-1)))) .done))
 .ret)
 .skip))))
 (.reg (tm 16 (.t 5) (tq 17 (.bin .add (.t 16) (.c (.int .i64 1))) (tm 5 (.t 17) .done)))))))))
 (.cut (.seq (.reg (tm 26 (.t 1) (tm 4 (.t 26) .done)))
 .ret))))))
theorem fc7:a1g Try.prog Try.f7 = some (c7.erase,[.mov (.t 4)],27):=by kernel_rfl
def a4m :List x8 → Int → Option (Fl Int Int)
  | [],left_21 =>
    some (.go left_21)
  | x_39 :: xs,left_21 =>
    (b0f x_39 left_21).bind fun r_42 =>
    if (decide (r_42 < 0)) then
    some (.ret (-1))
    else
    a4m xs r_42 

def b1w (a_1:(List x8)) (left_2:Int):Option Int :=
    if (decide (w64 (left_2 - (a_1.length:Int)) < 0)) then
    some (-1)
    else
    (a4m a_1 (w64 (left_2 - (a_1.length:Int)))).bind fun q => (match q with
    | .ret r => some r
    | .go left_31 =>
    some left_31)
theorem c6a (a_1:(List x8)) (left_2:Int) (r:Int) (hf:b1w a_1 left_2 = some r):a0b Try.prog 7 .flat [(.lst 2 (a_1.map o5)),(.int .i64 left_2)] (.int .i64 r):=by
 refine a0b.of_awp mixed Try.func7 fc7 nle ?_;rw [a0q];unfold b1w at hf;unfold c7;refine (show awp Try.prog false 0 _ (ofL [(0,(.lst 2 (a_1.map o5))),(1,(.int .i64 left_2))]) [] _ from ?_);refine sr<|l9 (.int .i64 0) rfl<|dk<|sr<|l9 (.int .i64 left_2) rfl<|l9 (.lst 2 (a_1.map o5)) rfl<|a0w (a1b (enc:=o5) rfl) fun hl3 => y5 (.int .i64 (w64 (left_2 - (a_1.length:Int)))) rfl rfl rfl<|l9 (.int .i64 (w64 (left_2 - (a_1.length:Int)))) rfl<|dk<|o6<|sr<|l9 (.int .i64 (w64 (left_2 - (a_1.length:Int)))) rfl<|y5 (.bool (decide (w64 (left_2 - (a_1.length:Int)) < 0))) rfl rfl rfl<|?_
 refine dk<|?_
 rcases oi hf with ⟨c4,hf⟩ | ⟨c4,hf⟩
 ·refine y8 rfl c4<|sr<|l9 (.int .i64 (-1)) rfl<|dk<|a0f<|?_;obtain rfl:=os hf;exact a0k ⟨trivial,trivial⟩ rfl (.refl _)
 ·refine y7 rfl (bf c4)<|a0e<|a0h<|o6<|sr<|l9 (.int .i64 0) rfl<|dk<|?_
  obtain ⟨p32,hb1,hf⟩:=ob hf
  refine a2q (X:={q:Int // p32 = .go q}) (fun q => ([(1,(.int .i64 q.1))],[])) ?_ ?_
  ·refine a1d (X:={q:(Int × Nat) // a4m (a_1.drop q.2) q.1 = some p32}) (fun q => ([(0,(.lst 2 (a_1.map o5))),(1,(.int .i64 q.1.1)),(5,(.int .i64 (q.1.2:Int)))],[])) (fun q => a_1.length - q.1.2) ⟨(w64 (left_2 - (a_1.length:Int)),0),hb1⟩ ⟨[],[],_,_,rfl,rfl,⟨.refl _,⟨.refl _,⟨.refl _,trivial⟩⟩⟩,(.refl _)⟩ ?_
   rintro ⟨⟨left_21,i_22⟩,hc1⟩
   have hc1:a4m (a_1.drop i_22) left_21 = some p32:=hc1
   refine (show awp Try.prog false 0 _ (ofL [(0,(.lst 2 (a_1.map o5))),(1,(.int .i64 left_21)),(5,(.int .i64 (i_22:Int)))]) [] _ from ?_)
   rcases a4u a_1 i_22 with ⟨hie35,hd38⟩ | ⟨hlt33,x_39,hx34,hd38⟩
   ·rw [hd38,a4m.eq_1] at hc1
    have hq37:=dlf hie35
    refine o6<|sr<|l9 (.int .i64 (i_22:Int)) rfl<|l9 (.lst 2 (a_1.map o5)) rfl<|a0w (a1b (enc:=o5) rfl) fun hl40 => y5 (.bool (decide ((i_22:Int) < (a_1.length:Int)))) rfl rfl rfl<|dk<|y7 rfl hq37<|a2e<|a2d<|a1l<|a2c<|?_;obtain rfl:=os hc1;exact a5g ⟨_,rfl⟩ ⟨[],[],_,_,rfl,rfl,⟨.refl _,trivial⟩,(.refl _)⟩
   ·rw [hd38,a4m.eq_2] at hc1
    have hq37:=dlt hlt33
    refine o6<|sr<|l9 (.int .i64 (i_22:Int)) rfl<|l9 (.lst 2 (a_1.map o5)) rfl<|a0w (a1b (enc:=o5) rfl) fun hl41 => y5 (.bool (decide ((i_22:Int) < (a_1.length:Int)))) rfl rfl rfl<|dk<|y8 rfl hq37<|a0e<|a0h<|o6<|a2u<|sr<|?_
    obtain ⟨r_42,er43,hc1⟩:=ob hc1
    refine l9 (.lst 2 (a_1.map o5)) rfl<|l9 (.int .i64 (i_22:Int)) rfl<|a0a (a1h (enc:=o5) rfl rfl hx34)<|y5 (o5 x_39) rfl nle rfl<|l9 (.int .i64 left_21) rfl<|a0a (a1o (b4l _ _ _ er43) rfl (.refl _) rfl)<|l9 (.int .i64 r_42) rfl<|dk<|sr<|l9 (.int .i64 r_42) rfl<|y5 (.bool (decide (r_42 < 0))) rfl rfl rfl<|dk<|?_
    rcases oi hc1 with ⟨c44,hc1⟩ | ⟨c44,hc1⟩
    ·refine y8 rfl c44<|sr<|l9 (.int .i64 (-1)) rfl<|dk<|a0f<|?_;obtain rfl:=os hc1;obtain rfl:=os hf;exact a0k ⟨trivial,trivial⟩ rfl (.refl _)
    ·refine y7 rfl (bf c44)<|a0e<|a2r<|a0h<|a0y<|l9 (.int .i64 (i_22:Int)) rfl<|y5 (.int .i64 (w64 ((i_22:Int) + 1))) rfl rfl rfl<|l9 (.int .i64 (w64 ((i_22:Int) + 1))) rfl<|a0n<|?_;exact a1j ⟨(r_42,(i_22 + 1)),hc1⟩ (mul hlt33) ⟨[],[],_,_,rfl,rfl,⟨.refl _,⟨.refl _,⟨.of_eq (congrArg (AV.int _) (a1k hlt33 hl41)),trivial⟩⟩⟩,(.refl _)⟩
  ·rintro ⟨left_31,rfl⟩
   refine sr<|l9 (.int .i64 left_31) rfl<|l9 (.int .i64 left_31) rfl<|dk<|a0f<|?_;obtain rfl:=os hf;exact a0k ⟨trivial,trivial⟩ rfl (.refl _)

/- laws.szRowSS -/
def c55:a0r :=
 (.seq (.reg (tm 4 (.c (.int .i64 0)) .done))
 (.seq (.reg (tm 6 (.t 1) (tm 7 (.t 0) (tq 8 (.len (.t 7)) (tq 9 (.bin .sub (.t 6) (.t 8)) (tm 1 (.t 9) .done))))))
 (.seq (.seq (.reg (tm 10 (.t 1) (tq 11 (.bin .lss (.t 10) (.c (.int .i64 0))) .done)))
 (.cond (.t 11) (.seq (.reg (tq 4 (.mov (.c (.int .i64 (-1)))) .done))
 .ret)
 .skip))
 (.seq (.seq (.reg (tm 5 (.c (.int .i64 0)) .done))
 (.block 0 (.loop (.seq (.seq (.reg (tm 12 (.t 5) (tm 13 (.t 0) (tq 14 (.len (.t 13)) (tq 15 (.bin .lss (.t 12) (.t 14)) .done)))))
 (.cond (.t 15) .skip
 (.exit 0)))
 (.seq (.block 1 (.seq (.reg (tm 18 (.t 0) (tm 19 (.t 5) (tq 20 (.iaddr 1 (.t 18) (.t 19)) (tq 21 (.load 1 false (.t 20)) (tm 22 (.t 1) (tq 23 (.call 7 [(.t 21),(.t 22)]) (tm 1 (.t 23) .done))))))))
 (.seq (.reg (tm 24 (.t 1) (tq 25 (.bin .lss (.t 24) (.c (.int .i64 0))) .done)))
 (.cond (.t 25) (.seq (.reg (tq 4 (.mov (.c (.int .i64 (-1)))) .done))
 .ret)
 .skip))))
 (.reg (tm 16 (.t 5) (tq 17 (.bin .add (.t 16) (.c (.int .i64 1))) (tm 5 (.t 17) .done)))))))))
 (.cut (.seq (.reg (tm 26 (.t 1) (tm 4 (.t 26) .done)))
 .ret))))))
theorem e5d:a1g Try.prog Try.f55 = some (c55.erase,[.mov (.t 4)],27):=by kernel_rfl
def a4b :List (List x8) → Int → Option (Fl Int Int)
  | [],left_21 =>
    some (.go left_21)
  | x_39 :: xs,left_21 =>
    (b1w x_39 left_21).bind fun r_42 =>
    if (decide (r_42 < 0)) then
    some (.ret (-1))
    else
    a4b xs r_42 

def b0v (a_1:(List (List x8))) (left_2:Int):Option Int :=
    if (decide (w64 (left_2 - (a_1.length:Int)) < 0)) then
    some (-1)
    else
    (a4b a_1 (w64 (left_2 - (a_1.length:Int)))).bind fun q => (match q with
    | .ret r => some r
    | .go left_31 =>
    some left_31)
theorem c4v (a_1:(List (List x8))) (left_2:Int) (r:Int) (hf:b0v a_1 left_2 = some r):a0b Try.prog 55 .flat [(.lst 1 (a_1.map (o7 2 o5))),(.int .i64 left_2)] (.int .i64 r):=by
 refine a0b.of_awp mixed Try.func55 e5d nle ?_;rw [a0q];unfold b0v at hf;unfold c55;refine (show awp Try.prog false 0 _ (ofL [(0,(.lst 1 (a_1.map (o7 2 o5)))),(1,(.int .i64 left_2))]) [] _ from ?_);refine sr<|l9 (.int .i64 0) rfl<|dk<|sr<|l9 (.int .i64 left_2) rfl<|l9 (.lst 1 (a_1.map (o7 2 o5))) rfl<|a0w (a1b (enc:=(o7 2 o5)) rfl) fun hl3 => y5 (.int .i64 (w64 (left_2 - (a_1.length:Int)))) rfl rfl rfl<|l9 (.int .i64 (w64 (left_2 - (a_1.length:Int)))) rfl<|dk<|o6<|sr<|l9 (.int .i64 (w64 (left_2 - (a_1.length:Int)))) rfl<|y5 (.bool (decide (w64 (left_2 - (a_1.length:Int)) < 0))) rfl rfl rfl<|?_
 refine dk<|?_
 rcases oi hf with ⟨c4,hf⟩ | ⟨c4,hf⟩
 ·refine y8 rfl c4<|sr<|l9 (.int .i64 (-1)) rfl<|dk<|a0f<|?_;obtain rfl:=os hf;exact a0k ⟨trivial,trivial⟩ rfl (.refl _)
 ·refine y7 rfl (bf c4)<|a0e<|a0h<|o6<|sr<|l9 (.int .i64 0) rfl<|dk<|?_
  obtain ⟨p32,hb1,hf⟩:=ob hf
  refine a2q (X:={q:Int // p32 = .go q}) (fun q => ([(1,(.int .i64 q.1))],[])) ?_ ?_
  ·refine a1d (X:={q:(Int × Nat) // a4b (a_1.drop q.2) q.1 = some p32}) (fun q => ([(0,(.lst 1 (a_1.map (o7 2 o5)))),(1,(.int .i64 q.1.1)),(5,(.int .i64 (q.1.2:Int)))],[])) (fun q => a_1.length - q.1.2) ⟨(w64 (left_2 - (a_1.length:Int)),0),hb1⟩ ⟨[],[],_,_,rfl,rfl,⟨.refl _,⟨.refl _,⟨.refl _,trivial⟩⟩⟩,(.refl _)⟩ ?_
   rintro ⟨⟨left_21,i_22⟩,hc1⟩
   have hc1:a4b (a_1.drop i_22) left_21 = some p32:=hc1
   refine (show awp Try.prog false 0 _ (ofL [(0,(.lst 1 (a_1.map (o7 2 o5)))),(1,(.int .i64 left_21)),(5,(.int .i64 (i_22:Int)))]) [] _ from ?_)
   rcases a4u a_1 i_22 with ⟨hie35,hd38⟩ | ⟨hlt33,x_39,hx34,hd38⟩
   ·rw [hd38,a4b.eq_1] at hc1
    have hq37:=dlf hie35
    refine o6<|sr<|l9 (.int .i64 (i_22:Int)) rfl<|l9 (.lst 1 (a_1.map (o7 2 o5))) rfl<|a0w (a1b (enc:=(o7 2 o5)) rfl) fun hl40 => y5 (.bool (decide ((i_22:Int) < (a_1.length:Int)))) rfl rfl rfl<|dk<|y7 rfl hq37<|a2e<|a2d<|a1l<|a2c<|?_;obtain rfl:=os hc1;exact a5g ⟨_,rfl⟩ ⟨[],[],_,_,rfl,rfl,⟨.refl _,trivial⟩,(.refl _)⟩
   ·rw [hd38,a4b.eq_2] at hc1
    have hq37:=dlt hlt33
    refine o6<|sr<|l9 (.int .i64 (i_22:Int)) rfl<|l9 (.lst 1 (a_1.map (o7 2 o5))) rfl<|a0w (a1b (enc:=(o7 2 o5)) rfl) fun hl41 => y5 (.bool (decide ((i_22:Int) < (a_1.length:Int)))) rfl rfl rfl<|dk<|y8 rfl hq37<|a0e<|a0h<|o6<|a2u<|sr<|?_
    obtain ⟨r_42,er43,hc1⟩:=ob hc1
    refine l9 (.lst 1 (a_1.map (o7 2 o5))) rfl<|l9 (.int .i64 (i_22:Int)) rfl<|a0a (a1h (enc:=(o7 2 o5)) rfl rfl hx34)<|y5 (.lst 2 (x_39.map o5)) rfl ⟨rfl,rfl⟩ rfl<|l9 (.int .i64 left_21) rfl<|a0a (a1o (c6a _ _ _ er43) rfl (.refl _) rfl)<|l9 (.int .i64 r_42) rfl<|dk<|sr<|l9 (.int .i64 r_42) rfl<|y5 (.bool (decide (r_42 < 0))) rfl rfl rfl<|dk<|?_
    rcases oi hc1 with ⟨c44,hc1⟩ | ⟨c44,hc1⟩
    ·refine y8 rfl c44<|sr<|l9 (.int .i64 (-1)) rfl<|dk<|a0f<|?_;obtain rfl:=os hc1;obtain rfl:=os hf;exact a0k ⟨trivial,trivial⟩ rfl (.refl _)
    ·refine y7 rfl (bf c44)<|a0e<|a2r<|a0h<|a0y<|l9 (.int .i64 (i_22:Int)) rfl<|y5 (.int .i64 (w64 ((i_22:Int) + 1))) rfl rfl rfl<|l9 (.int .i64 (w64 ((i_22:Int) + 1))) rfl<|a0n<|?_;exact a1j ⟨(r_42,(i_22 + 1)),hc1⟩ (mul hlt33) ⟨[],[],_,_,rfl,rfl,⟨.refl _,⟨.refl _,⟨.of_eq (congrArg (AV.int _) (a1k hlt33 hl41)),trivial⟩⟩⟩,(.refl _)⟩
  ·rintro ⟨left_31,rfl⟩
   refine sr<|l9 (.int .i64 left_31) rfl<|l9 (.int .i64 left_31) rfl<|dk<|a0f<|?_;obtain rfl:=os hf;exact a0k ⟨trivial,trivial⟩ rfl (.refl _)

/- laws.szStore -/
def c18:a0r :=
 (.seq (.reg (tq 2 (.box 2 (.t 0)) (tm 4 (.c (.int .i64 0)) .done)))
 (.seq (.reg (tq 5 (.faddr 0 (.t 2)) (tq 6 (.load 1 false (.t 5)) (tm 7 (.t 1) (tq 8 (.call 55 [(.t 6),(.t 7)]) (tm 1 (.t 8) .done))))))
 (.seq (.seq (.reg (tm 9 (.t 1) (tq 10 (.bin .lss (.t 9) (.c (.int .i64 0))) .done)))
 (.cond (.t 10) (.seq (.reg (tq 4 (.mov (.c (.int .i64 (-1)))) .done))
 .ret)
 .skip))
 (.seq (.reg (tm 11 (.t 1) (tm 4 (.t 11) .done)))
 .ret))))
theorem e5e:a1g Try.prog Try.f18 = some (c18.erase,[.mov (.t 4)],12):=by kernel_rfl
def b0w (a_1:a0l) (left_2:Int):Option Int :=
    (b0v a_1.Tables left_2).bind fun r_3 =>
    if (decide (r_3 < 0)) then
    some (-1)
    else
    some r_3
theorem c4w (a_1:a0l) (left_2:Int) (r:Int) (hf:b0w a_1 left_2 = some r):a0b Try.prog 18 .flat [(a0z a_1),(.int .i64 left_2)] (.int .i64 r):=by
 refine a0b.of_awp mixed Try.func18 e5e nle ?_;rw [a0q];unfold b0w at hf;unfold c18;refine (show awp Try.prog false 0 _ (ofL [(0,(a0z a_1)),(1,(.int .i64 left_2))]) [] _ from ?_);refine sr<|a0a (a1m (j:=0) (c:=(.agg [(.lst 1 (a_1.Tables.map (o7 2 o5))),(.int .i64 a_1.Next)])) rfl trivial rfl rfl)<|l9 (.int .i64 0) rfl<|dk<|sr<|?_
 obtain ⟨r_3,er4,hf⟩:=ob hf
 refine y5 (.ptr 0 0 0) rfl trivial rfl<|y5 (.lst 1 (a_1.Tables.map (o7 2 o5))) rfl nle rfl<|l9 (.int .i64 left_2) rfl<|a0a (a1o (c4v _ _ _ er4) rfl (.refl _) rfl)<|l9 (.int .i64 r_3) rfl<|dk<|o6<|sr<|l9 (.int .i64 r_3) rfl<|y5 (.bool (decide (r_3 < 0))) rfl rfl rfl<|dk<|?_
 rcases oi hf with ⟨c5,hf⟩ | ⟨c5,hf⟩
 ·refine y8 rfl c5<|sr<|l9 (.int .i64 (-1)) rfl<|dk<|a0f<|?_;obtain rfl:=os hf;exact a0k ⟨trivial,trivial⟩ rfl (.refl _)
 ·refine y7 rfl (bf c5)<|a0e<|a0h<|sr<|l9 (.int .i64 r_3) rfl<|l9 (.int .i64 r_3) rfl<|dk<|a0f<|?_;obtain rfl:=os hf;exact a0k ⟨trivial,trivial⟩ rfl (.refl _)

/- laws.szChange -/
def c56:a0r :=
 (.seq (.reg (tq 2 (.box 6 (.t 0)) (tm 4 (.c (.int .i64 0)) .done)))
 (.seq (.reg (tq 5 (.faddr 2 (.t 2)) (tq 6 (.load 2 true (.t 5)) (tm 7 (.t 1) (tq 8 (.call 34 [(.t 6),(.t 7)]) (tm 1 (.t 8) .done))))))
 (.seq (.seq (.reg (tm 9 (.t 1) (tq 10 (.bin .lss (.t 9) (.c (.int .i64 0))) .done)))
 (.cond (.t 10) (.seq (.reg (tq 4 (.mov (.c (.int .i64 (-1)))) .done))
 .ret)
 .skip))
 (.seq (.reg (tq 11 (.faddr 4 (.t 2)) (tq 12 (.load 2 true (.t 11)) (tm 13 (.t 1) (tq 14 (.call 34 [(.t 12),(.t 13)]) (tm 1 (.t 14) .done))))))
 (.seq (.seq (.reg (tm 15 (.t 1) (tq 16 (.bin .lss (.t 15) (.c (.int .i64 0))) .done)))
 (.cond (.t 16) (.seq (.reg (tq 4 (.mov (.c (.int .i64 (-1)))) .done))
 .ret)
 .skip))
 (.seq (.reg (tm 17 (.t 1) (tm 4 (.t 17) .done)))
 .ret))))))
theorem e5f:a1g Try.prog Try.f56 = some (c56.erase,[.mov (.t 4)],18):=by kernel_rfl
def a9p (a_1:y9) (left_2:Int):Option Int :=
    (b0f a_1.Old left_2).bind fun r_3 =>
    if (decide (r_3 < 0)) then
    some (-1)
    else
    (b0f a_1.New r_3).bind fun r_6 =>
    if (decide (r_6 < 0)) then
    some (-1)
    else
    some r_6
theorem c2o (a_1:y9) (left_2:Int) (r:Int) (hf:a9p a_1 left_2 = some r):a0b Try.prog 56 .flat [(o8 a_1),(.int .i64 left_2)] (.int .i64 r):=by
 refine a0b.of_awp mixed Try.func56 e5f nle ?_;rw [a0q];unfold a9p at hf;unfold c56;refine (show awp Try.prog false 0 _ (ofL [(0,(o8 a_1)),(1,(.int .i64 left_2))]) [] _ from ?_);refine sr<|a0a (a1m (j:=0) (c:=(.agg [(.int .i64 a_1.Table),(.int .i64 a_1.Id),(.int .i64 a_1.Old.Id),(.lst 1 (a_1.Old.Cells.map (o7 3 l7))),(.int .i64 a_1.New.Id),(.lst 1 (a_1.New.Cells.map (o7 3 l7)))])) rfl trivial rfl rfl)<|l9 (.int .i64 0) rfl<|dk<|sr<|?_
 obtain ⟨r_3,er4,hf⟩:=ob hf
 refine y5 (.ptr 0 0 2) rfl trivial rfl<|y5 (.agg [(.int .i64 a_1.Old.Id),(.lst 1 (a_1.Old.Cells.map (o7 3 l7)))]) rfl nle rfl<|l9 (.int .i64 left_2) rfl<|a0a (a1o (b4l _ _ _ er4) rfl (.refl _) rfl)<|l9 (.int .i64 r_3) rfl<|dk<|o6<|sr<|l9 (.int .i64 r_3) rfl<|y5 (.bool (decide (r_3 < 0))) rfl rfl rfl<|dk<|?_
 rcases oi hf with ⟨c5,hf⟩ | ⟨c5,hf⟩
 ·refine y8 rfl c5<|sr<|l9 (.int .i64 (-1)) rfl<|dk<|a0f<|?_;obtain rfl:=os hf;exact a0k ⟨trivial,trivial⟩ rfl (.refl _)
 ·refine y7 rfl (bf c5)<|a0e<|a0h<|sr<|?_
  obtain ⟨r_6,er7,hf⟩:=ob hf
  refine y5 (.ptr 0 0 4) rfl trivial rfl<|y5 (.agg [(.int .i64 a_1.New.Id),(.lst 1 (a_1.New.Cells.map (o7 3 l7)))]) rfl nle rfl<|l9 (.int .i64 r_3) rfl<|a0a (a1o (b4l _ _ _ er7) rfl (.refl _) rfl)<|l9 (.int .i64 r_6) rfl<|dk<|o6<|sr<|l9 (.int .i64 r_6) rfl<|y5 (.bool (decide (r_6 < 0))) rfl rfl rfl<|dk<|?_
  rcases oi hf with ⟨c8,hf⟩ | ⟨c8,hf⟩
  ·refine y8 rfl c8<|sr<|l9 (.int .i64 (-1)) rfl<|dk<|a0f<|?_;obtain rfl:=os hf;exact a0k ⟨trivial,trivial⟩ rfl (.refl _)
  ·refine y7 rfl (bf c8)<|a0e<|a0h<|sr<|l9 (.int .i64 r_6) rfl<|l9 (.int .i64 r_6) rfl<|dk<|a0f<|?_;obtain rfl:=os hf;exact a0k ⟨trivial,trivial⟩ rfl (.refl _)

/- laws.szChangeS -/
def c19:a0r :=
 (.seq (.reg (tm 4 (.c (.int .i64 0)) .done))
 (.seq (.reg (tm 6 (.t 1) (tm 7 (.t 0) (tq 8 (.len (.t 7)) (tq 9 (.bin .sub (.t 6) (.t 8)) (tm 1 (.t 9) .done))))))
 (.seq (.seq (.reg (tm 10 (.t 1) (tq 11 (.bin .lss (.t 10) (.c (.int .i64 0))) .done)))
 (.cond (.t 11) (.seq (.reg (tq 4 (.mov (.c (.int .i64 (-1)))) .done))
 .ret)
 .skip))
 (.seq (.seq (.reg (tm 5 (.c (.int .i64 0)) .done))
 (.block 0 (.loop (.seq (.seq (.reg (tm 12 (.t 5) (tm 13 (.t 0) (tq 14 (.len (.t 13)) (tq 15 (.bin .lss (.t 12) (.t 14)) .done)))))
 (.cond (.t 15) .skip
 (.exit 0)))
 (.seq (.block 1 (.seq (.reg (tm 18 (.t 0) (tm 19 (.t 5) (tq 20 (.iaddr 6 (.t 18) (.t 19)) (tq 21 (.load 6 true (.t 20)) (tm 22 (.t 1) (tq 23 (.call 56 [(.t 21),(.t 22)]) (tm 1 (.t 23) .done))))))))
 (.seq (.reg (tm 24 (.t 1) (tq 25 (.bin .lss (.t 24) (.c (.int .i64 0))) .done)))
 (.cond (.t 25) (.seq (.reg (tq 4 (.mov (.c (.int .i64 (-1)))) .done))
 .ret)
 .skip))))
 (.reg (tm 16 (.t 5) (tq 17 (.bin .add (.t 16) (.c (.int .i64 1))) (tm 5 (.t 17) .done)))))))))
 (.cut (.seq (.reg (tm 26 (.t 1) (tm 4 (.t 26) .done)))
 .ret))))))
theorem e5g:a1g Try.prog Try.f19 = some (c19.erase,[.mov (.t 4)],27):=by kernel_rfl
def a2w :List y9 → Int → Option (Fl Int Int)
  | [],left_21 =>
    some (.go left_21)
  | x_39 :: xs,left_21 =>
    (a9p x_39 left_21).bind fun r_42 =>
    if (decide (r_42 < 0)) then
    some (.ret (-1))
    else
    a2w xs r_42 

def a8g (a_1:(List y9)) (left_2:Int):Option Int :=
    if (decide (w64 (left_2 - (a_1.length:Int)) < 0)) then
    some (-1)
    else
    (a2w a_1 (w64 (left_2 - (a_1.length:Int)))).bind fun q => (match q with
    | .ret r => some r
    | .go left_31 =>
    some left_31)
theorem c1c (a_1:(List y9)) (left_2:Int) (r:Int) (hf:a8g a_1 left_2 = some r):a0b Try.prog 19 .flat [(.lst 6 (a_1.map o8)),(.int .i64 left_2)] (.int .i64 r):=by
 refine a0b.of_awp mixed Try.func19 e5g nle ?_;rw [a0q];unfold a8g at hf;unfold c19;refine (show awp Try.prog false 0 _ (ofL [(0,(.lst 6 (a_1.map o8))),(1,(.int .i64 left_2))]) [] _ from ?_);refine sr<|l9 (.int .i64 0) rfl<|dk<|sr<|l9 (.int .i64 left_2) rfl<|l9 (.lst 6 (a_1.map o8)) rfl<|a0w (a1b (enc:=o8) rfl) fun hl3 => y5 (.int .i64 (w64 (left_2 - (a_1.length:Int)))) rfl rfl rfl<|l9 (.int .i64 (w64 (left_2 - (a_1.length:Int)))) rfl<|dk<|o6<|sr<|l9 (.int .i64 (w64 (left_2 - (a_1.length:Int)))) rfl<|y5 (.bool (decide (w64 (left_2 - (a_1.length:Int)) < 0))) rfl rfl rfl<|?_
 refine dk<|?_
 rcases oi hf with ⟨c4,hf⟩ | ⟨c4,hf⟩
 ·refine y8 rfl c4<|sr<|l9 (.int .i64 (-1)) rfl<|dk<|a0f<|?_;obtain rfl:=os hf;exact a0k ⟨trivial,trivial⟩ rfl (.refl _)
 ·refine y7 rfl (bf c4)<|a0e<|a0h<|o6<|sr<|l9 (.int .i64 0) rfl<|dk<|?_
  obtain ⟨p32,hb1,hf⟩:=ob hf
  refine a2q (X:={q:Int // p32 = .go q}) (fun q => ([(1,(.int .i64 q.1))],[])) ?_ ?_
  ·refine a1d (X:={q:(Int × Nat) // a2w (a_1.drop q.2) q.1 = some p32}) (fun q => ([(0,(.lst 6 (a_1.map o8))),(1,(.int .i64 q.1.1)),(5,(.int .i64 (q.1.2:Int)))],[])) (fun q => a_1.length - q.1.2) ⟨(w64 (left_2 - (a_1.length:Int)),0),hb1⟩ ⟨[],[],_,_,rfl,rfl,⟨.refl _,⟨.refl _,⟨.refl _,trivial⟩⟩⟩,(.refl _)⟩ ?_
   rintro ⟨⟨left_21,i_22⟩,hc1⟩
   have hc1:a2w (a_1.drop i_22) left_21 = some p32:=hc1
   refine (show awp Try.prog false 0 _ (ofL [(0,(.lst 6 (a_1.map o8))),(1,(.int .i64 left_21)),(5,(.int .i64 (i_22:Int)))]) [] _ from ?_)
   rcases a4u a_1 i_22 with ⟨hie35,hd38⟩ | ⟨hlt33,x_39,hx34,hd38⟩
   ·rw [hd38,a2w.eq_1] at hc1
    have hq37:=dlf hie35
    refine o6<|sr<|l9 (.int .i64 (i_22:Int)) rfl<|l9 (.lst 6 (a_1.map o8)) rfl<|a0w (a1b (enc:=o8) rfl) fun hl40 => y5 (.bool (decide ((i_22:Int) < (a_1.length:Int)))) rfl rfl rfl<|dk<|y7 rfl hq37<|a2e<|a2d<|a1l<|a2c<|?_;obtain rfl:=os hc1;exact a5g ⟨_,rfl⟩ ⟨[],[],_,_,rfl,rfl,⟨.refl _,trivial⟩,(.refl _)⟩
   ·rw [hd38,a2w.eq_2] at hc1
    have hq37:=dlt hlt33
    refine o6<|sr<|l9 (.int .i64 (i_22:Int)) rfl<|l9 (.lst 6 (a_1.map o8)) rfl<|a0w (a1b (enc:=o8) rfl) fun hl41 => y5 (.bool (decide ((i_22:Int) < (a_1.length:Int)))) rfl rfl rfl<|dk<|y8 rfl hq37<|a0e<|a0h<|o6<|a2u<|sr<|?_
    obtain ⟨r_42,er43,hc1⟩:=ob hc1
    refine l9 (.lst 6 (a_1.map o8)) rfl<|l9 (.int .i64 (i_22:Int)) rfl<|a0a (a1h (enc:=o8) rfl rfl hx34)<|y5 (o8 x_39) rfl nle rfl<|l9 (.int .i64 left_21) rfl<|a0a (a1o (c2o _ _ _ er43) rfl (.refl _) rfl)<|l9 (.int .i64 r_42) rfl<|dk<|sr<|l9 (.int .i64 r_42) rfl<|y5 (.bool (decide (r_42 < 0))) rfl rfl rfl<|dk<|?_
    rcases oi hc1 with ⟨c44,hc1⟩ | ⟨c44,hc1⟩
    ·refine y8 rfl c44<|sr<|l9 (.int .i64 (-1)) rfl<|dk<|a0f<|?_;obtain rfl:=os hc1;obtain rfl:=os hf;exact a0k ⟨trivial,trivial⟩ rfl (.refl _)
    ·refine y7 rfl (bf c44)<|a0e<|a2r<|a0h<|a0y<|l9 (.int .i64 (i_22:Int)) rfl<|y5 (.int .i64 (w64 ((i_22:Int) + 1))) rfl rfl rfl<|l9 (.int .i64 (w64 ((i_22:Int) + 1))) rfl<|a0n<|?_;exact a1j ⟨(r_42,(i_22 + 1)),hc1⟩ (mul hlt33) ⟨[],[],_,_,rfl,rfl,⟨.refl _,⟨.refl _,⟨.of_eq (congrArg (AV.int _) (a1k hlt33 hl41)),trivial⟩⟩⟩,(.refl _)⟩
  ·rintro ⟨left_31,rfl⟩
   refine sr<|l9 (.int .i64 left_31) rfl<|l9 (.int .i64 left_31) rfl<|dk<|a0f<|?_;obtain rfl:=os hf;exact a0k ⟨trivial,trivial⟩ rfl (.refl _)

/- laws.toAtom -/
def e4c:a0r :=
 (.seq (.reg (tq 1 (.box 3 (.t 0)) (tq 2 (.box 3 (.c (.agg [(.int .i64 0),(.int .i64 0),(.str [])]))) .done)))
 (.seq (.reg (tq 3 (.box 3 (.c (.agg [(.int .i64 0),(.int .i64 0),(.str [])]))) .done))
 (.seq (.reg (tq 4 (.faddr 0 (.t 1)) (tq 5 (.load 1 false (.t 4)) (tq 6 (.faddr 0 (.t 3)) (.q ⟨none,none,.store 1 (.t 6) (.t 5)⟩
 .done)))))
 (.seq (.reg (tq 7 (.faddr 1 (.t 1)) (tq 8 (.load 1 false (.t 7)) (tq 9 (.faddr 1 (.t 3)) (.q ⟨none,none,.store 1 (.t 9) (.t 8)⟩
 .done)))))
 (.seq (.reg (tq 10 (.faddr 2 (.t 1)) (tq 11 (.load 1 false (.t 10)) (tq 12 (.faddr 2 (.t 3)) (.q ⟨none,none,.store 1 (.t 12) (.t 11)⟩
 .done)))))
 (.seq (.reg (tq 13 (.load 3 true (.t 3)) (.q ⟨none,none,.store 3 (.t 2) (.t 13)⟩
 .done)))
 .ret))))))
theorem e4d:a1g Try.prog Try.f111 = some (e4c.erase,[.load 3 true (.t 2)],14):=by kernel_rfl
def b1x (a_1:a0c):Option a0c :=
    some a_1
theorem c6b (a_1:a0c) (r:a0c) (hf:b1x a_1 = some r):a0b Try.prog 111 .flat [(l7 a_1)] (l7 r):=by
 refine a0b.of_awp mixed Try.func111 e4d nle ?_;rw [a0q];unfold b1x at hf;unfold e4c;refine (show awp Try.prog false 0 _ (ofL [(0,(l7 a_1))]) [] _ from ?_);refine sr<|a0a (a1m (j:=0) (c:=(.agg [(.int .i64 a_1.Kind),(.int .i64 a_1.N),(.str a_1.T)])) rfl trivial rfl rfl)<|a0a (a1m (j:=1) (c:=(.agg [(.int .i64 0),(.int .i64 0),(.str [])])) rfl trivial rfl rfl)<|dk<|sr<|a0a (a1m (j:=2) (c:=(.agg [(.int .i64 0),(.int .i64 0),(.str [])])) rfl trivial rfl rfl)<|dk<|sr<|y5 (.ptr 0 0 0) rfl trivial rfl<|y5 (.int .i64 a_1.Kind) rfl nle rfl<|y5 (.ptr 2 0 0) rfl trivial rfl<|a1p (a0i (v:=(.int .i64 a_1.Kind)) (y':=(.agg [(.int .i64 a_1.Kind),(.int .i64 0),(.str [])])) rfl rfl rfl trivial ⟨rfl,nle⟩ ⟨⟨rfl,trivial⟩,trivial⟩ rfl)<|?_
 refine dk<|sr<|y5 (.ptr 0 0 1) rfl trivial rfl<|y5 (.int .i64 a_1.N) rfl nle rfl<|y5 (.ptr 2 0 1) rfl trivial rfl<|a1p (a0i (v:=(.int .i64 a_1.N)) (y':=(.agg [(.int .i64 a_1.Kind),(.int .i64 a_1.N),(.str [])])) rfl rfl rfl trivial ⟨rfl,nle⟩ ⟨⟨rfl,trivial⟩,trivial⟩ rfl)<|dk<|sr<|y5 (.ptr 0 0 2) rfl trivial rfl<|y5 (.str a_1.T) rfl nle rfl<|y5 (.ptr 2 0 2) rfl trivial rfl<|a1p (a0i (v:=(.str a_1.T)) (y':=(.agg [(.int .i64 a_1.Kind),(.int .i64 a_1.N),(.str a_1.T)])) rfl rfl rfl trivial ⟨rfl,nle⟩ ⟨⟨rfl,trivial⟩,trivial⟩ rfl)<|dk<|sr<|y5 (.agg [(.int .i64 a_1.Kind),(.int .i64 a_1.N),(.str a_1.T)]) rfl nle rfl<|?_
 refine a1p (a0i (v:=(.agg [(.int .i64 a_1.Kind),(.int .i64 a_1.N),(.str a_1.T)])) (y':=(.agg [(.int .i64 a_1.Kind),(.int .i64 a_1.N),(.str a_1.T)])) rfl rfl rfl trivial ⟨rfl,nle⟩ ⟨⟨rfl,trivial⟩,⟨⟨rfl,trivial⟩,⟨⟨rfl,trivial⟩,trivial⟩⟩⟩ rfl)<|dk<|a0f<|?_;obtain rfl:=os hf;exact a0k ⟨nle,trivial⟩ rfl (.refl _)

/- laws.toAtomS -/
def c96:a0r :=
 (.seq (.reg (tm 2 (.c .nil) .done))
 (.seq (.reg (tm 5 (.t 0) (tq 6 (.len (.t 5)) (tq 7 (.mkslice 3 32 (.agg [(.int .i64 0),(.int .i64 0),(.str [])]) (.t 6) (.t 6)) (tm 3 (.t 7) .done)))))
 (.seq (.seq (.reg (tm 4 (.c (.int .i64 0)) .done))
 (.block 0 (.loop (.seq (.seq (.reg (tm 8 (.t 4) (tm 9 (.t 0) (tq 10 (.len (.t 9)) (tq 11 (.bin .lss (.t 8) (.t 10)) .done)))))
 (.cond (.t 11) .skip
 (.exit 0)))
 (.seq (.block 1 (.reg (tm 14 (.t 3) (tm 15 (.t 4) (tm 16 (.t 0) (tm 17 (.t 4) (tq 18 (.iaddr 3 (.t 16) (.t 17)) (tq 19 (.load 3 true (.t 18)) (tq 20 (.call 111 [(.t 19)]) (tq 21 (.iaddr 3 (.t 14) (.t 15)) (.q ⟨none,none,.store 3 (.t 21) (.t 20)⟩
 .done)))))))))))
 (.reg (tm 12 (.t 4) (tq 13 (.bin .add (.t 12) (.c (.int .i64 1))) (tm 4 (.t 13) .done)))))))))
 (.cut (.seq (.reg (tm 22 (.t 3) (tm 2 (.t 22) .done)))
 .ret)))))
theorem e5h:a1g Try.prog Try.f96 = some (c96.erase,[.mov (.t 2)],23):=by kernel_rfl
def a4c :List a0c → Nat → (List a0c) → Option (List a0c)
  | [],i_24,out_25 =>
    some out_25
  | x_44 :: xs,i_24,out_25 =>
    (b1x x_44).bind fun r_47 =>
    if i_24 < out_25.length then
    (out_25[i_24]?).bind fun x_50 =>
    a4c xs (i_24 + 1) (out_25.set i_24 r_47)
    else none

def b0x (a_1:(List a0c)):Option (List a0c) :=
    if (a_1.length:Int) ≤ 2 ^ 30 then
    (a4c a_1 0 (List.replicate a_1.length (⟨0,0,[]⟩:a0c))).bind fun out_36 =>
    some out_36
    else none
theorem c4x (a_1:(List a0c)) (r:(List a0c)) (hf:b0x a_1 = some r):a0b Try.prog 96 .fresh [(.lst 3 (a_1.map l7))] (.lst 3 (r.map l7)):=by
 refine a0b.of_awp mixed Try.func96 e5h nle ?_;rw [a0q];unfold b0x at hf;unfold c96;refine (show awp Try.prog true 0 _ (ofL [(0,(.lst 3 (a_1.map l7)))]) [] _ from ?_);refine sr<|l9 .nil rfl<|dk<|sr<|?_
 obtain ⟨g3,hf⟩:=og hf
 refine l9 (.lst 3 (a_1.map l7)) rfl<|a0w (a1b (enc:=l7) rfl) fun hl2 => a0a (b3u (j:=0) (enc:=l7) (m:=a_1.length) (⟨0,0,[]⟩:a0c) (.refl _) rfl rfl (Int.le_refl _) g3 rfl)<|l9 (.own 0 0 a_1.length) rfl<|dk<|o6<|sr<|l9 (.int .i64 0) rfl<|dk<|?_
 obtain ⟨out_36,hb1,hf⟩:=ob hf
 refine a1v ([(3,(.own 0 0 out_36.length))],[.row 3 (out_36.map l7)]) ?_ ?_
 ·refine a1d (X:={q:(Nat × (List a0c)) // a4c (a_1.drop q.1) q.1 q.2 = some out_36}) (fun q => ([(0,(.lst 3 (a_1.map l7))),(3,(.own 0 0 q.1.2.length)),(4,(.int .i64 (q.1.1:Int)))],[.row 3 (q.1.2.map l7)])) (fun q => a_1.length - q.1.1) ⟨(0,List.replicate a_1.length (⟨0,0,[]⟩:a0c)),hb1⟩ ⟨[],[0],_,_,rfl,rfl,⟨.refl _,⟨.of_eq (congrArg (AV.own _ 0) (by simp)),⟨.refl _,trivial⟩⟩⟩,(.refl _)⟩ ?_
  rintro ⟨⟨i_24,out_25⟩,hc1⟩
  have hc1:a4c (a_1.drop i_24) i_24 out_25 = some out_36:=hc1
  refine (show awp Try.prog true 0 _ (ofL [(0,(.lst 3 (a_1.map l7))),(3,(.own 0 0 out_25.length)),(4,(.int .i64 (i_24:Int)))]) [.row 3 (out_25.map l7)] _ from ?_)
  rcases a4u a_1 i_24 with ⟨hie40,hd43⟩ | ⟨hlt38,x_44,hx39,hd43⟩
  ·rw [hd43,a4c.eq_1] at hc1
   have hq42:=dlf hie40
   refine o6<|sr<|l9 (.int .i64 (i_24:Int)) rfl<|l9 (.lst 3 (a_1.map l7)) rfl<|a0w (a1b (enc:=l7) rfl) fun hl45 => y5 (.bool (decide ((i_24:Int) < (a_1.length:Int)))) rfl rfl rfl<|dk<|y7 rfl hq42<|a2e<|a2d<|a1l<|a2c<|?_;obtain rfl:=os hc1;exact ⟨[],[0],_,_,rfl,rfl,⟨.refl _,trivial⟩,(.refl _)⟩
  ·rw [hd43,a4c.eq_2] at hc1
   have hq42:=dlt hlt38
   refine o6<|sr<|l9 (.int .i64 (i_24:Int)) rfl<|l9 (.lst 3 (a_1.map l7)) rfl<|a0w (a1b (enc:=l7) rfl) fun hl46 => y5 (.bool (decide ((i_24:Int) < (a_1.length:Int)))) rfl rfl rfl<|dk<|y8 rfl hq42<|a0e<|a0h<|o6<|a2u<|a0y<|?_
   obtain ⟨r_47,er48,hc1⟩:=ob hc1
   obtain ⟨g49,hc1⟩:=og hc1
   obtain ⟨x_50,ex51,hc1⟩:=ob hc1
   refine l9 (.own 0 0 out_25.length) rfl<|l9 (.int .i64 (i_24:Int)) rfl<|l9 (.lst 3 (a_1.map l7)) rfl<|l9 (.int .i64 (i_24:Int)) rfl<|a0a (a1h (enc:=l7) rfl rfl hx39)<|y5 (l7 x_44) rfl nle rfl<|a0a (a1o (c6b _ _ er48) rfl (.refl _) rfl)<|a0a (b0l rfl rfl g49 rfl rfl)<|?_;refine a1p (a4j (v':=(l7 r_47)) (e':=r_47) rfl rfl ex51 rfl rfl rfl (by decide) (fun _ => by decide) ⟨rfl,nle⟩ (.refl _) rfl) ?_;refine a0n<|a2r<|a0h<|a0y<|l9 (.int .i64 (i_24:Int)) rfl<|y5 (.int .i64 (w64 ((i_24:Int) + 1))) rfl rfl rfl<|l9 (.int .i64 (w64 ((i_24:Int) + 1))) rfl<|a0n<|?_;exact a1j ⟨((i_24 + 1),out_25.set i_24 r_47),hc1⟩ (mul hlt38) ⟨[],[0],_,_,rfl,rfl,⟨.refl _,⟨.of_eq (congrArg (AV.own _ 0) (by simp)),⟨.of_eq (congrArg (AV.int _) (a1k hlt38 hl46)),trivial⟩⟩⟩,(.refl _)⟩
 ·refine sr<|l9 (.own 0 0 out_36.length) rfl<|l9 (.own 0 0 out_36.length) rfl<|dk<|a0f<|?_;obtain rfl:=os hf;exact a5e ⟨trivial,trivial⟩ rfl (by decide) (.of_eq (congrArg (AV.lst _) (tk (enc:=l7) out_36)))

/- laws.toAtomSS -/
def c75:a0r :=
 (.seq (.reg (tm 2 (.c .nil) .done))
 (.seq (.reg (tm 5 (.t 0) (tq 6 (.len (.t 5)) (tq 7 (.mkslice 1 24 .nil (.t 6) (.t 6)) (tm 3 (.t 7) .done)))))
 (.seq (.seq (.reg (tm 4 (.c (.int .i64 0)) .done))
 (.block 0 (.loop (.seq (.seq (.reg (tm 8 (.t 4) (tm 9 (.t 0) (tq 10 (.len (.t 9)) (tq 11 (.bin .lss (.t 8) (.t 10)) .done)))))
 (.cond (.t 11) .skip
 (.exit 0)))
 (.seq (.block 1 (.reg (tm 14 (.t 3) (tm 15 (.t 4) (tm 16 (.t 0) (tm 17 (.t 4) (tq 18 (.iaddr 1 (.t 16) (.t 17)) (tq 19 (.load 1 false (.t 18)) (tq 20 (.call 96 [(.t 19)]) (tq 21 (.iaddr 1 (.t 14) (.t 15)) (.q ⟨none,none,.store 1 (.t 21) (.t 20)⟩
 .done)))))))))))
 (.reg (tm 12 (.t 4) (tq 13 (.bin .add (.t 12) (.c (.int .i64 1))) (tm 4 (.t 13) .done)))))))))
 (.cut (.seq (.reg (tm 22 (.t 3) (tm 2 (.t 22) .done)))
 .ret)))))
theorem e5i:a1g Try.prog Try.f75 = some (c75.erase,[.mov (.t 2)],23):=by kernel_rfl
def a3n :List (List a0c) → Nat → (List (List a0c)) → Option (List (List a0c))
  | [],i_24,out_25 =>
    some out_25
  | x_44 :: xs,i_24,out_25 =>
    (b0x x_44).bind fun r_47 =>
    if i_24 < out_25.length then
    (out_25[i_24]?).bind fun x_50 =>
    a3n xs (i_24 + 1) (out_25.set i_24 r_47)
    else none

def a9q (a_1:(List (List a0c))):Option (List (List a0c)) :=
    if (a_1.length:Int) ≤ 2 ^ 30 then
    (a3n a_1 0 (List.replicate a_1.length [])).bind fun out_36 =>
    some out_36
    else none
theorem c2p (a_1:(List (List a0c))) (r:(List (List a0c))) (hf:a9q a_1 = some r):a0b Try.prog 75 .fresh [(.lst 1 (a_1.map (o7 3 l7)))] (.lst 1 (r.map (o7 3 l7))):=by
 refine a0b.of_awp mixed Try.func75 e5i nle ?_;rw [a0q];unfold a9q at hf;unfold c75;refine (show awp Try.prog true 0 _ (ofL [(0,(.lst 1 (a_1.map (o7 3 l7))))]) [] _ from ?_);refine sr<|l9 .nil rfl<|dk<|sr<|?_
 obtain ⟨g3,hf⟩:=og hf
 refine l9 (.lst 1 (a_1.map (o7 3 l7))) rfl<|a0w (a1b (enc:=(o7 3 l7)) rfl) fun hl2 => a0a (b3u (j:=0) (enc:=(o7 3 l7)) (m:=a_1.length) [] (.nil _) rfl rfl (Int.le_refl _) g3 rfl)<|l9 (.own 0 0 a_1.length) rfl<|dk<|o6<|sr<|l9 (.int .i64 0) rfl<|dk<|?_
 obtain ⟨out_36,hb1,hf⟩:=ob hf
 refine a1v ([(3,(.own 0 0 out_36.length))],[.row 1 (out_36.map (o7 3 l7))]) ?_ ?_
 ·refine a1d (X:={q:(Nat × (List (List a0c))) // a3n (a_1.drop q.1) q.1 q.2 = some out_36}) (fun q => ([(0,(.lst 1 (a_1.map (o7 3 l7)))),(3,(.own 0 0 q.1.2.length)),(4,(.int .i64 (q.1.1:Int)))],[.row 1 (q.1.2.map (o7 3 l7))])) (fun q => a_1.length - q.1.1) ⟨(0,List.replicate a_1.length []),hb1⟩ ⟨[],[0],_,_,rfl,rfl,⟨.refl _,⟨.of_eq (congrArg (AV.own _ 0) (by simp)),⟨.refl _,trivial⟩⟩⟩,(.refl _)⟩ ?_
  rintro ⟨⟨i_24,out_25⟩,hc1⟩
  have hc1:a3n (a_1.drop i_24) i_24 out_25 = some out_36:=hc1
  refine (show awp Try.prog true 0 _ (ofL [(0,(.lst 1 (a_1.map (o7 3 l7)))),(3,(.own 0 0 out_25.length)),(4,(.int .i64 (i_24:Int)))]) [.row 1 (out_25.map (o7 3 l7))] _ from ?_)
  rcases a4u a_1 i_24 with ⟨hie40,hd43⟩ | ⟨hlt38,x_44,hx39,hd43⟩
  ·rw [hd43,a3n.eq_1] at hc1
   have hq42:=dlf hie40
   refine o6<|sr<|l9 (.int .i64 (i_24:Int)) rfl<|l9 (.lst 1 (a_1.map (o7 3 l7))) rfl<|a0w (a1b (enc:=(o7 3 l7)) rfl) fun hl45 => y5 (.bool (decide ((i_24:Int) < (a_1.length:Int)))) rfl rfl rfl<|dk<|y7 rfl hq42<|a2e<|a2d<|a1l<|a2c<|?_;obtain rfl:=os hc1;exact ⟨[],[0],_,_,rfl,rfl,⟨.refl _,trivial⟩,(.refl _)⟩
  ·rw [hd43,a3n.eq_2] at hc1
   have hq42:=dlt hlt38
   refine o6<|sr<|l9 (.int .i64 (i_24:Int)) rfl<|l9 (.lst 1 (a_1.map (o7 3 l7))) rfl<|a0w (a1b (enc:=(o7 3 l7)) rfl) fun hl46 => y5 (.bool (decide ((i_24:Int) < (a_1.length:Int)))) rfl rfl rfl<|dk<|y8 rfl hq42<|a0e<|a0h<|o6<|a2u<|a0y<|?_
   obtain ⟨r_47,er48,hc1⟩:=ob hc1
   obtain ⟨g49,hc1⟩:=og hc1
   obtain ⟨x_50,ex51,hc1⟩:=ob hc1
   refine l9 (.own 0 0 out_25.length) rfl<|l9 (.int .i64 (i_24:Int)) rfl<|l9 (.lst 1 (a_1.map (o7 3 l7))) rfl<|l9 (.int .i64 (i_24:Int)) rfl<|a0a (a1h (enc:=(o7 3 l7)) rfl rfl hx39)<|y5 (.lst 3 (x_44.map l7)) rfl ⟨rfl,rfl⟩ rfl<|a0a (a3j (v:=(.own 1 0 r_47.length)) (h':=[.row 3 (r_47.map l7)]) (c4x _ _ er48) rfl (.refl _) (by simp only [a1r,a1q,List.length_map,List.nil_append,List.append_nil,List.cons_append];rfl))<|a0a (b0l rfl rfl g49 rfl rfl)<|?_
   refine a1p (a4j (v':=(.lst 3 (r_47.map l7))) (e':=r_47) rfl rfl ex51 rfl rfl (by first | (simp only [tk,tko,List.take_length];done) | rfl | simp) (by decide) (fun _ => by decide) ⟨rfl,rfl,rfl⟩ (.refl _) rfl) ?_
   refine a0n<|a2r<|a0h<|a0y<|l9 (.int .i64 (i_24:Int)) rfl<|y5 (.int .i64 (w64 ((i_24:Int) + 1))) rfl rfl rfl<|l9 (.int .i64 (w64 ((i_24:Int) + 1))) rfl<|a0n<|?_;exact a1j ⟨((i_24 + 1),out_25.set i_24 r_47),hc1⟩ (mul hlt38) ⟨[],[0],_,_,rfl,rfl,⟨.refl _,⟨.of_eq (congrArg (AV.own _ 0) (by simp)),⟨.of_eq (congrArg (AV.int _) (a1k hlt38 hl46)),trivial⟩⟩⟩,(.refl _)⟩
 ·refine sr<|l9 (.own 0 0 out_36.length) rfl<|l9 (.own 0 0 out_36.length) rfl<|dk<|a0f<|?_;obtain rfl:=os hf;exact a5e ⟨trivial,trivial⟩ rfl (by decide) (.of_eq (congrArg (AV.lst _) (tk (enc:=(o7 3 l7)) out_36)))

/- laws.toRow -/
def c44:a0r :=
 (.seq (.reg (tq 1 (.box 2 (.t 0)) (tq 2 (.box 2 (.c (.agg [(.int .i64 0),.nil]))) .done)))
 (.seq (.reg (tq 3 (.box 2 (.c (.agg [(.int .i64 0),.nil]))) .done))
 (.seq (.reg (tq 4 (.faddr 0 (.t 1)) (tq 5 (.load 1 false (.t 4)) (tq 6 (.faddr 0 (.t 3)) (.q ⟨none,none,.store 1 (.t 6) (.t 5)⟩
 .done)))))
 (.seq (.reg (tq 7 (.faddr 1 (.t 1)) (tq 8 (.load 1 false (.t 7)) (tq 9 (.call 75 [(.t 8)]) (tq 10 (.faddr 1 (.t 3)) (.q ⟨none,none,.store 1 (.t 10) (.t 9)⟩
 .done))))))
 (.seq (.reg (tq 11 (.load 2 true (.t 3)) (.q ⟨none,none,.store 2 (.t 2) (.t 11)⟩
 .done)))
 .ret)))))
theorem e5j:a1g Try.prog Try.f44 = some (c44.erase,[.load 2 true (.t 2)],12):=by kernel_rfl
def b0g (a_1:x8):Option x8 :=
    (a9q a_1.Cells).bind fun r_2 =>
    some (⟨a_1.Id,r_2⟩:x8)
theorem b4m (a_1:x8) (r:x8) (hf:b0g a_1 = some r):a0b Try.prog 44 .fresh [(o5 a_1)] (o5 r):=by
 refine a0b.of_awp mixed Try.func44 e5j nle ?_;rw [a0q];unfold b0g at hf;unfold c44;refine (show awp Try.prog true 0 _ (ofL [(0,(o5 a_1))]) [] _ from ?_);refine sr<|a0a (a1m (j:=0) (c:=(.agg [(.int .i64 a_1.Id),(.lst 1 (a_1.Cells.map (o7 3 l7)))])) rfl trivial rfl rfl)<|a0a (a1m (j:=1) (c:=(.agg [(.int .i64 0),.nil])) rfl trivial rfl rfl)<|dk<|sr<|a0a (a1m (j:=2) (c:=(.agg [(.int .i64 0),.nil])) rfl trivial rfl rfl)<|dk<|sr<|y5 (.ptr 0 0 0) rfl trivial rfl<|y5 (.int .i64 a_1.Id) rfl nle rfl<|y5 (.ptr 2 0 0) rfl trivial rfl<|a1p (a0i (v:=(.int .i64 a_1.Id)) (y':=(.agg [(.int .i64 a_1.Id),.nil])) rfl rfl rfl trivial ⟨rfl,nle⟩ ⟨⟨rfl,trivial⟩,trivial⟩ rfl)<|?_
 refine dk<|sr<|?_
 obtain ⟨r_2,er3,hf⟩:=ob hf
 refine y5 (.ptr 0 0 1) rfl trivial rfl<|y5 (.lst 1 (a_1.Cells.map (o7 3 l7))) rfl nle rfl<|a0a (a3j (v:=(.own 3 0 r_2.length)) (h':=[.row 1 (r_2.map (o7 3 l7))]) (c2p _ _ er3) rfl (.refl _) (by simp only [a1r,a1q,List.length_map,List.nil_append,List.append_nil,List.cons_append];rfl))<|y5 (.ptr 2 0 1) rfl trivial rfl<|a1p (a0i (v:=(.own 3 0 r_2.length)) (y':=(.agg [(.int .i64 a_1.Id),(.own 3 0 r_2.length)])) rfl rfl rfl trivial ⟨rfl,nle⟩ ⟨⟨rfl,trivial⟩,trivial⟩ rfl)<|dk<|sr<|y5 (.agg [(.int .i64 a_1.Id),(.own 3 0 r_2.length)]) rfl nle rfl<|a1p (a0i (v:=(.agg [(.int .i64 a_1.Id),(.own 3 0 r_2.length)])) (y':=(.agg [(.int .i64 a_1.Id),(.own 3 0 r_2.length)])) rfl rfl rfl trivial ⟨rfl,nle⟩ ⟨⟨rfl,trivial⟩,⟨⟨rfl,trivial⟩,trivial⟩⟩ rfl)<|?_
 refine dk<|a0f<|?_;obtain rfl:=os hf;exact a5e ⟨nle,trivial⟩ rfl (by decide) (.agg (.cons (.refl _) (.cons (.of_eq (congrArg (AV.lst _) (tk (enc:=(o7 3 l7)) r_2))) .nil)))

/- laws.toRowS -/
def c10:a0r :=
 (.seq (.reg (tm 2 (.c .nil) .done))
 (.seq (.reg (tm 5 (.t 0) (tq 6 (.len (.t 5)) (tq 7 (.mkslice 2 32 (.agg [(.int .i64 0),.nil]) (.t 6) (.t 6)) (tm 3 (.t 7) .done)))))
 (.seq (.seq (.reg (tm 4 (.c (.int .i64 0)) .done))
 (.block 0 (.loop (.seq (.seq (.reg (tm 8 (.t 4) (tm 9 (.t 0) (tq 10 (.len (.t 9)) (tq 11 (.bin .lss (.t 8) (.t 10)) .done)))))
 (.cond (.t 11) .skip
 (.exit 0)))
 (.seq (.block 1 (.reg (tm 14 (.t 3) (tm 15 (.t 4) (tm 16 (.t 0) (tm 17 (.t 4) (tq 18 (.iaddr 2 (.t 16) (.t 17)) (tq 19 (.load 2 true (.t 18)) (tq 20 (.call 44 [(.t 19)]) (tq 21 (.iaddr 2 (.t 14) (.t 15)) (.q ⟨none,none,.store 2 (.t 21) (.t 20)⟩
 .done)))))))))))
 (.reg (tm 12 (.t 4) (tq 13 (.bin .add (.t 12) (.c (.int .i64 1))) (tm 4 (.t 13) .done)))))))))
 (.cut (.seq (.reg (tm 22 (.t 3) (tm 2 (.t 22) .done)))
 .ret)))))
theorem e5k:a1g Try.prog Try.f10 = some (c10.erase,[.mov (.t 2)],23):=by kernel_rfl
def a4n :List x8 → Nat → (List x8) → Option (List x8)
  | [],i_24,out_25 =>
    some out_25
  | x_44 :: xs,i_24,out_25 =>
    (b0g x_44).bind fun r_47 =>
    if i_24 < out_25.length then
    (out_25[i_24]?).bind fun x_50 =>
    a4n xs (i_24 + 1) (out_25.set i_24 r_47)
    else none

def b1y (a_1:(List x8)):Option (List x8) :=
    if (a_1.length:Int) ≤ 2 ^ 30 then
    (a4n a_1 0 (List.replicate a_1.length (⟨0,[]⟩:x8))).bind fun out_36 =>
    some out_36
    else none
theorem c6c (a_1:(List x8)) (r:(List x8)) (hf:b1y a_1 = some r):a0b Try.prog 10 .fresh [(.lst 2 (a_1.map o5))] (.lst 2 (r.map o5)):=by
 refine a0b.of_awp mixed Try.func10 e5k nle ?_;rw [a0q];unfold b1y at hf;unfold c10;refine (show awp Try.prog true 0 _ (ofL [(0,(.lst 2 (a_1.map o5)))]) [] _ from ?_);refine sr<|l9 .nil rfl<|dk<|sr<|?_
 obtain ⟨g3,hf⟩:=og hf
 refine l9 (.lst 2 (a_1.map o5)) rfl<|a0w (a1b (enc:=o5) rfl) fun hl2 => a0a (b3u (j:=0) (enc:=o5) (m:=a_1.length) (⟨0,[]⟩:x8) (.agg (.cons (.refl _) (.cons (.nil _) .nil))) rfl rfl (Int.le_refl _) g3 rfl)<|l9 (.own 0 0 a_1.length) rfl<|dk<|o6<|sr<|l9 (.int .i64 0) rfl<|dk<|?_
 obtain ⟨out_36,hb1,hf⟩:=ob hf
 refine a1v ([(3,(.own 0 0 out_36.length))],[.row 2 (out_36.map o5)]) ?_ ?_
 ·refine a1d (X:={q:(Nat × (List x8)) // a4n (a_1.drop q.1) q.1 q.2 = some out_36}) (fun q => ([(0,(.lst 2 (a_1.map o5))),(3,(.own 0 0 q.1.2.length)),(4,(.int .i64 (q.1.1:Int)))],[.row 2 (q.1.2.map o5)])) (fun q => a_1.length - q.1.1) ⟨(0,List.replicate a_1.length (⟨0,[]⟩:x8)),hb1⟩ ⟨[],[0],_,_,rfl,rfl,⟨.refl _,⟨.of_eq (congrArg (AV.own _ 0) (by simp)),⟨.refl _,trivial⟩⟩⟩,(.refl _)⟩ ?_
  rintro ⟨⟨i_24,out_25⟩,hc1⟩
  have hc1:a4n (a_1.drop i_24) i_24 out_25 = some out_36:=hc1
  refine (show awp Try.prog true 0 _ (ofL [(0,(.lst 2 (a_1.map o5))),(3,(.own 0 0 out_25.length)),(4,(.int .i64 (i_24:Int)))]) [.row 2 (out_25.map o5)] _ from ?_)
  rcases a4u a_1 i_24 with ⟨hie40,hd43⟩ | ⟨hlt38,x_44,hx39,hd43⟩
  ·rw [hd43,a4n.eq_1] at hc1
   have hq42:=dlf hie40
   refine o6<|sr<|l9 (.int .i64 (i_24:Int)) rfl<|l9 (.lst 2 (a_1.map o5)) rfl<|a0w (a1b (enc:=o5) rfl) fun hl45 => y5 (.bool (decide ((i_24:Int) < (a_1.length:Int)))) rfl rfl rfl<|dk<|y7 rfl hq42<|a2e<|a2d<|a1l<|a2c<|?_;obtain rfl:=os hc1;exact ⟨[],[0],_,_,rfl,rfl,⟨.refl _,trivial⟩,(.refl _)⟩
  ·rw [hd43,a4n.eq_2] at hc1
   have hq42:=dlt hlt38
   refine o6<|sr<|l9 (.int .i64 (i_24:Int)) rfl<|l9 (.lst 2 (a_1.map o5)) rfl<|a0w (a1b (enc:=o5) rfl) fun hl46 => y5 (.bool (decide ((i_24:Int) < (a_1.length:Int)))) rfl rfl rfl<|dk<|y8 rfl hq42<|a0e<|a0h<|o6<|a2u<|a0y<|?_
   obtain ⟨r_47,er48,hc1⟩:=ob hc1
   obtain ⟨g49,hc1⟩:=og hc1
   obtain ⟨x_50,ex51,hc1⟩:=ob hc1
   refine l9 (.own 0 0 out_25.length) rfl<|l9 (.int .i64 (i_24:Int)) rfl<|l9 (.lst 2 (a_1.map o5)) rfl<|l9 (.int .i64 (i_24:Int)) rfl<|a0a (a1h (enc:=o5) rfl rfl hx39)<|y5 (o5 x_44) rfl nle rfl<|a0a (a3j (v:=(.agg [(.int .i64 r_47.Id),(.own 1 0 r_47.Cells.length)])) (h':=[.row 1 (r_47.Cells.map (o7 3 l7))]) (b4m _ _ er48) rfl (.refl _) (by simp only [a1r,a1q,List.length_map,a8f,List.nil_append,List.append_nil,List.cons_append];rfl))<|a0a (b0l rfl rfl g49 rfl rfl)<|?_
   refine a1p (a4j (v':=(.agg [(.int .i64 r_47.Id),(.lst 1 (r_47.Cells.map (o7 3 l7)))])) (e':=r_47) rfl rfl ex51 rfl rfl (by first | (simp only [tk,tko,List.take_length];done) | rfl | simp) (by decide) (fun _ => by decide) ⟨rfl,nle⟩ (.refl _) rfl) ?_
   refine a0n<|a2r<|a0h<|a0y<|l9 (.int .i64 (i_24:Int)) rfl<|y5 (.int .i64 (w64 ((i_24:Int) + 1))) rfl rfl rfl<|l9 (.int .i64 (w64 ((i_24:Int) + 1))) rfl<|a0n<|?_;exact a1j ⟨((i_24 + 1),out_25.set i_24 r_47),hc1⟩ (mul hlt38) ⟨[],[0],_,_,rfl,rfl,⟨.refl _,⟨.of_eq (congrArg (AV.own _ 0) (by simp)),⟨.of_eq (congrArg (AV.int _) (a1k hlt38 hl46)),trivial⟩⟩⟩,(.refl _)⟩
 ·refine sr<|l9 (.own 0 0 out_36.length) rfl<|l9 (.own 0 0 out_36.length) rfl<|dk<|a0f<|?_;obtain rfl:=os hf;exact a5e ⟨trivial,trivial⟩ rfl (by decide) (.of_eq (congrArg (AV.lst _) (tk (enc:=o5) out_36)))

/- laws.toRowSS -/
def c59:a0r :=
 (.seq (.reg (tm 2 (.c .nil) .done))
 (.seq (.reg (tm 5 (.t 0) (tq 6 (.len (.t 5)) (tq 7 (.mkslice 1 24 .nil (.t 6) (.t 6)) (tm 3 (.t 7) .done)))))
 (.seq (.seq (.reg (tm 4 (.c (.int .i64 0)) .done))
 (.block 0 (.loop (.seq (.seq (.reg (tm 8 (.t 4) (tm 9 (.t 0) (tq 10 (.len (.t 9)) (tq 11 (.bin .lss (.t 8) (.t 10)) .done)))))
 (.cond (.t 11) .skip
 (.exit 0)))
 (.seq (.block 1 (.reg (tm 14 (.t 3) (tm 15 (.t 4) (tm 16 (.t 0) (tm 17 (.t 4) (tq 18 (.iaddr 1 (.t 16) (.t 17)) (tq 19 (.load 1 false (.t 18)) (tq 20 (.call 10 [(.t 19)]) (tq 21 (.iaddr 1 (.t 14) (.t 15)) (.q ⟨none,none,.store 1 (.t 21) (.t 20)⟩
 .done)))))))))))
 (.reg (tm 12 (.t 4) (tq 13 (.bin .add (.t 12) (.c (.int .i64 1))) (tm 4 (.t 13) .done)))))))))
 (.cut (.seq (.reg (tm 22 (.t 3) (tm 2 (.t 22) .done)))
 .ret)))))
theorem e5l:a1g Try.prog Try.f59 = some (c59.erase,[.mov (.t 2)],23):=by kernel_rfl
def a4d :List (List x8) → Nat → (List (List x8)) → Option (List (List x8))
  | [],i_24,out_25 =>
    some out_25
  | x_44 :: xs,i_24,out_25 =>
    (b1y x_44).bind fun r_47 =>
    if i_24 < out_25.length then
    (out_25[i_24]?).bind fun x_50 =>
    a4d xs (i_24 + 1) (out_25.set i_24 r_47)
    else none

def b0y (a_1:(List (List x8))):Option (List (List x8)) :=
    if (a_1.length:Int) ≤ 2 ^ 30 then
    (a4d a_1 0 (List.replicate a_1.length [])).bind fun out_36 =>
    some out_36
    else none
theorem c4y (a_1:(List (List x8))) (r:(List (List x8))) (hf:b0y a_1 = some r):a0b Try.prog 59 .fresh [(.lst 1 (a_1.map (o7 2 o5)))] (.lst 1 (r.map (o7 2 o5))):=by
 refine a0b.of_awp mixed Try.func59 e5l nle ?_;rw [a0q];unfold b0y at hf;unfold c59;refine (show awp Try.prog true 0 _ (ofL [(0,(.lst 1 (a_1.map (o7 2 o5))))]) [] _ from ?_);refine sr<|l9 .nil rfl<|dk<|sr<|?_
 obtain ⟨g3,hf⟩:=og hf
 refine l9 (.lst 1 (a_1.map (o7 2 o5))) rfl<|a0w (a1b (enc:=(o7 2 o5)) rfl) fun hl2 => a0a (b3u (j:=0) (enc:=(o7 2 o5)) (m:=a_1.length) [] (.nil _) rfl rfl (Int.le_refl _) g3 rfl)<|l9 (.own 0 0 a_1.length) rfl<|dk<|o6<|sr<|l9 (.int .i64 0) rfl<|dk<|?_
 obtain ⟨out_36,hb1,hf⟩:=ob hf
 refine a1v ([(3,(.own 0 0 out_36.length))],[.row 1 (out_36.map (o7 2 o5))]) ?_ ?_
 ·refine a1d (X:={q:(Nat × (List (List x8))) // a4d (a_1.drop q.1) q.1 q.2 = some out_36}) (fun q => ([(0,(.lst 1 (a_1.map (o7 2 o5)))),(3,(.own 0 0 q.1.2.length)),(4,(.int .i64 (q.1.1:Int)))],[.row 1 (q.1.2.map (o7 2 o5))])) (fun q => a_1.length - q.1.1) ⟨(0,List.replicate a_1.length []),hb1⟩ ⟨[],[0],_,_,rfl,rfl,⟨.refl _,⟨.of_eq (congrArg (AV.own _ 0) (by simp)),⟨.refl _,trivial⟩⟩⟩,(.refl _)⟩ ?_
  rintro ⟨⟨i_24,out_25⟩,hc1⟩
  have hc1:a4d (a_1.drop i_24) i_24 out_25 = some out_36:=hc1
  refine (show awp Try.prog true 0 _ (ofL [(0,(.lst 1 (a_1.map (o7 2 o5)))),(3,(.own 0 0 out_25.length)),(4,(.int .i64 (i_24:Int)))]) [.row 1 (out_25.map (o7 2 o5))] _ from ?_)
  rcases a4u a_1 i_24 with ⟨hie40,hd43⟩ | ⟨hlt38,x_44,hx39,hd43⟩
  ·rw [hd43,a4d.eq_1] at hc1
   have hq42:=dlf hie40
   refine o6<|sr<|l9 (.int .i64 (i_24:Int)) rfl<|l9 (.lst 1 (a_1.map (o7 2 o5))) rfl<|a0w (a1b (enc:=(o7 2 o5)) rfl) fun hl45 => y5 (.bool (decide ((i_24:Int) < (a_1.length:Int)))) rfl rfl rfl<|dk<|y7 rfl hq42<|a2e<|a2d<|a1l<|a2c<|?_;obtain rfl:=os hc1;exact ⟨[],[0],_,_,rfl,rfl,⟨.refl _,trivial⟩,(.refl _)⟩
  ·rw [hd43,a4d.eq_2] at hc1
   have hq42:=dlt hlt38
   refine o6<|sr<|l9 (.int .i64 (i_24:Int)) rfl<|l9 (.lst 1 (a_1.map (o7 2 o5))) rfl<|a0w (a1b (enc:=(o7 2 o5)) rfl) fun hl46 => y5 (.bool (decide ((i_24:Int) < (a_1.length:Int)))) rfl rfl rfl<|dk<|y8 rfl hq42<|a0e<|a0h<|o6<|a2u<|a0y<|?_
   obtain ⟨r_47,er48,hc1⟩:=ob hc1
   obtain ⟨g49,hc1⟩:=og hc1
   obtain ⟨x_50,ex51,hc1⟩:=ob hc1
   refine l9 (.own 0 0 out_25.length) rfl<|l9 (.int .i64 (i_24:Int)) rfl<|l9 (.lst 1 (a_1.map (o7 2 o5))) rfl<|l9 (.int .i64 (i_24:Int)) rfl<|a0a (a1h (enc:=(o7 2 o5)) rfl rfl hx39)<|y5 (.lst 2 (x_44.map o5)) rfl ⟨rfl,rfl⟩ rfl<|a0a (a3j (v:=(.own 1 0 r_47.length)) (h':=[.row 2 (r_47.map o5)]) (c6c _ _ er48) rfl (.refl _) (by simp only [a1r,a1q,List.length_map,List.nil_append,List.append_nil,List.cons_append];rfl))<|a0a (b0l rfl rfl g49 rfl rfl)<|?_
   refine a1p (a4j (v':=(.lst 2 (r_47.map o5))) (e':=r_47) rfl rfl ex51 rfl rfl (by first | (simp only [tk,tko,List.take_length];done) | rfl | simp) (by decide) (fun _ => by decide) ⟨rfl,rfl,rfl⟩ (.refl _) rfl) ?_
   refine a0n<|a2r<|a0h<|a0y<|l9 (.int .i64 (i_24:Int)) rfl<|y5 (.int .i64 (w64 ((i_24:Int) + 1))) rfl rfl rfl<|l9 (.int .i64 (w64 ((i_24:Int) + 1))) rfl<|a0n<|?_;exact a1j ⟨((i_24 + 1),out_25.set i_24 r_47),hc1⟩ (mul hlt38) ⟨[],[0],_,_,rfl,rfl,⟨.refl _,⟨.of_eq (congrArg (AV.own _ 0) (by simp)),⟨.of_eq (congrArg (AV.int _) (a1k hlt38 hl46)),trivial⟩⟩⟩,(.refl _)⟩
 ·refine sr<|l9 (.own 0 0 out_36.length) rfl<|l9 (.own 0 0 out_36.length) rfl<|dk<|a0f<|?_;obtain rfl:=os hf;exact a5e ⟨trivial,trivial⟩ rfl (by decide) (.of_eq (congrArg (AV.lst _) (tk (enc:=(o7 2 o5)) out_36)))

/- laws.toStore -/
def c21:a0r :=
 (.seq (.reg (tq 1 (.box 2 (.t 0)) (tq 2 (.box 2 (.c (.agg [.nil,(.int .i64 0)]))) .done)))
 (.seq (.reg (tq 3 (.box 2 (.c (.agg [.nil,(.int .i64 0)]))) .done))
 (.seq (.reg (tq 4 (.faddr 0 (.t 1)) (tq 5 (.load 1 false (.t 4)) (tq 6 (.call 59 [(.t 5)]) (tq 7 (.faddr 0 (.t 3)) (.q ⟨none,none,.store 1 (.t 7) (.t 6)⟩
 .done))))))
 (.seq (.reg (tq 8 (.faddr 1 (.t 1)) (tq 9 (.load 1 false (.t 8)) (tq 10 (.faddr 1 (.t 3)) (.q ⟨none,none,.store 1 (.t 10) (.t 9)⟩
 .done)))))
 (.seq (.reg (tq 11 (.load 2 true (.t 3)) (.q ⟨none,none,.store 2 (.t 2) (.t 11)⟩
 .done)))
 .ret)))))
theorem e5m:a1g Try.prog Try.f21 = some (c21.erase,[.load 2 true (.t 2)],12):=by kernel_rfl
def a6k (a_1:a0l):Option a0l :=
    (b0y a_1.Tables).bind fun r_2 =>
    some (⟨r_2,a_1.Next⟩:a0l)
theorem b0z (a_1:a0l) (r:a0l) (hf:a6k a_1 = some r):a0b Try.prog 21 .fresh [(a0z a_1)] (a0z r):=by
 refine a0b.of_awp mixed Try.func21 e5m nle ?_;rw [a0q];unfold a6k at hf;unfold c21;refine (show awp Try.prog true 0 _ (ofL [(0,(a0z a_1))]) [] _ from ?_);refine sr<|a0a (a1m (j:=0) (c:=(.agg [(.lst 1 (a_1.Tables.map (o7 2 o5))),(.int .i64 a_1.Next)])) rfl trivial rfl rfl)<|a0a (a1m (j:=1) (c:=(.agg [.nil,(.int .i64 0)])) rfl trivial rfl rfl)<|dk<|sr<|a0a (a1m (j:=2) (c:=(.agg [.nil,(.int .i64 0)])) rfl trivial rfl rfl)<|dk<|sr<|?_
 obtain ⟨r_2,er3,hf⟩:=ob hf
 refine y5 (.ptr 0 0 0) rfl trivial rfl<|y5 (.lst 1 (a_1.Tables.map (o7 2 o5))) rfl nle rfl<|a0a (a3j (v:=(.own 3 0 r_2.length)) (h':=[.row 1 (r_2.map (o7 2 o5))]) (c4y _ _ er3) rfl (.refl _) (by simp only [a1r,a1q,List.length_map,List.nil_append,List.append_nil,List.cons_append];rfl))<|y5 (.ptr 2 0 0) rfl trivial rfl<|a1p (a0i (v:=(.own 3 0 r_2.length)) (y':=(.agg [(.own 3 0 r_2.length),(.int .i64 0)])) rfl rfl rfl trivial ⟨rfl,nle⟩ ⟨⟨rfl,trivial⟩,trivial⟩ rfl)<|dk<|sr<|y5 (.ptr 0 0 1) rfl trivial rfl<|y5 (.int .i64 a_1.Next) rfl nle rfl<|y5 (.ptr 2 0 1) rfl trivial rfl<|a1p (a0i (v:=(.int .i64 a_1.Next)) (y':=(.agg [(.own 3 0 r_2.length),(.int .i64 a_1.Next)])) rfl rfl rfl trivial ⟨rfl,nle⟩ ⟨⟨rfl,trivial⟩,trivial⟩ rfl)<|?_
 refine dk<|sr<|y5 (.agg [(.own 3 0 r_2.length),(.int .i64 a_1.Next)]) rfl nle rfl<|a1p (a0i (v:=(.agg [(.own 3 0 r_2.length),(.int .i64 a_1.Next)])) (y':=(.agg [(.own 3 0 r_2.length),(.int .i64 a_1.Next)])) rfl rfl rfl trivial ⟨rfl,nle⟩ ⟨⟨rfl,trivial⟩,⟨⟨rfl,trivial⟩,trivial⟩⟩ rfl)<|dk<|a0f<|?_;obtain rfl:=os hf;exact a5e ⟨nle,trivial⟩ rfl (by decide) (.agg (.cons (.of_eq (congrArg (AV.lst _) (tk (enc:=(o7 2 o5)) r_2))) (.cons (.refl _) .nil)))

/- laws.toChange -/
def c60:a0r :=
 (.seq (.reg (tq 1 (.box 6 (.t 0)) (tq 2 (.box 6 (.c (.agg [(.int .i64 0),(.int .i64 0),(.int .i64 0),.nil,(.int .i64 0),.nil]))) .done)))
 (.seq (.reg (tq 3 (.box 6 (.c (.agg [(.int .i64 0),(.int .i64 0),(.int .i64 0),.nil,(.int .i64 0),.nil]))) .done))
 (.seq (.reg (tq 4 (.faddr 0 (.t 1)) (tq 5 (.load 1 false (.t 4)) (tq 6 (.faddr 0 (.t 3)) (.q ⟨none,none,.store 1 (.t 6) (.t 5)⟩
 .done)))))
 (.seq (.reg (tq 7 (.faddr 1 (.t 1)) (tq 8 (.load 1 false (.t 7)) (tq 9 (.faddr 1 (.t 3)) (.q ⟨none,none,.store 1 (.t 9) (.t 8)⟩
 .done)))))
 (.seq (.reg (tq 10 (.faddr 2 (.t 1)) (tq 11 (.load 2 true (.t 10)) (tq 12 (.call 44 [(.t 11)]) (tq 13 (.faddr 2 (.t 3)) (.q ⟨none,none,.store 2 (.t 13) (.t 12)⟩
 .done))))))
 (.seq (.reg (tq 14 (.faddr 4 (.t 1)) (tq 15 (.load 2 true (.t 14)) (tq 16 (.call 44 [(.t 15)]) (tq 17 (.faddr 4 (.t 3)) (.q ⟨none,none,.store 2 (.t 17) (.t 16)⟩
 .done))))))
 (.seq (.reg (tq 18 (.load 6 true (.t 3)) (.q ⟨none,none,.store 6 (.t 2) (.t 18)⟩
 .done)))
 .ret)))))))
theorem e5n:a1g Try.prog Try.f60 = some (c60.erase,[.load 6 true (.t 2)],19):=by kernel_rfl
def a9r (a_1:y9):Option y9 :=
    (b0g a_1.Old).bind fun r_2 =>
    (b0g a_1.New).bind fun r_4 =>
    some (⟨a_1.Table,a_1.Id,r_2,r_4⟩:y9)
theorem c2r (a_1:y9) (r:y9) (hf:a9r a_1 = some r):a0b Try.prog 60 .fresh [(o8 a_1)] (o8 r):=by
 refine a0b.of_awp mixed Try.func60 e5n nle ?_;rw [a0q];unfold a9r at hf;unfold c60;refine (show awp Try.prog true 0 _ (ofL [(0,(o8 a_1))]) [] _ from ?_);refine sr<|a0a (a1m (j:=0) (c:=(.agg [(.int .i64 a_1.Table),(.int .i64 a_1.Id),(.int .i64 a_1.Old.Id),(.lst 1 (a_1.Old.Cells.map (o7 3 l7))),(.int .i64 a_1.New.Id),(.lst 1 (a_1.New.Cells.map (o7 3 l7)))])) rfl trivial rfl rfl)<|a0a (a1m (j:=1) (c:=(.agg [(.int .i64 0),(.int .i64 0),(.int .i64 0),.nil,(.int .i64 0),.nil])) rfl trivial rfl rfl)<|dk<|sr<|a0a (a1m (j:=2) (c:=(.agg [(.int .i64 0),(.int .i64 0),(.int .i64 0),.nil,(.int .i64 0),.nil])) rfl trivial rfl rfl)<|?_
 refine dk<|sr<|y5 (.ptr 0 0 0) rfl trivial rfl<|y5 (.int .i64 a_1.Table) rfl nle rfl<|y5 (.ptr 2 0 0) rfl trivial rfl<|a1p (a0i (v:=(.int .i64 a_1.Table)) (y':=(.agg [(.int .i64 a_1.Table),(.int .i64 0),(.int .i64 0),.nil,(.int .i64 0),.nil])) rfl rfl rfl trivial ⟨rfl,nle⟩ ⟨⟨rfl,trivial⟩,trivial⟩ rfl)<|dk<|sr<|y5 (.ptr 0 0 1) rfl trivial rfl<|y5 (.int .i64 a_1.Id) rfl nle rfl<|y5 (.ptr 2 0 1) rfl trivial rfl<|a1p (a0i (v:=(.int .i64 a_1.Id)) (y':=(.agg [(.int .i64 a_1.Table),(.int .i64 a_1.Id),(.int .i64 0),.nil,(.int .i64 0),.nil])) rfl rfl rfl trivial ⟨rfl,nle⟩ ⟨⟨rfl,trivial⟩,trivial⟩ rfl)<|?_
 refine dk<|sr<|?_
 obtain ⟨r_2,er3,hf⟩:=ob hf
 refine y5 (.ptr 0 0 2) rfl trivial rfl<|y5 (.agg [(.int .i64 a_1.Old.Id),(.lst 1 (a_1.Old.Cells.map (o7 3 l7)))]) rfl nle rfl<|a0a (a3j (v:=(.agg [(.int .i64 r_2.Id),(.own 3 0 r_2.Cells.length)])) (h':=[.row 1 (r_2.Cells.map (o7 3 l7))]) (b4m _ _ er3) rfl (.refl _) (by simp only [a1r,a1q,List.length_map,a8f,List.nil_append,List.append_nil,List.cons_append];rfl))<|y5 (.ptr 2 0 2) rfl trivial rfl<|a1p (a0i (v:=(.agg [(.int .i64 r_2.Id),(.own 3 0 r_2.Cells.length)])) (y':=(.agg [(.int .i64 a_1.Table),(.int .i64 a_1.Id),(.int .i64 r_2.Id),(.own 3 0 r_2.Cells.length),(.int .i64 0),.nil])) rfl rfl rfl trivial ⟨rfl,nle⟩ ⟨⟨rfl,trivial⟩,⟨⟨rfl,trivial⟩,trivial⟩⟩ rfl)<|?_
 refine dk<|sr<|?_
 obtain ⟨r_4,er5,hf⟩:=ob hf
 refine y5 (.ptr 0 0 4) rfl trivial rfl<|y5 (.agg [(.int .i64 a_1.New.Id),(.lst 1 (a_1.New.Cells.map (o7 3 l7)))]) rfl nle rfl<|a0a (a3j (v:=(.agg [(.int .i64 r_4.Id),(.own 4 0 r_4.Cells.length)])) (h':=[.row 1 (r_4.Cells.map (o7 3 l7))]) (b4m _ _ er5) rfl (.refl _) (by simp only [a1r,a1q,List.length_map,a8f,List.nil_append,List.append_nil,List.cons_append];rfl))<|y5 (.ptr 2 0 4) rfl trivial rfl<|a1p (a0i (v:=(.agg [(.int .i64 r_4.Id),(.own 4 0 r_4.Cells.length)])) (y':=(.agg [(.int .i64 a_1.Table),(.int .i64 a_1.Id),(.int .i64 r_2.Id),(.own 3 0 r_2.Cells.length),(.int .i64 r_4.Id),(.own 4 0 r_4.Cells.length)])) rfl rfl rfl trivial ⟨rfl,nle⟩ ⟨⟨rfl,trivial⟩,⟨⟨rfl,trivial⟩,trivial⟩⟩ rfl)<|?_
 refine dk<|sr<|y5 (.agg [(.int .i64 a_1.Table),(.int .i64 a_1.Id),(.int .i64 r_2.Id),(.own 3 0 r_2.Cells.length),(.int .i64 r_4.Id),(.own 4 0 r_4.Cells.length)]) rfl nle rfl<|a1p (a0i (v:=(.agg [(.int .i64 a_1.Table),(.int .i64 a_1.Id),(.int .i64 r_2.Id),(.own 3 0 r_2.Cells.length),(.int .i64 r_4.Id),(.own 4 0 r_4.Cells.length)])) (y':=(.agg [(.int .i64 a_1.Table),(.int .i64 a_1.Id),(.int .i64 r_2.Id),(.own 3 0 r_2.Cells.length),(.int .i64 r_4.Id),(.own 4 0 r_4.Cells.length)])) rfl rfl rfl trivial ⟨rfl,nle⟩ ⟨⟨rfl,trivial⟩,⟨⟨rfl,trivial⟩,⟨⟨rfl,trivial⟩,⟨⟨rfl,trivial⟩,⟨⟨rfl,trivial⟩,⟨⟨rfl,trivial⟩,trivial⟩⟩⟩⟩⟩⟩ rfl)<|dk<|?_
 refine a0f ?_;obtain rfl:=os hf;exact a5e ⟨nle,trivial⟩ rfl (by decide) (.agg (.cons (.refl _) (.cons (.refl _) (.cons (.refl _) (.cons (.of_eq (congrArg (AV.lst _) (tk (enc:=(o7 3 l7)) r_2.Cells))) (.cons (.refl _) (.cons (.of_eq (congrArg (AV.lst _) (tk (enc:=(o7 3 l7)) r_4.Cells))) .nil)))))))

/- laws.toChangeS -/
def c22:a0r :=
 (.seq (.reg (tm 2 (.c .nil) .done))
 (.seq (.reg (tm 5 (.t 0) (tq 6 (.len (.t 5)) (tq 7 (.mkslice 6 80 (.agg [(.int .i64 0),(.int .i64 0),(.int .i64 0),.nil,(.int .i64 0),.nil]) (.t 6) (.t 6)) (tm 3 (.t 7) .done)))))
 (.seq (.seq (.reg (tm 4 (.c (.int .i64 0)) .done))
 (.block 0 (.loop (.seq (.seq (.reg (tm 8 (.t 4) (tm 9 (.t 0) (tq 10 (.len (.t 9)) (tq 11 (.bin .lss (.t 8) (.t 10)) .done)))))
 (.cond (.t 11) .skip
 (.exit 0)))
 (.seq (.block 1 (.reg (tm 14 (.t 3) (tm 15 (.t 4) (tm 16 (.t 0) (tm 17 (.t 4) (tq 18 (.iaddr 6 (.t 16) (.t 17)) (tq 19 (.load 6 true (.t 18)) (tq 20 (.call 60 [(.t 19)]) (tq 21 (.iaddr 6 (.t 14) (.t 15)) (.q ⟨none,none,.store 6 (.t 21) (.t 20)⟩
 .done)))))))))))
 (.reg (tm 12 (.t 4) (tq 13 (.bin .add (.t 12) (.c (.int .i64 1))) (tm 4 (.t 13) .done)))))))))
 (.cut (.seq (.reg (tm 22 (.t 3) (tm 2 (.t 22) .done)))
 .ret)))))
theorem e5o:a1g Try.prog Try.f22 = some (c22.erase,[.mov (.t 2)],23):=by kernel_rfl
def a2x :List y9 → Nat → (List y9) → Option (List y9)
  | [],i_24,out_25 =>
    some out_25
  | x_44 :: xs,i_24,out_25 =>
    (a9r x_44).bind fun r_47 =>
    if i_24 < out_25.length then
    (out_25[i_24]?).bind fun x_50 =>
    a2x xs (i_24 + 1) (out_25.set i_24 r_47)
    else none

def a5h (a_1:(List y9)):Option (List y9) :=
    if (a_1.length:Int) ≤ 2 ^ 30 then
    (a2x a_1 0 (List.replicate a_1.length (⟨0,0,(⟨0,[]⟩:x8),(⟨0,[]⟩:x8)⟩:y9))).bind fun out_36 =>
    some out_36
    else none
theorem a8w (a_1:(List y9)) (r:(List y9)) (hf:a5h a_1 = some r):a0b Try.prog 22 .fresh [(.lst 6 (a_1.map o8))] (.lst 6 (r.map o8)):=by
 refine a0b.of_awp mixed Try.func22 e5o nle ?_;rw [a0q];unfold a5h at hf;unfold c22;refine (show awp Try.prog true 0 _ (ofL [(0,(.lst 6 (a_1.map o8)))]) [] _ from ?_);refine sr<|l9 .nil rfl<|dk<|sr<|?_
 obtain ⟨g3,hf⟩:=og hf
 refine l9 (.lst 6 (a_1.map o8)) rfl<|a0w (a1b (enc:=o8) rfl) fun hl2 => a0a (b3u (j:=0) (enc:=o8) (m:=a_1.length) (⟨0,0,(⟨0,[]⟩:x8),(⟨0,[]⟩:x8)⟩:y9) (.agg (.cons (.refl _) (.cons (.refl _) (.cons (.refl _) (.cons (.nil _) (.cons (.refl _) (.cons (.nil _) .nil))))))) rfl rfl (Int.le_refl _) g3 rfl)<|l9 (.own 0 0 a_1.length) rfl<|dk<|o6<|sr<|l9 (.int .i64 0) rfl<|dk<|?_
 obtain ⟨out_36,hb1,hf⟩:=ob hf
 refine a1v ([(3,(.own 0 0 out_36.length))],[.row 6 (out_36.map o8)]) ?_ ?_
 ·refine a1d (X:={q:(Nat × (List y9)) // a2x (a_1.drop q.1) q.1 q.2 = some out_36}) (fun q => ([(0,(.lst 6 (a_1.map o8))),(3,(.own 0 0 q.1.2.length)),(4,(.int .i64 (q.1.1:Int)))],[.row 6 (q.1.2.map o8)])) (fun q => a_1.length - q.1.1) ⟨(0,List.replicate a_1.length (⟨0,0,(⟨0,[]⟩:x8),(⟨0,[]⟩:x8)⟩:y9)),hb1⟩ ⟨[],[0],_,_,rfl,rfl,⟨.refl _,⟨.of_eq (congrArg (AV.own _ 0) (by simp)),⟨.refl _,trivial⟩⟩⟩,(.refl _)⟩ ?_
  rintro ⟨⟨i_24,out_25⟩,hc1⟩
  have hc1:a2x (a_1.drop i_24) i_24 out_25 = some out_36:=hc1
  refine (show awp Try.prog true 0 _ (ofL [(0,(.lst 6 (a_1.map o8))),(3,(.own 0 0 out_25.length)),(4,(.int .i64 (i_24:Int)))]) [.row 6 (out_25.map o8)] _ from ?_)
  rcases a4u a_1 i_24 with ⟨hie40,hd43⟩ | ⟨hlt38,x_44,hx39,hd43⟩
  ·rw [hd43,a2x.eq_1] at hc1
   have hq42:=dlf hie40
   refine o6<|sr<|l9 (.int .i64 (i_24:Int)) rfl<|l9 (.lst 6 (a_1.map o8)) rfl<|a0w (a1b (enc:=o8) rfl) fun hl45 => y5 (.bool (decide ((i_24:Int) < (a_1.length:Int)))) rfl rfl rfl<|dk<|y7 rfl hq42<|a2e<|a2d<|a1l<|a2c<|?_;obtain rfl:=os hc1;exact ⟨[],[0],_,_,rfl,rfl,⟨.refl _,trivial⟩,(.refl _)⟩
  ·rw [hd43,a2x.eq_2] at hc1
   have hq42:=dlt hlt38
   refine o6<|sr<|l9 (.int .i64 (i_24:Int)) rfl<|l9 (.lst 6 (a_1.map o8)) rfl<|a0w (a1b (enc:=o8) rfl) fun hl46 => y5 (.bool (decide ((i_24:Int) < (a_1.length:Int)))) rfl rfl rfl<|dk<|y8 rfl hq42<|a0e<|a0h<|o6<|a2u<|a0y<|?_
   obtain ⟨r_47,er48,hc1⟩:=ob hc1
   obtain ⟨g49,hc1⟩:=og hc1
   obtain ⟨x_50,ex51,hc1⟩:=ob hc1
   refine l9 (.own 0 0 out_25.length) rfl<|l9 (.int .i64 (i_24:Int)) rfl<|l9 (.lst 6 (a_1.map o8)) rfl<|l9 (.int .i64 (i_24:Int)) rfl<|a0a (a1h (enc:=o8) rfl rfl hx39)<|y5 (o8 x_44) rfl nle rfl<|a0a (a3j (v:=(.agg [(.int .i64 r_47.Table),(.int .i64 r_47.Id),(.int .i64 r_47.Old.Id),(.own 1 0 r_47.Old.Cells.length),(.int .i64 r_47.New.Id),(.own 2 0 r_47.New.Cells.length)])) (h':=[.row 1 (r_47.Old.Cells.map (o7 3 l7)),.row 1 (r_47.New.Cells.map (o7 3 l7))]) (c2r _ _ er48) rfl (.refl _) (by simp only [a1r,a1q,List.length_map,c5y,List.nil_append,List.append_nil,List.cons_append];rfl))<|?_
   refine a0a (b0l rfl rfl g49 rfl rfl) ?_
   refine a1p (a4j (v':=(.agg [(.int .i64 r_47.Table),(.int .i64 r_47.Id),(.int .i64 r_47.Old.Id),(.lst 1 (r_47.Old.Cells.map (o7 3 l7))),(.int .i64 r_47.New.Id),(.lst 1 (r_47.New.Cells.map (o7 3 l7)))])) (e':=r_47) rfl rfl ex51 rfl rfl (by first | (simp only [tk,tko,List.take_length];done) | rfl | simp) (by decide) (fun _ => by decide) ⟨rfl,nle⟩ (.refl _) rfl) ?_
   refine a0n<|a2r<|a0h<|a0y<|l9 (.int .i64 (i_24:Int)) rfl<|y5 (.int .i64 (w64 ((i_24:Int) + 1))) rfl rfl rfl<|l9 (.int .i64 (w64 ((i_24:Int) + 1))) rfl<|a0n<|?_;exact a1j ⟨((i_24 + 1),out_25.set i_24 r_47),hc1⟩ (mul hlt38) ⟨[],[0],_,_,rfl,rfl,⟨.refl _,⟨.of_eq (congrArg (AV.own _ 0) (by simp)),⟨.of_eq (congrArg (AV.int _) (a1k hlt38 hl46)),trivial⟩⟩⟩,(.refl _)⟩
 ·refine sr<|l9 (.own 0 0 out_36.length) rfl<|l9 (.own 0 0 out_36.length) rfl<|dk<|a0f<|?_;obtain rfl:=os hf;exact a5e ⟨trivial,trivial⟩ rfl (by decide) (.of_eq (congrArg (AV.lst _) (tk (enc:=o8) out_36)))

/- spec.l05Plain -/
def c36:a0r :=
 (.seq (.reg (tq 1 (.box 2 (.t 0)) (tm 2 (.c (.bool false)) .done)))
 (.seq (.seq (.reg (tm 3 (.c (.int .i64 0)) .done))
 (.block 0 (.loop (.seq (.seq (.reg (tm 5 (.t 3) (tq 6 (.faddr 0 (.t 1)) (tq 7 (.load 1 false (.t 6)) (tq 8 (.len (.t 7)) (tq 9 (.bin .lss (.t 5) (.t 8)) .done))))))
 (.cond (.t 9) .skip
 (.exit 0)))
 (.seq (.block 1 (.seq (.reg (tm 4 (.c (.int .i64 0)) .done))
 (.block 2 (.loop (.seq (.seq (.reg (tm 12 (.t 4) (tq 13 (.faddr 0 (.t 1)) (tq 14 (.load 1 false (.t 13)) (tm 15 (.t 3) (tq 16 (.iaddr 1 (.t 14) (.t 15)) (tq 17 (.load 1 false (.t 16)) (tq 18 (.len (.t 17)) (tq 19 (.bin .lss (.t 12) (.t 18)) .done)))))))))
 (.cond (.t 19) .skip
 (.exit 2)))
 (.seq (.block 3 (.seq (.reg (tm 22 (.t 4) (tq 23 (.bin .gtr (.t 22) (.c (.int .i64 0))) (tm 24 (.t 23) (tg 25 24 true (.faddr 0 (.t 1)) (tg 26 24 true (.load 1 false (.t 25)) (tg 27 24 true (.mov (.t 3)) (tg 28 24 true (.iaddr 1 (.t 26) (.t 27)) (tg 29 24 true (.load 1 false (.t 28)) (tg 30 24 true (.mov (.t 4)) (tg 31 24 true (.bin .sub (.t 30) (.c (.int .i64 1))) (tg 32 24 true (.iaddr 2 (.t 29) (.t 31)) (tg 33 24 true (.faddr 0 (.t 32)) (tg 34 24 true (.load 1 false (.t 33)) (tg 35 24 true (.faddr 0 (.t 1)) (tg 36 24 true (.load 1 false (.t 35)) (tg 37 24 true (.mov (.t 3)) (tg 38 24 true (.iaddr 1 (.t 36) (.t 37)) (tg 39 24 true (.load 1 false (.t 38)) (tg 40 24 true (.mov (.t 4)) (tg 41 24 true (.iaddr 2 (.t 39) (.t 40)) (tg 42 24 true (.faddr 0 (.t 41)) (tg 43 24 true (.load 1 false (.t 42)) (tg 44 24 true (.bin .geq (.t 34) (.t 43)) (tq 45 (.pick (.t 24) (.t 44) (.c (.bool false))) .done)))))))))))))))))))))))))
 (.cut (.cond (.t 45) (.seq (.reg (tm 2 (.c (.bool false)) .done))
 .ret)
 .skip))))
 (.reg (tm 20 (.t 4) (tq 21 (.bin .add (.t 20) (.c (.int .i64 1))) (tm 4 (.t 21) .done))))))))))
 (.cut (.reg (tm 10 (.t 3) (tq 11 (.bin .add (.t 10) (.c (.int .i64 1))) (tm 3 (.t 11) .done))))))))))
 (.cut (.seq (.reg (tm 2 (.c (.bool true)) .done))
 .ret))))
theorem e5p:a1g Try.prog Try.f36 = some (c36.erase,[.mov (.t 2)],46):=by kernel_rfl
def a2i (x_447:(List x8)):List x8 → Nat → Option (Fl Bool Unit)
  | [],k_469 =>
    some (.go ())
  | x_493 :: xs,k_469 =>
    ((if (decide ((k_469:Int) > 0)) then
    (idx x_447 (w64 ((k_469:Int) - 1))).bind fun x_502 =>
    some (decide (x_502.Id ≥ x_493.Id))
    else
    some false:Option Bool)).bind fun s45_499 =>
    if s45_499 then
    some (.ret false)
    else
    a2i x_447 xs (k_469 + 1)

def a3o :List (List x8) → Option (Fl Bool Unit)
  | [] =>
    some (.go ())
  | x_447 :: xs =>
    (a2i x_447 x_447 0).bind fun q => (match q with
    | .ret r => some (.ret r)
    | .go _ =>
    a3o xs )

def a9s (x_1:a0l):Option Bool :=
    (a3o x_1.Tables ).bind fun q => (match q with
    | .ret r => some r
    | .go _ =>
    some true)
theorem c2s (x_1:a0l) (r:Bool) (hf:a9s x_1 = some r):a0b Try.prog 36 .flat [(a0z x_1)] (.bool r):=by
 refine a0b.of_awp mixed Try.func36 e5p nle ?_;rw [a0q];unfold a9s at hf;unfold c36;refine (show awp Try.prog false 0 _ (ofL [(0,(a0z x_1))]) [] _ from ?_);refine sr<|a0a (a1m (j:=0) (c:=(.agg [(.lst 1 (x_1.Tables.map (o7 2 o5))),(.int .i64 x_1.Next)])) rfl trivial rfl rfl)<|l9 (.bool false) rfl<|dk<|o6<|sr<|l9 (.int .i64 0) rfl<|dk<|?_
 obtain ⟨p440,hb1,hf⟩:=ob hf
 refine a2q (X:={q:Unit // p440 = .go q}) (fun q => ([],[])) ?_ ?_
 ·refine a1d (X:={q:Nat // a3o (x_1.Tables.drop q)  = some p440}) (fun q => ([(1,(.ptr 0 0 0)),(3,(.int .i64 (q.1:Int)))],[.box 2 (.agg [(.lst 1 (x_1.Tables.map (o7 2 o5))),(.int .i64 x_1.Next)])])) (fun q => x_1.Tables.length - q.1) ⟨0,hb1⟩ ⟨[],[0],_,_,rfl,rfl,⟨.refl _,⟨.refl _,trivial⟩⟩,(.refl _)⟩ ?_
  rintro ⟨i_293,hc1⟩
  have hc1:a3o (x_1.Tables.drop i_293)  = some p440:=hc1
  refine (show awp Try.prog false 0 _ (ofL [(1,(.ptr 0 0 0)),(3,(.int .i64 (i_293:Int)))]) [.box 2 (.agg [(.lst 1 (x_1.Tables.map (o7 2 o5))),(.int .i64 x_1.Next)])] _ from ?_)
  rcases a4u x_1.Tables i_293 with ⟨hie443,hd446⟩ | ⟨hlt441,x_447,hx442,hd446⟩
  ·rw [hd446,a3o.eq_1] at hc1
   have hq445:=dlf hie443
   refine o6<|sr<|l9 (.int .i64 (i_293:Int)) rfl<|y5 (.ptr 0 0 0) rfl trivial rfl<|y5 (.lst 1 (x_1.Tables.map (o7 2 o5))) rfl nle rfl<|a0w (a1b (enc:=(o7 2 o5)) rfl) fun hl448 => y5 (.bool (decide ((i_293:Int) < (x_1.Tables.length:Int)))) rfl rfl rfl<|dk<|y7 rfl hq445<|a2e<|a2d<|a1l<|a2c<|?_;obtain rfl:=os hc1;exact a5g ⟨_,rfl⟩ ⟨[],[],_,_,rfl,rfl,trivial,(.refl _)⟩
  ·rw [hd446,a3o.eq_2] at hc1
   have hq445:=dlt hlt441
   refine o6<|sr<|l9 (.int .i64 (i_293:Int)) rfl<|y5 (.ptr 0 0 0) rfl trivial rfl<|y5 (.lst 1 (x_1.Tables.map (o7 2 o5))) rfl nle rfl<|a0w (a1b (enc:=(o7 2 o5)) rfl) fun hl449 => y5 (.bool (decide ((i_293:Int) < (x_1.Tables.length:Int)))) rfl rfl rfl<|dk<|y8 rfl hq445<|a0e<|a0h<|o6<|a2u<|sr<|l9 (.int .i64 0) rfl<|dk<|?_
   obtain ⟨p486,hb2,hc1⟩:=ob hc1
   refine d4v (X:={q:Unit // p486 = .go q}) (fun q => ([(1,(.ptr 0 0 0)),(3,(.int .i64 (i_293:Int)))],[.box 2 (.agg [(.lst 1 (x_1.Tables.map (o7 2 o5))),(.int .i64 x_1.Next)])])) ?_ ?_
   ·refine a1d (X:={q:Nat // a2i x_447 (x_447.drop q) q = some p486}) (fun q => ([(1,(.ptr 0 0 0)),(3,(.int .i64 (i_293:Int))),(4,(.int .i64 (q.1:Int)))],[.box 2 (.agg [(.lst 1 (x_1.Tables.map (o7 2 o5))),(.int .i64 x_1.Next)])])) (fun q => x_447.length - q.1) ⟨0,hb2⟩ ⟨[],[0],_,_,rfl,rfl,⟨.refl _,⟨.refl _,⟨.refl _,trivial⟩⟩⟩,(.refl _)⟩ ?_
    rintro ⟨k_469,hc2⟩
    have hc2:a2i x_447 (x_447.drop k_469) k_469 = some p486:=hc2
    refine (show awp Try.prog false 0 _ (ofL [(1,(.ptr 0 0 0)),(3,(.int .i64 (i_293:Int))),(4,(.int .i64 (k_469:Int)))]) [.box 2 (.agg [(.lst 1 (x_1.Tables.map (o7 2 o5))),(.int .i64 x_1.Next)])] _ from ?_)
    rcases a4u x_447 k_469 with ⟨hie489,hd492⟩ | ⟨hlt487,x_493,hx488,hd492⟩
    ·rw [hd492,a2i.eq_1] at hc2
     have hq491:=dlf hie489
     refine o6<|sr<|l9 (.int .i64 (k_469:Int)) rfl<|y5 (.ptr 0 0 0) rfl trivial rfl<|y5 (.lst 1 (x_1.Tables.map (o7 2 o5))) rfl nle rfl<|l9 (.int .i64 (i_293:Int)) rfl<|a0a (a1h (enc:=(o7 2 o5)) rfl rfl hx442)<|y5 (.lst 2 (x_447.map o5)) rfl ⟨rfl,rfl⟩ rfl<|a0w (a1b (enc:=o5) rfl) fun hl494 => y5 (.bool (decide ((k_469:Int) < (x_447.length:Int)))) rfl rfl rfl<|dk<|y7 rfl hq491<|a2e<|a2d<|a1l<|a2c<|?_;refine a2r ?_;obtain rfl:=os hc2;exact a5g ⟨_,rfl⟩ ⟨[],[0],_,_,rfl,rfl,⟨.refl _,⟨.refl _,trivial⟩⟩,(.refl _)⟩
    ·rw [hd492,a2i.eq_2] at hc2
     have hq491:=dlt hlt487
     refine o6<|sr<|l9 (.int .i64 (k_469:Int)) rfl<|y5 (.ptr 0 0 0) rfl trivial rfl<|y5 (.lst 1 (x_1.Tables.map (o7 2 o5))) rfl nle rfl<|l9 (.int .i64 (i_293:Int)) rfl<|a0a (a1h (enc:=(o7 2 o5)) rfl rfl hx442)<|y5 (.lst 2 (x_447.map o5)) rfl ⟨rfl,rfl⟩ rfl<|a0w (a1b (enc:=o5) rfl) fun hl495 => y5 (.bool (decide ((k_469:Int) < (x_447.length:Int)))) rfl rfl rfl<|dk<|y8 rfl hq491<|a0e<|a0h<|o6<|a2u<|o6<|?_
     obtain ⟨s45_499,hb3,hc2⟩:=ob hc2
     refine a1v ([(1,(.ptr 0 0 0)),(3,(.int .i64 (i_293:Int))),(4,(.int .i64 (k_469:Int))),(45,(.bool s45_499))],[.box 2 (.agg [(.lst 1 (x_1.Tables.map (o7 2 o5))),(.int .i64 x_1.Next)])]) ?_ ?_
     ·refine a0y<|l9 (.int .i64 (k_469:Int)) rfl<|y5 (.bool (decide ((k_469:Int) > 0))) rfl rfl rfl<|l9 (.bool (decide ((k_469:Int) > 0))) rfl<|?_
      rcases oi hb3 with ⟨c501,hb3⟩ | ⟨c501,hb3⟩
      ·refine a4i (s:=24) (b:=true) rfl c501<|s_on rfl<|y5 (.ptr 0 0 0) rfl trivial rfl<|s_on rfl<|y5 (.lst 1 (x_1.Tables.map (o7 2 o5))) rfl nle rfl<|s_on rfl<|l9 (.int .i64 (i_293:Int)) rfl<|s_on rfl<|a0a (a1h (enc:=(o7 2 o5)) rfl rfl hx442)<|s_on rfl<|y5 (.lst 2 (x_447.map o5)) rfl ⟨rfl,rfl⟩ rfl<|s_on rfl<|l9 (.int .i64 (k_469:Int)) rfl<|s_on rfl<|y5 (.int .i64 (w64 ((k_469:Int) - 1))) rfl rfl rfl<|s_on rfl<|?_
       obtain ⟨x_502,ex503,hb3⟩:=ob hb3
       refine a0a (a5k (enc:=o5) rfl rfl (b5j ex503) (b5k ex503))<|s_on rfl<|y5 (.iptr (o5 x_502) 0) rfl trivial rfl<|s_on rfl<|y5 (.int .i64 x_502.Id) rfl nle rfl<|s_on rfl<|y5 (.ptr 0 0 0) rfl trivial rfl<|s_on rfl<|y5 (.lst 1 (x_1.Tables.map (o7 2 o5))) rfl nle rfl<|s_on rfl<|l9 (.int .i64 (i_293:Int)) rfl<|s_on rfl<|a0a (a1h (enc:=(o7 2 o5)) rfl rfl hx442)<|s_on rfl<|y5 (.lst 2 (x_447.map o5)) rfl ⟨rfl,rfl⟩ rfl<|s_on rfl<|l9 (.int .i64 (k_469:Int)) rfl<|s_on rfl<|a0a (a1h (enc:=o5) rfl rfl hx488)<|s_on rfl<|y5 (.iptr (o5 x_493) 0) rfl trivial rfl<|s_on rfl<|y5 (.int .i64 x_493.Id) rfl nle rfl<|?_
       refine s_on rfl<|y5 (.bool (decide (x_502.Id ≥ x_493.Id))) rfl rfl rfl<|y5 (.bool (decide (x_502.Id ≥ x_493.Id))) rfl trivial rfl<|a0n<|?_;obtain rfl:=os hb3;exact ⟨[],[0],_,_,rfl,rfl,⟨.refl _,⟨.refl _,⟨.refl _,⟨.refl _,trivial⟩⟩⟩⟩,(.refl _)⟩
      ·refine a4i (s:=24) (b:=false) rfl (bf c501)<|a0t rfl rfl<|a0t rfl rfl<|a0t rfl rfl<|a0t rfl rfl<|a0t rfl rfl<|a0t rfl rfl<|a0t rfl rfl<|a0t rfl rfl<|a0t rfl rfl<|a0t rfl rfl<|a0t rfl rfl<|a0t rfl rfl<|a0t rfl rfl<|a0t rfl rfl<|a0t rfl rfl<|a0t rfl rfl<|a0t rfl rfl<|a0t rfl rfl<|a0t rfl rfl<|a0t rfl rfl<|y5 (.bool false) rfl trivial rfl<|a0n<|?_;obtain rfl:=os hb3;exact ⟨[],[0],_,_,rfl,rfl,⟨.refl _,⟨.refl _,⟨.refl _,⟨.refl _,trivial⟩⟩⟩⟩,(.refl _)⟩
     ·rcases oi hc2 with ⟨c504,hc2⟩ | ⟨c504,hc2⟩
      ·refine y8 rfl c504<|sr<|l9 (.bool false) rfl<|dk<|a0f<|?_;obtain rfl:=os hc2;obtain rfl:=os hc1;obtain rfl:=os hf;exact a0k ⟨trivial,trivial⟩ rfl (.refl _)
      ·refine y7 rfl (bf c504)<|a0e<|a2r<|a0h<|a0y<|l9 (.int .i64 (k_469:Int)) rfl<|y5 (.int .i64 (w64 ((k_469:Int) + 1))) rfl rfl rfl<|l9 (.int .i64 (w64 ((k_469:Int) + 1))) rfl<|a0n<|?_;exact a1j ⟨(k_469 + 1),hc2⟩ (mul hlt487) ⟨[],[0],_,_,rfl,rfl,⟨.refl _,⟨.refl _,⟨.of_eq (congrArg (AV.int _) (a1k hlt487 hl495)),trivial⟩⟩⟩,(.refl _)⟩
   ·rintro ⟨_,rfl⟩
    refine a0y<|l9 (.int .i64 (i_293:Int)) rfl<|y5 (.int .i64 (w64 ((i_293:Int) + 1))) rfl rfl rfl<|l9 (.int .i64 (w64 ((i_293:Int) + 1))) rfl<|a0n<|?_;exact a1j ⟨(i_293 + 1),hc1⟩ (mul hlt441) ⟨[],[0],_,_,rfl,rfl,⟨.refl _,⟨.of_eq (congrArg (AV.int _) (a1k hlt441 hl449)),trivial⟩⟩,(.refl _)⟩
 ·rintro ⟨_,rfl⟩
  refine sr<|l9 (.bool true) rfl<|dk<|a0f<|?_;obtain rfl:=os hf;exact a0k ⟨trivial,trivial⟩ rfl (.refl _)

/- spec.l10Ask -/
def c57:a0r :=
 (.seq (.reg (tq 2 (.box 2 (.t 0)) (tm 4 (.c (.int .i64 0)) .done)))
 (.seq (.block 0 (.seq (.reg (tm 6 (.t 1) (tq 7 (.len (.t 6)) (tq 8 (.bin .gtr (.t 7) (.c (.int .i64 4096))) (tm 5 (.t 8) .done)))))
 (.cond (.t 5) (.seq (.reg (tm 4 (.c (.int .i64 2)) .done))
 .ret)
 (.seq (.reg (tq 10 (.load 2 true (.t 2)) (tq 11 (.call 36 [(.t 10)]) (tq 12 (.not (.t 11)) (tm 9 (.t 12) .done)))))
 (.cond (.t 9) (.seq (.reg (tm 4 (.c (.int .i64 1)) .done))
 .ret)
 .skip)))))
 (.seq (.reg (tm 4 (.c (.int .i64 0)) .done))
 .ret)))
theorem e5q:a1g Try.prog Try.f57 = some (c57.erase,[.mov (.t 4)],13):=by kernel_rfl
def b3i (x_1:a0l) (list_2:(List y9)):Option Int :=
    if (decide ((list_2.length:Int) > 4096)) then
    some 2
    else
    (a9s x_1).bind fun r_5 =>
    if (!r_5) then
    some 1
    else
    some 0
theorem c6d (x_1:a0l) (list_2:(List y9)) (r:Int) (hf:b3i x_1 list_2 = some r):a0b Try.prog 57 .flat [(a0z x_1),(.lst 6 (list_2.map o8))] (.int .i64 r):=by
 refine a0b.of_awp mixed Try.func57 e5q nle ?_;rw [a0q];unfold b3i at hf;unfold c57;refine (show awp Try.prog false 0 _ (ofL [(0,(a0z x_1)),(1,(.lst 6 (list_2.map o8)))]) [] _ from ?_);refine sr<|a0a (a1m (j:=0) (c:=(.agg [(.lst 1 (x_1.Tables.map (o7 2 o5))),(.int .i64 x_1.Next)])) rfl trivial rfl rfl)<|l9 (.int .i64 0) rfl<|dk<|o6<|a2u<|sr<|l9 (.lst 6 (list_2.map o8)) rfl<|a0w (a1b (enc:=o8) rfl) fun hl3 => y5 (.bool (decide ((list_2.length:Int) > 4096))) rfl rfl rfl<|l9 (.bool (decide ((list_2.length:Int) > 4096))) rfl<|dk<|?_
 rcases oi hf with ⟨c4,hf⟩ | ⟨c4,hf⟩
 ·refine y8 rfl c4<|sr<|l9 (.int .i64 2) rfl<|dk<|a0f<|?_;obtain rfl:=os hf;exact a0k ⟨trivial,trivial⟩ rfl (.refl _)
 ·refine y7 rfl (bf c4)<|sr<|?_
  obtain ⟨r_5,er6,hf⟩:=ob hf
  refine y5 (.agg [(.lst 1 (x_1.Tables.map (o7 2 o5))),(.int .i64 x_1.Next)]) rfl nle rfl<|a0a (a1o (c2s _ _ er6) rfl (.refl _) rfl)<|y5 (.bool (!r_5)) rfl trivial rfl<|l9 (.bool (!r_5)) rfl<|dk<|?_
  rcases oi hf with ⟨c7,hf⟩ | ⟨c7,hf⟩
  ·refine y8 rfl c7<|sr<|l9 (.int .i64 1) rfl<|dk<|a0f<|?_;obtain rfl:=os hf;exact a0k ⟨trivial,trivial⟩ rfl (.refl _)
  ·refine y7 rfl (bf c7)<|a0e<|a2r<|a0h<|sr<|l9 (.int .i64 0) rfl<|dk<|a0f<|?_;obtain rfl:=os hf;exact a0k ⟨trivial,trivial⟩ rfl (.refl _)

/- spec.l05OwnRow -/
def c73:a0r :=
 (.seq (.reg (tq 1 (.box 2 (.t 0)) (tq 2 (.box 2 (.c (.agg [(.int .i64 0),.nil]))) .done)))
 (.seq (.reg (tq 5 (.faddr 0 (.t 1)) (tq 6 (.load 1 false (.t 5)) (tq 7 (.bslice 1 []) (tq 8 (.build [(.int .i64 0),.nil] [(0,1,(.t 6)),(1,1,(.t 7))]) (tq 3 (.box 2 (.c (.agg [(.int .i64 0),.nil]))) (.q ⟨none,none,.store 2 (.t 3) (.t 8)⟩
 .done)))))))
 (.seq (.seq (.reg (tm 4 (.c (.int .i64 0)) .done))
 (.block 0 (.loop (.seq (.seq (.reg (tm 9 (.t 4) (tq 10 (.faddr 1 (.t 1)) (tq 11 (.load 1 false (.t 10)) (tq 12 (.len (.t 11)) (tq 13 (.bin .lss (.t 9) (.t 12)) .done))))))
 (.cond (.t 13) .skip
 (.exit 0)))
 (.seq (.block 1 (.reg (tq 16 (.faddr 1 (.t 3)) (tq 17 (.load 1 false (.t 16)) (tq 19 (.faddr 1 (.t 1)) (tq 20 (.load 1 false (.t 19)) (tm 21 (.t 4) (tq 22 (.iaddr 1 (.t 20) (.t 21)) (tq 23 (.load 1 false (.t 22)) (.l ⟨(some 18),none,.bslice 3 []⟩ [⟨(some 23),none,.load 1 false (.t 22)⟩,⟨(some 22),none,.iaddr 1 (.t 20) (.t 21)⟩,⟨(some 20),none,.load 1 false (.t 19)⟩,⟨(some 19),none,.faddr 1 (.t 1)⟩,⟨(some 17),none,.load 1 false (.t 16)⟩,⟨(some 16),none,.faddr 1 (.t 3)⟩]
 (.l ⟨(some 24),none,.append 3 32 (.t 18) (.t 23)⟩ [⟨(some 17),none,.load 1 false (.t 16)⟩,⟨(some 16),none,.faddr 1 (.t 3)⟩]
 (.l ⟨(some 25),none,.bslice 1 [(.t 24)]⟩ [⟨(some 17),none,.load 1 false (.t 16)⟩,⟨(some 16),none,.faddr 1 (.t 3)⟩]
 (.l ⟨(some 26),none,.append 1 24 (.t 17) (.t 25)⟩ []
 (tq 27 (.faddr 1 (.t 3)) (.l ⟨none,none,.store 1 (.t 27) (.t 26)⟩ []
 .done .non)) .non) .non) .non) .non))))))))))
 (.reg (tm 14 (.t 4) (tq 15 (.bin .add (.t 14) (.c (.int .i64 1))) (tm 4 (.t 15) .done)))))))))
 (.cut (.seq (.reg (tq 28 (.load 2 true (.t 3)) (.q ⟨none,none,.store 2 (.t 2) (.t 28)⟩
 .done)))
 .ret)))))
theorem e5r:a1g Try.prog Try.f73 = some (c73.erase,[.load 2 true (.t 2)],29):=by kernel_rfl
def a2y :List (List a0c) → (List (List a0c)) → Option (List (List a0c))
  | [],x_17 =>
    some x_17
  | x_33 :: xs,x_17 =>
    if ([] ++ x_33).length ≤ 2 ^ 30 then
    if (x_17 ++ [[] ++ x_33]).length ≤ 2 ^ 30 then
    a2y xs  (x_17 ++ [[] ++ x_33])
    else none
    else none

def a6d (r_1:x8):Option x8 :=
    (a2y r_1.Cells []).bind fun x_25 =>
    some (⟨r_1.Id,x_25⟩:x8)
theorem b1k (r_1:x8) (r:x8) (hf:a6d r_1 = some r):a0b Try.prog 73 .fresh [(o5 r_1)] (o5 r):=by
 refine a0b.of_awp mixed Try.func73 e5r nle ?_;rw [a0q];unfold a6d at hf;unfold c73;refine (show awp Try.prog true 0 _ (ofL [(0,(o5 r_1))]) [] _ from ?_);refine sr<|a0a (a1m (j:=0) (c:=(.agg [(.int .i64 r_1.Id),(.lst 1 (r_1.Cells.map (o7 3 l7)))])) rfl trivial rfl rfl)<|a0a (a1m (j:=1) (c:=(.agg [(.int .i64 0),.nil])) rfl trivial rfl rfl)<|dk<|sr<|y5 (.ptr 0 0 0) rfl trivial rfl<|y5 (.int .i64 r_1.Id) rfl nle rfl<|?_;refine a0a (a3k (j:=2) (as':=[]) rfl (fun _ => by decide) trivial (.refl _) rfl rfl rfl) ?_;refine y5 (.agg [(.int .i64 r_1.Id),(.own 2 0 0)]) rfl ⟨⟨rfl,nle,trivial⟩,⟨⟨rfl,nle,trivial⟩,trivial⟩⟩ rfl ?_
 refine a0a (a1m (j:=3) (c:=(.agg [(.int .i64 0),.nil])) rfl trivial rfl rfl)<|a1p (a0i (v:=(.agg [(.int .i64 r_1.Id),(.own 2 0 0)])) (y':=(.agg [(.int .i64 r_1.Id),(.own 2 0 0)])) rfl rfl rfl trivial ⟨rfl,nle⟩ ⟨⟨rfl,trivial⟩,⟨⟨rfl,trivial⟩,trivial⟩⟩ rfl)<|dk<|o6<|sr<|l9 (.int .i64 0) rfl<|dk<|?_
 obtain ⟨x_25,hb1,hf⟩:=ob hf
 refine a1v ([(2,(.ptr 0 0 0)),(3,(.ptr 1 0 0))],[.box 2 (.agg [(.int .i64 0),.nil]),.box 2 (.agg [(.int .i64 r_1.Id),(.own 2 0 x_25.length)]),.row 1 (x_25.map (o7 3 l7))]) ?_ ?_
 ·refine a1d (X:={q:(Nat × (List (List a0c))) // a2y (r_1.Cells.drop q.1) q.2 = some x_25}) (fun q => ([(1,(.ptr 0 0 0)),(2,(.ptr 1 0 0)),(3,(.ptr 2 0 0)),(4,(.int .i64 (q.1.1:Int)))],[.box 2 (.agg [(.int .i64 r_1.Id),(.lst 1 (r_1.Cells.map (o7 3 l7)))]),.box 2 (.agg [(.int .i64 0),.nil]),.box 2 (.agg [(.int .i64 r_1.Id),(.own 3 0 q.1.2.length)]),.row 1 (q.1.2.map (o7 3 l7))])) (fun q => r_1.Cells.length - q.1.1) ⟨(0,[]),hb1⟩ ⟨[],[0,1,3,2],_,_,rfl,rfl,⟨.refl _,⟨.refl _,⟨.refl _,⟨.refl _,trivial⟩⟩⟩⟩,(.cons (.refl _) (.cons (.refl _) (.cons (.box (.agg (.cons (.refl _) (.cons (.of_eq (congrArg (AV.own _ 0) (by simp))) .nil)))) (.cons (.refl _) .nil))))⟩ ?_
  rintro ⟨⟨i_16,x_17⟩,hc1⟩
  have hc1:a2y (r_1.Cells.drop i_16) x_17 = some x_25:=hc1
  refine (show awp Try.prog true 0 _ (ofL [(1,(.ptr 0 0 0)),(2,(.ptr 1 0 0)),(3,(.ptr 2 0 0)),(4,(.int .i64 (i_16:Int)))]) [.box 2 (.agg [(.int .i64 r_1.Id),(.lst 1 (r_1.Cells.map (o7 3 l7)))]),.box 2 (.agg [(.int .i64 0),.nil]),.box 2 (.agg [(.int .i64 r_1.Id),(.own 3 0 x_17.length)]),.row 1 (x_17.map (o7 3 l7))] _ from ?_)
  rcases a4u r_1.Cells i_16 with ⟨hie29,hd32⟩ | ⟨hlt27,x_33,hx28,hd32⟩
  ·rw [hd32,a2y.eq_1] at hc1
   have hq31:=dlf hie29
   refine o6<|sr<|l9 (.int .i64 (i_16:Int)) rfl<|y5 (.ptr 0 0 1) rfl trivial rfl<|y5 (.lst 1 (r_1.Cells.map (o7 3 l7))) rfl nle rfl<|a0w (a1b (enc:=(o7 3 l7)) rfl) fun hl34 => y5 (.bool (decide ((i_16:Int) < (r_1.Cells.length:Int)))) rfl rfl rfl<|dk<|y7 rfl hq31<|a2e<|a2d<|a1l<|a2c<|?_;obtain rfl:=os hc1;exact ⟨[],[1,2,3],_,_,rfl,rfl,⟨.refl _,⟨.refl _,trivial⟩⟩,(.refl _)⟩
  ·rw [hd32,a2y.eq_2] at hc1
   have hq31:=dlt hlt27
   refine o6<|sr<|l9 (.int .i64 (i_16:Int)) rfl<|y5 (.ptr 0 0 1) rfl trivial rfl<|y5 (.lst 1 (r_1.Cells.map (o7 3 l7))) rfl nle rfl<|a0w (a1b (enc:=(o7 3 l7)) rfl) fun hl35 => y5 (.bool (decide ((i_16:Int) < (r_1.Cells.length:Int)))) rfl rfl rfl<|dk<|y8 rfl hq31<|a0e<|a0h<|o6<|a2u<|a0y<|y5 (.ptr 2 0 1) rfl trivial rfl<|y5 (.own 3 0 x_17.length) rfl nle rfl<|y5 (.ptr 0 0 1) rfl trivial rfl<|y5 (.lst 1 (r_1.Cells.map (o7 3 l7))) rfl nle rfl<|l9 (.int .i64 (i_16:Int)) rfl<|a0a (a1h (enc:=(o7 3 l7)) rfl rfl hx28)<|y5 (.lst 3 (x_33.map l7)) rfl ⟨rfl,rfl⟩ rfl<|?_
   refine a5c (a3k (j:=4) (as':=[]) rfl (fun _ => by decide) trivial (.refl _) rfl rfl rfl) (.inr ⟨⟨⟨rfl,rfl⟩,rfl⟩,⟨(d4w (enc:=(o7 3 l7)) rfl rfl hx28),⟨⟨nle,rfl⟩,⟨⟨trivial,rfl⟩,⟨⟨nle,rfl⟩,⟨⟨trivial,rfl⟩,trivial⟩⟩⟩⟩⟩⟩) trivial ?_
   obtain ⟨g36,hc1⟩:=og hc1
   refine a5c (a7t (j:=5) (L:=(([] ++ x_33).map l7)) (len:=([] ++ x_33).length) rfl false rfl rfl (fun _ => flm (fun _ => rfl) _) (fun _ _ _ => flm (fun _ => rfl) _) (by decide) ((by simp)) (by simp <;> omega) g36 rfl rfl) (.inr ⟨⟨nle,rfl⟩,⟨⟨trivial,rfl⟩,trivial⟩⟩) trivial ?_
   refine a5c (a3k (j:=6) (as':=[(.lst 3 (([] ++ x_33).map l7))]) rfl (fun _ => by decide) ⟨rfl,trivial⟩ (.cons (.of_eq (congrArg (AV.lst _) (tk (enc:=l7) ([] ++ x_33)))) .nil) rfl rfl rfl) (.inr ⟨⟨nle,rfl⟩,⟨⟨trivial,rfl⟩,trivial⟩⟩) trivial ?_
   obtain ⟨g37,hc1⟩:=og hc1
   refine a5c (a7t (j:=7) (L:=((x_17 ++ [[] ++ x_33]).map (o7 3 l7))) (len:=(x_17 ++ [[] ++ x_33]).length) rfl true rfl rfl (fun h => Bool.noConfusion h) (fun _ _ h => (d0v (show AV.own _ _ _ = AV.lst _ _ from h)).elim) (by decide) (d0w (enc:=(o7 3 l7)) x_17 [[] ++ x_33] _ (by rfl)) (by simp <;> omega) g37 rfl rfl) trivial trivial ?_
   refine y5 (.ptr 2 0 1) rfl trivial rfl<|b5u (a0i (v:=(.own 7 0 ((x_17 ++ [[] ++ x_33]).length))) (y':=(.agg [(.int .i64 r_1.Id),(.own 7 0 ((x_17 ++ [[] ++ x_33]).length))])) rfl rfl rfl trivial ⟨rfl,nle⟩ ⟨⟨rfl,trivial⟩,trivial⟩ rfl) trivial trivial<|a0n<|a2r<|a0h<|a0y<|l9 (.int .i64 (i_16:Int)) rfl<|y5 (.int .i64 (w64 ((i_16:Int) + 1))) rfl rfl rfl<|l9 (.int .i64 (w64 ((i_16:Int) + 1))) rfl<|a0n<|?_;exact a1j ⟨((i_16 + 1),x_17 ++ [[] ++ x_33]),hc1⟩ (mul hlt27) ⟨[],[0,1,2,7],_,_,rfl,rfl,⟨.refl _,⟨.refl _,⟨.refl _,⟨.of_eq (congrArg (AV.int _) (a1k hlt27 hl35)),trivial⟩⟩⟩⟩,(.refl _)⟩
 ·refine sr<|y5 (.agg [(.int .i64 r_1.Id),(.own 2 0 x_25.length)]) rfl nle rfl<|a1p (a0i (v:=(.agg [(.int .i64 r_1.Id),(.own 2 0 x_25.length)])) (y':=(.agg [(.int .i64 r_1.Id),(.own 2 0 x_25.length)])) rfl rfl rfl trivial ⟨rfl,nle⟩ ⟨⟨rfl,trivial⟩,⟨⟨rfl,trivial⟩,trivial⟩⟩ rfl)<|dk<|a0f<|?_;obtain rfl:=os hf;exact a5e ⟨nle,trivial⟩ rfl (by decide) (.agg (.cons (.refl _) (.cons (.of_eq (congrArg (AV.lst _) (tk (enc:=(o7 3 l7)) x_25))) .nil)))

/- spec.l05Own -/
def c37:a0r :=
 (.seq (.reg (tq 1 (.box 2 (.t 0)) (tq 2 (.box 2 (.c (.agg [.nil,(.int .i64 0)]))) .done)))
 (.seq (.reg (tq 7 (.bslice 1 []) (tq 8 (.faddr 1 (.t 1)) (tq 9 (.load 1 false (.t 8)) (tq 10 (.build [.nil,(.int .i64 0)] [(0,1,(.t 7)),(1,1,(.t 9))]) (tq 3 (.box 2 (.c (.agg [.nil,(.int .i64 0)]))) (.q ⟨none,none,.store 2 (.t 3) (.t 10)⟩
 .done)))))))
 (.seq (.seq (.reg (tm 4 (.c (.int .i64 0)) .done))
 (.block 0 (.loop (.seq (.seq (.reg (tm 11 (.t 4) (tq 12 (.faddr 0 (.t 1)) (tq 13 (.load 1 false (.t 12)) (tq 14 (.len (.t 13)) (tq 15 (.bin .lss (.t 11) (.t 14)) .done))))))
 (.cond (.t 15) .skip
 (.exit 0)))
 (.seq (.block 1 (.seq (.reg (tq 18 (.bslice 2 []) (tm 5 (.t 18) .done)))
 (.seq (.seq (.reg (tm 6 (.c (.int .i64 0)) .done))
 (.block 2 (.loop (.seq (.seq (.reg (tm 19 (.t 6) (tq 20 (.faddr 0 (.t 1)) (tq 21 (.load 1 false (.t 20)) (tm 22 (.t 4) (tq 23 (.iaddr 1 (.t 21) (.t 22)) (tq 24 (.load 1 false (.t 23)) (tq 25 (.len (.t 24)) (tq 26 (.bin .lss (.t 19) (.t 25)) .done)))))))))
 (.cond (.t 26) .skip
 (.exit 2)))
 (.seq (.block 3 (.reg (tm 29 (.t 5) (tq 30 (.faddr 0 (.t 1)) (tq 31 (.load 1 false (.t 30)) (tm 32 (.t 4) (tq 33 (.iaddr 1 (.t 31) (.t 32)) (tq 34 (.load 1 false (.t 33)) (tm 35 (.t 6) (tq 36 (.iaddr 2 (.t 34) (.t 35)) (tq 37 (.load 2 true (.t 36)) (tq 38 (.call 73 [(.t 37)]) (tq 39 (.bslice 2 [(.t 38)]) (tq 40 (.append 2 32 (.t 29) (.t 39)) (tm 5 (.t 40) .done)))))))))))))))
 (.reg (tm 27 (.t 6) (tq 28 (.bin .add (.t 27) (.c (.int .i64 1))) (tm 6 (.t 28) .done)))))))))
 (.cut (.reg (tq 41 (.faddr 0 (.t 3)) (tq 42 (.load 1 false (.t 41)) (tm 43 (.t 5) (tq 44 (.bslice 1 [(.t 43)]) (tq 45 (.append 1 24 (.t 42) (.t 44)) (tq 46 (.faddr 0 (.t 3)) (.q ⟨none,none,.store 1 (.t 46) (.t 45)⟩
 .done))))))))))))
 (.reg (tm 16 (.t 4) (tq 17 (.bin .add (.t 16) (.c (.int .i64 1))) (tm 4 (.t 17) .done)))))))))
 (.cut (.seq (.reg (tq 47 (.load 2 true (.t 3)) (.q ⟨none,none,.store 2 (.t 2) (.t 47)⟩
 .done)))
 .ret)))))
theorem e5s:a1g Try.prog Try.f37 = some (c37.erase,[.load 2 true (.t 2)],48):=by kernel_rfl
def a4o :List x8 → (List x8) → Option (List x8)
  | [],rows_314 =>
    some rows_314
  | x_331 :: xs,rows_314 =>
    (a6d x_331).bind fun r_334 =>
    if (rows_314 ++ [r_334]).length ≤ 2 ^ 30 then
    a4o xs  (rows_314 ++ [r_334])
    else none

def a4p :List (List x8) → (List (List x8)) → Option (List (List x8))
  | [],x_191 =>
    some x_191
  | x_294 :: xs,x_191 =>
    (a4o x_294 []).bind fun rows_323 =>
    if (x_191 ++ [rows_323]).length ≤ 2 ^ 30 then
    a4p xs  (x_191 ++ [rows_323])
    else none

def a8h (x_1:a0l):Option a0l :=
    (a4p x_1.Tables []).bind fun x_286 =>
    some (⟨x_286,x_1.Next⟩:a0l)
theorem b3q (x_1:a0l) (r:a0l) (hf:a8h x_1 = some r):a0b Try.prog 37 .fresh [(a0z x_1)] (a0z r):=by
 refine a0b.of_awp mixed Try.func37 e5s nle ?_;rw [a0q];unfold a8h at hf;unfold c37;refine (show awp Try.prog true 0 _ (ofL [(0,(a0z x_1))]) [] _ from ?_);refine sr<|a0a (a1m (j:=0) (c:=(.agg [(.lst 1 (x_1.Tables.map (o7 2 o5))),(.int .i64 x_1.Next)])) rfl trivial rfl rfl)<|a0a (a1m (j:=1) (c:=(.agg [.nil,(.int .i64 0)])) rfl trivial rfl rfl)<|dk<|sr<|?_;refine a0a (a3k (j:=2) (as':=[]) rfl (fun _ => by decide) trivial (.refl _) rfl rfl rfl) ?_;refine y5 (.ptr 0 0 1) rfl trivial rfl<|y5 (.int .i64 x_1.Next) rfl nle rfl<|y5 (.agg [(.own 2 0 0),(.int .i64 x_1.Next)]) rfl ⟨⟨rfl,nle,trivial⟩,⟨⟨rfl,nle,trivial⟩,trivial⟩⟩ rfl<|?_
 refine a0a (a1m (j:=3) (c:=(.agg [.nil,(.int .i64 0)])) rfl trivial rfl rfl)<|a1p (a0i (v:=(.agg [(.own 2 0 0),(.int .i64 x_1.Next)])) (y':=(.agg [(.own 2 0 0),(.int .i64 x_1.Next)])) rfl rfl rfl trivial ⟨rfl,nle⟩ ⟨⟨rfl,trivial⟩,⟨⟨rfl,trivial⟩,trivial⟩⟩ rfl)<|dk<|o6<|sr<|l9 (.int .i64 0) rfl<|dk<|?_
 obtain ⟨x_286,hb1,hf⟩:=ob hf
 refine a1v ([(2,(.ptr 0 0 0)),(3,(.ptr 1 0 0))],[.box 2 (.agg [.nil,(.int .i64 0)]),.box 2 (.agg [(.own 2 0 x_286.length),(.int .i64 x_1.Next)]),.row 1 (x_286.map (o7 2 o5))]) ?_ ?_
 ·refine a1d (X:={q:(Nat × (List (List x8))) // a4p (x_1.Tables.drop q.1) q.2 = some x_286}) (fun q => ([(1,(.ptr 0 0 0)),(2,(.ptr 1 0 0)),(3,(.ptr 2 0 0)),(4,(.int .i64 (q.1.1:Int)))],[.box 2 (.agg [(.lst 1 (x_1.Tables.map (o7 2 o5))),(.int .i64 x_1.Next)]),.box 2 (.agg [.nil,(.int .i64 0)]),.box 2 (.agg [(.own 3 0 q.1.2.length),(.int .i64 x_1.Next)]),.row 1 (q.1.2.map (o7 2 o5))])) (fun q => x_1.Tables.length - q.1.1) ⟨(0,[]),hb1⟩ ⟨[],[0,1,3,2],_,_,rfl,rfl,⟨.refl _,⟨.refl _,⟨.refl _,⟨.refl _,trivial⟩⟩⟩⟩,(.cons (.refl _) (.cons (.refl _) (.cons (.box (.agg (.cons (.of_eq (congrArg (AV.own _ 0) (by simp))) (.cons (.refl _) .nil)))) (.cons (.refl _) .nil))))⟩ ?_
  rintro ⟨⟨i_190,x_191⟩,hc1⟩
  have hc1:a4p (x_1.Tables.drop i_190) x_191 = some x_286:=hc1
  refine (show awp Try.prog true 0 _ (ofL [(1,(.ptr 0 0 0)),(2,(.ptr 1 0 0)),(3,(.ptr 2 0 0)),(4,(.int .i64 (i_190:Int)))]) [.box 2 (.agg [(.lst 1 (x_1.Tables.map (o7 2 o5))),(.int .i64 x_1.Next)]),.box 2 (.agg [.nil,(.int .i64 0)]),.box 2 (.agg [(.own 3 0 x_191.length),(.int .i64 x_1.Next)]),.row 1 (x_191.map (o7 2 o5))] _ from ?_)
  rcases a4u x_1.Tables i_190 with ⟨hie290,hd293⟩ | ⟨hlt288,x_294,hx289,hd293⟩
  ·rw [hd293,a4p.eq_1] at hc1
   have hq292:=dlf hie290
   refine o6<|sr<|l9 (.int .i64 (i_190:Int)) rfl<|y5 (.ptr 0 0 0) rfl trivial rfl<|y5 (.lst 1 (x_1.Tables.map (o7 2 o5))) rfl nle rfl<|a0w (a1b (enc:=(o7 2 o5)) rfl) fun hl295 => y5 (.bool (decide ((i_190:Int) < (x_1.Tables.length:Int)))) rfl rfl rfl<|dk<|y7 rfl hq292<|a2e<|a2d<|a1l<|a2c<|?_;obtain rfl:=os hc1;exact ⟨[],[1,2,3],_,_,rfl,rfl,⟨.refl _,⟨.refl _,trivial⟩⟩,(.refl _)⟩
  ·rw [hd293,a4p.eq_2] at hc1
   have hq292:=dlt hlt288
   refine o6<|sr<|l9 (.int .i64 (i_190:Int)) rfl<|y5 (.ptr 0 0 0) rfl trivial rfl<|y5 (.lst 1 (x_1.Tables.map (o7 2 o5))) rfl nle rfl<|a0w (a1b (enc:=(o7 2 o5)) rfl) fun hl296 => y5 (.bool (decide ((i_190:Int) < (x_1.Tables.length:Int)))) rfl rfl rfl<|dk<|y8 rfl hq292<|a0e<|a0h<|o6<|a2u<|sr<|?_;refine a0a (a3k (j:=4) (as':=[]) rfl (fun _ => by decide) trivial (.refl _) rfl rfl rfl) ?_;refine l9 (.own 4 0 0) rfl<|dk<|o6<|sr<|l9 (.int .i64 0) rfl<|dk<|?_
   obtain ⟨rows_323,hb2,hc1⟩:=ob hc1
   refine a1v ([(1,(.ptr 0 0 0)),(2,(.ptr 1 0 0)),(3,(.ptr 2 0 0)),(4,(.int .i64 (i_190:Int))),(5,(.own 3 0 rows_323.length))],[.box 2 (.agg [(.lst 1 (x_1.Tables.map (o7 2 o5))),(.int .i64 x_1.Next)]),.box 2 (.agg [.nil,(.int .i64 0)]),.box 2 (.agg [(.own 4 0 x_191.length),(.int .i64 x_1.Next)]),.row 2 (rows_323.map o5),.row 1 (x_191.map (o7 2 o5))]) ?_ ?_
   ·refine a1d (X:={q:(Nat × (List x8)) // a4o (x_294.drop q.1) q.2 = some rows_323}) (fun q => ([(1,(.ptr 0 0 0)),(2,(.ptr 1 0 0)),(3,(.ptr 2 0 0)),(4,(.int .i64 (i_190:Int))),(5,(.own 3 0 q.1.2.length)),(6,(.int .i64 (q.1.1:Int)))],[.box 2 (.agg [(.lst 1 (x_1.Tables.map (o7 2 o5))),(.int .i64 x_1.Next)]),.box 2 (.agg [.nil,(.int .i64 0)]),.box 2 (.agg [(.own 4 0 x_191.length),(.int .i64 x_1.Next)]),.row 2 (q.1.2.map o5),.row 1 (x_191.map (o7 2 o5))])) (fun q => x_294.length - q.1.1) ⟨(0,[]),hb2⟩ ⟨[],[0,1,2,4,3],_,_,rfl,rfl,⟨.refl _,⟨.refl _,⟨.refl _,⟨.refl _,⟨.of_eq (congrArg (AV.own _ 0) (by simp)),⟨.refl _,trivial⟩⟩⟩⟩⟩⟩,(.refl _)⟩ ?_
    rintro ⟨⟨k_313,rows_314⟩,hc2⟩
    have hc2:a4o (x_294.drop k_313) rows_314 = some rows_323:=hc2
    refine (show awp Try.prog true 0 _ (ofL [(1,(.ptr 0 0 0)),(2,(.ptr 1 0 0)),(3,(.ptr 2 0 0)),(4,(.int .i64 (i_190:Int))),(5,(.own 3 0 rows_314.length)),(6,(.int .i64 (k_313:Int)))]) [.box 2 (.agg [(.lst 1 (x_1.Tables.map (o7 2 o5))),(.int .i64 x_1.Next)]),.box 2 (.agg [.nil,(.int .i64 0)]),.box 2 (.agg [(.own 4 0 x_191.length),(.int .i64 x_1.Next)]),.row 2 (rows_314.map o5),.row 1 (x_191.map (o7 2 o5))] _ from ?_)
    rcases a4u x_294 k_313 with ⟨hie327,hd330⟩ | ⟨hlt325,x_331,hx326,hd330⟩
    ·rw [hd330,a4o.eq_1] at hc2
     have hq329:=dlf hie327
     refine o6<|sr<|l9 (.int .i64 (k_313:Int)) rfl<|y5 (.ptr 0 0 0) rfl trivial rfl<|y5 (.lst 1 (x_1.Tables.map (o7 2 o5))) rfl nle rfl<|l9 (.int .i64 (i_190:Int)) rfl<|a0a (a1h (enc:=(o7 2 o5)) rfl rfl hx289)<|y5 (.lst 2 (x_294.map o5)) rfl ⟨rfl,rfl⟩ rfl<|a0w (a1b (enc:=o5) rfl) fun hl332 => y5 (.bool (decide ((k_313:Int) < (x_294.length:Int)))) rfl rfl rfl<|dk<|y7 rfl hq329<|a2e<|a2d<|a1l<|a2c<|?_;obtain rfl:=os hc2;exact ⟨[],[0,1,2,3,4],_,_,rfl,rfl,⟨.refl _,⟨.refl _,⟨.refl _,⟨.refl _,⟨.refl _,trivial⟩⟩⟩⟩⟩,(.refl _)⟩
    ·rw [hd330,a4o.eq_2] at hc2
     have hq329:=dlt hlt325
     refine o6<|sr<|l9 (.int .i64 (k_313:Int)) rfl<|y5 (.ptr 0 0 0) rfl trivial rfl<|y5 (.lst 1 (x_1.Tables.map (o7 2 o5))) rfl nle rfl<|l9 (.int .i64 (i_190:Int)) rfl<|a0a (a1h (enc:=(o7 2 o5)) rfl rfl hx289)<|y5 (.lst 2 (x_294.map o5)) rfl ⟨rfl,rfl⟩ rfl<|a0w (a1b (enc:=o5) rfl) fun hl333 => y5 (.bool (decide ((k_313:Int) < (x_294.length:Int)))) rfl rfl rfl<|dk<|y8 rfl hq329<|a0e<|a0h<|o6<|a2u<|a0y<|l9 (.own 3 0 rows_314.length) rfl<|y5 (.ptr 0 0 0) rfl trivial rfl<|y5 (.lst 1 (x_1.Tables.map (o7 2 o5))) rfl nle rfl<|l9 (.int .i64 (i_190:Int)) rfl<|?_
     refine a0a (a1h (enc:=(o7 2 o5)) rfl rfl hx289)<|y5 (.lst 2 (x_294.map o5)) rfl ⟨rfl,rfl⟩ rfl<|l9 (.int .i64 (k_313:Int)) rfl<|a0a (a1h (enc:=o5) rfl rfl hx326)<|y5 (o5 x_331) rfl nle rfl<|?_
     obtain ⟨r_334,er335,hc2⟩:=ob hc2
     refine a0a (a3j (v:=(.agg [(.int .i64 r_334.Id),(.own 5 0 r_334.Cells.length)])) (h':=[.row 1 (r_334.Cells.map (o7 3 l7))]) (b1k _ _ er335) rfl (.refl _) (by simp only [a1r,a1q,List.length_map,a8f,List.nil_append,List.append_nil,List.cons_append];rfl)) ?_;refine a0a (a3k (j:=6) (as':=[(o5 r_334)]) rfl (fun _ => by decide) ⟨rfl,trivial⟩ (.cons (.agg (.cons (.refl _) (.cons (.of_eq (congrArg (AV.lst _) (tk (enc:=(o7 3 l7)) r_334.Cells))) .nil))) .nil) rfl rfl rfl) ?_
     obtain ⟨g336,hc2⟩:=og hc2
     refine a0a (a7t (j:=7) (L:=((rows_314 ++ [r_334]).map o5)) (len:=(rows_314 ++ [r_334]).length) rfl true rfl rfl (fun h => Bool.noConfusion h) (fun _ _ h => (d0v (show AV.own _ _ _ = AV.lst _ _ from h)).elim) (by decide) (d0w (enc:=o5) rows_314 [r_334] _ (by rfl)) (by simp <;> omega) g336 rfl rfl) ?_
     refine l9 (.own 7 0 ((rows_314 ++ [r_334]).length)) rfl<|a0n<|a2r<|a0h<|a0y<|l9 (.int .i64 (k_313:Int)) rfl<|y5 (.int .i64 (w64 ((k_313:Int) + 1))) rfl rfl rfl<|l9 (.int .i64 (w64 ((k_313:Int) + 1))) rfl<|a0n<|?_;exact a1j ⟨((k_313 + 1),rows_314 ++ [r_334]),hc2⟩ (mul hlt325) ⟨[],[0,1,2,7,4],_,_,rfl,rfl,⟨.refl _,⟨.refl _,⟨.refl _,⟨.refl _,⟨.refl _,⟨.of_eq (congrArg (AV.int _) (a1k hlt325 hl333)),trivial⟩⟩⟩⟩⟩⟩,(.refl _)⟩
   ·refine a0y ?_
    obtain ⟨g337,hc1⟩:=og hc1
    refine y5 (.ptr 2 0 0) rfl trivial rfl<|y5 (.own 4 0 x_191.length) rfl nle rfl<|l9 (.own 3 0 rows_323.length) rfl<|?_;refine a0a (a3k (j:=5) (as':=[(.lst 2 (rows_323.map o5))]) rfl (fun _ => by decide) ⟨rfl,trivial⟩ (.cons (.of_eq (congrArg (AV.lst _) (tk (enc:=o5) rows_323))) .nil) rfl rfl rfl) ?_
    refine a0a (a7t (j:=6) (L:=((x_191 ++ [rows_323]).map (o7 2 o5))) (len:=(x_191 ++ [rows_323]).length) rfl true rfl rfl (fun h => Bool.noConfusion h) (fun _ _ h => (d0v (show AV.own _ _ _ = AV.lst _ _ from h)).elim) (by decide) (d0w (enc:=(o7 2 o5)) x_191 [rows_323] _ (by rfl)) (by simp <;> omega) g337 rfl rfl) ?_
    refine y5 (.ptr 2 0 0) rfl trivial rfl<|a1p (a0i (v:=(.own 6 0 ((x_191 ++ [rows_323]).length))) (y':=(.agg [(.own 6 0 ((x_191 ++ [rows_323]).length)),(.int .i64 x_1.Next)])) rfl rfl rfl trivial ⟨rfl,nle⟩ ⟨⟨rfl,trivial⟩,trivial⟩ rfl)<|a0n<|a2r<|a0h<|a0y<|l9 (.int .i64 (i_190:Int)) rfl<|y5 (.int .i64 (w64 ((i_190:Int) + 1))) rfl rfl rfl<|l9 (.int .i64 (w64 ((i_190:Int) + 1))) rfl<|a0n<|?_;exact a1j ⟨((i_190 + 1),x_191 ++ [rows_323]),hc1⟩ (mul hlt288) ⟨[],[0,1,2,6],_,_,rfl,rfl,⟨.refl _,⟨.refl _,⟨.refl _,⟨.of_eq (congrArg (AV.int _) (a1k hlt288 hl296)),trivial⟩⟩⟩⟩,(.refl _)⟩
 ·refine sr<|y5 (.agg [(.own 2 0 x_286.length),(.int .i64 x_1.Next)]) rfl nle rfl<|a1p (a0i (v:=(.agg [(.own 2 0 x_286.length),(.int .i64 x_1.Next)])) (y':=(.agg [(.own 2 0 x_286.length),(.int .i64 x_1.Next)])) rfl rfl rfl trivial ⟨rfl,nle⟩ ⟨⟨rfl,trivial⟩,⟨⟨rfl,trivial⟩,trivial⟩⟩ rfl)<|dk<|a0f<|?_;obtain rfl:=os hf;exact a5e ⟨nle,trivial⟩ rfl (by decide) (.agg (.cons (.of_eq (congrArg (AV.lst _) (tk (enc:=(o7 2 o5)) x_286))) (.cons (.refl _) .nil)))

/- spec.l01In -/
def c85:a0r :=
 (.seq (.reg (tm 6 (.c (.bool false)) .done))
 (.seq (.reg (tm 7 (.t 1) (tm 8 (.t 0) (tq 9 (.bin .leq (.t 7) (.t 8)) (tm 10 (.t 9) (tg 11 10 true (.mov (.t 0)) (tg 12 10 true (.mov (.t 2)) (tg 13 10 true (.bin .leq (.t 11) (.t 12)) (tq 14 (.pick (.t 10) (.t 13) (.c (.bool false))) (tm 6 (.t 14) .done))))))))))
 .ret))
theorem e5t:a1g Try.prog Try.f85 = some (c85.erase,[.mov (.t 6)],15):=by kernel_rfl
def b3a (n_1:Int) (low_2:Int) (high_3:Int):Option Bool :=
    if (decide (low_2 ≤ n_1)) then
    some (decide (n_1 ≤ high_3))
    else
    some false
theorem c8r (n_1:Int) (low_2:Int) (high_3:Int) (r:Bool) (hf:b3a n_1 low_2 high_3 = some r):a0b Try.prog 85 .flat [(.int .i64 n_1),(.int .i64 low_2),(.int .i64 high_3)] (.bool r):=by
 refine a0b.of_awp mixed Try.func85 e5t nle ?_;rw [a0q];unfold b3a at hf;unfold c85;refine (show awp Try.prog false 0 _ (ofL [(0,(.int .i64 n_1)),(1,(.int .i64 low_2)),(2,(.int .i64 high_3))]) [] _ from ?_);refine sr<|l9 (.bool false) rfl<|dk<|sr<|?_
 rcases oi hf with ⟨c4,hf⟩ | ⟨c4,hf⟩
 ·refine l9 (.int .i64 low_2) rfl<|l9 (.int .i64 n_1) rfl<|y5 (.bool (decide (low_2 ≤ n_1))) rfl rfl rfl<|l9 (.bool (decide (low_2 ≤ n_1))) rfl<|a4i (s:=10) (b:=true) rfl c4<|s_on rfl<|l9 (.int .i64 n_1) rfl<|s_on rfl<|l9 (.int .i64 high_3) rfl<|s_on rfl<|y5 (.bool (decide (n_1 ≤ high_3))) rfl rfl rfl<|y5 (.bool (decide (n_1 ≤ high_3))) rfl trivial rfl<|l9 (.bool (decide (n_1 ≤ high_3))) rfl<|dk<|a0f<|?_;obtain rfl:=os hf;exact a0k ⟨trivial,trivial⟩ rfl (.refl _)
 ·refine l9 (.int .i64 low_2) rfl<|l9 (.int .i64 n_1) rfl<|y5 (.bool (decide (low_2 ≤ n_1))) rfl rfl rfl<|l9 (.bool (decide (low_2 ≤ n_1))) rfl<|a4i (s:=10) (b:=false) rfl (bf c4)<|a0t rfl rfl<|a0t rfl rfl<|a0t rfl rfl<|y5 (.bool false) rfl trivial rfl<|l9 (.bool false) rfl<|dk<|a0f<|?_;obtain rfl:=os hf;exact a0k ⟨trivial,trivial⟩ rfl (.refl _)

/- spec.l10Kind -/
def c38:a0r :=
 (.seq (.reg (tq 1 (.box 6 (.t 0)) (tm 2 (.c (.int .i64 0)) .done)))
 (.seq (.block 0 (.seq (.reg (tq 4 (.faddr 2 (.t 1)) (tq 5 (.faddr 0 (.t 4)) (tq 6 (.load 1 false (.t 5)) (tq 7 (.bin .eql (.t 6) (.c (.int .i64 0))) (tm 8 (.t 7) (tg 9 8 true (.faddr 4 (.t 1)) (tg 10 8 true (.faddr 0 (.t 9)) (tg 11 8 true (.load 1 false (.t 10)) (tg 12 8 true (.faddr 1 (.t 1)) (tg 13 8 true (.load 1 false (.t 12)) (tg 14 8 true (.bin .eql (.t 11) (.t 13)) (tq 15 (.pick (.t 8) (.t 14) (.c (.bool false))) (tm 3 (.t 15) .done))))))))))))))
 (.cut (.cond (.t 3) (.seq (.reg (tm 2 (.c (.int .i64 1)) .done))
 .ret)
 (.seq (.reg (tq 17 (.faddr 4 (.t 1)) (tq 18 (.faddr 0 (.t 17)) (tq 19 (.load 1 false (.t 18)) (tq 20 (.bin .eql (.t 19) (.c (.int .i64 0))) (tm 21 (.t 20) (tg 22 21 true (.faddr 2 (.t 1)) (tg 23 21 true (.faddr 0 (.t 22)) (tg 24 21 true (.load 1 false (.t 23)) (tg 25 21 true (.faddr 1 (.t 1)) (tg 26 21 true (.load 1 false (.t 25)) (tg 27 21 true (.bin .eql (.t 24) (.t 26)) (tq 28 (.pick (.t 21) (.t 27) (.c (.bool false))) (tm 16 (.t 28) .done))))))))))))))
 (.cut (.cond (.t 16) (.seq (.reg (tm 2 (.c (.int .i64 2)) .done))
 .ret)
 (.seq (.reg (tq 30 (.faddr 2 (.t 1)) (tq 31 (.faddr 0 (.t 30)) (tq 32 (.load 1 false (.t 31)) (tq 33 (.faddr 1 (.t 1)) (tq 34 (.load 1 false (.t 33)) (tq 35 (.bin .eql (.t 32) (.t 34)) (tm 36 (.t 35) (tg 37 36 true (.faddr 4 (.t 1)) (tg 38 36 true (.faddr 0 (.t 37)) (tg 39 36 true (.load 1 false (.t 38)) (tg 40 36 true (.faddr 1 (.t 1)) (tg 41 36 true (.load 1 false (.t 40)) (tg 42 36 true (.bin .eql (.t 39) (.t 41)) (tq 43 (.pick (.t 36) (.t 42) (.c (.bool false))) (tm 29 (.t 43) .done))))))))))))))))
 (.cut (.cond (.t 29) (.seq (.reg (tm 2 (.c (.int .i64 3)) .done))
 .ret)
 .skip))))))))))
 (.seq (.reg (tm 2 (.c (.int .i64 0)) .done))
 .ret)))
theorem e5u:a1g Try.prog Try.f38 = some (c38.erase,[.mov (.t 2)],44):=by kernel_rfl
def a6l (c_1:y9):Option Int :=
    ((some ():Option Unit)).bind fun _ =>
    if (bif (c_1.Old.Id == 0) then (c_1.New.Id == c_1.Id) else false) then
    some 1
    else
    ((some ():Option Unit)).bind fun _ =>
    if (bif (c_1.New.Id == 0) then (c_1.Old.Id == c_1.Id) else false) then
    some 2
    else
    ((some ():Option Unit)).bind fun _ =>
    if (bif (c_1.Old.Id == c_1.Id) then (c_1.New.Id == c_1.Id) else false) then
    some 3
    else
    some 0
theorem b3b (c_1:y9) (r:Int) (hf:a6l c_1 = some r):a0b Try.prog 38 .flat [(o8 c_1)] (.int .i64 r):=by
 refine a0b.of_awp mixed Try.func38 e5u nle ?_;rw [a0q];unfold a6l at hf;unfold c38;refine (show awp Try.prog false 0 _ (ofL [(0,(o8 c_1))]) [] _ from ?_);refine sr<|a0a (a1m (j:=0) (c:=(.agg [(.int .i64 c_1.Table),(.int .i64 c_1.Id),(.int .i64 c_1.Old.Id),(.lst 1 (c_1.Old.Cells.map (o7 3 l7))),(.int .i64 c_1.New.Id),(.lst 1 (c_1.New.Cells.map (o7 3 l7)))])) rfl trivial rfl rfl)<|l9 (.int .i64 0) rfl<|dk<|o6<|a2u<|o6<|?_
 obtain ⟨p2,hb1,hf⟩:=ob hf
 refine a1v ([(1,(.ptr 0 0 0)),(3,(.bool (bif (c_1.Old.Id == 0) then (c_1.New.Id == c_1.Id) else false)))],[.box 6 (.agg [(.int .i64 c_1.Table),(.int .i64 c_1.Id),(.int .i64 c_1.Old.Id),(.lst 1 (c_1.Old.Cells.map (o7 3 l7))),(.int .i64 c_1.New.Id),(.lst 1 (c_1.New.Cells.map (o7 3 l7)))])]) ?_ ?_
 ·refine a0y<|y5 (.ptr 0 0 2) rfl trivial rfl<|y5 (.ptr 0 0 2) rfl trivial rfl<|y5 (.int .i64 c_1.Old.Id) rfl nle rfl<|y5 (.bool (c_1.Old.Id == 0)) rfl rfl rfl<|l9 (.bool (c_1.Old.Id == 0)) rfl<|?_;refine s_g (v:=(c_1.Old.Id == 0)) (.ptr 0 0 4) rfl (fun hv => by (try simp only [a4l hv]);exact ⟨rfl,trivial,rfl⟩) ?_;refine s_g (v:=(c_1.Old.Id == 0)) (.ptr 0 0 4) rfl (fun hv => by (try simp only [a4l hv]);exact ⟨rfl,trivial,rfl⟩) ?_;refine s_g (v:=(c_1.Old.Id == 0)) (.int .i64 c_1.New.Id) rfl (fun hv => by (try simp only [a4l hv]);exact ⟨rfl,nle,rfl⟩) ?_;refine s_g (v:=(c_1.Old.Id == 0)) (.ptr 0 0 1) rfl (fun hv => by (try simp only [a4l hv]);exact ⟨rfl,trivial,rfl⟩) ?_
  refine s_g (v:=(c_1.Old.Id == 0)) (.int .i64 c_1.Id) rfl (fun hv => by (try simp only [a4l hv]);exact ⟨rfl,nle,rfl⟩) ?_;refine s_g (v:=(c_1.Old.Id == 0)) (.bool (c_1.New.Id == c_1.Id)) rfl (fun hv => by (try simp only [a4l hv]);exact ⟨rfl,rfl,rfl⟩) ?_;refine c4o (x:=(c_1.New.Id == c_1.Id)) (y:=false) rfl (fun hv => by (try simp only [a4l hv]);rfl) (fun hv => by (try simp only [a4l hv]);rfl) ?_;refine l9 (.bool (bif (c_1.Old.Id == 0) then (c_1.New.Id == c_1.Id) else false)) rfl<|a0n<|?_;obtain rfl:=os hb1;exact ⟨[],[0],_,_,rfl,rfl,⟨.refl _,⟨.refl _,trivial⟩⟩,(.refl _)⟩
 ·rcases oi hf with ⟨c3,hf⟩ | ⟨c3,hf⟩
  ·refine y8 rfl c3<|sr<|l9 (.int .i64 1) rfl<|dk<|a0f<|?_;obtain rfl:=os hf;exact a0k ⟨trivial,trivial⟩ rfl (.refl _)
  ·refine y7 rfl (bf c3)<|o6<|?_
   obtain ⟨p4,hb1,hf⟩:=ob hf
   refine a1v ([(1,(.ptr 0 0 0)),(16,(.bool (bif (c_1.New.Id == 0) then (c_1.Old.Id == c_1.Id) else false)))],[.box 6 (.agg [(.int .i64 c_1.Table),(.int .i64 c_1.Id),(.int .i64 c_1.Old.Id),(.lst 1 (c_1.Old.Cells.map (o7 3 l7))),(.int .i64 c_1.New.Id),(.lst 1 (c_1.New.Cells.map (o7 3 l7)))])]) ?_ ?_
   ·refine a0y<|y5 (.ptr 0 0 4) rfl trivial rfl<|y5 (.ptr 0 0 4) rfl trivial rfl<|y5 (.int .i64 c_1.New.Id) rfl nle rfl<|y5 (.bool (c_1.New.Id == 0)) rfl rfl rfl<|l9 (.bool (c_1.New.Id == 0)) rfl<|?_;refine s_g (v:=(c_1.New.Id == 0)) (.ptr 0 0 2) rfl (fun hv => by (try simp only [a4l hv]);exact ⟨rfl,trivial,rfl⟩) ?_;refine s_g (v:=(c_1.New.Id == 0)) (.ptr 0 0 2) rfl (fun hv => by (try simp only [a4l hv]);exact ⟨rfl,trivial,rfl⟩) ?_;refine s_g (v:=(c_1.New.Id == 0)) (.int .i64 c_1.Old.Id) rfl (fun hv => by (try simp only [a4l hv]);exact ⟨rfl,nle,rfl⟩) ?_;refine s_g (v:=(c_1.New.Id == 0)) (.ptr 0 0 1) rfl (fun hv => by (try simp only [a4l hv]);exact ⟨rfl,trivial,rfl⟩) ?_
    refine s_g (v:=(c_1.New.Id == 0)) (.int .i64 c_1.Id) rfl (fun hv => by (try simp only [a4l hv]);exact ⟨rfl,nle,rfl⟩) ?_;refine s_g (v:=(c_1.New.Id == 0)) (.bool (c_1.Old.Id == c_1.Id)) rfl (fun hv => by (try simp only [a4l hv]);exact ⟨rfl,rfl,rfl⟩) ?_;refine c4o (x:=(c_1.Old.Id == c_1.Id)) (y:=false) rfl (fun hv => by (try simp only [a4l hv]);rfl) (fun hv => by (try simp only [a4l hv]);rfl) ?_;refine l9 (.bool (bif (c_1.New.Id == 0) then (c_1.Old.Id == c_1.Id) else false)) rfl<|a0n<|?_;obtain rfl:=os hb1;exact ⟨[],[0],_,_,rfl,rfl,⟨.refl _,⟨.refl _,trivial⟩⟩,(.refl _)⟩
   ·rcases oi hf with ⟨c5,hf⟩ | ⟨c5,hf⟩
    ·refine y8 rfl c5<|sr<|l9 (.int .i64 2) rfl<|dk<|a0f<|?_;obtain rfl:=os hf;exact a0k ⟨trivial,trivial⟩ rfl (.refl _)
    ·refine y7 rfl (bf c5)<|o6<|?_
     obtain ⟨p6,hb1,hf⟩:=ob hf
     refine a1v ([(29,(.bool (bif (c_1.Old.Id == c_1.Id) then (c_1.New.Id == c_1.Id) else false)))],[]) ?_ ?_
     ·refine a0y<|y5 (.ptr 0 0 2) rfl trivial rfl<|y5 (.ptr 0 0 2) rfl trivial rfl<|y5 (.int .i64 c_1.Old.Id) rfl nle rfl<|y5 (.ptr 0 0 1) rfl trivial rfl<|y5 (.int .i64 c_1.Id) rfl nle rfl<|y5 (.bool (c_1.Old.Id == c_1.Id)) rfl rfl rfl<|l9 (.bool (c_1.Old.Id == c_1.Id)) rfl<|?_;refine s_g (v:=(c_1.Old.Id == c_1.Id)) (.ptr 0 0 4) rfl (fun hv => by (try simp only [a4l hv]);exact ⟨rfl,trivial,rfl⟩) ?_;refine s_g (v:=(c_1.Old.Id == c_1.Id)) (.ptr 0 0 4) rfl (fun hv => by (try simp only [a4l hv]);exact ⟨rfl,trivial,rfl⟩) ?_;refine s_g (v:=(c_1.Old.Id == c_1.Id)) (.int .i64 c_1.New.Id) rfl (fun hv => by (try simp only [a4l hv]);exact ⟨rfl,nle,rfl⟩) ?_;refine s_g (v:=(c_1.Old.Id == c_1.Id)) (.ptr 0 0 1) rfl (fun hv => by (try simp only [a4l hv]);exact ⟨rfl,trivial,rfl⟩) ?_
      refine s_g (v:=(c_1.Old.Id == c_1.Id)) (.int .i64 c_1.Id) rfl (fun hv => by (try simp only [a4l hv]);exact ⟨rfl,nle,rfl⟩) ?_;refine s_g (v:=(c_1.Old.Id == c_1.Id)) (.bool (c_1.New.Id == c_1.Id)) rfl (fun hv => by (try simp only [a4l hv]);exact ⟨rfl,rfl,rfl⟩) ?_;refine c4o (x:=(c_1.New.Id == c_1.Id)) (y:=false) rfl (fun hv => by (try simp only [a4l hv]);rfl) (fun hv => by (try simp only [a4l hv]);rfl) ?_;refine l9 (.bool (bif (c_1.Old.Id == c_1.Id) then (c_1.New.Id == c_1.Id) else false)) rfl<|a0n<|?_;obtain rfl:=os hb1;exact ⟨[],[],_,_,rfl,rfl,⟨.refl _,trivial⟩,(.refl _)⟩
     ·rcases oi hf with ⟨c7,hf⟩ | ⟨c7,hf⟩
      ·refine y8 rfl c7<|sr<|l9 (.int .i64 3) rfl<|dk<|a0f<|?_;obtain rfl:=os hf;exact a0k ⟨trivial,trivial⟩ rfl (.refl _)
      ·refine y7 rfl (bf c7)<|a0e<|a2r<|a0h<|sr<|l9 (.int .i64 0) rfl<|dk<|a0f<|?_;obtain rfl:=os hf;exact a0k ⟨trivial,trivial⟩ rfl (.refl _)

/- spec.l05Place -/
def c42:a0r :=
 (.seq (.reg (tm 4 (.c (.int .i64 0)) .done))
 (.seq (.seq (.reg (tm 5 (.c (.int .i64 0)) .done))
 (.block 0 (.loop (.seq (.seq (.reg (tm 6 (.t 5) (tm 7 (.t 0) (tq 8 (.len (.t 7)) (tq 9 (.bin .lss (.t 6) (.t 8)) .done)))))
 (.cond (.t 9) .skip
 (.exit 0)))
 (.seq (.block 1 (.seq (.reg (tm 12 (.t 0) (tm 13 (.t 5) (tq 14 (.iaddr 2 (.t 12) (.t 13)) (tq 15 (.faddr 0 (.t 14)) (tq 16 (.load 1 false (.t 15)) (tm 17 (.t 1) (tq 18 (.bin .eql (.t 16) (.t 17)) .done))))))))
 (.cond (.t 18) (.seq (.reg (tm 19 (.t 5) (tm 4 (.t 19) .done)))
 .ret)
 .skip)))
 (.reg (tm 10 (.t 5) (tq 11 (.bin .add (.t 10) (.c (.int .i64 1))) (tm 5 (.t 11) .done)))))))))
 (.cut (.seq (.reg (tq 4 (.mov (.c (.int .i64 (-1)))) .done))
 .ret))))
theorem e5v:a1g Try.prog Try.f42 = some (c42.erase,[.mov (.t 4)],20):=by kernel_rfl
def a3p (id_2:Int):List x8 → Nat → Option (Fl Int Unit)
  | [],i_14 =>
    some (.go ())
  | x_28 :: xs,i_14 =>
    if (x_28.Id == id_2) then
    some (.ret (i_14:Int))
    else
    a3p id_2 xs (i_14 + 1)

def a7u (rows_1:(List x8)) (id_2:Int):Option Int :=
    (a3p id_2 rows_1 0).bind fun q => (match q with
    | .ret r => some r
    | .go _ =>
    some (-1))
theorem b5a (rows_1:(List x8)) (id_2:Int) (r:Int) (hf:a7u rows_1 id_2 = some r):a0b Try.prog 42 .flat [(.lst 2 (rows_1.map o5)),(.int .i64 id_2)] (.int .i64 r):=by
 refine a0b.of_awp mixed Try.func42 e5v nle ?_;rw [a0q];unfold a7u at hf;unfold c42;refine (show awp Try.prog false 0 _ (ofL [(0,(.lst 2 (rows_1.map o5))),(1,(.int .i64 id_2))]) [] _ from ?_);refine sr<|l9 (.int .i64 0) rfl<|dk<|o6<|sr<|l9 (.int .i64 0) rfl<|dk<|?_
 obtain ⟨p21,hb1,hf⟩:=ob hf
 refine a2q (X:={q:Unit // p21 = .go q}) (fun q => ([],[])) ?_ ?_
 ·refine a1d (X:={q:Nat // a3p id_2 (rows_1.drop q) q = some p21}) (fun q => ([(0,(.lst 2 (rows_1.map o5))),(1,(.int .i64 id_2)),(5,(.int .i64 (q.1:Int)))],[])) (fun q => rows_1.length - q.1) ⟨0,hb1⟩ ⟨[],[],_,_,rfl,rfl,⟨.refl _,⟨.refl _,⟨.refl _,trivial⟩⟩⟩,(.refl _)⟩ ?_
  rintro ⟨i_14,hc1⟩
  have hc1:a3p id_2 (rows_1.drop i_14) i_14 = some p21:=hc1
  refine (show awp Try.prog false 0 _ (ofL [(0,(.lst 2 (rows_1.map o5))),(1,(.int .i64 id_2)),(5,(.int .i64 (i_14:Int)))]) [] _ from ?_)
  rcases a4u rows_1 i_14 with ⟨hie24,hd27⟩ | ⟨hlt22,x_28,hx23,hd27⟩
  ·rw [hd27,a3p.eq_1] at hc1
   have hq26:=dlf hie24
   refine o6<|sr<|l9 (.int .i64 (i_14:Int)) rfl<|l9 (.lst 2 (rows_1.map o5)) rfl<|a0w (a1b (enc:=o5) rfl) fun hl29 => y5 (.bool (decide ((i_14:Int) < (rows_1.length:Int)))) rfl rfl rfl<|dk<|y7 rfl hq26<|a2e<|a2d<|a1l<|a2c<|?_;obtain rfl:=os hc1;exact a5g ⟨_,rfl⟩ ⟨[],[],_,_,rfl,rfl,trivial,(.refl _)⟩
  ·rw [hd27,a3p.eq_2] at hc1
   have hq26:=dlt hlt22
   refine o6<|sr<|l9 (.int .i64 (i_14:Int)) rfl<|l9 (.lst 2 (rows_1.map o5)) rfl<|a0w (a1b (enc:=o5) rfl) fun hl30 => y5 (.bool (decide ((i_14:Int) < (rows_1.length:Int)))) rfl rfl rfl<|dk<|y8 rfl hq26<|a0e<|a0h<|o6<|a2u<|sr<|l9 (.lst 2 (rows_1.map o5)) rfl<|l9 (.int .i64 (i_14:Int)) rfl<|a0a (a1h (enc:=o5) rfl rfl hx23)<|y5 (.iptr (o5 x_28) 0) rfl trivial rfl<|y5 (.int .i64 x_28.Id) rfl nle rfl<|l9 (.int .i64 id_2) rfl<|y5 (.bool (x_28.Id == id_2)) rfl rfl rfl<|dk<|?_
   rcases oi hc1 with ⟨c31,hc1⟩ | ⟨c31,hc1⟩
   ·refine y8 rfl c31<|sr<|l9 (.int .i64 (i_14:Int)) rfl<|l9 (.int .i64 (i_14:Int)) rfl<|dk<|a0f<|?_;obtain rfl:=os hc1;obtain rfl:=os hf;exact a0k ⟨trivial,trivial⟩ rfl (.refl _)
   ·refine y7 rfl (bf c31)<|a0e<|a2r<|a0h<|a0y<|l9 (.int .i64 (i_14:Int)) rfl<|y5 (.int .i64 (w64 ((i_14:Int) + 1))) rfl rfl rfl<|l9 (.int .i64 (w64 ((i_14:Int) + 1))) rfl<|a0n<|?_;exact a1j ⟨(i_14 + 1),hc1⟩ (mul hlt22) ⟨[],[],_,_,rfl,rfl,⟨.refl _,⟨.refl _,⟨.of_eq (congrArg (AV.int _) (a1k hlt22 hl30)),trivial⟩⟩⟩,(.refl _)⟩
 ·rintro ⟨_,rfl⟩
  refine sr<|l9 (.int .i64 (-1)) rfl<|dk<|a0f<|?_;obtain rfl:=os hf;exact a0k ⟨trivial,trivial⟩ rfl (.refl _)

/- spec.l10Row -/
def c40:a0r :=
 (.seq (.reg (tq 4 (.box 2 (.c (.agg [(.int .i64 0),.nil]))) .done))
 (.seq (.reg (tm 6 (.t 0) (tm 7 (.t 1) (tq 8 (.call 42 [(.t 6),(.t 7)]) (tm 5 (.t 8) .done)))))
 (.seq (.seq (.reg (tm 9 (.t 5) (tq 10 (.bin .lss (.t 9) (.c (.int .i64 0))) .done)))
 (.cond (.t 10) (.seq (.reg (tq 11 (.bslice 1 []) (tq 12 (.build [(.int .i64 0),.nil] [(1,1,(.t 11))]) (.q ⟨none,none,.store 2 (.t 4) (.t 12)⟩
 .done))))
 .ret)
 .skip))
 (.seq (.reg (tm 13 (.t 0) (tm 14 (.t 5) (tq 15 (.iaddr 2 (.t 13) (.t 14)) (tq 16 (.load 2 true (.t 15)) (tq 17 (.call 73 [(.t 16)]) (.q ⟨none,none,.store 2 (.t 4) (.t 17)⟩
 .done)))))))
 .ret))))
theorem e5w:a1g Try.prog Try.f40 = some (c40.erase,[.load 2 true (.t 4)],18):=by kernel_rfl
def b1z (rows_1:(List x8)) (id_2:Int):Option x8 :=
    (a7u rows_1 id_2).bind fun r_3 =>
    if (decide (r_3 < 0)) then
    some (⟨0,[]⟩:x8)
    else
    (idx rows_1 r_3).bind fun x_6 =>
    (a6d x_6).bind fun r_8 =>
    some r_8
theorem c6e (rows_1:(List x8)) (id_2:Int) (r:x8) (hf:b1z rows_1 id_2 = some r):a0b Try.prog 40 .fresh [(.lst 2 (rows_1.map o5)),(.int .i64 id_2)] (o5 r):=by
 refine a0b.of_awp mixed Try.func40 e5w nle ?_;rw [a0q];unfold b1z at hf;unfold c40;refine (show awp Try.prog true 0 _ (ofL [(0,(.lst 2 (rows_1.map o5))),(1,(.int .i64 id_2))]) [] _ from ?_);refine sr<|a0a (a1m (j:=0) (c:=(.agg [(.int .i64 0),.nil])) rfl trivial rfl rfl)<|dk<|sr<|?_
 obtain ⟨r_3,er4,hf⟩:=ob hf
 refine l9 (.lst 2 (rows_1.map o5)) rfl<|l9 (.int .i64 id_2) rfl<|a0a (a1o (b5a _ _ _ er4) rfl (.refl _) rfl)<|l9 (.int .i64 r_3) rfl<|dk<|o6<|sr<|l9 (.int .i64 r_3) rfl<|y5 (.bool (decide (r_3 < 0))) rfl rfl rfl<|dk<|?_
 rcases oi hf with ⟨c5,hf⟩ | ⟨c5,hf⟩
 ·refine y8 rfl c5<|sr<|?_;refine a0a (a3k (j:=1) (as':=[]) rfl (fun _ => by decide) trivial (.refl _) rfl rfl rfl) ?_;refine y5 (.agg [(.int .i64 0),(.own 1 0 0)]) rfl ⟨⟨rfl,nle,trivial⟩,trivial⟩ rfl<|a1p (a0i (v:=(.agg [(.int .i64 0),(.own 1 0 0)])) (y':=(.agg [(.int .i64 0),(.own 1 0 0)])) rfl rfl rfl trivial ⟨rfl,nle⟩ ⟨⟨rfl,trivial⟩,⟨⟨rfl,trivial⟩,trivial⟩⟩ rfl)<|dk<|a0f<|?_;obtain rfl:=os hf;exact a5e ⟨nle,trivial⟩ rfl (by decide) (.refl _)
 ·refine y7 rfl (bf c5)<|a0e<|a0h<|sr<|?_
  obtain ⟨x_6,ex7,hf⟩:=ob hf
  obtain ⟨r_8,er9,hf⟩:=ob hf
  refine l9 (.lst 2 (rows_1.map o5)) rfl<|l9 (.int .i64 r_3) rfl<|a0a (a5k (enc:=o5) rfl rfl (b5j ex7) (b5k ex7))<|y5 (o5 x_6) rfl nle rfl<|a0a (a3j (v:=(.agg [(.int .i64 r_8.Id),(.own 1 0 r_8.Cells.length)])) (h':=[.row 1 (r_8.Cells.map (o7 3 l7))]) (b1k _ _ er9) rfl (.refl _) (by simp only [a1r,a1q,List.length_map,a8f,List.nil_append,List.append_nil,List.cons_append];rfl))<|a1p (a0i (v:=(.agg [(.int .i64 r_8.Id),(.own 1 0 r_8.Cells.length)])) (y':=(.agg [(.int .i64 r_8.Id),(.own 1 0 r_8.Cells.length)])) rfl rfl rfl trivial ⟨rfl,nle⟩ ⟨⟨rfl,trivial⟩,⟨⟨rfl,trivial⟩,trivial⟩⟩ rfl)<|dk<|?_
  refine a0f ?_;obtain rfl:=os hf;exact a5e ⟨nle,trivial⟩ rfl (by decide) (.agg (.cons (.refl _) (.cons (.of_eq (congrArg (AV.lst _) (tk (enc:=(o7 3 l7)) r_8.Cells))) .nil)))

/- spec.l03Same -/
def c74:a0r :=
 (.seq (.reg (tm 4 (.c (.bool false)) .done))
 (.seq (.seq (.reg (tm 6 (.t 0) (tq 7 (.len (.t 6)) (tm 8 (.t 1) (tq 9 (.len (.t 8)) (tq 10 (.bin .neq (.t 7) (.t 9)) .done))))))
 (.cond (.t 10) (.seq (.reg (tm 4 (.c (.bool false)) .done))
 .ret)
 .skip))
 (.seq (.seq (.reg (tm 5 (.c (.int .i64 0)) .done))
 (.block 0 (.loop (.seq (.seq (.reg (tm 11 (.t 5) (tm 12 (.t 0) (tq 13 (.len (.t 12)) (tq 14 (.bin .lss (.t 11) (.t 13)) .done)))))
 (.cond (.t 14) .skip
 (.exit 0)))
 (.seq (.block 1 (.seq (.reg (tm 17 (.t 0) (tm 18 (.t 5) (tq 19 (.iaddr 3 (.t 17) (.t 18)) (tq 20 (.load 3 true (.t 19)) (tm 21 (.t 1) (tm 22 (.t 5) (tq 23 (.iaddr 3 (.t 21) (.t 22)) (tq 24 (.load 3 true (.t 23)) (tq 25 (.eqs true [0,0,2] (.t 20) (.t 24)) .done))))))))))
 (.cond (.t 25) (.seq (.reg (tm 4 (.c (.bool false)) .done))
 .ret)
 .skip)))
 (.reg (tm 15 (.t 5) (tq 16 (.bin .add (.t 15) (.c (.int .i64 1))) (tm 5 (.t 16) .done)))))))))
 (.cut (.seq (.reg (tm 4 (.c (.bool true)) .done))
 .ret)))))
theorem e5x:a1g Try.prog Try.f74 = some (c74.erase,[.mov (.t 4)],26):=by kernel_rfl
def a4e (b_2:(List a0c)):List a0c → Nat → Option (Fl Bool Unit)
  | [],i_21 =>
    some (.go ())
  | x_37 :: xs,i_21 =>
    (idx b_2 (i_21:Int)).bind fun x_40 =>
    if (!(x_37.Kind == x_40.Kind && (x_37.N == x_40.N && (x_37.T == x_40.T && true)))) then
    some (.ret false)
    else
    a4e b_2 xs (i_21 + 1)

def b1a (a_1:(List a0c)) (b_2:(List a0c)):Option Bool :=
    if ((a_1.length:Int) != (b_2.length:Int)) then
    some false
    else
    (a4e b_2 a_1 0).bind fun q => (match q with
    | .ret r => some r
    | .go _ =>
    some true)
theorem c4z (a_1:(List a0c)) (b_2:(List a0c)) (r:Bool) (hf:b1a a_1 b_2 = some r):a0b Try.prog 74 .flat [(.lst 3 (a_1.map l7)),(.lst 3 (b_2.map l7))] (.bool r):=by
 refine a0b.of_awp mixed Try.func74 e5x nle ?_;rw [a0q];unfold b1a at hf;unfold c74;refine (show awp Try.prog false 0 _ (ofL [(0,(.lst 3 (a_1.map l7))),(1,(.lst 3 (b_2.map l7)))]) [] _ from ?_);refine sr<|l9 (.bool false) rfl<|dk<|o6<|sr<|l9 (.lst 3 (a_1.map l7)) rfl<|a0w (a1b (enc:=l7) rfl) fun hl3 => l9 (.lst 3 (b_2.map l7)) rfl<|a0w (a1b (enc:=l7) rfl) fun hl4 => y5 (.bool ((a_1.length:Int) != (b_2.length:Int))) rfl rfl rfl<|dk<|?_
 rcases oi hf with ⟨c5,hf⟩ | ⟨c5,hf⟩
 ·refine y8 rfl c5<|sr<|l9 (.bool false) rfl<|dk<|a0f<|?_;obtain rfl:=os hf;exact a0k ⟨trivial,trivial⟩ rfl (.refl _)
 ·refine y7 rfl (bf c5)<|a0e<|a0h<|o6<|sr<|l9 (.int .i64 0) rfl<|dk<|?_
  obtain ⟨p30,hb1,hf⟩:=ob hf
  refine a2q (X:={q:Unit // p30 = .go q}) (fun q => ([],[])) ?_ ?_
  ·refine a1d (X:={q:Nat // a4e b_2 (a_1.drop q) q = some p30}) (fun q => ([(0,(.lst 3 (a_1.map l7))),(1,(.lst 3 (b_2.map l7))),(5,(.int .i64 (q.1:Int)))],[])) (fun q => a_1.length - q.1) ⟨0,hb1⟩ ⟨[],[],_,_,rfl,rfl,⟨.refl _,⟨.refl _,⟨.refl _,trivial⟩⟩⟩,(.refl _)⟩ ?_
   rintro ⟨i_21,hc1⟩
   have hc1:a4e b_2 (a_1.drop i_21) i_21 = some p30:=hc1
   refine (show awp Try.prog false 0 _ (ofL [(0,(.lst 3 (a_1.map l7))),(1,(.lst 3 (b_2.map l7))),(5,(.int .i64 (i_21:Int)))]) [] _ from ?_)
   rcases a4u a_1 i_21 with ⟨hie33,hd36⟩ | ⟨hlt31,x_37,hx32,hd36⟩
   ·rw [hd36,a4e.eq_1] at hc1
    have hq35:=dlf hie33
    refine o6<|sr<|l9 (.int .i64 (i_21:Int)) rfl<|l9 (.lst 3 (a_1.map l7)) rfl<|a0w (a1b (enc:=l7) rfl) fun hl38 => y5 (.bool (decide ((i_21:Int) < (a_1.length:Int)))) rfl rfl rfl<|dk<|y7 rfl hq35<|a2e<|a2d<|a1l<|a2c<|?_;obtain rfl:=os hc1;exact a5g ⟨_,rfl⟩ ⟨[],[],_,_,rfl,rfl,trivial,(.refl _)⟩
   ·rw [hd36,a4e.eq_2] at hc1
    have hq35:=dlt hlt31
    refine o6<|sr<|l9 (.int .i64 (i_21:Int)) rfl<|l9 (.lst 3 (a_1.map l7)) rfl<|a0w (a1b (enc:=l7) rfl) fun hl39 => y5 (.bool (decide ((i_21:Int) < (a_1.length:Int)))) rfl rfl rfl<|dk<|y8 rfl hq35<|a0e<|a0h<|o6<|a2u<|sr<|?_
    obtain ⟨x_40,ex41,hc1⟩:=ob hc1
    refine l9 (.lst 3 (a_1.map l7)) rfl<|l9 (.int .i64 (i_21:Int)) rfl<|a0a (a1h (enc:=l7) rfl rfl hx32)<|y5 (l7 x_37) rfl nle rfl<|l9 (.lst 3 (b_2.map l7)) rfl<|l9 (.int .i64 (i_21:Int)) rfl<|a0a (a5k (enc:=l7) rfl rfl (b5j ex41) (b5k ex41))<|y5 (l7 x_40) rfl nle rfl<|y5 (.bool (!(x_37.Kind == x_40.Kind && (x_37.N == x_40.N && (x_37.T == x_40.T && true))))) rfl ⟨⟨rfl,rfl⟩,⟨⟨rfl,rfl⟩,⟨rfl,trivial⟩⟩⟩ rfl<|dk<|?_
    rcases oi hc1 with ⟨c42,hc1⟩ | ⟨c42,hc1⟩
    ·refine y8 rfl c42<|sr<|l9 (.bool false) rfl<|dk<|a0f<|?_;obtain rfl:=os hc1;obtain rfl:=os hf;exact a0k ⟨trivial,trivial⟩ rfl (.refl _)
    ·refine y7 rfl (bf c42)<|a0e<|a2r<|a0h<|a0y<|l9 (.int .i64 (i_21:Int)) rfl<|y5 (.int .i64 (w64 ((i_21:Int) + 1))) rfl rfl rfl<|l9 (.int .i64 (w64 ((i_21:Int) + 1))) rfl<|a0n<|?_;exact a1j ⟨(i_21 + 1),hc1⟩ (mul hlt31) ⟨[],[],_,_,rfl,rfl,⟨.refl _,⟨.refl _,⟨.of_eq (congrArg (AV.int _) (a1k hlt31 hl39)),trivial⟩⟩⟩,(.refl _)⟩
  ·rintro ⟨_,rfl⟩
   refine sr<|l9 (.bool true) rfl<|dk<|a0f<|?_;obtain rfl:=os hf;exact a0k ⟨trivial,trivial⟩ rfl (.refl _)

/- spec.l05SameRow -/
def c39:a0r :=
 (.seq (.reg (tq 2 (.box 2 (.t 0)) (tq 3 (.box 2 (.t 1)) (tm 4 (.c (.bool false)) .done))))
 (.seq (.seq (.reg (tq 6 (.faddr 0 (.t 2)) (tq 7 (.load 1 false (.t 6)) (tq 8 (.faddr 0 (.t 3)) (tq 9 (.load 1 false (.t 8)) (tq 10 (.bin .neq (.t 7) (.t 9)) (tm 11 (.t 10) (tg 12 11 false (.faddr 1 (.t 2)) (tg 13 11 false (.load 1 false (.t 12)) (tg 14 11 false (.len (.t 13)) (tg 15 11 false (.faddr 1 (.t 3)) (tg 16 11 false (.load 1 false (.t 15)) (tg 17 11 false (.len (.t 16)) (tg 18 11 false (.bin .neq (.t 14) (.t 17)) (tq 19 (.pick (.t 11) (.c (.bool true)) (.t 18)) .done)))))))))))))))
 (.cut (.cond (.t 19) (.seq (.reg (tm 4 (.c (.bool false)) .done))
 .ret)
 .skip)))
 (.seq (.seq (.reg (tm 5 (.c (.int .i64 0)) .done))
 (.block 0 (.loop (.seq (.seq (.reg (tm 20 (.t 5) (tq 21 (.faddr 1 (.t 2)) (tq 22 (.load 1 false (.t 21)) (tq 23 (.len (.t 22)) (tq 24 (.bin .lss (.t 20) (.t 23)) .done))))))
 (.cond (.t 24) .skip
 (.exit 0)))
 (.seq (.block 1 (.seq (.reg (tq 27 (.faddr 1 (.t 2)) (tq 28 (.load 1 false (.t 27)) (tm 29 (.t 5) (tq 30 (.iaddr 1 (.t 28) (.t 29)) (tq 31 (.load 1 false (.t 30)) (tq 32 (.faddr 1 (.t 3)) (tq 33 (.load 1 false (.t 32)) (tm 34 (.t 5) (tq 35 (.iaddr 1 (.t 33) (.t 34)) (tq 36 (.load 1 false (.t 35)) (.l ⟨(some 37),none,.call 74 [(.t 31),(.t 36)]⟩ []
 (tq 38 (.not (.t 37)) .done) .non))))))))))))
 (.cond (.t 38) (.seq (.reg (tm 4 (.c (.bool false)) .done))
 .ret)
 .skip)))
 (.reg (tm 25 (.t 5) (tq 26 (.bin .add (.t 25) (.c (.int .i64 1))) (tm 5 (.t 26) .done)))))))))
 (.cut (.seq (.reg (tm 4 (.c (.bool true)) .done))
 .ret)))))
theorem e5y:a1g Try.prog Try.f39 = some (c39.erase,[.mov (.t 4)],39):=by kernel_rfl
def a2l (b_2:x8):List (List a0c) → Nat → Option (Fl Bool Unit)
  | [],i_28 =>
    some (.go ())
  | x_46 :: xs,i_28 =>
    (idx b_2.Cells (i_28:Int)).bind fun x_49 =>
    (b1a x_46 x_49).bind fun r_51 =>
    if (!r_51) then
    some (.ret false)
    else
    a2l b_2 xs (i_28 + 1)

def a7p (a_1:x8) (b_2:x8):Option Bool :=
    ((some ():Option Unit)).bind fun _ =>
    if (bif (a_1.Id != b_2.Id) then true else ((a_1.Cells.length:Int) != (b_2.Cells.length:Int))) then
    some false
    else
    (a2l b_2 a_1.Cells 0).bind fun q => (match q with
    | .ret r => some r
    | .go _ =>
    some true)
theorem b9p (a_1:x8) (b_2:x8) (r:Bool) (hf:a7p a_1 b_2 = some r):a0b Try.prog 39 .flat [(o5 a_1),(o5 b_2)] (.bool r):=by
 refine a0b.of_awp mixed Try.func39 e5y nle ?_;rw [a0q];unfold a7p at hf;unfold c39;refine (show awp Try.prog false 0 _ (ofL [(0,(o5 a_1)),(1,(o5 b_2))]) [] _ from ?_);refine sr<|a0a (a1m (j:=0) (c:=(.agg [(.int .i64 a_1.Id),(.lst 1 (a_1.Cells.map (o7 3 l7)))])) rfl trivial rfl rfl)<|a0a (a1m (j:=1) (c:=(.agg [(.int .i64 b_2.Id),(.lst 1 (b_2.Cells.map (o7 3 l7)))])) rfl trivial rfl rfl)<|l9 (.bool false) rfl<|dk<|o6<|o6<|?_
 obtain ⟨p5,hb1,hf⟩:=ob hf
 refine a1v ([(2,(.ptr 0 0 0)),(3,(.ptr 1 0 0)),(19,(.bool (bif (a_1.Id != b_2.Id) then true else ((a_1.Cells.length:Int) != (b_2.Cells.length:Int)))))],[.box 2 (.agg [(.int .i64 a_1.Id),(.lst 1 (a_1.Cells.map (o7 3 l7)))]),.box 2 (.agg [(.int .i64 b_2.Id),(.lst 1 (b_2.Cells.map (o7 3 l7)))])]) ?_ ?_
 ·refine a0y<|y5 (.ptr 0 0 0) rfl trivial rfl<|y5 (.int .i64 a_1.Id) rfl nle rfl<|y5 (.ptr 1 0 0) rfl trivial rfl<|y5 (.int .i64 b_2.Id) rfl nle rfl<|y5 (.bool (a_1.Id != b_2.Id)) rfl rfl rfl<|l9 (.bool (a_1.Id != b_2.Id)) rfl<|?_;refine s_g (v:=(a_1.Id != b_2.Id)) (.ptr 0 0 1) rfl (fun hv => by (try simp only [a4l hv]);exact ⟨rfl,trivial,rfl⟩) ?_;refine s_g (v:=(a_1.Id != b_2.Id)) (.lst 1 (a_1.Cells.map (o7 3 l7))) rfl (fun hv => by (try simp only [a4l hv]);exact ⟨rfl,nle,rfl⟩) ?_;refine s_g (v:=(a_1.Id != b_2.Id)) (.int .i64 (a_1.Cells.length:Int)) rfl (fun hv => by (try simp only [a4l hv]);exact ⟨rfl,trivial,lenV _ _⟩) ?_;refine s_g (v:=(a_1.Id != b_2.Id)) (.ptr 1 0 1) rfl (fun hv => by (try simp only [a4l hv]);exact ⟨rfl,trivial,rfl⟩) ?_
  refine s_g (v:=(a_1.Id != b_2.Id)) (.lst 1 (b_2.Cells.map (o7 3 l7))) rfl (fun hv => by (try simp only [a4l hv]);exact ⟨rfl,nle,rfl⟩) ?_;refine s_g (v:=(a_1.Id != b_2.Id)) (.int .i64 (b_2.Cells.length:Int)) rfl (fun hv => by (try simp only [a4l hv]);exact ⟨rfl,trivial,lenV _ _⟩) ?_;refine s_g (v:=(a_1.Id != b_2.Id)) (.bool ((a_1.Cells.length:Int) != (b_2.Cells.length:Int))) rfl (fun hv => by (try simp only [a4l hv]);exact ⟨rfl,rfl,rfl⟩) ?_;refine c4o (x:=true) (y:=((a_1.Cells.length:Int) != (b_2.Cells.length:Int))) rfl (fun hv => by (try simp only [a4l hv]);rfl) (fun hv => by (try simp only [a4l hv]);rfl) ?_;refine a0n ?_;obtain rfl:=os hb1;exact ⟨[],[0,1],_,_,rfl,rfl,⟨.refl _,⟨.refl _,⟨.refl _,trivial⟩⟩⟩,(.refl _)⟩
 ·rcases oi hf with ⟨c8,hf⟩ | ⟨c8,hf⟩
  ·refine y8 rfl c8<|sr<|l9 (.bool false) rfl<|dk<|a0f<|?_;obtain rfl:=os hf;exact a0k ⟨trivial,trivial⟩ rfl (.refl _)
  ·refine y7 rfl (bf c8)<|a0e<|a0h<|o6<|sr<|l9 (.int .i64 0) rfl<|dk<|?_
   obtain ⟨p39,hb1,hf⟩:=ob hf
   refine a2q (X:={q:Unit // p39 = .go q}) (fun q => ([],[])) ?_ ?_
   ·refine a1d (X:={q:Nat // a2l b_2 (a_1.Cells.drop q) q = some p39}) (fun q => ([(2,(.ptr 0 0 0)),(3,(.ptr 1 0 0)),(5,(.int .i64 (q.1:Int)))],[.box 2 (.agg [(.int .i64 a_1.Id),(.lst 1 (a_1.Cells.map (o7 3 l7)))]),.box 2 (.agg [(.int .i64 b_2.Id),(.lst 1 (b_2.Cells.map (o7 3 l7)))])])) (fun q => a_1.Cells.length - q.1) ⟨0,hb1⟩ ⟨[],[0,1],_,_,rfl,rfl,⟨.refl _,⟨.refl _,⟨.refl _,trivial⟩⟩⟩,(.refl _)⟩ ?_
    rintro ⟨i_28,hc1⟩
    have hc1:a2l b_2 (a_1.Cells.drop i_28) i_28 = some p39:=hc1
    refine (show awp Try.prog false 0 _ (ofL [(2,(.ptr 0 0 0)),(3,(.ptr 1 0 0)),(5,(.int .i64 (i_28:Int)))]) [.box 2 (.agg [(.int .i64 a_1.Id),(.lst 1 (a_1.Cells.map (o7 3 l7)))]),.box 2 (.agg [(.int .i64 b_2.Id),(.lst 1 (b_2.Cells.map (o7 3 l7)))])] _ from ?_)
    rcases a4u a_1.Cells i_28 with ⟨hie42,hd45⟩ | ⟨hlt40,x_46,hx41,hd45⟩
    ·rw [hd45,a2l.eq_1] at hc1
     have hq44:=dlf hie42
     refine o6<|sr<|l9 (.int .i64 (i_28:Int)) rfl<|y5 (.ptr 0 0 1) rfl trivial rfl<|y5 (.lst 1 (a_1.Cells.map (o7 3 l7))) rfl nle rfl<|a0w (a1b (enc:=(o7 3 l7)) rfl) fun hl47 => y5 (.bool (decide ((i_28:Int) < (a_1.Cells.length:Int)))) rfl rfl rfl<|dk<|y7 rfl hq44<|a2e<|a2d<|a1l<|a2c<|?_;obtain rfl:=os hc1;exact a5g ⟨_,rfl⟩ ⟨[],[],_,_,rfl,rfl,trivial,(.refl _)⟩
    ·rw [hd45,a2l.eq_2] at hc1
     have hq44:=dlt hlt40
     refine o6<|sr<|l9 (.int .i64 (i_28:Int)) rfl<|y5 (.ptr 0 0 1) rfl trivial rfl<|y5 (.lst 1 (a_1.Cells.map (o7 3 l7))) rfl nle rfl<|a0w (a1b (enc:=(o7 3 l7)) rfl) fun hl48 => y5 (.bool (decide ((i_28:Int) < (a_1.Cells.length:Int)))) rfl rfl rfl<|dk<|y8 rfl hq44<|a0e<|a0h<|o6<|a2u<|sr<|?_
     obtain ⟨x_49,ex50,hc1⟩:=ob hc1
     obtain ⟨r_51,er52,hc1⟩:=ob hc1
     refine y5 (.ptr 0 0 1) rfl trivial rfl<|y5 (.lst 1 (a_1.Cells.map (o7 3 l7))) rfl nle rfl<|l9 (.int .i64 (i_28:Int)) rfl<|a0a (a1h (enc:=(o7 3 l7)) rfl rfl hx41)<|y5 (.lst 3 (x_46.map l7)) rfl ⟨rfl,rfl⟩ rfl<|y5 (.ptr 1 0 1) rfl trivial rfl<|y5 (.lst 1 (b_2.Cells.map (o7 3 l7))) rfl nle rfl<|l9 (.int .i64 (i_28:Int)) rfl<|a0a (a5k (enc:=(o7 3 l7)) rfl rfl (b5j ex50) (b5k ex50))<|y5 (.lst 3 (x_49.map l7)) rfl ⟨rfl,rfl⟩ rfl<|a5c (a1o (c4z _ _ _ er52) rfl (.refl _) rfl) a6y trivial<|y5 (.bool (!r_51)) rfl trivial rfl<|dk<|?_
     rcases oi hc1 with ⟨c53,hc1⟩ | ⟨c53,hc1⟩
     ·refine y8 rfl c53<|sr<|l9 (.bool false) rfl<|dk<|a0f<|?_;obtain rfl:=os hc1;obtain rfl:=os hf;exact a0k ⟨trivial,trivial⟩ rfl (.refl _)
     ·refine y7 rfl (bf c53)<|a0e<|a2r<|a0h<|a0y<|l9 (.int .i64 (i_28:Int)) rfl<|y5 (.int .i64 (w64 ((i_28:Int) + 1))) rfl rfl rfl<|l9 (.int .i64 (w64 ((i_28:Int) + 1))) rfl<|a0n<|?_;exact a1j ⟨(i_28 + 1),hc1⟩ (mul hlt40) ⟨[],[0,1],_,_,rfl,rfl,⟨.refl _,⟨.refl _,⟨.of_eq (congrArg (AV.int _) (a1k hlt40 hl48)),trivial⟩⟩⟩,(.refl _)⟩
   ·rintro ⟨_,rfl⟩
    refine sr<|l9 (.bool true) rfl<|dk<|a0f<|?_;obtain rfl:=os hf;exact a0k ⟨trivial,trivial⟩ rfl (.refl _)

/- spec.l05Drop -/
def c41:a0r :=
 (.seq (.reg (tq 3 (.box 2 (.t 0)) (tq 6 (.box 2 (.c (.agg [.nil,(.int .i64 0)]))) .done)))
 (.seq (.reg (tq 7 (.load 2 true (.t 3)) (tq 8 (.call 37 [(.t 7)]) (.q ⟨none,none,.store 2 (.t 3) (.t 8)⟩
 .done))))
 (.seq (.reg (tq 9 (.faddr 0 (.t 3)) (tq 10 (.load 1 false (.t 9)) (tm 11 (.t 1) (tq 13 (.faddr 0 (.t 3)) (tq 14 (.load 1 false (.t 13)) (tm 15 (.t 1) (tq 16 (.iaddr 1 (.t 14) (.t 15)) (tq 17 (.load 1 false (.t 16)) (tm 18 (.t 2) (tq 19 (.slice 2 (.t 17) none (some (.t 18))) (tq 21 (.faddr 0 (.t 3)) (tq 22 (.load 1 false (.t 21)) (tm 23 (.t 1) (tq 24 (.iaddr 1 (.t 22) (.t 23)) (tq 25 (.load 1 false (.t 24)) (tm 26 (.t 2) (tq 27 (.bin .add (.t 26) (.c (.int .i64 1))) (tq 28 (.slice 2 (.t 25) (some (.t 27)) none) (.l ⟨(some 12),none,.bslice 2 []⟩ [⟨(some 28),none,.slice 2 (.t 25) (some (.t 27)) none⟩,⟨(some 25),none,.load 1 false (.t 24)⟩,⟨(some 24),none,.iaddr 1 (.t 22) (.t 23)⟩,⟨(some 22),none,.load 1 false (.t 21)⟩,⟨(some 21),none,.faddr 0 (.t 3)⟩,⟨(some 19),none,.slice 2 (.t 17) none (some (.t 18))⟩,⟨(some 17),none,.load 1 false (.t 16)⟩,⟨(some 16),none,.iaddr 1 (.t 14) (.t 15)⟩,⟨(some 14),none,.load 1 false (.t 13)⟩,⟨(some 13),none,.faddr 0 (.t 3)⟩,⟨(some 10),none,.load 1 false (.t 9)⟩,⟨(some 9),none,.faddr 0 (.t 3)⟩]
 (.l ⟨(some 20),none,.append 2 32 (.t 12) (.t 19)⟩ [⟨(some 28),none,.slice 2 (.t 25) (some (.t 27)) none⟩,⟨(some 25),none,.load 1 false (.t 24)⟩,⟨(some 24),none,.iaddr 1 (.t 22) (.t 23)⟩,⟨(some 22),none,.load 1 false (.t 21)⟩,⟨(some 21),none,.faddr 0 (.t 3)⟩,⟨(some 10),none,.load 1 false (.t 9)⟩,⟨(some 9),none,.faddr 0 (.t 3)⟩]
 (.l ⟨(some 29),none,.append 2 32 (.t 20) (.t 28)⟩ [⟨(some 10),none,.load 1 false (.t 9)⟩,⟨(some 9),none,.faddr 0 (.t 3)⟩]
 (tq 30 (.iaddr 1 (.t 10) (.t 11)) (.l ⟨none,none,.store 1 (.t 30) (.t 29)⟩ []
 .done .non)) .non) .non) .non))))))))))))))))))))
 (.seq (.reg (tq 31 (.load 2 true (.t 3)) (.q ⟨none,none,.store 2 (.t 6) (.t 31)⟩
 .done)))
 .ret))))
theorem e5z:a1g Try.prog Try.f41 = some (c41.erase,[.load 2 true (.t 6)],32):=by kernel_rfl
def b1b (x_1:a0l) (table_2:Int) (k_3:Int):Option a0l :=
    (a8h x_1).bind fun r_4 =>
    if (0:Int) ≤ table_2 ∧ table_2 < (r_4.Tables.length:Int) then
    (r_4.Tables[(0 + table_2.toNat)]?).bind fun x_7 =>
    if (0:Int) ≤ k_3 ∧ k_3 ≤ (x_7.length:Int) then
    if (0:Int) ≤ table_2 ∧ table_2 < (r_4.Tables.length:Int) then
    if (0:Int) ≤ w64 (k_3 + 1) ∧ w64 (k_3 + 1) ≤ (x_7.length:Int) then
    if ([] ++ (x_7.take k_3.toNat)).length ≤ 2 ^ 30 then
    if (([] ++ (x_7.take k_3.toNat)) ++ (x_7.drop ((w64 (k_3 + 1)).toNat))).length ≤ 2 ^ 30 then
    if (0:Int) ≤ table_2 ∧ table_2 < (r_4.Tables.length:Int) then
    some (⟨r_4.Tables.set (0 + table_2.toNat) (([] ++ (x_7.take k_3.toNat)) ++ (x_7.drop ((w64 (k_3 + 1)).toNat))),r_4.Next⟩:a0l)
    else none
    else none
    else none
    else none
    else none
    else none
    else none
theorem c5a (x_1:a0l) (table_2:Int) (k_3:Int) (r:a0l) (hf:b1b x_1 table_2 k_3 = some r):a0b Try.prog 41 .weak [(a0z x_1),(.int .i64 table_2),(.int .i64 k_3)] (a0z r):=by
 refine a0b.of_awp mixed Try.func41 e5z nle ?_;rw [a0q];unfold b1b at hf;unfold c41;refine (show awp Try.prog false 0 _ (ofL [(0,(a0z x_1)),(1,(.int .i64 table_2)),(2,(.int .i64 k_3))]) [] _ from ?_);refine sr<|a0a (a1m (j:=0) (c:=(.agg [(.lst 1 (x_1.Tables.map (o7 2 o5))),(.int .i64 x_1.Next)])) rfl trivial rfl rfl)<|a0a (a1m (j:=1) (c:=(.agg [.nil,(.int .i64 0)])) rfl trivial rfl rfl)<|dk<|sr<|?_
 obtain ⟨r_4,er5,hf⟩:=ob hf
 refine y5 (.agg [(.lst 1 (x_1.Tables.map (o7 2 o5))),(.int .i64 x_1.Next)]) rfl nle rfl<|a0a (a3j (v:=(.agg [(.own 2 0 r_4.Tables.length),(.int .i64 r_4.Next)])) (h':=[.row 1 (r_4.Tables.map (o7 2 o5))]) (b3q _ _ er5) rfl (.refl _) (by simp only [a1r,a1q,List.length_map,a5w,List.nil_append,List.append_nil,List.cons_append];rfl))<|a1p (a0i (v:=(.agg [(.own 2 0 r_4.Tables.length),(.int .i64 r_4.Next)])) (y':=(.agg [(.own 2 0 r_4.Tables.length),(.int .i64 r_4.Next)])) rfl rfl rfl trivial ⟨rfl,nle⟩ ⟨⟨rfl,trivial⟩,⟨⟨rfl,trivial⟩,trivial⟩⟩ rfl)<|dk<|sr<|y5 (.ptr 0 0 0) rfl trivial rfl<|y5 (.own 2 0 r_4.Tables.length) rfl nle rfl<|?_
 refine l9 (.int .i64 table_2) rfl<|y5 (.ptr 0 0 0) rfl trivial rfl<|y5 (.own 2 0 r_4.Tables.length) rfl nle rfl<|l9 (.int .i64 table_2) rfl<|?_
 obtain ⟨g6,hf⟩:=og hf
 refine a0a (a2g rfl rfl g6.1 g6.2 rfl rfl) ?_
 obtain ⟨x_7,ex8,hf⟩:=ob hf
 refine a0a (c0t (enc:=(o7 2 o5)) (v:=(.lst 2 (x_7.map o5))) rfl rfl ex8 ⟨rfl,rfl⟩ rfl)<|l9 (.int .i64 k_3) rfl<|?_
 obtain ⟨g9,hf⟩:=og hf
 refine a0a (d6z (enc:=o5) rfl rfl g9.1 g9.2)<|y5 (.ptr 0 0 0) rfl trivial rfl<|y5 (.own 2 0 r_4.Tables.length) rfl nle rfl<|l9 (.int .i64 table_2) rfl<|?_
 obtain ⟨g10,hf⟩:=og hf
 refine a0a (a2g rfl rfl g10.1 g10.2 rfl rfl)<|a0a (c0t (enc:=(o7 2 o5)) (v:=(.lst 2 (x_7.map o5))) rfl rfl ex8 ⟨rfl,rfl⟩ rfl)<|l9 (.int .i64 k_3) rfl<|y5 (.int .i64 (w64 (k_3 + 1))) rfl rfl rfl<|?_
 obtain ⟨g11,hf⟩:=og hf
 refine a0a (d3r (enc:=o5) rfl rfl g11.1 g11.2) ?_;refine a5c (a3k (j:=3) (as':=[]) rfl (fun _ => by decide) trivial (.refl _) rfl rfl rfl) (.inr ⟨(d7c (enc:=o5) rfl rfl g11.1 g11.2),⟨(b8l (enc:=(o7 2 o5)) (v:=(.lst 2 (x_7.map o5))) rfl rfl ex8 ⟨rfl,rfl⟩ rfl),⟨(b5v rfl rfl g10.1 g10.2 rfl rfl),⟨⟨nle,rfl⟩,⟨⟨trivial,rfl⟩,⟨(d7b (enc:=o5) rfl rfl g9.1 g9.2),⟨(b8l (enc:=(o7 2 o5)) (v:=(.lst 2 (x_7.map o5))) rfl rfl ex8 ⟨rfl,rfl⟩ rfl),⟨(b5v rfl rfl g6.1 g6.2 rfl rfl),⟨⟨nle,rfl⟩,⟨⟨trivial,rfl⟩,⟨⟨nle,rfl⟩,⟨⟨trivial,rfl⟩,trivial⟩⟩⟩⟩⟩⟩⟩⟩⟩⟩⟩⟩) trivial ?_
 obtain ⟨g12,hf⟩:=og hf
 refine a5c (b3v (j:=4) (L:=(([] ++ (x_7.take k_3.toNat)).map o5)) (len:=([] ++ (x_7.take k_3.toNat)).length) rfl rfl ((by simp)) (by simp <;> omega) g12 rfl rfl) (.inr ⟨(d7c (enc:=o5) rfl rfl g11.1 g11.2),⟨(b8l (enc:=(o7 2 o5)) (v:=(.lst 2 (x_7.map o5))) rfl rfl ex8 ⟨rfl,rfl⟩ rfl),⟨(b5v rfl rfl g10.1 g10.2 rfl rfl),⟨⟨nle,rfl⟩,⟨⟨trivial,rfl⟩,⟨⟨nle,rfl⟩,⟨⟨trivial,rfl⟩,trivial⟩⟩⟩⟩⟩⟩⟩) trivial ?_
 obtain ⟨g13,hf⟩:=og hf
 refine a5c (b3v (j:=5) (L:=((([] ++ (x_7.take k_3.toNat)) ++ (x_7.drop ((w64 (k_3 + 1)).toNat))).map o5)) (len:=(([] ++ (x_7.take k_3.toNat)) ++ (x_7.drop ((w64 (k_3 + 1)).toNat))).length) rfl rfl (apl (enc:=o5) ([] ++ (x_7.take k_3.toNat)) (x_7.drop ((w64 (k_3 + 1)).toNat))) (by simp <;> omega) g13 rfl rfl) (.inr ⟨⟨nle,rfl⟩,⟨⟨trivial,rfl⟩,trivial⟩⟩) trivial ?_
 obtain ⟨g14,hf⟩:=og hf
 refine a0a (a2g rfl rfl g14.1 g14.2 rfl rfl) ?_
 refine b5u (a4j (v':=(.lst 2 ((([] ++ (x_7.take k_3.toNat)) ++ (x_7.drop ((w64 (k_3 + 1)).toNat))).map o5))) (e':=([] ++ (x_7.take k_3.toNat)) ++ (x_7.drop ((w64 (k_3 + 1)).toNat))) rfl rfl ex8 rfl rfl (by first | (simp only [tk,tko,List.take_length];done) | rfl | simp) (by decide) (fun _ => by decide) ⟨rfl,rfl,rfl⟩ (.refl _) rfl) trivial trivial ?_
 refine dk<|sr<|y5 (.agg [(.own 2 0 r_4.Tables.length),(.int .i64 r_4.Next)]) rfl nle rfl<|a1p (a0i (v:=(.agg [(.own 2 0 r_4.Tables.length),(.int .i64 r_4.Next)])) (y':=(.agg [(.own 2 0 r_4.Tables.length),(.int .i64 r_4.Next)])) rfl rfl rfl trivial ⟨rfl,nle⟩ ⟨⟨rfl,trivial⟩,⟨⟨rfl,trivial⟩,trivial⟩⟩ rfl)<|dk<|a0f<|?_;obtain rfl:=os hf
 exact b4k ⟨nle,trivial⟩ rfl (.agg (.cons (.of_eq (congrArg (AV.lst _) (e3w (enc:=(o7 2 o5)) (a:=r_4.Tables.set (0 + table_2.toNat) (([] ++ (x_7.take k_3.toNat)) ++ (x_7.drop ((w64 (k_3 + 1)).toNat)))) (by first | (simp;done) | (simp <;> omega))))) (.cons (.refl _) .nil)))

/- spec.l05Put -/
def c43:a0r :=
 (.seq (.reg (tq 3 (.box 2 (.t 0)) (tq 5 (.box 2 (.t 2)) (tq 6 (.box 2 (.c (.agg [.nil,(.int .i64 0)]))) .done))))
 (.seq (.reg (tq 10 (.load 2 true (.t 3)) (tq 11 (.call 37 [(.t 10)]) (.q ⟨none,none,.store 2 (.t 3) (.t 11)⟩
 .done))))
 (.seq (.reg (tq 12 (.faddr 0 (.t 3)) (tq 13 (.load 1 false (.t 12)) (tm 14 (.t 1) (tq 15 (.iaddr 1 (.t 13) (.t 14)) (tq 16 (.load 1 false (.t 15)) (tm 7 (.t 16) .done)))))))
 (.seq (.reg (tm 8 (.c (.int .i64 0)) .done))
 (.seq (.block 0 (.loop (.seq (.seq (.reg (tm 17 (.t 8) (tm 18 (.t 7) (tq 19 (.len (.t 18)) (tq 20 (.bin .lss (.t 17) (.t 19)) (tm 21 (.t 20) (tg 22 21 true (.mov (.t 7)) (tg 23 21 true (.mov (.t 8)) (tg 24 21 true (.iaddr 2 (.t 22) (.t 23)) (tg 25 21 true (.faddr 0 (.t 24)) (tg 26 21 true (.load 1 false (.t 25)) (tg 27 21 true (.faddr 0 (.t 5)) (tg 28 21 true (.load 1 false (.t 27)) (tg 29 21 true (.bin .lss (.t 26) (.t 28)) (tq 30 (.pick (.t 21) (.t 29) (.c (.bool false))) .done)))))))))))))))
 (.cut (.cond (.t 30) .skip
 (.exit 0))))
 (.block 1 (.reg (tm 31 (.t 8) (tq 32 (.bin .add (.t 31) (.c (.int .i64 1))) (tm 8 (.t 32) .done))))))))
 (.cut (.seq (.reg (tm 33 (.t 7) (tm 34 (.t 8) (tq 35 (.slice 2 (.t 33) (some (.t 34)) none) (tm 9 (.t 35) .done)))))
 (.seq (.seq (.reg (tm 36 (.t 8) (tm 37 (.t 7) (tq 38 (.len (.t 37)) (tq 39 (.bin .lss (.t 36) (.t 38)) (tm 40 (.t 39) (tg 41 40 true (.mov (.t 7)) (tg 42 40 true (.mov (.t 8)) (tg 43 40 true (.iaddr 2 (.t 41) (.t 42)) (tg 44 40 true (.faddr 0 (.t 43)) (tg 45 40 true (.load 1 false (.t 44)) (tg 46 40 true (.faddr 0 (.t 5)) (tg 47 40 true (.load 1 false (.t 46)) (tg 48 40 true (.bin .eql (.t 45) (.t 47)) (tq 49 (.pick (.t 40) (.t 48) (.c (.bool false))) .done)))))))))))))))
 (.cut (.cond (.t 49) (.reg (tm 50 (.t 7) (tm 51 (.t 8) (tq 52 (.bin .add (.t 51) (.c (.int .i64 1))) (tq 53 (.slice 2 (.t 50) (some (.t 52)) none) (tm 9 (.t 53) .done))))))
 .skip)))
 (.cut (.seq (.reg (tq 54 (.faddr 0 (.t 3)) (tq 55 (.load 1 false (.t 54)) (tm 56 (.t 1) (tm 58 (.t 7) (tm 59 (.t 8) (tq 60 (.slice 2 (.t 58) none (some (.t 59))) (tq 62 (.load 2 true (.t 5)) (tm 66 (.t 9) (.l ⟨(some 57),none,.bslice 2 []⟩ [⟨(some 62),none,.load 2 true (.t 5)⟩,⟨(some 60),none,.slice 2 (.t 58) none (some (.t 59))⟩,⟨(some 55),none,.load 1 false (.t 54)⟩,⟨(some 54),none,.faddr 0 (.t 3)⟩]
 (.l ⟨(some 61),none,.append 2 32 (.t 57) (.t 60)⟩ [⟨(some 62),none,.load 2 true (.t 5)⟩,⟨(some 55),none,.load 1 false (.t 54)⟩,⟨(some 54),none,.faddr 0 (.t 3)⟩]
 (.l ⟨(some 63),none,.call 73 [(.t 62)]⟩ [⟨(some 55),none,.load 1 false (.t 54)⟩,⟨(some 54),none,.faddr 0 (.t 3)⟩]
 (.l ⟨(some 64),none,.bslice 2 [(.t 63)]⟩ [⟨(some 55),none,.load 1 false (.t 54)⟩,⟨(some 54),none,.faddr 0 (.t 3)⟩]
 (.l ⟨(some 65),none,.append 2 32 (.t 61) (.t 64)⟩ [⟨(some 55),none,.load 1 false (.t 54)⟩,⟨(some 54),none,.faddr 0 (.t 3)⟩]
 (.l ⟨(some 67),none,.append 2 32 (.t 65) (.t 66)⟩ [⟨(some 55),none,.load 1 false (.t 54)⟩,⟨(some 54),none,.faddr 0 (.t 3)⟩]
 (tq 68 (.iaddr 1 (.t 55) (.t 56)) (.l ⟨none,none,.store 1 (.t 68) (.t 67)⟩ []
 .done .non)) .non) .non) .non) .non) .non) .non))))))))))
 (.seq (.reg (tq 69 (.load 2 true (.t 3)) (.q ⟨none,none,.store 2 (.t 6) (.t 69)⟩
 .done)))
 .ret)))))))))))
theorem e6a:a1g Try.prog Try.f43 = some (c43.erase,[.load 2 true (.t 6)],70):=by kernel_rfl
def a3l (x_7:(List x8)) (r_3:x8):Nat → Int → Option Int
  | 0,_ => none
  | k + 1,k_32 =>
    ((if (decide (k_32 < (x_7.length:Int))) then
    (idx x_7 k_32).bind fun x_54 =>
    some (decide (x_54.Id < r_3.Id))
    else
    some false:Option Bool)).bind fun s30_50 =>
    if s30_50 then
    a3l x_7 r_3 k (w64 (k_32 + 1))
    else
    some k_32

def b0m (x_1:a0l) (table_2:Int) (r_3:x8):Option a0l :=
    (a8h x_1).bind fun r_4 =>
    if (0:Int) ≤ table_2 ∧ table_2 < (r_4.Tables.length:Int) then
    (r_4.Tables[(0 + table_2.toNat)]?).bind fun x_7 =>
    (a3l x_7 r_3 FUEL 0).bind fun k_44 =>
    if (0:Int) ≤ k_44 ∧ k_44 ≤ (x_7.length:Int) then
    ((((if (decide (k_44 < (x_7.length:Int))) then
    (idx x_7 k_44).bind fun x_80 =>
    some (x_80.Id == r_3.Id)
    else
    some false:Option Bool)).bind fun s49_76 =>
    if s49_76 then
    if (0:Int) ≤ w64 (k_44 + 1) ∧ w64 (k_44 + 1) ≤ (x_7.length:Int) then
    some (x_7.drop ((w64 (k_44 + 1)).toNat))
    else none
    else
    some (x_7.drop k_44.toNat):Option (List x8))).bind fun tail_70 =>
    if (0:Int) ≤ k_44 ∧ k_44 ≤ (x_7.length:Int) then
    if ([] ++ (x_7.take k_44.toNat)).length ≤ 2 ^ 30 then
    (a6d r_3).bind fun r_86 =>
    if (([] ++ (x_7.take k_44.toNat)) ++ [r_86]).length ≤ 2 ^ 30 then
    if ((([] ++ (x_7.take k_44.toNat)) ++ [r_86]) ++ tail_70).length ≤ 2 ^ 30 then
    if (0:Int) ≤ table_2 ∧ table_2 < (r_4.Tables.length:Int) then
    some (⟨r_4.Tables.set (0 + table_2.toNat) ((([] ++ (x_7.take k_44.toNat)) ++ [r_86]) ++ tail_70),r_4.Next⟩:a0l)
    else none
    else none
    else none
    else none
    else none
    else none
    else none
theorem c6f (x_1:a0l) (table_2:Int) (r_3:x8) (r:a0l) (hf:b0m x_1 table_2 r_3 = some r):a0b Try.prog 43 .weak [(a0z x_1),(.int .i64 table_2),(o5 r_3)] (a0z r):=by
 refine a0b.of_awp mixed Try.func43 e6a nle ?_;rw [a0q];unfold b0m at hf;unfold c43;refine (show awp Try.prog false 0 _ (ofL [(0,(a0z x_1)),(1,(.int .i64 table_2)),(2,(o5 r_3))]) [] _ from ?_);refine sr<|a0a (a1m (j:=0) (c:=(.agg [(.lst 1 (x_1.Tables.map (o7 2 o5))),(.int .i64 x_1.Next)])) rfl trivial rfl rfl)<|a0a (a1m (j:=1) (c:=(.agg [(.int .i64 r_3.Id),(.lst 1 (r_3.Cells.map (o7 3 l7)))])) rfl trivial rfl rfl)<|a0a (a1m (j:=2) (c:=(.agg [.nil,(.int .i64 0)])) rfl trivial rfl rfl)<|dk<|sr<|?_
 obtain ⟨r_4,er5,hf⟩:=ob hf
 refine y5 (.agg [(.lst 1 (x_1.Tables.map (o7 2 o5))),(.int .i64 x_1.Next)]) rfl nle rfl<|a0a (a3j (v:=(.agg [(.own 3 0 r_4.Tables.length),(.int .i64 r_4.Next)])) (h':=[.row 1 (r_4.Tables.map (o7 2 o5))]) (b3q _ _ er5) rfl (.refl _) (by simp only [a1r,a1q,List.length_map,a5w,List.nil_append,List.append_nil,List.cons_append];rfl))<|a1p (a0i (v:=(.agg [(.own 3 0 r_4.Tables.length),(.int .i64 r_4.Next)])) (y':=(.agg [(.own 3 0 r_4.Tables.length),(.int .i64 r_4.Next)])) rfl rfl rfl trivial ⟨rfl,nle⟩ ⟨⟨rfl,trivial⟩,⟨⟨rfl,trivial⟩,trivial⟩⟩ rfl)<|dk<|sr<|?_
 obtain ⟨g6,hf⟩:=og hf
 obtain ⟨x_7,ex8,hf⟩:=ob hf
 refine y5 (.ptr 0 0 0) rfl trivial rfl<|y5 (.own 3 0 r_4.Tables.length) rfl nle rfl<|l9 (.int .i64 table_2) rfl<|a0a (a2g rfl rfl g6.1 g6.2 rfl rfl)<|a0a (c0t (enc:=(o7 2 o5)) (v:=(.lst 2 (x_7.map o5))) rfl rfl ex8 ⟨rfl,rfl⟩ rfl)<|l9 (.lst 2 (x_7.map o5)) rfl<|dk<|sr<|l9 (.int .i64 0) rfl<|dk<|o6<|?_
 obtain ⟨k_44,hb1,hf⟩:=ob hf
 refine a1v ([(1,(.int .i64 table_2)),(3,(.ptr 0 0 0)),(5,(.ptr 1 0 0)),(6,(.ptr 2 0 0)),(7,(.lst 2 (x_7.map o5))),(8,(.int .i64 k_44))],[.box 2 (.agg [(.own 3 0 r_4.Tables.length),(.int .i64 r_4.Next)]),.box 2 (.agg [(.int .i64 r_3.Id),(.lst 1 (r_3.Cells.map (o7 3 l7)))]),.box 2 (.agg [.nil,(.int .i64 0)]),.row 1 (r_4.Tables.map (o7 2 o5))]) ?_ ?_
 ·refine a1d (X:={q:(Nat × Int) // a3l x_7 r_3 q.1 q.2 = some k_44}) (fun q => ([(1,(.int .i64 table_2)),(3,(.ptr 0 0 0)),(5,(.ptr 1 0 0)),(6,(.ptr 2 0 0)),(7,(.lst 2 (x_7.map o5))),(8,(.int .i64 q.1.2))],[.box 2 (.agg [(.own 3 0 r_4.Tables.length),(.int .i64 r_4.Next)]),.box 2 (.agg [(.int .i64 r_3.Id),(.lst 1 (r_3.Cells.map (o7 3 l7)))]),.box 2 (.agg [.nil,(.int .i64 0)]),.row 1 (r_4.Tables.map (o7 2 o5))])) (fun q => q.1.1) ⟨(FUEL,0),hb1⟩ ⟨[],[0,1,2,3],_,_,rfl,rfl,⟨.refl _,⟨.refl _,⟨.refl _,⟨.refl _,⟨.refl _,⟨.refl _,trivial⟩⟩⟩⟩⟩⟩,(.refl _)⟩ ?_
  rintro ⟨⟨k,k_32⟩,hc1⟩
  have hc1:a3l x_7 r_3 k k_32 = some k_44:=hc1
  refine (show awp Try.prog false 0 _ (ofL [(1,(.int .i64 table_2)),(3,(.ptr 0 0 0)),(5,(.ptr 1 0 0)),(6,(.ptr 2 0 0)),(7,(.lst 2 (x_7.map o5))),(8,(.int .i64 k_32))]) [.box 2 (.agg [(.own 3 0 r_4.Tables.length),(.int .i64 r_4.Next)]),.box 2 (.agg [(.int .i64 r_3.Id),(.lst 1 (r_3.Cells.map (o7 3 l7)))]),.box 2 (.agg [.nil,(.int .i64 0)]),.row 1 (r_4.Tables.map (o7 2 o5))] _ from ?_)
  rcases k with _ | k
  ·rw [a3l.eq_1] at hc1
   cases hc1
  ·rw [a3l.eq_2] at hc1;refine o6<|o6<|?_
   obtain ⟨s30_50,hb2,hc1⟩:=ob hc1
   refine a1v ([(1,(.int .i64 table_2)),(3,(.ptr 0 0 0)),(5,(.ptr 1 0 0)),(6,(.ptr 2 0 0)),(7,(.lst 2 (x_7.map o5))),(8,(.int .i64 k_32)),(30,(.bool s30_50))],[.box 2 (.agg [(.own 3 0 r_4.Tables.length),(.int .i64 r_4.Next)]),.box 2 (.agg [(.int .i64 r_3.Id),(.lst 1 (r_3.Cells.map (o7 3 l7)))]),.box 2 (.agg [.nil,(.int .i64 0)]),.row 1 (r_4.Tables.map (o7 2 o5))]) ?_ ?_
   ·refine a0y<|l9 (.int .i64 k_32) rfl<|l9 (.lst 2 (x_7.map o5)) rfl<|a0w (a1b (enc:=o5) rfl) fun hl52 => y5 (.bool (decide (k_32 < (x_7.length:Int)))) rfl rfl rfl<|l9 (.bool (decide (k_32 < (x_7.length:Int)))) rfl<|?_
    rcases oi hb2 with ⟨c53,hb2⟩ | ⟨c53,hb2⟩
    ·refine a4i (s:=21) (b:=true) rfl c53<|s_on rfl<|l9 (.lst 2 (x_7.map o5)) rfl<|s_on rfl<|l9 (.int .i64 k_32) rfl<|s_on rfl<|?_
     obtain ⟨x_54,ex55,hb2⟩:=ob hb2
     refine a0a (a5k (enc:=o5) rfl rfl (b5j ex55) (b5k ex55))<|s_on rfl<|y5 (.iptr (o5 x_54) 0) rfl trivial rfl<|s_on rfl<|y5 (.int .i64 x_54.Id) rfl nle rfl<|s_on rfl<|y5 (.ptr 1 0 0) rfl trivial rfl<|s_on rfl<|y5 (.int .i64 r_3.Id) rfl nle rfl<|s_on rfl<|y5 (.bool (decide (x_54.Id < r_3.Id))) rfl rfl rfl<|y5 (.bool (decide (x_54.Id < r_3.Id))) rfl trivial rfl<|a0n<|?_;obtain rfl:=os hb2;exact ⟨[],[0,1,2,3],_,_,rfl,rfl,⟨.refl _,⟨.refl _,⟨.refl _,⟨.refl _,⟨.refl _,⟨.refl _,⟨.refl _,trivial⟩⟩⟩⟩⟩⟩⟩,(.refl _)⟩
    ·refine a4i (s:=21) (b:=false) rfl (bf c53)<|a0t rfl rfl<|a0t rfl rfl<|a0t rfl rfl<|a0t rfl rfl<|a0t rfl rfl<|a0t rfl rfl<|a0t rfl rfl<|a0t rfl rfl<|y5 (.bool false) rfl trivial rfl<|a0n<|?_;obtain rfl:=os hb2;exact ⟨[],[0,1,2,3],_,_,rfl,rfl,⟨.refl _,⟨.refl _,⟨.refl _,⟨.refl _,⟨.refl _,⟨.refl _,⟨.refl _,trivial⟩⟩⟩⟩⟩⟩⟩,(.refl _)⟩
   ·rcases oi hc1 with ⟨c56,hc1⟩ | ⟨c56,hc1⟩
    ·refine y8 rfl c56<|a0e<|a0h<|a2u<|a0y<|l9 (.int .i64 k_32) rfl<|y5 (.int .i64 (w64 (k_32 + 1))) rfl rfl rfl<|l9 (.int .i64 (w64 (k_32 + 1))) rfl<|a0n<|a2r<|?_;exact a1j ⟨(k,w64 (k_32 + 1)),hc1⟩ (Nat.lt_succ_self _) ⟨[],[0,1,2,3],_,_,rfl,rfl,⟨.refl _,⟨.refl _,⟨.refl _,⟨.refl _,⟨.refl _,⟨.refl _,trivial⟩⟩⟩⟩⟩⟩,(.refl _)⟩
    ·refine y7 rfl (bf c56)<|a2e<|a2d<|a1l<|a2c<|?_;obtain rfl:=os hc1;exact ⟨[],[0,1,2,3],_,_,rfl,rfl,⟨.refl _,⟨.refl _,⟨.refl _,⟨.refl _,⟨.refl _,⟨.refl _,trivial⟩⟩⟩⟩⟩⟩,(.refl _)⟩
 ·refine sr<|?_
  obtain ⟨g57,hf⟩:=og hf
  refine l9 (.lst 2 (x_7.map o5)) rfl<|l9 (.int .i64 k_44) rfl<|a0a (d3r (enc:=o5) rfl rfl g57.1 g57.2)<|l9 (.lst 2 ((x_7.drop k_44.toNat).map o5)) rfl<|dk<|o6<|?_
  obtain ⟨tail_70,hb1,hf⟩:=ob hf
  refine a1v ([(1,(.int .i64 table_2)),(3,(.ptr 0 0 0)),(5,(.ptr 1 0 0)),(6,(.ptr 2 0 0)),(7,(.lst 2 (x_7.map o5))),(8,(.int .i64 k_44)),(9,(.lst 2 (tail_70.map o5)))],[.box 2 (.agg [(.own 3 0 r_4.Tables.length),(.int .i64 r_4.Next)]),.box 2 (.agg [(.int .i64 r_3.Id),(.lst 1 (r_3.Cells.map (o7 3 l7)))]),.box 2 (.agg [.nil,(.int .i64 0)]),.row 1 (r_4.Tables.map (o7 2 o5))]) ?_ ?_
  ·refine o6 ?_
   obtain ⟨s49_76,hb2,hb1⟩:=ob hb1
   refine a1v ([(1,(.int .i64 table_2)),(3,(.ptr 0 0 0)),(5,(.ptr 1 0 0)),(6,(.ptr 2 0 0)),(7,(.lst 2 (x_7.map o5))),(8,(.int .i64 k_44)),(9,(.lst 2 ((x_7.drop k_44.toNat).map o5))),(49,(.bool s49_76))],[.box 2 (.agg [(.own 3 0 r_4.Tables.length),(.int .i64 r_4.Next)]),.box 2 (.agg [(.int .i64 r_3.Id),(.lst 1 (r_3.Cells.map (o7 3 l7)))]),.box 2 (.agg [.nil,(.int .i64 0)]),.row 1 (r_4.Tables.map (o7 2 o5))]) ?_ ?_
   ·refine a0y<|l9 (.int .i64 k_44) rfl<|l9 (.lst 2 (x_7.map o5)) rfl<|a0w (a1b (enc:=o5) rfl) fun hl78 => y5 (.bool (decide (k_44 < (x_7.length:Int)))) rfl rfl rfl<|l9 (.bool (decide (k_44 < (x_7.length:Int)))) rfl<|?_
    rcases oi hb2 with ⟨c79,hb2⟩ | ⟨c79,hb2⟩
    ·refine a4i (s:=40) (b:=true) rfl c79<|s_on rfl<|l9 (.lst 2 (x_7.map o5)) rfl<|s_on rfl<|l9 (.int .i64 k_44) rfl<|s_on rfl<|?_
     obtain ⟨x_80,ex81,hb2⟩:=ob hb2
     refine a0a (a5k (enc:=o5) rfl rfl (b5j ex81) (b5k ex81))<|s_on rfl<|y5 (.iptr (o5 x_80) 0) rfl trivial rfl<|s_on rfl<|y5 (.int .i64 x_80.Id) rfl nle rfl<|s_on rfl<|y5 (.ptr 1 0 0) rfl trivial rfl<|s_on rfl<|y5 (.int .i64 r_3.Id) rfl nle rfl<|s_on rfl<|y5 (.bool (x_80.Id == r_3.Id)) rfl rfl rfl<|y5 (.bool (x_80.Id == r_3.Id)) rfl trivial rfl<|a0n<|?_;obtain rfl:=os hb2;exact ⟨[],[0,1,2,3],_,_,rfl,rfl,⟨.refl _,⟨.refl _,⟨.refl _,⟨.refl _,⟨.refl _,⟨.refl _,⟨.refl _,⟨.refl _,trivial⟩⟩⟩⟩⟩⟩⟩⟩,(.refl _)⟩
    ·refine a4i (s:=40) (b:=false) rfl (bf c79)<|a0t rfl rfl<|a0t rfl rfl<|a0t rfl rfl<|a0t rfl rfl<|a0t rfl rfl<|a0t rfl rfl<|a0t rfl rfl<|a0t rfl rfl<|y5 (.bool false) rfl trivial rfl<|a0n<|?_;obtain rfl:=os hb2;exact ⟨[],[0,1,2,3],_,_,rfl,rfl,⟨.refl _,⟨.refl _,⟨.refl _,⟨.refl _,⟨.refl _,⟨.refl _,⟨.refl _,⟨.refl _,trivial⟩⟩⟩⟩⟩⟩⟩⟩,(.refl _)⟩
   ·rcases oi hb1 with ⟨c82,hb1⟩ | ⟨c82,hb1⟩
    ·refine y8 rfl c82<|a0y<|?_
     obtain ⟨g83,hb1⟩:=og hb1
     refine l9 (.lst 2 (x_7.map o5)) rfl<|l9 (.int .i64 k_44) rfl<|y5 (.int .i64 (w64 (k_44 + 1))) rfl rfl rfl<|a0a (d3r (enc:=o5) rfl rfl g83.1 g83.2)<|l9 (.lst 2 ((x_7.drop ((w64 (k_44 + 1)).toNat)).map o5)) rfl<|a0n<|?_;obtain rfl:=os hb1;exact ⟨[],[0,1,2,3],_,_,rfl,rfl,⟨.refl _,⟨.refl _,⟨.refl _,⟨.refl _,⟨.refl _,⟨.refl _,⟨.refl _,trivial⟩⟩⟩⟩⟩⟩⟩,(.refl _)⟩
    ·refine y7 rfl (bf c82)<|a0e<|?_;obtain rfl:=os hb1;exact ⟨[],[0,1,2,3],_,_,rfl,rfl,⟨.refl _,⟨.refl _,⟨.refl _,⟨.refl _,⟨.refl _,⟨.refl _,⟨.refl _,trivial⟩⟩⟩⟩⟩⟩⟩,(.refl _)⟩
  ·refine sr<|y5 (.ptr 0 0 0) rfl trivial rfl<|y5 (.own 3 0 r_4.Tables.length) rfl nle rfl<|l9 (.int .i64 table_2) rfl<|l9 (.lst 2 (x_7.map o5)) rfl<|l9 (.int .i64 k_44) rfl<|?_
   obtain ⟨g84,hf⟩:=og hf
   refine a0a (d6z (enc:=o5) rfl rfl g84.1 g84.2)<|y5 (.agg [(.int .i64 r_3.Id),(.lst 1 (r_3.Cells.map (o7 3 l7)))]) rfl nle rfl<|l9 (.lst 2 (tail_70.map o5)) rfl<|?_;refine a5c (a3k (j:=4) (as':=[]) rfl (fun _ => by decide) trivial (.refl _) rfl rfl rfl) (.inr ⟨⟨nle,rfl⟩,⟨(d7b (enc:=o5) rfl rfl g84.1 g84.2),⟨⟨nle,rfl⟩,⟨⟨trivial,rfl⟩,trivial⟩⟩⟩⟩) trivial ?_
   obtain ⟨g85,hf⟩:=og hf
   refine a5c (b3v (j:=5) (L:=(([] ++ (x_7.take k_44.toNat)).map o5)) (len:=([] ++ (x_7.take k_44.toNat)).length) rfl rfl ((by simp)) (by simp <;> omega) g85 rfl rfl) (.inr ⟨⟨nle,rfl⟩,⟨⟨nle,rfl⟩,⟨⟨trivial,rfl⟩,trivial⟩⟩⟩) trivial ?_
   obtain ⟨r_86,er87,hf⟩:=ob hf
   refine a5c (a3j (v:=(.agg [(.int .i64 r_86.Id),(.own 6 0 r_86.Cells.length)])) (h':=[.row 1 (r_86.Cells.map (o7 3 l7))]) (b1k _ _ er87) rfl (.refl _) (by simp only [a1r,a1q,List.length_map,a8f,List.nil_append,List.append_nil,List.cons_append];rfl)) (.inr ⟨⟨nle,rfl⟩,⟨⟨trivial,rfl⟩,trivial⟩⟩) trivial ?_;refine a5c (a3k (j:=7) (as':=[(o5 r_86)]) rfl (fun _ => by decide) ⟨rfl,trivial⟩ (.cons (.agg (.cons (.refl _) (.cons (.of_eq (congrArg (AV.lst _) (tko (enc:=(o7 3 l7)) r_86.Cells))) .nil))) .nil) rfl rfl rfl) (.inr ⟨⟨nle,rfl⟩,⟨⟨trivial,rfl⟩,trivial⟩⟩) trivial ?_
   obtain ⟨g88,hf⟩:=og hf
   refine a5c (b3v (j:=8) (L:=((([] ++ (x_7.take k_44.toNat)) ++ [r_86]).map o5)) (len:=(([] ++ (x_7.take k_44.toNat)) ++ [r_86]).length) rfl rfl (d0w (enc:=o5) ([] ++ (x_7.take k_44.toNat)) [r_86] _ (by rfl)) (by simp <;> omega) g88 rfl rfl) (.inr ⟨⟨nle,rfl⟩,⟨⟨trivial,rfl⟩,trivial⟩⟩) trivial ?_
   obtain ⟨g89,hf⟩:=og hf
   refine a5c (b3v (j:=9) (L:=(((([] ++ (x_7.take k_44.toNat)) ++ [r_86]) ++ tail_70).map o5)) (len:=((([] ++ (x_7.take k_44.toNat)) ++ [r_86]) ++ tail_70).length) rfl rfl (apl (enc:=o5) (([] ++ (x_7.take k_44.toNat)) ++ [r_86]) tail_70) (by simp <;> omega) g89 rfl rfl) (.inr ⟨⟨nle,rfl⟩,⟨⟨trivial,rfl⟩,trivial⟩⟩) trivial ?_
   obtain ⟨g90,hf⟩:=og hf
   refine a0a (a2g rfl rfl g90.1 g90.2 rfl rfl) ?_
   refine b5u (a4j (v':=(.lst 2 (((([] ++ (x_7.take k_44.toNat)) ++ [r_86]) ++ tail_70).map o5))) (e':=(([] ++ (x_7.take k_44.toNat)) ++ [r_86]) ++ tail_70) rfl rfl ex8 rfl rfl (by first | (simp only [tk,tko,List.take_length];done) | rfl | simp) (by decide) (fun _ => by decide) ⟨rfl,rfl,rfl⟩ (.refl _) rfl) trivial trivial ?_
   refine dk<|sr<|y5 (.agg [(.own 3 0 r_4.Tables.length),(.int .i64 r_4.Next)]) rfl nle rfl<|a1p (a0i (v:=(.agg [(.own 3 0 r_4.Tables.length),(.int .i64 r_4.Next)])) (y':=(.agg [(.own 3 0 r_4.Tables.length),(.int .i64 r_4.Next)])) rfl rfl rfl trivial ⟨rfl,nle⟩ ⟨⟨rfl,trivial⟩,⟨⟨rfl,trivial⟩,trivial⟩⟩ rfl)<|dk<|a0f<|?_;obtain rfl:=os hf
   exact b4k ⟨nle,trivial⟩ rfl (.agg (.cons (.of_eq (congrArg (AV.lst _) (e3w (enc:=(o7 2 o5)) (a:=r_4.Tables.set (0 + table_2.toNat) ((([] ++ (x_7.take k_44.toNat)) ++ [r_86]) ++ tail_70)) (by first | (simp;done) | (simp <;> omega))))) (.cons (.refl _) .nil)))

end Go.R
