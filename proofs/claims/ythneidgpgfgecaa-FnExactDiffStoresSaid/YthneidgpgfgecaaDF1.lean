/- Walks. -/
import Derived.Test.YthneidgpgfgecaaDFT
set_option linter.all false
namespace Go.R
open Go Go.Proofs
set_option linter.unusedVariables false
set_option linter.unusedSimpArgs false
set_option maxHeartbeats 8000000
/- laws.szAtom -/
def d8d:a0r :=
 (.seq (.reg (tq 2 (.box 3 (.t 0)) (tm 4 (.c (.int .i64 0)) .done)))
 (.seq (.reg (tm 5 (.t 1) (tq 6 (.faddr 2 (.t 2)) (tq 7 (.load 1 false (.t 6)) (tq 8 (.lenS (.t 7)) (tq 9 (.bin .sub (.t 5) (.t 8)) (tm 1 (.t 9) .done)))))))
 (.seq (.seq (.reg (tm 10 (.t 1) (tq 11 (.bin .lss (.t 10) (.c (.int .i64 0))) .done)))
 (.cond (.t 11) (.seq (.reg (tq 4 (.mov (.c (.int .i64 (-1)))) .done))
 .ret)
 .skip))
 (.seq (.reg (tm 12 (.t 1) (tm 4 (.t 12) .done)))
 .ret))))
theorem d8e:a1p Try.prog Try.f110 = some (d8d.erase,[.mov (.t 4)],13):=by kernel_rfl
def b0d (a_1:y9) (left_2:Int):Option Int :=
    if (decide (w64 (left_2 - (a_1.T.length:Int)) < 0)) then
    some (-1)
    else
    some (w64 (left_2 - (a_1.T.length:Int)))
theorem c2i (a_1:y9) (left_2:Int) (r:Int) (hf:b0d a_1 left_2 = some r):a0d Try.prog 110 .flat [(o5 a_1),(.int .i64 left_2)] (.int .i64 r):=by
 refine a0d.of_awp mixed Try.func110 d8e nle ?_;rw [a0t];unfold b0d at hf;unfold d8d;refine (show awp Try.prog false 0 _ (ofL [(0,(o5 a_1)),(1,(.int .i64 left_2))]) [] _ from ?_);refine sr<|a0b (a2t (j:=0) (c:=(.agg [(.int .i64 a_1.Kind),(.int .i64 a_1.N),(.str a_1.T)])) rfl trivial rfl rfl)<|l7 (.int .i64 0) rfl<|dk<|sr<|l7 (.int .i64 left_2) rfl<|y8 (.ptr 0 0 2) rfl trivial rfl<|y8 (.str a_1.T) rfl nle rfl<|a0o (d6z rfl) fun hl3 => y8 (.int .i64 (w64 (left_2 - (a_1.T.length:Int)))) rfl rfl rfl<|l7 (.int .i64 (w64 (left_2 - (a_1.T.length:Int)))) rfl<|dk<|o6<|sr<|?_
 refine l7 (.int .i64 (w64 (left_2 - (a_1.T.length:Int)))) rfl<|y8 (.bool (decide (w64 (left_2 - (a_1.T.length:Int)) < 0))) rfl rfl rfl<|dk<|?_
 rcases oi hf with ⟨c4,hf⟩ | ⟨c4,hf⟩
 ·refine y5 rfl c4<|sr<|l7 (.int .i64 (-1)) rfl<|dk<|a0k<|?_;obtain rfl:=os hf;exact a0l ⟨trivial,trivial⟩ rfl (.refl _)
 ·refine y7 rfl (bf c4)<|a0e<|a0g<|sr<|l7 (.int .i64 (w64 (left_2 - (a_1.T.length:Int)))) rfl<|l7 (.int .i64 (w64 (left_2 - (a_1.T.length:Int)))) rfl<|dk<|a0k<|?_;obtain rfl:=os hf;exact a0l ⟨trivial,trivial⟩ rfl (.refl _)

/- laws.szAtomS -/
def c95:a0r :=
 (.seq (.reg (tm 4 (.c (.int .i64 0)) .done))
 (.seq (.reg (tm 6 (.t 1) (tm 7 (.t 0) (tq 8 (.len (.t 7)) (tq 9 (.bin .sub (.t 6) (.t 8)) (tm 1 (.t 9) .done))))))
 (.seq (.seq (.reg (tm 10 (.t 1) (tq 11 (.bin .lss (.t 10) (.c (.int .i64 0))) .done)))
 (.cond (.t 11) (.seq (.reg (tq 4 (.mov (.c (.int .i64 (-1)))) .done))
 .ret)
 .skip))
 (.seq (.seq (.reg (tm 5 (.c (.int .i64 0)) .done))
 (.block 0 (.loop (.seq (.seq (.reg (tm 12 (.t 5) (tm 13 (.t 0) (tq 14 (.len (.t 13)) (tq 15 (.bin .lss (.t 12) (.t 14)) .done)))))
 (.cond (.t 15) .skip
 (.exit 0)))
 (.seq (.block 1 (.seq (.reg (tm 18 (.t 0) (tm 19 (.t 5) (tq 20 (.iaddr 3 (.t 18) (.t 19)) (tq 21 (.load 3 true (.t 20)) (tm 22 (.t 1) (tq 23 (.call 110 [(.t 21),(.t 22)]) (tm 1 (.t 23) .done))))))))
 (.seq (.reg (tm 24 (.t 1) (tq 25 (.bin .lss (.t 24) (.c (.int .i64 0))) .done)))
 (.cond (.t 25) (.seq (.reg (tq 4 (.mov (.c (.int .i64 (-1)))) .done))
 .ret)
 .skip))))
 (.reg (tm 16 (.t 5) (tq 17 (.bin .add (.t 16) (.c (.int .i64 1))) (tm 5 (.t 17) .done)))))))))
 (.cut (.seq (.reg (tm 26 (.t 1) (tm 4 (.t 26) .done)))
 .ret))))))
theorem d9d:a1p Try.prog Try.f95 = some (c95.erase,[.mov (.t 4)],27):=by kernel_rfl
def a4b :List y9 → Int → Option (Fl Int Int)
  | [],left_21 =>
    some (.go left_21)
  | x_39 :: xs,left_21 =>
    (b0d x_39 left_21).bind fun r_42 =>
    if (decide (r_42 < 0)) then
    some (.ret (-1))
    else
    a4b xs r_42 

def a9f (a_1:(List y9)) (left_2:Int):Option Int :=
    if (decide (w64 (left_2 - (a_1.length:Int)) < 0)) then
    some (-1)
    else
    (a4b a_1 (w64 (left_2 - (a_1.length:Int)))).bind fun q => (match q with
    | .ret r => some r
    | .go left_31 =>
    some left_31)
theorem c1c (a_1:(List y9)) (left_2:Int) (r:Int) (hf:a9f a_1 left_2 = some r):a0d Try.prog 95 .flat [(.lst 3 (a_1.map o5)),(.int .i64 left_2)] (.int .i64 r):=by
 refine a0d.of_awp mixed Try.func95 d9d nle ?_;rw [a0t];unfold a9f at hf;unfold c95;refine (show awp Try.prog false 0 _ (ofL [(0,(.lst 3 (a_1.map o5))),(1,(.int .i64 left_2))]) [] _ from ?_);refine sr<|l7 (.int .i64 0) rfl<|dk<|sr<|l7 (.int .i64 left_2) rfl<|l7 (.lst 3 (a_1.map o5)) rfl<|a0o (a1c (enc:=o5) rfl) fun hl3 => y8 (.int .i64 (w64 (left_2 - (a_1.length:Int)))) rfl rfl rfl<|l7 (.int .i64 (w64 (left_2 - (a_1.length:Int)))) rfl<|dk<|o6<|sr<|l7 (.int .i64 (w64 (left_2 - (a_1.length:Int)))) rfl<|y8 (.bool (decide (w64 (left_2 - (a_1.length:Int)) < 0))) rfl rfl rfl<|?_
 refine dk<|?_
 rcases oi hf with ⟨c4,hf⟩ | ⟨c4,hf⟩
 ·refine y5 rfl c4<|sr<|l7 (.int .i64 (-1)) rfl<|dk<|a0k<|?_;obtain rfl:=os hf;exact a0l ⟨trivial,trivial⟩ rfl (.refl _)
 ·refine y7 rfl (bf c4)<|a0e<|a0g<|o6<|sr<|l7 (.int .i64 0) rfl<|dk<|?_
  obtain ⟨p32,hb1,hf⟩:=ob hf
  refine a4a (X:={q:Int // p32 = .go q}) (fun q => ([(1,(.int .i64 q.1))],[])) ?_ ?_
  ·refine a0z (X:={q:(Int × Nat) // a4b (a_1.drop q.2) q.1 = some p32}) (fun q => ([(0,(.lst 3 (a_1.map o5))),(1,(.int .i64 q.1.1)),(5,(.int .i64 (q.1.2:Int)))],[])) (fun q => a_1.length - q.1.2) ⟨(w64 (left_2 - (a_1.length:Int)),0),hb1⟩ ⟨[],[],_,_,rfl,rfl,⟨.refl _,⟨.refl _,⟨.refl _,trivial⟩⟩⟩,(.refl _)⟩ ?_
   rintro ⟨⟨left_21,i_22⟩,hc1⟩
   have hc1:a4b (a_1.drop i_22) left_21 = some p32:=hc1
   refine (show awp Try.prog false 0 _ (ofL [(0,(.lst 3 (a_1.map o5))),(1,(.int .i64 left_21)),(5,(.int .i64 (i_22:Int)))]) [] _ from ?_)
   rcases a5c a_1 i_22 with ⟨hie35,hd38⟩ | ⟨hlt33,x_39,hx34,hd38⟩
   ·rw [hd38,a4b.eq_1] at hc1
    have hq37:=dlf hie35
    refine o6<|sr<|l7 (.int .i64 (i_22:Int)) rfl<|l7 (.lst 3 (a_1.map o5)) rfl<|a0o (a1c (enc:=o5) rfl) fun hl40 => y8 (.bool (decide ((i_22:Int) < (a_1.length:Int)))) rfl rfl rfl<|dk<|y7 rfl hq37<|a1y<|a1x<|a1i<|a1w<|?_;obtain rfl:=os hc1;exact a5z ⟨_,rfl⟩ ⟨[],[],_,_,rfl,rfl,⟨.refl _,trivial⟩,(.refl _)⟩
   ·rw [hd38,a4b.eq_2] at hc1
    have hq37:=dlt hlt33
    refine o6<|sr<|l7 (.int .i64 (i_22:Int)) rfl<|l7 (.lst 3 (a_1.map o5)) rfl<|a0o (a1c (enc:=o5) rfl) fun hl41 => y8 (.bool (decide ((i_22:Int) < (a_1.length:Int)))) rfl rfl rfl<|dk<|y5 rfl hq37<|a0e<|a0g<|o6<|a3j<|sr<|?_
    obtain ⟨r_42,er43,hc1⟩:=ob hc1
    refine l7 (.lst 3 (a_1.map o5)) rfl<|l7 (.int .i64 (i_22:Int)) rfl<|a0b (a1a (enc:=o5) rfl rfl hx34)<|y8 (o5 x_39) rfl nle rfl<|l7 (.int .i64 left_21) rfl<|a0b (a1t (c2i _ _ _ er43) rfl (.refl _) rfl)<|l7 (.int .i64 r_42) rfl<|dk<|sr<|l7 (.int .i64 r_42) rfl<|y8 (.bool (decide (r_42 < 0))) rfl rfl rfl<|dk<|?_
    rcases oi hc1 with ⟨c44,hc1⟩ | ⟨c44,hc1⟩
    ·refine y5 rfl c44<|sr<|l7 (.int .i64 (-1)) rfl<|dk<|a0k<|?_;obtain rfl:=os hc1;obtain rfl:=os hf;exact a0l ⟨trivial,trivial⟩ rfl (.refl _)
    ·refine y7 rfl (bf c44)<|a0e<|a2s<|a0g<|a0y<|l7 (.int .i64 (i_22:Int)) rfl<|y8 (.int .i64 (w64 ((i_22:Int) + 1))) rfl rfl rfl<|l7 (.int .i64 (w64 ((i_22:Int) + 1))) rfl<|a0m<|?_;exact a1e ⟨(r_42,(i_22 + 1)),hc1⟩ (mul hlt33) ⟨[],[],_,_,rfl,rfl,⟨.refl _,⟨.refl _,⟨.of_eq (congrArg (AV.int _) (a1j hlt33 hl41)),trivial⟩⟩⟩,(.refl _)⟩
  ·rintro ⟨left_31,rfl⟩
   refine sr<|l7 (.int .i64 left_31) rfl<|l7 (.int .i64 left_31) rfl<|dk<|a0k<|?_;obtain rfl:=os hf;exact a0l ⟨trivial,trivial⟩ rfl (.refl _)

/- laws.szAtomSS -/
def c72:a0r :=
 (.seq (.reg (tm 4 (.c (.int .i64 0)) .done))
 (.seq (.reg (tm 6 (.t 1) (tm 7 (.t 0) (tq 8 (.len (.t 7)) (tq 9 (.bin .sub (.t 6) (.t 8)) (tm 1 (.t 9) .done))))))
 (.seq (.seq (.reg (tm 10 (.t 1) (tq 11 (.bin .lss (.t 10) (.c (.int .i64 0))) .done)))
 (.cond (.t 11) (.seq (.reg (tq 4 (.mov (.c (.int .i64 (-1)))) .done))
 .ret)
 .skip))
 (.seq (.seq (.reg (tm 5 (.c (.int .i64 0)) .done))
 (.block 0 (.loop (.seq (.seq (.reg (tm 12 (.t 5) (tm 13 (.t 0) (tq 14 (.len (.t 13)) (tq 15 (.bin .lss (.t 12) (.t 14)) .done)))))
 (.cond (.t 15) .skip
 (.exit 0)))
 (.seq (.block 1 (.seq (.reg (tm 18 (.t 0) (tm 19 (.t 5) (tq 20 (.iaddr 1 (.t 18) (.t 19)) (tq 21 (.load 1 false (.t 20)) (tm 22 (.t 1) (tq 23 (.call 95 [(.t 21),(.t 22)]) (tm 1 (.t 23) .done))))))))
 (.seq (.reg (tm 24 (.t 1) (tq 25 (.bin .lss (.t 24) (.c (.int .i64 0))) .done)))
 (.cond (.t 25) (.seq (.reg (tq 4 (.mov (.c (.int .i64 (-1)))) .done))
 .ret)
 .skip))))
 (.reg (tm 16 (.t 5) (tq 17 (.bin .add (.t 16) (.c (.int .i64 1))) (tm 5 (.t 17) .done)))))))))
 (.cut (.seq (.reg (tm 26 (.t 1) (tm 4 (.t 26) .done)))
 .ret))))))
theorem d9e:a1p Try.prog Try.f72 = some (c72.erase,[.mov (.t 4)],27):=by kernel_rfl
def a3l :List (List y9) → Int → Option (Fl Int Int)
  | [],left_21 =>
    some (.go left_21)
  | x_39 :: xs,left_21 =>
    (a9f x_39 left_21).bind fun r_42 =>
    if (decide (r_42 < 0)) then
    some (.ret (-1))
    else
    a3l xs r_42 

def a8d (a_1:(List (List y9))) (left_2:Int):Option Int :=
    if (decide (w64 (left_2 - (a_1.length:Int)) < 0)) then
    some (-1)
    else
    (a3l a_1 (w64 (left_2 - (a_1.length:Int)))).bind fun q => (match q with
    | .ret r => some r
    | .go left_31 =>
    some left_31)
theorem b9d (a_1:(List (List y9))) (left_2:Int) (r:Int) (hf:a8d a_1 left_2 = some r):a0d Try.prog 72 .flat [(.lst 1 (a_1.map (o8 3 o5))),(.int .i64 left_2)] (.int .i64 r):=by
 refine a0d.of_awp mixed Try.func72 d9e nle ?_;rw [a0t];unfold a8d at hf;unfold c72;refine (show awp Try.prog false 0 _ (ofL [(0,(.lst 1 (a_1.map (o8 3 o5)))),(1,(.int .i64 left_2))]) [] _ from ?_);refine sr<|l7 (.int .i64 0) rfl<|dk<|sr<|l7 (.int .i64 left_2) rfl<|l7 (.lst 1 (a_1.map (o8 3 o5))) rfl<|a0o (a1c (enc:=(o8 3 o5)) rfl) fun hl3 => y8 (.int .i64 (w64 (left_2 - (a_1.length:Int)))) rfl rfl rfl<|l7 (.int .i64 (w64 (left_2 - (a_1.length:Int)))) rfl<|dk<|o6<|sr<|l7 (.int .i64 (w64 (left_2 - (a_1.length:Int)))) rfl<|y8 (.bool (decide (w64 (left_2 - (a_1.length:Int)) < 0))) rfl rfl rfl<|?_
 refine dk<|?_
 rcases oi hf with ⟨c4,hf⟩ | ⟨c4,hf⟩
 ·refine y5 rfl c4<|sr<|l7 (.int .i64 (-1)) rfl<|dk<|a0k<|?_;obtain rfl:=os hf;exact a0l ⟨trivial,trivial⟩ rfl (.refl _)
 ·refine y7 rfl (bf c4)<|a0e<|a0g<|o6<|sr<|l7 (.int .i64 0) rfl<|dk<|?_
  obtain ⟨p32,hb1,hf⟩:=ob hf
  refine a4a (X:={q:Int // p32 = .go q}) (fun q => ([(1,(.int .i64 q.1))],[])) ?_ ?_
  ·refine a0z (X:={q:(Int × Nat) // a3l (a_1.drop q.2) q.1 = some p32}) (fun q => ([(0,(.lst 1 (a_1.map (o8 3 o5)))),(1,(.int .i64 q.1.1)),(5,(.int .i64 (q.1.2:Int)))],[])) (fun q => a_1.length - q.1.2) ⟨(w64 (left_2 - (a_1.length:Int)),0),hb1⟩ ⟨[],[],_,_,rfl,rfl,⟨.refl _,⟨.refl _,⟨.refl _,trivial⟩⟩⟩,(.refl _)⟩ ?_
   rintro ⟨⟨left_21,i_22⟩,hc1⟩
   have hc1:a3l (a_1.drop i_22) left_21 = some p32:=hc1
   refine (show awp Try.prog false 0 _ (ofL [(0,(.lst 1 (a_1.map (o8 3 o5)))),(1,(.int .i64 left_21)),(5,(.int .i64 (i_22:Int)))]) [] _ from ?_)
   rcases a5c a_1 i_22 with ⟨hie35,hd38⟩ | ⟨hlt33,x_39,hx34,hd38⟩
   ·rw [hd38,a3l.eq_1] at hc1
    have hq37:=dlf hie35
    refine o6<|sr<|l7 (.int .i64 (i_22:Int)) rfl<|l7 (.lst 1 (a_1.map (o8 3 o5))) rfl<|a0o (a1c (enc:=(o8 3 o5)) rfl) fun hl40 => y8 (.bool (decide ((i_22:Int) < (a_1.length:Int)))) rfl rfl rfl<|dk<|y7 rfl hq37<|a1y<|a1x<|a1i<|a1w<|?_;obtain rfl:=os hc1;exact a5z ⟨_,rfl⟩ ⟨[],[],_,_,rfl,rfl,⟨.refl _,trivial⟩,(.refl _)⟩
   ·rw [hd38,a3l.eq_2] at hc1
    have hq37:=dlt hlt33
    refine o6<|sr<|l7 (.int .i64 (i_22:Int)) rfl<|l7 (.lst 1 (a_1.map (o8 3 o5))) rfl<|a0o (a1c (enc:=(o8 3 o5)) rfl) fun hl41 => y8 (.bool (decide ((i_22:Int) < (a_1.length:Int)))) rfl rfl rfl<|dk<|y5 rfl hq37<|a0e<|a0g<|o6<|a3j<|sr<|?_
    obtain ⟨r_42,er43,hc1⟩:=ob hc1
    refine l7 (.lst 1 (a_1.map (o8 3 o5))) rfl<|l7 (.int .i64 (i_22:Int)) rfl<|a0b (a1a (enc:=(o8 3 o5)) rfl rfl hx34)<|y8 (.lst 3 (x_39.map o5)) rfl ⟨rfl,rfl⟩ rfl<|l7 (.int .i64 left_21) rfl<|a0b (a1t (c1c _ _ _ er43) rfl (.refl _) rfl)<|l7 (.int .i64 r_42) rfl<|dk<|sr<|l7 (.int .i64 r_42) rfl<|y8 (.bool (decide (r_42 < 0))) rfl rfl rfl<|dk<|?_
    rcases oi hc1 with ⟨c44,hc1⟩ | ⟨c44,hc1⟩
    ·refine y5 rfl c44<|sr<|l7 (.int .i64 (-1)) rfl<|dk<|a0k<|?_;obtain rfl:=os hc1;obtain rfl:=os hf;exact a0l ⟨trivial,trivial⟩ rfl (.refl _)
    ·refine y7 rfl (bf c44)<|a0e<|a2s<|a0g<|a0y<|l7 (.int .i64 (i_22:Int)) rfl<|y8 (.int .i64 (w64 ((i_22:Int) + 1))) rfl rfl rfl<|l7 (.int .i64 (w64 ((i_22:Int) + 1))) rfl<|a0m<|?_;exact a1e ⟨(r_42,(i_22 + 1)),hc1⟩ (mul hlt33) ⟨[],[],_,_,rfl,rfl,⟨.refl _,⟨.refl _,⟨.of_eq (congrArg (AV.int _) (a1j hlt33 hl41)),trivial⟩⟩⟩,(.refl _)⟩
  ·rintro ⟨left_31,rfl⟩
   refine sr<|l7 (.int .i64 left_31) rfl<|l7 (.int .i64 left_31) rfl<|dk<|a0k<|?_;obtain rfl:=os hf;exact a0l ⟨trivial,trivial⟩ rfl (.refl _)

/- laws.szRow -/
def c34:a0r :=
 (.seq (.reg (tq 2 (.box 2 (.t 0)) (tm 4 (.c (.int .i64 0)) .done)))
 (.seq (.reg (tq 5 (.faddr 1 (.t 2)) (tq 6 (.load 1 false (.t 5)) (tm 7 (.t 1) (tq 8 (.call 72 [(.t 6),(.t 7)]) (tm 1 (.t 8) .done))))))
 (.seq (.seq (.reg (tm 9 (.t 1) (tq 10 (.bin .lss (.t 9) (.c (.int .i64 0))) .done)))
 (.cond (.t 10) (.seq (.reg (tq 4 (.mov (.c (.int .i64 (-1)))) .done))
 .ret)
 .skip))
 (.seq (.reg (tm 11 (.t 1) (tm 4 (.t 11) .done)))
 .ret))))
theorem d9f:a1p Try.prog Try.f34 = some (c34.erase,[.mov (.t 4)],12):=by kernel_rfl
def b1k (a_1:x9) (left_2:Int):Option Int :=
    (a8d a_1.Cells left_2).bind fun r_3 =>
    if (decide (r_3 < 0)) then
    some (-1)
    else
    some r_3
theorem c5b (a_1:x9) (left_2:Int) (r:Int) (hf:b1k a_1 left_2 = some r):a0d Try.prog 34 .flat [(l9 a_1),(.int .i64 left_2)] (.int .i64 r):=by
 refine a0d.of_awp mixed Try.func34 d9f nle ?_;rw [a0t];unfold b1k at hf;unfold c34;refine (show awp Try.prog false 0 _ (ofL [(0,(l9 a_1)),(1,(.int .i64 left_2))]) [] _ from ?_);refine sr<|a0b (a2t (j:=0) (c:=(.agg [(.int .i64 a_1.Id),(.lst 1 (a_1.Cells.map (o8 3 o5)))])) rfl trivial rfl rfl)<|l7 (.int .i64 0) rfl<|dk<|sr<|?_
 obtain ⟨r_3,er4,hf⟩:=ob hf
 refine y8 (.ptr 0 0 1) rfl trivial rfl<|y8 (.lst 1 (a_1.Cells.map (o8 3 o5))) rfl nle rfl<|l7 (.int .i64 left_2) rfl<|a0b (a1t (b9d _ _ _ er4) rfl (.refl _) rfl)<|l7 (.int .i64 r_3) rfl<|dk<|o6<|sr<|l7 (.int .i64 r_3) rfl<|y8 (.bool (decide (r_3 < 0))) rfl rfl rfl<|dk<|?_
 rcases oi hf with ⟨c5,hf⟩ | ⟨c5,hf⟩
 ·refine y5 rfl c5<|sr<|l7 (.int .i64 (-1)) rfl<|dk<|a0k<|?_;obtain rfl:=os hf;exact a0l ⟨trivial,trivial⟩ rfl (.refl _)
 ·refine y7 rfl (bf c5)<|a0e<|a0g<|sr<|l7 (.int .i64 r_3) rfl<|l7 (.int .i64 r_3) rfl<|dk<|a0k<|?_;obtain rfl:=os hf;exact a0l ⟨trivial,trivial⟩ rfl (.refl _)

/- laws.szRowS -/
def c7:a0r :=
 (.seq (.reg (tm 4 (.c (.int .i64 0)) .done))
 (.seq (.reg (tm 6 (.t 1) (tm 7 (.t 0) (tq 8 (.len (.t 7)) (tq 9 (.bin .sub (.t 6) (.t 8)) (tm 1 (.t 9) .done))))))
 (.seq (.seq (.reg (tm 10 (.t 1) (tq 11 (.bin .lss (.t 10) (.c (.int .i64 0))) .done)))
 (.cond (.t 11) (.seq (.reg (tq 4 (.mov (.c (.int .i64 (-1)))) .done))
 .ret)
 .skip))
 (.seq (.seq (.reg (tm 5 (.c (.int .i64 0)) .done))
 (.block 0 (.loop (.seq (.seq (.reg (tm 12 (.t 5) (tm 13 (.t 0) (tq 14 (.len (.t 13)) (tq 15 (.bin .lss (.t 12) (.t 14)) .done)))))
 (.cond (.t 15) .skip
 (.exit 0)))
 (.seq (.block 1 (.seq (.reg (tm 18 (.t 0) (tm 19 (.t 5) (tq 20 (.iaddr 2 (.t 18) (.t 19)) (tq 21 (.load 2 true (.t 20)) (tm 22 (.t 1) (tq 23 (.call 34 [(.t 21),(.t 22)]) (tm 1 (.t 23) .done))))))))
 (.seq (.reg (tm 24 (.t 1) (tq 25 (.bin .lss (.t 24) (.c (.int .i64 0))) .done)))
 (.cond (.t 25) (.seq (.reg (tq 4 (.mov (.c (.int .i64 (-1)))) .done))
 .ret)
 .skip))))
 (.reg (tm 16 (.t 5) (tq 17 (.bin .add (.t 16) (.c (.int .i64 1))) (tm 5 (.t 17) .done)))))))))
 (.cut (.seq (.reg (tm 26 (.t 1) (tm 4 (.t 26) .done)))
 .ret))))))
theorem fc7:a1p Try.prog Try.f7 = some (c7.erase,[.mov (.t 4)],27):=by kernel_rfl
def a4p :List x9 → Int → Option (Fl Int Int)
  | [],left_21 =>
    some (.go left_21)
  | x_39 :: xs,left_21 =>
    (b1k x_39 left_21).bind fun r_42 =>
    if (decide (r_42 < 0)) then
    some (.ret (-1))
    else
    a4p xs r_42 

def b0e (a_1:(List x9)) (left_2:Int):Option Int :=
    if (decide (w64 (left_2 - (a_1.length:Int)) < 0)) then
    some (-1)
    else
    (a4p a_1 (w64 (left_2 - (a_1.length:Int)))).bind fun q => (match q with
    | .ret r => some r
    | .go left_31 =>
    some left_31)
theorem c2j (a_1:(List x9)) (left_2:Int) (r:Int) (hf:b0e a_1 left_2 = some r):a0d Try.prog 7 .flat [(.lst 2 (a_1.map l9)),(.int .i64 left_2)] (.int .i64 r):=by
 refine a0d.of_awp mixed Try.func7 fc7 nle ?_;rw [a0t];unfold b0e at hf;unfold c7;refine (show awp Try.prog false 0 _ (ofL [(0,(.lst 2 (a_1.map l9))),(1,(.int .i64 left_2))]) [] _ from ?_);refine sr<|l7 (.int .i64 0) rfl<|dk<|sr<|l7 (.int .i64 left_2) rfl<|l7 (.lst 2 (a_1.map l9)) rfl<|a0o (a1c (enc:=l9) rfl) fun hl3 => y8 (.int .i64 (w64 (left_2 - (a_1.length:Int)))) rfl rfl rfl<|l7 (.int .i64 (w64 (left_2 - (a_1.length:Int)))) rfl<|dk<|o6<|sr<|l7 (.int .i64 (w64 (left_2 - (a_1.length:Int)))) rfl<|y8 (.bool (decide (w64 (left_2 - (a_1.length:Int)) < 0))) rfl rfl rfl<|?_
 refine dk<|?_
 rcases oi hf with ⟨c4,hf⟩ | ⟨c4,hf⟩
 ·refine y5 rfl c4<|sr<|l7 (.int .i64 (-1)) rfl<|dk<|a0k<|?_;obtain rfl:=os hf;exact a0l ⟨trivial,trivial⟩ rfl (.refl _)
 ·refine y7 rfl (bf c4)<|a0e<|a0g<|o6<|sr<|l7 (.int .i64 0) rfl<|dk<|?_
  obtain ⟨p32,hb1,hf⟩:=ob hf
  refine a4a (X:={q:Int // p32 = .go q}) (fun q => ([(1,(.int .i64 q.1))],[])) ?_ ?_
  ·refine a0z (X:={q:(Int × Nat) // a4p (a_1.drop q.2) q.1 = some p32}) (fun q => ([(0,(.lst 2 (a_1.map l9))),(1,(.int .i64 q.1.1)),(5,(.int .i64 (q.1.2:Int)))],[])) (fun q => a_1.length - q.1.2) ⟨(w64 (left_2 - (a_1.length:Int)),0),hb1⟩ ⟨[],[],_,_,rfl,rfl,⟨.refl _,⟨.refl _,⟨.refl _,trivial⟩⟩⟩,(.refl _)⟩ ?_
   rintro ⟨⟨left_21,i_22⟩,hc1⟩
   have hc1:a4p (a_1.drop i_22) left_21 = some p32:=hc1
   refine (show awp Try.prog false 0 _ (ofL [(0,(.lst 2 (a_1.map l9))),(1,(.int .i64 left_21)),(5,(.int .i64 (i_22:Int)))]) [] _ from ?_)
   rcases a5c a_1 i_22 with ⟨hie35,hd38⟩ | ⟨hlt33,x_39,hx34,hd38⟩
   ·rw [hd38,a4p.eq_1] at hc1
    have hq37:=dlf hie35
    refine o6<|sr<|l7 (.int .i64 (i_22:Int)) rfl<|l7 (.lst 2 (a_1.map l9)) rfl<|a0o (a1c (enc:=l9) rfl) fun hl40 => y8 (.bool (decide ((i_22:Int) < (a_1.length:Int)))) rfl rfl rfl<|dk<|y7 rfl hq37<|a1y<|a1x<|a1i<|a1w<|?_;obtain rfl:=os hc1;exact a5z ⟨_,rfl⟩ ⟨[],[],_,_,rfl,rfl,⟨.refl _,trivial⟩,(.refl _)⟩
   ·rw [hd38,a4p.eq_2] at hc1
    have hq37:=dlt hlt33
    refine o6<|sr<|l7 (.int .i64 (i_22:Int)) rfl<|l7 (.lst 2 (a_1.map l9)) rfl<|a0o (a1c (enc:=l9) rfl) fun hl41 => y8 (.bool (decide ((i_22:Int) < (a_1.length:Int)))) rfl rfl rfl<|dk<|y5 rfl hq37<|a0e<|a0g<|o6<|a3j<|sr<|?_
    obtain ⟨r_42,er43,hc1⟩:=ob hc1
    refine l7 (.lst 2 (a_1.map l9)) rfl<|l7 (.int .i64 (i_22:Int)) rfl<|a0b (a1a (enc:=l9) rfl rfl hx34)<|y8 (l9 x_39) rfl nle rfl<|l7 (.int .i64 left_21) rfl<|a0b (a1t (c5b _ _ _ er43) rfl (.refl _) rfl)<|l7 (.int .i64 r_42) rfl<|dk<|sr<|l7 (.int .i64 r_42) rfl<|y8 (.bool (decide (r_42 < 0))) rfl rfl rfl<|dk<|?_
    rcases oi hc1 with ⟨c44,hc1⟩ | ⟨c44,hc1⟩
    ·refine y5 rfl c44<|sr<|l7 (.int .i64 (-1)) rfl<|dk<|a0k<|?_;obtain rfl:=os hc1;obtain rfl:=os hf;exact a0l ⟨trivial,trivial⟩ rfl (.refl _)
    ·refine y7 rfl (bf c44)<|a0e<|a2s<|a0g<|a0y<|l7 (.int .i64 (i_22:Int)) rfl<|y8 (.int .i64 (w64 ((i_22:Int) + 1))) rfl rfl rfl<|l7 (.int .i64 (w64 ((i_22:Int) + 1))) rfl<|a0m<|?_;exact a1e ⟨(r_42,(i_22 + 1)),hc1⟩ (mul hlt33) ⟨[],[],_,_,rfl,rfl,⟨.refl _,⟨.refl _,⟨.of_eq (congrArg (AV.int _) (a1j hlt33 hl41)),trivial⟩⟩⟩,(.refl _)⟩
  ·rintro ⟨left_31,rfl⟩
   refine sr<|l7 (.int .i64 left_31) rfl<|l7 (.int .i64 left_31) rfl<|dk<|a0k<|?_;obtain rfl:=os hf;exact a0l ⟨trivial,trivial⟩ rfl (.refl _)

/- laws.szRowSS -/
def c55:a0r :=
 (.seq (.reg (tm 4 (.c (.int .i64 0)) .done))
 (.seq (.reg (tm 6 (.t 1) (tm 7 (.t 0) (tq 8 (.len (.t 7)) (tq 9 (.bin .sub (.t 6) (.t 8)) (tm 1 (.t 9) .done))))))
 (.seq (.seq (.reg (tm 10 (.t 1) (tq 11 (.bin .lss (.t 10) (.c (.int .i64 0))) .done)))
 (.cond (.t 11) (.seq (.reg (tq 4 (.mov (.c (.int .i64 (-1)))) .done))
 .ret)
 .skip))
 (.seq (.seq (.reg (tm 5 (.c (.int .i64 0)) .done))
 (.block 0 (.loop (.seq (.seq (.reg (tm 12 (.t 5) (tm 13 (.t 0) (tq 14 (.len (.t 13)) (tq 15 (.bin .lss (.t 12) (.t 14)) .done)))))
 (.cond (.t 15) .skip
 (.exit 0)))
 (.seq (.block 1 (.seq (.reg (tm 18 (.t 0) (tm 19 (.t 5) (tq 20 (.iaddr 1 (.t 18) (.t 19)) (tq 21 (.load 1 false (.t 20)) (tm 22 (.t 1) (tq 23 (.call 7 [(.t 21),(.t 22)]) (tm 1 (.t 23) .done))))))))
 (.seq (.reg (tm 24 (.t 1) (tq 25 (.bin .lss (.t 24) (.c (.int .i64 0))) .done)))
 (.cond (.t 25) (.seq (.reg (tq 4 (.mov (.c (.int .i64 (-1)))) .done))
 .ret)
 .skip))))
 (.reg (tm 16 (.t 5) (tq 17 (.bin .add (.t 16) (.c (.int .i64 1))) (tm 5 (.t 17) .done)))))))))
 (.cut (.seq (.reg (tm 26 (.t 1) (tm 4 (.t 26) .done)))
 .ret))))))
theorem d9g:a1p Try.prog Try.f55 = some (c55.erase,[.mov (.t 4)],27):=by kernel_rfl
def a4c :List (List x9) → Int → Option (Fl Int Int)
  | [],left_21 =>
    some (.go left_21)
  | x_39 :: xs,left_21 =>
    (b0e x_39 left_21).bind fun r_42 =>
    if (decide (r_42 < 0)) then
    some (.ret (-1))
    else
    a4c xs r_42 

def a9g (a_1:(List (List x9))) (left_2:Int):Option Int :=
    if (decide (w64 (left_2 - (a_1.length:Int)) < 0)) then
    some (-1)
    else
    (a4c a_1 (w64 (left_2 - (a_1.length:Int)))).bind fun q => (match q with
    | .ret r => some r
    | .go left_31 =>
    some left_31)
theorem c1d (a_1:(List (List x9))) (left_2:Int) (r:Int) (hf:a9g a_1 left_2 = some r):a0d Try.prog 55 .flat [(.lst 1 (a_1.map (o8 2 l9))),(.int .i64 left_2)] (.int .i64 r):=by
 refine a0d.of_awp mixed Try.func55 d9g nle ?_;rw [a0t];unfold a9g at hf;unfold c55;refine (show awp Try.prog false 0 _ (ofL [(0,(.lst 1 (a_1.map (o8 2 l9)))),(1,(.int .i64 left_2))]) [] _ from ?_);refine sr<|l7 (.int .i64 0) rfl<|dk<|sr<|l7 (.int .i64 left_2) rfl<|l7 (.lst 1 (a_1.map (o8 2 l9))) rfl<|a0o (a1c (enc:=(o8 2 l9)) rfl) fun hl3 => y8 (.int .i64 (w64 (left_2 - (a_1.length:Int)))) rfl rfl rfl<|l7 (.int .i64 (w64 (left_2 - (a_1.length:Int)))) rfl<|dk<|o6<|sr<|l7 (.int .i64 (w64 (left_2 - (a_1.length:Int)))) rfl<|y8 (.bool (decide (w64 (left_2 - (a_1.length:Int)) < 0))) rfl rfl rfl<|?_
 refine dk<|?_
 rcases oi hf with ⟨c4,hf⟩ | ⟨c4,hf⟩
 ·refine y5 rfl c4<|sr<|l7 (.int .i64 (-1)) rfl<|dk<|a0k<|?_;obtain rfl:=os hf;exact a0l ⟨trivial,trivial⟩ rfl (.refl _)
 ·refine y7 rfl (bf c4)<|a0e<|a0g<|o6<|sr<|l7 (.int .i64 0) rfl<|dk<|?_
  obtain ⟨p32,hb1,hf⟩:=ob hf
  refine a4a (X:={q:Int // p32 = .go q}) (fun q => ([(1,(.int .i64 q.1))],[])) ?_ ?_
  ·refine a0z (X:={q:(Int × Nat) // a4c (a_1.drop q.2) q.1 = some p32}) (fun q => ([(0,(.lst 1 (a_1.map (o8 2 l9)))),(1,(.int .i64 q.1.1)),(5,(.int .i64 (q.1.2:Int)))],[])) (fun q => a_1.length - q.1.2) ⟨(w64 (left_2 - (a_1.length:Int)),0),hb1⟩ ⟨[],[],_,_,rfl,rfl,⟨.refl _,⟨.refl _,⟨.refl _,trivial⟩⟩⟩,(.refl _)⟩ ?_
   rintro ⟨⟨left_21,i_22⟩,hc1⟩
   have hc1:a4c (a_1.drop i_22) left_21 = some p32:=hc1
   refine (show awp Try.prog false 0 _ (ofL [(0,(.lst 1 (a_1.map (o8 2 l9)))),(1,(.int .i64 left_21)),(5,(.int .i64 (i_22:Int)))]) [] _ from ?_)
   rcases a5c a_1 i_22 with ⟨hie35,hd38⟩ | ⟨hlt33,x_39,hx34,hd38⟩
   ·rw [hd38,a4c.eq_1] at hc1
    have hq37:=dlf hie35
    refine o6<|sr<|l7 (.int .i64 (i_22:Int)) rfl<|l7 (.lst 1 (a_1.map (o8 2 l9))) rfl<|a0o (a1c (enc:=(o8 2 l9)) rfl) fun hl40 => y8 (.bool (decide ((i_22:Int) < (a_1.length:Int)))) rfl rfl rfl<|dk<|y7 rfl hq37<|a1y<|a1x<|a1i<|a1w<|?_;obtain rfl:=os hc1;exact a5z ⟨_,rfl⟩ ⟨[],[],_,_,rfl,rfl,⟨.refl _,trivial⟩,(.refl _)⟩
   ·rw [hd38,a4c.eq_2] at hc1
    have hq37:=dlt hlt33
    refine o6<|sr<|l7 (.int .i64 (i_22:Int)) rfl<|l7 (.lst 1 (a_1.map (o8 2 l9))) rfl<|a0o (a1c (enc:=(o8 2 l9)) rfl) fun hl41 => y8 (.bool (decide ((i_22:Int) < (a_1.length:Int)))) rfl rfl rfl<|dk<|y5 rfl hq37<|a0e<|a0g<|o6<|a3j<|sr<|?_
    obtain ⟨r_42,er43,hc1⟩:=ob hc1
    refine l7 (.lst 1 (a_1.map (o8 2 l9))) rfl<|l7 (.int .i64 (i_22:Int)) rfl<|a0b (a1a (enc:=(o8 2 l9)) rfl rfl hx34)<|y8 (.lst 2 (x_39.map l9)) rfl ⟨rfl,rfl⟩ rfl<|l7 (.int .i64 left_21) rfl<|a0b (a1t (c2j _ _ _ er43) rfl (.refl _) rfl)<|l7 (.int .i64 r_42) rfl<|dk<|sr<|l7 (.int .i64 r_42) rfl<|y8 (.bool (decide (r_42 < 0))) rfl rfl rfl<|dk<|?_
    rcases oi hc1 with ⟨c44,hc1⟩ | ⟨c44,hc1⟩
    ·refine y5 rfl c44<|sr<|l7 (.int .i64 (-1)) rfl<|dk<|a0k<|?_;obtain rfl:=os hc1;obtain rfl:=os hf;exact a0l ⟨trivial,trivial⟩ rfl (.refl _)
    ·refine y7 rfl (bf c44)<|a0e<|a2s<|a0g<|a0y<|l7 (.int .i64 (i_22:Int)) rfl<|y8 (.int .i64 (w64 ((i_22:Int) + 1))) rfl rfl rfl<|l7 (.int .i64 (w64 ((i_22:Int) + 1))) rfl<|a0m<|?_;exact a1e ⟨(r_42,(i_22 + 1)),hc1⟩ (mul hlt33) ⟨[],[],_,_,rfl,rfl,⟨.refl _,⟨.refl _,⟨.of_eq (congrArg (AV.int _) (a1j hlt33 hl41)),trivial⟩⟩⟩,(.refl _)⟩
  ·rintro ⟨left_31,rfl⟩
   refine sr<|l7 (.int .i64 left_31) rfl<|l7 (.int .i64 left_31) rfl<|dk<|a0k<|?_;obtain rfl:=os hf;exact a0l ⟨trivial,trivial⟩ rfl (.refl _)

/- laws.szStore -/
def c18:a0r :=
 (.seq (.reg (tq 2 (.box 2 (.t 0)) (tm 4 (.c (.int .i64 0)) .done)))
 (.seq (.reg (tq 5 (.faddr 0 (.t 2)) (tq 6 (.load 1 false (.t 5)) (tm 7 (.t 1) (tq 8 (.call 55 [(.t 6),(.t 7)]) (tm 1 (.t 8) .done))))))
 (.seq (.seq (.reg (tm 9 (.t 1) (tq 10 (.bin .lss (.t 9) (.c (.int .i64 0))) .done)))
 (.cond (.t 10) (.seq (.reg (tq 4 (.mov (.c (.int .i64 (-1)))) .done))
 .ret)
 .skip))
 (.seq (.reg (tm 11 (.t 1) (tm 4 (.t 11) .done)))
 .ret))))
theorem d9h:a1p Try.prog Try.f18 = some (c18.erase,[.mov (.t 4)],12):=by kernel_rfl
def a7u (a_1:a1d) (left_2:Int):Option Int :=
    (a9g a_1.Tables left_2).bind fun r_3 =>
    if (decide (r_3 < 0)) then
    some (-1)
    else
    some r_3
theorem b3y (a_1:a1d) (left_2:Int) (r:Int) (hf:a7u a_1 left_2 = some r):a0d Try.prog 18 .flat [(a1r a_1),(.int .i64 left_2)] (.int .i64 r):=by
 refine a0d.of_awp mixed Try.func18 d9h nle ?_;rw [a0t];unfold a7u at hf;unfold c18;refine (show awp Try.prog false 0 _ (ofL [(0,(a1r a_1)),(1,(.int .i64 left_2))]) [] _ from ?_);refine sr<|a0b (a2t (j:=0) (c:=(.agg [(.lst 1 (a_1.Tables.map (o8 2 l9))),(.int .i64 a_1.Next)])) rfl trivial rfl rfl)<|l7 (.int .i64 0) rfl<|dk<|sr<|?_
 obtain ⟨r_3,er4,hf⟩:=ob hf
 refine y8 (.ptr 0 0 0) rfl trivial rfl<|y8 (.lst 1 (a_1.Tables.map (o8 2 l9))) rfl nle rfl<|l7 (.int .i64 left_2) rfl<|a0b (a1t (c1d _ _ _ er4) rfl (.refl _) rfl)<|l7 (.int .i64 r_3) rfl<|dk<|o6<|sr<|l7 (.int .i64 r_3) rfl<|y8 (.bool (decide (r_3 < 0))) rfl rfl rfl<|dk<|?_
 rcases oi hf with ⟨c5,hf⟩ | ⟨c5,hf⟩
 ·refine y5 rfl c5<|sr<|l7 (.int .i64 (-1)) rfl<|dk<|a0k<|?_;obtain rfl:=os hf;exact a0l ⟨trivial,trivial⟩ rfl (.refl _)
 ·refine y7 rfl (bf c5)<|a0e<|a0g<|sr<|l7 (.int .i64 r_3) rfl<|l7 (.int .i64 r_3) rfl<|dk<|a0k<|?_;obtain rfl:=os hf;exact a0l ⟨trivial,trivial⟩ rfl (.refl _)

/- laws.toAtom -/
def d8f:a0r :=
 (.seq (.reg (tq 1 (.box 3 (.t 0)) (tq 2 (.box 3 (.c (.agg [(.int .i64 0),(.int .i64 0),(.str [])]))) .done)))
 (.seq (.reg (tq 3 (.box 3 (.c (.agg [(.int .i64 0),(.int .i64 0),(.str [])]))) .done))
 (.seq (.reg (tq 4 (.faddr 0 (.t 1)) (tq 5 (.load 1 false (.t 4)) (tq 6 (.faddr 0 (.t 3)) (.q ⟨none,none,.store 1 (.t 6) (.t 5)⟩
 .done)))))
 (.seq (.reg (tq 7 (.faddr 1 (.t 1)) (tq 8 (.load 1 false (.t 7)) (tq 9 (.faddr 1 (.t 3)) (.q ⟨none,none,.store 1 (.t 9) (.t 8)⟩
 .done)))))
 (.seq (.reg (tq 10 (.faddr 2 (.t 1)) (tq 11 (.load 1 false (.t 10)) (tq 12 (.faddr 2 (.t 3)) (.q ⟨none,none,.store 1 (.t 12) (.t 11)⟩
 .done)))))
 (.seq (.reg (tq 13 (.load 3 true (.t 3)) (.q ⟨none,none,.store 3 (.t 2) (.t 13)⟩
 .done)))
 .ret))))))
theorem d8g:a1p Try.prog Try.f111 = some (d8f.erase,[.load 3 true (.t 2)],14):=by kernel_rfl
def b0f (a_1:y9):Option y9 :=
    some a_1
theorem c2k (a_1:y9) (r:y9) (hf:b0f a_1 = some r):a0d Try.prog 111 .flat [(o5 a_1)] (o5 r):=by
 refine a0d.of_awp mixed Try.func111 d8g nle ?_;rw [a0t];unfold b0f at hf;unfold d8f;refine (show awp Try.prog false 0 _ (ofL [(0,(o5 a_1))]) [] _ from ?_);refine sr<|a0b (a2t (j:=0) (c:=(.agg [(.int .i64 a_1.Kind),(.int .i64 a_1.N),(.str a_1.T)])) rfl trivial rfl rfl)<|a0b (a2t (j:=1) (c:=(.agg [(.int .i64 0),(.int .i64 0),(.str [])])) rfl trivial rfl rfl)<|dk<|sr<|a0b (a2t (j:=2) (c:=(.agg [(.int .i64 0),(.int .i64 0),(.str [])])) rfl trivial rfl rfl)<|dk<|sr<|y8 (.ptr 0 0 0) rfl trivial rfl<|y8 (.int .i64 a_1.Kind) rfl nle rfl<|y8 (.ptr 2 0 0) rfl trivial rfl<|a4o (a1h (v:=(.int .i64 a_1.Kind)) (y':=(.agg [(.int .i64 a_1.Kind),(.int .i64 0),(.str [])])) rfl rfl rfl trivial ⟨rfl,nle⟩ ⟨⟨rfl,trivial⟩,trivial⟩ rfl)<|?_
 refine dk<|sr<|y8 (.ptr 0 0 1) rfl trivial rfl<|y8 (.int .i64 a_1.N) rfl nle rfl<|y8 (.ptr 2 0 1) rfl trivial rfl<|a4o (a1h (v:=(.int .i64 a_1.N)) (y':=(.agg [(.int .i64 a_1.Kind),(.int .i64 a_1.N),(.str [])])) rfl rfl rfl trivial ⟨rfl,nle⟩ ⟨⟨rfl,trivial⟩,trivial⟩ rfl)<|dk<|sr<|y8 (.ptr 0 0 2) rfl trivial rfl<|y8 (.str a_1.T) rfl nle rfl<|y8 (.ptr 2 0 2) rfl trivial rfl<|a4o (a1h (v:=(.str a_1.T)) (y':=(.agg [(.int .i64 a_1.Kind),(.int .i64 a_1.N),(.str a_1.T)])) rfl rfl rfl trivial ⟨rfl,nle⟩ ⟨⟨rfl,trivial⟩,trivial⟩ rfl)<|dk<|sr<|y8 (.agg [(.int .i64 a_1.Kind),(.int .i64 a_1.N),(.str a_1.T)]) rfl nle rfl<|?_
 refine a4o (a1h (v:=(.agg [(.int .i64 a_1.Kind),(.int .i64 a_1.N),(.str a_1.T)])) (y':=(.agg [(.int .i64 a_1.Kind),(.int .i64 a_1.N),(.str a_1.T)])) rfl rfl rfl trivial ⟨rfl,nle⟩ ⟨⟨rfl,trivial⟩,⟨⟨rfl,trivial⟩,⟨⟨rfl,trivial⟩,trivial⟩⟩⟩ rfl)<|dk<|a0k<|?_;obtain rfl:=os hf;exact a0l ⟨nle,trivial⟩ rfl (.refl _)

/- laws.toAtomS -/
def c96:a0r :=
 (.seq (.reg (tm 2 (.c .nil) .done))
 (.seq (.reg (tm 5 (.t 0) (tq 6 (.len (.t 5)) (tq 7 (.mkslice 3 32 (.agg [(.int .i64 0),(.int .i64 0),(.str [])]) (.t 6) (.t 6)) (tm 3 (.t 7) .done)))))
 (.seq (.seq (.reg (tm 4 (.c (.int .i64 0)) .done))
 (.block 0 (.loop (.seq (.seq (.reg (tm 8 (.t 4) (tm 9 (.t 0) (tq 10 (.len (.t 9)) (tq 11 (.bin .lss (.t 8) (.t 10)) .done)))))
 (.cond (.t 11) .skip
 (.exit 0)))
 (.seq (.block 1 (.reg (tm 14 (.t 3) (tm 15 (.t 4) (tm 16 (.t 0) (tm 17 (.t 4) (tq 18 (.iaddr 3 (.t 16) (.t 17)) (tq 19 (.load 3 true (.t 18)) (tq 20 (.call 111 [(.t 19)]) (tq 21 (.iaddr 3 (.t 14) (.t 15)) (.q ⟨none,none,.store 3 (.t 21) (.t 20)⟩
 .done)))))))))))
 (.reg (tm 12 (.t 4) (tq 13 (.bin .add (.t 12) (.c (.int .i64 1))) (tm 4 (.t 13) .done)))))))))
 (.cut (.seq (.reg (tm 22 (.t 3) (tm 2 (.t 22) .done)))
 .ret)))))
theorem d9i:a1p Try.prog Try.f96 = some (c96.erase,[.mov (.t 2)],23):=by kernel_rfl
def a4d :List y9 → Nat → (List y9) → Option (List y9)
  | [],i_24,out_25 =>
    some out_25
  | x_44 :: xs,i_24,out_25 =>
    (b0f x_44).bind fun r_47 =>
    if i_24 < out_25.length then
    (out_25[i_24]?).bind fun x_50 =>
    a4d xs (i_24 + 1) (out_25.set i_24 r_47)
    else none

def a9h (a_1:(List y9)):Option (List y9) :=
    if (a_1.length:Int) ≤ 2 ^ 30 then
    (a4d a_1 0 (List.replicate a_1.length (⟨0,0,[]⟩:y9))).bind fun out_36 =>
    some out_36
    else none
theorem c1e (a_1:(List y9)) (r:(List y9)) (hf:a9h a_1 = some r):a0d Try.prog 96 .fresh [(.lst 3 (a_1.map o5))] (.lst 3 (r.map o5)):=by
 refine a0d.of_awp mixed Try.func96 d9i nle ?_;rw [a0t];unfold a9h at hf;unfold c96;refine (show awp Try.prog true 0 _ (ofL [(0,(.lst 3 (a_1.map o5)))]) [] _ from ?_);refine sr<|l7 .nil rfl<|dk<|sr<|?_
 obtain ⟨g3,hf⟩:=og hf
 refine l7 (.lst 3 (a_1.map o5)) rfl<|a0o (a1c (enc:=o5) rfl) fun hl2 => a0b (b4q (j:=0) (enc:=o5) (m:=a_1.length) (⟨0,0,[]⟩:y9) (.refl _) rfl rfl (Int.le_refl _) g3 rfl)<|l7 (.own 0 0 a_1.length) rfl<|dk<|o6<|sr<|l7 (.int .i64 0) rfl<|dk<|?_
 obtain ⟨out_36,hb1,hf⟩:=ob hf
 refine a2e ([(3,(.own 0 0 out_36.length))],[.row 3 (out_36.map o5)]) ?_ ?_
 ·refine a0z (X:={q:(Nat × (List y9)) // a4d (a_1.drop q.1) q.1 q.2 = some out_36}) (fun q => ([(0,(.lst 3 (a_1.map o5))),(3,(.own 0 0 q.1.2.length)),(4,(.int .i64 (q.1.1:Int)))],[.row 3 (q.1.2.map o5)])) (fun q => a_1.length - q.1.1) ⟨(0,List.replicate a_1.length (⟨0,0,[]⟩:y9)),hb1⟩ ⟨[],[0],_,_,rfl,rfl,⟨.refl _,⟨.of_eq (congrArg (AV.own _ 0) (by simp)),⟨.refl _,trivial⟩⟩⟩,(.refl _)⟩ ?_
  rintro ⟨⟨i_24,out_25⟩,hc1⟩
  have hc1:a4d (a_1.drop i_24) i_24 out_25 = some out_36:=hc1
  refine (show awp Try.prog true 0 _ (ofL [(0,(.lst 3 (a_1.map o5))),(3,(.own 0 0 out_25.length)),(4,(.int .i64 (i_24:Int)))]) [.row 3 (out_25.map o5)] _ from ?_)
  rcases a5c a_1 i_24 with ⟨hie40,hd43⟩ | ⟨hlt38,x_44,hx39,hd43⟩
  ·rw [hd43,a4d.eq_1] at hc1
   have hq42:=dlf hie40
   refine o6<|sr<|l7 (.int .i64 (i_24:Int)) rfl<|l7 (.lst 3 (a_1.map o5)) rfl<|a0o (a1c (enc:=o5) rfl) fun hl45 => y8 (.bool (decide ((i_24:Int) < (a_1.length:Int)))) rfl rfl rfl<|dk<|y7 rfl hq42<|a1y<|a1x<|a1i<|a1w<|?_;obtain rfl:=os hc1;exact ⟨[],[0],_,_,rfl,rfl,⟨.refl _,trivial⟩,(.refl _)⟩
  ·rw [hd43,a4d.eq_2] at hc1
   have hq42:=dlt hlt38
   refine o6<|sr<|l7 (.int .i64 (i_24:Int)) rfl<|l7 (.lst 3 (a_1.map o5)) rfl<|a0o (a1c (enc:=o5) rfl) fun hl46 => y8 (.bool (decide ((i_24:Int) < (a_1.length:Int)))) rfl rfl rfl<|dk<|y5 rfl hq42<|a0e<|a0g<|o6<|a3j<|a0y<|?_
   obtain ⟨r_47,er48,hc1⟩:=ob hc1
   obtain ⟨g49,hc1⟩:=og hc1
   obtain ⟨x_50,ex51,hc1⟩:=ob hc1
   refine l7 (.own 0 0 out_25.length) rfl<|l7 (.int .i64 (i_24:Int)) rfl<|l7 (.lst 3 (a_1.map o5)) rfl<|l7 (.int .i64 (i_24:Int)) rfl<|a0b (a1a (enc:=o5) rfl rfl hx39)<|y8 (o5 x_44) rfl nle rfl<|a0b (a1t (c2k _ _ er48) rfl (.refl _) rfl)<|a0b (a5q rfl rfl g49 rfl rfl)<|?_;refine a4o (a5a (v':=(o5 r_47)) (e':=r_47) rfl rfl ex51 rfl rfl rfl (by decide) (fun _ => by decide) ⟨rfl,nle⟩ (.refl _) rfl) ?_;refine a0m<|a2s<|a0g<|a0y<|l7 (.int .i64 (i_24:Int)) rfl<|y8 (.int .i64 (w64 ((i_24:Int) + 1))) rfl rfl rfl<|l7 (.int .i64 (w64 ((i_24:Int) + 1))) rfl<|a0m<|?_;exact a1e ⟨((i_24 + 1),out_25.set i_24 r_47),hc1⟩ (mul hlt38) ⟨[],[0],_,_,rfl,rfl,⟨.refl _,⟨.of_eq (congrArg (AV.own _ 0) (by simp)),⟨.of_eq (congrArg (AV.int _) (a1j hlt38 hl46)),trivial⟩⟩⟩,(.refl _)⟩
 ·refine sr<|l7 (.own 0 0 out_36.length) rfl<|l7 (.own 0 0 out_36.length) rfl<|dk<|a0k<|?_;obtain rfl:=os hf;exact a4v ⟨trivial,trivial⟩ rfl (by decide) (.of_eq (congrArg (AV.lst _) (tk (enc:=o5) out_36)))

/- laws.toAtomSS -/
def c75:a0r :=
 (.seq (.reg (tm 2 (.c .nil) .done))
 (.seq (.reg (tm 5 (.t 0) (tq 6 (.len (.t 5)) (tq 7 (.mkslice 1 24 .nil (.t 6) (.t 6)) (tm 3 (.t 7) .done)))))
 (.seq (.seq (.reg (tm 4 (.c (.int .i64 0)) .done))
 (.block 0 (.loop (.seq (.seq (.reg (tm 8 (.t 4) (tm 9 (.t 0) (tq 10 (.len (.t 9)) (tq 11 (.bin .lss (.t 8) (.t 10)) .done)))))
 (.cond (.t 11) .skip
 (.exit 0)))
 (.seq (.block 1 (.reg (tm 14 (.t 3) (tm 15 (.t 4) (tm 16 (.t 0) (tm 17 (.t 4) (tq 18 (.iaddr 1 (.t 16) (.t 17)) (tq 19 (.load 1 false (.t 18)) (tq 20 (.call 96 [(.t 19)]) (tq 21 (.iaddr 1 (.t 14) (.t 15)) (.q ⟨none,none,.store 1 (.t 21) (.t 20)⟩
 .done)))))))))))
 (.reg (tm 12 (.t 4) (tq 13 (.bin .add (.t 12) (.c (.int .i64 1))) (tm 4 (.t 13) .done)))))))))
 (.cut (.seq (.reg (tm 22 (.t 3) (tm 2 (.t 22) .done)))
 .ret)))))
theorem d9j:a1p Try.prog Try.f75 = some (c75.erase,[.mov (.t 2)],23):=by kernel_rfl
def a3m :List (List y9) → Nat → (List (List y9)) → Option (List (List y9))
  | [],i_24,out_25 =>
    some out_25
  | x_44 :: xs,i_24,out_25 =>
    (a9h x_44).bind fun r_47 =>
    if i_24 < out_25.length then
    (out_25[i_24]?).bind fun x_50 =>
    a3m xs (i_24 + 1) (out_25.set i_24 r_47)
    else none

def a8e (a_1:(List (List y9))):Option (List (List y9)) :=
    if (a_1.length:Int) ≤ 2 ^ 30 then
    (a3m a_1 0 (List.replicate a_1.length [])).bind fun out_36 =>
    some out_36
    else none
theorem b9e (a_1:(List (List y9))) (r:(List (List y9))) (hf:a8e a_1 = some r):a0d Try.prog 75 .fresh [(.lst 1 (a_1.map (o8 3 o5)))] (.lst 1 (r.map (o8 3 o5))):=by
 refine a0d.of_awp mixed Try.func75 d9j nle ?_;rw [a0t];unfold a8e at hf;unfold c75;refine (show awp Try.prog true 0 _ (ofL [(0,(.lst 1 (a_1.map (o8 3 o5))))]) [] _ from ?_);refine sr<|l7 .nil rfl<|dk<|sr<|?_
 obtain ⟨g3,hf⟩:=og hf
 refine l7 (.lst 1 (a_1.map (o8 3 o5))) rfl<|a0o (a1c (enc:=(o8 3 o5)) rfl) fun hl2 => a0b (b4q (j:=0) (enc:=(o8 3 o5)) (m:=a_1.length) [] (.nil _) rfl rfl (Int.le_refl _) g3 rfl)<|l7 (.own 0 0 a_1.length) rfl<|dk<|o6<|sr<|l7 (.int .i64 0) rfl<|dk<|?_
 obtain ⟨out_36,hb1,hf⟩:=ob hf
 refine a2e ([(3,(.own 0 0 out_36.length))],[.row 1 (out_36.map (o8 3 o5))]) ?_ ?_
 ·refine a0z (X:={q:(Nat × (List (List y9))) // a3m (a_1.drop q.1) q.1 q.2 = some out_36}) (fun q => ([(0,(.lst 1 (a_1.map (o8 3 o5)))),(3,(.own 0 0 q.1.2.length)),(4,(.int .i64 (q.1.1:Int)))],[.row 1 (q.1.2.map (o8 3 o5))])) (fun q => a_1.length - q.1.1) ⟨(0,List.replicate a_1.length []),hb1⟩ ⟨[],[0],_,_,rfl,rfl,⟨.refl _,⟨.of_eq (congrArg (AV.own _ 0) (by simp)),⟨.refl _,trivial⟩⟩⟩,(.refl _)⟩ ?_
  rintro ⟨⟨i_24,out_25⟩,hc1⟩
  have hc1:a3m (a_1.drop i_24) i_24 out_25 = some out_36:=hc1
  refine (show awp Try.prog true 0 _ (ofL [(0,(.lst 1 (a_1.map (o8 3 o5)))),(3,(.own 0 0 out_25.length)),(4,(.int .i64 (i_24:Int)))]) [.row 1 (out_25.map (o8 3 o5))] _ from ?_)
  rcases a5c a_1 i_24 with ⟨hie40,hd43⟩ | ⟨hlt38,x_44,hx39,hd43⟩
  ·rw [hd43,a3m.eq_1] at hc1
   have hq42:=dlf hie40
   refine o6<|sr<|l7 (.int .i64 (i_24:Int)) rfl<|l7 (.lst 1 (a_1.map (o8 3 o5))) rfl<|a0o (a1c (enc:=(o8 3 o5)) rfl) fun hl45 => y8 (.bool (decide ((i_24:Int) < (a_1.length:Int)))) rfl rfl rfl<|dk<|y7 rfl hq42<|a1y<|a1x<|a1i<|a1w<|?_;obtain rfl:=os hc1;exact ⟨[],[0],_,_,rfl,rfl,⟨.refl _,trivial⟩,(.refl _)⟩
  ·rw [hd43,a3m.eq_2] at hc1
   have hq42:=dlt hlt38
   refine o6<|sr<|l7 (.int .i64 (i_24:Int)) rfl<|l7 (.lst 1 (a_1.map (o8 3 o5))) rfl<|a0o (a1c (enc:=(o8 3 o5)) rfl) fun hl46 => y8 (.bool (decide ((i_24:Int) < (a_1.length:Int)))) rfl rfl rfl<|dk<|y5 rfl hq42<|a0e<|a0g<|o6<|a3j<|a0y<|?_
   obtain ⟨r_47,er48,hc1⟩:=ob hc1
   obtain ⟨g49,hc1⟩:=og hc1
   obtain ⟨x_50,ex51,hc1⟩:=ob hc1
   refine l7 (.own 0 0 out_25.length) rfl<|l7 (.int .i64 (i_24:Int)) rfl<|l7 (.lst 1 (a_1.map (o8 3 o5))) rfl<|l7 (.int .i64 (i_24:Int)) rfl<|a0b (a1a (enc:=(o8 3 o5)) rfl rfl hx39)<|y8 (.lst 3 (x_44.map o5)) rfl ⟨rfl,rfl⟩ rfl<|a0b (a3f (v:=(.own 1 0 r_47.length)) (h':=[.row 3 (r_47.map o5)]) (c1e _ _ er48) rfl (.refl _) (by simp only [a1s,a1v,List.length_map,List.nil_append,List.append_nil,List.cons_append];rfl))<|a0b (a5q rfl rfl g49 rfl rfl)<|?_
   refine a4o (a5a (v':=(.lst 3 (r_47.map o5))) (e':=r_47) rfl rfl ex51 rfl rfl (by first | (simp only [tk,tko,List.take_length];done) | rfl | simp) (by decide) (fun _ => by decide) ⟨rfl,rfl,rfl⟩ (.refl _) rfl) ?_
   refine a0m<|a2s<|a0g<|a0y<|l7 (.int .i64 (i_24:Int)) rfl<|y8 (.int .i64 (w64 ((i_24:Int) + 1))) rfl rfl rfl<|l7 (.int .i64 (w64 ((i_24:Int) + 1))) rfl<|a0m<|?_;exact a1e ⟨((i_24 + 1),out_25.set i_24 r_47),hc1⟩ (mul hlt38) ⟨[],[0],_,_,rfl,rfl,⟨.refl _,⟨.of_eq (congrArg (AV.own _ 0) (by simp)),⟨.of_eq (congrArg (AV.int _) (a1j hlt38 hl46)),trivial⟩⟩⟩,(.refl _)⟩
 ·refine sr<|l7 (.own 0 0 out_36.length) rfl<|l7 (.own 0 0 out_36.length) rfl<|dk<|a0k<|?_;obtain rfl:=os hf;exact a4v ⟨trivial,trivial⟩ rfl (by decide) (.of_eq (congrArg (AV.lst _) (tk (enc:=(o8 3 o5)) out_36)))

/- laws.toRow -/
def c44:a0r :=
 (.seq (.reg (tq 1 (.box 2 (.t 0)) (tq 2 (.box 2 (.c (.agg [(.int .i64 0),.nil]))) .done)))
 (.seq (.reg (tq 3 (.box 2 (.c (.agg [(.int .i64 0),.nil]))) .done))
 (.seq (.reg (tq 4 (.faddr 0 (.t 1)) (tq 5 (.load 1 false (.t 4)) (tq 6 (.faddr 0 (.t 3)) (.q ⟨none,none,.store 1 (.t 6) (.t 5)⟩
 .done)))))
 (.seq (.reg (tq 7 (.faddr 1 (.t 1)) (tq 8 (.load 1 false (.t 7)) (tq 9 (.call 75 [(.t 8)]) (tq 10 (.faddr 1 (.t 3)) (.q ⟨none,none,.store 1 (.t 10) (.t 9)⟩
 .done))))))
 (.seq (.reg (tq 11 (.load 2 true (.t 3)) (.q ⟨none,none,.store 2 (.t 2) (.t 11)⟩
 .done)))
 .ret)))))
theorem d9k:a1p Try.prog Try.f44 = some (c44.erase,[.load 2 true (.t 2)],12):=by kernel_rfl
def b1l (a_1:x9):Option x9 :=
    (a8e a_1.Cells).bind fun r_2 =>
    some (⟨a_1.Id,r_2⟩:x9)
theorem c5c (a_1:x9) (r:x9) (hf:b1l a_1 = some r):a0d Try.prog 44 .fresh [(l9 a_1)] (l9 r):=by
 refine a0d.of_awp mixed Try.func44 d9k nle ?_;rw [a0t];unfold b1l at hf;unfold c44;refine (show awp Try.prog true 0 _ (ofL [(0,(l9 a_1))]) [] _ from ?_);refine sr<|a0b (a2t (j:=0) (c:=(.agg [(.int .i64 a_1.Id),(.lst 1 (a_1.Cells.map (o8 3 o5)))])) rfl trivial rfl rfl)<|a0b (a2t (j:=1) (c:=(.agg [(.int .i64 0),.nil])) rfl trivial rfl rfl)<|dk<|sr<|a0b (a2t (j:=2) (c:=(.agg [(.int .i64 0),.nil])) rfl trivial rfl rfl)<|dk<|sr<|y8 (.ptr 0 0 0) rfl trivial rfl<|y8 (.int .i64 a_1.Id) rfl nle rfl<|y8 (.ptr 2 0 0) rfl trivial rfl<|a4o (a1h (v:=(.int .i64 a_1.Id)) (y':=(.agg [(.int .i64 a_1.Id),.nil])) rfl rfl rfl trivial ⟨rfl,nle⟩ ⟨⟨rfl,trivial⟩,trivial⟩ rfl)<|?_
 refine dk<|sr<|?_
 obtain ⟨r_2,er3,hf⟩:=ob hf
 refine y8 (.ptr 0 0 1) rfl trivial rfl<|y8 (.lst 1 (a_1.Cells.map (o8 3 o5))) rfl nle rfl<|a0b (a3f (v:=(.own 3 0 r_2.length)) (h':=[.row 1 (r_2.map (o8 3 o5))]) (b9e _ _ er3) rfl (.refl _) (by simp only [a1s,a1v,List.length_map,List.nil_append,List.append_nil,List.cons_append];rfl))<|y8 (.ptr 2 0 1) rfl trivial rfl<|a4o (a1h (v:=(.own 3 0 r_2.length)) (y':=(.agg [(.int .i64 a_1.Id),(.own 3 0 r_2.length)])) rfl rfl rfl trivial ⟨rfl,nle⟩ ⟨⟨rfl,trivial⟩,trivial⟩ rfl)<|dk<|sr<|y8 (.agg [(.int .i64 a_1.Id),(.own 3 0 r_2.length)]) rfl nle rfl<|a4o (a1h (v:=(.agg [(.int .i64 a_1.Id),(.own 3 0 r_2.length)])) (y':=(.agg [(.int .i64 a_1.Id),(.own 3 0 r_2.length)])) rfl rfl rfl trivial ⟨rfl,nle⟩ ⟨⟨rfl,trivial⟩,⟨⟨rfl,trivial⟩,trivial⟩⟩ rfl)<|?_
 refine dk<|a0k<|?_;obtain rfl:=os hf;exact a4v ⟨nle,trivial⟩ rfl (by decide) (.agg (.cons (.refl _) (.cons (.of_eq (congrArg (AV.lst _) (tk (enc:=(o8 3 o5)) r_2))) .nil)))

/- laws.toRowS -/
def c10:a0r :=
 (.seq (.reg (tm 2 (.c .nil) .done))
 (.seq (.reg (tm 5 (.t 0) (tq 6 (.len (.t 5)) (tq 7 (.mkslice 2 32 (.agg [(.int .i64 0),.nil]) (.t 6) (.t 6)) (tm 3 (.t 7) .done)))))
 (.seq (.seq (.reg (tm 4 (.c (.int .i64 0)) .done))
 (.block 0 (.loop (.seq (.seq (.reg (tm 8 (.t 4) (tm 9 (.t 0) (tq 10 (.len (.t 9)) (tq 11 (.bin .lss (.t 8) (.t 10)) .done)))))
 (.cond (.t 11) .skip
 (.exit 0)))
 (.seq (.block 1 (.reg (tm 14 (.t 3) (tm 15 (.t 4) (tm 16 (.t 0) (tm 17 (.t 4) (tq 18 (.iaddr 2 (.t 16) (.t 17)) (tq 19 (.load 2 true (.t 18)) (tq 20 (.call 44 [(.t 19)]) (tq 21 (.iaddr 2 (.t 14) (.t 15)) (.q ⟨none,none,.store 2 (.t 21) (.t 20)⟩
 .done)))))))))))
 (.reg (tm 12 (.t 4) (tq 13 (.bin .add (.t 12) (.c (.int .i64 1))) (tm 4 (.t 13) .done)))))))))
 (.cut (.seq (.reg (tm 22 (.t 3) (tm 2 (.t 22) .done)))
 .ret)))))
theorem d9l:a1p Try.prog Try.f10 = some (c10.erase,[.mov (.t 2)],23):=by kernel_rfl
def a4q :List x9 → Nat → (List x9) → Option (List x9)
  | [],i_24,out_25 =>
    some out_25
  | x_44 :: xs,i_24,out_25 =>
    (b1l x_44).bind fun r_47 =>
    if i_24 < out_25.length then
    (out_25[i_24]?).bind fun x_50 =>
    a4q xs (i_24 + 1) (out_25.set i_24 r_47)
    else none

def b0g (a_1:(List x9)):Option (List x9) :=
    if (a_1.length:Int) ≤ 2 ^ 30 then
    (a4q a_1 0 (List.replicate a_1.length (⟨0,[]⟩:x9))).bind fun out_36 =>
    some out_36
    else none
theorem c2l (a_1:(List x9)) (r:(List x9)) (hf:b0g a_1 = some r):a0d Try.prog 10 .fresh [(.lst 2 (a_1.map l9))] (.lst 2 (r.map l9)):=by
 refine a0d.of_awp mixed Try.func10 d9l nle ?_;rw [a0t];unfold b0g at hf;unfold c10;refine (show awp Try.prog true 0 _ (ofL [(0,(.lst 2 (a_1.map l9)))]) [] _ from ?_);refine sr<|l7 .nil rfl<|dk<|sr<|?_
 obtain ⟨g3,hf⟩:=og hf
 refine l7 (.lst 2 (a_1.map l9)) rfl<|a0o (a1c (enc:=l9) rfl) fun hl2 => a0b (b4q (j:=0) (enc:=l9) (m:=a_1.length) (⟨0,[]⟩:x9) (.agg (.cons (.refl _) (.cons (.nil _) .nil))) rfl rfl (Int.le_refl _) g3 rfl)<|l7 (.own 0 0 a_1.length) rfl<|dk<|o6<|sr<|l7 (.int .i64 0) rfl<|dk<|?_
 obtain ⟨out_36,hb1,hf⟩:=ob hf
 refine a2e ([(3,(.own 0 0 out_36.length))],[.row 2 (out_36.map l9)]) ?_ ?_
 ·refine a0z (X:={q:(Nat × (List x9)) // a4q (a_1.drop q.1) q.1 q.2 = some out_36}) (fun q => ([(0,(.lst 2 (a_1.map l9))),(3,(.own 0 0 q.1.2.length)),(4,(.int .i64 (q.1.1:Int)))],[.row 2 (q.1.2.map l9)])) (fun q => a_1.length - q.1.1) ⟨(0,List.replicate a_1.length (⟨0,[]⟩:x9)),hb1⟩ ⟨[],[0],_,_,rfl,rfl,⟨.refl _,⟨.of_eq (congrArg (AV.own _ 0) (by simp)),⟨.refl _,trivial⟩⟩⟩,(.refl _)⟩ ?_
  rintro ⟨⟨i_24,out_25⟩,hc1⟩
  have hc1:a4q (a_1.drop i_24) i_24 out_25 = some out_36:=hc1
  refine (show awp Try.prog true 0 _ (ofL [(0,(.lst 2 (a_1.map l9))),(3,(.own 0 0 out_25.length)),(4,(.int .i64 (i_24:Int)))]) [.row 2 (out_25.map l9)] _ from ?_)
  rcases a5c a_1 i_24 with ⟨hie40,hd43⟩ | ⟨hlt38,x_44,hx39,hd43⟩
  ·rw [hd43,a4q.eq_1] at hc1
   have hq42:=dlf hie40
   refine o6<|sr<|l7 (.int .i64 (i_24:Int)) rfl<|l7 (.lst 2 (a_1.map l9)) rfl<|a0o (a1c (enc:=l9) rfl) fun hl45 => y8 (.bool (decide ((i_24:Int) < (a_1.length:Int)))) rfl rfl rfl<|dk<|y7 rfl hq42<|a1y<|a1x<|a1i<|a1w<|?_;obtain rfl:=os hc1;exact ⟨[],[0],_,_,rfl,rfl,⟨.refl _,trivial⟩,(.refl _)⟩
  ·rw [hd43,a4q.eq_2] at hc1
   have hq42:=dlt hlt38
   refine o6<|sr<|l7 (.int .i64 (i_24:Int)) rfl<|l7 (.lst 2 (a_1.map l9)) rfl<|a0o (a1c (enc:=l9) rfl) fun hl46 => y8 (.bool (decide ((i_24:Int) < (a_1.length:Int)))) rfl rfl rfl<|dk<|y5 rfl hq42<|a0e<|a0g<|o6<|a3j<|a0y<|?_
   obtain ⟨r_47,er48,hc1⟩:=ob hc1
   obtain ⟨g49,hc1⟩:=og hc1
   obtain ⟨x_50,ex51,hc1⟩:=ob hc1
   refine l7 (.own 0 0 out_25.length) rfl<|l7 (.int .i64 (i_24:Int)) rfl<|l7 (.lst 2 (a_1.map l9)) rfl<|l7 (.int .i64 (i_24:Int)) rfl<|a0b (a1a (enc:=l9) rfl rfl hx39)<|y8 (l9 x_44) rfl nle rfl<|a0b (a3f (v:=(.agg [(.int .i64 r_47.Id),(.own 1 0 r_47.Cells.length)])) (h':=[.row 1 (r_47.Cells.map (o8 3 o5))]) (c5c _ _ er48) rfl (.refl _) (by simp only [a1s,a1v,List.length_map,a6l,List.nil_append,List.append_nil,List.cons_append];rfl))<|a0b (a5q rfl rfl g49 rfl rfl)<|?_
   refine a4o (a5a (v':=(.agg [(.int .i64 r_47.Id),(.lst 1 (r_47.Cells.map (o8 3 o5)))])) (e':=r_47) rfl rfl ex51 rfl rfl (by first | (simp only [tk,tko,List.take_length];done) | rfl | simp) (by decide) (fun _ => by decide) ⟨rfl,nle⟩ (.refl _) rfl) ?_
   refine a0m<|a2s<|a0g<|a0y<|l7 (.int .i64 (i_24:Int)) rfl<|y8 (.int .i64 (w64 ((i_24:Int) + 1))) rfl rfl rfl<|l7 (.int .i64 (w64 ((i_24:Int) + 1))) rfl<|a0m<|?_;exact a1e ⟨((i_24 + 1),out_25.set i_24 r_47),hc1⟩ (mul hlt38) ⟨[],[0],_,_,rfl,rfl,⟨.refl _,⟨.of_eq (congrArg (AV.own _ 0) (by simp)),⟨.of_eq (congrArg (AV.int _) (a1j hlt38 hl46)),trivial⟩⟩⟩,(.refl _)⟩
 ·refine sr<|l7 (.own 0 0 out_36.length) rfl<|l7 (.own 0 0 out_36.length) rfl<|dk<|a0k<|?_;obtain rfl:=os hf;exact a4v ⟨trivial,trivial⟩ rfl (by decide) (.of_eq (congrArg (AV.lst _) (tk (enc:=l9) out_36)))

/- laws.toRowSS -/
def c59:a0r :=
 (.seq (.reg (tm 2 (.c .nil) .done))
 (.seq (.reg (tm 5 (.t 0) (tq 6 (.len (.t 5)) (tq 7 (.mkslice 1 24 .nil (.t 6) (.t 6)) (tm 3 (.t 7) .done)))))
 (.seq (.seq (.reg (tm 4 (.c (.int .i64 0)) .done))
 (.block 0 (.loop (.seq (.seq (.reg (tm 8 (.t 4) (tm 9 (.t 0) (tq 10 (.len (.t 9)) (tq 11 (.bin .lss (.t 8) (.t 10)) .done)))))
 (.cond (.t 11) .skip
 (.exit 0)))
 (.seq (.block 1 (.reg (tm 14 (.t 3) (tm 15 (.t 4) (tm 16 (.t 0) (tm 17 (.t 4) (tq 18 (.iaddr 1 (.t 16) (.t 17)) (tq 19 (.load 1 false (.t 18)) (tq 20 (.call 10 [(.t 19)]) (tq 21 (.iaddr 1 (.t 14) (.t 15)) (.q ⟨none,none,.store 1 (.t 21) (.t 20)⟩
 .done)))))))))))
 (.reg (tm 12 (.t 4) (tq 13 (.bin .add (.t 12) (.c (.int .i64 1))) (tm 4 (.t 13) .done)))))))))
 (.cut (.seq (.reg (tm 22 (.t 3) (tm 2 (.t 22) .done)))
 .ret)))))
theorem d9m:a1p Try.prog Try.f59 = some (c59.erase,[.mov (.t 2)],23):=by kernel_rfl
def a4e :List (List x9) → Nat → (List (List x9)) → Option (List (List x9))
  | [],i_24,out_25 =>
    some out_25
  | x_44 :: xs,i_24,out_25 =>
    (b0g x_44).bind fun r_47 =>
    if i_24 < out_25.length then
    (out_25[i_24]?).bind fun x_50 =>
    a4e xs (i_24 + 1) (out_25.set i_24 r_47)
    else none

def a9i (a_1:(List (List x9))):Option (List (List x9)) :=
    if (a_1.length:Int) ≤ 2 ^ 30 then
    (a4e a_1 0 (List.replicate a_1.length [])).bind fun out_36 =>
    some out_36
    else none
theorem c1f (a_1:(List (List x9))) (r:(List (List x9))) (hf:a9i a_1 = some r):a0d Try.prog 59 .fresh [(.lst 1 (a_1.map (o8 2 l9)))] (.lst 1 (r.map (o8 2 l9))):=by
 refine a0d.of_awp mixed Try.func59 d9m nle ?_;rw [a0t];unfold a9i at hf;unfold c59;refine (show awp Try.prog true 0 _ (ofL [(0,(.lst 1 (a_1.map (o8 2 l9))))]) [] _ from ?_);refine sr<|l7 .nil rfl<|dk<|sr<|?_
 obtain ⟨g3,hf⟩:=og hf
 refine l7 (.lst 1 (a_1.map (o8 2 l9))) rfl<|a0o (a1c (enc:=(o8 2 l9)) rfl) fun hl2 => a0b (b4q (j:=0) (enc:=(o8 2 l9)) (m:=a_1.length) [] (.nil _) rfl rfl (Int.le_refl _) g3 rfl)<|l7 (.own 0 0 a_1.length) rfl<|dk<|o6<|sr<|l7 (.int .i64 0) rfl<|dk<|?_
 obtain ⟨out_36,hb1,hf⟩:=ob hf
 refine a2e ([(3,(.own 0 0 out_36.length))],[.row 1 (out_36.map (o8 2 l9))]) ?_ ?_
 ·refine a0z (X:={q:(Nat × (List (List x9))) // a4e (a_1.drop q.1) q.1 q.2 = some out_36}) (fun q => ([(0,(.lst 1 (a_1.map (o8 2 l9)))),(3,(.own 0 0 q.1.2.length)),(4,(.int .i64 (q.1.1:Int)))],[.row 1 (q.1.2.map (o8 2 l9))])) (fun q => a_1.length - q.1.1) ⟨(0,List.replicate a_1.length []),hb1⟩ ⟨[],[0],_,_,rfl,rfl,⟨.refl _,⟨.of_eq (congrArg (AV.own _ 0) (by simp)),⟨.refl _,trivial⟩⟩⟩,(.refl _)⟩ ?_
  rintro ⟨⟨i_24,out_25⟩,hc1⟩
  have hc1:a4e (a_1.drop i_24) i_24 out_25 = some out_36:=hc1
  refine (show awp Try.prog true 0 _ (ofL [(0,(.lst 1 (a_1.map (o8 2 l9)))),(3,(.own 0 0 out_25.length)),(4,(.int .i64 (i_24:Int)))]) [.row 1 (out_25.map (o8 2 l9))] _ from ?_)
  rcases a5c a_1 i_24 with ⟨hie40,hd43⟩ | ⟨hlt38,x_44,hx39,hd43⟩
  ·rw [hd43,a4e.eq_1] at hc1
   have hq42:=dlf hie40
   refine o6<|sr<|l7 (.int .i64 (i_24:Int)) rfl<|l7 (.lst 1 (a_1.map (o8 2 l9))) rfl<|a0o (a1c (enc:=(o8 2 l9)) rfl) fun hl45 => y8 (.bool (decide ((i_24:Int) < (a_1.length:Int)))) rfl rfl rfl<|dk<|y7 rfl hq42<|a1y<|a1x<|a1i<|a1w<|?_;obtain rfl:=os hc1;exact ⟨[],[0],_,_,rfl,rfl,⟨.refl _,trivial⟩,(.refl _)⟩
  ·rw [hd43,a4e.eq_2] at hc1
   have hq42:=dlt hlt38
   refine o6<|sr<|l7 (.int .i64 (i_24:Int)) rfl<|l7 (.lst 1 (a_1.map (o8 2 l9))) rfl<|a0o (a1c (enc:=(o8 2 l9)) rfl) fun hl46 => y8 (.bool (decide ((i_24:Int) < (a_1.length:Int)))) rfl rfl rfl<|dk<|y5 rfl hq42<|a0e<|a0g<|o6<|a3j<|a0y<|?_
   obtain ⟨r_47,er48,hc1⟩:=ob hc1
   obtain ⟨g49,hc1⟩:=og hc1
   obtain ⟨x_50,ex51,hc1⟩:=ob hc1
   refine l7 (.own 0 0 out_25.length) rfl<|l7 (.int .i64 (i_24:Int)) rfl<|l7 (.lst 1 (a_1.map (o8 2 l9))) rfl<|l7 (.int .i64 (i_24:Int)) rfl<|a0b (a1a (enc:=(o8 2 l9)) rfl rfl hx39)<|y8 (.lst 2 (x_44.map l9)) rfl ⟨rfl,rfl⟩ rfl<|a0b (a3f (v:=(.own 1 0 r_47.length)) (h':=[.row 2 (r_47.map l9)]) (c2l _ _ er48) rfl (.refl _) (by simp only [a1s,a1v,List.length_map,List.nil_append,List.append_nil,List.cons_append];rfl))<|a0b (a5q rfl rfl g49 rfl rfl)<|?_
   refine a4o (a5a (v':=(.lst 2 (r_47.map l9))) (e':=r_47) rfl rfl ex51 rfl rfl (by first | (simp only [tk,tko,List.take_length];done) | rfl | simp) (by decide) (fun _ => by decide) ⟨rfl,rfl,rfl⟩ (.refl _) rfl) ?_
   refine a0m<|a2s<|a0g<|a0y<|l7 (.int .i64 (i_24:Int)) rfl<|y8 (.int .i64 (w64 ((i_24:Int) + 1))) rfl rfl rfl<|l7 (.int .i64 (w64 ((i_24:Int) + 1))) rfl<|a0m<|?_;exact a1e ⟨((i_24 + 1),out_25.set i_24 r_47),hc1⟩ (mul hlt38) ⟨[],[0],_,_,rfl,rfl,⟨.refl _,⟨.of_eq (congrArg (AV.own _ 0) (by simp)),⟨.of_eq (congrArg (AV.int _) (a1j hlt38 hl46)),trivial⟩⟩⟩,(.refl _)⟩
 ·refine sr<|l7 (.own 0 0 out_36.length) rfl<|l7 (.own 0 0 out_36.length) rfl<|dk<|a0k<|?_;obtain rfl:=os hf;exact a4v ⟨trivial,trivial⟩ rfl (by decide) (.of_eq (congrArg (AV.lst _) (tk (enc:=(o8 2 l9)) out_36)))

/- laws.toStore -/
def c21:a0r :=
 (.seq (.reg (tq 1 (.box 2 (.t 0)) (tq 2 (.box 2 (.c (.agg [.nil,(.int .i64 0)]))) .done)))
 (.seq (.reg (tq 3 (.box 2 (.c (.agg [.nil,(.int .i64 0)]))) .done))
 (.seq (.reg (tq 4 (.faddr 0 (.t 1)) (tq 5 (.load 1 false (.t 4)) (tq 6 (.call 59 [(.t 5)]) (tq 7 (.faddr 0 (.t 3)) (.q ⟨none,none,.store 1 (.t 7) (.t 6)⟩
 .done))))))
 (.seq (.reg (tq 8 (.faddr 1 (.t 1)) (tq 9 (.load 1 false (.t 8)) (tq 10 (.faddr 1 (.t 3)) (.q ⟨none,none,.store 1 (.t 10) (.t 9)⟩
 .done)))))
 (.seq (.reg (tq 11 (.load 2 true (.t 3)) (.q ⟨none,none,.store 2 (.t 2) (.t 11)⟩
 .done)))
 .ret)))))
theorem d9n:a1p Try.prog Try.f21 = some (c21.erase,[.load 2 true (.t 2)],12):=by kernel_rfl
def a4f (a_1:a1d):Option a1d :=
    (a9i a_1.Tables).bind fun r_2 =>
    some (⟨r_2,a_1.Next⟩:a1d)
theorem a5g (a_1:a1d) (r:a1d) (hf:a4f a_1 = some r):a0d Try.prog 21 .fresh [(a1r a_1)] (a1r r):=by
 refine a0d.of_awp mixed Try.func21 d9n nle ?_;rw [a0t];unfold a4f at hf;unfold c21;refine (show awp Try.prog true 0 _ (ofL [(0,(a1r a_1))]) [] _ from ?_);refine sr<|a0b (a2t (j:=0) (c:=(.agg [(.lst 1 (a_1.Tables.map (o8 2 l9))),(.int .i64 a_1.Next)])) rfl trivial rfl rfl)<|a0b (a2t (j:=1) (c:=(.agg [.nil,(.int .i64 0)])) rfl trivial rfl rfl)<|dk<|sr<|a0b (a2t (j:=2) (c:=(.agg [.nil,(.int .i64 0)])) rfl trivial rfl rfl)<|dk<|sr<|?_
 obtain ⟨r_2,er3,hf⟩:=ob hf
 refine y8 (.ptr 0 0 0) rfl trivial rfl<|y8 (.lst 1 (a_1.Tables.map (o8 2 l9))) rfl nle rfl<|a0b (a3f (v:=(.own 3 0 r_2.length)) (h':=[.row 1 (r_2.map (o8 2 l9))]) (c1f _ _ er3) rfl (.refl _) (by simp only [a1s,a1v,List.length_map,List.nil_append,List.append_nil,List.cons_append];rfl))<|y8 (.ptr 2 0 0) rfl trivial rfl<|a4o (a1h (v:=(.own 3 0 r_2.length)) (y':=(.agg [(.own 3 0 r_2.length),(.int .i64 0)])) rfl rfl rfl trivial ⟨rfl,nle⟩ ⟨⟨rfl,trivial⟩,trivial⟩ rfl)<|dk<|sr<|y8 (.ptr 0 0 1) rfl trivial rfl<|y8 (.int .i64 a_1.Next) rfl nle rfl<|y8 (.ptr 2 0 1) rfl trivial rfl<|a4o (a1h (v:=(.int .i64 a_1.Next)) (y':=(.agg [(.own 3 0 r_2.length),(.int .i64 a_1.Next)])) rfl rfl rfl trivial ⟨rfl,nle⟩ ⟨⟨rfl,trivial⟩,trivial⟩ rfl)<|?_
 refine dk<|sr<|y8 (.agg [(.own 3 0 r_2.length),(.int .i64 a_1.Next)]) rfl nle rfl<|a4o (a1h (v:=(.agg [(.own 3 0 r_2.length),(.int .i64 a_1.Next)])) (y':=(.agg [(.own 3 0 r_2.length),(.int .i64 a_1.Next)])) rfl rfl rfl trivial ⟨rfl,nle⟩ ⟨⟨rfl,trivial⟩,⟨⟨rfl,trivial⟩,trivial⟩⟩ rfl)<|dk<|a0k<|?_;obtain rfl:=os hf;exact a4v ⟨nle,trivial⟩ rfl (by decide) (.agg (.cons (.of_eq (congrArg (AV.lst _) (tk (enc:=(o8 2 l9)) r_2))) (.cons (.refl _) .nil)))

/- spec.l05Plain -/
def c36:a0r :=
 (.seq (.reg (tq 1 (.box 2 (.t 0)) (tm 2 (.c (.bool false)) .done)))
 (.seq (.seq (.reg (tm 3 (.c (.int .i64 0)) .done))
 (.block 0 (.loop (.seq (.seq (.reg (tm 5 (.t 3) (tq 6 (.faddr 0 (.t 1)) (tq 7 (.load 1 false (.t 6)) (tq 8 (.len (.t 7)) (tq 9 (.bin .lss (.t 5) (.t 8)) .done))))))
 (.cond (.t 9) .skip
 (.exit 0)))
 (.seq (.block 1 (.seq (.reg (tm 4 (.c (.int .i64 0)) .done))
 (.block 2 (.loop (.seq (.seq (.reg (tm 12 (.t 4) (tq 13 (.faddr 0 (.t 1)) (tq 14 (.load 1 false (.t 13)) (tm 15 (.t 3) (tq 16 (.iaddr 1 (.t 14) (.t 15)) (tq 17 (.load 1 false (.t 16)) (tq 18 (.len (.t 17)) (tq 19 (.bin .lss (.t 12) (.t 18)) .done)))))))))
 (.cond (.t 19) .skip
 (.exit 2)))
 (.seq (.block 3 (.seq (.reg (tm 22 (.t 4) (tq 23 (.bin .gtr (.t 22) (.c (.int .i64 0))) (tm 24 (.t 23) (tg 25 24 true (.faddr 0 (.t 1)) (tg 26 24 true (.load 1 false (.t 25)) (tg 27 24 true (.mov (.t 3)) (tg 28 24 true (.iaddr 1 (.t 26) (.t 27)) (tg 29 24 true (.load 1 false (.t 28)) (tg 30 24 true (.mov (.t 4)) (tg 31 24 true (.bin .sub (.t 30) (.c (.int .i64 1))) (tg 32 24 true (.iaddr 2 (.t 29) (.t 31)) (tg 33 24 true (.faddr 0 (.t 32)) (tg 34 24 true (.load 1 false (.t 33)) (tg 35 24 true (.faddr 0 (.t 1)) (tg 36 24 true (.load 1 false (.t 35)) (tg 37 24 true (.mov (.t 3)) (tg 38 24 true (.iaddr 1 (.t 36) (.t 37)) (tg 39 24 true (.load 1 false (.t 38)) (tg 40 24 true (.mov (.t 4)) (tg 41 24 true (.iaddr 2 (.t 39) (.t 40)) (tg 42 24 true (.faddr 0 (.t 41)) (tg 43 24 true (.load 1 false (.t 42)) (tg 44 24 true (.bin .geq (.t 34) (.t 43)) (tq 45 (.pick (.t 24) (.t 44) (.c (.bool false))) .done)))))))))))))))))))))))))
 (.cut (.cond (.t 45) (.seq (.reg (tm 2 (.c (.bool false)) .done))
 .ret)
 .skip))))
 (.reg (tm 20 (.t 4) (tq 21 (.bin .add (.t 20) (.c (.int .i64 1))) (tm 4 (.t 21) .done))))))))))
 (.cut (.reg (tm 10 (.t 3) (tq 11 (.bin .add (.t 10) (.c (.int .i64 1))) (tm 3 (.t 11) .done))))))))))
 (.cut (.seq (.reg (tm 2 (.c (.bool true)) .done))
 .ret))))
theorem d9o:a1p Try.prog Try.f36 = some (c36.erase,[.mov (.t 2)],46):=by kernel_rfl
def a2l (x_447:(List x9)):List x9 → Nat → Option (Fl Bool Unit)
  | [],k_469 =>
    some (.go ())
  | x_493 :: xs,k_469 =>
    ((if (decide ((k_469:Int) > 0)) then
    (idx x_447 (w64 ((k_469:Int) - 1))).bind fun x_502 =>
    some (decide (x_502.Id ≥ x_493.Id))
    else
    some false:Option Bool)).bind fun s45_499 =>
    if s45_499 then
    some (.ret false)
    else
    a2l x_447 xs (k_469 + 1)

def a3n :List (List x9) → Option (Fl Bool Unit)
  | [] =>
    some (.go ())
  | x_447 :: xs =>
    (a2l x_447 x_447 0).bind fun q => (match q with
    | .ret r => some (.ret r)
    | .go _ =>
    a3n xs )

def a7e (x_1:a1d):Option Bool :=
    (a3n x_1.Tables ).bind fun q => (match q with
    | .ret r => some r
    | .go _ =>
    some true)
theorem b2y (x_1:a1d) (r:Bool) (hf:a7e x_1 = some r):a0d Try.prog 36 .flat [(a1r x_1)] (.bool r):=by
 refine a0d.of_awp mixed Try.func36 d9o nle ?_;rw [a0t];unfold a7e at hf;unfold c36;refine (show awp Try.prog false 0 _ (ofL [(0,(a1r x_1))]) [] _ from ?_);refine sr<|a0b (a2t (j:=0) (c:=(.agg [(.lst 1 (x_1.Tables.map (o8 2 l9))),(.int .i64 x_1.Next)])) rfl trivial rfl rfl)<|l7 (.bool false) rfl<|dk<|o6<|sr<|l7 (.int .i64 0) rfl<|dk<|?_
 obtain ⟨p440,hb1,hf⟩:=ob hf
 refine a4a (X:={q:Unit // p440 = .go q}) (fun q => ([],[])) ?_ ?_
 ·refine a0z (X:={q:Nat // a3n (x_1.Tables.drop q)  = some p440}) (fun q => ([(1,(.ptr 0 0 0)),(3,(.int .i64 (q.1:Int)))],[.box 2 (.agg [(.lst 1 (x_1.Tables.map (o8 2 l9))),(.int .i64 x_1.Next)])])) (fun q => x_1.Tables.length - q.1) ⟨0,hb1⟩ ⟨[],[0],_,_,rfl,rfl,⟨.refl _,⟨.refl _,trivial⟩⟩,(.refl _)⟩ ?_
  rintro ⟨i_293,hc1⟩
  have hc1:a3n (x_1.Tables.drop i_293)  = some p440:=hc1
  refine (show awp Try.prog false 0 _ (ofL [(1,(.ptr 0 0 0)),(3,(.int .i64 (i_293:Int)))]) [.box 2 (.agg [(.lst 1 (x_1.Tables.map (o8 2 l9))),(.int .i64 x_1.Next)])] _ from ?_)
  rcases a5c x_1.Tables i_293 with ⟨hie443,hd446⟩ | ⟨hlt441,x_447,hx442,hd446⟩
  ·rw [hd446,a3n.eq_1] at hc1
   have hq445:=dlf hie443
   refine o6<|sr<|l7 (.int .i64 (i_293:Int)) rfl<|y8 (.ptr 0 0 0) rfl trivial rfl<|y8 (.lst 1 (x_1.Tables.map (o8 2 l9))) rfl nle rfl<|a0o (a1c (enc:=(o8 2 l9)) rfl) fun hl448 => y8 (.bool (decide ((i_293:Int) < (x_1.Tables.length:Int)))) rfl rfl rfl<|dk<|y7 rfl hq445<|a1y<|a1x<|a1i<|a1w<|?_;obtain rfl:=os hc1;exact a5z ⟨_,rfl⟩ ⟨[],[],_,_,rfl,rfl,trivial,(.refl _)⟩
  ·rw [hd446,a3n.eq_2] at hc1
   have hq445:=dlt hlt441
   refine o6<|sr<|l7 (.int .i64 (i_293:Int)) rfl<|y8 (.ptr 0 0 0) rfl trivial rfl<|y8 (.lst 1 (x_1.Tables.map (o8 2 l9))) rfl nle rfl<|a0o (a1c (enc:=(o8 2 l9)) rfl) fun hl449 => y8 (.bool (decide ((i_293:Int) < (x_1.Tables.length:Int)))) rfl rfl rfl<|dk<|y5 rfl hq445<|a0e<|a0g<|o6<|a3j<|sr<|l7 (.int .i64 0) rfl<|dk<|?_
   obtain ⟨p486,hb2,hc1⟩:=ob hc1
   refine d0u (X:={q:Unit // p486 = .go q}) (fun q => ([(1,(.ptr 0 0 0)),(3,(.int .i64 (i_293:Int)))],[.box 2 (.agg [(.lst 1 (x_1.Tables.map (o8 2 l9))),(.int .i64 x_1.Next)])])) ?_ ?_
   ·refine a0z (X:={q:Nat // a2l x_447 (x_447.drop q) q = some p486}) (fun q => ([(1,(.ptr 0 0 0)),(3,(.int .i64 (i_293:Int))),(4,(.int .i64 (q.1:Int)))],[.box 2 (.agg [(.lst 1 (x_1.Tables.map (o8 2 l9))),(.int .i64 x_1.Next)])])) (fun q => x_447.length - q.1) ⟨0,hb2⟩ ⟨[],[0],_,_,rfl,rfl,⟨.refl _,⟨.refl _,⟨.refl _,trivial⟩⟩⟩,(.refl _)⟩ ?_
    rintro ⟨k_469,hc2⟩
    have hc2:a2l x_447 (x_447.drop k_469) k_469 = some p486:=hc2
    refine (show awp Try.prog false 0 _ (ofL [(1,(.ptr 0 0 0)),(3,(.int .i64 (i_293:Int))),(4,(.int .i64 (k_469:Int)))]) [.box 2 (.agg [(.lst 1 (x_1.Tables.map (o8 2 l9))),(.int .i64 x_1.Next)])] _ from ?_)
    rcases a5c x_447 k_469 with ⟨hie489,hd492⟩ | ⟨hlt487,x_493,hx488,hd492⟩
    ·rw [hd492,a2l.eq_1] at hc2
     have hq491:=dlf hie489
     refine o6<|sr<|l7 (.int .i64 (k_469:Int)) rfl<|y8 (.ptr 0 0 0) rfl trivial rfl<|y8 (.lst 1 (x_1.Tables.map (o8 2 l9))) rfl nle rfl<|l7 (.int .i64 (i_293:Int)) rfl<|a0b (a1a (enc:=(o8 2 l9)) rfl rfl hx442)<|y8 (.lst 2 (x_447.map l9)) rfl ⟨rfl,rfl⟩ rfl<|a0o (a1c (enc:=l9) rfl) fun hl494 => y8 (.bool (decide ((k_469:Int) < (x_447.length:Int)))) rfl rfl rfl<|dk<|y7 rfl hq491<|a1y<|a1x<|a1i<|a1w<|?_;refine a2s ?_;obtain rfl:=os hc2;exact a5z ⟨_,rfl⟩ ⟨[],[0],_,_,rfl,rfl,⟨.refl _,⟨.refl _,trivial⟩⟩,(.refl _)⟩
    ·rw [hd492,a2l.eq_2] at hc2
     have hq491:=dlt hlt487
     refine o6<|sr<|l7 (.int .i64 (k_469:Int)) rfl<|y8 (.ptr 0 0 0) rfl trivial rfl<|y8 (.lst 1 (x_1.Tables.map (o8 2 l9))) rfl nle rfl<|l7 (.int .i64 (i_293:Int)) rfl<|a0b (a1a (enc:=(o8 2 l9)) rfl rfl hx442)<|y8 (.lst 2 (x_447.map l9)) rfl ⟨rfl,rfl⟩ rfl<|a0o (a1c (enc:=l9) rfl) fun hl495 => y8 (.bool (decide ((k_469:Int) < (x_447.length:Int)))) rfl rfl rfl<|dk<|y5 rfl hq491<|a0e<|a0g<|o6<|a3j<|o6<|?_
     obtain ⟨s45_499,hb3,hc2⟩:=ob hc2
     refine a2e ([(1,(.ptr 0 0 0)),(3,(.int .i64 (i_293:Int))),(4,(.int .i64 (k_469:Int))),(45,(.bool s45_499))],[.box 2 (.agg [(.lst 1 (x_1.Tables.map (o8 2 l9))),(.int .i64 x_1.Next)])]) ?_ ?_
     ·refine a0y<|l7 (.int .i64 (k_469:Int)) rfl<|y8 (.bool (decide ((k_469:Int) > 0))) rfl rfl rfl<|l7 (.bool (decide ((k_469:Int) > 0))) rfl<|?_
      rcases oi hb3 with ⟨c501,hb3⟩ | ⟨c501,hb3⟩
      ·refine a8u (s:=24) (b:=true) rfl c501<|s_on rfl<|y8 (.ptr 0 0 0) rfl trivial rfl<|s_on rfl<|y8 (.lst 1 (x_1.Tables.map (o8 2 l9))) rfl nle rfl<|s_on rfl<|l7 (.int .i64 (i_293:Int)) rfl<|s_on rfl<|a0b (a1a (enc:=(o8 2 l9)) rfl rfl hx442)<|s_on rfl<|y8 (.lst 2 (x_447.map l9)) rfl ⟨rfl,rfl⟩ rfl<|s_on rfl<|l7 (.int .i64 (k_469:Int)) rfl<|s_on rfl<|y8 (.int .i64 (w64 ((k_469:Int) - 1))) rfl rfl rfl<|s_on rfl<|?_
       obtain ⟨x_502,ex503,hb3⟩:=ob hb3
       refine a0b (a4w (enc:=l9) rfl rfl (b0q ex503) (b0r ex503))<|s_on rfl<|y8 (.iptr (l9 x_502) 0) rfl trivial rfl<|s_on rfl<|y8 (.int .i64 x_502.Id) rfl nle rfl<|s_on rfl<|y8 (.ptr 0 0 0) rfl trivial rfl<|s_on rfl<|y8 (.lst 1 (x_1.Tables.map (o8 2 l9))) rfl nle rfl<|s_on rfl<|l7 (.int .i64 (i_293:Int)) rfl<|s_on rfl<|a0b (a1a (enc:=(o8 2 l9)) rfl rfl hx442)<|s_on rfl<|y8 (.lst 2 (x_447.map l9)) rfl ⟨rfl,rfl⟩ rfl<|s_on rfl<|l7 (.int .i64 (k_469:Int)) rfl<|s_on rfl<|a0b (a1a (enc:=l9) rfl rfl hx488)<|s_on rfl<|y8 (.iptr (l9 x_493) 0) rfl trivial rfl<|s_on rfl<|y8 (.int .i64 x_493.Id) rfl nle rfl<|?_
       refine s_on rfl<|y8 (.bool (decide (x_502.Id ≥ x_493.Id))) rfl rfl rfl<|y8 (.bool (decide (x_502.Id ≥ x_493.Id))) rfl trivial rfl<|a0m<|?_;obtain rfl:=os hb3;exact ⟨[],[0],_,_,rfl,rfl,⟨.refl _,⟨.refl _,⟨.refl _,⟨.refl _,trivial⟩⟩⟩⟩,(.refl _)⟩
      ·refine a8u (s:=24) (b:=false) rfl (bf c501)<|a1m rfl rfl<|a1m rfl rfl<|a1m rfl rfl<|a1m rfl rfl<|a1m rfl rfl<|a1m rfl rfl<|a1m rfl rfl<|a1m rfl rfl<|a1m rfl rfl<|a1m rfl rfl<|a1m rfl rfl<|a1m rfl rfl<|a1m rfl rfl<|a1m rfl rfl<|a1m rfl rfl<|a1m rfl rfl<|a1m rfl rfl<|a1m rfl rfl<|a1m rfl rfl<|a1m rfl rfl<|y8 (.bool false) rfl trivial rfl<|a0m<|?_;obtain rfl:=os hb3;exact ⟨[],[0],_,_,rfl,rfl,⟨.refl _,⟨.refl _,⟨.refl _,⟨.refl _,trivial⟩⟩⟩⟩,(.refl _)⟩
     ·rcases oi hc2 with ⟨c504,hc2⟩ | ⟨c504,hc2⟩
      ·refine y5 rfl c504<|sr<|l7 (.bool false) rfl<|dk<|a0k<|?_;obtain rfl:=os hc2;obtain rfl:=os hc1;obtain rfl:=os hf;exact a0l ⟨trivial,trivial⟩ rfl (.refl _)
      ·refine y7 rfl (bf c504)<|a0e<|a2s<|a0g<|a0y<|l7 (.int .i64 (k_469:Int)) rfl<|y8 (.int .i64 (w64 ((k_469:Int) + 1))) rfl rfl rfl<|l7 (.int .i64 (w64 ((k_469:Int) + 1))) rfl<|a0m<|?_;exact a1e ⟨(k_469 + 1),hc2⟩ (mul hlt487) ⟨[],[0],_,_,rfl,rfl,⟨.refl _,⟨.refl _,⟨.of_eq (congrArg (AV.int _) (a1j hlt487 hl495)),trivial⟩⟩⟩,(.refl _)⟩
   ·rintro ⟨_,rfl⟩
    refine a0y<|l7 (.int .i64 (i_293:Int)) rfl<|y8 (.int .i64 (w64 ((i_293:Int) + 1))) rfl rfl rfl<|l7 (.int .i64 (w64 ((i_293:Int) + 1))) rfl<|a0m<|?_;exact a1e ⟨(i_293 + 1),hc1⟩ (mul hlt441) ⟨[],[0],_,_,rfl,rfl,⟨.refl _,⟨.of_eq (congrArg (AV.int _) (a1j hlt441 hl449)),trivial⟩⟩,(.refl _)⟩
 ·rintro ⟨_,rfl⟩
  refine sr<|l7 (.bool true) rfl<|dk<|a0k<|?_;obtain rfl:=os hf;exact a0l ⟨trivial,trivial⟩ rfl (.refl _)

/- spec.l10Put -/
def d3a:a0r :=
 (.seq (.reg (tm 4 (.c .nil) .done))
 (.seq (.reg (tm 5 (.c (.int .i64 0)) .done))
 (.seq (.block 0 (.loop (.seq (.seq (.reg (tm 6 (.t 5) (tm 7 (.t 0) (tq 8 (.len (.t 7)) (tq 9 (.bin .lss (.t 6) (.t 8)) (tm 10 (.t 9) (tg 11 10 true (.mov (.t 0)) (tg 12 10 true (.mov (.t 5)) (tg 13 10 true (.iaddr 1 (.t 11) (.t 12)) (tg 14 10 true (.load 1 false (.t 13)) (tg 15 10 true (.mov (.t 1)) (tg 16 10 true (.bin .lss (.t 14) (.t 15)) (tq 17 (.pick (.t 10) (.t 16) (.c (.bool false))) .done)))))))))))))
 (.cut (.cond (.t 17) .skip
 (.exit 0))))
 (.block 1 (.reg (tm 18 (.t 5) (tq 19 (.bin .add (.t 18) (.c (.int .i64 1))) (tm 5 (.t 19) .done))))))))
 (.cut (.seq (.seq (.reg (tm 20 (.t 5) (tm 21 (.t 0) (tq 22 (.len (.t 21)) (tq 23 (.bin .lss (.t 20) (.t 22)) (tm 24 (.t 23) (tg 25 24 true (.mov (.t 0)) (tg 26 24 true (.mov (.t 5)) (tg 27 24 true (.iaddr 1 (.t 25) (.t 26)) (tg 28 24 true (.load 1 false (.t 27)) (tg 29 24 true (.mov (.t 1)) (tg 30 24 true (.bin .eql (.t 28) (.t 29)) (tq 31 (.pick (.t 24) (.t 30) (.c (.bool false))) .done)))))))))))))
 (.cut (.cond (.t 31) (.seq (.reg (tm 32 (.t 0) (tm 4 (.t 32) .done)))
 .ret)
 .skip)))
 (.seq (.reg (tm 34 (.t 0) (tm 35 (.t 5) (tq 36 (.slice 1 (.t 34) none (some (.t 35))) (tm 38 (.t 1) (tm 41 (.t 0) (tm 42 (.t 5) (tq 43 (.slice 1 (.t 41) (some (.t 42)) none) (.l ⟨(some 33),none,.bslice 1 []⟩ [⟨(some 43),none,.slice 1 (.t 41) (some (.t 42)) none⟩,⟨(some 36),none,.slice 1 (.t 34) none (some (.t 35))⟩]
 (.l ⟨(some 37),none,.append 1 8 (.t 33) (.t 36)⟩ [⟨(some 43),none,.slice 1 (.t 41) (some (.t 42)) none⟩]
 (.l ⟨(some 39),none,.bslice 1 [(.t 38)]⟩ [⟨(some 43),none,.slice 1 (.t 41) (some (.t 42)) none⟩,⟨(some 36),none,.slice 1 (.t 34) none (some (.t 35))⟩]
 (.l ⟨(some 40),none,.append 1 8 (.t 37) (.t 39)⟩ [⟨(some 43),none,.slice 1 (.t 41) (some (.t 42)) none⟩]
 (.l ⟨(some 44),none,.append 1 8 (.t 40) (.t 43)⟩ []
 (tm 4 (.t 44) .done) .non) .non) .non) (.l ⟨(some 39),none,.bslice 1 [(.t 38)]⟩ [⟨(some 43),none,.slice 1 (.t 41) (some (.t 42)) none⟩,⟨(some 36),none,.slice 1 (.t 34) none (some (.t 35))⟩]
 (.l ⟨(some 37),none,.append 1 8 (.t 33) (.t 36)⟩ [⟨(some 43),none,.slice 1 (.t 41) (some (.t 42)) none⟩]
 (.l ⟨(some 40),none,.append 1 8 (.t 37) (.t 39)⟩ [⟨(some 43),none,.slice 1 (.t 41) (some (.t 42)) none⟩]
 (.l ⟨(some 44),none,.append 1 8 (.t 40) (.t 43)⟩ []
 (tm 4 (.t 44) .done) .non) .non) .non) .non)) (.l ⟨(some 39),none,.bslice 1 [(.t 38)]⟩ [⟨(some 43),none,.slice 1 (.t 41) (some (.t 42)) none⟩,⟨(some 36),none,.slice 1 (.t 34) none (some (.t 35))⟩]
 (.l ⟨(some 33),none,.bslice 1 []⟩ [⟨(some 43),none,.slice 1 (.t 41) (some (.t 42)) none⟩,⟨(some 36),none,.slice 1 (.t 34) none (some (.t 35))⟩]
 (.l ⟨(some 37),none,.append 1 8 (.t 33) (.t 36)⟩ [⟨(some 43),none,.slice 1 (.t 41) (some (.t 42)) none⟩]
 (.l ⟨(some 40),none,.append 1 8 (.t 37) (.t 39)⟩ [⟨(some 43),none,.slice 1 (.t 41) (some (.t 42)) none⟩]
 (.l ⟨(some 44),none,.append 1 8 (.t 40) (.t 43)⟩ []
 (tm 4 (.t 44) .done) .non) .non) .non) .non) .non))))))))))
 .ret))))))
theorem d5d:a1p Try.prog Try.f90 = some (d3a.erase,[.mov (.t 4)],45):=by kernel_rfl
def a3z (list_1:(List Int)) (n_2:Int):Nat → Int → Option Int
  | 0,_ => none
  | k + 1,k_30 =>
    ((if (decide (k_30 < (list_1.length:Int))) then
    if (0:Int) ≤ k_30 ∧ k_30 < (list_1.length:Int) then
    (list_1[(0 + k_30.toNat)]?).bind fun x_56 =>
    some (decide (x_56 < n_2))
    else none
    else
    some false:Option Bool)).bind fun s17_51 =>
    if s17_51 then
    a3z list_1 n_2 k (w64 (k_30 + 1))
    else
    some k_30

def a6p (list_1:(List Int)) (n_2:Int):Option (List Int) :=
    (a3z list_1 n_2 FUEL 0).bind fun k_44 =>
    ((if (decide (k_44 < (list_1.length:Int))) then
    if (0:Int) ≤ k_44 ∧ k_44 < (list_1.length:Int) then
    (list_1[(0 + k_44.toNat)]?).bind fun x_69 =>
    some (x_69 == n_2)
    else none
    else
    some false:Option Bool)).bind fun s31_64 =>
    if s31_64 then
    some list_1
    else
    if (0:Int) ≤ k_44 ∧ k_44 ≤ (list_1.length:Int) then
    if (0:Int) ≤ k_44 ∧ k_44 ≤ (list_1.length:Int) then
    if ([] ++ (list_1.take k_44.toNat)).length ≤ 2 ^ 30 then
    if (([] ++ (list_1.take k_44.toNat)) ++ [n_2]).length ≤ 2 ^ 30 then
    if ((([] ++ (list_1.take k_44.toNat)) ++ [n_2]) ++ ((list_1.drop k_44.toNat).take (list_1.length - k_44.toNat))).length ≤ 2 ^ 30 then
    some ((([] ++ (list_1.take k_44.toNat)) ++ [n_2]) ++ ((list_1.drop k_44.toNat).take (list_1.length - k_44.toNat)))
    else none
    else none
    else none
    else none
    else none
theorem b2d (list_1:(List Int)) (n_2:Int) (r:(List Int)) (hf:a6p list_1 n_2 = some r):a1l Try.prog true 90 [(.own 0 0 list_1.length),(.int .i64 n_2)] [.row 1 (list_1.map encI)] (.own 1 0 r.length) [.dead,.row 1 (r.map encI)]:=by
 refine a1l.of_awp mixed Try.func90 d5d nle ?_;rw [a0t];unfold a6p at hf;unfold d3a;refine (show awp Try.prog true 1 _ (ofL [(0,(.own 0 0 list_1.length)),(1,(.int .i64 n_2))]) [.row 1 (list_1.map encI)] _ from ?_);refine sr<|l7 .nil rfl<|dk<|sr<|l7 (.int .i64 0) rfl<|dk<|o6<|?_
 obtain ⟨k_44,hb1,hf⟩:=ob hf
 refine a2e ([(0,(.own 0 0 list_1.length)),(1,(.int .i64 n_2)),(5,(.int .i64 k_44))],[.row 1 (list_1.map encI)]) ?_ ?_
 ·refine a0z (X:={q:(Nat × Int) // a3z list_1 n_2 q.1 q.2 = some k_44}) (fun q => ([(0,(.own 0 0 list_1.length)),(1,(.int .i64 n_2)),(5,(.int .i64 q.1.2))],[.row 1 (list_1.map encI)])) (fun q => q.1.1) ⟨(FUEL,0),hb1⟩ ⟨[],[0],_,_,rfl,rfl,⟨.refl _,⟨.refl _,⟨.refl _,trivial⟩⟩⟩,(.refl _)⟩ ?_
  rintro ⟨⟨k,k_30⟩,hc1⟩
  have hc1:a3z list_1 n_2 k k_30 = some k_44:=hc1
  refine (show awp Try.prog true 1 _ (ofL [(0,(.own 0 0 list_1.length)),(1,(.int .i64 n_2)),(5,(.int .i64 k_30))]) [.row 1 (list_1.map encI)] _ from ?_)
  rcases k with _ | k
  ·rw [a3z.eq_1] at hc1
   cases hc1
  ·rw [a3z.eq_2] at hc1;refine o6<|o6<|?_
   obtain ⟨s17_51,hb2,hc1⟩:=ob hc1
   refine a2e ([(0,(.own 0 0 list_1.length)),(1,(.int .i64 n_2)),(5,(.int .i64 k_30)),(17,(.bool s17_51))],[.row 1 (list_1.map encI)]) ?_ ?_
   ·refine a0y ?_
    rcases oi hb2 with ⟨c54,hb2⟩ | ⟨c54,hb2⟩
    ·obtain ⟨g55,hb2⟩:=og hb2
     obtain ⟨x_56,ex57,hb2⟩:=ob hb2
     refine l7 (.int .i64 k_30) rfl<|l7 (.own 0 0 list_1.length) rfl<|a0o (a5f rfl rfl) fun hl53 => y8 (.bool (decide (k_30 < (list_1.length:Int)))) rfl rfl rfl<|l7 (.bool (decide (k_30 < (list_1.length:Int)))) rfl<|a8u (s:=10) (b:=true) rfl c54<|s_on rfl<|l7 (.own 0 0 list_1.length) rfl<|s_on rfl<|l7 (.int .i64 k_30) rfl<|s_on rfl<|a0b (a2d rfl rfl g55.1 g55.2 rfl rfl)<|s_on rfl<|a0b (a6o (enc:=encI) (v:=(.int .i64 x_56)) rfl rfl ex57 ⟨rfl,rfl⟩ rfl)<|s_on rfl<|l7 (.int .i64 n_2) rfl<|s_on rfl<|y8 (.bool (decide (x_56 < n_2))) rfl rfl rfl<|y8 (.bool (decide (x_56 < n_2))) rfl trivial rfl<|a0m<|?_;obtain rfl:=os hb2
     exact ⟨[],[0],_,_,rfl,rfl,⟨.refl _,⟨.refl _,⟨.refl _,⟨.refl _,trivial⟩⟩⟩⟩,(.refl _)⟩
    ·refine l7 (.int .i64 k_30) rfl<|l7 (.own 0 0 list_1.length) rfl<|a0o (a5f rfl rfl) fun hl53 => y8 (.bool (decide (k_30 < (list_1.length:Int)))) rfl rfl rfl<|l7 (.bool (decide (k_30 < (list_1.length:Int)))) rfl<|a8u (s:=10) (b:=false) rfl (bf c54)<|a1m rfl rfl<|a1m rfl rfl<|a1m rfl rfl<|a1m rfl rfl<|a1m rfl rfl<|a1m rfl rfl<|y8 (.bool false) rfl trivial rfl<|a0m<|?_;obtain rfl:=os hb2;exact ⟨[],[0],_,_,rfl,rfl,⟨.refl _,⟨.refl _,⟨.refl _,⟨.refl _,trivial⟩⟩⟩⟩,(.refl _)⟩
   ·rcases oi hc1 with ⟨c58,hc1⟩ | ⟨c58,hc1⟩
    ·refine y5 rfl c58<|a0e<|a0g<|a3j<|a0y<|l7 (.int .i64 k_30) rfl<|y8 (.int .i64 (w64 (k_30 + 1))) rfl rfl rfl<|l7 (.int .i64 (w64 (k_30 + 1))) rfl<|a0m<|a2s<|?_;exact a1e ⟨(k,w64 (k_30 + 1)),hc1⟩ (Nat.lt_succ_self _) ⟨[],[0],_,_,rfl,rfl,⟨.refl _,⟨.refl _,⟨.refl _,trivial⟩⟩⟩,(.refl _)⟩
    ·refine y7 rfl (bf c58)<|a1y<|a1x<|a1i<|a1w<|?_;obtain rfl:=os hc1;exact ⟨[],[0],_,_,rfl,rfl,⟨.refl _,⟨.refl _,⟨.refl _,trivial⟩⟩⟩,(.refl _)⟩
 ·refine o6<|o6<|?_
  obtain ⟨s31_64,hb1,hf⟩:=ob hf
  refine a2e ([(0,(.own 0 0 list_1.length)),(1,(.int .i64 n_2)),(5,(.int .i64 k_44)),(31,(.bool s31_64))],[.row 1 (list_1.map encI)]) ?_ ?_
  ·refine a0y ?_
   rcases oi hb1 with ⟨c67,hb1⟩ | ⟨c67,hb1⟩
   ·obtain ⟨g68,hb1⟩:=og hb1
    obtain ⟨x_69,ex70,hb1⟩:=ob hb1
    refine l7 (.int .i64 k_44) rfl<|l7 (.own 0 0 list_1.length) rfl<|a0o (a5f rfl rfl) fun hl66 => y8 (.bool (decide (k_44 < (list_1.length:Int)))) rfl rfl rfl<|l7 (.bool (decide (k_44 < (list_1.length:Int)))) rfl<|a8u (s:=24) (b:=true) rfl c67<|s_on rfl<|l7 (.own 0 0 list_1.length) rfl<|s_on rfl<|l7 (.int .i64 k_44) rfl<|s_on rfl<|a0b (a2d rfl rfl g68.1 g68.2 rfl rfl)<|s_on rfl<|a0b (a6o (enc:=encI) (v:=(.int .i64 x_69)) rfl rfl ex70 ⟨rfl,rfl⟩ rfl)<|s_on rfl<|l7 (.int .i64 n_2) rfl<|s_on rfl<|y8 (.bool (x_69 == n_2)) rfl rfl rfl<|y8 (.bool (x_69 == n_2)) rfl trivial rfl<|a0m<|?_;obtain rfl:=os hb1;exact ⟨[],[0],_,_,rfl,rfl,⟨.refl _,⟨.refl _,⟨.refl _,⟨.refl _,trivial⟩⟩⟩⟩,(.refl _)⟩
   ·refine l7 (.int .i64 k_44) rfl<|l7 (.own 0 0 list_1.length) rfl<|a0o (a5f rfl rfl) fun hl66 => y8 (.bool (decide (k_44 < (list_1.length:Int)))) rfl rfl rfl<|l7 (.bool (decide (k_44 < (list_1.length:Int)))) rfl<|a8u (s:=24) (b:=false) rfl (bf c67)<|a1m rfl rfl<|a1m rfl rfl<|a1m rfl rfl<|a1m rfl rfl<|a1m rfl rfl<|a1m rfl rfl<|y8 (.bool false) rfl trivial rfl<|a0m<|?_;obtain rfl:=os hb1;exact ⟨[],[0],_,_,rfl,rfl,⟨.refl _,⟨.refl _,⟨.refl _,⟨.refl _,trivial⟩⟩⟩⟩,(.refl _)⟩
  ·rcases oi hf with ⟨c71,hf⟩ | ⟨c71,hf⟩
   ·refine y5 rfl c71<|sr<|l7 (.own 0 0 list_1.length) rfl<|l7 (.own 0 0 list_1.length) rfl<|dk<|a0k<|?_;obtain rfl:=os hf;exact a8n [.mv 0] [0,1] rfl ⟨trivial,trivial⟩ rfl (.refl _) (.refl _)
   ·refine y7 rfl (bf c71)<|a0e<|a0g<|sr<|?_
    obtain ⟨g72,hf⟩:=og hf
    obtain ⟨g73,hf⟩:=og hf
    obtain ⟨g74,hf⟩:=og hf
    obtain ⟨g75,hf⟩:=og hf
    obtain ⟨g76,hf⟩:=og hf
    refine l7 (.own 0 0 list_1.length) rfl<|l7 (.int .i64 k_44) rfl<|a0b (c4z rfl rfl rfl g72.1 g72.2)<|l7 (.int .i64 n_2) rfl<|l7 (.own 0 0 list_1.length) rfl<|l7 (.int .i64 k_44) rfl<|a0b (c5a rfl rfl rfl g73.1 g73.2)<|?_;refine a3i (a3t (j:=1) (as':=[]) rfl (fun _ => by decide) trivial (.refl _) rfl rfl rfl) (.inr ⟨(a9c rfl rfl rfl g73.1 g73.2),⟨(b6r rfl rfl rfl g72.1 g72.2),trivial⟩⟩) ?_ ?_
    ·refine a3i (a3t (j:=1) (as':=[(.int .i64 n_2)]) rfl (fun _ => by decide) ⟨rfl,trivial⟩ (.refl _) rfl rfl rfl) (.inr ⟨(a9c rfl rfl rfl g73.1 g73.2),⟨(b6r rfl rfl rfl g72.1 g72.2),trivial⟩⟩) trivial ?_;refine a3i (a3t (j:=2) (as':=[]) rfl (fun _ => by decide) trivial (.refl _) rfl rfl rfl) (.inr ⟨(a9c rfl rfl rfl g73.1 g73.2),⟨(b6r rfl rfl rfl g72.1 g72.2),trivial⟩⟩) trivial ?_
     refine a3i (a4m (j:=3) (L:=(([] ++ (list_1.take k_44.toNat)).map encI)) (len:=([] ++ (list_1.take k_44.toNat)).length) rfl false rfl rfl (fun _ => flw (enc:=encI) (fun _ => rfl) list_1 _ _) (fun _ _ h => (b5x (show AV.own _ _ _ = AV.lst _ _ from h)).elim) (by decide) ((by simp)) (by simp <;> omega) g74 rfl rfl) (.inr ⟨(a9c rfl rfl rfl g73.1 g73.2),trivial⟩) trivial ?_
     refine a3i (a4m (j:=4) (L:=((([] ++ (list_1.take k_44.toNat)) ++ [n_2]).map encI)) (len:=(([] ++ (list_1.take k_44.toNat)) ++ [n_2]).length) rfl false rfl rfl (fun _ => flo (enc:=encI) (fun _ => rfl) [n_2] _) (fun _ _ h => (b5x (show AV.own _ _ _ = AV.lst _ _ from h)).elim) (by decide) (c7d (enc:=encI) ([] ++ (list_1.take k_44.toNat)) [n_2] _ (by rfl)) (by simp <;> omega) g75 rfl rfl) (.inr ⟨(a9c rfl rfl rfl g73.1 g73.2),trivial⟩) trivial ?_
     refine a3i (a4m (j:=5) (L:=(((([] ++ (list_1.take k_44.toNat)) ++ [n_2]) ++ ((list_1.drop k_44.toNat).take (list_1.length - k_44.toNat))).map encI)) (len:=((([] ++ (list_1.take k_44.toNat)) ++ [n_2]) ++ ((list_1.drop k_44.toNat).take (list_1.length - k_44.toNat))).length) rfl false rfl rfl (fun _ => flw (enc:=encI) (fun _ => rfl) list_1 _ _) (fun _ _ h => (b5x (show AV.own _ _ _ = AV.lst _ _ from h)).elim) (by decide) ((apg (enc:=encI) (([] ++ (list_1.take k_44.toNat)) ++ [n_2]) ((list_1.drop k_44.toNat).take (list_1.length - k_44.toNat)) (tkw _ _ _))) (by simp <;> omega) g76 rfl rfl) trivial trivial ?_
     refine l7 (.own 5 0 (((([] ++ (list_1.take k_44.toNat)) ++ [n_2]) ++ ((list_1.drop k_44.toNat).take (list_1.length - k_44.toNat))).length)) rfl<|dk<|a0k<|?_;obtain rfl:=os hf;exact a8n [.kill 0] [0,5] rfl ⟨trivial,trivial⟩ rfl (.refl _) (.refl _)
    ·refine a3i (a4m (j:=2) (L:=(([] ++ (list_1.take k_44.toNat)).map encI)) (len:=([] ++ (list_1.take k_44.toNat)).length) rfl false rfl rfl (fun _ => flw (enc:=encI) (fun _ => rfl) list_1 _ _) (fun _ _ h => (b5x (show AV.own _ _ _ = AV.lst _ _ from h)).elim) (by decide) ((by simp)) (by simp <;> omega) g74 rfl rfl) (.inr ⟨(a9c rfl rfl rfl g73.1 g73.2),trivial⟩) ?_ ?_
     ·refine a3i (a3t (j:=2) (as':=[(.int .i64 n_2)]) rfl (fun _ => by decide) ⟨rfl,trivial⟩ (.refl _) rfl rfl rfl) (.inr ⟨(a9c rfl rfl rfl g73.1 g73.2),⟨(b6r rfl rfl rfl g72.1 g72.2),trivial⟩⟩) trivial ?_
      refine a3i (a4m (j:=3) (L:=(([] ++ (list_1.take k_44.toNat)).map encI)) (len:=([] ++ (list_1.take k_44.toNat)).length) rfl false rfl rfl (fun _ => flw (enc:=encI) (fun _ => rfl) list_1 _ _) (fun _ _ h => (b5x (show AV.own _ _ _ = AV.lst _ _ from h)).elim) (by decide) ((by simp)) (by simp <;> omega) g74 rfl rfl) (.inr ⟨(a9c rfl rfl rfl g73.1 g73.2),trivial⟩) trivial ?_
      refine a3i (a4m (j:=4) (L:=((([] ++ (list_1.take k_44.toNat)) ++ [n_2]).map encI)) (len:=(([] ++ (list_1.take k_44.toNat)) ++ [n_2]).length) rfl false rfl rfl (fun _ => flo (enc:=encI) (fun _ => rfl) [n_2] _) (fun _ _ h => (b5x (show AV.own _ _ _ = AV.lst _ _ from h)).elim) (by decide) (c7d (enc:=encI) ([] ++ (list_1.take k_44.toNat)) [n_2] _ (by rfl)) (by simp <;> omega) g75 rfl rfl) (.inr ⟨(a9c rfl rfl rfl g73.1 g73.2),trivial⟩) trivial ?_
      refine a3i (a4m (j:=5) (L:=(((([] ++ (list_1.take k_44.toNat)) ++ [n_2]) ++ ((list_1.drop k_44.toNat).take (list_1.length - k_44.toNat))).map encI)) (len:=((([] ++ (list_1.take k_44.toNat)) ++ [n_2]) ++ ((list_1.drop k_44.toNat).take (list_1.length - k_44.toNat))).length) rfl false rfl rfl (fun _ => flw (enc:=encI) (fun _ => rfl) list_1 _ _) (fun _ _ h => (b5x (show AV.own _ _ _ = AV.lst _ _ from h)).elim) (by decide) ((apg (enc:=encI) (([] ++ (list_1.take k_44.toNat)) ++ [n_2]) ((list_1.drop k_44.toNat).take (list_1.length - k_44.toNat)) (tkw _ _ _))) (by simp <;> omega) g76 rfl rfl) trivial trivial ?_
      refine l7 (.own 5 0 (((([] ++ (list_1.take k_44.toNat)) ++ [n_2]) ++ ((list_1.drop k_44.toNat).take (list_1.length - k_44.toNat))).length)) rfl<|dk<|a0k<|?_;obtain rfl:=os hf;exact a8n [.kill 0] [0,5] rfl ⟨trivial,trivial⟩ rfl (.refl _) (.refl _)
     ·refine a3i (a3t (j:=3) (as':=[(.int .i64 n_2)]) rfl (fun _ => by decide) ⟨rfl,trivial⟩ (.refl _) rfl rfl rfl) (.inr ⟨(a9c rfl rfl rfl g73.1 g73.2),⟨(b6r rfl rfl rfl g72.1 g72.2),trivial⟩⟩) trivial ?_
      refine a3i (a4m (j:=4) (L:=((([] ++ (list_1.take k_44.toNat)) ++ [n_2]).map encI)) (len:=(([] ++ (list_1.take k_44.toNat)) ++ [n_2]).length) rfl false rfl rfl (fun _ => flo (enc:=encI) (fun _ => rfl) [n_2] _) (fun _ _ h => (b5x (show AV.own _ _ _ = AV.lst _ _ from h)).elim) (by decide) (c7d (enc:=encI) ([] ++ (list_1.take k_44.toNat)) [n_2] _ (by rfl)) (by simp <;> omega) g75 rfl rfl) (.inr ⟨(a9c rfl rfl rfl g73.1 g73.2),trivial⟩) trivial ?_
      refine a3i (a4m (j:=5) (L:=(((([] ++ (list_1.take k_44.toNat)) ++ [n_2]) ++ ((list_1.drop k_44.toNat).take (list_1.length - k_44.toNat))).map encI)) (len:=((([] ++ (list_1.take k_44.toNat)) ++ [n_2]) ++ ((list_1.drop k_44.toNat).take (list_1.length - k_44.toNat))).length) rfl false rfl rfl (fun _ => flw (enc:=encI) (fun _ => rfl) list_1 _ _) (fun _ _ h => (b5x (show AV.own _ _ _ = AV.lst _ _ from h)).elim) (by decide) ((apg (enc:=encI) (([] ++ (list_1.take k_44.toNat)) ++ [n_2]) ((list_1.drop k_44.toNat).take (list_1.length - k_44.toNat)) (tkw _ _ _))) (by simp <;> omega) g76 rfl rfl) trivial trivial ?_
      refine l7 (.own 5 0 (((([] ++ (list_1.take k_44.toNat)) ++ [n_2]) ++ ((list_1.drop k_44.toNat).take (list_1.length - k_44.toNat))).length)) rfl<|dk<|a0k<|?_;obtain rfl:=os hf;exact a8n [.kill 0] [0,5] rfl ⟨trivial,trivial⟩ rfl (.refl _) (.refl _)

/- spec.l05Place -/
def c42:a0r :=
 (.seq (.reg (tm 4 (.c (.int .i64 0)) .done))
 (.seq (.seq (.reg (tm 5 (.c (.int .i64 0)) .done))
 (.block 0 (.loop (.seq (.seq (.reg (tm 6 (.t 5) (tm 7 (.t 0) (tq 8 (.len (.t 7)) (tq 9 (.bin .lss (.t 6) (.t 8)) .done)))))
 (.cond (.t 9) .skip
 (.exit 0)))
 (.seq (.block 1 (.seq (.reg (tm 12 (.t 0) (tm 13 (.t 5) (tq 14 (.iaddr 2 (.t 12) (.t 13)) (tq 15 (.faddr 0 (.t 14)) (tq 16 (.load 1 false (.t 15)) (tm 17 (.t 1) (tq 18 (.bin .eql (.t 16) (.t 17)) .done))))))))
 (.cond (.t 18) (.seq (.reg (tm 19 (.t 5) (tm 4 (.t 19) .done)))
 .ret)
 .skip)))
 (.reg (tm 10 (.t 5) (tq 11 (.bin .add (.t 10) (.c (.int .i64 1))) (tm 5 (.t 11) .done)))))))))
 (.cut (.seq (.reg (tq 4 (.mov (.c (.int .i64 (-1)))) .done))
 .ret))))
theorem d9p:a1p Try.prog Try.f42 = some (c42.erase,[.mov (.t 4)],20):=by kernel_rfl
def a3o (id_2:Int):List x9 → Nat → Option (Fl Int Unit)
  | [],i_14 =>
    some (.go ())
  | x_28 :: xs,i_14 =>
    if (x_28.Id == id_2) then
    some (.ret (i_14:Int))
    else
    a3o id_2 xs (i_14 + 1)

def a8f (rows_1:(List x9)) (id_2:Int):Option Int :=
    (a3o id_2 rows_1 0).bind fun q => (match q with
    | .ret r => some r
    | .go _ =>
    some (-1))
theorem b9f (rows_1:(List x9)) (id_2:Int) (r:Int) (hf:a8f rows_1 id_2 = some r):a0d Try.prog 42 .flat [(.lst 2 (rows_1.map l9)),(.int .i64 id_2)] (.int .i64 r):=by
 refine a0d.of_awp mixed Try.func42 d9p nle ?_;rw [a0t];unfold a8f at hf;unfold c42;refine (show awp Try.prog false 0 _ (ofL [(0,(.lst 2 (rows_1.map l9))),(1,(.int .i64 id_2))]) [] _ from ?_);refine sr<|l7 (.int .i64 0) rfl<|dk<|o6<|sr<|l7 (.int .i64 0) rfl<|dk<|?_
 obtain ⟨p21,hb1,hf⟩:=ob hf
 refine a4a (X:={q:Unit // p21 = .go q}) (fun q => ([],[])) ?_ ?_
 ·refine a0z (X:={q:Nat // a3o id_2 (rows_1.drop q) q = some p21}) (fun q => ([(0,(.lst 2 (rows_1.map l9))),(1,(.int .i64 id_2)),(5,(.int .i64 (q.1:Int)))],[])) (fun q => rows_1.length - q.1) ⟨0,hb1⟩ ⟨[],[],_,_,rfl,rfl,⟨.refl _,⟨.refl _,⟨.refl _,trivial⟩⟩⟩,(.refl _)⟩ ?_
  rintro ⟨i_14,hc1⟩
  have hc1:a3o id_2 (rows_1.drop i_14) i_14 = some p21:=hc1
  refine (show awp Try.prog false 0 _ (ofL [(0,(.lst 2 (rows_1.map l9))),(1,(.int .i64 id_2)),(5,(.int .i64 (i_14:Int)))]) [] _ from ?_)
  rcases a5c rows_1 i_14 with ⟨hie24,hd27⟩ | ⟨hlt22,x_28,hx23,hd27⟩
  ·rw [hd27,a3o.eq_1] at hc1
   have hq26:=dlf hie24
   refine o6<|sr<|l7 (.int .i64 (i_14:Int)) rfl<|l7 (.lst 2 (rows_1.map l9)) rfl<|a0o (a1c (enc:=l9) rfl) fun hl29 => y8 (.bool (decide ((i_14:Int) < (rows_1.length:Int)))) rfl rfl rfl<|dk<|y7 rfl hq26<|a1y<|a1x<|a1i<|a1w<|?_;obtain rfl:=os hc1;exact a5z ⟨_,rfl⟩ ⟨[],[],_,_,rfl,rfl,trivial,(.refl _)⟩
  ·rw [hd27,a3o.eq_2] at hc1
   have hq26:=dlt hlt22
   refine o6<|sr<|l7 (.int .i64 (i_14:Int)) rfl<|l7 (.lst 2 (rows_1.map l9)) rfl<|a0o (a1c (enc:=l9) rfl) fun hl30 => y8 (.bool (decide ((i_14:Int) < (rows_1.length:Int)))) rfl rfl rfl<|dk<|y5 rfl hq26<|a0e<|a0g<|o6<|a3j<|sr<|l7 (.lst 2 (rows_1.map l9)) rfl<|l7 (.int .i64 (i_14:Int)) rfl<|a0b (a1a (enc:=l9) rfl rfl hx23)<|y8 (.iptr (l9 x_28) 0) rfl trivial rfl<|y8 (.int .i64 x_28.Id) rfl nle rfl<|l7 (.int .i64 id_2) rfl<|y8 (.bool (x_28.Id == id_2)) rfl rfl rfl<|dk<|?_
   rcases oi hc1 with ⟨c31,hc1⟩ | ⟨c31,hc1⟩
   ·refine y5 rfl c31<|sr<|l7 (.int .i64 (i_14:Int)) rfl<|l7 (.int .i64 (i_14:Int)) rfl<|dk<|a0k<|?_;obtain rfl:=os hc1;obtain rfl:=os hf;exact a0l ⟨trivial,trivial⟩ rfl (.refl _)
   ·refine y7 rfl (bf c31)<|a0e<|a2s<|a0g<|a0y<|l7 (.int .i64 (i_14:Int)) rfl<|y8 (.int .i64 (w64 ((i_14:Int) + 1))) rfl rfl rfl<|l7 (.int .i64 (w64 ((i_14:Int) + 1))) rfl<|a0m<|?_;exact a1e ⟨(i_14 + 1),hc1⟩ (mul hlt22) ⟨[],[],_,_,rfl,rfl,⟨.refl _,⟨.refl _,⟨.of_eq (congrArg (AV.int _) (a1j hlt22 hl30)),trivial⟩⟩⟩,(.refl _)⟩
 ·rintro ⟨_,rfl⟩
  refine sr<|l7 (.int .i64 (-1)) rfl<|dk<|a0k<|?_;obtain rfl:=os hf;exact a0l ⟨trivial,trivial⟩ rfl (.refl _)

/- spec.l05OwnRow -/
def c73:a0r :=
 (.seq (.reg (tq 1 (.box 2 (.t 0)) (tq 2 (.box 2 (.c (.agg [(.int .i64 0),.nil]))) .done)))
 (.seq (.reg (tq 5 (.faddr 0 (.t 1)) (tq 6 (.load 1 false (.t 5)) (tq 7 (.bslice 1 []) (tq 8 (.build [(.int .i64 0),.nil] [(0,1,(.t 6)),(1,1,(.t 7))]) (tq 3 (.box 2 (.c (.agg [(.int .i64 0),.nil]))) (.q ⟨none,none,.store 2 (.t 3) (.t 8)⟩
 .done)))))))
 (.seq (.seq (.reg (tm 4 (.c (.int .i64 0)) .done))
 (.block 0 (.loop (.seq (.seq (.reg (tm 9 (.t 4) (tq 10 (.faddr 1 (.t 1)) (tq 11 (.load 1 false (.t 10)) (tq 12 (.len (.t 11)) (tq 13 (.bin .lss (.t 9) (.t 12)) .done))))))
 (.cond (.t 13) .skip
 (.exit 0)))
 (.seq (.block 1 (.reg (tq 16 (.faddr 1 (.t 3)) (tq 17 (.load 1 false (.t 16)) (tq 19 (.faddr 1 (.t 1)) (tq 20 (.load 1 false (.t 19)) (tm 21 (.t 4) (tq 22 (.iaddr 1 (.t 20) (.t 21)) (tq 23 (.load 1 false (.t 22)) (.l ⟨(some 18),none,.bslice 3 []⟩ [⟨(some 23),none,.load 1 false (.t 22)⟩,⟨(some 22),none,.iaddr 1 (.t 20) (.t 21)⟩,⟨(some 20),none,.load 1 false (.t 19)⟩,⟨(some 19),none,.faddr 1 (.t 1)⟩,⟨(some 17),none,.load 1 false (.t 16)⟩,⟨(some 16),none,.faddr 1 (.t 3)⟩]
 (.l ⟨(some 24),none,.append 3 32 (.t 18) (.t 23)⟩ [⟨(some 17),none,.load 1 false (.t 16)⟩,⟨(some 16),none,.faddr 1 (.t 3)⟩]
 (.l ⟨(some 25),none,.bslice 1 [(.t 24)]⟩ [⟨(some 17),none,.load 1 false (.t 16)⟩,⟨(some 16),none,.faddr 1 (.t 3)⟩]
 (.l ⟨(some 26),none,.append 1 24 (.t 17) (.t 25)⟩ []
 (tq 27 (.faddr 1 (.t 3)) (.l ⟨none,none,.store 1 (.t 27) (.t 26)⟩ []
 .done .non)) .non) .non) .non) .non))))))))))
 (.reg (tm 14 (.t 4) (tq 15 (.bin .add (.t 14) (.c (.int .i64 1))) (tm 4 (.t 15) .done)))))))))
 (.cut (.seq (.reg (tq 28 (.load 2 true (.t 3)) (.q ⟨none,none,.store 2 (.t 2) (.t 28)⟩
 .done)))
 .ret)))))
theorem d9q:a1p Try.prog Try.f73 = some (c73.erase,[.load 2 true (.t 2)],29):=by kernel_rfl
def a2w :List (List y9) → (List (List y9)) → Option (List (List y9))
  | [],x_17 =>
    some x_17
  | x_33 :: xs,x_17 =>
    if ([] ++ x_33).length ≤ 2 ^ 30 then
    if (x_17 ++ [[] ++ x_33]).length ≤ 2 ^ 30 then
    a2w xs  (x_17 ++ [[] ++ x_33])
    else none
    else none

def a7m (r_1:x9):Option x9 :=
    (a2w r_1.Cells []).bind fun x_25 =>
    some (⟨r_1.Id,x_25⟩:x9)
theorem b7w (r_1:x9) (r:x9) (hf:a7m r_1 = some r):a0d Try.prog 73 .fresh [(l9 r_1)] (l9 r):=by
 refine a0d.of_awp mixed Try.func73 d9q nle ?_;rw [a0t];unfold a7m at hf;unfold c73;refine (show awp Try.prog true 0 _ (ofL [(0,(l9 r_1))]) [] _ from ?_);refine sr<|a0b (a2t (j:=0) (c:=(.agg [(.int .i64 r_1.Id),(.lst 1 (r_1.Cells.map (o8 3 o5)))])) rfl trivial rfl rfl)<|a0b (a2t (j:=1) (c:=(.agg [(.int .i64 0),.nil])) rfl trivial rfl rfl)<|dk<|sr<|y8 (.ptr 0 0 0) rfl trivial rfl<|y8 (.int .i64 r_1.Id) rfl nle rfl<|?_;refine a0b (a3t (j:=2) (as':=[]) rfl (fun _ => by decide) trivial (.refl _) rfl rfl rfl) ?_;refine y8 (.agg [(.int .i64 r_1.Id),(.own 2 0 0)]) rfl ⟨⟨rfl,nle,trivial⟩,⟨⟨rfl,nle,trivial⟩,trivial⟩⟩ rfl ?_
 refine a0b (a2t (j:=3) (c:=(.agg [(.int .i64 0),.nil])) rfl trivial rfl rfl)<|a4o (a1h (v:=(.agg [(.int .i64 r_1.Id),(.own 2 0 0)])) (y':=(.agg [(.int .i64 r_1.Id),(.own 2 0 0)])) rfl rfl rfl trivial ⟨rfl,nle⟩ ⟨⟨rfl,trivial⟩,⟨⟨rfl,trivial⟩,trivial⟩⟩ rfl)<|dk<|o6<|sr<|l7 (.int .i64 0) rfl<|dk<|?_
 obtain ⟨x_25,hb1,hf⟩:=ob hf
 refine a2e ([(2,(.ptr 0 0 0)),(3,(.ptr 1 0 0))],[.box 2 (.agg [(.int .i64 0),.nil]),.box 2 (.agg [(.int .i64 r_1.Id),(.own 2 0 x_25.length)]),.row 1 (x_25.map (o8 3 o5))]) ?_ ?_
 ·refine a0z (X:={q:(Nat × (List (List y9))) // a2w (r_1.Cells.drop q.1) q.2 = some x_25}) (fun q => ([(1,(.ptr 0 0 0)),(2,(.ptr 1 0 0)),(3,(.ptr 2 0 0)),(4,(.int .i64 (q.1.1:Int)))],[.box 2 (.agg [(.int .i64 r_1.Id),(.lst 1 (r_1.Cells.map (o8 3 o5)))]),.box 2 (.agg [(.int .i64 0),.nil]),.box 2 (.agg [(.int .i64 r_1.Id),(.own 3 0 q.1.2.length)]),.row 1 (q.1.2.map (o8 3 o5))])) (fun q => r_1.Cells.length - q.1.1) ⟨(0,[]),hb1⟩ ⟨[],[0,1,3,2],_,_,rfl,rfl,⟨.refl _,⟨.refl _,⟨.refl _,⟨.refl _,trivial⟩⟩⟩⟩,(.cons (.refl _) (.cons (.refl _) (.cons (.box (.agg (.cons (.refl _) (.cons (.of_eq (congrArg (AV.own _ 0) (by simp))) .nil)))) (.cons (.refl _) .nil))))⟩ ?_
  rintro ⟨⟨i_16,x_17⟩,hc1⟩
  have hc1:a2w (r_1.Cells.drop i_16) x_17 = some x_25:=hc1
  refine (show awp Try.prog true 0 _ (ofL [(1,(.ptr 0 0 0)),(2,(.ptr 1 0 0)),(3,(.ptr 2 0 0)),(4,(.int .i64 (i_16:Int)))]) [.box 2 (.agg [(.int .i64 r_1.Id),(.lst 1 (r_1.Cells.map (o8 3 o5)))]),.box 2 (.agg [(.int .i64 0),.nil]),.box 2 (.agg [(.int .i64 r_1.Id),(.own 3 0 x_17.length)]),.row 1 (x_17.map (o8 3 o5))] _ from ?_)
  rcases a5c r_1.Cells i_16 with ⟨hie29,hd32⟩ | ⟨hlt27,x_33,hx28,hd32⟩
  ·rw [hd32,a2w.eq_1] at hc1
   have hq31:=dlf hie29
   refine o6<|sr<|l7 (.int .i64 (i_16:Int)) rfl<|y8 (.ptr 0 0 1) rfl trivial rfl<|y8 (.lst 1 (r_1.Cells.map (o8 3 o5))) rfl nle rfl<|a0o (a1c (enc:=(o8 3 o5)) rfl) fun hl34 => y8 (.bool (decide ((i_16:Int) < (r_1.Cells.length:Int)))) rfl rfl rfl<|dk<|y7 rfl hq31<|a1y<|a1x<|a1i<|a1w<|?_;obtain rfl:=os hc1;exact ⟨[],[1,2,3],_,_,rfl,rfl,⟨.refl _,⟨.refl _,trivial⟩⟩,(.refl _)⟩
  ·rw [hd32,a2w.eq_2] at hc1
   have hq31:=dlt hlt27
   refine o6<|sr<|l7 (.int .i64 (i_16:Int)) rfl<|y8 (.ptr 0 0 1) rfl trivial rfl<|y8 (.lst 1 (r_1.Cells.map (o8 3 o5))) rfl nle rfl<|a0o (a1c (enc:=(o8 3 o5)) rfl) fun hl35 => y8 (.bool (decide ((i_16:Int) < (r_1.Cells.length:Int)))) rfl rfl rfl<|dk<|y5 rfl hq31<|a0e<|a0g<|o6<|a3j<|a0y<|y8 (.ptr 2 0 1) rfl trivial rfl<|y8 (.own 3 0 x_17.length) rfl nle rfl<|y8 (.ptr 0 0 1) rfl trivial rfl<|y8 (.lst 1 (r_1.Cells.map (o8 3 o5))) rfl nle rfl<|l7 (.int .i64 (i_16:Int)) rfl<|a0b (a1a (enc:=(o8 3 o5)) rfl rfl hx28)<|y8 (.lst 3 (x_33.map o5)) rfl ⟨rfl,rfl⟩ rfl<|?_
   refine a3i (a3t (j:=4) (as':=[]) rfl (fun _ => by decide) trivial (.refl _) rfl rfl rfl) (.inr ⟨⟨⟨rfl,rfl⟩,rfl⟩,⟨(b4r (enc:=(o8 3 o5)) rfl rfl hx28),⟨⟨nle,rfl⟩,⟨⟨trivial,rfl⟩,⟨⟨nle,rfl⟩,⟨⟨trivial,rfl⟩,trivial⟩⟩⟩⟩⟩⟩) trivial ?_
   obtain ⟨g36,hc1⟩:=og hc1
   refine a3i (a4m (j:=5) (L:=(([] ++ x_33).map o5)) (len:=([] ++ x_33).length) rfl false rfl rfl (fun _ => flm (fun _ => rfl) _) (fun _ _ _ => flm (fun _ => rfl) _) (by decide) ((by simp)) (by simp <;> omega) g36 rfl rfl) (.inr ⟨⟨nle,rfl⟩,⟨⟨trivial,rfl⟩,trivial⟩⟩) trivial ?_
   refine a3i (a3t (j:=6) (as':=[(.lst 3 (([] ++ x_33).map o5))]) rfl (fun _ => by decide) ⟨rfl,trivial⟩ (.cons (.of_eq (congrArg (AV.lst _) (tk (enc:=o5) ([] ++ x_33)))) .nil) rfl rfl rfl) (.inr ⟨⟨nle,rfl⟩,⟨⟨trivial,rfl⟩,trivial⟩⟩) trivial ?_
   obtain ⟨g37,hc1⟩:=og hc1
   refine a3i (a4m (j:=7) (L:=((x_17 ++ [[] ++ x_33]).map (o8 3 o5))) (len:=(x_17 ++ [[] ++ x_33]).length) rfl true rfl rfl (fun h => Bool.noConfusion h) (fun _ _ h => (b5x (show AV.own _ _ _ = AV.lst _ _ from h)).elim) (by decide) (c7d (enc:=(o8 3 o5)) x_17 [[] ++ x_33] _ (by rfl)) (by simp <;> omega) g37 rfl rfl) trivial trivial ?_
   refine y8 (.ptr 2 0 1) rfl trivial rfl<|c4y (a1h (v:=(.own 7 0 ((x_17 ++ [[] ++ x_33]).length))) (y':=(.agg [(.int .i64 r_1.Id),(.own 7 0 ((x_17 ++ [[] ++ x_33]).length))])) rfl rfl rfl trivial ⟨rfl,nle⟩ ⟨⟨rfl,trivial⟩,trivial⟩ rfl) trivial trivial<|a0m<|a2s<|a0g<|a0y<|l7 (.int .i64 (i_16:Int)) rfl<|y8 (.int .i64 (w64 ((i_16:Int) + 1))) rfl rfl rfl<|l7 (.int .i64 (w64 ((i_16:Int) + 1))) rfl<|a0m<|?_;exact a1e ⟨((i_16 + 1),x_17 ++ [[] ++ x_33]),hc1⟩ (mul hlt27) ⟨[],[0,1,2,7],_,_,rfl,rfl,⟨.refl _,⟨.refl _,⟨.refl _,⟨.of_eq (congrArg (AV.int _) (a1j hlt27 hl35)),trivial⟩⟩⟩⟩,(.refl _)⟩
 ·refine sr<|y8 (.agg [(.int .i64 r_1.Id),(.own 2 0 x_25.length)]) rfl nle rfl<|a4o (a1h (v:=(.agg [(.int .i64 r_1.Id),(.own 2 0 x_25.length)])) (y':=(.agg [(.int .i64 r_1.Id),(.own 2 0 x_25.length)])) rfl rfl rfl trivial ⟨rfl,nle⟩ ⟨⟨rfl,trivial⟩,⟨⟨rfl,trivial⟩,trivial⟩⟩ rfl)<|dk<|a0k<|?_;obtain rfl:=os hf;exact a4v ⟨nle,trivial⟩ rfl (by decide) (.agg (.cons (.refl _) (.cons (.of_eq (congrArg (AV.lst _) (tk (enc:=(o8 3 o5)) x_25))) .nil)))

/- spec.l10Row -/
def c40:a0r :=
 (.seq (.reg (tq 4 (.box 2 (.c (.agg [(.int .i64 0),.nil]))) .done))
 (.seq (.reg (tm 6 (.t 0) (tm 7 (.t 1) (tq 8 (.call 42 [(.t 6),(.t 7)]) (tm 5 (.t 8) .done)))))
 (.seq (.seq (.reg (tm 9 (.t 5) (tq 10 (.bin .lss (.t 9) (.c (.int .i64 0))) .done)))
 (.cond (.t 10) (.seq (.reg (tq 11 (.bslice 1 []) (tq 12 (.build [(.int .i64 0),.nil] [(1,1,(.t 11))]) (.q ⟨none,none,.store 2 (.t 4) (.t 12)⟩
 .done))))
 .ret)
 .skip))
 (.seq (.reg (tm 13 (.t 0) (tm 14 (.t 5) (tq 15 (.iaddr 2 (.t 13) (.t 14)) (tq 16 (.load 2 true (.t 15)) (tq 17 (.call 73 [(.t 16)]) (.q ⟨none,none,.store 2 (.t 4) (.t 17)⟩
 .done)))))))
 .ret))))
theorem d9r:a1p Try.prog Try.f40 = some (c40.erase,[.load 2 true (.t 4)],18):=by kernel_rfl
def a8v (rows_1:(List x9)) (id_2:Int):Option x9 :=
    (a8f rows_1 id_2).bind fun r_3 =>
    if (decide (r_3 < 0)) then
    some (⟨0,[]⟩:x9)
    else
    (idx rows_1 r_3).bind fun x_6 =>
    (a7m x_6).bind fun r_8 =>
    some r_8
theorem a8g (rows_1:(List x9)) (id_2:Int) (r:x9) (hf:a8v rows_1 id_2 = some r):a0d Try.prog 40 .fresh [(.lst 2 (rows_1.map l9)),(.int .i64 id_2)] (l9 r):=by
 refine a0d.of_awp mixed Try.func40 d9r nle ?_;rw [a0t];unfold a8v at hf;unfold c40;refine (show awp Try.prog true 0 _ (ofL [(0,(.lst 2 (rows_1.map l9))),(1,(.int .i64 id_2))]) [] _ from ?_);refine sr<|a0b (a2t (j:=0) (c:=(.agg [(.int .i64 0),.nil])) rfl trivial rfl rfl)<|dk<|sr<|?_
 obtain ⟨r_3,er4,hf⟩:=ob hf
 refine l7 (.lst 2 (rows_1.map l9)) rfl<|l7 (.int .i64 id_2) rfl<|a0b (a1t (b9f _ _ _ er4) rfl (.refl _) rfl)<|l7 (.int .i64 r_3) rfl<|dk<|o6<|sr<|l7 (.int .i64 r_3) rfl<|y8 (.bool (decide (r_3 < 0))) rfl rfl rfl<|dk<|?_
 rcases oi hf with ⟨c5,hf⟩ | ⟨c5,hf⟩
 ·refine y5 rfl c5<|sr<|?_;refine a0b (a3t (j:=1) (as':=[]) rfl (fun _ => by decide) trivial (.refl _) rfl rfl rfl) ?_;refine y8 (.agg [(.int .i64 0),(.own 1 0 0)]) rfl ⟨⟨rfl,nle,trivial⟩,trivial⟩ rfl<|a4o (a1h (v:=(.agg [(.int .i64 0),(.own 1 0 0)])) (y':=(.agg [(.int .i64 0),(.own 1 0 0)])) rfl rfl rfl trivial ⟨rfl,nle⟩ ⟨⟨rfl,trivial⟩,⟨⟨rfl,trivial⟩,trivial⟩⟩ rfl)<|dk<|a0k<|?_;obtain rfl:=os hf;exact a4v ⟨nle,trivial⟩ rfl (by decide) (.refl _)
 ·refine y7 rfl (bf c5)<|a0e<|a0g<|sr<|?_
  obtain ⟨x_6,ex7,hf⟩:=ob hf
  obtain ⟨r_8,er9,hf⟩:=ob hf
  refine l7 (.lst 2 (rows_1.map l9)) rfl<|l7 (.int .i64 r_3) rfl<|a0b (a4w (enc:=l9) rfl rfl (b0q ex7) (b0r ex7))<|y8 (l9 x_6) rfl nle rfl<|a0b (a3f (v:=(.agg [(.int .i64 r_8.Id),(.own 1 0 r_8.Cells.length)])) (h':=[.row 1 (r_8.Cells.map (o8 3 o5))]) (b7w _ _ er9) rfl (.refl _) (by simp only [a1s,a1v,List.length_map,a6l,List.nil_append,List.append_nil,List.cons_append];rfl))<|a4o (a1h (v:=(.agg [(.int .i64 r_8.Id),(.own 1 0 r_8.Cells.length)])) (y':=(.agg [(.int .i64 r_8.Id),(.own 1 0 r_8.Cells.length)])) rfl rfl rfl trivial ⟨rfl,nle⟩ ⟨⟨rfl,trivial⟩,⟨⟨rfl,trivial⟩,trivial⟩⟩ rfl)<|dk<|?_
  refine a0k ?_;obtain rfl:=os hf;exact a4v ⟨nle,trivial⟩ rfl (by decide) (.agg (.cons (.refl _) (.cons (.of_eq (congrArg (AV.lst _) (tk (enc:=(o8 3 o5)) r_8.Cells))) .nil)))

/- spec.l03Same -/
def c74:a0r :=
 (.seq (.reg (tm 4 (.c (.bool false)) .done))
 (.seq (.seq (.reg (tm 6 (.t 0) (tq 7 (.len (.t 6)) (tm 8 (.t 1) (tq 9 (.len (.t 8)) (tq 10 (.bin .neq (.t 7) (.t 9)) .done))))))
 (.cond (.t 10) (.seq (.reg (tm 4 (.c (.bool false)) .done))
 .ret)
 .skip))
 (.seq (.seq (.reg (tm 5 (.c (.int .i64 0)) .done))
 (.block 0 (.loop (.seq (.seq (.reg (tm 11 (.t 5) (tm 12 (.t 0) (tq 13 (.len (.t 12)) (tq 14 (.bin .lss (.t 11) (.t 13)) .done)))))
 (.cond (.t 14) .skip
 (.exit 0)))
 (.seq (.block 1 (.seq (.reg (tm 17 (.t 0) (tm 18 (.t 5) (tq 19 (.iaddr 3 (.t 17) (.t 18)) (tq 20 (.load 3 true (.t 19)) (tm 21 (.t 1) (tm 22 (.t 5) (tq 23 (.iaddr 3 (.t 21) (.t 22)) (tq 24 (.load 3 true (.t 23)) (tq 25 (.eqs true [0,0,2] (.t 20) (.t 24)) .done))))))))))
 (.cond (.t 25) (.seq (.reg (tm 4 (.c (.bool false)) .done))
 .ret)
 .skip)))
 (.reg (tm 15 (.t 5) (tq 16 (.bin .add (.t 15) (.c (.int .i64 1))) (tm 5 (.t 16) .done)))))))))
 (.cut (.seq (.reg (tm 4 (.c (.bool true)) .done))
 .ret)))))
theorem d9s:a1p Try.prog Try.f74 = some (c74.erase,[.mov (.t 4)],26):=by kernel_rfl
def a4g (b_2:(List y9)):List y9 → Nat → Option (Fl Bool Unit)
  | [],i_21 =>
    some (.go ())
  | x_37 :: xs,i_21 =>
    (idx b_2 (i_21:Int)).bind fun x_40 =>
    if (!(x_37.Kind == x_40.Kind && (x_37.N == x_40.N && (x_37.T == x_40.T && true)))) then
    some (.ret false)
    else
    a4g b_2 xs (i_21 + 1)

def a9j (a_1:(List y9)) (b_2:(List y9)):Option Bool :=
    if ((a_1.length:Int) != (b_2.length:Int)) then
    some false
    else
    (a4g b_2 a_1 0).bind fun q => (match q with
    | .ret r => some r
    | .go _ =>
    some true)
theorem c1g (a_1:(List y9)) (b_2:(List y9)) (r:Bool) (hf:a9j a_1 b_2 = some r):a0d Try.prog 74 .flat [(.lst 3 (a_1.map o5)),(.lst 3 (b_2.map o5))] (.bool r):=by
 refine a0d.of_awp mixed Try.func74 d9s nle ?_;rw [a0t];unfold a9j at hf;unfold c74;refine (show awp Try.prog false 0 _ (ofL [(0,(.lst 3 (a_1.map o5))),(1,(.lst 3 (b_2.map o5)))]) [] _ from ?_);refine sr<|l7 (.bool false) rfl<|dk<|o6<|sr<|l7 (.lst 3 (a_1.map o5)) rfl<|a0o (a1c (enc:=o5) rfl) fun hl3 => l7 (.lst 3 (b_2.map o5)) rfl<|a0o (a1c (enc:=o5) rfl) fun hl4 => y8 (.bool ((a_1.length:Int) != (b_2.length:Int))) rfl rfl rfl<|dk<|?_
 rcases oi hf with ⟨c5,hf⟩ | ⟨c5,hf⟩
 ·refine y5 rfl c5<|sr<|l7 (.bool false) rfl<|dk<|a0k<|?_;obtain rfl:=os hf;exact a0l ⟨trivial,trivial⟩ rfl (.refl _)
 ·refine y7 rfl (bf c5)<|a0e<|a0g<|o6<|sr<|l7 (.int .i64 0) rfl<|dk<|?_
  obtain ⟨p30,hb1,hf⟩:=ob hf
  refine a4a (X:={q:Unit // p30 = .go q}) (fun q => ([],[])) ?_ ?_
  ·refine a0z (X:={q:Nat // a4g b_2 (a_1.drop q) q = some p30}) (fun q => ([(0,(.lst 3 (a_1.map o5))),(1,(.lst 3 (b_2.map o5))),(5,(.int .i64 (q.1:Int)))],[])) (fun q => a_1.length - q.1) ⟨0,hb1⟩ ⟨[],[],_,_,rfl,rfl,⟨.refl _,⟨.refl _,⟨.refl _,trivial⟩⟩⟩,(.refl _)⟩ ?_
   rintro ⟨i_21,hc1⟩
   have hc1:a4g b_2 (a_1.drop i_21) i_21 = some p30:=hc1
   refine (show awp Try.prog false 0 _ (ofL [(0,(.lst 3 (a_1.map o5))),(1,(.lst 3 (b_2.map o5))),(5,(.int .i64 (i_21:Int)))]) [] _ from ?_)
   rcases a5c a_1 i_21 with ⟨hie33,hd36⟩ | ⟨hlt31,x_37,hx32,hd36⟩
   ·rw [hd36,a4g.eq_1] at hc1
    have hq35:=dlf hie33
    refine o6<|sr<|l7 (.int .i64 (i_21:Int)) rfl<|l7 (.lst 3 (a_1.map o5)) rfl<|a0o (a1c (enc:=o5) rfl) fun hl38 => y8 (.bool (decide ((i_21:Int) < (a_1.length:Int)))) rfl rfl rfl<|dk<|y7 rfl hq35<|a1y<|a1x<|a1i<|a1w<|?_;obtain rfl:=os hc1;exact a5z ⟨_,rfl⟩ ⟨[],[],_,_,rfl,rfl,trivial,(.refl _)⟩
   ·rw [hd36,a4g.eq_2] at hc1
    have hq35:=dlt hlt31
    refine o6<|sr<|l7 (.int .i64 (i_21:Int)) rfl<|l7 (.lst 3 (a_1.map o5)) rfl<|a0o (a1c (enc:=o5) rfl) fun hl39 => y8 (.bool (decide ((i_21:Int) < (a_1.length:Int)))) rfl rfl rfl<|dk<|y5 rfl hq35<|a0e<|a0g<|o6<|a3j<|sr<|?_
    obtain ⟨x_40,ex41,hc1⟩:=ob hc1
    refine l7 (.lst 3 (a_1.map o5)) rfl<|l7 (.int .i64 (i_21:Int)) rfl<|a0b (a1a (enc:=o5) rfl rfl hx32)<|y8 (o5 x_37) rfl nle rfl<|l7 (.lst 3 (b_2.map o5)) rfl<|l7 (.int .i64 (i_21:Int)) rfl<|a0b (a4w (enc:=o5) rfl rfl (b0q ex41) (b0r ex41))<|y8 (o5 x_40) rfl nle rfl<|y8 (.bool (!(x_37.Kind == x_40.Kind && (x_37.N == x_40.N && (x_37.T == x_40.T && true))))) rfl ⟨⟨rfl,rfl⟩,⟨⟨rfl,rfl⟩,⟨rfl,trivial⟩⟩⟩ rfl<|dk<|?_
    rcases oi hc1 with ⟨c42,hc1⟩ | ⟨c42,hc1⟩
    ·refine y5 rfl c42<|sr<|l7 (.bool false) rfl<|dk<|a0k<|?_;obtain rfl:=os hc1;obtain rfl:=os hf;exact a0l ⟨trivial,trivial⟩ rfl (.refl _)
    ·refine y7 rfl (bf c42)<|a0e<|a2s<|a0g<|a0y<|l7 (.int .i64 (i_21:Int)) rfl<|y8 (.int .i64 (w64 ((i_21:Int) + 1))) rfl rfl rfl<|l7 (.int .i64 (w64 ((i_21:Int) + 1))) rfl<|a0m<|?_;exact a1e ⟨(i_21 + 1),hc1⟩ (mul hlt31) ⟨[],[],_,_,rfl,rfl,⟨.refl _,⟨.refl _,⟨.of_eq (congrArg (AV.int _) (a1j hlt31 hl39)),trivial⟩⟩⟩,(.refl _)⟩
  ·rintro ⟨_,rfl⟩
   refine sr<|l7 (.bool true) rfl<|dk<|a0k<|?_;obtain rfl:=os hf;exact a0l ⟨trivial,trivial⟩ rfl (.refl _)

/- spec.l05SameRow -/
def c39:a0r :=
 (.seq (.reg (tq 2 (.box 2 (.t 0)) (tq 3 (.box 2 (.t 1)) (tm 4 (.c (.bool false)) .done))))
 (.seq (.seq (.reg (tq 6 (.faddr 0 (.t 2)) (tq 7 (.load 1 false (.t 6)) (tq 8 (.faddr 0 (.t 3)) (tq 9 (.load 1 false (.t 8)) (tq 10 (.bin .neq (.t 7) (.t 9)) (tm 11 (.t 10) (tg 12 11 false (.faddr 1 (.t 2)) (tg 13 11 false (.load 1 false (.t 12)) (tg 14 11 false (.len (.t 13)) (tg 15 11 false (.faddr 1 (.t 3)) (tg 16 11 false (.load 1 false (.t 15)) (tg 17 11 false (.len (.t 16)) (tg 18 11 false (.bin .neq (.t 14) (.t 17)) (tq 19 (.pick (.t 11) (.c (.bool true)) (.t 18)) .done)))))))))))))))
 (.cut (.cond (.t 19) (.seq (.reg (tm 4 (.c (.bool false)) .done))
 .ret)
 .skip)))
 (.seq (.seq (.reg (tm 5 (.c (.int .i64 0)) .done))
 (.block 0 (.loop (.seq (.seq (.reg (tm 20 (.t 5) (tq 21 (.faddr 1 (.t 2)) (tq 22 (.load 1 false (.t 21)) (tq 23 (.len (.t 22)) (tq 24 (.bin .lss (.t 20) (.t 23)) .done))))))
 (.cond (.t 24) .skip
 (.exit 0)))
 (.seq (.block 1 (.seq (.reg (tq 27 (.faddr 1 (.t 2)) (tq 28 (.load 1 false (.t 27)) (tm 29 (.t 5) (tq 30 (.iaddr 1 (.t 28) (.t 29)) (tq 31 (.load 1 false (.t 30)) (tq 32 (.faddr 1 (.t 3)) (tq 33 (.load 1 false (.t 32)) (tm 34 (.t 5) (tq 35 (.iaddr 1 (.t 33) (.t 34)) (tq 36 (.load 1 false (.t 35)) (.l ⟨(some 37),none,.call 74 [(.t 31),(.t 36)]⟩ []
 (tq 38 (.not (.t 37)) .done) .non))))))))))))
 (.cond (.t 38) (.seq (.reg (tm 4 (.c (.bool false)) .done))
 .ret)
 .skip)))
 (.reg (tm 25 (.t 5) (tq 26 (.bin .add (.t 25) (.c (.int .i64 1))) (tm 5 (.t 26) .done)))))))))
 (.cut (.seq (.reg (tm 4 (.c (.bool true)) .done))
 .ret)))))
theorem d9t:a1p Try.prog Try.f39 = some (c39.erase,[.mov (.t 4)],39):=by kernel_rfl
def a2n (b_2:x9):List (List y9) → Nat → Option (Fl Bool Unit)
  | [],i_28 =>
    some (.go ())
  | x_46 :: xs,i_28 =>
    (idx b_2.Cells (i_28:Int)).bind fun x_49 =>
    (a9j x_46 x_49).bind fun r_51 =>
    if (!r_51) then
    some (.ret false)
    else
    a2n b_2 xs (i_28 + 1)

def a7b (a_1:x9) (b_2:x9):Option Bool :=
    ((some ():Option Unit)).bind fun _ =>
    if (bif (a_1.Id != b_2.Id) then true else ((a_1.Cells.length:Int) != (b_2.Cells.length:Int))) then
    some false
    else
    (a2n b_2 a_1.Cells 0).bind fun q => (match q with
    | .ret r => some r
    | .go _ =>
    some true)
theorem b6u (a_1:x9) (b_2:x9) (r:Bool) (hf:a7b a_1 b_2 = some r):a0d Try.prog 39 .flat [(l9 a_1),(l9 b_2)] (.bool r):=by
 refine a0d.of_awp mixed Try.func39 d9t nle ?_;rw [a0t];unfold a7b at hf;unfold c39;refine (show awp Try.prog false 0 _ (ofL [(0,(l9 a_1)),(1,(l9 b_2))]) [] _ from ?_);refine sr<|a0b (a2t (j:=0) (c:=(.agg [(.int .i64 a_1.Id),(.lst 1 (a_1.Cells.map (o8 3 o5)))])) rfl trivial rfl rfl)<|a0b (a2t (j:=1) (c:=(.agg [(.int .i64 b_2.Id),(.lst 1 (b_2.Cells.map (o8 3 o5)))])) rfl trivial rfl rfl)<|l7 (.bool false) rfl<|dk<|o6<|o6<|?_
 obtain ⟨p5,hb1,hf⟩:=ob hf
 refine a2e ([(2,(.ptr 0 0 0)),(3,(.ptr 1 0 0)),(19,(.bool (bif (a_1.Id != b_2.Id) then true else ((a_1.Cells.length:Int) != (b_2.Cells.length:Int)))))],[.box 2 (.agg [(.int .i64 a_1.Id),(.lst 1 (a_1.Cells.map (o8 3 o5)))]),.box 2 (.agg [(.int .i64 b_2.Id),(.lst 1 (b_2.Cells.map (o8 3 o5)))])]) ?_ ?_
 ·refine a0y<|y8 (.ptr 0 0 0) rfl trivial rfl<|y8 (.int .i64 a_1.Id) rfl nle rfl<|y8 (.ptr 1 0 0) rfl trivial rfl<|y8 (.int .i64 b_2.Id) rfl nle rfl<|y8 (.bool (a_1.Id != b_2.Id)) rfl rfl rfl<|l7 (.bool (a_1.Id != b_2.Id)) rfl<|?_;refine s_g (v:=(a_1.Id != b_2.Id)) (.ptr 0 0 1) rfl (fun hv => by (try simp only [a7f hv]);exact ⟨rfl,trivial,rfl⟩) ?_;refine s_g (v:=(a_1.Id != b_2.Id)) (.lst 1 (a_1.Cells.map (o8 3 o5))) rfl (fun hv => by (try simp only [a7f hv]);exact ⟨rfl,nle,rfl⟩) ?_;refine s_g (v:=(a_1.Id != b_2.Id)) (.int .i64 (a_1.Cells.length:Int)) rfl (fun hv => by (try simp only [a7f hv]);exact ⟨rfl,trivial,lenV _ _⟩) ?_;refine s_g (v:=(a_1.Id != b_2.Id)) (.ptr 1 0 1) rfl (fun hv => by (try simp only [a7f hv]);exact ⟨rfl,trivial,rfl⟩) ?_
  refine s_g (v:=(a_1.Id != b_2.Id)) (.lst 1 (b_2.Cells.map (o8 3 o5))) rfl (fun hv => by (try simp only [a7f hv]);exact ⟨rfl,nle,rfl⟩) ?_;refine s_g (v:=(a_1.Id != b_2.Id)) (.int .i64 (b_2.Cells.length:Int)) rfl (fun hv => by (try simp only [a7f hv]);exact ⟨rfl,trivial,lenV _ _⟩) ?_;refine s_g (v:=(a_1.Id != b_2.Id)) (.bool ((a_1.Cells.length:Int) != (b_2.Cells.length:Int))) rfl (fun hv => by (try simp only [a7f hv]);exact ⟨rfl,rfl,rfl⟩) ?_;refine c8t (x:=true) (y:=((a_1.Cells.length:Int) != (b_2.Cells.length:Int))) rfl (fun hv => by (try simp only [a7f hv]);rfl) (fun hv => by (try simp only [a7f hv]);rfl) ?_;refine a0m ?_;obtain rfl:=os hb1;exact ⟨[],[0,1],_,_,rfl,rfl,⟨.refl _,⟨.refl _,⟨.refl _,trivial⟩⟩⟩,(.refl _)⟩
 ·rcases oi hf with ⟨c8,hf⟩ | ⟨c8,hf⟩
  ·refine y5 rfl c8<|sr<|l7 (.bool false) rfl<|dk<|a0k<|?_;obtain rfl:=os hf;exact a0l ⟨trivial,trivial⟩ rfl (.refl _)
  ·refine y7 rfl (bf c8)<|a0e<|a0g<|o6<|sr<|l7 (.int .i64 0) rfl<|dk<|?_
   obtain ⟨p39,hb1,hf⟩:=ob hf
   refine a4a (X:={q:Unit // p39 = .go q}) (fun q => ([],[])) ?_ ?_
   ·refine a0z (X:={q:Nat // a2n b_2 (a_1.Cells.drop q) q = some p39}) (fun q => ([(2,(.ptr 0 0 0)),(3,(.ptr 1 0 0)),(5,(.int .i64 (q.1:Int)))],[.box 2 (.agg [(.int .i64 a_1.Id),(.lst 1 (a_1.Cells.map (o8 3 o5)))]),.box 2 (.agg [(.int .i64 b_2.Id),(.lst 1 (b_2.Cells.map (o8 3 o5)))])])) (fun q => a_1.Cells.length - q.1) ⟨0,hb1⟩ ⟨[],[0,1],_,_,rfl,rfl,⟨.refl _,⟨.refl _,⟨.refl _,trivial⟩⟩⟩,(.refl _)⟩ ?_
    rintro ⟨i_28,hc1⟩
    have hc1:a2n b_2 (a_1.Cells.drop i_28) i_28 = some p39:=hc1
    refine (show awp Try.prog false 0 _ (ofL [(2,(.ptr 0 0 0)),(3,(.ptr 1 0 0)),(5,(.int .i64 (i_28:Int)))]) [.box 2 (.agg [(.int .i64 a_1.Id),(.lst 1 (a_1.Cells.map (o8 3 o5)))]),.box 2 (.agg [(.int .i64 b_2.Id),(.lst 1 (b_2.Cells.map (o8 3 o5)))])] _ from ?_)
    rcases a5c a_1.Cells i_28 with ⟨hie42,hd45⟩ | ⟨hlt40,x_46,hx41,hd45⟩
    ·rw [hd45,a2n.eq_1] at hc1
     have hq44:=dlf hie42
     refine o6<|sr<|l7 (.int .i64 (i_28:Int)) rfl<|y8 (.ptr 0 0 1) rfl trivial rfl<|y8 (.lst 1 (a_1.Cells.map (o8 3 o5))) rfl nle rfl<|a0o (a1c (enc:=(o8 3 o5)) rfl) fun hl47 => y8 (.bool (decide ((i_28:Int) < (a_1.Cells.length:Int)))) rfl rfl rfl<|dk<|y7 rfl hq44<|a1y<|a1x<|a1i<|a1w<|?_;obtain rfl:=os hc1;exact a5z ⟨_,rfl⟩ ⟨[],[],_,_,rfl,rfl,trivial,(.refl _)⟩
    ·rw [hd45,a2n.eq_2] at hc1
     have hq44:=dlt hlt40
     refine o6<|sr<|l7 (.int .i64 (i_28:Int)) rfl<|y8 (.ptr 0 0 1) rfl trivial rfl<|y8 (.lst 1 (a_1.Cells.map (o8 3 o5))) rfl nle rfl<|a0o (a1c (enc:=(o8 3 o5)) rfl) fun hl48 => y8 (.bool (decide ((i_28:Int) < (a_1.Cells.length:Int)))) rfl rfl rfl<|dk<|y5 rfl hq44<|a0e<|a0g<|o6<|a3j<|sr<|?_
     obtain ⟨x_49,ex50,hc1⟩:=ob hc1
     obtain ⟨r_51,er52,hc1⟩:=ob hc1
     refine y8 (.ptr 0 0 1) rfl trivial rfl<|y8 (.lst 1 (a_1.Cells.map (o8 3 o5))) rfl nle rfl<|l7 (.int .i64 (i_28:Int)) rfl<|a0b (a1a (enc:=(o8 3 o5)) rfl rfl hx41)<|y8 (.lst 3 (x_46.map o5)) rfl ⟨rfl,rfl⟩ rfl<|y8 (.ptr 1 0 1) rfl trivial rfl<|y8 (.lst 1 (b_2.Cells.map (o8 3 o5))) rfl nle rfl<|l7 (.int .i64 (i_28:Int)) rfl<|a0b (a4w (enc:=(o8 3 o5)) rfl rfl (b0q ex50) (b0r ex50))<|y8 (.lst 3 (x_49.map o5)) rfl ⟨rfl,rfl⟩ rfl<|a3i (a1t (c1g _ _ _ er52) rfl (.refl _) rfl) b1w trivial<|y8 (.bool (!r_51)) rfl trivial rfl<|dk<|?_
     rcases oi hc1 with ⟨c53,hc1⟩ | ⟨c53,hc1⟩
     ·refine y5 rfl c53<|sr<|l7 (.bool false) rfl<|dk<|a0k<|?_;obtain rfl:=os hc1;obtain rfl:=os hf;exact a0l ⟨trivial,trivial⟩ rfl (.refl _)
     ·refine y7 rfl (bf c53)<|a0e<|a2s<|a0g<|a0y<|l7 (.int .i64 (i_28:Int)) rfl<|y8 (.int .i64 (w64 ((i_28:Int) + 1))) rfl rfl rfl<|l7 (.int .i64 (w64 ((i_28:Int) + 1))) rfl<|a0m<|?_;exact a1e ⟨(i_28 + 1),hc1⟩ (mul hlt40) ⟨[],[0,1],_,_,rfl,rfl,⟨.refl _,⟨.refl _,⟨.of_eq (congrArg (AV.int _) (a1j hlt40 hl48)),trivial⟩⟩⟩,(.refl _)⟩
   ·rintro ⟨_,rfl⟩
    refine sr<|l7 (.bool true) rfl<|dk<|a0k<|?_;obtain rfl:=os hf;exact a0l ⟨trivial,trivial⟩ rfl (.refl _)

/- spec.l10Diff -/
def c68:a0r :=
 (.seq (.reg (tq 2 (.box 2 (.t 0)) (tq 3 (.box 2 (.t 1)) (tm 4 (.c .nil) .done))))
 (.seq (.reg (tq 12 (.bslice 6 []) (tm 5 (.t 12) .done)))
 (.seq (.seq (.reg (tm 6 (.c (.int .i64 0)) .done))
 (.block 0 (.loop (.seq (.seq (.reg (tm 13 (.t 6) (tq 14 (.faddr 0 (.t 2)) (tq 15 (.load 1 false (.t 14)) (tq 16 (.len (.t 15)) (tq 17 (.bin .lss (.t 13) (.t 16)) .done))))))
 (.cond (.t 17) .skip
 (.exit 0)))
 (.seq (.block 1 (.seq (.reg (tq 20 (.bslice 1 []) (tm 7 (.t 20) .done)))
 (.seq (.seq (.reg (tm 8 (.c (.int .i64 0)) .done))
 (.block 2 (.loop (.seq (.seq (.reg (tm 21 (.t 8) (tq 22 (.faddr 0 (.t 2)) (tq 23 (.load 1 false (.t 22)) (tm 24 (.t 6) (tq 25 (.iaddr 1 (.t 23) (.t 24)) (tq 26 (.load 1 false (.t 25)) (tq 27 (.len (.t 26)) (tq 28 (.bin .lss (.t 21) (.t 27)) .done)))))))))
 (.cond (.t 28) .skip
 (.exit 2)))
 (.seq (.block 3 (.reg (tm 31 (.t 7) (tq 32 (.faddr 0 (.t 2)) (tq 33 (.load 1 false (.t 32)) (tm 34 (.t 6) (tq 35 (.iaddr 1 (.t 33) (.t 34)) (tq 36 (.load 1 false (.t 35)) (tm 37 (.t 8) (tq 38 (.iaddr 2 (.t 36) (.t 37)) (tq 39 (.faddr 0 (.t 38)) (tq 40 (.load 1 false (.t 39)) (tq 41 (.call 90 [(.t 31),(.t 40)]) (tm 7 (.t 41) .done))))))))))))))
 (.reg (tm 29 (.t 8) (tq 30 (.bin .add (.t 29) (.c (.int .i64 1))) (tm 8 (.t 30) .done)))))))))
 (.cut (.seq (.seq (.reg (tm 9 (.c (.int .i64 0)) .done))
 (.block 4 (.loop (.seq (.seq (.reg (tm 42 (.t 9) (tq 43 (.faddr 0 (.t 3)) (tq 44 (.load 1 false (.t 43)) (tm 45 (.t 6) (tq 46 (.iaddr 1 (.t 44) (.t 45)) (tq 47 (.load 1 false (.t 46)) (tq 48 (.len (.t 47)) (tq 49 (.bin .lss (.t 42) (.t 48)) .done)))))))))
 (.cond (.t 49) .skip
 (.exit 4)))
 (.seq (.block 5 (.reg (tm 52 (.t 7) (tq 53 (.faddr 0 (.t 3)) (tq 54 (.load 1 false (.t 53)) (tm 55 (.t 6) (tq 56 (.iaddr 1 (.t 54) (.t 55)) (tq 57 (.load 1 false (.t 56)) (tm 58 (.t 9) (tq 59 (.iaddr 2 (.t 57) (.t 58)) (tq 60 (.faddr 0 (.t 59)) (tq 61 (.load 1 false (.t 60)) (tq 62 (.call 90 [(.t 52),(.t 61)]) (tm 7 (.t 62) .done))))))))))))))
 (.reg (tm 50 (.t 9) (tq 51 (.bin .add (.t 50) (.c (.int .i64 1))) (tm 9 (.t 51) .done)))))))))
 (.cut (.seq (.reg (tm 10 (.c (.int .i64 0)) .done))
 (.block 6 (.loop (.seq (.seq (.reg (tm 63 (.t 10) (tm 64 (.t 7) (tq 65 (.len (.t 64)) (tq 66 (.bin .lss (.t 63) (.t 65)) .done)))))
 (.cond (.t 66) .skip
 (.exit 6)))
 (.seq (.block 7 (.seq (.reg (tm 69 (.t 6) (tm 70 (.t 7) (tm 71 (.t 10) (tq 72 (.iaddr 1 (.t 70) (.t 71)) (tq 73 (.load 1 false (.t 72)) (tq 74 (.faddr 0 (.t 2)) (tq 75 (.load 1 false (.t 74)) (tm 76 (.t 6) (tq 77 (.iaddr 1 (.t 75) (.t 76)) (tq 78 (.load 1 false (.t 77)) (tm 79 (.t 7) (tm 80 (.t 10) (tq 81 (.iaddr 1 (.t 79) (.t 80)) (tq 82 (.load 1 false (.t 81)) (tq 84 (.faddr 0 (.t 3)) (tq 85 (.load 1 false (.t 84)) (tm 86 (.t 6) (tq 87 (.iaddr 1 (.t 85) (.t 86)) (tq 88 (.load 1 false (.t 87)) (tm 89 (.t 7) (tm 90 (.t 10) (tq 91 (.iaddr 1 (.t 89) (.t 90)) (tq 92 (.load 1 false (.t 91)) (.l ⟨(some 83),none,.call 40 [(.t 78),(.t 82)]⟩ [⟨(some 92),none,.load 1 false (.t 91)⟩,⟨(some 91),none,.iaddr 1 (.t 89) (.t 90)⟩,⟨(some 88),none,.load 1 false (.t 87)⟩,⟨(some 87),none,.iaddr 1 (.t 85) (.t 86)⟩,⟨(some 85),none,.load 1 false (.t 84)⟩,⟨(some 84),none,.faddr 0 (.t 3)⟩,⟨(some 73),none,.load 1 false (.t 72)⟩,⟨(some 72),none,.iaddr 1 (.t 70) (.t 71)⟩]
 (.l ⟨(some 93),none,.call 40 [(.t 88),(.t 92)]⟩ [⟨(some 73),none,.load 1 false (.t 72)⟩,⟨(some 72),none,.iaddr 1 (.t 70) (.t 71)⟩]
 (tq 94 (.build [(.int .i64 0),(.int .i64 0),(.int .i64 0),.nil,(.int .i64 0),.nil] [(0,1,(.t 69)),(1,1,(.t 73)),(2,2,(.t 83)),(4,2,(.t 93))]) (.l ⟨(some 11),none,.box 6 (.c (.agg [(.int .i64 0),(.int .i64 0),(.int .i64 0),.nil,(.int .i64 0),.nil]))⟩ [⟨(some 94),none,.build [(.int .i64 0),(.int .i64 0),(.int .i64 0),.nil,(.int .i64 0),.nil] [(0,1,(.t 69)),(1,1,(.t 73)),(2,2,(.t 83)),(4,2,(.t 93))]⟩,⟨(some 92),none,.load 1 false (.t 91)⟩,⟨(some 91),none,.iaddr 1 (.t 89) (.t 90)⟩,⟨(some 88),none,.load 1 false (.t 87)⟩,⟨(some 87),none,.iaddr 1 (.t 85) (.t 86)⟩,⟨(some 85),none,.load 1 false (.t 84)⟩,⟨(some 84),none,.faddr 0 (.t 3)⟩,⟨(some 82),none,.load 1 false (.t 81)⟩,⟨(some 81),none,.iaddr 1 (.t 79) (.t 80)⟩,⟨(some 78),none,.load 1 false (.t 77)⟩,⟨(some 77),none,.iaddr 1 (.t 75) (.t 76)⟩,⟨(some 75),none,.load 1 false (.t 74)⟩,⟨(some 74),none,.faddr 0 (.t 2)⟩,⟨(some 73),none,.load 1 false (.t 72)⟩,⟨(some 72),none,.iaddr 1 (.t 70) (.t 71)⟩]
 (.l ⟨none,none,.store 6 (.t 11) (.t 94)⟩ []
 .done .non) .non)) (.l ⟨(some 11),none,.box 6 (.c (.agg [(.int .i64 0),(.int .i64 0),(.int .i64 0),.nil,(.int .i64 0),.nil]))⟩ [⟨(some 92),none,.load 1 false (.t 91)⟩,⟨(some 91),none,.iaddr 1 (.t 89) (.t 90)⟩,⟨(some 88),none,.load 1 false (.t 87)⟩,⟨(some 87),none,.iaddr 1 (.t 85) (.t 86)⟩,⟨(some 85),none,.load 1 false (.t 84)⟩,⟨(some 84),none,.faddr 0 (.t 3)⟩,⟨(some 82),none,.load 1 false (.t 81)⟩,⟨(some 81),none,.iaddr 1 (.t 79) (.t 80)⟩,⟨(some 78),none,.load 1 false (.t 77)⟩,⟨(some 77),none,.iaddr 1 (.t 75) (.t 76)⟩,⟨(some 75),none,.load 1 false (.t 74)⟩,⟨(some 74),none,.faddr 0 (.t 2)⟩,⟨(some 73),none,.load 1 false (.t 72)⟩,⟨(some 72),none,.iaddr 1 (.t 70) (.t 71)⟩]
 (.l ⟨(some 93),none,.call 40 [(.t 88),(.t 92)]⟩ [⟨(some 73),none,.load 1 false (.t 72)⟩,⟨(some 72),none,.iaddr 1 (.t 70) (.t 71)⟩]
 (tq 94 (.build [(.int .i64 0),(.int .i64 0),(.int .i64 0),.nil,(.int .i64 0),.nil] [(0,1,(.t 69)),(1,1,(.t 73)),(2,2,(.t 83)),(4,2,(.t 93))]) (.l ⟨none,none,.store 6 (.t 11) (.t 94)⟩ []
 .done .non)) .non) .non)) (.l ⟨(some 11),none,.box 6 (.c (.agg [(.int .i64 0),(.int .i64 0),(.int .i64 0),.nil,(.int .i64 0),.nil]))⟩ [⟨(some 92),none,.load 1 false (.t 91)⟩,⟨(some 91),none,.iaddr 1 (.t 89) (.t 90)⟩,⟨(some 88),none,.load 1 false (.t 87)⟩,⟨(some 87),none,.iaddr 1 (.t 85) (.t 86)⟩,⟨(some 85),none,.load 1 false (.t 84)⟩,⟨(some 84),none,.faddr 0 (.t 3)⟩,⟨(some 82),none,.load 1 false (.t 81)⟩,⟨(some 81),none,.iaddr 1 (.t 79) (.t 80)⟩,⟨(some 78),none,.load 1 false (.t 77)⟩,⟨(some 77),none,.iaddr 1 (.t 75) (.t 76)⟩,⟨(some 75),none,.load 1 false (.t 74)⟩,⟨(some 74),none,.faddr 0 (.t 2)⟩,⟨(some 73),none,.load 1 false (.t 72)⟩,⟨(some 72),none,.iaddr 1 (.t 70) (.t 71)⟩]
 (.l ⟨(some 83),none,.call 40 [(.t 78),(.t 82)]⟩ [⟨(some 92),none,.load 1 false (.t 91)⟩,⟨(some 91),none,.iaddr 1 (.t 89) (.t 90)⟩,⟨(some 88),none,.load 1 false (.t 87)⟩,⟨(some 87),none,.iaddr 1 (.t 85) (.t 86)⟩,⟨(some 85),none,.load 1 false (.t 84)⟩,⟨(some 84),none,.faddr 0 (.t 3)⟩,⟨(some 73),none,.load 1 false (.t 72)⟩,⟨(some 72),none,.iaddr 1 (.t 70) (.t 71)⟩]
 (.l ⟨(some 93),none,.call 40 [(.t 88),(.t 92)]⟩ [⟨(some 73),none,.load 1 false (.t 72)⟩,⟨(some 72),none,.iaddr 1 (.t 70) (.t 71)⟩]
 (tq 94 (.build [(.int .i64 0),(.int .i64 0),(.int .i64 0),.nil,(.int .i64 0),.nil] [(0,1,(.t 69)),(1,1,(.t 73)),(2,2,(.t 83)),(4,2,(.t 93))]) (.l ⟨none,none,.store 6 (.t 11) (.t 94)⟩ []
 .done .non)) .non) .non) .non))))))))))))))))))))))))))
 (.cut (.seq (.reg (tq 95 (.faddr 2 (.t 11)) (tq 96 (.load 2 true (.t 95)) (tq 97 (.faddr 4 (.t 11)) (tq 98 (.load 2 true (.t 97)) (tq 99 (.call 39 [(.t 96),(.t 98)]) (tq 100 (.not (.t 99)) .done)))))))
 (.cond (.t 100) (.reg (tm 101 (.t 5) (tq 102 (.load 6 true (.t 11)) (tq 103 (.bslice 6 [(.t 102)]) (tq 104 (.append 6 80 (.t 101) (.t 103)) (tm 5 (.t 104) .done))))))
 .skip)))))
 (.reg (tm 67 (.t 10) (tq 68 (.bin .add (.t 67) (.c (.int .i64 1))) (tm 10 (.t 68) .done)))))))))))))))
 (.cut (.reg (tm 18 (.t 6) (tq 19 (.bin .add (.t 18) (.c (.int .i64 1))) (tm 6 (.t 19) .done))))))))))
 (.cut (.seq (.reg (tm 105 (.t 5) (tm 4 (.t 105) .done)))
 .ret)))))
theorem d9u:a1p Try.prog Try.f68 = some (c68.erase,[.mov (.t 4)],106):=by kernel_rfl
def a4h :List x9 → (List Int) → Option (List Int)
  | [],ids_1021 =>
    some ids_1021
  | x_1037 :: xs,ids_1021 =>
    (a6p ids_1021 x_1037.Id).bind fun r_1040 =>
    a4h xs  r_1040

def a4u (b_2:a1d) (t_663:Nat):Nat → Int → (List Int) → Option (List Int)
  | 0,_,_ => none
  | k + 1,i_1101,ids_1102 =>
    (idx b_2.Tables (t_663:Int)).bind fun x_1115 =>
    if (decide (i_1101 < (x_1115.length:Int))) then
    (idx b_2.Tables (t_663:Int)).bind fun x_1119 =>
    (idx x_1119 i_1101).bind fun x_1121 =>
    (a6p ids_1102 x_1121.Id).bind fun r_1123 =>
    a4u b_2 t_663 k (w64 (i_1101 + 1)) r_1123
    else
    some ids_1102

def a3h (ids_1113:(List Int)) (b_2:a1d) (t_663:Nat) (x_1003:(List x9)):List Int → Nat → (List a0c) → Option (List a0c)
  | [],i_1195,out_1196 =>
    some out_1196
  | x_1240 :: xs,i_1195,out_1196 =>
    ((if i_1195 < ids_1113.length then
    if i_1195 < ids_1113.length then
    (idx b_2.Tables (t_663:Int)).bind fun x_1259 =>
    if i_1195 < ids_1113.length then
    (a8v x_1003 x_1240).bind fun r_1262 =>
    (a8v x_1259 x_1240).bind fun r_1264 =>
    some (r_1262.Id,r_1264.Id,r_1262.Cells,r_1264.Cells)
    else none
    else none
    else none:Option (Int × Int × (List (List y9)) × (List (List y9))))).bind fun p1256 =>
    (match p1256 with
    | (x_1252,x_1253,x_1254,x_1255) =>
    (a7b (⟨x_1252,x_1254⟩:x9) (⟨x_1253,x_1255⟩:x9)).bind fun r_1266 =>
    if (!r_1266) then
    if (out_1196 ++ [(⟨(t_663:Int),x_1240,(⟨x_1252,x_1254⟩:x9),(⟨x_1253,x_1255⟩:x9)⟩:a0c)]).length ≤ 2 ^ 30 then
    a3h ids_1113 b_2 t_663 x_1003 xs (i_1195 + 1) (out_1196 ++ [(⟨(t_663:Int),x_1240,(⟨x_1252,x_1254⟩:x9),(⟨x_1253,x_1255⟩:x9)⟩:a0c)])
    else none
    else
    a3h ids_1113 b_2 t_663 x_1003 xs (i_1195 + 1) out_1196)

def a4i (b_2:a1d):List (List x9) → Nat → (List a0c) → Option (List a0c)
  | [],t_663,out_664 =>
    some out_664
  | x_1003 :: xs,t_663,out_664 =>
    (a4h x_1003 []).bind fun ids_1029 =>
    (a4u b_2 t_663 FUEL 0 ids_1029).bind fun ids_1113 =>
    (a3h ids_1113 b_2 t_663 x_1003 ids_1113 0 out_664).bind fun out_1232 =>
    a4i b_2 xs (t_663 + 1) out_1232

def b0z (a_1:a1d) (b_2:a1d):Option (List a0c) :=
    (a4i b_2 a_1.Tables 0 []).bind fun out_995 =>
    some out_995
theorem c1h (a_1:a1d) (b_2:a1d) (r:(List a0c)) (hf:b0z a_1 b_2 = some r):a0d Try.prog 68 .fresh [(a1r a_1),(a1r b_2)] (.lst 6 (r.map o7)):=by
 refine a0d.of_awp mixed Try.func68 d9u nle ?_;rw [a0t];unfold b0z at hf;unfold c68;refine (show awp Try.prog true 0 _ (ofL [(0,(a1r a_1)),(1,(a1r b_2))]) [] _ from ?_);refine sr<|a0b (a2t (j:=0) (c:=(.agg [(.lst 1 (a_1.Tables.map (o8 2 l9))),(.int .i64 a_1.Next)])) rfl trivial rfl rfl)<|a0b (a2t (j:=1) (c:=(.agg [(.lst 1 (b_2.Tables.map (o8 2 l9))),(.int .i64 b_2.Next)])) rfl trivial rfl rfl)<|l7 .nil rfl<|dk<|sr<|?_;refine a0b (a3t (j:=2) (as':=[]) rfl (fun _ => by decide) trivial (.refl _) rfl rfl rfl) ?_;refine l7 (.own 2 0 0) rfl<|dk<|o6<|sr<|l7 (.int .i64 0) rfl<|?_
 refine dk<|?_
 obtain ⟨out_995,hb1,hf⟩:=ob hf
 refine a2e ([(5,(.own 0 0 out_995.length))],[.row 6 (out_995.map o7)]) ?_ ?_
 ·refine a0z (X:={q:(Nat × (List a0c)) // a4i b_2 (a_1.Tables.drop q.1) q.1 q.2 = some out_995}) (fun q => ([(2,(.ptr 0 0 0)),(3,(.ptr 1 0 0)),(5,(.own 2 0 q.1.2.length)),(6,(.int .i64 (q.1.1:Int)))],[.box 2 (.agg [(.lst 1 (a_1.Tables.map (o8 2 l9))),(.int .i64 a_1.Next)]),.box 2 (.agg [(.lst 1 (b_2.Tables.map (o8 2 l9))),(.int .i64 b_2.Next)]),.row 6 (q.1.2.map o7)])) (fun q => a_1.Tables.length - q.1.1) ⟨(0,[]),hb1⟩ ⟨[],[0,1,2],_,_,rfl,rfl,⟨.refl _,⟨.refl _,⟨.of_eq (congrArg (AV.own _ 0) (by simp)),⟨.refl _,trivial⟩⟩⟩⟩,(.refl _)⟩ ?_
  rintro ⟨⟨t_663,out_664⟩,hc1⟩
  have hc1:a4i b_2 (a_1.Tables.drop t_663) t_663 out_664 = some out_995:=hc1
  refine (show awp Try.prog true 0 _ (ofL [(2,(.ptr 0 0 0)),(3,(.ptr 1 0 0)),(5,(.own 2 0 out_664.length)),(6,(.int .i64 (t_663:Int)))]) [.box 2 (.agg [(.lst 1 (a_1.Tables.map (o8 2 l9))),(.int .i64 a_1.Next)]),.box 2 (.agg [(.lst 1 (b_2.Tables.map (o8 2 l9))),(.int .i64 b_2.Next)]),.row 6 (out_664.map o7)] _ from ?_)
  rcases a5c a_1.Tables t_663 with ⟨hie999,hd1002⟩ | ⟨hlt997,x_1003,hx998,hd1002⟩
  ·rw [hd1002,a4i.eq_1] at hc1
   have hq1001:=dlf hie999
   refine o6<|sr<|l7 (.int .i64 (t_663:Int)) rfl<|y8 (.ptr 0 0 0) rfl trivial rfl<|y8 (.lst 1 (a_1.Tables.map (o8 2 l9))) rfl nle rfl<|a0o (a1c (enc:=(o8 2 l9)) rfl) fun hl1004 => y8 (.bool (decide ((t_663:Int) < (a_1.Tables.length:Int)))) rfl rfl rfl<|dk<|y7 rfl hq1001<|a1y<|a1x<|a1i<|a1w<|?_;obtain rfl:=os hc1;exact ⟨[],[2],_,_,rfl,rfl,⟨.refl _,trivial⟩,(.refl _)⟩
  ·rw [hd1002,a4i.eq_2] at hc1
   have hq1001:=dlt hlt997
   refine o6<|sr<|l7 (.int .i64 (t_663:Int)) rfl<|y8 (.ptr 0 0 0) rfl trivial rfl<|y8 (.lst 1 (a_1.Tables.map (o8 2 l9))) rfl nle rfl<|a0o (a1c (enc:=(o8 2 l9)) rfl) fun hl1005 => y8 (.bool (decide ((t_663:Int) < (a_1.Tables.length:Int)))) rfl rfl rfl<|dk<|y5 rfl hq1001<|a0e<|a0g<|o6<|a3j<|sr<|?_;refine a0b (a3t (j:=3) (as':=[]) rfl (fun _ => by decide) trivial (.refl _) rfl rfl rfl) ?_;refine l7 (.own 3 0 0) rfl<|dk<|o6<|sr<|l7 (.int .i64 0) rfl<|dk<|?_
   obtain ⟨ids_1029,hb2,hc1⟩:=ob hc1
   refine a2e ([(2,(.ptr 0 0 0)),(3,(.ptr 1 0 0)),(5,(.own 2 0 out_664.length)),(6,(.int .i64 (t_663:Int))),(7,(.own 3 0 ids_1029.length))],[.box 2 (.agg [(.lst 1 (a_1.Tables.map (o8 2 l9))),(.int .i64 a_1.Next)]),.box 2 (.agg [(.lst 1 (b_2.Tables.map (o8 2 l9))),(.int .i64 b_2.Next)]),.row 6 (out_664.map o7),.row 1 (ids_1029.map encI)]) ?_ ?_
   ·refine a0z (X:={q:(Nat × (List Int)) // a4h (x_1003.drop q.1) q.2 = some ids_1029}) (fun q => ([(2,(.ptr 0 0 0)),(3,(.ptr 1 0 0)),(5,(.own 2 0 out_664.length)),(6,(.int .i64 (t_663:Int))),(7,(.own 3 0 q.1.2.length)),(8,(.int .i64 (q.1.1:Int)))],[.box 2 (.agg [(.lst 1 (a_1.Tables.map (o8 2 l9))),(.int .i64 a_1.Next)]),.box 2 (.agg [(.lst 1 (b_2.Tables.map (o8 2 l9))),(.int .i64 b_2.Next)]),.row 6 (out_664.map o7),.row 1 (q.1.2.map encI)])) (fun q => x_1003.length - q.1.1) ⟨(0,[]),hb2⟩ ⟨[],[0,1,2,3],_,_,rfl,rfl,⟨.refl _,⟨.refl _,⟨.refl _,⟨.refl _,⟨.of_eq (congrArg (AV.own _ 0) (by simp)),⟨.refl _,trivial⟩⟩⟩⟩⟩⟩,(.refl _)⟩ ?_
    rintro ⟨⟨i_1020,ids_1021⟩,hc2⟩
    have hc2:a4h (x_1003.drop i_1020) ids_1021 = some ids_1029:=hc2
    refine (show awp Try.prog true 0 _ (ofL [(2,(.ptr 0 0 0)),(3,(.ptr 1 0 0)),(5,(.own 2 0 out_664.length)),(6,(.int .i64 (t_663:Int))),(7,(.own 3 0 ids_1021.length)),(8,(.int .i64 (i_1020:Int)))]) [.box 2 (.agg [(.lst 1 (a_1.Tables.map (o8 2 l9))),(.int .i64 a_1.Next)]),.box 2 (.agg [(.lst 1 (b_2.Tables.map (o8 2 l9))),(.int .i64 b_2.Next)]),.row 6 (out_664.map o7),.row 1 (ids_1021.map encI)] _ from ?_)
    rcases a5c x_1003 i_1020 with ⟨hie1033,hd1036⟩ | ⟨hlt1031,x_1037,hx1032,hd1036⟩
    ·rw [hd1036,a4h.eq_1] at hc2
     have hq1035:=dlf hie1033
     refine o6<|sr<|l7 (.int .i64 (i_1020:Int)) rfl<|y8 (.ptr 0 0 0) rfl trivial rfl<|y8 (.lst 1 (a_1.Tables.map (o8 2 l9))) rfl nle rfl<|l7 (.int .i64 (t_663:Int)) rfl<|a0b (a1a (enc:=(o8 2 l9)) rfl rfl hx998)<|y8 (.lst 2 (x_1003.map l9)) rfl ⟨rfl,rfl⟩ rfl<|a0o (a1c (enc:=l9) rfl) fun hl1038 => y8 (.bool (decide ((i_1020:Int) < (x_1003.length:Int)))) rfl rfl rfl<|dk<|y7 rfl hq1035<|a1y<|a1x<|a1i<|a1w<|?_;obtain rfl:=os hc2;exact ⟨[],[0,1,2,3],_,_,rfl,rfl,⟨.refl _,⟨.refl _,⟨.refl _,⟨.refl _,⟨.refl _,trivial⟩⟩⟩⟩⟩,(.refl _)⟩
    ·rw [hd1036,a4h.eq_2] at hc2
     have hq1035:=dlt hlt1031
     refine o6<|sr<|l7 (.int .i64 (i_1020:Int)) rfl<|y8 (.ptr 0 0 0) rfl trivial rfl<|y8 (.lst 1 (a_1.Tables.map (o8 2 l9))) rfl nle rfl<|l7 (.int .i64 (t_663:Int)) rfl<|a0b (a1a (enc:=(o8 2 l9)) rfl rfl hx998)<|y8 (.lst 2 (x_1003.map l9)) rfl ⟨rfl,rfl⟩ rfl<|a0o (a1c (enc:=l9) rfl) fun hl1039 => y8 (.bool (decide ((i_1020:Int) < (x_1003.length:Int)))) rfl rfl rfl<|dk<|y5 rfl hq1035<|a0e<|a0g<|o6<|a3j<|a0y<|?_
     obtain ⟨r_1040,er1041,hc2⟩:=ob hc2
     refine l7 (.own 3 0 ids_1021.length) rfl<|y8 (.ptr 0 0 0) rfl trivial rfl<|y8 (.lst 1 (a_1.Tables.map (o8 2 l9))) rfl nle rfl<|l7 (.int .i64 (t_663:Int)) rfl<|a0b (a1a (enc:=(o8 2 l9)) rfl rfl hx998)<|y8 (.lst 2 (x_1003.map l9)) rfl ⟨rfl,rfl⟩ rfl<|l7 (.int .i64 (i_1020:Int)) rfl<|a0b (a1a (enc:=l9) rfl rfl hx1032)<|y8 (.iptr (l9 x_1037) 0) rfl trivial rfl<|y8 (.int .i64 x_1037.Id) rfl nle rfl<|?_;refine a0b (b9p (v:=(.own 4 0 r_1040.length)) (h2:=[.box 2 (.agg [(.lst 1 (a_1.Tables.map (o8 2 l9))),(.int .i64 a_1.Next)]),.box 2 (.agg [(.lst 1 (b_2.Tables.map (o8 2 l9))),(.int .i64 b_2.Next)]),.row 6 (out_664.map o7),.dead,.row 1 (r_1040.map encI)]) [] [3] (fun _ => rfl) (b2d _ _ _ er1041) rfl (.refl _) (.refl _) rfl rfl) ?_
     refine l7 (.own 4 0 r_1040.length) rfl<|a0m<|a2s<|a0g<|a0y<|l7 (.int .i64 (i_1020:Int)) rfl<|y8 (.int .i64 (w64 ((i_1020:Int) + 1))) rfl rfl rfl<|l7 (.int .i64 (w64 ((i_1020:Int) + 1))) rfl<|a0m<|?_;exact a1e ⟨((i_1020 + 1),r_1040),hc2⟩ (mul hlt1031) ⟨[],[0,1,2,4],_,_,rfl,rfl,⟨.refl _,⟨.refl _,⟨.refl _,⟨.refl _,⟨.refl _,⟨.of_eq (congrArg (AV.int _) (a1j hlt1031 hl1039)),trivial⟩⟩⟩⟩⟩⟩,(.refl _)⟩
   ·refine o6<|sr<|l7 (.int .i64 0) rfl<|dk<|?_
    obtain ⟨ids_1113,hb2,hc1⟩:=ob hc1
    refine a2e ([(2,(.ptr 0 0 0)),(3,(.ptr 1 0 0)),(5,(.own 2 0 out_664.length)),(6,(.int .i64 (t_663:Int))),(7,(.own 3 0 ids_1113.length))],[.box 2 (.agg [(.lst 1 (a_1.Tables.map (o8 2 l9))),(.int .i64 a_1.Next)]),.box 2 (.agg [(.lst 1 (b_2.Tables.map (o8 2 l9))),(.int .i64 b_2.Next)]),.row 6 (out_664.map o7),.row 1 (ids_1113.map encI)]) ?_ ?_
    ·refine a0z (X:={q:(Nat × Int × (List Int)) // a4u b_2 t_663 q.1 q.2.1 q.2.2 = some ids_1113}) (fun q => ([(2,(.ptr 0 0 0)),(3,(.ptr 1 0 0)),(5,(.own 2 0 out_664.length)),(6,(.int .i64 (t_663:Int))),(7,(.own 3 0 q.1.2.2.length)),(9,(.int .i64 q.1.2.1))],[.box 2 (.agg [(.lst 1 (a_1.Tables.map (o8 2 l9))),(.int .i64 a_1.Next)]),.box 2 (.agg [(.lst 1 (b_2.Tables.map (o8 2 l9))),(.int .i64 b_2.Next)]),.row 6 (out_664.map o7),.row 1 (q.1.2.2.map encI)])) (fun q => q.1.1) ⟨(FUEL,0,ids_1029),hb2⟩ ⟨[],[0,1,2,3],_,_,rfl,rfl,⟨.refl _,⟨.refl _,⟨.refl _,⟨.refl _,⟨.refl _,⟨.refl _,trivial⟩⟩⟩⟩⟩⟩,(.refl _)⟩ ?_
     rintro ⟨⟨k,i_1101,ids_1102⟩,hc2⟩
     have hc2:a4u b_2 t_663 k i_1101 ids_1102 = some ids_1113:=hc2
     refine (show awp Try.prog true 0 _ (ofL [(2,(.ptr 0 0 0)),(3,(.ptr 1 0 0)),(5,(.own 2 0 out_664.length)),(6,(.int .i64 (t_663:Int))),(7,(.own 3 0 ids_1102.length)),(9,(.int .i64 i_1101))]) [.box 2 (.agg [(.lst 1 (a_1.Tables.map (o8 2 l9))),(.int .i64 a_1.Next)]),.box 2 (.agg [(.lst 1 (b_2.Tables.map (o8 2 l9))),(.int .i64 b_2.Next)]),.row 6 (out_664.map o7),.row 1 (ids_1102.map encI)] _ from ?_)
     rcases k with _ | k
     ·rw [a4u.eq_1] at hc2
      cases hc2
     ·rw [a4u.eq_2] at hc2;refine o6<|sr<|?_
      obtain ⟨x_1115,ex1116,hc2⟩:=ob hc2
      refine l7 (.int .i64 i_1101) rfl<|y8 (.ptr 1 0 0) rfl trivial rfl<|y8 (.lst 1 (b_2.Tables.map (o8 2 l9))) rfl nle rfl<|l7 (.int .i64 (t_663:Int)) rfl<|a0b (a4w (enc:=(o8 2 l9)) rfl rfl (b0q ex1116) (b0r ex1116))<|y8 (.lst 2 (x_1115.map l9)) rfl ⟨rfl,rfl⟩ rfl<|a0o (a1c (enc:=l9) rfl) fun hl1117 => y8 (.bool (decide (i_1101 < (x_1115.length:Int)))) rfl rfl rfl<|dk<|?_
      rcases oi hc2 with ⟨c1118,hc2⟩ | ⟨c1118,hc2⟩
      ·refine y5 rfl c1118<|a0e<|a0g<|o6<|a3j<|a0y<|?_
       obtain ⟨x_1119,ex1120,hc2⟩:=ob hc2
       obtain ⟨x_1121,ex1122,hc2⟩:=ob hc2
       obtain ⟨r_1123,er1124,hc2⟩:=ob hc2
       refine l7 (.own 3 0 ids_1102.length) rfl<|y8 (.ptr 1 0 0) rfl trivial rfl<|y8 (.lst 1 (b_2.Tables.map (o8 2 l9))) rfl nle rfl<|l7 (.int .i64 (t_663:Int)) rfl<|a0b (a4w (enc:=(o8 2 l9)) rfl rfl (b0q ex1120) (b0r ex1120))<|y8 (.lst 2 (x_1119.map l9)) rfl ⟨rfl,rfl⟩ rfl<|l7 (.int .i64 i_1101) rfl<|a0b (a4w (enc:=l9) rfl rfl (b0q ex1122) (b0r ex1122))<|y8 (.iptr (l9 x_1121) 0) rfl trivial rfl<|y8 (.int .i64 x_1121.Id) rfl nle rfl<|?_;refine a0b (b9p (v:=(.own 4 0 r_1123.length)) (h2:=[.box 2 (.agg [(.lst 1 (a_1.Tables.map (o8 2 l9))),(.int .i64 a_1.Next)]),.box 2 (.agg [(.lst 1 (b_2.Tables.map (o8 2 l9))),(.int .i64 b_2.Next)]),.row 6 (out_664.map o7),.dead,.row 1 (r_1123.map encI)]) [] [3] (fun _ => rfl) (b2d _ _ _ er1124) rfl (.refl _) (.refl _) rfl rfl) ?_
       refine l7 (.own 4 0 r_1123.length) rfl<|a0m<|a2s<|a0g<|a0y<|l7 (.int .i64 i_1101) rfl<|y8 (.int .i64 (w64 (i_1101 + 1))) rfl rfl rfl<|l7 (.int .i64 (w64 (i_1101 + 1))) rfl<|a0m<|?_;exact a1e ⟨(k,w64 (i_1101 + 1),r_1123),hc2⟩ (Nat.lt_succ_self _) ⟨[],[0,1,2,4],_,_,rfl,rfl,⟨.refl _,⟨.refl _,⟨.refl _,⟨.refl _,⟨.refl _,⟨.refl _,trivial⟩⟩⟩⟩⟩⟩,(.refl _)⟩
      ·refine y7 rfl (bf c1118)<|a1y<|a1x<|a1i<|a1w<|?_;obtain rfl:=os hc2;exact ⟨[],[0,1,2,3],_,_,rfl,rfl,⟨.refl _,⟨.refl _,⟨.refl _,⟨.refl _,⟨.refl _,trivial⟩⟩⟩⟩⟩,(.refl _)⟩
    ·refine sr<|l7 (.int .i64 0) rfl<|dk<|?_
     obtain ⟨out_1232,hb2,hc1⟩:=ob hc1
     refine d2v ([(2,(.ptr 0 0 0)),(3,(.ptr 1 0 0)),(5,(.own 2 0 out_1232.length)),(6,(.int .i64 (t_663:Int)))],[.box 2 (.agg [(.lst 1 (a_1.Tables.map (o8 2 l9))),(.int .i64 a_1.Next)]),.box 2 (.agg [(.lst 1 (b_2.Tables.map (o8 2 l9))),(.int .i64 b_2.Next)]),.row 6 (out_1232.map o7)]) ?_ ?_
     ·refine a0z (X:={q:(Nat × (List a0c)) // a3h ids_1113 b_2 t_663 x_1003 (ids_1113.drop q.1) q.1 q.2 = some out_1232}) (fun q => ([(2,(.ptr 0 0 0)),(3,(.ptr 1 0 0)),(5,(.own 2 0 q.1.2.length)),(6,(.int .i64 (t_663:Int))),(7,(.own 3 0 ids_1113.length)),(10,(.int .i64 (q.1.1:Int)))],[.box 2 (.agg [(.lst 1 (a_1.Tables.map (o8 2 l9))),(.int .i64 a_1.Next)]),.box 2 (.agg [(.lst 1 (b_2.Tables.map (o8 2 l9))),(.int .i64 b_2.Next)]),.row 6 (q.1.2.map o7),.row 1 (ids_1113.map encI)])) (fun q => ids_1113.length - q.1.1) ⟨(0,out_664),hb2⟩ ⟨[],[0,1,2,3],_,_,rfl,rfl,⟨.refl _,⟨.refl _,⟨.refl _,⟨.refl _,⟨.refl _,⟨.refl _,trivial⟩⟩⟩⟩⟩⟩,(.refl _)⟩ ?_
      rintro ⟨⟨i_1195,out_1196⟩,hc2⟩
      have hc2:a3h ids_1113 b_2 t_663 x_1003 (ids_1113.drop i_1195) i_1195 out_1196 = some out_1232:=hc2
      refine (show awp Try.prog true 0 _ (ofL [(2,(.ptr 0 0 0)),(3,(.ptr 1 0 0)),(5,(.own 2 0 out_1196.length)),(6,(.int .i64 (t_663:Int))),(7,(.own 3 0 ids_1113.length)),(10,(.int .i64 (i_1195:Int)))]) [.box 2 (.agg [(.lst 1 (a_1.Tables.map (o8 2 l9))),(.int .i64 a_1.Next)]),.box 2 (.agg [(.lst 1 (b_2.Tables.map (o8 2 l9))),(.int .i64 b_2.Next)]),.row 6 (out_1196.map o7),.row 1 (ids_1113.map encI)] _ from ?_)
      rcases a5c ids_1113 i_1195 with ⟨hie1236,hd1239⟩ | ⟨hlt1234,x_1240,hx1235,hd1239⟩
      ·rw [hd1239,a3h.eq_1] at hc2
       have hq1238:=dlf hie1236
       refine o6<|sr<|l7 (.int .i64 (i_1195:Int)) rfl<|l7 (.own 3 0 ids_1113.length) rfl<|a0o (a5f rfl rfl) fun hl1241 => y8 (.bool (decide ((i_1195:Int) < (ids_1113.length:Int)))) rfl rfl rfl<|dk<|y7 rfl hq1238<|a1y<|a1x<|a1i<|a1w<|?_;refine a2s ?_;obtain rfl:=os hc2;exact ⟨[],[0,1,2],_,_,rfl,rfl,⟨.refl _,⟨.refl _,⟨.refl _,⟨.refl _,trivial⟩⟩⟩⟩,(.refl _)⟩
      ·rw [hd1239,a3h.eq_2] at hc2
       have hq1238:=dlt hlt1234
       refine o6<|sr<|l7 (.int .i64 (i_1195:Int)) rfl<|l7 (.own 3 0 ids_1113.length) rfl<|a0o (a5f rfl rfl) fun hl1242 => y8 (.bool (decide ((i_1195:Int) < (ids_1113.length:Int)))) rfl rfl rfl<|dk<|y5 rfl hq1238<|a0e<|a0g<|o6<|a3j<|o6<|?_
       obtain ⟨p1256,hb3,hc2⟩:=ob hc2
       refine a2e ([(2,(.ptr 0 0 0)),(3,(.ptr 1 0 0)),(5,(.own 2 0 out_1196.length)),(6,(.int .i64 (t_663:Int))),(7,(.own 3 0 ids_1113.length)),(10,(.int .i64 (i_1195:Int))),(11,(.ptr 4 0 0))],[.box 2 (.agg [(.lst 1 (a_1.Tables.map (o8 2 l9))),(.int .i64 a_1.Next)]),.box 2 (.agg [(.lst 1 (b_2.Tables.map (o8 2 l9))),(.int .i64 b_2.Next)]),.row 6 (out_1196.map o7),.row 1 (ids_1113.map encI),.box 6 (.agg [(.int .i64 (t_663:Int)),(.int .i64 x_1240),(.int .i64 p1256.1),(.own 5 0 p1256.2.2.1.length),(.int .i64 p1256.2.1),(.own 6 0 p1256.2.2.2.length)]),.row 1 (p1256.2.2.1.map (o8 3 o5)),.row 1 (p1256.2.2.2.map (o8 3 o5))]) ?_ ?_
       ·refine a0y ?_
        obtain ⟨g1257,hb3⟩:=og hb3
        obtain ⟨g1258,hb3⟩:=og hb3
        obtain ⟨x_1259,ex1260,hb3⟩:=ob hb3
        obtain ⟨g1261,hb3⟩:=og hb3
        obtain ⟨r_1262,er1263,hb3⟩:=ob hb3
        obtain ⟨r_1264,er1265,hb3⟩:=ob hb3
        refine l7 (.int .i64 (t_663:Int)) rfl<|l7 (.own 3 0 ids_1113.length) rfl<|l7 (.int .i64 (i_1195:Int)) rfl<|a0b (a5q rfl rfl g1257 rfl rfl)<|a0b (a6o (enc:=encI) (v:=(.int .i64 x_1240)) rfl rfl hx1235 ⟨rfl,rfl⟩ rfl)<|y8 (.ptr 0 0 0) rfl trivial rfl<|y8 (.lst 1 (a_1.Tables.map (o8 2 l9))) rfl nle rfl<|l7 (.int .i64 (t_663:Int)) rfl<|a0b (a1a (enc:=(o8 2 l9)) rfl rfl hx998)<|y8 (.lst 2 (x_1003.map l9)) rfl ⟨rfl,rfl⟩ rfl<|l7 (.own 3 0 ids_1113.length) rfl<|l7 (.int .i64 (i_1195:Int)) rfl<|a0b (a5q rfl rfl g1258 rfl rfl)<|a0b (a6o (enc:=encI) (v:=(.int .i64 x_1240)) rfl rfl hx1235 ⟨rfl,rfl⟩ rfl)<|?_
        refine y8 (.ptr 1 0 0) rfl trivial rfl<|y8 (.lst 1 (b_2.Tables.map (o8 2 l9))) rfl nle rfl<|l7 (.int .i64 (t_663:Int)) rfl<|a0b (a4w (enc:=(o8 2 l9)) rfl rfl (b0q ex1260) (b0r ex1260))<|y8 (.lst 2 (x_1259.map l9)) rfl ⟨rfl,rfl⟩ rfl<|l7 (.own 3 0 ids_1113.length) rfl<|l7 (.int .i64 (i_1195:Int)) rfl<|a0b (a5q rfl rfl g1261 rfl rfl)<|a0b (a6o (enc:=encI) (v:=(.int .i64 x_1240)) rfl rfl hx1235 ⟨rfl,rfl⟩ rfl)<|?_;refine a3i (a3f (v:=(.agg [(.int .i64 r_1262.Id),(.own 4 0 r_1262.Cells.length)])) (h':=[.row 1 (r_1262.Cells.map (o8 3 o5))]) (a8g _ _ _ er1263) rfl (.refl _) (by simp only [a1s,a1v,List.length_map,a6l,List.nil_append,List.append_nil,List.cons_append];rfl)) (.inr ⟨(a3x (enc:=encI) (v:=(.int .i64 x_1240)) rfl rfl hx1235 ⟨rfl,rfl⟩ rfl),⟨(a2h rfl rfl g1261 rfl rfl),⟨⟨⟨rfl,rfl⟩,rfl⟩,⟨(b2b (enc:=(o8 2 l9)) rfl rfl (b0q ex1260) (b0r ex1260)),⟨⟨nle,rfl⟩,⟨⟨trivial,rfl⟩,⟨(a3x (enc:=encI) (v:=(.int .i64 x_1240)) rfl rfl hx1235 ⟨rfl,rfl⟩ rfl),⟨(a2h rfl rfl g1257 rfl rfl),trivial⟩⟩⟩⟩⟩⟩⟩⟩) ?_ ?_
        ·refine a3i (a2t (j:=4) (c:=(.agg [(.int .i64 0),(.int .i64 0),(.int .i64 0),.nil,(.int .i64 0),.nil])) rfl trivial rfl rfl) (.inr ⟨(a3x (enc:=encI) (v:=(.int .i64 x_1240)) rfl rfl hx1235 ⟨rfl,rfl⟩ rfl),⟨(a2h rfl rfl g1261 rfl rfl),⟨⟨⟨rfl,rfl⟩,rfl⟩,⟨(b2b (enc:=(o8 2 l9)) rfl rfl (b0q ex1260) (b0r ex1260)),⟨⟨nle,rfl⟩,⟨⟨trivial,rfl⟩,⟨(a3x (enc:=encI) (v:=(.int .i64 x_1240)) rfl rfl hx1235 ⟨rfl,rfl⟩ rfl),⟨(a2h rfl rfl g1258 rfl rfl),⟨⟨⟨rfl,rfl⟩,rfl⟩,⟨(b4r (enc:=(o8 2 l9)) rfl rfl hx998),⟨⟨nle,rfl⟩,⟨⟨trivial,rfl⟩,⟨(a3x (enc:=encI) (v:=(.int .i64 x_1240)) rfl rfl hx1235 ⟨rfl,rfl⟩ rfl),⟨(a2h rfl rfl g1257 rfl rfl),trivial⟩⟩⟩⟩⟩⟩⟩⟩⟩⟩⟩⟩⟩⟩) trivial ?_
         refine a3i (a3f (v:=(.agg [(.int .i64 r_1262.Id),(.own 5 0 r_1262.Cells.length)])) (h':=[.row 1 (r_1262.Cells.map (o8 3 o5))]) (a8g _ _ _ er1263) rfl (.refl _) (by simp only [a1s,a1v,List.length_map,a6l,List.nil_append,List.append_nil,List.cons_append];rfl)) (.inr ⟨(a3x (enc:=encI) (v:=(.int .i64 x_1240)) rfl rfl hx1235 ⟨rfl,rfl⟩ rfl),⟨(a2h rfl rfl g1261 rfl rfl),⟨⟨⟨rfl,rfl⟩,rfl⟩,⟨(b2b (enc:=(o8 2 l9)) rfl rfl (b0q ex1260) (b0r ex1260)),⟨⟨nle,rfl⟩,⟨⟨trivial,rfl⟩,⟨(a3x (enc:=encI) (v:=(.int .i64 x_1240)) rfl rfl hx1235 ⟨rfl,rfl⟩ rfl),⟨(a2h rfl rfl g1257 rfl rfl),trivial⟩⟩⟩⟩⟩⟩⟩⟩) trivial ?_
         refine a3i (a3f (v:=(.agg [(.int .i64 r_1264.Id),(.own 6 0 r_1264.Cells.length)])) (h':=[.row 1 (r_1264.Cells.map (o8 3 o5))]) (a8g _ _ _ er1265) rfl (.refl _) (by simp only [a1s,a1v,List.length_map,a6l,List.nil_append,List.append_nil,List.cons_append];rfl)) (.inr ⟨(a3x (enc:=encI) (v:=(.int .i64 x_1240)) rfl rfl hx1235 ⟨rfl,rfl⟩ rfl),⟨(a2h rfl rfl g1257 rfl rfl),trivial⟩⟩) trivial<|y8 (.agg [(.int .i64 (t_663:Int)),(.int .i64 x_1240),(.int .i64 r_1262.Id),(.own 5 0 r_1262.Cells.length),(.int .i64 r_1264.Id),(.own 6 0 r_1264.Cells.length)]) rfl ⟨⟨rfl,nle,trivial⟩,⟨⟨rfl,nle,trivial⟩,⟨⟨rfl,nle,trivial⟩,⟨⟨rfl,nle,trivial⟩,trivial⟩⟩⟩⟩ rfl<|?_
         refine c4y (a1h (v:=(.agg [(.int .i64 (t_663:Int)),(.int .i64 x_1240),(.int .i64 r_1262.Id),(.own 5 0 r_1262.Cells.length),(.int .i64 r_1264.Id),(.own 6 0 r_1264.Cells.length)])) (y':=(.agg [(.int .i64 (t_663:Int)),(.int .i64 x_1240),(.int .i64 r_1262.Id),(.own 5 0 r_1262.Cells.length),(.int .i64 r_1264.Id),(.own 6 0 r_1264.Cells.length)])) rfl rfl rfl trivial ⟨rfl,nle⟩ ⟨⟨rfl,trivial⟩,⟨⟨rfl,trivial⟩,⟨⟨rfl,trivial⟩,⟨⟨rfl,trivial⟩,⟨⟨rfl,trivial⟩,⟨⟨rfl,trivial⟩,trivial⟩⟩⟩⟩⟩⟩ rfl) trivial trivial<|a0m<|?_;obtain rfl:=os hb3;exact ⟨[],[0,1,2,3,4,5,6],_,_,rfl,rfl,⟨.refl _,⟨.refl _,⟨.refl _,⟨.refl _,⟨.refl _,⟨.refl _,⟨.refl _,trivial⟩⟩⟩⟩⟩⟩⟩,(.refl _)⟩
        ·refine a3i (a3f (v:=(.agg [(.int .i64 r_1264.Id),(.own 5 0 r_1264.Cells.length)])) (h':=[.row 1 (r_1264.Cells.map (o8 3 o5))]) (a8g _ _ _ er1265) rfl (.refl _) (by simp only [a1s,a1v,List.length_map,a6l,List.nil_append,List.append_nil,List.cons_append];rfl)) (.inr ⟨(a3x (enc:=encI) (v:=(.int .i64 x_1240)) rfl rfl hx1235 ⟨rfl,rfl⟩ rfl),⟨(a2h rfl rfl g1257 rfl rfl),trivial⟩⟩) ?_ ?_
         ·refine a3i (a2t (j:=5) (c:=(.agg [(.int .i64 0),(.int .i64 0),(.int .i64 0),.nil,(.int .i64 0),.nil])) rfl trivial rfl rfl) (.inr ⟨(a3x (enc:=encI) (v:=(.int .i64 x_1240)) rfl rfl hx1235 ⟨rfl,rfl⟩ rfl),⟨(a2h rfl rfl g1261 rfl rfl),⟨⟨⟨rfl,rfl⟩,rfl⟩,⟨(b2b (enc:=(o8 2 l9)) rfl rfl (b0q ex1260) (b0r ex1260)),⟨⟨nle,rfl⟩,⟨⟨trivial,rfl⟩,⟨(a3x (enc:=encI) (v:=(.int .i64 x_1240)) rfl rfl hx1235 ⟨rfl,rfl⟩ rfl),⟨(a2h rfl rfl g1258 rfl rfl),⟨⟨⟨rfl,rfl⟩,rfl⟩,⟨(b4r (enc:=(o8 2 l9)) rfl rfl hx998),⟨⟨nle,rfl⟩,⟨⟨trivial,rfl⟩,⟨(a3x (enc:=encI) (v:=(.int .i64 x_1240)) rfl rfl hx1235 ⟨rfl,rfl⟩ rfl),⟨(a2h rfl rfl g1257 rfl rfl),trivial⟩⟩⟩⟩⟩⟩⟩⟩⟩⟩⟩⟩⟩⟩) trivial ?_
          refine a3i (a3f (v:=(.agg [(.int .i64 r_1264.Id),(.own 6 0 r_1264.Cells.length)])) (h':=[.row 1 (r_1264.Cells.map (o8 3 o5))]) (a8g _ _ _ er1265) rfl (.refl _) (by simp only [a1s,a1v,List.length_map,a6l,List.nil_append,List.append_nil,List.cons_append];rfl)) (.inr ⟨(a3x (enc:=encI) (v:=(.int .i64 x_1240)) rfl rfl hx1235 ⟨rfl,rfl⟩ rfl),⟨(a2h rfl rfl g1257 rfl rfl),trivial⟩⟩) trivial<|y8 (.agg [(.int .i64 (t_663:Int)),(.int .i64 x_1240),(.int .i64 r_1262.Id),(.own 4 0 r_1262.Cells.length),(.int .i64 r_1264.Id),(.own 6 0 r_1264.Cells.length)]) rfl ⟨⟨rfl,nle,trivial⟩,⟨⟨rfl,nle,trivial⟩,⟨⟨rfl,nle,trivial⟩,⟨⟨rfl,nle,trivial⟩,trivial⟩⟩⟩⟩ rfl<|?_
          refine c4y (a1h (v:=(.agg [(.int .i64 (t_663:Int)),(.int .i64 x_1240),(.int .i64 r_1262.Id),(.own 4 0 r_1262.Cells.length),(.int .i64 r_1264.Id),(.own 6 0 r_1264.Cells.length)])) (y':=(.agg [(.int .i64 (t_663:Int)),(.int .i64 x_1240),(.int .i64 r_1262.Id),(.own 4 0 r_1262.Cells.length),(.int .i64 r_1264.Id),(.own 6 0 r_1264.Cells.length)])) rfl rfl rfl trivial ⟨rfl,nle⟩ ⟨⟨rfl,trivial⟩,⟨⟨rfl,trivial⟩,⟨⟨rfl,trivial⟩,⟨⟨rfl,trivial⟩,⟨⟨rfl,trivial⟩,⟨⟨rfl,trivial⟩,trivial⟩⟩⟩⟩⟩⟩ rfl) trivial trivial<|a0m<|?_;obtain rfl:=os hb3;exact ⟨[],[0,1,2,3,5,4,6],_,_,rfl,rfl,⟨.refl _,⟨.refl _,⟨.refl _,⟨.refl _,⟨.refl _,⟨.refl _,⟨.refl _,trivial⟩⟩⟩⟩⟩⟩⟩,(.refl _)⟩
         ·refine y8 (.agg [(.int .i64 (t_663:Int)),(.int .i64 x_1240),(.int .i64 r_1262.Id),(.own 4 0 r_1262.Cells.length),(.int .i64 r_1264.Id),(.own 5 0 r_1264.Cells.length)]) rfl ⟨⟨rfl,nle,trivial⟩,⟨⟨rfl,nle,trivial⟩,⟨⟨rfl,nle,trivial⟩,⟨⟨rfl,nle,trivial⟩,trivial⟩⟩⟩⟩ rfl<|a3i (a2t (j:=6) (c:=(.agg [(.int .i64 0),(.int .i64 0),(.int .i64 0),.nil,(.int .i64 0),.nil])) rfl trivial rfl rfl) (.inr ⟨⟨⟨⟨rfl,nle,trivial⟩,⟨⟨rfl,nle,trivial⟩,⟨⟨rfl,nle,trivial⟩,⟨⟨rfl,nle,trivial⟩,trivial⟩⟩⟩⟩,rfl⟩,⟨(a3x (enc:=encI) (v:=(.int .i64 x_1240)) rfl rfl hx1235 ⟨rfl,rfl⟩ rfl),⟨(a2h rfl rfl g1261 rfl rfl),⟨⟨⟨rfl,rfl⟩,rfl⟩,⟨(b2b (enc:=(o8 2 l9)) rfl rfl (b0q ex1260) (b0r ex1260)),⟨⟨nle,rfl⟩,⟨⟨trivial,rfl⟩,⟨(a3x (enc:=encI) (v:=(.int .i64 x_1240)) rfl rfl hx1235 ⟨rfl,rfl⟩ rfl),⟨(a2h rfl rfl g1258 rfl rfl),⟨⟨⟨rfl,rfl⟩,rfl⟩,⟨(b4r (enc:=(o8 2 l9)) rfl rfl hx998),⟨⟨nle,rfl⟩,⟨⟨trivial,rfl⟩,⟨(a3x (enc:=encI) (v:=(.int .i64 x_1240)) rfl rfl hx1235 ⟨rfl,rfl⟩ rfl),⟨(a2h rfl rfl g1257 rfl rfl),trivial⟩⟩⟩⟩⟩⟩⟩⟩⟩⟩⟩⟩⟩⟩⟩) trivial<|?_
          refine c4y (a1h (v:=(.agg [(.int .i64 (t_663:Int)),(.int .i64 x_1240),(.int .i64 r_1262.Id),(.own 4 0 r_1262.Cells.length),(.int .i64 r_1264.Id),(.own 5 0 r_1264.Cells.length)])) (y':=(.agg [(.int .i64 (t_663:Int)),(.int .i64 x_1240),(.int .i64 r_1262.Id),(.own 4 0 r_1262.Cells.length),(.int .i64 r_1264.Id),(.own 5 0 r_1264.Cells.length)])) rfl rfl rfl trivial ⟨rfl,nle⟩ ⟨⟨rfl,trivial⟩,⟨⟨rfl,trivial⟩,⟨⟨rfl,trivial⟩,⟨⟨rfl,trivial⟩,⟨⟨rfl,trivial⟩,⟨⟨rfl,trivial⟩,trivial⟩⟩⟩⟩⟩⟩ rfl) trivial trivial<|a0m<|?_;obtain rfl:=os hb3;exact ⟨[],[0,1,2,3,6,4,5],_,_,rfl,rfl,⟨.refl _,⟨.refl _,⟨.refl _,⟨.refl _,⟨.refl _,⟨.refl _,⟨.refl _,trivial⟩⟩⟩⟩⟩⟩⟩,(.refl _)⟩
       ·obtain ⟨x_1252,x_1253,x_1254,x_1255⟩:=p1256
        refine sr<|?_
        obtain ⟨r_1266,er1267,hc2⟩:=ob hc2
        refine y8 (.ptr 4 0 2) rfl trivial rfl<|y8 (.agg [(.int .i64 x_1252),(.own 5 0 x_1254.length)]) rfl nle rfl<|y8 (.ptr 4 0 4) rfl trivial rfl<|y8 (.agg [(.int .i64 x_1253),(.own 6 0 x_1255.length)]) rfl nle rfl<|a0b (a1t (b6u _ _ _ er1267) rfl (.cons (.agg (.cons (.refl _) (.cons (.of_eq (congrArg (AV.lst _) (tko (enc:=(o8 3 o5)) x_1254))) .nil))) (.cons (.agg (.cons (.refl _) (.cons (.of_eq (congrArg (AV.lst _) (tko (enc:=(o8 3 o5)) x_1255))) .nil))) .nil)) rfl)<|y8 (.bool (!r_1266)) rfl trivial rfl<|dk<|?_
        rcases oi hc2 with ⟨c1268,hc2⟩ | ⟨c1268,hc2⟩
        ·refine y5 rfl c1268<|a0y<|?_
         obtain ⟨g1269,hc2⟩:=og hc2
         refine l7 (.own 2 0 out_1196.length) rfl<|y8 (.agg [(.int .i64 (t_663:Int)),(.int .i64 x_1240),(.int .i64 x_1252),(.own 5 0 x_1254.length),(.int .i64 x_1253),(.own 6 0 x_1255.length)]) rfl nle rfl<|?_;refine a0b (a3t (j:=7) (as':=[(o7 (⟨(t_663:Int),x_1240,(⟨x_1252,x_1254⟩:x9),(⟨x_1253,x_1255⟩:x9)⟩:a0c))]) rfl (fun _ => by decide) ⟨rfl,trivial⟩ (.cons (.agg (.cons (.refl _) (.cons (.refl _) (.cons (.refl _) (.cons (.of_eq (congrArg (AV.lst _) (tk (enc:=(o8 3 o5)) x_1254))) (.cons (.refl _) (.cons (.of_eq (congrArg (AV.lst _) (tk (enc:=(o8 3 o5)) x_1255))) .nil))))))) .nil) rfl rfl rfl) ?_
         refine a0b (a4m (j:=8) (L:=((out_1196 ++ [(⟨(t_663:Int),x_1240,(⟨x_1252,x_1254⟩:x9),(⟨x_1253,x_1255⟩:x9)⟩:a0c)]).map o7)) (len:=(out_1196 ++ [(⟨(t_663:Int),x_1240,(⟨x_1252,x_1254⟩:x9),(⟨x_1253,x_1255⟩:x9)⟩:a0c)]).length) rfl true rfl rfl (fun h => Bool.noConfusion h) (fun _ _ h => (b5x (show AV.own _ _ _ = AV.lst _ _ from h)).elim) (by decide) (c7d (enc:=o7) out_1196 [(⟨(t_663:Int),x_1240,(⟨x_1252,x_1254⟩:x9),(⟨x_1253,x_1255⟩:x9)⟩:a0c)] _ (by rfl)) (by simp <;> omega) g1269 rfl rfl) ?_
         refine l7 (.own 8 0 ((out_1196 ++ [(⟨(t_663:Int),x_1240,(⟨x_1252,x_1254⟩:x9),(⟨x_1253,x_1255⟩:x9)⟩:a0c)]).length)) rfl<|a0m<|a2s<|a0g<|a0y<|l7 (.int .i64 (i_1195:Int)) rfl<|y8 (.int .i64 (w64 ((i_1195:Int) + 1))) rfl rfl rfl<|l7 (.int .i64 (w64 ((i_1195:Int) + 1))) rfl<|a0m<|?_;exact a1e ⟨((i_1195 + 1),out_1196 ++ [(⟨(t_663:Int),x_1240,(⟨x_1252,x_1254⟩:x9),(⟨x_1253,x_1255⟩:x9)⟩:a0c)]),hc2⟩ (mul hlt1234) ⟨[],[0,1,8,3],_,_,rfl,rfl,⟨.refl _,⟨.refl _,⟨.refl _,⟨.refl _,⟨.refl _,⟨.of_eq (congrArg (AV.int _) (a1j hlt1234 hl1242)),trivial⟩⟩⟩⟩⟩⟩,(.refl _)⟩
        ·refine y7 rfl (bf c1268)<|a0e<|a2s<|a0g<|a0y<|l7 (.int .i64 (i_1195:Int)) rfl<|y8 (.int .i64 (w64 ((i_1195:Int) + 1))) rfl rfl rfl<|l7 (.int .i64 (w64 ((i_1195:Int) + 1))) rfl<|a0m<|?_;exact a1e ⟨((i_1195 + 1),out_1196),hc2⟩ (mul hlt1234) ⟨[],[0,1,2,3],_,_,rfl,rfl,⟨.refl _,⟨.refl _,⟨.refl _,⟨.refl _,⟨.refl _,⟨.of_eq (congrArg (AV.int _) (a1j hlt1234 hl1242)),trivial⟩⟩⟩⟩⟩⟩,(.refl _)⟩
     ·refine a0y<|l7 (.int .i64 (t_663:Int)) rfl<|y8 (.int .i64 (w64 ((t_663:Int) + 1))) rfl rfl rfl<|l7 (.int .i64 (w64 ((t_663:Int) + 1))) rfl<|a0m<|?_;exact a1e ⟨((t_663 + 1),out_1232),hc1⟩ (mul hlt997) ⟨[],[0,1,2],_,_,rfl,rfl,⟨.refl _,⟨.refl _,⟨.refl _,⟨.of_eq (congrArg (AV.int _) (a1j hlt997 hl1005)),trivial⟩⟩⟩⟩,(.refl _)⟩
 ·refine sr<|l7 (.own 0 0 out_995.length) rfl<|l7 (.own 0 0 out_995.length) rfl<|dk<|a0k<|?_;obtain rfl:=os hf;exact a4v ⟨trivial,trivial⟩ rfl (by decide) (.of_eq (congrArg (AV.lst _) (tk (enc:=o7) out_995)))

/- spec.DiffStores -/
def c31:a0r :=
 (.seq (.reg (tq 2 (.box 2 (.t 0)) (tq 3 (.box 2 (.t 1)) (tm 4 (.c .nil) (tm 5 (.c (.int .i64 0)) .done)))))
 (.seq (.seq (.reg (tq 6 (.load 2 true (.t 2)) (tq 7 (.call 36 [(.t 6)]) (tq 8 (.not (.t 7)) (tm 9 (.t 8) (tg 10 9 false (.load 2 true (.t 3)) (tg 11 9 false (.call 36 [(.t 10)]) (tg 12 9 false (.not (.t 11)) (tq 13 (.pick (.t 9) (.c (.bool true)) (.t 12)) (tm 14 (.t 13) (tg 15 14 false (.faddr 0 (.t 2)) (tg 16 14 false (.load 1 false (.t 15)) (tg 17 14 false (.len (.t 16)) (tg 18 14 false (.faddr 0 (.t 3)) (tg 19 14 false (.load 1 false (.t 18)) (tg 20 14 false (.len (.t 19)) (tg 21 14 false (.bin .neq (.t 17) (.t 20)) (tq 22 (.pick (.t 14) (.c (.bool true)) (.t 21)) .done))))))))))))))))))
 (.cut (.cond (.t 22) (.seq (.reg (tq 23 (.bslice 6 []) (tm 4 (.t 23) (tm 5 (.c (.int .i64 1)) .done))))
 .ret)
 .skip)))
 (.seq (.reg (tq 24 (.load 2 true (.t 2)) (tq 25 (.load 2 true (.t 3)) (tq 26 (.call 68 [(.t 24),(.t 25)]) (tm 4 (.t 26) (tm 5 (.c (.int .i64 0)) .done))))))
 .ret)))
theorem d9v:a1p Try.prog Try.f31 = some (c31.erase,[.mov (.t 4),.mov (.t 5)],27):=by kernel_rfl
def a7c (a_1:a1d) (b_2:a1d):Option ((List a0c) × Int) :=
    (((a7e a_1).bind fun r_12 =>
    if (!r_12) then
    some true
    else
    (a7e b_2).bind fun r_15 =>
    some (bif (!r_15) then true else ((a_1.Tables.length:Int) != (b_2.Tables.length:Int))):Option Bool)).bind fun s22_10 =>
    if s22_10 then
    some ([],1)
    else
    (b0z a_1 b_2).bind fun r_20 =>
    some (r_20,0)
theorem b6v (a_1:a1d) (b_2:a1d) (r:((List a0c) × Int)) (hf:a7c a_1 b_2 = some r):a0d Try.prog 31 .fresh [(a1r a_1),(a1r b_2)] (.tup [(.lst 6 (r.1.map o7)),(.int .i64 r.2)]):=by
 refine a0d.of_awp mixed Try.func31 d9v nle ?_;rw [a0t];unfold a7c at hf;unfold c31;refine (show awp Try.prog true 0 _ (ofL [(0,(a1r a_1)),(1,(a1r b_2))]) [] _ from ?_);refine sr<|a0b (a2t (j:=0) (c:=(.agg [(.lst 1 (a_1.Tables.map (o8 2 l9))),(.int .i64 a_1.Next)])) rfl trivial rfl rfl)<|a0b (a2t (j:=1) (c:=(.agg [(.lst 1 (b_2.Tables.map (o8 2 l9))),(.int .i64 b_2.Next)])) rfl trivial rfl rfl)<|l7 .nil rfl<|l7 (.int .i64 0) rfl<|dk<|o6<|o6<|?_
 obtain ⟨s22_10,hb1,hf⟩:=ob hf
 refine a2e ([(2,(.ptr 0 0 0)),(3,(.ptr 1 0 0)),(22,(.bool s22_10))],[.box 2 (.agg [(.lst 1 (a_1.Tables.map (o8 2 l9))),(.int .i64 a_1.Next)]),.box 2 (.agg [(.lst 1 (b_2.Tables.map (o8 2 l9))),(.int .i64 b_2.Next)])]) ?_ ?_
 ·refine a0y<|y8 (.agg [(.lst 1 (a_1.Tables.map (o8 2 l9))),(.int .i64 a_1.Next)]) rfl nle rfl<|?_
  obtain ⟨r_12,er13,hb1⟩:=ob hb1
  refine a0b (a1t (b2y _ _ er13) rfl (.refl _) rfl)<|y8 (.bool (!r_12)) rfl trivial rfl<|l7 (.bool (!r_12)) rfl<|?_
  rcases oi hb1 with ⟨c14,hb1⟩ | ⟨c14,hb1⟩
  ·refine a8u (s:=9) (b:=true) rfl c14<|a1m rfl rfl<|a1m rfl rfl<|a1m rfl rfl<|y8 (.bool true) rfl trivial rfl<|l7 (.bool true) rfl<|a1m rfl rfl<|a1m rfl rfl<|a1m rfl rfl<|a1m rfl rfl<|a1m rfl rfl<|a1m rfl rfl<|a1m rfl rfl<|y8 (.bool true) rfl trivial rfl<|a0m<|?_;obtain rfl:=os hb1;exact ⟨[],[0,1],_,_,rfl,rfl,⟨.refl _,⟨.refl _,⟨.refl _,trivial⟩⟩⟩,(.refl _)⟩
  ·refine a8u (s:=9) (b:=false) rfl (bf c14)<|s_on rfl<|y8 (.agg [(.lst 1 (b_2.Tables.map (o8 2 l9))),(.int .i64 b_2.Next)]) rfl nle rfl<|s_on rfl<|?_
   obtain ⟨r_15,er16,hb1⟩:=ob hb1
   refine a0b (a1t (b2y _ _ er16) rfl (.refl _) rfl)<|s_on rfl<|y8 (.bool (!r_15)) rfl trivial rfl<|y8 (.bool (!r_15)) rfl trivial rfl<|l7 (.bool (!r_15)) rfl<|?_;refine s_g (v:=(!r_15)) (.ptr 0 0 0) rfl (fun hv => by (try simp only [a7f hv]);exact ⟨rfl,trivial,rfl⟩) ?_;refine s_g (v:=(!r_15)) (.lst 1 (a_1.Tables.map (o8 2 l9))) rfl (fun hv => by (try simp only [a7f hv]);exact ⟨rfl,nle,rfl⟩) ?_;refine s_g (v:=(!r_15)) (.int .i64 (a_1.Tables.length:Int)) rfl (fun hv => by (try simp only [a7f hv]);exact ⟨rfl,trivial,lenV _ _⟩) ?_;refine s_g (v:=(!r_15)) (.ptr 1 0 0) rfl (fun hv => by (try simp only [a7f hv]);exact ⟨rfl,trivial,rfl⟩) ?_;refine s_g (v:=(!r_15)) (.lst 1 (b_2.Tables.map (o8 2 l9))) rfl (fun hv => by (try simp only [a7f hv]);exact ⟨rfl,nle,rfl⟩) ?_
   refine s_g (v:=(!r_15)) (.int .i64 (b_2.Tables.length:Int)) rfl (fun hv => by (try simp only [a7f hv]);exact ⟨rfl,trivial,lenV _ _⟩) ?_;refine s_g (v:=(!r_15)) (.bool ((a_1.Tables.length:Int) != (b_2.Tables.length:Int))) rfl (fun hv => by (try simp only [a7f hv]);exact ⟨rfl,rfl,rfl⟩) ?_;refine c8t (x:=true) (y:=((a_1.Tables.length:Int) != (b_2.Tables.length:Int))) rfl (fun hv => by (try simp only [a7f hv]);rfl) (fun hv => by (try simp only [a7f hv]);rfl) ?_;refine a0m ?_;obtain rfl:=os hb1;exact ⟨[],[0,1],_,_,rfl,rfl,⟨.refl _,⟨.refl _,⟨.refl _,trivial⟩⟩⟩,(.refl _)⟩
 ·rcases oi hf with ⟨c19,hf⟩ | ⟨c19,hf⟩
  ·refine y5 rfl c19<|sr<|?_;refine a0b (a3t (j:=2) (as':=[]) rfl (fun _ => by decide) trivial (.refl _) rfl rfl rfl) ?_;refine l7 (.own 2 0 0) rfl<|l7 (.int .i64 1) rfl<|dk<|a0k<|?_;obtain rfl:=os hf;exact a4v ⟨trivial,⟨trivial,trivial⟩⟩ rfl (by decide) (.refl _)
  ·refine y7 rfl (bf c19)<|a0e<|a0g<|sr<|?_
   obtain ⟨r_20,er21,hf⟩:=ob hf
   refine y8 (.agg [(.lst 1 (a_1.Tables.map (o8 2 l9))),(.int .i64 a_1.Next)]) rfl nle rfl<|y8 (.agg [(.lst 1 (b_2.Tables.map (o8 2 l9))),(.int .i64 b_2.Next)]) rfl nle rfl<|a0b (a3f (v:=(.own 2 0 r_20.length)) (h':=[.row 6 (r_20.map o7)]) (c1h _ _ _ er21) rfl (.refl _) (by simp only [a1s,a1v,List.length_map,List.nil_append,List.append_nil,List.cons_append];rfl))<|l7 (.own 2 0 r_20.length) rfl<|l7 (.int .i64 0) rfl<|dk<|a0k<|?_;obtain rfl:=os hf;exact a4v ⟨trivial,⟨trivial,trivial⟩⟩ rfl (by decide) (.tup (.cons (.of_eq (congrArg (AV.lst _) (tk (enc:=o7) r_20))) (.cons (.refl _) .nil)))

/- slices.IndexFunc[[][]impl.Row,[]impl.Row] -/
def c91:a0r :=
 (.seq (.reg (tm 4 (.c (.int .i64 0)) .done))
 (.seq (.seq (.reg (tm 6 (.t 0) (tq 7 (.len (.t 6)) (tm 8 (.c (.int .i64 0)) .done))))
 (.block 0 (.loop (.seq (.reg (tq 9 (.bin .lss (.t 8) (.t 7)) .done))
 (.seq (.cond (.t 9) .skip
 (.exit 0))
 (.seq (.block 1 (.seq (.reg (tm 10 (.t 8) (tm 5 (.t 10) .done)))
 (.seq (.reg (tm 11 (.t 1) (tm 12 (.t 0) (tm 13 (.t 5) (tq 14 (.iaddr 1 (.t 12) (.t 13)) (tq 15 (.load 1 false (.t 14)) (tq 16 (.calv (.t 11) [(.t 15)]) .done)))))))
 (.cond (.t 16) (.seq (.reg (tm 17 (.t 5) (tm 4 (.t 17) .done)))
 .ret)
 .skip))))
 (.reg (tq 18 (.bin .add (.t 8) (.c (.int .i64 1))) (tm 8 (.t 18) .done)))))))))
 (.cut (.seq (.reg (tq 4 (.mov (.c (.int .i64 (-1)))) .done))
 .ret))))
theorem d9w:a1p Try.prog Try.f91 = some (c91.erase,[.mov (.t 4)],19):=by kernel_rfl
def a0n (f_2:((List x9) → Option Bool)):List (List x9) → Nat → Option (Fl Int Unit)
  | [],s8_17 =>
    some (.go ())
  | x_31 :: xs,s8_17 =>
    (f_2 x_31).bind fun r_32 =>
    if r_32 then
    some (.ret (s8_17:Int))
    else
    a0n f_2 xs (s8_17 + 1)

def a2m (s_1:(List (List x9))) (f_2:((List x9) → Option Bool)):Option Int :=
    (a0n f_2 s_1 0).bind fun q => (match q with
    | .ret r => some r
    | .go _ =>
    some (-1))
theorem a7v (s_1:(List (List x9))) (f_2:((List x9) → Option Bool)) (r:Int) (hf:a2m s_1 f_2 = some r) (kf_f_2:Nat) (cf_f_2:List AV) (okf_f_2:c8k Try.prog kf_f_2 = true) (hcf_f_2:∀ h p,a3k h p cf_f_2 = some cf_f_2) (hrf_f_2:∀ f,a6u f cf_f_2 = cf_f_2) (hpf_f_2:∀ a0 r,f_2 a0 = some r → a0d Try.prog kf_f_2 .flat ([(.lst 2 (a0.map l9))] ++ cf_f_2) (.bool r)):a0d Try.prog 91 .flat [(.lst 1 (s_1.map (o8 2 l9))),(.fn kf_f_2 cf_f_2)] (.int .i64 r):=by
 refine a0d.of_awp mixed Try.func91 d9w nle ?_;rw [a0t];unfold a2m at hf;unfold c91;refine (show awp Try.prog false 0 _ (ofL [(0,(.lst 1 (s_1.map (o8 2 l9)))),(1,(.fn kf_f_2 cf_f_2))]) [] _ from ?_);refine sr<|l7 (.int .i64 0) rfl<|dk<|o6<|sr<|l7 (.lst 1 (s_1.map (o8 2 l9))) rfl<|a0o (a1c (enc:=(o8 2 l9)) rfl) fun hl3 => l7 (.int .i64 0) rfl<|dk<|?_
 obtain ⟨p24,hb1,hf⟩:=ob hf
 refine a4a (X:={q:Unit // p24 = .go q}) (fun q => ([],[])) ?_ ?_
 ·refine a0z (X:={q:Nat // a0n f_2 (s_1.drop q) q = some p24}) (fun q => ([(0,(.lst 1 (s_1.map (o8 2 l9)))),(1,(.fn kf_f_2 cf_f_2)),(7,(.int .i64 (s_1.length:Int))),(8,(.int .i64 (q.1:Int)))],[])) (fun q => s_1.length - q.1) ⟨0,hb1⟩ ⟨[],[],_,_,rfl,rfl,⟨.refl _,⟨.of_eq (congrArg (AV.fn _) (hrf_f_2 _)),⟨.refl _,⟨.refl _,trivial⟩⟩⟩⟩,(.refl _)⟩ ?_
  rintro ⟨s8_17,hc1⟩
  have hc1:a0n f_2 (s_1.drop s8_17) s8_17 = some p24:=hc1
  refine (show awp Try.prog false 0 _ (ofL [(0,(.lst 1 (s_1.map (o8 2 l9)))),(1,(.fn kf_f_2 cf_f_2)),(7,(.int .i64 (s_1.length:Int))),(8,(.int .i64 (s8_17:Int)))]) [] _ from ?_)
  rcases a5c s_1 s8_17 with ⟨hie27,hd30⟩ | ⟨hlt25,x_31,hx26,hd30⟩
  ·rw [hd30,a0n.eq_1] at hc1
   have hq29:=dlf hie27
   refine sr<|y8 (.bool (decide ((s8_17:Int) < (s_1.length:Int)))) rfl rfl rfl<|dk<|o6<|y7 rfl hq29<|a1y<|a1x<|a1i<|a1w<|?_;obtain rfl:=os hc1;exact a5z ⟨_,rfl⟩ ⟨[],[],_,_,rfl,rfl,trivial,(.refl _)⟩
  ·rw [hd30,a0n.eq_2] at hc1
   have hq29:=dlt hlt25
   refine sr<|y8 (.bool (decide ((s8_17:Int) < (s_1.length:Int)))) rfl rfl rfl<|dk<|o6<|y5 rfl hq29<|a0e<|a0g<|o6<|a3j<|sr<|l7 (.int .i64 (s8_17:Int)) rfl<|l7 (.int .i64 (s8_17:Int)) rfl<|dk<|sr<|?_
   obtain ⟨r_32,er33,hc1⟩:=ob hc1
   refine l7 (.fn kf_f_2 cf_f_2) rfl<|l7 (.lst 1 (s_1.map (o8 2 l9))) rfl<|l7 (.int .i64 (s8_17:Int)) rfl<|a0b (a1a (enc:=(o8 2 l9)) rfl rfl hx26)<|y8 (.lst 2 (x_31.map l9)) rfl ⟨rfl,rfl⟩ rfl<|a0b (b9q (v:=(.bool r_32)) rfl okf_f_2 hcf_f_2 (hpf_f_2 _ _ er33) rfl (.refl _) rfl)<|dk<|?_
   rcases oi hc1 with ⟨c34,hc1⟩ | ⟨c34,hc1⟩
   ·refine y5 rfl c34<|sr<|l7 (.int .i64 (s8_17:Int)) rfl<|l7 (.int .i64 (s8_17:Int)) rfl<|dk<|a0k<|?_;obtain rfl:=os hc1;obtain rfl:=os hf;exact a0l ⟨trivial,trivial⟩ rfl (.refl _)
   ·refine y7 rfl (bf c34)<|a0e<|a2s<|a0g<|a0y<|y8 (.int .i64 (w64 ((s8_17:Int) + 1))) rfl rfl rfl<|l7 (.int .i64 (w64 ((s8_17:Int) + 1))) rfl<|a0m<|?_;exact a1e ⟨(s8_17 + 1),hc1⟩ (mul hlt25) ⟨[],[],_,_,rfl,rfl,⟨.refl _,⟨.of_eq (congrArg (AV.fn _) (hrf_f_2 _)),⟨.refl _,⟨.of_eq (congrArg (AV.int _) (a1j hlt25 hl3)),trivial⟩⟩⟩⟩,(.refl _)⟩
 ·rintro ⟨_,rfl⟩
  refine sr<|l7 (.int .i64 (-1)) rfl<|dk<|a0k<|?_;obtain rfl:=os hf;exact a0l ⟨trivial,trivial⟩ rfl (.refl _)

/- slices.ContainsFunc[[][]impl.Row,[]impl.Row] -/
def c70:a0r :=
 (.seq (.reg (tm 4 (.c (.bool false)) .done))
 (.seq (.reg (tm 5 (.t 0) (tm 6 (.t 1) (tq 7 (.call 91 [(.t 5),(.t 6)]) (tq 8 (.bin .geq (.t 7) (.c (.int .i64 0))) (tm 4 (.t 8) .done))))))
 .ret))
theorem d9x:a1p Try.prog Try.f70 = some (c70.erase,[.mov (.t 4)],9):=by kernel_rfl
def a1g (s_1:(List (List x9))) (f_2:((List x9) → Option Bool)):Option Bool :=
    (a2m s_1 f_2).bind fun r_3 =>
    some (decide (r_3 ≥ 0))
theorem a2v (s_1:(List (List x9))) (f_2:((List x9) → Option Bool)) (r:Bool) (hf:a1g s_1 f_2 = some r) (kf_f_2:Nat) (cf_f_2:List AV) (okf_f_2:c8k Try.prog kf_f_2 = true) (hcf_f_2:∀ h p,a3k h p cf_f_2 = some cf_f_2) (hrf_f_2:∀ f,a6u f cf_f_2 = cf_f_2) (hpf_f_2:∀ a0 r,f_2 a0 = some r → a0d Try.prog kf_f_2 .flat ([(.lst 2 (a0.map l9))] ++ cf_f_2) (.bool r)):a0d Try.prog 70 .flat [(.lst 1 (s_1.map (o8 2 l9))),(.fn kf_f_2 cf_f_2)] (.bool r):=by
 refine a0d.of_awp mixed Try.func70 d9x nle ?_;rw [a0t];unfold a1g at hf;unfold c70;refine (show awp Try.prog false 0 _ (ofL [(0,(.lst 1 (s_1.map (o8 2 l9)))),(1,(.fn kf_f_2 cf_f_2))]) [] _ from ?_);refine sr<|l7 (.bool false) rfl<|dk<|sr<|?_
 obtain ⟨r_3,er4,hf⟩:=ob hf
 refine l7 (.lst 1 (s_1.map (o8 2 l9))) rfl<|l7 (.fn kf_f_2 cf_f_2) rfl<|a0b (a1t (a7v _ _ _ er4 kf_f_2 cf_f_2 okf_f_2 hcf_f_2 hrf_f_2 hpf_f_2) (c7b rfl (c7b (d7a hcf_f_2) rfl)) (.refl _) rfl)<|y8 (.bool (decide (r_3 ≥ 0))) rfl rfl rfl<|l7 (.bool (decide (r_3 ≥ 0))) rfl<|dk<|a0k<|?_;obtain rfl:=os hf;exact a0l ⟨trivial,trivial⟩ rfl (.refl _)

/- impl.areRising -/
def c48:a0r :=
 (.seq (.reg (tm 2 (.c (.bool false)) .done))
 (.seq (.seq (.reg (tm 3 (.c (.int .i64 1)) .done))
 (.block 0 (.loop (.seq (.seq (.reg (tm 4 (.t 3) (tm 5 (.t 0) (tq 6 (.len (.t 5)) (tq 7 (.bin .lss (.t 4) (.t 6)) .done)))))
 (.cond (.t 7) .skip
 (.exit 0)))
 (.seq (.block 1 (.seq (.reg (tm 10 (.t 0) (tm 11 (.t 3) (tq 12 (.bin .sub (.t 11) (.c (.int .i64 1))) (tq 13 (.iaddr 2 (.t 10) (.t 12)) (tq 14 (.faddr 0 (.t 13)) (tq 15 (.load 1 false (.t 14)) (tm 16 (.t 0) (tm 17 (.t 3) (tq 18 (.iaddr 2 (.t 16) (.t 17)) (tq 19 (.faddr 0 (.t 18)) (tq 20 (.load 1 false (.t 19)) (tq 21 (.bin .geq (.t 15) (.t 20)) .done)))))))))))))
 (.cond (.t 21) (.seq (.reg (tm 2 (.c (.bool false)) .done))
 .ret)
 .skip)))
 (.reg (tm 8 (.t 3) (tq 9 (.bin .add (.t 8) (.c (.int .i64 1))) (tm 3 (.t 9) .done)))))))))
 (.cut (.seq (.reg (tm 2 (.c (.bool true)) .done))
 .ret))))
theorem d9y:a1p Try.prog Try.f48 = some (c48.erase,[.mov (.t 2)],22):=by kernel_rfl
def a2x (rows_1:(List x9)):List x9 → Nat → Option (Fl Bool Unit)
  | [],i_17 =>
    some (.go ())
  | x_33 :: xs,i_17 =>
    (idx rows_1 (w64 ((i_17:Int) - 1))).bind fun x_36 =>
    if (decide (x_36.Id ≥ x_33.Id)) then
    some (.ret false)
    else
    a2x rows_1 xs (i_17 + 1)

def a7n (rows_1:(List x9)):Option Bool :=
    (a2x rows_1 (rows_1.drop 1) 1).bind fun q => (match q with
    | .ret r => some r
    | .go _ =>
    some true)
theorem b7x (rows_1:(List x9)) (r:Bool) (hf:a7n rows_1 = some r):a0d Try.prog 48 .flat [(.lst 2 (rows_1.map l9))] (.bool r):=by
 refine a0d.of_awp mixed Try.func48 d9y nle ?_;rw [a0t];unfold a7n at hf;unfold c48;refine (show awp Try.prog false 0 _ (ofL [(0,(.lst 2 (rows_1.map l9)))]) [] _ from ?_);refine sr<|l7 (.bool false) rfl<|dk<|o6<|sr<|l7 (.int .i64 1) rfl<|dk<|?_
 obtain ⟨p26,hb1,hf⟩:=ob hf
 refine a4a (X:={q:Unit // p26 = .go q}) (fun q => ([],[])) ?_ ?_
 ·refine a0z (X:={q:Nat // a2x rows_1 (rows_1.drop q) q = some p26}) (fun q => ([(0,(.lst 2 (rows_1.map l9))),(3,(.int .i64 (q.1:Int)))],[])) (fun q => rows_1.length - q.1) ⟨1,hb1⟩ ⟨[],[],_,_,rfl,rfl,⟨.refl _,⟨.refl _,trivial⟩⟩,(.refl _)⟩ ?_
  rintro ⟨i_17,hc1⟩
  have hc1:a2x rows_1 (rows_1.drop i_17) i_17 = some p26:=hc1
  refine (show awp Try.prog false 0 _ (ofL [(0,(.lst 2 (rows_1.map l9))),(3,(.int .i64 (i_17:Int)))]) [] _ from ?_)
  rcases a5c rows_1 i_17 with ⟨hie29,hd32⟩ | ⟨hlt27,x_33,hx28,hd32⟩
  ·rw [hd32,a2x.eq_1] at hc1
   have hq31:=dlf hie29
   refine o6<|sr<|l7 (.int .i64 (i_17:Int)) rfl<|l7 (.lst 2 (rows_1.map l9)) rfl<|a0o (a1c (enc:=l9) rfl) fun hl34 => y8 (.bool (decide ((i_17:Int) < (rows_1.length:Int)))) rfl rfl rfl<|dk<|y7 rfl hq31<|a1y<|a1x<|a1i<|a1w<|?_;obtain rfl:=os hc1;exact a5z ⟨_,rfl⟩ ⟨[],[],_,_,rfl,rfl,trivial,(.refl _)⟩
  ·rw [hd32,a2x.eq_2] at hc1
   have hq31:=dlt hlt27
   refine o6<|sr<|l7 (.int .i64 (i_17:Int)) rfl<|l7 (.lst 2 (rows_1.map l9)) rfl<|a0o (a1c (enc:=l9) rfl) fun hl35 => y8 (.bool (decide ((i_17:Int) < (rows_1.length:Int)))) rfl rfl rfl<|dk<|y5 rfl hq31<|a0e<|a0g<|o6<|a3j<|sr<|?_
   obtain ⟨x_36,ex37,hc1⟩:=ob hc1
   refine l7 (.lst 2 (rows_1.map l9)) rfl<|l7 (.int .i64 (i_17:Int)) rfl<|y8 (.int .i64 (w64 ((i_17:Int) - 1))) rfl rfl rfl<|a0b (a4w (enc:=l9) rfl rfl (b0q ex37) (b0r ex37))<|y8 (.iptr (l9 x_36) 0) rfl trivial rfl<|y8 (.int .i64 x_36.Id) rfl nle rfl<|l7 (.lst 2 (rows_1.map l9)) rfl<|l7 (.int .i64 (i_17:Int)) rfl<|a0b (a1a (enc:=l9) rfl rfl hx28)<|y8 (.iptr (l9 x_33) 0) rfl trivial rfl<|y8 (.int .i64 x_33.Id) rfl nle rfl<|y8 (.bool (decide (x_36.Id ≥ x_33.Id))) rfl rfl rfl<|dk<|?_
   rcases oi hc1 with ⟨c38,hc1⟩ | ⟨c38,hc1⟩
   ·refine y5 rfl c38<|sr<|l7 (.bool false) rfl<|dk<|a0k<|?_;obtain rfl:=os hc1;obtain rfl:=os hf;exact a0l ⟨trivial,trivial⟩ rfl (.refl _)
   ·refine y7 rfl (bf c38)<|a0e<|a2s<|a0g<|a0y<|l7 (.int .i64 (i_17:Int)) rfl<|y8 (.int .i64 (w64 ((i_17:Int) + 1))) rfl rfl rfl<|l7 (.int .i64 (w64 ((i_17:Int) + 1))) rfl<|a0m<|?_;exact a1e ⟨(i_17 + 1),hc1⟩ (mul hlt27) ⟨[],[],_,_,rfl,rfl,⟨.refl _,⟨.of_eq (congrArg (AV.int _) (a1j hlt27 hl35)),trivial⟩⟩,(.refl _)⟩
 ·rintro ⟨_,rfl⟩
  refine sr<|l7 (.bool true) rfl<|dk<|a0k<|?_;obtain rfl:=os hf;exact a0l ⟨trivial,trivial⟩ rfl (.refl _)

/- impl.DiffStores$1 -/
def c69:a0r :=
 (.seq (.reg (tm 2 (.c (.bool false)) .done))
 (.seq (.reg (tm 3 (.t 0) (tq 4 (.call 48 [(.t 3)]) (tq 5 (.not (.t 4)) (tm 2 (.t 5) .done)))))
 .ret))
theorem d9z:a1p Try.prog Try.f69 = some (c69.erase,[.mov (.t 2)],6):=by kernel_rfl
def a2y (rows_1:(List x9)):Option Bool :=
    (a7n rows_1).bind fun r_2 =>
    some (!r_2)
theorem a8c (rows_1:(List x9)) (r:Bool) (hf:a2y rows_1 = some r):a0d Try.prog 69 .flat [(.lst 2 (rows_1.map l9))] (.bool r):=by
  refine a0d.of_awp mixed Try.func69 d9z nle ?_
  rw [a0t]
  unfold a2y at hf
  unfold c69
  refine (show awp Try.prog false 0 _ (ofL [(0,(.lst 2 (rows_1.map l9)))]) [] _ from ?_)
  refine o6 ?_
  refine a0y ?_
  refine a0b (b0c (.bool false) rfl) ?_
  refine a0m ?_
  refine a0g ?_
  refine o6 ?_
  refine a0y ?_
  obtain ⟨r_2,er3,hf⟩:=ob hf
  refine a0b (b0c (.lst 2 (rows_1.map l9)) rfl) ?_
  refine a0b (a1t (b7x _ _ er3) rfl (.refl _) rfl) ?_
  refine a0b (o_q (.bool (!r_2)) rfl trivial rfl) ?_
  refine a0b (b0c (.bool (!r_2)) rfl) ?_
  refine a0m ?_
  refine a0g ?_
  refine a0k ?_
  obtain rfl:=os hf
  exact a0l ⟨trivial,trivial⟩ rfl (.refl _)

/- slices.Grow[[]impl.Row,impl.Row] -/
def c9v:a0r :=
 (.seq (.reg (tm 4 (.c .nil) .done))
 (.seq (.seq (.reg (tm 5 (.t 1) (tq 6 (.bin .lss (.t 5) (.c (.int .i64 0))) .done)))
 (.cond (.t 6) (.reg (tq 7 (.never) (.q ⟨none,none,.never⟩
 .done)))
 .skip))
 (.cut (.seq (.seq (.reg (tm 8 (.t 1) (tm 9 (.t 0) (tq 10 (.cap (.t 9)) (tm 11 (.t 0) (tq 12 (.len (.t 11)) (tq 13 (.bin .sub (.t 10) (.t 12)) (tq 14 (.bin .sub (.t 8) (.t 13)) (tm 1 (.t 14) .done)))))))))
 (.seq (.reg (tm 15 (.t 1) (tq 16 (.bin .gtr (.t 15) (.c (.int .i64 0))) .done)))
 (.cond (.t 16) (.reg (tm 17 (.t 0) (tm 18 (.t 0) (tq 19 (.cap (.t 18)) (tq 20 (.slice 2 (.t 17) none (some (.t 19))) (tm 21 (.t 1) (tq 22 (.appz 2 32 (.agg [(.int .i64 0),.nil]) (.t 20) (.t 21)) (tm 23 (.t 0) (tq 24 (.len (.t 23)) (tq 25 (.slice 2 (.t 22) none (some (.t 24))) (tm 0 (.t 25) .done)))))))))))
 .skip)))
 (.seq (.reg (tm 26 (.t 0) (tm 4 (.t 26) .done)))
 .ret)))))
theorem d3b:a1p Try.prog Try.f107 = some (c9v.erase,[.mov (.t 4)],27):=by kernel_rfl
def a2b (n_1:Int):Option (List x9) :=
    ((if (decide (n_1 < 0)) then
    none
    else
    some ():Option Unit)).bind fun _ =>
    if (decide (w64 (n_1 - (w64 (0 - 0))) > 0)) then
    if 0 < w64 (n_1 - (w64 (0 - 0))) ∧ w64 (n_1 - (w64 (0 - 0))) ≤ 2 ^ 30 then
    if (0:Int) ≤ 0 ∧ 0 ≤ (((w64 (n_1 - (w64 (0 - 0)))).toNat:Nat):Int) then
    some ((List.replicate ((w64 (n_1 - (w64 (0 - 0)))).toNat) (⟨0,[]⟩:x9)).take 0)
    else none
    else none
    else
    some []
theorem a8o (n_1:Int) (r:(List x9)) (hf:a2b n_1 = some r):a1l Try.prog false 107 [.nil,(.int .i64 n_1)] [] (.own 0 0 r.length) [.row 2 (r.map l9)]:=by
 refine a1l.of_awp mixed Try.func107 d3b nle ?_;rw [a0t];unfold a2b at hf;unfold c9v;refine (show awp Try.prog false 0 _ (ofL [(0,.nil),(1,(.int .i64 n_1))]) [] _ from ?_);refine sr<|l7 .nil rfl<|dk<|o6<|?_
 obtain ⟨p3,hb1,hf⟩:=ob hf
 refine a2e ([(0,.nil),(1,(.int .i64 n_1))],[]) ?_ ?_
 ·refine sr<|l7 (.int .i64 n_1) rfl<|y8 (.bool (decide (n_1 < 0))) rfl rfl rfl<|dk<|?_
  rcases oi hb1 with ⟨c4,hb1⟩ | ⟨c4,hb1⟩
  ·refine y5 rfl c4<|a0y<|?_
   cases hb1
  ·refine y7 rfl (bf c4)<|a0e<|?_;obtain rfl:=os hb1;exact ⟨[],[],_,_,rfl,rfl,⟨.refl _,⟨.refl _,trivial⟩⟩,(.refl _)⟩
 ·refine o6<|sr<|l7 (.int .i64 n_1) rfl<|l7 .nil rfl<|a0b (d6i rfl)<|l7 .nil rfl<|a0b (c7a rfl)<|y8 (.int .i64 (w64 (0 - 0))) rfl rfl rfl<|y8 (.int .i64 (w64 (n_1 - (w64 (0 - 0))))) rfl rfl rfl<|l7 (.int .i64 (w64 (n_1 - (w64 (0 - 0))))) rfl<|dk<|sr<|l7 (.int .i64 (w64 (n_1 - (w64 (0 - 0))))) rfl<|y8 (.bool (decide (w64 (n_1 - (w64 (0 - 0))) > 0))) rfl rfl rfl<|dk<|?_
  rcases oi hf with ⟨c5,hf⟩ | ⟨c5,hf⟩
  ·refine y5 rfl c5<|a0y<|?_
   obtain ⟨g6,hf⟩:=og hf
   obtain ⟨g7,hf⟩:=og hf
   refine l7 .nil rfl<|l7 .nil rfl<|a0b (d6i rfl)<|y8 .nil rfl ⟨⟨Int.le_refl 0,Int.le_refl 0,Int.le_refl 0⟩,trivial⟩ rfl<|l7 (.int .i64 (w64 (n_1 - (w64 (0 - 0))))) rfl<|a0b (d7b (j:=0) (enc:=l9) (y:=(⟨0,[]⟩:x9)) rfl rfl (.agg (.cons (.refl _) (.cons (.nil _) .nil))) g6 rfl)<|l7 .nil rfl<|a0b (c7a rfl)<|a0b (c4z rfl rfl rfl g7.1 g7.2)<|l7 (.own 0 0 0) rfl<|dk<|sr<|l7 (.own 0 0 0) rfl<|l7 (.own 0 0 0) rfl<|dk<|a0k<|?_;obtain rfl:=os hf;exact a8n [.trim 4] [1] rfl ⟨trivial,trivial⟩ rfl ((.cons ((LeO.tk (enc:=l9) (List.replicate ((w64 (n_1 - (w64 (0 - 0)))).toNat) (⟨0,[]⟩:x9)) _)) .nil)) (.of_eq (congrArg (AV.own _ 0) (by simp)))
  ·refine y7 rfl (bf c5)<|a0e<|a0g<|sr<|l7 .nil rfl<|l7 .nil rfl<|dk<|a0k<|?_;obtain rfl:=os hf;exact a8n [.nilT 4 2] [0] rfl ⟨trivial,trivial⟩ rfl (.refl _) (.refl _)

end Go.R
