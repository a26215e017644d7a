/- Walks. -/
import Derived.Test.YtgdkfnndbknjpaaJD2
set_option linter.all false
namespace Go.R
open Go Go.Proofs
set_option linter.unusedVariables false
set_option linter.unusedSimpArgs false
set_option maxHeartbeats 8000000
/- laws.markAtomS -/
def d0e:a0p :=
 (.seq (.reg (tm 4 (.c (.int .i64 0)) .done))
 (.seq (.seq (.reg (tm 5 (.c (.int .i64 0)) .done))
 (.block 0 (.loop (.seq (.seq (.reg (tm 6 (.t 5) (tm 7 (.t 0) (tq 8 (.len (.t 7)) (tq 9 (.bin .lss (.t 6) (.t 8)) .done)))))
 (.cond (.t 9) .skip
 (.exit 0)))
 (.seq (.block 1 (.seq (.reg (tm 12 (.t 0) (tm 13 (.t 5) (tm 14 (.t 1) (tq 15 (.iaddr 3 (.t 12) (.t 13)) (tq 16 (.faddr 0 (.t 15)) (.q ⟨none,none,.store 1 (.t 16) (.t 14)⟩
 .done)))))))
 (.seq (.reg (tm 17 (.t 1) (tq 18 (.bin .add (.t 17) (.c (.int .i64 1))) (tm 1 (.t 18) .done))))
 (.seq (.reg (tm 19 (.t 0) (tm 20 (.t 5) (tm 21 (.t 1) (tq 22 (.iaddr 3 (.t 19) (.t 20)) (tq 23 (.faddr 1 (.t 22)) (.q ⟨none,none,.store 1 (.t 23) (.t 21)⟩
 .done)))))))
 (.seq (.reg (tm 24 (.t 1) (tq 25 (.bin .add (.t 24) (.c (.int .i64 1))) (tm 1 (.t 25) .done))))
 (.seq (.reg (tm 26 (.t 0) (tm 27 (.t 5) (tm 28 (.t 1) (tq 29 (.call 26 [(.t 28)]) (tq 30 (.iaddr 3 (.t 26) (.t 27)) (tq 31 (.faddr 2 (.t 30)) (.q ⟨none,none,.store 1 (.t 31) (.t 29)⟩
 .done))))))))
 (.reg (tm 32 (.t 1) (tq 33 (.bin .add (.t 32) (.c (.int .i64 1))) (tm 1 (.t 33) .done))))))))))
 (.reg (tm 10 (.t 5) (tq 11 (.bin .add (.t 10) (.c (.int .i64 1))) (tm 5 (.t 11) .done)))))))))
 (.cut (.seq (.reg (tm 34 (.t 1) (tm 4 (.t 34) .done)))
 .ret))))
theorem d1t:a1f Try.prog Try.f11 = some (d0e.erase,[.mov (.t 4)],35):=by kernel_rfl
def a1w :Nat → Int → Int → (List y5) → Option (Int × (List y5))
  | 0,_,_,_ => none
  | k + 1,k_58,i_59,a_60 =>
    if (decide (i_59 < (a_60.length:Int))) then
    if (0:Int) ≤ i_59 ∧ i_59 < (a_60.length:Int) then
    (a_60[(0 + i_59.toNat)]?).bind fun x_76 =>
    if (0:Int) ≤ i_59 ∧ i_59 < (a_60.length:Int) then
    (a3c (w64 ((w64 (k_58 + 1)) + 1))).bind fun r_79 =>
    if (0:Int) ≤ i_59 ∧ i_59 < (a_60.length:Int) then
    a1w k (w64 ((w64 ((w64 (k_58 + 1)) + 1)) + 1)) (w64 (i_59 + 1)) (((a_60.set (0 + i_59.toNat) (⟨k_58,x_76.N,x_76.T⟩:y5)).set (0 + i_59.toNat) (⟨k_58,w64 (k_58 + 1),x_76.T⟩:y5)).set (0 + i_59.toNat) (⟨k_58,w64 (k_58 + 1),r_79⟩:y5))
    else none
    else none
    else none
    else
    some (k_58,a_60)

def a6n (a_1:(List y5)) (k_2:Int):Option (Int × (List y5)) :=
    (a1w FUEL k_2 0 a_1).bind fun p72 =>
    (match p72 with
    | (k_70,l_71) =>
    some (k_70,l_71))
theorem b6h (a_1:(List y5)) (k_2:Int) (r:(Int × (List y5))) (hf:a6n a_1 k_2 = some r):a0r Try.prog ⟨true,true⟩ 11 [(.own 0 0 a_1.length),(.int .i64 k_2)] [.row 3 (a_1.map o5)] (.int .i64 r.1) [.row 3 (r.2.map o5)]:=by
 refine a0r.of_awp mixed Try.func11 d1t nle ?_;rw [a0q];unfold a6n at hf;unfold d0e;refine (show awp Try.prog ⟨true,true⟩ 1 _ (ofL [(0,(.own 0 0 a_1.length)),(1,(.int .i64 k_2))]) [.row 3 (a_1.map o5)] _ from ?_);refine sr<|l7 (.int .i64 0) rfl<|dk<|o6<|sr<|l7 (.int .i64 0) rfl<|dk<|?_
 obtain ⟨p72,hb1,hf⟩:=ob hf
 refine a2n ([(1,(.int .i64 p72.1))],[.row 3 (p72.2.map o5)]) ?_ ?_
 ·refine a1o (X:={q:(Nat × Int × Int × (List y5)) // a1w q.1 q.2.1 q.2.2.1 q.2.2.2 = some p72}) (fun q => ([(0,(.own 0 0 q.1.2.2.2.length)),(1,(.int .i64 q.1.2.1)),(5,(.int .i64 q.1.2.2.1))],[.row 3 (q.1.2.2.2.map o5)])) (fun q => q.1.1) ⟨(FUEL,k_2,0,a_1),hb1⟩ ⟨[],[0],_,_,rfl,rfl,⟨.refl _,⟨.refl _,⟨.refl _,trivial⟩⟩⟩,(.refl _)⟩ ?_
  rintro ⟨⟨k,k_58,i_59,a_60⟩,hc1⟩
  have hc1:a1w k k_58 i_59 a_60 = some p72:=hc1
  refine (show awp Try.prog ⟨true,true⟩ 1 _ (ofL [(0,(.own 0 0 a_60.length)),(1,(.int .i64 k_58)),(5,(.int .i64 i_59))]) [.row 3 (a_60.map o5)] _ from ?_)
  rcases k with _ | k
  ·rw [a1w.eq_1] at hc1
   cases hc1
  ·rw [a1w.eq_2] at hc1;refine o6<|sr<|l7 (.int .i64 i_59) rfl<|l7 (.own 0 0 a_60.length) rfl<|a1d (a6y rfl rfl) fun hl73 => x9 (.bool (decide (i_59 < (a_60.length:Int)))) rfl (.of rfl trivial) rfl<|dk<|?_
   rcases oi hc1 with ⟨c74,hc1⟩ | ⟨c74,hc1⟩
   ·refine y7 rfl c74<|a0k<|a0m<|o6<|a4a<|sr<|?_
    obtain ⟨g75,hc1⟩:=og hc1
    obtain ⟨x_76,ex77,hc1⟩:=ob hc1
    refine l7 (.own 0 0 a_60.length) rfl<|l7 (.int .i64 i_59) rfl<|l7 (.int .i64 k_58) rfl<|a0b (a2k rfl rfl g75.1 g75.2 rfl rfl)<|x9 (.ptr 0 (0 + i_59.toNat) 0) rfl (.of trivial trivial) rfl<|?_;refine a2a (a7h (v':=(.int .i64 k_58)) (e':=(⟨k_58,x_76.N,x_76.T⟩:y5)) rfl rfl ex77 rfl rfl rfl (by decide) (fun _ => by decide) ⟨rfl,nle⟩ (.refl _) rfl) ?_;refine dk<|sr<|l7 (.int .i64 k_58) rfl<|x9 (.int .i64 (w64 (k_58 + 1))) rfl (.of rfl trivial) rfl<|l7 (.int .i64 (w64 (k_58 + 1))) rfl<|dk<|sr<|?_
    obtain ⟨g78,hc1⟩:=og hc1
    refine l7 (.own 0 0 a_60.length) rfl<|l7 (.int .i64 i_59) rfl<|l7 (.int .i64 (w64 (k_58 + 1))) rfl<|a0b (a2k rfl rfl g78.1 g78.2 rfl rfl)<|x9 (.ptr 0 (0 + i_59.toNat) 1) rfl (.of trivial trivial) rfl<|?_;refine a2a (a7h (v':=(.int .i64 (w64 (k_58 + 1)))) (e':=(⟨k_58,w64 (k_58 + 1),x_76.T⟩:y5)) rfl rfl (a3r ex77) rfl rfl rfl (by decide) (fun _ => by decide) ⟨rfl,nle⟩ (.refl _) rfl) ?_;refine dk<|sr<|l7 (.int .i64 (w64 (k_58 + 1))) rfl<|x9 (.int .i64 (w64 ((w64 (k_58 + 1)) + 1))) rfl (.of rfl trivial) rfl<|l7 (.int .i64 (w64 ((w64 (k_58 + 1)) + 1))) rfl<|dk<|sr<|?_
    obtain ⟨r_79,er80,hc1⟩:=ob hc1
    obtain ⟨g81,hc1⟩:=og hc1
    refine l7 (.own 0 0 a_60.length) rfl<|l7 (.int .i64 i_59) rfl<|l7 (.int .i64 (w64 ((w64 (k_58 + 1)) + 1))) rfl<|a0b (a0s (a7e _ _ er80) rfl (.refl _) rfl)<|a0b (a2k rfl rfl g81.1 g81.2 rfl rfl)<|x9 (.ptr 0 (0 + i_59.toNat) 2) rfl (.of trivial trivial) rfl<|?_;refine a2a (a7h (v':=(.str r_79)) (e':=(⟨k_58,w64 (k_58 + 1),r_79⟩:y5)) rfl rfl (a3r (a3r ex77)) rfl rfl rfl (by decide) (fun _ => by decide) ⟨rfl,nle⟩ (.refl _) rfl) ?_;refine dk<|a0x<|l7 (.int .i64 (w64 ((w64 (k_58 + 1)) + 1))) rfl<|x9 (.int .i64 (w64 ((w64 ((w64 (k_58 + 1)) + 1)) + 1))) rfl (.of rfl trivial) rfl<|l7 (.int .i64 (w64 ((w64 ((w64 (k_58 + 1)) + 1)) + 1))) rfl<|?_
    refine a0l<|a2y<|a0m<|a0x<|l7 (.int .i64 i_59) rfl<|x9 (.int .i64 (w64 (i_59 + 1))) rfl (.of rfl trivial) rfl<|l7 (.int .i64 (w64 (i_59 + 1))) rfl<|a0l<|?_;exact a2g ⟨(k,w64 ((w64 ((w64 (k_58 + 1)) + 1)) + 1),w64 (i_59 + 1),((a_60.set (0 + i_59.toNat) (⟨k_58,x_76.N,x_76.T⟩:y5)).set (0 + i_59.toNat) (⟨k_58,w64 (k_58 + 1),x_76.T⟩:y5)).set (0 + i_59.toNat) (⟨k_58,w64 (k_58 + 1),r_79⟩:y5)),hc1⟩ (Nat.lt_succ_self _) ⟨[],[0],_,_,rfl,rfl,⟨.of_eq (congrArg (AV.own _ 0) (by simp)),⟨.refl _,⟨.refl _,trivial⟩⟩⟩,(.refl _)⟩
   ·refine y8 rfl (bf c74)<|a3x<|a3w<|a2o<|a3v<|?_;obtain rfl:=os hc1;exact ⟨[],[0],_,_,rfl,rfl,⟨.refl _,trivial⟩,(.refl _)⟩
 ·obtain ⟨k_70,l_71⟩:=p72
  refine sr<|l7 (.int .i64 k_70) rfl<|l7 (.int .i64 k_70) rfl<|dk<|a0c<|?_;obtain rfl:=os hf;exact a6d [] [0] rfl ⟨.of trivial trivial,trivial⟩ rfl (.refl _) (.refl _)

/- laws.heldAtomS -/
def c12:a0p :=
 (.seq (.reg (tm 4 (.c (.int .i64 0)) .done))
 (.seq (.seq (.reg (tm 5 (.c (.int .i64 0)) .done))
 (.block 0 (.loop (.seq (.seq (.reg (tm 6 (.t 5) (tm 7 (.t 0) (tq 8 (.len (.t 7)) (tq 9 (.bin .lss (.t 6) (.t 8)) .done)))))
 (.cond (.t 9) .skip
 (.exit 0)))
 (.seq (.block 1 (.seq (.seq (.reg (tm 12 (.t 0) (tm 13 (.t 5) (tq 14 (.iaddr 3 (.t 12) (.t 13)) (tq 15 (.faddr 0 (.t 14)) (tq 16 (.load 1 false (.t 15)) (tm 17 (.t 1) (tq 18 (.bin .neq (.t 16) (.t 17)) .done))))))))
 (.cond (.t 18) (.seq (.reg (tq 4 (.mov (.c (.int .i64 (-1)))) .done))
 .ret)
 .skip))
 (.seq (.reg (tm 19 (.t 1) (tq 20 (.bin .add (.t 19) (.c (.int .i64 1))) (tm 1 (.t 20) .done))))
 (.seq (.seq (.reg (tm 21 (.t 0) (tm 22 (.t 5) (tq 23 (.iaddr 3 (.t 21) (.t 22)) (tq 24 (.faddr 1 (.t 23)) (tq 25 (.load 1 false (.t 24)) (tm 26 (.t 1) (tq 27 (.bin .neq (.t 25) (.t 26)) .done))))))))
 (.cond (.t 27) (.seq (.reg (tq 4 (.mov (.c (.int .i64 (-1)))) .done))
 .ret)
 .skip))
 (.seq (.reg (tm 28 (.t 1) (tq 29 (.bin .add (.t 28) (.c (.int .i64 1))) (tm 1 (.t 29) .done))))
 (.seq (.seq (.reg (tm 30 (.t 0) (tm 31 (.t 5) (tq 32 (.iaddr 3 (.t 30) (.t 31)) (tq 33 (.faddr 2 (.t 32)) (tq 34 (.load 1 false (.t 33)) (tm 35 (.t 1) (.l ⟨(some 36),none,.call 26 [(.t 35)]⟩ [⟨(some 34),none,.load 1 false (.t 33)⟩,⟨(some 33),none,.faddr 2 (.t 32)⟩,⟨(some 32),none,.iaddr 3 (.t 30) (.t 31)⟩]
 (tq 37 (.bin .neq (.t 34) (.t 36)) .done) .non))))))))
 (.cond (.t 37) (.seq (.reg (tq 4 (.mov (.c (.int .i64 (-1)))) .done))
 .ret)
 .skip))
 (.reg (tm 38 (.t 1) (tq 39 (.bin .add (.t 38) (.c (.int .i64 1))) (tm 1 (.t 39) .done))))))))))
 (.reg (tm 10 (.t 5) (tq 11 (.bin .add (.t 10) (.c (.int .i64 1))) (tm 5 (.t 11) .done)))))))))
 (.cut (.seq (.reg (tm 40 (.t 1) (tm 4 (.t 40) .done)))
 .ret))))
theorem d6i:a1f Try.prog Try.f12 = some (c12.erase,[.mov (.t 4)],41):=by kernel_rfl
def a1x :List y5 → Int → Option (Fl Int Int)
  | [],k_31 =>
    some (.go k_31)
  | x_55 :: xs,k_31 =>
    if (x_55.Kind != k_31) then
    some (.ret (-1))
    else
    if (x_55.N != w64 (k_31 + 1)) then
    some (.ret (-1))
    else
    (a3c (w64 ((w64 (k_31 + 1)) + 1))).bind fun r_60 =>
    if (!(x_55.T == r_60)) then
    some (.ret (-1))
    else
    a1x xs (w64 ((w64 ((w64 (k_31 + 1)) + 1)) + 1)) 

def a5h (a_1:(List y5)) (k_2:Int):Option Int :=
    (a1x a_1 k_2).bind fun q => (match q with
    | .ret r => some r
    | .go k_47 =>
    some k_47)
theorem b0n (a_1:(List y5)) (k_2:Int) (r:Int) (hf:a5h a_1 k_2 = some r):a0d Try.prog 12 .flat [(.lst 3 (a_1.map o5)),(.int .i64 k_2)] (.int .i64 r):=by
 refine a0d.of_awp mixed Try.func12 d6i nle ?_;rw [a0q];unfold a5h at hf;unfold c12;refine (show awp Try.prog false 0 _ (ofL [(0,(.lst 3 (a_1.map o5))),(1,(.int .i64 k_2))]) [] _ from ?_);refine sr<|l7 (.int .i64 0) rfl<|dk<|o6<|sr<|l7 (.int .i64 0) rfl<|dk<|?_
 obtain ⟨p48,hb1,hf⟩:=ob hf
 refine a3f (X:={q:Int // p48 = .go q}) (fun q => ([(1,(.int .i64 q.1))],[])) ?_ ?_
 ·refine a1o (X:={q:(Int × Nat) // a1x (a_1.drop q.2) q.1 = some p48}) (fun q => ([(0,(.lst 3 (a_1.map o5))),(1,(.int .i64 q.1.1)),(5,(.int .i64 (q.1.2:Int)))],[])) (fun q => a_1.length - q.1.2) ⟨(k_2,0),hb1⟩ ⟨[],[],_,_,rfl,rfl,⟨.refl _,⟨.refl _,⟨.refl _,trivial⟩⟩⟩,(.refl _)⟩ ?_
  rintro ⟨⟨k_31,i_32⟩,hc1⟩
  have hc1:a1x (a_1.drop i_32) k_31 = some p48:=hc1
  refine (show awp Try.prog false 0 _ (ofL [(0,(.lst 3 (a_1.map o5))),(1,(.int .i64 k_31)),(5,(.int .i64 (i_32:Int)))]) [] _ from ?_)
  rcases a7n a_1 i_32 with ⟨hie51,hd54⟩ | ⟨hlt49,x_55,hx50,hd54⟩
  ·rw [hd54,a1x.eq_1] at hc1
   have hq53:=dlf hie51
   refine o6<|sr<|l7 (.int .i64 (i_32:Int)) rfl<|l7 (.lst 3 (a_1.map o5)) rfl<|a1d (a2q (enc:=o5) rfl) fun hl56 => x9 (.bool (decide ((i_32:Int) < (a_1.length:Int)))) rfl rfl rfl<|dk<|y8 rfl hq53<|a3x<|a3w<|a2o<|a3v<|?_;obtain rfl:=os hc1;exact a3u ⟨_,rfl⟩ ⟨[],[],_,_,rfl,rfl,⟨.refl _,trivial⟩,(.refl _)⟩
  ·rw [hd54,a1x.eq_2] at hc1
   have hq53:=dlt hlt49
   refine o6<|sr<|l7 (.int .i64 (i_32:Int)) rfl<|l7 (.lst 3 (a_1.map o5)) rfl<|a1d (a2q (enc:=o5) rfl) fun hl57 => x9 (.bool (decide ((i_32:Int) < (a_1.length:Int)))) rfl rfl rfl<|dk<|y7 rfl hq53<|a0k<|a0m<|o6<|a4a<|o6<|sr<|l7 (.lst 3 (a_1.map o5)) rfl<|l7 (.int .i64 (i_32:Int)) rfl<|a0b (a3a (enc:=o5) rfl rfl hx50)<|x9 (.iptr (o5 x_55) 0) rfl trivial rfl<|x9 (.int .i64 x_55.Kind) rfl nle rfl<|l7 (.int .i64 k_31) rfl<|x9 (.bool (x_55.Kind != k_31)) rfl rfl rfl<|dk<|?_
   rcases oi hc1 with ⟨c58,hc1⟩ | ⟨c58,hc1⟩
   ·refine y7 rfl c58<|sr<|l7 (.int .i64 (-1)) rfl<|dk<|a0c<|?_;obtain rfl:=os hc1;obtain rfl:=os hf;exact a0h ⟨trivial,trivial⟩ rfl (.refl _)
   ·refine y8 rfl (bf c58)<|a0k<|a0m<|sr<|l7 (.int .i64 k_31) rfl<|x9 (.int .i64 (w64 (k_31 + 1))) rfl rfl rfl<|l7 (.int .i64 (w64 (k_31 + 1))) rfl<|dk<|o6<|sr<|l7 (.lst 3 (a_1.map o5)) rfl<|l7 (.int .i64 (i_32:Int)) rfl<|a0b (a3a (enc:=o5) rfl rfl hx50)<|x9 (.iptr (o5 x_55) 1) rfl trivial rfl<|x9 (.int .i64 x_55.N) rfl nle rfl<|l7 (.int .i64 (w64 (k_31 + 1))) rfl<|x9 (.bool (x_55.N != w64 (k_31 + 1))) rfl rfl rfl<|dk<|?_
    rcases oi hc1 with ⟨c59,hc1⟩ | ⟨c59,hc1⟩
    ·refine y7 rfl c59<|sr<|l7 (.int .i64 (-1)) rfl<|dk<|a0c<|?_;obtain rfl:=os hc1;obtain rfl:=os hf;exact a0h ⟨trivial,trivial⟩ rfl (.refl _)
    ·refine y8 rfl (bf c59)<|a0k<|a0m<|sr<|l7 (.int .i64 (w64 (k_31 + 1))) rfl<|x9 (.int .i64 (w64 ((w64 (k_31 + 1)) + 1))) rfl rfl rfl<|l7 (.int .i64 (w64 ((w64 (k_31 + 1)) + 1))) rfl<|dk<|o6<|sr<|?_
     obtain ⟨r_60,er61,hc1⟩:=ob hc1
     refine l7 (.lst 3 (a_1.map o5)) rfl<|l7 (.int .i64 (i_32:Int)) rfl<|a0b (a3a (enc:=o5) rfl rfl hx50)<|x9 (.iptr (o5 x_55) 2) rfl trivial rfl<|x9 (.str x_55.T) rfl nle rfl<|l7 (.int .i64 (w64 ((w64 (k_31 + 1)) + 1))) rfl<|a5x (a0s (a7e _ _ er61) rfl (.refl _) rfl) b0f trivial<|x9 (.bool (!(x_55.T == r_60))) rfl trivial rfl<|dk<|?_
     rcases oi hc1 with ⟨c62,hc1⟩ | ⟨c62,hc1⟩
     ·refine y7 rfl c62<|sr<|l7 (.int .i64 (-1)) rfl<|dk<|a0c<|?_;obtain rfl:=os hc1;obtain rfl:=os hf;exact a0h ⟨trivial,trivial⟩ rfl (.refl _)
     ·refine y8 rfl (bf c62)<|a0k<|a0m<|a0x<|l7 (.int .i64 (w64 ((w64 (k_31 + 1)) + 1))) rfl<|x9 (.int .i64 (w64 ((w64 ((w64 (k_31 + 1)) + 1)) + 1))) rfl rfl rfl<|l7 (.int .i64 (w64 ((w64 ((w64 (k_31 + 1)) + 1)) + 1))) rfl<|a0l<|a2y<|a0m<|a0x<|l7 (.int .i64 (i_32:Int)) rfl<|x9 (.int .i64 (w64 ((i_32:Int) + 1))) rfl rfl rfl<|l7 (.int .i64 (w64 ((i_32:Int) + 1))) rfl<|a0l<|?_;exact a2g ⟨(w64 ((w64 ((w64 (k_31 + 1)) + 1)) + 1),(i_32 + 1)),hc1⟩ (mul hlt49) ⟨[],[],_,_,rfl,rfl,⟨.refl _,⟨.refl _,⟨.of_eq (congrArg (AV.int _) (a2z hlt49 hl57)),trivial⟩⟩⟩,(.refl _)⟩
 ·rintro ⟨k_47,rfl⟩
  refine sr<|l7 (.int .i64 k_47) rfl<|l7 (.int .i64 k_47) rfl<|dk<|a0c<|?_;obtain rfl:=os hf;exact a0h ⟨trivial,trivial⟩ rfl (.refl _)

/- laws.FnExactJsonDatum -/
def c3:a0p :=
 (.seq (.reg (tq 1 (.box 5 (.t 0)) (tm 2 (.c (.bool false)) .done)))
 (.seq (.reg (tm 3 (.c (.int .i64 1048576)) .done))
 (.seq (.reg (tq 14 (.load 5 true (.t 1)) (tm 15 (.t 3) (tq 16 (.call 4 [(.t 14),(.t 15)]) (tm 3 (.t 16) .done)))))
 (.seq (.seq (.reg (tm 17 (.t 3) (tq 18 (.bin .lss (.t 17) (.c (.int .i64 0))) .done)))
 (.cond (.t 18) (.seq (.reg (tm 2 (.c (.bool true)) .done))
 .ret)
 .skip))
 (.seq (.reg (tq 20 (.load 5 true (.t 1)) (tq 21 (.call 6 [(.t 20)]) (tq 22 (.call 5 [(.t 21)]) (tm 19 (.t 22) (tq 23 (.extract 0 (.t 19)) (tq 24 (.extract 1 (.t 19)) (tm 4 (.t 23) (tm 5 (.t 24) .done)))))))))
 (.seq (.reg (tq 25 (.load 5 true (.t 1)) (tq 26 (.call 6 [(.t 25)]) (tq 6 (.box 5 (.c (.agg [(.int .i64 0),(.int .i64 0),(.str []),.nil,.nil]))) (.q ⟨none,none,.store 5 (.t 6) (.t 26)⟩
 .done)))))
 (.seq (.reg (tq 28 (.load 5 true (.t 6)) (tq 29 (.call 7 [(.t 28)]) (tm 27 (.t 29) (tq 30 (.extract 0 (.t 27)) (tq 31 (.extract 1 (.t 27)) (tm 7 (.t 30) (tm 8 (.t 31) .done))))))))
 (.seq (.seq (.reg (tm 32 (.t 7) (tm 33 (.t 4) (tq 34 (.call 8 [(.t 32),(.t 33)]) (tq 35 (.not (.t 34)) (tm 36 (.t 35) (tg 37 36 false (.mov (.t 8)) (tg 38 36 false (.mov (.t 5)) (tg 39 36 false (.bin .neq (.t 37) (.t 38)) (tq 40 (.pick (.t 36) (.c (.bool true)) (.t 39)) .done))))))))))
 (.cut (.cond (.t 40) (.seq (.reg (tm 2 (.c (.bool false)) .done))
 .ret)
 .skip)))
 (.seq (.seq (.reg (tq 41 (.load 5 true (.t 6)) (tq 42 (.load 5 true (.t 1)) (.l ⟨(some 43),none,.call 6 [(.t 42)]⟩ [⟨(some 41),none,.load 5 true (.t 6)⟩]
 (.l ⟨(some 44),none,.call 9 [(.t 41),(.t 43)]⟩ []
 (tq 45 (.not (.t 44)) .done) .non) .non))))
 (.cond (.t 45) (.seq (.reg (tm 2 (.c (.bool false)) .done))
 .ret)
 .skip))
 (.seq (.reg (tm 9 (.c (.int .i64 1)) .done))
 (.seq (.reg (tq 46 (.load 5 true (.t 6)) (tm 47 (.t 9) (tq 48 (.call 10 [(.t 46),(.t 47)]) (tm 9 (.t 48) .done)))))
 (.seq (.seq (.reg (tm 49 (.t 9) (tq 50 (.bin .lss (.t 49) (.c (.int .i64 0))) (tm 51 (.t 50) (tg 52 51 false (.mov (.t 7)) (tg 53 51 false (.mov (.t 4)) (tg 54 51 false (.call 8 [(.t 52),(.t 53)]) (tg 55 51 false (.not (.t 54)) (tq 56 (.pick (.t 51) (.c (.bool true)) (.t 55)) (tm 57 (.t 56) (tg 58 57 false (.mov (.t 8)) (tg 59 57 false (.mov (.t 5)) (tg 60 57 false (.bin .neq (.t 58) (.t 59)) (tq 61 (.pick (.t 57) (.c (.bool true)) (.t 60)) .done))))))))))))))
 (.cut (.cond (.t 61) (.seq (.reg (tm 2 (.c (.bool false)) .done))
 .ret)
 .skip)))
 (.seq (.reg (tm 10 (.c (.int .i64 1)) .done))
 (.seq (.reg (tm 62 (.t 7) (tm 63 (.t 10) (tq 64 (.call 11 [(.t 62),(.t 63)]) (tm 10 (.t 64) .done)))))
 (.seq (.reg (tm 11 (.c (.int .i64 1)) .done))
 (.seq (.reg (tm 65 (.t 7) (tm 66 (.t 11) (tq 67 (.call 12 [(.t 65),(.t 66)]) (tm 11 (.t 67) .done)))))
 (.seq (.seq (.reg (tm 68 (.t 11) (tq 69 (.bin .lss (.t 68) (.c (.int .i64 0))) .done)))
 (.cond (.t 69) (.seq (.reg (tm 2 (.c (.bool false)) .done))
 .ret)
 .skip))
 (.seq (.seq (.reg (tm 70 (.t 11) (tm 71 (.t 10) (tq 72 (.bin .neq (.t 70) (.t 71)) .done))))
 (.cond (.t 72) (.seq (.reg (tm 2 (.c (.bool false)) .done))
 .ret)
 .skip))
 (.seq (.reg (tq 74 (.load 5 true (.t 1)) (tq 75 (.call 6 [(.t 74)]) (tq 76 (.call 7 [(.t 75)]) (tm 73 (.t 76) (tq 77 (.extract 0 (.t 73)) (tq 78 (.extract 1 (.t 73)) (tm 12 (.t 77) (tm 13 (.t 78) .done)))))))))
 (.seq (.seq (.reg (tm 79 (.t 12) (tm 80 (.t 4) (tq 81 (.call 8 [(.t 79),(.t 80)]) (tq 82 (.not (.t 81)) (tm 83 (.t 82) (tg 84 83 false (.mov (.t 13)) (tg 85 83 false (.mov (.t 5)) (tg 86 83 false (.bin .neq (.t 84) (.t 85)) (tq 87 (.pick (.t 83) (.c (.bool true)) (.t 86)) .done))))))))))
 (.cut (.cond (.t 87) (.seq (.reg (tm 2 (.c (.bool false)) .done))
 .ret)
 .skip)))
 (.seq (.reg (tm 11 (.c (.int .i64 1)) .done))
 (.seq (.reg (tm 88 (.t 7) (tm 89 (.t 11) (tq 90 (.call 12 [(.t 88),(.t 89)]) (tm 11 (.t 90) .done)))))
 (.seq (.seq (.reg (tm 91 (.t 11) (tq 92 (.bin .lss (.t 91) (.c (.int .i64 0))) .done)))
 (.cond (.t 92) (.seq (.reg (tm 2 (.c (.bool false)) .done))
 .ret)
 .skip))
 (.seq (.seq (.reg (tm 93 (.t 11) (tm 94 (.t 10) (tq 95 (.bin .neq (.t 93) (.t 94)) .done))))
 (.cond (.t 95) (.seq (.reg (tm 2 (.c (.bool false)) .done))
 .ret)
 .skip))
 (.seq (.reg (tm 2 (.c (.bool true)) .done))
 .ret)))))))))))))))))))))))))
theorem fc3:a1f Try.prog Try.f3 = some (c3.erase,[.mov (.t 2)],96):=by kernel_rfl
def a4q (aJ_1:o8):Option Bool :=
    (a4h FUEL aJ_1 1048576).bind fun r_2 =>
    if (decide (r_2 < 0)) then
    some true
    else
    (a3n FUEL aJ_1).bind fun r_5 =>
    (a6i r_5).bind fun r_7 =>
    (a3n FUEL aJ_1).bind fun r_9 =>
    (a5g r_9).bind fun r_11 =>
    (((a5o r_11.1 r_7.1).bind fun r_18 =>
    if (!r_18) then
    some true
    else
    some (r_11.2 != r_7.2):Option Bool)).bind fun s40_16 =>
    if s40_16 then
    some false
    else
    (a3n FUEL aJ_1).bind fun r_22 =>
    (a4j FUEL r_9 r_22).bind fun r_24 =>
    if (!r_24) then
    some false
    else
    (a7c r_9 1).bind fun r_27 =>
    ((if (decide (r_27.1 < 0)) then
    some true
    else
    (a5o r_11.1 r_7.1).bind fun r_36 =>
    some (bif (!r_36) then true else (r_11.2 != r_7.2)):Option Bool)).bind fun s61_33 =>
    if s61_33 then
    some false
    else
    (a6n r_11.1 1).bind fun r_39 =>
    (a5h r_39.2 1).bind fun r_42 =>
    if (decide (r_42 < 0)) then
    some false
    else
    if (r_42 != r_39.1) then
    some false
    else
    (a3n FUEL aJ_1).bind fun r_46 =>
    (a5g r_46).bind fun r_48 =>
    (((a5o r_48.1 r_7.1).bind fun r_55 =>
    if (!r_55) then
    some true
    else
    some (r_48.2 != r_7.2):Option Bool)).bind fun s87_53 =>
    if s87_53 then
    some false
    else
    (a5h r_39.2 1).bind fun r_59 =>
    if (decide (r_59 < 0)) then
    some false
    else
    if (r_59 != r_39.1) then
    some false
    else
    some true
theorem b0o (aJ_1:o8) (r:Bool) (hf:a4q aJ_1 = some r):a0d Try.prog 3 .flat [(l9 aJ_1)] (.bool r):=by
 refine a0d.of_awp' (md:=⟨true,true⟩) (fun _ => rfl) (fun _ => rfl) (fun h => by cases h) mixed Try.func3 fc3 nle ?_;rw [a0q];rw [o9 aJ_1];unfold a4q at hf;unfold c3;refine (show awp Try.prog ⟨true,true⟩ 0 _ (ofL [(0,(.agg [(.int .i64 aJ_1.Kind),(.int .i64 aJ_1.N),(.str aJ_1.T),(.lst 1 (aJ_1.Keys.map AV.str)),(.lst 5 (aJ_1.Items.map l9))]))]) [] _ from ?_);refine sr<|a0b (a1p (j:=0) (c:=(.agg [(.int .i64 aJ_1.Kind),(.int .i64 aJ_1.N),(.str aJ_1.T),(.lst 1 (aJ_1.Keys.map AV.str)),(.lst 5 (aJ_1.Items.map l9))])) rfl trivial rfl rfl)<|l7 (.bool false) rfl<|dk<|sr<|l7 (.int .i64 1048576) rfl<|?_
 refine dk<|sr<|?_
 obtain ⟨r_2,er3,hf⟩:=ob hf
 refine x9 (.agg [(.int .i64 aJ_1.Kind),(.int .i64 aJ_1.N),(.str aJ_1.T),(.lst 1 (aJ_1.Keys.map AV.str)),(.lst 5 (aJ_1.Items.map l9))]) rfl (.of nle trivial) rfl<|l7 (.int .i64 1048576) rfl<|a0b (a0s (b3g FUEL _ _ _ er3) rfl (.cons (.of_eq (o9 aJ_1).symm) (.cons (.refl _) .nil)) rfl)<|l7 (.int .i64 r_2) rfl<|dk<|o6<|sr<|l7 (.int .i64 r_2) rfl<|x9 (.bool (decide (r_2 < 0))) rfl (.of rfl trivial) rfl<|dk<|?_
 rcases oi hf with ⟨c4,hf⟩ | ⟨c4,hf⟩
 ·refine y7 rfl c4<|sr<|l7 (.bool true) rfl<|dk<|a0c<|?_;obtain rfl:=os hf;exact a0h ⟨.of trivial trivial,trivial⟩ rfl (.refl _)
 ·refine y8 rfl (bf c4)<|a0k<|a0m<|sr<|?_
  obtain ⟨r_5,er6,hf⟩:=ob hf
  obtain ⟨r_7,er8,hf⟩:=ob hf
  refine x9 (.agg [(.int .i64 aJ_1.Kind),(.int .i64 aJ_1.N),(.str aJ_1.T),(.lst 1 (aJ_1.Keys.map AV.str)),(.lst 5 (aJ_1.Items.map l9))]) rfl (.of nle trivial) rfl<|a0b (a4x (v:=(.agg [(.int .i64 r_5.Kind),(.int .i64 r_5.N),(.str r_5.T),(.own 1 0 r_5.Keys.length),(.own 2 0 r_5.Items.length)])) (h':=[.row 1 (r_5.Keys.map AV.str),.row 5 (r_5.Items.map l9)]) (a6z FUEL _ _ er6) rfl (.cons (.of_eq (o9 aJ_1).symm) .nil) (by simp only [a1n,a1y,List.length_map,o9,List.nil_append,List.append_nil,List.cons_append];rfl))<|a0b (a4x (v:=(.tup [(.own 3 0 r_7.1.length),(.int .i64 r_7.2)])) (h':=[.row 3 (r_7.1.map o5)]) (b6e _ _ er8) rfl (.cons (leJ (x:=r_5) (.agg (.cons (.refl _) (.cons (.refl _) (.cons (.refl _) (.cons (.of_eq (congrArg (AV.lst _) (tko (enc:=AV.str) r_5.Keys))) (.cons (.of_eq (congrArg (AV.lst _) (tko (enc:=l9) r_5.Items))) .nil))))))) .nil) (by simp only [a1n,a1y,List.length_map,List.nil_append,List.append_nil,List.cons_append];rfl))<|?_
  refine l7 (.tup [(.own 3 0 r_7.1.length),(.int .i64 r_7.2)]) rfl<|x9 (.own 3 0 r_7.1.length) rfl (.of nle trivial) rfl<|x9 (.int .i64 r_7.2) rfl (.of nle trivial) rfl<|l7 (.own 3 0 r_7.1.length) rfl<|l7 (.int .i64 r_7.2) rfl<|dk<|sr<|?_
  obtain ⟨r_9,er10,hf⟩:=ob hf
  refine x9 (.agg [(.int .i64 aJ_1.Kind),(.int .i64 aJ_1.N),(.str aJ_1.T),(.lst 1 (aJ_1.Keys.map AV.str)),(.lst 5 (aJ_1.Items.map l9))]) rfl (.of nle trivial) rfl<|a0b (a4x (v:=(.agg [(.int .i64 r_9.Kind),(.int .i64 r_9.N),(.str r_9.T),(.own 4 0 r_9.Keys.length),(.own 5 0 r_9.Items.length)])) (h':=[.row 1 (r_9.Keys.map AV.str),.row 5 (r_9.Items.map l9)]) (a6z FUEL _ _ er10) rfl (.cons (.of_eq (o9 aJ_1).symm) .nil) (by simp only [a1n,a1y,List.length_map,o9,List.nil_append,List.append_nil,List.cons_append];rfl))<|a0b (a1p (j:=6) (c:=(.agg [(.int .i64 0),(.int .i64 0),(.str []),.nil,.nil])) rfl trivial rfl rfl)<|a2a (a0o (v:=(.agg [(.int .i64 r_9.Kind),(.int .i64 r_9.N),(.str r_9.T),(.own 4 0 r_9.Keys.length),(.own 5 0 r_9.Items.length)])) (y':=(.agg [(.int .i64 r_9.Kind),(.int .i64 r_9.N),(.str r_9.T),(.own 4 0 r_9.Keys.length),(.own 5 0 r_9.Items.length)])) rfl rfl rfl trivial ⟨rfl,nle⟩ ⟨⟨rfl,trivial⟩,⟨⟨rfl,trivial⟩,⟨⟨rfl,trivial⟩,⟨⟨rfl,trivial⟩,⟨⟨rfl,trivial⟩,trivial⟩⟩⟩⟩⟩ rfl)<|?_
  refine dk<|sr<|?_
  obtain ⟨r_11,er12,hf⟩:=ob hf
  refine x9 (.agg [(.int .i64 r_9.Kind),(.int .i64 r_9.N),(.str r_9.T),(.own 4 0 r_9.Keys.length),(.own 5 0 r_9.Items.length)]) rfl (.of nle trivial) rfl<|a0b (a4x (v:=(.tup [(.own 7 0 r_11.1.length),(.int .i64 r_11.2)])) (h':=[.row 3 (r_11.1.map o5)]) (b0l _ _ er12) rfl (.cons (leJ (x:=r_9) (.agg (.cons (.refl _) (.cons (.refl _) (.cons (.refl _) (.cons (.of_eq (congrArg (AV.lst _) (tko (enc:=AV.str) r_9.Keys))) (.cons (.of_eq (congrArg (AV.lst _) (tko (enc:=l9) r_9.Items))) .nil))))))) .nil) (by simp only [a1n,a1y,List.length_map,List.nil_append,List.append_nil,List.cons_append];rfl))<|l7 (.tup [(.own 7 0 r_11.1.length),(.int .i64 r_11.2)]) rfl<|?_
  refine x9 (.own 7 0 r_11.1.length) rfl (.of nle trivial) rfl<|x9 (.int .i64 r_11.2) rfl (.of nle trivial) rfl<|l7 (.own 7 0 r_11.1.length) rfl<|l7 (.int .i64 r_11.2) rfl<|dk<|o6<|o6<|?_
  obtain ⟨s40_16,hb1,hf⟩:=ob hf
  refine a2n ([(1,(.ptr 0 0 0)),(4,(.own 1 0 r_7.1.length)),(5,(.int .i64 r_7.2)),(6,(.ptr 2 0 0)),(7,(.own 3 0 r_11.1.length)),(8,(.int .i64 r_11.2)),(40,(.bool s40_16))],[.box 5 (.agg [(.int .i64 aJ_1.Kind),(.int .i64 aJ_1.N),(.str aJ_1.T),(.lst 1 (aJ_1.Keys.map AV.str)),(.lst 5 (aJ_1.Items.map l9))]),.row 3 (r_7.1.map o5),.box 5 (.agg [(.int .i64 r_9.Kind),(.int .i64 r_9.N),(.str r_9.T),(.own 4 0 r_9.Keys.length),(.own 5 0 r_9.Items.length)]),.row 3 (r_11.1.map o5),.row 1 (r_9.Keys.map AV.str),.row 5 (r_9.Items.map l9)]) ?_ ?_
  ·refine a0x ?_
   obtain ⟨r_18,er19,hb1⟩:=ob hb1
   rcases oi hb1 with ⟨c20,hb1⟩ | ⟨c20,hb1⟩
   ·refine l7 (.own 7 0 r_11.1.length) rfl<|l7 (.own 3 0 r_7.1.length) rfl<|a0b (a0s (a6l _ _ _ er19) rfl (.cons (.of_eq (congrArg (AV.lst _) (tko r_11.1))) (.cons (.of_eq (congrArg (AV.lst _) (tko r_7.1))) .nil)) rfl)<|x9 (.bool (!r_18)) rfl (.of trivial trivial) rfl<|l7 (.bool (!r_18)) rfl<|a0v (s:=36) (b:=true) rfl c20<|a0a rfl rfl<|a0a rfl rfl<|a0a rfl rfl<|x9 (.bool true) rfl (.of trivial trivial) rfl<|a0l<|?_;obtain rfl:=os hb1;exact ⟨[],[0,3,6,7,4,5],_,_,rfl,rfl,⟨.refl _,⟨.refl _,⟨.refl _,⟨.refl _,⟨.refl _,⟨.refl _,⟨.refl _,trivial⟩⟩⟩⟩⟩⟩⟩,(.refl _)⟩
   ·refine l7 (.own 7 0 r_11.1.length) rfl<|l7 (.own 3 0 r_7.1.length) rfl<|a0b (a0s (a6l _ _ _ er19) rfl (.cons (.of_eq (congrArg (AV.lst _) (tko r_11.1))) (.cons (.of_eq (congrArg (AV.lst _) (tko r_7.1))) .nil)) rfl)<|x9 (.bool (!r_18)) rfl (.of trivial trivial) rfl<|l7 (.bool (!r_18)) rfl<|a0v (s:=36) (b:=false) rfl (bf c20)<|s_on rfl<|l7 (.int .i64 r_11.2) rfl<|s_on rfl<|l7 (.int .i64 r_7.2) rfl<|s_on rfl<|x9 (.bool (r_11.2 != r_7.2)) rfl (.of rfl trivial) rfl<|x9 (.bool (r_11.2 != r_7.2)) rfl (.of trivial trivial) rfl<|a0l<|?_;obtain rfl:=os hb1;exact ⟨[],[0,3,6,7,4,5],_,_,rfl,rfl,⟨.refl _,⟨.refl _,⟨.refl _,⟨.refl _,⟨.refl _,⟨.refl _,⟨.refl _,trivial⟩⟩⟩⟩⟩⟩⟩,(.refl _)⟩
  ·rcases oi hf with ⟨c21,hf⟩ | ⟨c21,hf⟩
   ·refine y7 rfl c21<|sr<|l7 (.bool false) rfl<|dk<|a0c<|?_;obtain rfl:=os hf;exact a0h ⟨.of trivial trivial,trivial⟩ rfl (.refl _)
   ·refine y8 rfl (bf c21)<|a0k<|a0m<|o6<|sr<|?_
    obtain ⟨r_22,er23,hf⟩:=ob hf
    obtain ⟨r_24,er25,hf⟩:=ob hf
    refine x9 (.agg [(.int .i64 r_9.Kind),(.int .i64 r_9.N),(.str r_9.T),(.own 4 0 r_9.Keys.length),(.own 5 0 r_9.Items.length)]) rfl (.of nle trivial) rfl<|x9 (.agg [(.int .i64 aJ_1.Kind),(.int .i64 aJ_1.N),(.str aJ_1.T),(.lst 1 (aJ_1.Keys.map AV.str)),(.lst 5 (aJ_1.Items.map l9))]) rfl (.of nle trivial) rfl<|a5x (a4x (v:=(.agg [(.int .i64 r_22.Kind),(.int .i64 r_22.N),(.str r_22.T),(.own 6 0 r_22.Keys.length),(.own 7 0 r_22.Items.length)])) (h':=[.row 1 (r_22.Keys.map AV.str),.row 5 (r_22.Items.map l9)]) (a6z FUEL _ _ er23) rfl (.cons (.of_eq (o9 aJ_1).symm) .nil) (by simp only [a1n,a1y,List.length_map,o9,List.nil_append,List.append_nil,List.cons_append];rfl)) (.inr ⟨⟨(.of nle trivial),rfl⟩,trivial⟩) trivial<|?_
    refine a5x (a0s (b3j FUEL _ _ _ er25) rfl (.cons (leJ (x:=r_9) (.agg (.cons (.refl _) (.cons (.refl _) (.cons (.refl _) (.cons (.of_eq (congrArg (AV.lst _) (tko (enc:=AV.str) r_9.Keys))) (.cons (.of_eq (congrArg (AV.lst _) (tko (enc:=l9) r_9.Items))) .nil))))))) (.cons (leJ (x:=r_22) (.agg (.cons (.refl _) (.cons (.refl _) (.cons (.refl _) (.cons (.of_eq (congrArg (AV.lst _) (tko (enc:=AV.str) r_22.Keys))) (.cons (.of_eq (congrArg (AV.lst _) (tko (enc:=l9) r_22.Items))) .nil))))))) .nil)) rfl) b0f trivial<|x9 (.bool (!r_24)) rfl (.of trivial trivial) rfl<|dk<|?_
    rcases oi hf with ⟨c26,hf⟩ | ⟨c26,hf⟩
    ·refine y7 rfl c26<|sr<|l7 (.bool false) rfl<|dk<|a0c<|?_;obtain rfl:=os hf;exact a0h ⟨.of trivial trivial,trivial⟩ rfl (.refl _)
    ·refine y8 rfl (bf c26)<|a0k<|a0m<|sr<|l7 (.int .i64 1) rfl<|dk<|sr<|?_
     obtain ⟨r_27,er28,hf⟩:=ob hf
     refine x9 (.agg [(.int .i64 r_9.Kind),(.int .i64 r_9.N),(.str r_9.T),(.own 4 0 r_9.Keys.length),(.own 5 0 r_9.Items.length)]) rfl (.of nle trivial) rfl<|l7 (.int .i64 1) rfl<|?_;refine a1d (b1s (v:=(.int .i64 r_27.1)) (h2:=[.box 5 (.agg [(.int .i64 aJ_1.Kind),(.int .i64 aJ_1.N),(.str aJ_1.T),(.lst 1 (aJ_1.Keys.map AV.str)),(.lst 5 (aJ_1.Items.map l9))]),.row 3 (r_7.1.map o5),.box 5 (.agg [(.int .i64 r_9.Kind),(.int .i64 r_9.N),(.str r_9.T),(.own 4 0 r_9.Keys.length),(.own 5 0 r_9.Items.length)]),.row 3 (r_11.1.map o5),.row 1 (r_27.2.Keys.map AV.str),.row 5 (r_27.2.Items.map l9),.row 1 (r_22.Keys.map AV.str),.row 5 (r_22.Items.map l9)]) [] [4,5] (fun _ => rfl) (b7e _ _ _ er28) rfl (.refl _) (.refl _) rfl rfl) fun hl29 => ?_
     refine l7 (.int .i64 r_27.1) rfl<|dk<|o6<|o6<|?_
     obtain ⟨s61_33,hb1,hf⟩:=ob hf
     refine a2n ([(1,(.ptr 0 0 0)),(4,(.own 1 0 r_7.1.length)),(5,(.int .i64 r_7.2)),(7,(.own 2 0 r_11.1.length)),(61,(.bool s61_33))],[.box 5 (.agg [(.int .i64 aJ_1.Kind),(.int .i64 aJ_1.N),(.str aJ_1.T),(.lst 1 (aJ_1.Keys.map AV.str)),(.lst 5 (aJ_1.Items.map l9))]),.row 3 (r_7.1.map o5),.row 3 (r_11.1.map o5)]) ?_ ?_
     ·refine a0x<|l7 (.int .i64 r_27.1) rfl<|x9 (.bool (decide (r_27.1 < 0))) rfl (.of rfl trivial) rfl<|l7 (.bool (decide (r_27.1 < 0))) rfl<|?_
      rcases oi hb1 with ⟨c35,hb1⟩ | ⟨c35,hb1⟩
      ·refine a0v (s:=51) (b:=true) rfl c35<|a0a rfl rfl<|a0a rfl rfl<|a0a rfl rfl<|a0a rfl rfl<|x9 (.bool true) rfl (.of trivial trivial) rfl<|l7 (.bool true) rfl<|a0a rfl rfl<|a0a rfl rfl<|a0a rfl rfl<|x9 (.bool true) rfl (.of trivial trivial) rfl<|a0l<|?_;obtain rfl:=os hb1;exact ⟨[],[0,1,3],_,_,rfl,rfl,⟨.refl _,⟨.refl _,⟨.refl _,⟨.refl _,⟨.refl _,trivial⟩⟩⟩⟩⟩,(.refl _)⟩
      ·refine a0v (s:=51) (b:=false) rfl (bf c35)<|s_on rfl<|l7 (.own 3 0 r_11.1.length) rfl<|s_on rfl<|l7 (.own 1 0 r_7.1.length) rfl<|s_on rfl<|?_
       obtain ⟨r_36,er37,hb1⟩:=ob hb1
       refine a0b (a0s (a6l _ _ _ er37) rfl (.cons (.of_eq (congrArg (AV.lst _) (tko r_11.1))) (.cons (.of_eq (congrArg (AV.lst _) (tko r_7.1))) .nil)) rfl)<|s_on rfl<|x9 (.bool (!r_36)) rfl (.of trivial trivial) rfl<|x9 (.bool (!r_36)) rfl (.of trivial trivial) rfl<|l7 (.bool (!r_36)) rfl<|?_;refine s_g (v:=(!r_36)) (.int .i64 r_11.2) rfl (fun hv => by (try simp only [y9 hv]);exact ⟨rfl,.of trivial trivial,rfl⟩) ?_;refine s_g (v:=(!r_36)) (.int .i64 r_7.2) rfl (fun hv => by (try simp only [y9 hv]);exact ⟨rfl,.of trivial trivial,rfl⟩) ?_;refine s_g (v:=(!r_36)) (.bool (r_11.2 != r_7.2)) rfl (fun hv => by (try simp only [y9 hv]);exact ⟨rfl,(.of rfl trivial),rfl⟩) ?_
       refine a3g (x:=true) (y:=(r_11.2 != r_7.2)) rfl (fun hv => by (try simp only [y9 hv]);rfl) (fun hv => by (try simp only [y9 hv]);rfl) ?_;refine a0l ?_;obtain rfl:=os hb1;exact ⟨[],[0,1,3],_,_,rfl,rfl,⟨.refl _,⟨.refl _,⟨.refl _,⟨.refl _,⟨.refl _,trivial⟩⟩⟩⟩⟩,(.refl _)⟩
     ·rcases oi hf with ⟨c38,hf⟩ | ⟨c38,hf⟩
      ·refine y7 rfl c38<|sr<|l7 (.bool false) rfl<|dk<|a0c<|?_;obtain rfl:=os hf;exact a0h ⟨.of trivial trivial,trivial⟩ rfl (.refl _)
      ·refine y8 rfl (bf c38)<|a0k<|a0m<|sr<|l7 (.int .i64 1) rfl<|dk<|sr<|?_
       obtain ⟨r_39,er40,hf⟩:=ob hf
       refine l7 (.own 2 0 r_11.1.length) rfl<|l7 (.int .i64 1) rfl<|?_;refine a1d (b1s (v:=(.int .i64 r_39.1)) (h2:=[.box 5 (.agg [(.int .i64 aJ_1.Kind),(.int .i64 aJ_1.N),(.str aJ_1.T),(.lst 1 (aJ_1.Keys.map AV.str)),(.lst 5 (aJ_1.Items.map l9))]),.row 3 (r_7.1.map o5),.row 3 (r_39.2.map o5)]) [] [2] (fun _ => rfl) (b6h _ _ _ er40) rfl (.refl _) (.refl _) rfl rfl) fun hl41 => ?_;refine l7 (.int .i64 r_39.1) rfl<|dk<|sr<|l7 (.int .i64 1) rfl<|dk<|sr<|?_
       obtain ⟨r_42,er43,hf⟩:=ob hf
       refine l7 (.own 2 0 r_11.1.length) rfl<|l7 (.int .i64 1) rfl<|a0b (a0s (b0n _ _ _ er43) rfl (.cons (.of_eq (congrArg (AV.lst _) (d4u (hl41 0 _ _ _ _ rfl rfl)))) (.cons (.refl _) .nil)) rfl)<|l7 (.int .i64 r_42) rfl<|dk<|o6<|sr<|l7 (.int .i64 r_42) rfl<|x9 (.bool (decide (r_42 < 0))) rfl (.of rfl trivial) rfl<|dk<|?_
       rcases oi hf with ⟨c44,hf⟩ | ⟨c44,hf⟩
       ·refine y7 rfl c44<|sr<|l7 (.bool false) rfl<|dk<|a0c<|?_;obtain rfl:=os hf;exact a0h ⟨.of trivial trivial,trivial⟩ rfl (.refl _)
       ·refine y8 rfl (bf c44)<|a0k<|a0m<|o6<|sr<|l7 (.int .i64 r_42) rfl<|l7 (.int .i64 r_39.1) rfl<|x9 (.bool (r_42 != r_39.1)) rfl (.of rfl trivial) rfl<|dk<|?_
        rcases oi hf with ⟨c45,hf⟩ | ⟨c45,hf⟩
        ·refine y7 rfl c45<|sr<|l7 (.bool false) rfl<|dk<|a0c<|?_;obtain rfl:=os hf;exact a0h ⟨.of trivial trivial,trivial⟩ rfl (.refl _)
        ·refine y8 rfl (bf c45)<|a0k<|a0m<|sr<|?_
         obtain ⟨r_46,er47,hf⟩:=ob hf
         obtain ⟨r_48,er49,hf⟩:=ob hf
         refine x9 (.agg [(.int .i64 aJ_1.Kind),(.int .i64 aJ_1.N),(.str aJ_1.T),(.lst 1 (aJ_1.Keys.map AV.str)),(.lst 5 (aJ_1.Items.map l9))]) rfl (.of nle trivial) rfl<|a0b (a4x (v:=(.agg [(.int .i64 r_46.Kind),(.int .i64 r_46.N),(.str r_46.T),(.own 3 0 r_46.Keys.length),(.own 4 0 r_46.Items.length)])) (h':=[.row 1 (r_46.Keys.map AV.str),.row 5 (r_46.Items.map l9)]) (a6z FUEL _ _ er47) rfl (.cons (.of_eq (o9 aJ_1).symm) .nil) (by simp only [a1n,a1y,List.length_map,o9,List.nil_append,List.append_nil,List.cons_append];rfl))<|a0b (a4x (v:=(.tup [(.own 5 0 r_48.1.length),(.int .i64 r_48.2)])) (h':=[.row 3 (r_48.1.map o5)]) (b0l _ _ er49) rfl (.cons (leJ (x:=r_46) (.agg (.cons (.refl _) (.cons (.refl _) (.cons (.refl _) (.cons (.of_eq (congrArg (AV.lst _) (tko (enc:=AV.str) r_46.Keys))) (.cons (.of_eq (congrArg (AV.lst _) (tko (enc:=l9) r_46.Items))) .nil))))))) .nil) (by simp only [a1n,a1y,List.length_map,List.nil_append,List.append_nil,List.cons_append];rfl))<|?_
         refine l7 (.tup [(.own 5 0 r_48.1.length),(.int .i64 r_48.2)]) rfl<|x9 (.own 5 0 r_48.1.length) rfl (.of nle trivial) rfl<|x9 (.int .i64 r_48.2) rfl (.of nle trivial) rfl<|l7 (.own 5 0 r_48.1.length) rfl<|l7 (.int .i64 r_48.2) rfl<|dk<|o6<|o6<|?_
         obtain ⟨s87_53,hb1,hf⟩:=ob hf
         refine a2n ([(7,(.own 0 0 r_39.2.length)),(10,(.int .i64 r_39.1)),(87,(.bool s87_53))],[.row 3 (r_39.2.map o5)]) ?_ ?_
         ·refine a0x ?_
          obtain ⟨r_55,er56,hb1⟩:=ob hb1
          rcases oi hb1 with ⟨c57,hb1⟩ | ⟨c57,hb1⟩
          ·refine l7 (.own 5 0 r_48.1.length) rfl<|l7 (.own 1 0 r_7.1.length) rfl<|a0b (a0s (a6l _ _ _ er56) rfl (.cons (.of_eq (congrArg (AV.lst _) (tko r_48.1))) (.cons (.of_eq (congrArg (AV.lst _) (tko r_7.1))) .nil)) rfl)<|x9 (.bool (!r_55)) rfl (.of trivial trivial) rfl<|l7 (.bool (!r_55)) rfl<|a0v (s:=83) (b:=true) rfl c57<|a0a rfl rfl<|a0a rfl rfl<|a0a rfl rfl<|x9 (.bool true) rfl (.of trivial trivial) rfl<|a0l<|?_;obtain rfl:=os hb1;exact ⟨[],[2],_,_,rfl,rfl,⟨.of_eq (congrArg (AV.own _ 0) (by have h:=(hl41 0 _ _ _ _ rfl rfl);simpa using h.symm)),⟨.refl _,⟨.refl _,trivial⟩⟩⟩,(.refl _)⟩
          ·refine l7 (.own 5 0 r_48.1.length) rfl<|l7 (.own 1 0 r_7.1.length) rfl<|a0b (a0s (a6l _ _ _ er56) rfl (.cons (.of_eq (congrArg (AV.lst _) (tko r_48.1))) (.cons (.of_eq (congrArg (AV.lst _) (tko r_7.1))) .nil)) rfl)<|x9 (.bool (!r_55)) rfl (.of trivial trivial) rfl<|l7 (.bool (!r_55)) rfl<|a0v (s:=83) (b:=false) rfl (bf c57)<|s_on rfl<|l7 (.int .i64 r_48.2) rfl<|s_on rfl<|l7 (.int .i64 r_7.2) rfl<|s_on rfl<|x9 (.bool (r_48.2 != r_7.2)) rfl (.of rfl trivial) rfl<|x9 (.bool (r_48.2 != r_7.2)) rfl (.of trivial trivial) rfl<|a0l<|?_;obtain rfl:=os hb1;exact ⟨[],[2],_,_,rfl,rfl,⟨.of_eq (congrArg (AV.own _ 0) (by have h:=(hl41 0 _ _ _ _ rfl rfl);simpa using h.symm)),⟨.refl _,⟨.refl _,trivial⟩⟩⟩,(.refl _)⟩
         ·rcases oi hf with ⟨c58,hf⟩ | ⟨c58,hf⟩
          ·refine y7 rfl c58<|sr<|l7 (.bool false) rfl<|dk<|a0c<|?_;obtain rfl:=os hf;exact a0h ⟨.of trivial trivial,trivial⟩ rfl (.refl _)
          ·refine y8 rfl (bf c58)<|a0k<|a0m<|sr<|l7 (.int .i64 1) rfl<|dk<|sr<|?_
           obtain ⟨r_59,er60,hf⟩:=ob hf
           refine l7 (.own 0 0 r_39.2.length) rfl<|l7 (.int .i64 1) rfl<|a0b (a0s (b0n _ _ _ er60) rfl (.cons (.of_eq (congrArg (AV.lst _) (tko r_39.2))) (.cons (.refl _) .nil)) rfl)<|l7 (.int .i64 r_59) rfl<|dk<|o6<|sr<|l7 (.int .i64 r_59) rfl<|x9 (.bool (decide (r_59 < 0))) rfl (.of rfl trivial) rfl<|dk<|?_
           rcases oi hf with ⟨c61,hf⟩ | ⟨c61,hf⟩
           ·refine y7 rfl c61<|sr<|l7 (.bool false) rfl<|dk<|a0c<|?_;obtain rfl:=os hf;exact a0h ⟨.of trivial trivial,trivial⟩ rfl (.refl _)
           ·refine y8 rfl (bf c61)<|a0k<|a0m<|o6<|sr<|l7 (.int .i64 r_59) rfl<|l7 (.int .i64 r_39.1) rfl<|x9 (.bool (r_59 != r_39.1)) rfl (.of rfl trivial) rfl<|dk<|?_
            rcases oi hf with ⟨c62,hf⟩ | ⟨c62,hf⟩
            ·refine y7 rfl c62<|sr<|l7 (.bool false) rfl<|dk<|a0c<|?_;obtain rfl:=os hf;exact a0h ⟨.of trivial trivial,trivial⟩ rfl (.refl _)
            ·refine y8 rfl (bf c62)<|a0k<|a0m<|sr<|l7 (.bool true) rfl<|dk<|a0c<|?_;obtain rfl:=os hf;exact a0h ⟨.of trivial trivial,trivial⟩ rfl (.refl _)

end Go.R
