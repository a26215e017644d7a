/- Walks. -/
import Derived.Test.YtgdkfnndbknjpaaJD1
set_option linter.all false
namespace Go.R
open Go Go.Proofs
set_option linter.unusedVariables false
set_option linter.unusedSimpArgs false
set_option maxHeartbeats 8000000
/- impl.areKeys -/
def c49:a0p :=
 (.seq (.reg (tm 2 (.c (.bool false)) .done))
 (.seq (.seq (.reg (tm 5 (.t 0) (tq 6 (.len (.t 5)) (tm 7 (.c (.int .i64 0)) .done))))
 (.block 0 (.loop (.seq (.reg (tq 8 (.bin .lss (.t 7) (.t 6)) .done))
 (.seq (.cond (.t 8) .skip
 (.exit 0))
 (.seq (.block 1 (.seq (.reg (tm 9 (.t 7) (tq 10 (.iaddr 1 (.t 5) (.t 7)) (tq 11 (.load 1 false (.t 10)) (tm 3 (.t 9) (tm 4 (.t 11) .done))))))
 (.seq (.reg (tm 12 (.t 4) (tq 13 (.call 48 [(.t 12)]) (tq 14 (.not (.t 13)) (tm 15 (.t 14) (tg 16 15 false (.mov (.t 3)) (tg 17 15 false (.bin .gtr (.t 16) (.c (.int .i64 0))) (tg 18 15 false (.mov (.t 17)) (tg 19 18 true (.mov (.t 0)) (tg 20 18 true (.mov (.t 3)) (tg 21 18 true (.bin .sub (.t 20) (.c (.int .i64 1))) (tg 22 18 true (.iaddr 1 (.t 19) (.t 21)) (tg 23 18 true (.load 1 false (.t 22)) (tg 24 18 true (.mov (.t 4)) (tg 25 18 true (.bin .geq (.t 23) (.t 24)) (tg 26 15 false (.pick (.t 18) (.t 25) (.c (.bool false))) (tq 27 (.pick (.t 15) (.c (.bool true)) (.t 26)) .done)))))))))))))))))
 (.cut (.cond (.t 27) (.seq (.reg (tm 2 (.c (.bool false)) .done))
 .ret)
 .skip)))))
 (.reg (tq 28 (.bin .add (.t 7) (.c (.int .i64 1))) (tm 7 (.t 28) .done)))))))))
 (.cut (.seq (.reg (tm 2 (.c (.bool true)) .done))
 .ret))))
theorem d5s:a1f Try.prog Try.f49 = some (c49.erase,[.mov (.t 2)],29):=by kernel_rfl
def a2f (keys_1:(List Str)):List Str → Nat → Option (Fl Bool Unit)
  | [],s7_40 =>
    some (.go ())
  | x_66 :: xs,s7_40 =>
    (((a5n x_66).bind fun r_75 =>
    if (!r_75) then
    some true
    else
    if (decide ((s7_40:Int) > 0)) then
    (idx keys_1 (w64 ((s7_40:Int) - 1))).bind fun x_79 =>
    some (!Op.bytesLess x_79 x_66)
    else
    some false:Option Bool)).bind fun s27_73 =>
    if s27_73 then
    some (.ret false)
    else
    a2f keys_1 xs (s7_40 + 1)

def a7y (keys_1:(List Str)):Option Bool :=
    (a2f keys_1 keys_1 0).bind fun q => (match q with
    | .ret r => some r
    | .go _ =>
    some true)
theorem b8u (keys_1:(List Str)) (r:Bool) (hf:a7y keys_1 = some r):a0d Try.prog 49 .flat [(.lst 1 (keys_1.map AV.str))] (.bool r):=by
 refine a0d.of_awp mixed Try.func49 d5s nle ?_;rw [a0q];unfold a7y at hf;unfold c49;refine (show awp Try.prog false 0 _ (ofL [(0,(.lst 1 (keys_1.map AV.str)))]) [] _ from ?_);refine sr<|l7 (.bool false) rfl<|dk<|o6<|sr<|l7 (.lst 1 (keys_1.map AV.str)) rfl<|a1d (a2q (enc:=AV.str) rfl) fun hl2 => l7 (.int .i64 0) rfl<|dk<|?_
 obtain ⟨p59,hb1,hf⟩:=ob hf
 refine a3f (X:={q:Unit // p59 = .go q}) (fun q => ([],[])) ?_ ?_
 ·refine a1o (X:={q:Nat // a2f keys_1 (keys_1.drop q) q = some p59}) (fun q => ([(0,(.lst 1 (keys_1.map AV.str))),(5,(.lst 1 (keys_1.map AV.str))),(6,(.int .i64 (keys_1.length:Int))),(7,(.int .i64 (q.1:Int)))],[])) (fun q => keys_1.length - q.1) ⟨0,hb1⟩ ⟨[],[],_,_,rfl,rfl,⟨.refl _,⟨.refl _,⟨.refl _,⟨.refl _,trivial⟩⟩⟩⟩,(.refl _)⟩ ?_
  rintro ⟨s7_40,hc1⟩
  have hc1:a2f keys_1 (keys_1.drop s7_40) s7_40 = some p59:=hc1
  refine (show awp Try.prog false 0 _ (ofL [(0,(.lst 1 (keys_1.map AV.str))),(5,(.lst 1 (keys_1.map AV.str))),(6,(.int .i64 (keys_1.length:Int))),(7,(.int .i64 (s7_40:Int)))]) [] _ from ?_)
  rcases a7n keys_1 s7_40 with ⟨hie62,hd65⟩ | ⟨hlt60,x_66,hx61,hd65⟩
  ·rw [hd65,a2f.eq_1] at hc1
   have hq64:=dlf hie62
   refine sr<|x9 (.bool (decide ((s7_40:Int) < (keys_1.length:Int)))) rfl rfl rfl<|dk<|o6<|y8 rfl hq64<|a3x<|a3w<|a2o<|a3v<|?_;obtain rfl:=os hc1;exact a3u ⟨_,rfl⟩ ⟨[],[],_,_,rfl,rfl,trivial,(.refl _)⟩
  ·rw [hd65,a2f.eq_2] at hc1
   have hq64:=dlt hlt60
   refine sr<|x9 (.bool (decide ((s7_40:Int) < (keys_1.length:Int)))) rfl rfl rfl<|dk<|o6<|y7 rfl hq64<|a0k<|a0m<|o6<|a4a<|sr<|l7 (.int .i64 (s7_40:Int)) rfl<|a0b (a3a (enc:=AV.str) rfl rfl hx61)<|x9 (.str x_66) rfl ⟨rfl,rfl⟩ rfl<|l7 (.int .i64 (s7_40:Int)) rfl<|l7 (.str x_66) rfl<|dk<|o6<|?_
   obtain ⟨s27_73,hb2,hc1⟩:=ob hc1
   refine a2n ([(0,(.lst 1 (keys_1.map AV.str))),(5,(.lst 1 (keys_1.map AV.str))),(6,(.int .i64 (keys_1.length:Int))),(7,(.int .i64 (s7_40:Int))),(27,(.bool s27_73))],[]) ?_ ?_
   ·refine a0x<|l7 (.str x_66) rfl<|?_
    obtain ⟨r_75,er76,hb2⟩:=ob hb2
    refine a0b (a0s (a9t _ _ er76) rfl (.refl _) rfl)<|x9 (.bool (!r_75)) rfl trivial rfl<|l7 (.bool (!r_75)) rfl<|?_
    rcases oi hb2 with ⟨c77,hb2⟩ | ⟨c77,hb2⟩
    ·refine a0v (s:=15) (b:=true) rfl c77<|a0a rfl rfl<|a0a rfl rfl<|a0a rfl rfl<|a1z rfl<|a1z rfl<|a1z rfl<|a1z rfl<|a1z rfl<|a1z rfl<|a1z rfl<|a0a rfl rfl<|x9 (.bool true) rfl trivial rfl<|a0l<|?_;obtain rfl:=os hb2;exact ⟨[],[],_,_,rfl,rfl,⟨.refl _,⟨.refl _,⟨.refl _,⟨.refl _,⟨.refl _,trivial⟩⟩⟩⟩⟩,(.refl _)⟩
    ·refine a0v (s:=15) (b:=false) rfl (bf c77)<|s_on rfl<|l7 (.int .i64 (s7_40:Int)) rfl<|s_on rfl<|x9 (.bool (decide ((s7_40:Int) > 0))) rfl rfl rfl<|s_on rfl<|l7 (.bool (decide ((s7_40:Int) > 0))) rfl<|?_
     rcases oi hb2 with ⟨c78,hb2⟩ | ⟨c78,hb2⟩
     ·refine a0v (s:=18) (b:=true) rfl c78<|s_on rfl<|l7 (.lst 1 (keys_1.map AV.str)) rfl<|s_on rfl<|l7 (.int .i64 (s7_40:Int)) rfl<|s_on rfl<|x9 (.int .i64 (w64 ((s7_40:Int) - 1))) rfl rfl rfl<|s_on rfl<|?_
      obtain ⟨x_79,ex80,hb2⟩:=ob hb2
      refine a0b (a5c (enc:=AV.str) rfl rfl (b4b ex80) (b4c ex80))<|s_on rfl<|x9 (.str x_79) rfl ⟨rfl,rfl⟩ rfl<|s_on rfl<|l7 (.str x_66) rfl<|s_on rfl<|x9 (.bool (!Op.bytesLess x_79 x_66)) rfl trivial rfl<|s_on rfl<|x9 (.bool (!Op.bytesLess x_79 x_66)) rfl trivial rfl<|x9 (.bool (!Op.bytesLess x_79 x_66)) rfl trivial rfl<|a0l<|?_;obtain rfl:=os hb2;exact ⟨[],[],_,_,rfl,rfl,⟨.refl _,⟨.refl _,⟨.refl _,⟨.refl _,⟨.refl _,trivial⟩⟩⟩⟩⟩,(.refl _)⟩
     ·refine a0v (s:=18) (b:=false) rfl (bf c78)<|a0a rfl rfl<|a0a rfl rfl<|a0a rfl rfl<|a0a rfl rfl<|a0a rfl rfl<|a0a rfl rfl<|a0a rfl rfl<|s_on rfl<|x9 (.bool false) rfl trivial rfl<|x9 (.bool false) rfl trivial rfl<|a0l<|?_;obtain rfl:=os hb2;exact ⟨[],[],_,_,rfl,rfl,⟨.refl _,⟨.refl _,⟨.refl _,⟨.refl _,⟨.refl _,trivial⟩⟩⟩⟩⟩,(.refl _)⟩
   ·rcases oi hc1 with ⟨c81,hc1⟩ | ⟨c81,hc1⟩
    ·refine y7 rfl c81<|sr<|l7 (.bool false) rfl<|dk<|a0c<|?_;obtain rfl:=os hc1;obtain rfl:=os hf;exact a0h ⟨trivial,trivial⟩ rfl (.refl _)
    ·refine y8 rfl (bf c81)<|a0k<|a2y<|a0m<|a0x<|x9 (.int .i64 (w64 ((s7_40:Int) + 1))) rfl rfl rfl<|l7 (.int .i64 (w64 ((s7_40:Int) + 1))) rfl<|a0l<|?_;exact a2g ⟨(s7_40 + 1),hc1⟩ (mul hlt60) ⟨[],[],_,_,rfl,rfl,⟨.refl _,⟨.refl _,⟨.refl _,⟨.of_eq (congrArg (AV.int _) (a2z hlt60 hl2)),trivial⟩⟩⟩⟩,(.refl _)⟩
 ·rintro ⟨_,rfl⟩
  refine sr<|l7 (.bool true) rfl<|dk<|a0c<|?_;obtain rfl:=os hf;exact a0h ⟨trivial,trivial⟩ rfl (.refl _)

/- (impl.Json).partOK -/
def c39:a0p :=
 (.seq (.reg (tq 1 (.box 5 (.t 0)) (tm 2 (.c (.bool false)) .done)))
 (.seq (.seq (.reg (tq 3 (.faddr 0 (.t 1)) (tq 4 (.load 1 false (.t 3)) .done)))
 (.block 0 (.seq (.reg (tq 6 (.bin .eql (.t 4) (.c (.int .i64 0))) (tm 5 (.t 6) .done)))
 (.cond (.t 5) (.seq (.reg (tq 7 (.faddr 1 (.t 1)) (tq 8 (.load 1 false (.t 7)) (tq 9 (.bin .eql (.t 8) (.c (.int .i64 0))) (tm 10 (.t 9) (tg 11 10 true (.faddr 2 (.t 1)) (tg 12 10 true (.load 1 false (.t 11)) (tg 13 10 true (.bin .eql (.t 12) (.c (.str []))) (tq 14 (.pick (.t 10) (.t 13) (.c (.bool false))) (tm 15 (.t 14) (tg 16 15 true (.faddr 3 (.t 1)) (tg 17 15 true (.load 1 false (.t 16)) (tg 18 15 true (.len (.t 17)) (tg 19 15 true (.bin .eql (.t 18) (.c (.int .i64 0))) (tq 20 (.pick (.t 15) (.t 19) (.c (.bool false))) (tm 21 (.t 20) (tg 22 21 true (.faddr 4 (.t 1)) (tg 23 21 true (.load 1 false (.t 22)) (tg 24 21 true (.len (.t 23)) (tg 25 21 true (.bin .eql (.t 24) (.c (.int .i64 0))) (tq 26 (.pick (.t 21) (.t 25) (.c (.bool false))) (tm 2 (.t 26) .done))))))))))))))))))))))
 .ret)
 (.seq (.reg (tq 28 (.bin .eql (.t 4) (.c (.int .i64 1))) (tm 27 (.t 28) .done)))
 (.cond (.t 27) (.seq (.reg (tq 29 (.faddr 1 (.t 1)) (tq 30 (.load 1 false (.t 29)) (tq 31 (.call 46 [(.t 30),(.c (.int .i64 0)),(.c (.int .i64 1))]) (tm 32 (.t 31) (tg 33 32 true (.faddr 2 (.t 1)) (tg 34 32 true (.load 1 false (.t 33)) (tg 35 32 true (.bin .eql (.t 34) (.c (.str []))) (tq 36 (.pick (.t 32) (.t 35) (.c (.bool false))) (tm 37 (.t 36) (tg 38 37 true (.faddr 3 (.t 1)) (tg 39 37 true (.load 1 false (.t 38)) (tg 40 37 true (.len (.t 39)) (tg 41 37 true (.bin .eql (.t 40) (.c (.int .i64 0))) (tq 42 (.pick (.t 37) (.t 41) (.c (.bool false))) (tm 43 (.t 42) (tg 44 43 true (.faddr 4 (.t 1)) (tg 45 43 true (.load 1 false (.t 44)) (tg 46 43 true (.len (.t 45)) (tg 47 43 true (.bin .eql (.t 46) (.c (.int .i64 0))) (tq 48 (.pick (.t 43) (.t 47) (.c (.bool false))) (tm 2 (.t 48) .done))))))))))))))))))))))
 .ret)
 (.seq (.reg (tq 50 (.bin .eql (.t 4) (.c (.int .i64 2))) (tm 49 (.t 50) .done)))
 (.cond (.t 49) (.seq (.reg (tq 51 (.faddr 1 (.t 1)) (tq 52 (.load 1 false (.t 51)) (tq 53 (.call 47 [(.t 52)]) (tm 54 (.t 53) (tg 55 54 true (.faddr 2 (.t 1)) (tg 56 54 true (.load 1 false (.t 55)) (tg 57 54 true (.bin .eql (.t 56) (.c (.str []))) (tq 58 (.pick (.t 54) (.t 57) (.c (.bool false))) (tm 59 (.t 58) (tg 60 59 true (.faddr 3 (.t 1)) (tg 61 59 true (.load 1 false (.t 60)) (tg 62 59 true (.len (.t 61)) (tg 63 59 true (.bin .eql (.t 62) (.c (.int .i64 0))) (tq 64 (.pick (.t 59) (.t 63) (.c (.bool false))) (tm 65 (.t 64) (tg 66 65 true (.faddr 4 (.t 1)) (tg 67 65 true (.load 1 false (.t 66)) (tg 68 65 true (.len (.t 67)) (tg 69 65 true (.bin .eql (.t 68) (.c (.int .i64 0))) (tq 70 (.pick (.t 65) (.t 69) (.c (.bool false))) (tm 2 (.t 70) .done))))))))))))))))))))))
 .ret)
 (.seq (.reg (tq 72 (.bin .eql (.t 4) (.c (.int .i64 3))) (tm 71 (.t 72) .done)))
 (.cond (.t 71) (.seq (.reg (tq 73 (.faddr 1 (.t 1)) (tq 74 (.load 1 false (.t 73)) (tq 75 (.bin .eql (.t 74) (.c (.int .i64 0))) (tm 76 (.t 75) (tg 77 76 true (.faddr 2 (.t 1)) (tg 78 76 true (.load 1 false (.t 77)) (tg 79 76 true (.call 48 [(.t 78)]) (tq 80 (.pick (.t 76) (.t 79) (.c (.bool false))) (tm 81 (.t 80) (tg 82 81 true (.faddr 3 (.t 1)) (tg 83 81 true (.load 1 false (.t 82)) (tg 84 81 true (.len (.t 83)) (tg 85 81 true (.bin .eql (.t 84) (.c (.int .i64 0))) (tq 86 (.pick (.t 81) (.t 85) (.c (.bool false))) (tm 87 (.t 86) (tg 88 87 true (.faddr 4 (.t 1)) (tg 89 87 true (.load 1 false (.t 88)) (tg 90 87 true (.len (.t 89)) (tg 91 87 true (.bin .eql (.t 90) (.c (.int .i64 0))) (tq 92 (.pick (.t 87) (.t 91) (.c (.bool false))) (tm 2 (.t 92) .done))))))))))))))))))))))
 .ret)
 (.seq (.reg (tq 94 (.bin .eql (.t 4) (.c (.int .i64 4))) (tm 93 (.t 94) .done)))
 (.cond (.t 93) (.seq (.reg (tq 95 (.faddr 1 (.t 1)) (tq 96 (.load 1 false (.t 95)) (tq 97 (.bin .eql (.t 96) (.c (.int .i64 0))) (tm 98 (.t 97) (tg 99 98 true (.faddr 2 (.t 1)) (tg 100 98 true (.load 1 false (.t 99)) (tg 101 98 true (.bin .eql (.t 100) (.c (.str []))) (tq 102 (.pick (.t 98) (.t 101) (.c (.bool false))) (tm 103 (.t 102) (tg 104 103 true (.faddr 3 (.t 1)) (tg 105 103 true (.load 1 false (.t 104)) (tg 106 103 true (.len (.t 105)) (tg 107 103 true (.bin .eql (.t 106) (.c (.int .i64 0))) (tq 108 (.pick (.t 103) (.t 107) (.c (.bool false))) (tm 2 (.t 108) .done))))))))))))))))
 .ret)
 (.seq (.reg (tq 110 (.bin .eql (.t 4) (.c (.int .i64 5))) (tm 109 (.t 110) .done)))
 (.cond (.t 109) (.seq (.reg (tq 111 (.faddr 1 (.t 1)) (tq 112 (.load 1 false (.t 111)) (tq 113 (.bin .eql (.t 112) (.c (.int .i64 0))) (tm 114 (.t 113) (tg 115 114 true (.faddr 2 (.t 1)) (tg 116 114 true (.load 1 false (.t 115)) (tg 117 114 true (.bin .eql (.t 116) (.c (.str []))) (tq 118 (.pick (.t 114) (.t 117) (.c (.bool false))) (tm 119 (.t 118) (tg 120 119 true (.faddr 3 (.t 1)) (tg 121 119 true (.load 1 false (.t 120)) (tg 122 119 true (.len (.t 121)) (tg 123 119 true (.faddr 4 (.t 1)) (tg 124 119 true (.load 1 false (.t 123)) (tg 125 119 true (.len (.t 124)) (tg 126 119 true (.bin .eql (.t 122) (.t 125)) (tq 127 (.pick (.t 119) (.t 126) (.c (.bool false))) (tm 128 (.t 127) (tg 129 128 true (.faddr 3 (.t 1)) (tg 130 128 true (.load 1 false (.t 129)) (tg 131 128 true (.call 49 [(.t 130)]) (tq 132 (.pick (.t 128) (.t 131) (.c (.bool false))) (tm 2 (.t 132) .done))))))))))))))))))))))))
 .ret)
 .skip))))))))))))))
 (.seq (.reg (tm 2 (.c (.bool false)) .done))
 .ret)))
theorem d5t:a1f Try.prog Try.f39 = some (c39.erase,[.mov (.t 2)],133):=by kernel_rfl
def a5e (j_1:o8):Option Bool :=
    if (j_1.Kind == 0) then
    some (bif (bif (bif (j_1.N == 0) then (j_1.T == []) else false) then ((j_1.Keys.length:Int) == 0) else false) then ((j_1.Items.length:Int) == 0) else false)
    else
    if (j_1.Kind == 1) then
    (a5k j_1.N 0 1).bind fun r_6 =>
    some (bif (bif (bif r_6 then (j_1.T == []) else false) then ((j_1.Keys.length:Int) == 0) else false) then ((j_1.Items.length:Int) == 0) else false)
    else
    if (j_1.Kind == 2) then
    (a5t j_1.N).bind fun r_11 =>
    some (bif (bif (bif r_11 then (j_1.T == []) else false) then ((j_1.Keys.length:Int) == 0) else false) then ((j_1.Items.length:Int) == 0) else false)
    else
    if (j_1.Kind == 3) then
    if (j_1.N == 0) then
    (a5n j_1.T).bind fun r_17 =>
    some (bif (bif r_17 then ((j_1.Keys.length:Int) == 0) else false) then ((j_1.Items.length:Int) == 0) else false)
    else
    some false
    else
    if (j_1.Kind == 4) then
    some (bif (bif (j_1.N == 0) then (j_1.T == []) else false) then ((j_1.Keys.length:Int) == 0) else false)
    else
    if (j_1.Kind == 5) then
    if (bif (bif (j_1.N == 0) then (j_1.T == []) else false) then ((j_1.Keys.length:Int) == (j_1.Items.length:Int)) else false) then
    (a7y j_1.Keys).bind fun r_27 =>
    some r_27
    else
    some false
    else
    some false
theorem b4e (j_1:o8) (r:Bool) (hf:a5e j_1 = some r):a0d Try.prog 39 .flat [(l9 j_1)] (.bool r):=by
 refine a0d.of_awp mixed Try.func39 d5t nle ?_;rw [a0q];rw [o9 j_1];unfold a5e at hf;unfold c39;refine (show awp Try.prog false 0 _ (ofL [(0,(.agg [(.int .i64 j_1.Kind),(.int .i64 j_1.N),(.str j_1.T),(.lst 1 (j_1.Keys.map AV.str)),(.lst 5 (j_1.Items.map l9))]))]) [] _ from ?_);refine sr<|a0b (a1p (j:=0) (c:=(.agg [(.int .i64 j_1.Kind),(.int .i64 j_1.N),(.str j_1.T),(.lst 1 (j_1.Keys.map AV.str)),(.lst 5 (j_1.Items.map l9))])) rfl trivial rfl rfl)<|l7 (.bool false) rfl<|dk<|o6<|sr<|x9 (.ptr 0 0 0) rfl trivial rfl<|x9 (.int .i64 j_1.Kind) rfl nle rfl<|dk<|a4a<|sr<|?_
 refine x9 (.bool (j_1.Kind == 0)) rfl rfl rfl<|l7 (.bool (j_1.Kind == 0)) rfl<|dk<|?_
 rcases oi hf with ⟨c2,hf⟩ | ⟨c2,hf⟩
 ·refine y7 rfl c2<|sr<|x9 (.ptr 0 0 1) rfl trivial rfl<|x9 (.int .i64 j_1.N) rfl nle rfl<|x9 (.bool (j_1.N == 0)) rfl rfl rfl<|l7 (.bool (j_1.N == 0)) rfl<|?_;refine s_g (v:=(j_1.N == 0)) (.ptr 0 0 2) rfl (fun hv => by (try simp only [y9 hv]);exact ⟨rfl,trivial,rfl⟩) ?_;refine s_g (v:=(j_1.N == 0)) (.str j_1.T) rfl (fun hv => by (try simp only [y9 hv]);exact ⟨rfl,nle,rfl⟩) ?_;refine s_g (v:=(j_1.N == 0)) (.bool (j_1.T == [])) rfl (fun hv => by (try simp only [y9 hv]);exact ⟨rfl,trivial,rfl⟩) ?_;refine a3g (x:=(j_1.T == [])) (y:=false) rfl (fun hv => by (try simp only [y9 hv]);rfl) (fun hv => by (try simp only [y9 hv]);rfl) ?_;refine l7 (.bool (bif (j_1.N == 0) then (j_1.T == []) else false)) rfl ?_
  refine s_g (v:=(bif (j_1.N == 0) then (j_1.T == []) else false)) (.ptr 0 0 3) rfl (fun hv => by (try simp only [y9 hv]);exact ⟨rfl,trivial,rfl⟩) ?_;refine s_g (v:=(bif (j_1.N == 0) then (j_1.T == []) else false)) (.lst 1 (j_1.Keys.map AV.str)) rfl (fun hv => by (try simp only [y9 hv]);exact ⟨rfl,nle,rfl⟩) ?_;refine s_g (v:=(bif (j_1.N == 0) then (j_1.T == []) else false)) (.int .i64 (j_1.Keys.length:Int)) rfl (fun hv => by (try simp only [y9 hv]);exact ⟨rfl,trivial,lenV _ _⟩) ?_;refine s_g (v:=(bif (j_1.N == 0) then (j_1.T == []) else false)) (.bool ((j_1.Keys.length:Int) == 0)) rfl (fun hv => by (try simp only [y9 hv]);exact ⟨rfl,rfl,rfl⟩) ?_;refine a3g (x:=((j_1.Keys.length:Int) == 0)) (y:=false) rfl (fun hv => by (try simp only [y9 hv]);rfl) (fun hv => by (try simp only [y9 hv]);rfl) ?_
  refine l7 (.bool (bif (bif (j_1.N == 0) then (j_1.T == []) else false) then ((j_1.Keys.length:Int) == 0) else false)) rfl ?_;refine s_g (v:=(bif (bif (j_1.N == 0) then (j_1.T == []) else false) then ((j_1.Keys.length:Int) == 0) else false)) (.ptr 0 0 4) rfl (fun hv => by (try simp only [y9 hv]);exact ⟨rfl,trivial,rfl⟩) ?_;refine s_g (v:=(bif (bif (j_1.N == 0) then (j_1.T == []) else false) then ((j_1.Keys.length:Int) == 0) else false)) (.lst 5 (j_1.Items.map l9)) rfl (fun hv => by (try simp only [y9 hv]);exact ⟨rfl,nle,rfl⟩) ?_;refine s_g (v:=(bif (bif (j_1.N == 0) then (j_1.T == []) else false) then ((j_1.Keys.length:Int) == 0) else false)) (.int .i64 (j_1.Items.length:Int)) rfl (fun hv => by (try simp only [y9 hv]);exact ⟨rfl,trivial,lenV _ _⟩) ?_
  refine s_g (v:=(bif (bif (j_1.N == 0) then (j_1.T == []) else false) then ((j_1.Keys.length:Int) == 0) else false)) (.bool ((j_1.Items.length:Int) == 0)) rfl (fun hv => by (try simp only [y9 hv]);exact ⟨rfl,rfl,rfl⟩) ?_;refine a3g (x:=((j_1.Items.length:Int) == 0)) (y:=false) rfl (fun hv => by (try simp only [y9 hv]);rfl) (fun hv => by (try simp only [y9 hv]);rfl) ?_;refine l7 (.bool (bif (bif (bif (j_1.N == 0) then (j_1.T == []) else false) then ((j_1.Keys.length:Int) == 0) else false) then ((j_1.Items.length:Int) == 0) else false)) rfl<|dk<|a0c<|?_;obtain rfl:=os hf;exact a0h ⟨trivial,trivial⟩ rfl (.refl _)
 ·refine y8 rfl (bf c2)<|sr<|x9 (.bool (j_1.Kind == 1)) rfl rfl rfl<|l7 (.bool (j_1.Kind == 1)) rfl<|dk<|?_
  rcases oi hf with ⟨c5,hf⟩ | ⟨c5,hf⟩
  ·refine y7 rfl c5<|sr<|x9 (.ptr 0 0 1) rfl trivial rfl<|x9 (.int .i64 j_1.N) rfl nle rfl<|?_
   obtain ⟨r_6,er7,hf⟩:=ob hf
   refine a0b (a0s (a7b _ _ _ _ er7) rfl (.refl _) rfl)<|l7 (.bool r_6) rfl<|?_;refine s_g (v:=r_6) (.ptr 0 0 2) rfl (fun hv => by (try simp only [y9 hv]);exact ⟨rfl,trivial,rfl⟩) ?_;refine s_g (v:=r_6) (.str j_1.T) rfl (fun hv => by (try simp only [y9 hv]);exact ⟨rfl,nle,rfl⟩) ?_;refine s_g (v:=r_6) (.bool (j_1.T == [])) rfl (fun hv => by (try simp only [y9 hv]);exact ⟨rfl,trivial,rfl⟩) ?_;refine a3g (x:=(j_1.T == [])) (y:=false) rfl (fun hv => by (try simp only [y9 hv]);rfl) (fun hv => by (try simp only [y9 hv]);rfl) ?_;refine l7 (.bool (bif r_6 then (j_1.T == []) else false)) rfl ?_;refine s_g (v:=(bif r_6 then (j_1.T == []) else false)) (.ptr 0 0 3) rfl (fun hv => by (try simp only [y9 hv]);exact ⟨rfl,trivial,rfl⟩) ?_
   refine s_g (v:=(bif r_6 then (j_1.T == []) else false)) (.lst 1 (j_1.Keys.map AV.str)) rfl (fun hv => by (try simp only [y9 hv]);exact ⟨rfl,nle,rfl⟩) ?_;refine s_g (v:=(bif r_6 then (j_1.T == []) else false)) (.int .i64 (j_1.Keys.length:Int)) rfl (fun hv => by (try simp only [y9 hv]);exact ⟨rfl,trivial,lenV _ _⟩) ?_;refine s_g (v:=(bif r_6 then (j_1.T == []) else false)) (.bool ((j_1.Keys.length:Int) == 0)) rfl (fun hv => by (try simp only [y9 hv]);exact ⟨rfl,rfl,rfl⟩) ?_;refine a3g (x:=((j_1.Keys.length:Int) == 0)) (y:=false) rfl (fun hv => by (try simp only [y9 hv]);rfl) (fun hv => by (try simp only [y9 hv]);rfl) ?_;refine l7 (.bool (bif (bif r_6 then (j_1.T == []) else false) then ((j_1.Keys.length:Int) == 0) else false)) rfl ?_
   refine s_g (v:=(bif (bif r_6 then (j_1.T == []) else false) then ((j_1.Keys.length:Int) == 0) else false)) (.ptr 0 0 4) rfl (fun hv => by (try simp only [y9 hv]);exact ⟨rfl,trivial,rfl⟩) ?_;refine s_g (v:=(bif (bif r_6 then (j_1.T == []) else false) then ((j_1.Keys.length:Int) == 0) else false)) (.lst 5 (j_1.Items.map l9)) rfl (fun hv => by (try simp only [y9 hv]);exact ⟨rfl,nle,rfl⟩) ?_;refine s_g (v:=(bif (bif r_6 then (j_1.T == []) else false) then ((j_1.Keys.length:Int) == 0) else false)) (.int .i64 (j_1.Items.length:Int)) rfl (fun hv => by (try simp only [y9 hv]);exact ⟨rfl,trivial,lenV _ _⟩) ?_;refine s_g (v:=(bif (bif r_6 then (j_1.T == []) else false) then ((j_1.Keys.length:Int) == 0) else false)) (.bool ((j_1.Items.length:Int) == 0)) rfl (fun hv => by (try simp only [y9 hv]);exact ⟨rfl,rfl,rfl⟩) ?_
   refine a3g (x:=((j_1.Items.length:Int) == 0)) (y:=false) rfl (fun hv => by (try simp only [y9 hv]);rfl) (fun hv => by (try simp only [y9 hv]);rfl) ?_;refine l7 (.bool (bif (bif (bif r_6 then (j_1.T == []) else false) then ((j_1.Keys.length:Int) == 0) else false) then ((j_1.Items.length:Int) == 0) else false)) rfl<|dk<|a0c<|?_;obtain rfl:=os hf;exact a0h ⟨trivial,trivial⟩ rfl (.refl _)
  ·refine y8 rfl (bf c5)<|sr<|x9 (.bool (j_1.Kind == 2)) rfl rfl rfl<|l7 (.bool (j_1.Kind == 2)) rfl<|dk<|?_
   rcases oi hf with ⟨c10,hf⟩ | ⟨c10,hf⟩
   ·refine y7 rfl c10<|sr<|x9 (.ptr 0 0 1) rfl trivial rfl<|x9 (.int .i64 j_1.N) rfl nle rfl<|?_
    obtain ⟨r_11,er12,hf⟩:=ob hf
    refine a0b (a0s (a8v _ _ er12) rfl (.refl _) rfl)<|l7 (.bool r_11) rfl<|?_;refine s_g (v:=r_11) (.ptr 0 0 2) rfl (fun hv => by (try simp only [y9 hv]);exact ⟨rfl,trivial,rfl⟩) ?_;refine s_g (v:=r_11) (.str j_1.T) rfl (fun hv => by (try simp only [y9 hv]);exact ⟨rfl,nle,rfl⟩) ?_;refine s_g (v:=r_11) (.bool (j_1.T == [])) rfl (fun hv => by (try simp only [y9 hv]);exact ⟨rfl,trivial,rfl⟩) ?_;refine a3g (x:=(j_1.T == [])) (y:=false) rfl (fun hv => by (try simp only [y9 hv]);rfl) (fun hv => by (try simp only [y9 hv]);rfl) ?_;refine l7 (.bool (bif r_11 then (j_1.T == []) else false)) rfl ?_;refine s_g (v:=(bif r_11 then (j_1.T == []) else false)) (.ptr 0 0 3) rfl (fun hv => by (try simp only [y9 hv]);exact ⟨rfl,trivial,rfl⟩) ?_
    refine s_g (v:=(bif r_11 then (j_1.T == []) else false)) (.lst 1 (j_1.Keys.map AV.str)) rfl (fun hv => by (try simp only [y9 hv]);exact ⟨rfl,nle,rfl⟩) ?_;refine s_g (v:=(bif r_11 then (j_1.T == []) else false)) (.int .i64 (j_1.Keys.length:Int)) rfl (fun hv => by (try simp only [y9 hv]);exact ⟨rfl,trivial,lenV _ _⟩) ?_;refine s_g (v:=(bif r_11 then (j_1.T == []) else false)) (.bool ((j_1.Keys.length:Int) == 0)) rfl (fun hv => by (try simp only [y9 hv]);exact ⟨rfl,rfl,rfl⟩) ?_;refine a3g (x:=((j_1.Keys.length:Int) == 0)) (y:=false) rfl (fun hv => by (try simp only [y9 hv]);rfl) (fun hv => by (try simp only [y9 hv]);rfl) ?_;refine l7 (.bool (bif (bif r_11 then (j_1.T == []) else false) then ((j_1.Keys.length:Int) == 0) else false)) rfl ?_
    refine s_g (v:=(bif (bif r_11 then (j_1.T == []) else false) then ((j_1.Keys.length:Int) == 0) else false)) (.ptr 0 0 4) rfl (fun hv => by (try simp only [y9 hv]);exact ⟨rfl,trivial,rfl⟩) ?_;refine s_g (v:=(bif (bif r_11 then (j_1.T == []) else false) then ((j_1.Keys.length:Int) == 0) else false)) (.lst 5 (j_1.Items.map l9)) rfl (fun hv => by (try simp only [y9 hv]);exact ⟨rfl,nle,rfl⟩) ?_;refine s_g (v:=(bif (bif r_11 then (j_1.T == []) else false) then ((j_1.Keys.length:Int) == 0) else false)) (.int .i64 (j_1.Items.length:Int)) rfl (fun hv => by (try simp only [y9 hv]);exact ⟨rfl,trivial,lenV _ _⟩) ?_;refine s_g (v:=(bif (bif r_11 then (j_1.T == []) else false) then ((j_1.Keys.length:Int) == 0) else false)) (.bool ((j_1.Items.length:Int) == 0)) rfl (fun hv => by (try simp only [y9 hv]);exact ⟨rfl,rfl,rfl⟩) ?_
    refine a3g (x:=((j_1.Items.length:Int) == 0)) (y:=false) rfl (fun hv => by (try simp only [y9 hv]);rfl) (fun hv => by (try simp only [y9 hv]);rfl) ?_;refine l7 (.bool (bif (bif (bif r_11 then (j_1.T == []) else false) then ((j_1.Keys.length:Int) == 0) else false) then ((j_1.Items.length:Int) == 0) else false)) rfl<|dk<|a0c<|?_;obtain rfl:=os hf;exact a0h ⟨trivial,trivial⟩ rfl (.refl _)
   ·refine y8 rfl (bf c10)<|sr<|x9 (.bool (j_1.Kind == 3)) rfl rfl rfl<|l7 (.bool (j_1.Kind == 3)) rfl<|dk<|?_
    rcases oi hf with ⟨c15,hf⟩ | ⟨c15,hf⟩
    ·refine y7 rfl c15<|sr<|x9 (.ptr 0 0 1) rfl trivial rfl<|x9 (.int .i64 j_1.N) rfl nle rfl<|x9 (.bool (j_1.N == 0)) rfl rfl rfl<|l7 (.bool (j_1.N == 0)) rfl<|?_
     rcases oi hf with ⟨c16,hf⟩ | ⟨c16,hf⟩
     ·refine a0v (s:=76) (b:=true) rfl c16<|s_on rfl<|x9 (.ptr 0 0 2) rfl trivial rfl<|s_on rfl<|x9 (.str j_1.T) rfl nle rfl<|s_on rfl<|?_
      obtain ⟨r_17,er18,hf⟩:=ob hf
      refine a0b (a0s (a9t _ _ er18) rfl (.refl _) rfl)<|x9 (.bool r_17) rfl trivial rfl<|l7 (.bool r_17) rfl<|?_;refine s_g (v:=r_17) (.ptr 0 0 3) rfl (fun hv => by (try simp only [y9 hv]);exact ⟨rfl,trivial,rfl⟩) ?_;refine s_g (v:=r_17) (.lst 1 (j_1.Keys.map AV.str)) rfl (fun hv => by (try simp only [y9 hv]);exact ⟨rfl,nle,rfl⟩) ?_;refine s_g (v:=r_17) (.int .i64 (j_1.Keys.length:Int)) rfl (fun hv => by (try simp only [y9 hv]);exact ⟨rfl,trivial,lenV _ _⟩) ?_;refine s_g (v:=r_17) (.bool ((j_1.Keys.length:Int) == 0)) rfl (fun hv => by (try simp only [y9 hv]);exact ⟨rfl,rfl,rfl⟩) ?_;refine a3g (x:=((j_1.Keys.length:Int) == 0)) (y:=false) rfl (fun hv => by (try simp only [y9 hv]);rfl) (fun hv => by (try simp only [y9 hv]);rfl) ?_
      refine l7 (.bool (bif r_17 then ((j_1.Keys.length:Int) == 0) else false)) rfl ?_;refine s_g (v:=(bif r_17 then ((j_1.Keys.length:Int) == 0) else false)) (.ptr 0 0 4) rfl (fun hv => by (try simp only [y9 hv]);exact ⟨rfl,trivial,rfl⟩) ?_;refine s_g (v:=(bif r_17 then ((j_1.Keys.length:Int) == 0) else false)) (.lst 5 (j_1.Items.map l9)) rfl (fun hv => by (try simp only [y9 hv]);exact ⟨rfl,nle,rfl⟩) ?_;refine s_g (v:=(bif r_17 then ((j_1.Keys.length:Int) == 0) else false)) (.int .i64 (j_1.Items.length:Int)) rfl (fun hv => by (try simp only [y9 hv]);exact ⟨rfl,trivial,lenV _ _⟩) ?_;refine s_g (v:=(bif r_17 then ((j_1.Keys.length:Int) == 0) else false)) (.bool ((j_1.Items.length:Int) == 0)) rfl (fun hv => by (try simp only [y9 hv]);exact ⟨rfl,rfl,rfl⟩) ?_
      refine a3g (x:=((j_1.Items.length:Int) == 0)) (y:=false) rfl (fun hv => by (try simp only [y9 hv]);rfl) (fun hv => by (try simp only [y9 hv]);rfl) ?_;refine l7 (.bool (bif (bif r_17 then ((j_1.Keys.length:Int) == 0) else false) then ((j_1.Items.length:Int) == 0) else false)) rfl<|dk<|a0c<|?_;obtain rfl:=os hf;exact a0h ⟨trivial,trivial⟩ rfl (.refl _)
     ·refine a0v (s:=76) (b:=false) rfl (bf c16)<|a0a rfl rfl<|a0a rfl rfl<|a0a rfl rfl<|x9 (.bool false) rfl trivial rfl<|l7 (.bool false) rfl<|a0a rfl rfl<|a0a rfl rfl<|a0a rfl rfl<|a0a rfl rfl<|x9 (.bool false) rfl trivial rfl<|l7 (.bool false) rfl<|a0a rfl rfl<|a0a rfl rfl<|a0a rfl rfl<|a0a rfl rfl<|x9 (.bool false) rfl trivial rfl<|l7 (.bool false) rfl<|dk<|a0c<|?_;obtain rfl:=os hf;exact a0h ⟨trivial,trivial⟩ rfl (.refl _)
    ·refine y8 rfl (bf c15)<|sr<|x9 (.bool (j_1.Kind == 4)) rfl rfl rfl<|l7 (.bool (j_1.Kind == 4)) rfl<|dk<|?_
     rcases oi hf with ⟨c21,hf⟩ | ⟨c21,hf⟩
     ·refine y7 rfl c21<|sr<|x9 (.ptr 0 0 1) rfl trivial rfl<|x9 (.int .i64 j_1.N) rfl nle rfl<|x9 (.bool (j_1.N == 0)) rfl rfl rfl<|l7 (.bool (j_1.N == 0)) rfl<|?_;refine s_g (v:=(j_1.N == 0)) (.ptr 0 0 2) rfl (fun hv => by (try simp only [y9 hv]);exact ⟨rfl,trivial,rfl⟩) ?_;refine s_g (v:=(j_1.N == 0)) (.str j_1.T) rfl (fun hv => by (try simp only [y9 hv]);exact ⟨rfl,nle,rfl⟩) ?_;refine s_g (v:=(j_1.N == 0)) (.bool (j_1.T == [])) rfl (fun hv => by (try simp only [y9 hv]);exact ⟨rfl,trivial,rfl⟩) ?_;refine a3g (x:=(j_1.T == [])) (y:=false) rfl (fun hv => by (try simp only [y9 hv]);rfl) (fun hv => by (try simp only [y9 hv]);rfl) ?_;refine l7 (.bool (bif (j_1.N == 0) then (j_1.T == []) else false)) rfl ?_
      refine s_g (v:=(bif (j_1.N == 0) then (j_1.T == []) else false)) (.ptr 0 0 3) rfl (fun hv => by (try simp only [y9 hv]);exact ⟨rfl,trivial,rfl⟩) ?_;refine s_g (v:=(bif (j_1.N == 0) then (j_1.T == []) else false)) (.lst 1 (j_1.Keys.map AV.str)) rfl (fun hv => by (try simp only [y9 hv]);exact ⟨rfl,nle,rfl⟩) ?_;refine s_g (v:=(bif (j_1.N == 0) then (j_1.T == []) else false)) (.int .i64 (j_1.Keys.length:Int)) rfl (fun hv => by (try simp only [y9 hv]);exact ⟨rfl,trivial,lenV _ _⟩) ?_;refine s_g (v:=(bif (j_1.N == 0) then (j_1.T == []) else false)) (.bool ((j_1.Keys.length:Int) == 0)) rfl (fun hv => by (try simp only [y9 hv]);exact ⟨rfl,rfl,rfl⟩) ?_;refine a3g (x:=((j_1.Keys.length:Int) == 0)) (y:=false) rfl (fun hv => by (try simp only [y9 hv]);rfl) (fun hv => by (try simp only [y9 hv]);rfl) ?_
      refine l7 (.bool (bif (bif (j_1.N == 0) then (j_1.T == []) else false) then ((j_1.Keys.length:Int) == 0) else false)) rfl<|dk<|a0c<|?_;obtain rfl:=os hf;exact a0h ⟨trivial,trivial⟩ rfl (.refl _)
     ·refine y8 rfl (bf c21)<|sr<|x9 (.bool (j_1.Kind == 5)) rfl rfl rfl<|l7 (.bool (j_1.Kind == 5)) rfl<|dk<|?_
      rcases oi hf with ⟨c23,hf⟩ | ⟨c23,hf⟩
      ·refine y7 rfl c23<|sr<|x9 (.ptr 0 0 1) rfl trivial rfl<|x9 (.int .i64 j_1.N) rfl nle rfl<|x9 (.bool (j_1.N == 0)) rfl rfl rfl<|l7 (.bool (j_1.N == 0)) rfl<|?_;refine s_g (v:=(j_1.N == 0)) (.ptr 0 0 2) rfl (fun hv => by (try simp only [y9 hv]);exact ⟨rfl,trivial,rfl⟩) ?_;refine s_g (v:=(j_1.N == 0)) (.str j_1.T) rfl (fun hv => by (try simp only [y9 hv]);exact ⟨rfl,nle,rfl⟩) ?_;refine s_g (v:=(j_1.N == 0)) (.bool (j_1.T == [])) rfl (fun hv => by (try simp only [y9 hv]);exact ⟨rfl,trivial,rfl⟩) ?_;refine a3g (x:=(j_1.T == [])) (y:=false) rfl (fun hv => by (try simp only [y9 hv]);rfl) (fun hv => by (try simp only [y9 hv]);rfl) ?_;refine l7 (.bool (bif (j_1.N == 0) then (j_1.T == []) else false)) rfl ?_
       refine s_g (v:=(bif (j_1.N == 0) then (j_1.T == []) else false)) (.ptr 0 0 3) rfl (fun hv => by (try simp only [y9 hv]);exact ⟨rfl,trivial,rfl⟩) ?_;refine s_g (v:=(bif (j_1.N == 0) then (j_1.T == []) else false)) (.lst 1 (j_1.Keys.map AV.str)) rfl (fun hv => by (try simp only [y9 hv]);exact ⟨rfl,nle,rfl⟩) ?_;refine s_g (v:=(bif (j_1.N == 0) then (j_1.T == []) else false)) (.int .i64 (j_1.Keys.length:Int)) rfl (fun hv => by (try simp only [y9 hv]);exact ⟨rfl,trivial,lenV _ _⟩) ?_;refine s_g (v:=(bif (j_1.N == 0) then (j_1.T == []) else false)) (.ptr 0 0 4) rfl (fun hv => by (try simp only [y9 hv]);exact ⟨rfl,trivial,rfl⟩) ?_;refine s_g (v:=(bif (j_1.N == 0) then (j_1.T == []) else false)) (.lst 5 (j_1.Items.map l9)) rfl (fun hv => by (try simp only [y9 hv]);exact ⟨rfl,nle,rfl⟩) ?_
       refine s_g (v:=(bif (j_1.N == 0) then (j_1.T == []) else false)) (.int .i64 (j_1.Items.length:Int)) rfl (fun hv => by (try simp only [y9 hv]);exact ⟨rfl,trivial,lenV _ _⟩) ?_;refine s_g (v:=(bif (j_1.N == 0) then (j_1.T == []) else false)) (.bool ((j_1.Keys.length:Int) == (j_1.Items.length:Int))) rfl (fun hv => by (try simp only [y9 hv]);exact ⟨rfl,rfl,rfl⟩) ?_;refine a3g (x:=((j_1.Keys.length:Int) == (j_1.Items.length:Int))) (y:=false) rfl (fun hv => by (try simp only [y9 hv]);rfl) (fun hv => by (try simp only [y9 hv]);rfl) ?_;refine l7 (.bool (bif (bif (j_1.N == 0) then (j_1.T == []) else false) then ((j_1.Keys.length:Int) == (j_1.Items.length:Int)) else false)) rfl ?_
       rcases oi hf with ⟨c26,hf⟩ | ⟨c26,hf⟩
       ·refine a0v (s:=128) (b:=true) rfl c26<|s_on rfl<|x9 (.ptr 0 0 3) rfl trivial rfl<|s_on rfl<|x9 (.lst 1 (j_1.Keys.map AV.str)) rfl nle rfl<|s_on rfl<|?_
        obtain ⟨r_27,er28,hf⟩:=ob hf
        refine a0b (a0s (b8u _ _ er28) rfl (.refl _) rfl)<|x9 (.bool r_27) rfl trivial rfl<|l7 (.bool r_27) rfl<|dk<|a0c<|?_;obtain rfl:=os hf;exact a0h ⟨trivial,trivial⟩ rfl (.refl _)
       ·refine a0v (s:=128) (b:=false) rfl (bf c26)<|a0a rfl rfl<|a0a rfl rfl<|a0a rfl rfl<|x9 (.bool false) rfl trivial rfl<|l7 (.bool false) rfl<|dk<|a0c<|?_;obtain rfl:=os hf;exact a0h ⟨trivial,trivial⟩ rfl (.refl _)
      ·refine y8 rfl (bf c23)<|a0k<|a2y<|a0m<|sr<|l7 (.bool false) rfl<|dk<|a0c<|?_;obtain rfl:=os hf;exact a0h ⟨trivial,trivial⟩ rfl (.refl _)

/- (impl.Json).rightIn$1 -/
def c9w:a0p :=
 (.seq (.reg (tq 3 (.box 5 (.t 0)) (tm 4 (.c (.bool false)) .done)))
 (.seq (.reg (tq 5 (.load 5 true (.t 3)) (tq 6 (.load 1 false (.t 1)) (tq 7 (.bin .add (.t 6) (.c (.int .i64 1))) (tq 8 (.load 1 false (.t 2)) (tq 9 (.call 31 [(.t 5),(.t 7),(.t 8)]) (tq 10 (.not (.t 9)) (tm 4 (.t 10) .done))))))))
 .ret))
theorem d1l:a1f Try.prog Try.f41 = some (c9w.erase,[.mov (.t 4)],11):=by kernel_rfl
def a4f (rec:(o8 → Int → Int → Option (Bool × Int))) (item_1:o8) (c_2:Int) (c_3:Int):Option (Bool × Int × Int) :=
    (rec item_1 (w64 (c_2 + 1)) c_3).bind fun r_4 =>
    some ((!r_4.1),c_2,r_4.2)
theorem b0h (rec:(o8 → Int → Int → Option (Bool × Int))) (hrec:∀ a0 a1 a2 r,rec a0 a1 a2 = some r → a0r Try.prog false 31 [(l9 a0),(.int .i64 a1),(.ptr 0 0 0)] [.box 1 (.int .i64 a2)] (.bool r.1) [.box 1 (.int .i64 r.2)]) (item_1:o8) (c_2:Int) (c_3:Int) (r:(Bool × Int × Int)) (hf:a4f rec item_1 c_2 c_3 = some r):a0r Try.prog false 41 [(l9 item_1),(.ptr 0 0 0),(.ptr 1 0 0)] [.box 1 (.int .i64 c_2),.box 1 (.ptr 2 0 0),.box 1 (.int .i64 c_3)] (.bool r.1) [.box 1 (.int .i64 r.2.1),.box 1 (.ptr 2 0 0),.box 1 (.int .i64 r.2.2)]:=by
 refine a0r.of_awp mixed Try.func41 d1l nle ?_;rw [a0q];rw [o9 item_1];unfold a4f at hf;unfold c9w;refine (show awp Try.prog false 3 _ (ofL [(0,(.agg [(.int .i64 item_1.Kind),(.int .i64 item_1.N),(.str item_1.T),(.lst 1 (item_1.Keys.map AV.str)),(.lst 5 (item_1.Items.map l9))])),(1,(.ptr 0 0 0)),(2,(.ptr 1 0 0))]) [.box 1 (.int .i64 c_2),.box 1 (.ptr 2 0 0),.box 1 (.int .i64 c_3)] _ from ?_);refine sr<|a0b (a1p (j:=3) (c:=(.agg [(.int .i64 item_1.Kind),(.int .i64 item_1.N),(.str item_1.T),(.lst 1 (item_1.Keys.map AV.str)),(.lst 5 (item_1.Items.map l9))])) rfl trivial rfl rfl)<|l7 (.bool false) rfl<|dk<|o6<|?_
 refine a0x ?_
 obtain ⟨r_4,er5,hf⟩:=ob hf
 refine x9 (.agg [(.int .i64 item_1.Kind),(.int .i64 item_1.N),(.str item_1.T),(.lst 1 (item_1.Keys.map AV.str)),(.lst 5 (item_1.Items.map l9))]) rfl nle rfl<|x9 (.int .i64 c_2) rfl ⟨rfl,rfl⟩ rfl<|x9 (.int .i64 (w64 (c_2 + 1))) rfl rfl rfl<|x9 (.ptr 2 0 0) rfl ⟨rfl,rfl⟩ rfl<|?_;refine a0b (b2r (v:=(.bool r_4.1)) (h2:=[.box 1 (.int .i64 c_2),.box 1 (.ptr 2 0 0),.box 1 (.int .i64 r_4.2),.box 5 (.agg [(.int .i64 item_1.Kind),(.int .i64 item_1.N),(.str item_1.T),(.lst 1 (item_1.Keys.map AV.str)),(.lst 5 (item_1.Items.map l9))])]) [] [2] (fun _ => rfl) (hrec _ _ _ _ er5) rfl (.cons (.of_eq (o9 item_1).symm) (.cons (.refl _) (.cons (.refl _) .nil))) (.refl _) rfl rfl) ?_
 refine x9 (.bool (!r_4.1)) rfl trivial rfl<|l7 (.bool (!r_4.1)) rfl<|dk<|a0c<|?_;obtain rfl:=os hf;exact a6d [] [0,1,2] rfl ⟨trivial,trivial⟩ rfl (.refl _) (.refl _)

/- slices.IndexFunc[[]impl.Json,impl.Json] -/
def c9x:a0p :=
 (.seq (.reg (tm 4 (.c (.int .i64 0)) .done))
 (.seq (.seq (.reg (tm 6 (.t 0) (tq 7 (.len (.t 6)) (tm 8 (.c (.int .i64 0)) .done))))
 (.block 0 (.loop (.seq (.reg (tq 9 (.bin .lss (.t 8) (.t 7)) .done))
 (.seq (.cond (.t 9) .skip
 (.exit 0))
 (.seq (.block 1 (.seq (.reg (tm 10 (.t 8) (tm 5 (.t 10) .done)))
 (.seq (.reg (tm 11 (.t 1) (tm 12 (.t 0) (tm 13 (.t 5) (tq 14 (.iaddr 5 (.t 12) (.t 13)) (tq 15 (.load 5 true (.t 14)) (tq 16 (.calv (.t 11) [(.t 15)]) .done)))))))
 (.cond (.t 16) (.seq (.reg (tm 17 (.t 5) (tm 4 (.t 17) .done)))
 .ret)
 .skip))))
 (.reg (tq 18 (.bin .add (.t 8) (.c (.int .i64 1))) (tm 8 (.t 18) .done)))))))))
 (.cut (.seq (.reg (tq 4 (.mov (.c (.int .i64 (-1)))) .done))
 .ret))))
theorem d1m:a1f Try.prog Try.f50 = some (c9x.erase,[.mov (.t 4)],19):=by kernel_rfl
def a0i (rec:(o8 → Int → Int → Option (Bool × Int))):List o8 → Nat → Int → Int → Option (Fl (Int × Int × Int) (Int × Int))
  | [],s8_20,x_21,x_22 =>
    some (.go (x_21,x_22))
  | x_38 :: xs,s8_20,x_21,x_22 =>
    (a4f rec x_38 x_21 x_22).bind fun r_39 =>
    if r_39.1 then
    some (.ret ((s8_20:Int),r_39.2.1,r_39.2.2))
    else
    a0i rec xs (s8_20 + 1) r_39.2.1 r_39.2.2

def a1g (rec:(o8 → Int → Int → Option (Bool × Int))) (s_1:(List o8)) (c_2:Int) (c_3:Int):Option (Int × Int × Int) :=
    (a0i rec s_1 0 c_2 c_3).bind fun q => (match q with
    | .ret r => some r
    | .go (x_29,x_30) =>
    some ((-1),x_29,x_30))
theorem a5s (rec:(o8 → Int → Int → Option (Bool × Int))) (hrec:∀ a0 a1 a2 r,rec a0 a1 a2 = some r → a0r Try.prog false 31 [(l9 a0),(.int .i64 a1),(.ptr 0 0 0)] [.box 1 (.int .i64 a2)] (.bool r.1) [.box 1 (.int .i64 r.2)]) (s_1:(List o8)) (c_2:Int) (c_3:Int) (r:(Int × Int × Int)) (hf:a1g rec s_1 c_2 c_3 = some r):a0r Try.prog false 50 [(.lst 5 (s_1.map l9)),(.fn 41 [(.ptr 0 0 0),(.ptr 1 0 0)])] [.box 1 (.int .i64 c_2),.box 1 (.ptr 2 0 0),.box 1 (.int .i64 c_3)] (.int .i64 r.1) [.box 1 (.int .i64 r.2.1),.box 1 (.ptr 2 0 0),.box 1 (.int .i64 r.2.2)]:=by
 refine a0r.of_awp mixed Try.func50 d1m nle ?_;rw [a0q];unfold a1g at hf;unfold c9x;refine (show awp Try.prog false 3 _ (ofL [(0,(.lst 5 (s_1.map l9))),(1,(.fn 41 [(.ptr 0 0 0),(.ptr 1 0 0)]))]) [.box 1 (.int .i64 c_2),.box 1 (.ptr 2 0 0),.box 1 (.int .i64 c_3)] _ from ?_);refine sr<|l7 (.int .i64 0) rfl<|dk<|o6<|sr<|l7 (.lst 5 (s_1.map l9)) rfl<|a1d (a2q (enc:=l9) rfl) fun hl4 => l7 (.int .i64 0) rfl<|dk<|?_
 obtain ⟨p31,hb1,hf⟩:=ob hf
 refine a3f (X:={q:(Int × Int) // p31 = .go q}) (fun q => ([],[.box 1 (.int .i64 q.1.1),.box 1 (.ptr 2 0 0),.box 1 (.int .i64 q.1.2)])) ?_ ?_
 ·refine a1o (X:={q:(Nat × Int × Int) // a0i rec (s_1.drop q.1) q.1 q.2.1 q.2.2 = some p31}) (fun q => ([(0,(.lst 5 (s_1.map l9))),(1,(.fn 41 [(.ptr 0 0 0),(.ptr 1 0 0)])),(7,(.int .i64 (s_1.length:Int))),(8,(.int .i64 (q.1.1:Int)))],[.box 1 (.int .i64 q.1.2.1),.box 1 (.ptr 2 0 0),.box 1 (.int .i64 q.1.2.2)])) (fun q => s_1.length - q.1.1) ⟨(0,c_2,c_3),hb1⟩ ⟨[],[0,1,2],_,_,rfl,rfl,⟨.refl _,⟨.refl _,⟨.refl _,⟨.refl _,trivial⟩⟩⟩⟩,(.refl _)⟩ ?_
  rintro ⟨⟨s8_20,x_21,x_22⟩,hc1⟩
  have hc1:a0i rec (s_1.drop s8_20) s8_20 x_21 x_22 = some p31:=hc1
  refine (show awp Try.prog false 3 _ (ofL [(0,(.lst 5 (s_1.map l9))),(1,(.fn 41 [(.ptr 0 0 0),(.ptr 1 0 0)])),(7,(.int .i64 (s_1.length:Int))),(8,(.int .i64 (s8_20:Int)))]) [.box 1 (.int .i64 x_21),.box 1 (.ptr 2 0 0),.box 1 (.int .i64 x_22)] _ from ?_)
  rcases a7n s_1 s8_20 with ⟨hie34,hd37⟩ | ⟨hlt32,x_38,hx33,hd37⟩
  ·rw [hd37,a0i.eq_1] at hc1
   have hq36:=dlf hie34
   refine sr<|x9 (.bool (decide ((s8_20:Int) < (s_1.length:Int)))) rfl rfl rfl<|dk<|o6<|y8 rfl hq36<|a3x<|a3w<|a2o<|a3v<|?_;obtain rfl:=os hc1;exact a3u ⟨_,rfl⟩ ⟨[],[0,1,2],_,_,rfl,rfl,trivial,(.refl _)⟩
  ·rw [hd37,a0i.eq_2] at hc1
   have hq36:=dlt hlt32
   refine sr<|x9 (.bool (decide ((s8_20:Int) < (s_1.length:Int)))) rfl rfl rfl<|dk<|o6<|y7 rfl hq36<|a0k<|a0m<|o6<|a4a<|sr<|l7 (.int .i64 (s8_20:Int)) rfl<|l7 (.int .i64 (s8_20:Int)) rfl<|dk<|sr<|?_
   obtain ⟨r_39,er40,hc1⟩:=ob hc1
   refine l7 (.fn 41 [(.ptr 0 0 0),(.ptr 1 0 0)]) rfl<|l7 (.lst 5 (s_1.map l9)) rfl<|l7 (.int .i64 (s8_20:Int)) rfl<|a0b (a3a (enc:=l9) rfl rfl hx33)<|a0b (a4w (v:=(.agg [(.int .i64 x_38.Kind),(.int .i64 x_38.N),(.str x_38.T),(.lst 1 (x_38.Keys.map AV.str)),(.lst 5 (x_38.Items.map l9))])) rfl (o9 _) nle rfl)<|?_;refine a0b (d1f (v:=(.bool r_39.1)) (h2:=[.box 1 (.int .i64 r_39.2.1),.box 1 (.ptr 2 0 0),.box 1 (.int .i64 r_39.2.2)]) [] [0,1,2] (fun _ => rfl) rfl (by kernel_rfl) (b0h rec hrec _ _ _ _ er40) rfl rfl (.cons (.of_eq (o9 x_38).symm) (.cons (.refl _) (.cons (.refl _) .nil))) (.refl _) rfl rfl) ?_
   refine dk<|?_
   rcases oi hc1 with ⟨c41,hc1⟩ | ⟨c41,hc1⟩
   ·refine y7 rfl c41<|sr<|l7 (.int .i64 (s8_20:Int)) rfl<|l7 (.int .i64 (s8_20:Int)) rfl<|dk<|a0c<|?_;obtain rfl:=os hc1;obtain rfl:=os hf;exact a6d [] [0,1,2] rfl ⟨trivial,trivial⟩ rfl (.refl _) (.refl _)
   ·refine y8 rfl (bf c41)<|a0k<|a2y<|a0m<|a0x<|x9 (.int .i64 (w64 ((s8_20:Int) + 1))) rfl rfl rfl<|l7 (.int .i64 (w64 ((s8_20:Int) + 1))) rfl<|a0l<|?_;exact a2g ⟨((s8_20 + 1),r_39.2.1,r_39.2.2),hc1⟩ (mul hlt32) ⟨[],[0,1,2],_,_,rfl,rfl,⟨.refl _,⟨.refl _,⟨.refl _,⟨.of_eq (congrArg (AV.int _) (a2z hlt32 hl4)),trivial⟩⟩⟩⟩,(.refl _)⟩
 ·rintro ⟨⟨x_29,x_30⟩,rfl⟩
  refine sr<|l7 (.int .i64 (-1)) rfl<|dk<|a0c<|?_;obtain rfl:=os hf;exact a6d [] [0,1,2] rfl ⟨trivial,trivial⟩ rfl (.refl _) (.refl _)

/- slices.ContainsFunc[[]impl.Json,impl.Json] -/
def c9y:a0p :=
 (.seq (.reg (tm 4 (.c (.bool false)) .done))
 (.seq (.reg (tm 5 (.t 0) (tm 6 (.t 1) (tq 7 (.call 50 [(.t 5),(.t 6)]) (tq 8 (.bin .geq (.t 7) (.c (.int .i64 0))) (tm 4 (.t 8) .done))))))
 .ret))
theorem d1n:a1f Try.prog Try.f40 = some (c9y.erase,[.mov (.t 4)],9):=by kernel_rfl
def a1e (rec:(o8 → Int → Int → Option (Bool × Int))) (s_1:(List o8)) (c_2:Int) (c_3:Int):Option (Bool × Int × Int) :=
    (a1g rec s_1 c_2 c_3).bind fun r_4 =>
    some ((decide (r_4.1 ≥ 0)),r_4.2.1,r_4.2.2)
theorem a5f (rec:(o8 → Int → Int → Option (Bool × Int))) (hrec:∀ a0 a1 a2 r,rec a0 a1 a2 = some r → a0r Try.prog false 31 [(l9 a0),(.int .i64 a1),(.ptr 0 0 0)] [.box 1 (.int .i64 a2)] (.bool r.1) [.box 1 (.int .i64 r.2)]) (s_1:(List o8)) (c_2:Int) (c_3:Int) (r:(Bool × Int × Int)) (hf:a1e rec s_1 c_2 c_3 = some r):a0r Try.prog false 40 [(.lst 5 (s_1.map l9)),(.fn 41 [(.ptr 0 0 0),(.ptr 1 0 0)])] [.box 1 (.int .i64 c_2),.box 1 (.ptr 2 0 0),.box 1 (.int .i64 c_3)] (.bool r.1) [.box 1 (.int .i64 r.2.1),.box 1 (.ptr 2 0 0),.box 1 (.int .i64 r.2.2)]:=by
 refine a0r.of_awp mixed Try.func40 d1n nle ?_;rw [a0q];unfold a1e at hf;unfold c9y;refine (show awp Try.prog false 3 _ (ofL [(0,(.lst 5 (s_1.map l9))),(1,(.fn 41 [(.ptr 0 0 0),(.ptr 1 0 0)]))]) [.box 1 (.int .i64 c_2),.box 1 (.ptr 2 0 0),.box 1 (.int .i64 c_3)] _ from ?_);refine sr<|l7 (.bool false) rfl<|dk<|sr<|?_
 obtain ⟨r_4,er5,hf⟩:=ob hf
 refine l7 (.lst 5 (s_1.map l9)) rfl<|l7 (.fn 41 [(.ptr 0 0 0),(.ptr 1 0 0)]) rfl<|?_;refine a0b (b2r (v:=(.int .i64 r_4.1)) (h2:=[.box 1 (.int .i64 r_4.2.1),.box 1 (.ptr 2 0 0),.box 1 (.int .i64 r_4.2.2)]) [] [0,1,2] (fun _ => rfl) (a5s rec hrec _ _ _ _ er5) rfl (.refl _) (.refl _) rfl rfl) ?_;refine x9 (.bool (decide (r_4.1 ≥ 0))) rfl rfl rfl<|l7 (.bool (decide (r_4.1 ≥ 0))) rfl<|dk<|a0c<|?_;obtain rfl:=os hf;exact a6d [] [0,1,2] rfl ⟨trivial,trivial⟩ rfl (.refl _) (.refl _)

/- (impl.Json).rightIn -/
def c9z:a0p :=
 (.seq (.reg (tq 3 (.box 5 (.t 0)) (tq 4 (.box 1 (.t 1)) (tq 5 (.box 1 (.t 2)) (tm 6 (.c (.bool false)) .done)))))
 (.seq (.seq (.reg (tq 7 (.load 1 false (.t 5)) (tq 8 (.nilck (.t 7)) (tq 9 (.load 1 false (.t 8)) (tq 10 (.bin .sub (.t 9) (.c (.int .i64 1))) (tq 11 (.nilck (.t 7)) (.q ⟨none,none,.store 1 (.t 11) (.t 10)⟩
 .done)))))))
 (.seq (.reg (tq 12 (.load 1 false (.t 5)) (tq 13 (.nilck (.t 12)) (tq 14 (.load 1 false (.t 13)) (tq 15 (.bin .lss (.t 14) (.c (.int .i64 0))) (tm 16 (.t 15) (tg 17 16 false (.load 1 false (.t 4)) (tg 18 16 false (.bin .geq (.t 17) (.c (.int .i64 12))) (tq 19 (.pick (.t 16) (.c (.bool true)) (.t 18)) (tm 20 (.t 19) (tg 21 20 false (.load 5 true (.t 3)) (tg 22 20 false (.call 39 [(.t 21)]) (tg 23 20 false (.not (.t 22)) (tq 24 (.pick (.t 20) (.c (.bool true)) (.t 23)) .done))))))))))))))
 (.cut (.cond (.t 24) (.seq (.reg (tm 6 (.c (.bool false)) .done))
 .ret)
 .skip))))
 (.seq (.reg (tq 25 (.faddr 4 (.t 3)) (tq 26 (.load 1 false (.t 25)) (tq 27 (.mkfn 41 [(.t 4),(.t 5)]) (tq 28 (.call 40 [(.t 26),(.t 27)]) (tq 29 (.not (.t 28)) (tm 6 (.t 29) .done)))))))
 .ret)))
theorem d1o:a1f Try.prog Try.f31 = some (c9z.erase,[.mov (.t 6)],30):=by kernel_rfl
def a5d (rec:(o8 → Int → Int → Option (Bool × Int))) (j_1:o8) (deep_2:Int) (room_3:Int):Option (Bool × Int) :=
    ((if (bif (decide (w64 (room_3 - 1) < 0)) then true else (decide (deep_2 ≥ 12))) then
    some true
    else
    (a5e j_1).bind fun r_10 =>
    some (!r_10):Option Bool)).bind fun s24_7 =>
    if s24_7 then
    some (false,w64 (room_3 - 1))
    else
    (a1e rec j_1.Items deep_2 (w64 (room_3 - 1))).bind fun r_13 =>
    some ((!r_13.1),r_13.2.2)
theorem b1i (rec:(o8 → Int → Int → Option (Bool × Int))) (hrec:∀ a0 a1 a2 r,rec a0 a1 a2 = some r → a0r Try.prog false 31 [(l9 a0),(.int .i64 a1),(.ptr 0 0 0)] [.box 1 (.int .i64 a2)] (.bool r.1) [.box 1 (.int .i64 r.2)]) (j_1:o8) (deep_2:Int) (room_3:Int) (r:(Bool × Int)) (hf:a5d rec j_1 deep_2 room_3 = some r):a0r Try.prog false 31 [(l9 j_1),(.int .i64 deep_2),(.ptr 0 0 0)] [.box 1 (.int .i64 room_3)] (.bool r.1) [.box 1 (.int .i64 r.2)]:=by
 refine a0r.of_awp mixed Try.func31 d1o nle ?_;rw [a0q];rw [o9 j_1];unfold a5d at hf;unfold c9z;refine (show awp Try.prog false 1 _ (ofL [(0,(.agg [(.int .i64 j_1.Kind),(.int .i64 j_1.N),(.str j_1.T),(.lst 1 (j_1.Keys.map AV.str)),(.lst 5 (j_1.Items.map l9))])),(1,(.int .i64 deep_2)),(2,(.ptr 0 0 0))]) [.box 1 (.int .i64 room_3)] _ from ?_);refine sr<|a0b (a1p (j:=1) (c:=(.agg [(.int .i64 j_1.Kind),(.int .i64 j_1.N),(.str j_1.T),(.lst 1 (j_1.Keys.map AV.str)),(.lst 5 (j_1.Items.map l9))])) rfl trivial rfl rfl)<|a0b (a1p (j:=2) (c:=(.int .i64 deep_2)) rfl trivial rfl rfl)<|a0b (a1p (j:=3) (c:=(.ptr 0 0 0)) rfl trivial rfl rfl)<|?_
 refine l7 (.bool false) rfl<|dk<|o6<|sr<|x9 (.ptr 0 0 0) rfl ⟨rfl,rfl⟩ rfl<|x9 (.ptr 0 0 0) rfl trivial rfl<|x9 (.int .i64 room_3) rfl ⟨rfl,rfl⟩ rfl<|x9 (.int .i64 (w64 (room_3 - 1))) rfl rfl rfl<|x9 (.ptr 0 0 0) rfl trivial rfl<|a2a (a0o (v:=(.int .i64 (w64 (room_3 - 1)))) (y':=(.int .i64 (w64 (room_3 - 1)))) rfl rfl rfl trivial ⟨rfl,rfl,rfl⟩ ⟨⟨rfl,trivial⟩,trivial⟩ rfl)<|dk<|o6<|?_
 obtain ⟨s24_7,hb1,hf⟩:=ob hf
 refine a2n ([(3,(.ptr 1 0 0)),(4,(.ptr 2 0 0)),(5,(.ptr 3 0 0)),(24,(.bool s24_7))],[.box 1 (.int .i64 (w64 (room_3 - 1))),.box 5 (.agg [(.int .i64 j_1.Kind),(.int .i64 j_1.N),(.str j_1.T),(.lst 1 (j_1.Keys.map AV.str)),(.lst 5 (j_1.Items.map l9))]),.box 1 (.int .i64 deep_2),.box 1 (.ptr 0 0 0)]) ?_ ?_
 ·refine a0x<|x9 (.ptr 0 0 0) rfl ⟨rfl,rfl⟩ rfl<|x9 (.ptr 0 0 0) rfl trivial rfl<|x9 (.int .i64 (w64 (room_3 - 1))) rfl ⟨rfl,rfl⟩ rfl<|x9 (.bool (decide (w64 (room_3 - 1) < 0))) rfl rfl rfl<|l7 (.bool (decide (w64 (room_3 - 1) < 0))) rfl<|?_;refine s_g (v:=(decide (w64 (room_3 - 1) < 0))) (.int .i64 deep_2) rfl (fun hv => by (try simp only [y9 hv]);exact ⟨rfl,⟨rfl,rfl⟩,rfl⟩) ?_;refine s_g (v:=(decide (w64 (room_3 - 1) < 0))) (.bool (decide (deep_2 ≥ 12))) rfl (fun hv => by (try simp only [y9 hv]);exact ⟨rfl,rfl,rfl⟩) ?_;refine a3g (x:=true) (y:=(decide (deep_2 ≥ 12))) rfl (fun hv => by (try simp only [y9 hv]);rfl) (fun hv => by (try simp only [y9 hv]);rfl) ?_
  refine l7 (.bool (bif (decide (w64 (room_3 - 1) < 0)) then true else (decide (deep_2 ≥ 12)))) rfl ?_
  rcases oi hb1 with ⟨c9,hb1⟩ | ⟨c9,hb1⟩
  ·refine a0v (s:=20) (b:=true) rfl c9<|a0a rfl rfl<|a0a rfl rfl<|a0a rfl rfl<|x9 (.bool true) rfl trivial rfl<|a0l<|?_;obtain rfl:=os hb1;exact ⟨[],[0,1,2,3],_,_,rfl,rfl,⟨.refl _,⟨.refl _,⟨.refl _,⟨.refl _,trivial⟩⟩⟩⟩,(.refl _)⟩
  ·refine a0v (s:=20) (b:=false) rfl (bf c9)<|s_on rfl<|x9 (.agg [(.int .i64 j_1.Kind),(.int .i64 j_1.N),(.str j_1.T),(.lst 1 (j_1.Keys.map AV.str)),(.lst 5 (j_1.Items.map l9))]) rfl nle rfl<|s_on rfl<|?_
   obtain ⟨r_10,er11,hb1⟩:=ob hb1
   refine a0b (a0s (b4e _ _ er11) rfl (.cons (.of_eq (o9 j_1).symm) .nil) rfl)<|s_on rfl<|x9 (.bool (!r_10)) rfl trivial rfl<|x9 (.bool (!r_10)) rfl trivial rfl<|a0l<|?_;obtain rfl:=os hb1;exact ⟨[],[0,1,2,3],_,_,rfl,rfl,⟨.refl _,⟨.refl _,⟨.refl _,⟨.refl _,trivial⟩⟩⟩⟩,(.refl _)⟩
 ·rcases oi hf with ⟨c12,hf⟩ | ⟨c12,hf⟩
  ·refine y7 rfl c12<|sr<|l7 (.bool false) rfl<|dk<|a0c<|?_;obtain rfl:=os hf;exact a6d [] [0] rfl ⟨trivial,trivial⟩ rfl (.refl _) (.refl _)
  ·refine y8 rfl (bf c12)<|a0k<|a0m<|sr<|?_
   obtain ⟨r_13,er14,hf⟩:=ob hf
   refine x9 (.ptr 1 0 4) rfl trivial rfl<|x9 (.lst 5 (j_1.Items.map l9)) rfl nle rfl<|x9 (.fn 41 [(.ptr 2 0 0),(.ptr 3 0 0)]) rfl trivial rfl<|?_;refine a0b (b2r (v:=(.bool r_13.1)) (h2:=[.box 1 (.int .i64 r_13.2.2),.box 5 (.agg [(.int .i64 j_1.Kind),(.int .i64 j_1.N),(.str j_1.T),(.lst 1 (j_1.Keys.map AV.str)),(.lst 5 (j_1.Items.map l9))]),.box 1 (.int .i64 r_13.2.1),.box 1 (.ptr 0 0 0)]) [] [2,3,0] (fun _ => rfl) (a5f rec hrec _ _ _ _ er14) rfl (.refl _) (.refl _) rfl rfl) ?_;refine x9 (.bool (!r_13.1)) rfl trivial rfl<|l7 (.bool (!r_13.1)) rfl<|dk<|a0c<|?_;obtain rfl:=os hf;exact a6d [] [0] rfl ⟨trivial,trivial⟩ rfl (.refl _) (.refl _)
def a2r:Nat → o8 → Int → Int → Option (Bool × Int)
 | 0,_,_,_ => none
 | k + 1,j_1,deep_2,room_3 => a5d (a2r k) j_1 deep_2 room_3
theorem a8x:∀ (k:Nat) (j_1:o8) (deep_2:Int) (room_3:Int) (r:(Bool × Int)),a2r k j_1 deep_2 room_3 = some r → a0r Try.prog false 31 [(l9 j_1),(.int .i64 deep_2),(.ptr 0 0 0)] [.box 1 (.int .i64 room_3)] (.bool r.1) [.box 1 (.int .i64 r.2)]
 | 0,j_1,deep_2,room_3,r,h => by rw [a2r.eq_1] at h;cases h
 | k + 1,j_1,deep_2,room_3,r,h => by
  rw [a2r.eq_2] at h;exact b1i _ (a8x k) j_1 deep_2 room_3 r h

/- impl.JsonOK -/
def c19:a0p :=
 (.seq (.reg (tq 1 (.box 5 (.t 0)) (tm 2 (.c (.bool false)) .done)))
 (.seq (.reg (tq 3 (.box 1 (.c (.int .i64 0))) (.q ⟨none,none,.store 1 (.t 3) (.c (.int .i64 400))⟩
 .done)))
 (.seq (.reg (tq 4 (.load 5 true (.t 1)) (tq 5 (.call 31 [(.t 4),(.c (.int .i64 0)),(.t 3)]) (tm 2 (.t 5) .done))))
 .ret)))
theorem d5u:a1f Try.prog Try.f19 = some (c19.erase,[.mov (.t 2)],6):=by kernel_rfl
def a8p (j_1:o8):Option Bool :=
    (a2r FUEL j_1 0 400).bind fun r_2 =>
    some r_2.1
theorem b9x (j_1:o8) (r:Bool) (hf:a8p j_1 = some r):a0d Try.prog 19 .flat [(l9 j_1)] (.bool r):=by
 refine a0d.of_awp mixed Try.func19 d5u nle ?_;rw [a0q];rw [o9 j_1];unfold a8p at hf;unfold c19;refine (show awp Try.prog false 0 _ (ofL [(0,(.agg [(.int .i64 j_1.Kind),(.int .i64 j_1.N),(.str j_1.T),(.lst 1 (j_1.Keys.map AV.str)),(.lst 5 (j_1.Items.map l9))]))]) [] _ from ?_);refine sr<|a0b (a1p (j:=0) (c:=(.agg [(.int .i64 j_1.Kind),(.int .i64 j_1.N),(.str j_1.T),(.lst 1 (j_1.Keys.map AV.str)),(.lst 5 (j_1.Items.map l9))])) rfl trivial rfl rfl)<|l7 (.bool false) rfl<|dk<|sr<|a0b (a1p (j:=1) (c:=(.int .i64 0)) rfl trivial rfl rfl)<|a2a (a0o (v:=(.int .i64 400)) (y':=(.int .i64 400)) rfl rfl rfl trivial ⟨rfl,rfl,rfl⟩ ⟨⟨rfl,trivial⟩,trivial⟩ rfl)<|?_
 refine dk<|sr<|?_
 obtain ⟨r_2,er3,hf⟩:=ob hf
 refine x9 (.agg [(.int .i64 j_1.Kind),(.int .i64 j_1.N),(.str j_1.T),(.lst 1 (j_1.Keys.map AV.str)),(.lst 5 (j_1.Items.map l9))]) rfl nle rfl ?_;refine a0b (b2r (v:=(.bool r_2.1)) (h2:=[.box 5 (.agg [(.int .i64 j_1.Kind),(.int .i64 j_1.N),(.str j_1.T),(.lst 1 (j_1.Keys.map AV.str)),(.lst 5 (j_1.Items.map l9))]),.box 1 (.int .i64 r_2.2)]) [] [1] (fun _ => rfl) (a8x FUEL _ _ _ _ er3) rfl (.cons (.of_eq (o9 j_1).symm) (.cons (.refl _) (.cons (.refl _) .nil))) (.refl _) rfl rfl) ?_;refine l7 (.bool r_2.1) rfl<|dk<|a0c<|?_;obtain rfl:=os hf;exact a0h ⟨trivial,trivial⟩ rfl (.refl _)

/- (impl.Json).pairOf -/
def c42:a0p :=
 (.seq (.reg (tq 2 (.box 5 (.t 0)) (tq 4 (.box 5 (.c (.agg [(.int .i64 0),(.int .i64 0),(.str []),.nil,.nil]))) (tm 5 (.c (.bool false)) .done))))
 (.seq (.seq (.reg (tq 6 (.faddr 0 (.t 2)) (tq 7 (.load 1 false (.t 6)) (tq 8 (.bin .neq (.t 7) (.c (.int .i64 4))) (tm 9 (.t 8) (tg 10 9 false (.faddr 4 (.t 2)) (tg 11 9 false (.load 1 false (.t 10)) (tg 12 9 false (.len (.t 11)) (tg 13 9 false (.bin .neq (.t 12) (.c (.int .i64 2))) (tq 14 (.pick (.t 9) (.c (.bool true)) (.t 13)) (tm 15 (.t 14) (tg 16 15 false (.faddr 4 (.t 2)) (tg 17 15 false (.load 1 false (.t 16)) (tg 18 15 false (.iaddr 5 (.t 17) (.c (.int .i64 0))) (tg 19 15 false (.faddr 0 (.t 18)) (tg 20 15 false (.load 1 false (.t 19)) (tg 21 15 false (.bin .neq (.t 20) (.c (.int .i64 3))) (tq 22 (.pick (.t 15) (.c (.bool true)) (.t 21)) (tm 23 (.t 22) (tg 24 23 false (.faddr 4 (.t 2)) (tg 25 23 false (.load 1 false (.t 24)) (tg 26 23 false (.iaddr 5 (.t 25) (.c (.int .i64 0))) (tg 27 23 false (.faddr 2 (.t 26)) (tg 28 23 false (.load 1 false (.t 27)) (tg 29 23 false (.mov (.t 1)) (tg 30 23 false (.bin .neq (.t 28) (.t 29)) (tq 31 (.pick (.t 23) (.c (.bool true)) (.t 30)) .done)))))))))))))))))))))))))))
 (.cut (.cond (.t 31) (.seq (.reg (tq 32 (.build [(.int .i64 0),(.int .i64 0),(.str []),.nil,.nil] []) (.q ⟨none,none,.store 5 (.t 4) (.t 32)⟩
 (tm 5 (.c (.bool false)) .done))))
 .ret)
 .skip)))
 (.seq (.reg (tq 33 (.faddr 4 (.t 2)) (tq 34 (.load 1 false (.t 33)) (tq 35 (.iaddr 5 (.t 34) (.c (.int .i64 1))) (tq 36 (.load 5 true (.t 35)) (.q ⟨none,none,.store 5 (.t 4) (.t 36)⟩
 (tm 5 (.c (.bool true)) .done)))))))
 .ret)))
theorem d5v:a1f Try.prog Try.f42 = some (c42.erase,[.load 5 true (.t 4),.mov (.t 5)],37):=by kernel_rfl
def a4k (j_1:o8) (word_2:Str):Option (o8 × Bool) :=
    ((if (bif (j_1.Kind != 4) then true else ((j_1.Items.length:Int) != 2)) then
    some true
    else
    (idx j_1.Items 0).bind fun x_14 =>
    if (x_14.Kind != 3) then
    some true
    else
    (idx j_1.Items 0).bind fun x_17 =>
    some (!(x_17.T == word_2)):Option Bool)).bind fun s31_10 =>
    if s31_10 then
    some ((⟨0,0,[],[],[]⟩:o8),false)
    else
    (idx j_1.Items 1).bind fun x_20 =>
    some (x_20,true)
theorem a9u (j_1:o8) (word_2:Str) (r:(o8 × Bool)) (hf:a4k j_1 word_2 = some r):a0d Try.prog 42 .weak [(l9 j_1),(.str word_2)] (.tup [(l9 r.1),(.bool r.2)]):=by
 refine a0d.of_awp mixed Try.func42 d5v nle ?_;rw [a0q];rw [o9 j_1];unfold a4k at hf;unfold c42;refine (show awp Try.prog false 0 _ (ofL [(0,(.agg [(.int .i64 j_1.Kind),(.int .i64 j_1.N),(.str j_1.T),(.lst 1 (j_1.Keys.map AV.str)),(.lst 5 (j_1.Items.map l9))])),(1,(.str word_2))]) [] _ from ?_);refine sr<|a0b (a1p (j:=0) (c:=(.agg [(.int .i64 j_1.Kind),(.int .i64 j_1.N),(.str j_1.T),(.lst 1 (j_1.Keys.map AV.str)),(.lst 5 (j_1.Items.map l9))])) rfl trivial rfl rfl)<|a0b (a1p (j:=1) (c:=(.agg [(.int .i64 0),(.int .i64 0),(.str []),.nil,.nil])) rfl trivial rfl rfl)<|l7 (.bool false) rfl<|dk<|o6<|o6<|?_
 obtain ⟨s31_10,hb1,hf⟩:=ob hf
 refine a2n ([(2,(.ptr 0 0 0)),(4,(.ptr 1 0 0)),(31,(.bool s31_10))],[.box 5 (.agg [(.int .i64 j_1.Kind),(.int .i64 j_1.N),(.str j_1.T),(.lst 1 (j_1.Keys.map AV.str)),(.lst 5 (j_1.Items.map l9))]),.box 5 (.agg [(.int .i64 0),(.int .i64 0),(.str []),.nil,.nil])]) ?_ ?_
 ·refine a0x<|x9 (.ptr 0 0 0) rfl trivial rfl<|x9 (.int .i64 j_1.Kind) rfl nle rfl<|x9 (.bool (j_1.Kind != 4)) rfl rfl rfl<|l7 (.bool (j_1.Kind != 4)) rfl<|?_;refine s_g (v:=(j_1.Kind != 4)) (.ptr 0 0 4) rfl (fun hv => by (try simp only [y9 hv]);exact ⟨rfl,trivial,rfl⟩) ?_;refine s_g (v:=(j_1.Kind != 4)) (.lst 5 (j_1.Items.map l9)) rfl (fun hv => by (try simp only [y9 hv]);exact ⟨rfl,nle,rfl⟩) ?_;refine s_g (v:=(j_1.Kind != 4)) (.int .i64 (j_1.Items.length:Int)) rfl (fun hv => by (try simp only [y9 hv]);exact ⟨rfl,trivial,lenV _ _⟩) ?_;refine s_g (v:=(j_1.Kind != 4)) (.bool ((j_1.Items.length:Int) != 2)) rfl (fun hv => by (try simp only [y9 hv]);exact ⟨rfl,rfl,rfl⟩) ?_
  refine a3g (x:=true) (y:=((j_1.Items.length:Int) != 2)) rfl (fun hv => by (try simp only [y9 hv]);rfl) (fun hv => by (try simp only [y9 hv]);rfl) ?_;refine l7 (.bool (bif (j_1.Kind != 4) then true else ((j_1.Items.length:Int) != 2))) rfl ?_
  rcases oi hb1 with ⟨c13,hb1⟩ | ⟨c13,hb1⟩
  ·refine a0v (s:=15) (b:=true) rfl c13<|a0a rfl rfl<|a0a rfl rfl<|a0a rfl rfl<|a0a rfl rfl<|a0a rfl rfl<|a0a rfl rfl<|x9 (.bool true) rfl trivial rfl<|l7 (.bool true) rfl<|a0a rfl rfl<|a0a rfl rfl<|a0a rfl rfl<|a0a rfl rfl<|a0a rfl rfl<|a0a rfl rfl<|a0a rfl rfl<|x9 (.bool true) rfl trivial rfl<|a0l<|?_;obtain rfl:=os hb1;exact ⟨[],[0,1],_,_,rfl,rfl,⟨.refl _,⟨.refl _,⟨.refl _,trivial⟩⟩⟩,(.refl _)⟩
  ·refine a0v (s:=15) (b:=false) rfl (bf c13)<|s_on rfl<|x9 (.ptr 0 0 4) rfl trivial rfl<|s_on rfl<|x9 (.lst 5 (j_1.Items.map l9)) rfl nle rfl<|s_on rfl<|?_
   obtain ⟨x_14,ex15,hb1⟩:=ob hb1
   refine a0b (a5c (enc:=l9) rfl rfl (b4b ex15) (b4c ex15))<|s_on rfl<|x9 (.iptr (l9 x_14) 0) rfl trivial rfl<|s_on rfl<|a0b (a4w (v:=(.int .i64 x_14.Kind)) rfl (o9 _) nle rfl)<|s_on rfl<|x9 (.bool (x_14.Kind != 3)) rfl rfl rfl<|x9 (.bool (x_14.Kind != 3)) rfl trivial rfl<|l7 (.bool (x_14.Kind != 3)) rfl<|?_
   rcases oi hb1 with ⟨c16,hb1⟩ | ⟨c16,hb1⟩
   ·refine a0v (s:=23) (b:=true) rfl c16<|a0a rfl rfl<|a0a rfl rfl<|a0a rfl rfl<|a0a rfl rfl<|a0a rfl rfl<|a0a rfl rfl<|a0a rfl rfl<|x9 (.bool true) rfl trivial rfl<|a0l<|?_;obtain rfl:=os hb1;exact ⟨[],[0,1],_,_,rfl,rfl,⟨.refl _,⟨.refl _,⟨.refl _,trivial⟩⟩⟩,(.refl _)⟩
   ·refine a0v (s:=23) (b:=false) rfl (bf c16)<|s_on rfl<|x9 (.ptr 0 0 4) rfl trivial rfl<|s_on rfl<|x9 (.lst 5 (j_1.Items.map l9)) rfl nle rfl<|s_on rfl<|?_
    obtain ⟨x_17,ex18,hb1⟩:=ob hb1
    refine a0b (a5c (enc:=l9) rfl rfl (b4b ex18) (b4c ex18))<|s_on rfl<|x9 (.iptr (l9 x_17) 2) rfl trivial rfl<|s_on rfl<|a0b (a4w (v:=(.str x_17.T)) rfl (o9 _) nle rfl)<|s_on rfl<|l7 (.str word_2) rfl<|s_on rfl<|x9 (.bool (!(x_17.T == word_2))) rfl trivial rfl<|x9 (.bool (!(x_17.T == word_2))) rfl trivial rfl<|a0l<|?_;obtain rfl:=os hb1;exact ⟨[],[0,1],_,_,rfl,rfl,⟨.refl _,⟨.refl _,⟨.refl _,trivial⟩⟩⟩,(.refl _)⟩
 ·rcases oi hf with ⟨c19,hf⟩ | ⟨c19,hf⟩
  ·refine y7 rfl c19<|sr<|x9 (.agg [(.int .i64 0),(.int .i64 0),(.str []),.nil,.nil]) rfl trivial rfl<|a2a (a0o (v:=(.agg [(.int .i64 0),(.int .i64 0),(.str []),.nil,.nil])) (y':=(.agg [(.int .i64 0),(.int .i64 0),(.str []),.nil,.nil])) rfl rfl rfl trivial ⟨rfl,nle⟩ ⟨⟨rfl,trivial⟩,⟨⟨rfl,trivial⟩,⟨⟨rfl,trivial⟩,⟨⟨rfl,trivial⟩,⟨⟨rfl,trivial⟩,trivial⟩⟩⟩⟩⟩ rfl)<|l7 (.bool false) rfl<|dk<|a0c<|?_;obtain rfl:=os hf;exact b5x ⟨nle,⟨trivial,trivial⟩⟩ rfl (.tup (.cons (leJ (x:=(⟨0,0,[],[],[]⟩:o8)) (.agg (.cons (.refl _) (.cons (.refl _) (.cons (.refl _) (.cons (.nil _) (.cons (.nil _) .nil))))))) (.cons (.refl _) .nil)))
  ·refine y8 rfl (bf c19)<|a0k<|a0m<|sr<|?_
   obtain ⟨x_20,ex21,hf⟩:=ob hf
   refine x9 (.ptr 0 0 4) rfl trivial rfl<|x9 (.lst 5 (j_1.Items.map l9)) rfl nle rfl<|a0b (a5c (enc:=l9) rfl rfl (b4b ex21) (b4c ex21))<|a0b (a4w (v:=(.agg [(.int .i64 x_20.Kind),(.int .i64 x_20.N),(.str x_20.T),(.lst 1 (x_20.Keys.map AV.str)),(.lst 5 (x_20.Items.map l9))])) rfl (o9 _) nle rfl)<|a2a (a0o (v:=(.agg [(.int .i64 x_20.Kind),(.int .i64 x_20.N),(.str x_20.T),(.lst 1 (x_20.Keys.map AV.str)),(.lst 5 (x_20.Items.map l9))])) (y':=(.agg [(.int .i64 x_20.Kind),(.int .i64 x_20.N),(.str x_20.T),(.lst 1 (x_20.Keys.map AV.str)),(.lst 5 (x_20.Items.map l9))])) rfl rfl rfl trivial ⟨rfl,nle⟩ ⟨⟨rfl,trivial⟩,⟨⟨rfl,trivial⟩,⟨⟨rfl,trivial⟩,⟨⟨rfl,trivial⟩,⟨⟨rfl,trivial⟩,trivial⟩⟩⟩⟩⟩ rfl)<|?_
   refine l7 (.bool true) rfl<|dk<|a0c<|?_;obtain rfl:=os hf;exact b5x ⟨nle,⟨trivial,trivial⟩⟩ rfl (.tup (.cons (.of_eq (o9 x_20).symm) (.cons (.refl _) .nil)))

/- (impl.Json).members -/
def c32:a0p :=
 (.seq (.reg (tq 1 (.box 5 (.t 0)) (tm 2 (.c .nil) (tm 3 (.c (.bool false)) .done))))
 (.seq (.reg (tq 7 (.load 5 true (.t 1)) (tq 8 (.call 42 [(.t 7),(.c (.str [115,101,116]))]) (tm 6 (.t 8) (tq 9 (.extract 0 (.t 6)) (tq 10 (.extract 1 (.t 6)) (tq 4 (.box 5 (.c (.agg [(.int .i64 0),(.int .i64 0),(.str []),.nil,.nil]))) (.q ⟨none,none,.store 5 (.t 4) (.t 9)⟩
 (tm 5 (.t 10) .done)))))))))
 (.seq (.reg (tq 11 (.faddr 4 (.t 4)) (tq 12 (.load 1 false (.t 11)) (tm 13 (.t 5) (tm 14 (.t 13) (tg 15 14 true (.faddr 0 (.t 4)) (tg 16 14 true (.load 1 false (.t 15)) (tg 17 14 true (.bin .eql (.t 16) (.c (.int .i64 4))) (tq 18 (.pick (.t 14) (.t 17) (.c (.bool false))) (tm 2 (.t 12) (tm 3 (.t 18) .done)))))))))))
 .ret)))
theorem d5w:a1f Try.prog Try.f32 = some (c32.erase,[.mov (.t 2),.mov (.t 3)],19):=by kernel_rfl
def a5y (j_1:o8):Option ((List o8) × Bool) :=
    (a4k j_1 [115,101,116]).bind fun r_2 =>
    if r_2.2 then
    some (r_2.1.Items,(r_2.1.Kind == 4))
    else
    some (r_2.1.Items,false)
theorem b3a (j_1:o8) (r:((List o8) × Bool)) (hf:a5y j_1 = some r):a0d Try.prog 32 .weak [(l9 j_1)] (.tup [(.lst 5 (r.1.map l9)),(.bool r.2)]):=by
 refine a0d.of_awp mixed Try.func32 d5w nle ?_;rw [a0q];rw [o9 j_1];unfold a5y at hf;unfold c32;refine (show awp Try.prog false 0 _ (ofL [(0,(.agg [(.int .i64 j_1.Kind),(.int .i64 j_1.N),(.str j_1.T),(.lst 1 (j_1.Keys.map AV.str)),(.lst 5 (j_1.Items.map l9))]))]) [] _ from ?_);refine sr<|a0b (a1p (j:=0) (c:=(.agg [(.int .i64 j_1.Kind),(.int .i64 j_1.N),(.str j_1.T),(.lst 1 (j_1.Keys.map AV.str)),(.lst 5 (j_1.Items.map l9))])) rfl trivial rfl rfl)<|l7 .nil rfl<|l7 (.bool false) rfl<|dk<|sr<|?_
 obtain ⟨r_2,er3,hf⟩:=ob hf
 refine x9 (.agg [(.int .i64 j_1.Kind),(.int .i64 j_1.N),(.str j_1.T),(.lst 1 (j_1.Keys.map AV.str)),(.lst 5 (j_1.Items.map l9))]) rfl nle rfl<|a0b (b4x (v:=(.tup [(.agg [(.int .i64 r_2.1.Kind),(.int .i64 r_2.1.N),(.str r_2.1.T),(.lst 1 (r_2.1.Keys.map AV.str)),(.lst 5 (r_2.1.Items.map l9))]),(.bool r_2.2)])) rfl (a9u _ _ _ er3) rfl (.cons (.of_eq (o9 j_1).symm) (.cons (.refl _) .nil)) (by simp only [o9]) rfl)<|l7 (.tup [(.agg [(.int .i64 r_2.1.Kind),(.int .i64 r_2.1.N),(.str r_2.1.T),(.lst 1 (r_2.1.Keys.map AV.str)),(.lst 5 (r_2.1.Items.map l9))]),(.bool r_2.2)]) rfl<|x9 (.agg [(.int .i64 r_2.1.Kind),(.int .i64 r_2.1.N),(.str r_2.1.T),(.lst 1 (r_2.1.Keys.map AV.str)),(.lst 5 (r_2.1.Items.map l9))]) rfl nle rfl<|?_
 refine x9 (.bool r_2.2) rfl nle rfl<|a0b (a1p (j:=1) (c:=(.agg [(.int .i64 0),(.int .i64 0),(.str []),.nil,.nil])) rfl trivial rfl rfl)<|a2a (a0o (v:=(.agg [(.int .i64 r_2.1.Kind),(.int .i64 r_2.1.N),(.str r_2.1.T),(.lst 1 (r_2.1.Keys.map AV.str)),(.lst 5 (r_2.1.Items.map l9))])) (y':=(.agg [(.int .i64 r_2.1.Kind),(.int .i64 r_2.1.N),(.str r_2.1.T),(.lst 1 (r_2.1.Keys.map AV.str)),(.lst 5 (r_2.1.Items.map l9))])) rfl rfl rfl trivial ⟨rfl,nle⟩ ⟨⟨rfl,trivial⟩,⟨⟨rfl,trivial⟩,⟨⟨rfl,trivial⟩,⟨⟨rfl,trivial⟩,⟨⟨rfl,trivial⟩,trivial⟩⟩⟩⟩⟩ rfl)<|l7 (.bool r_2.2) rfl<|dk<|sr<|?_
 rcases oi hf with ⟨c4,hf⟩ | ⟨c4,hf⟩
 ·refine x9 (.ptr 1 0 4) rfl trivial rfl<|x9 (.lst 5 (r_2.1.Items.map l9)) rfl nle rfl<|l7 (.bool r_2.2) rfl<|l7 (.bool r_2.2) rfl<|a0v (s:=14) (b:=true) rfl c4<|s_on rfl<|x9 (.ptr 1 0 0) rfl trivial rfl<|s_on rfl<|x9 (.int .i64 r_2.1.Kind) rfl nle rfl<|s_on rfl<|x9 (.bool (r_2.1.Kind == 4)) rfl rfl rfl<|x9 (.bool (r_2.1.Kind == 4)) rfl trivial rfl<|l7 (.lst 5 (r_2.1.Items.map l9)) rfl<|l7 (.bool (r_2.1.Kind == 4)) rfl<|dk<|a0c<|?_;obtain rfl:=os hf;exact b5x ⟨trivial,⟨trivial,trivial⟩⟩ rfl (.refl _)
 ·refine x9 (.ptr 1 0 4) rfl trivial rfl<|x9 (.lst 5 (r_2.1.Items.map l9)) rfl nle rfl<|l7 (.bool r_2.2) rfl<|l7 (.bool r_2.2) rfl<|a0v (s:=14) (b:=false) rfl (bf c4)<|a0a rfl rfl<|a0a rfl rfl<|a0a rfl rfl<|x9 (.bool false) rfl trivial rfl<|l7 (.lst 5 (r_2.1.Items.map l9)) rfl<|l7 (.bool false) rfl<|dk<|a0c<|?_;obtain rfl:=os hf;exact b5x ⟨trivial,⟨trivial,trivial⟩⟩ rfl (.refl _)

/- impl.isId -/
def c51:a0p :=
 (.seq (.reg (tm 2 (.c (.bool false)) .done))
 (.seq (.reg (tm 3 (.t 0) (tq 4 (.call 46 [(.t 3),(.c (.int .i64 1)),(.c (.int .i64 1000000))]) (tm 2 (.t 4) .done))))
 .ret))
theorem d5x:a1f Try.prog Try.f51 = some (c51.erase,[.mov (.t 2)],5):=by kernel_rfl
def b2u (n_1:Int):Option Bool :=
    (a5k n_1 1 1000000).bind fun r_2 =>
    some r_2
theorem b6t (n_1:Int) (r:Bool) (hf:b2u n_1 = some r):a0d Try.prog 51 .flat [(.int .i64 n_1)] (.bool r):=by
  refine a0d.of_awp mixed Try.func51 d5x nle ?_
  rw [a0q]
  unfold b2u at hf
  unfold c51
  refine (show awp Try.prog false 0 _ (ofL [(0,(.int .i64 n_1))]) [] _ from ?_)
  refine o6 ?_
  refine a0x ?_
  refine a0b (b3d (.bool false) rfl) ?_
  refine a0l ?_
  refine a0m ?_
  refine o6 ?_
  refine a0x ?_
  obtain ⟨r_2,er3,hf⟩:=ob hf
  refine a0b (b3d (.int .i64 n_1) rfl) ?_
  refine a0b (a0s (a7b _ _ _ _ er3) rfl (.refl _) rfl) ?_
  refine a0b (b3d (.bool r_2) rfl) ?_
  refine a0l ?_
  refine a0m ?_
  refine a0c ?_
  obtain rfl:=os hf
  exact a0h ⟨trivial,trivial⟩ rfl (.refl _)

/- impl.AtomOK -/
def c43:a0p :=
 (.seq (.reg (tq 1 (.box 3 (.t 0)) (tm 2 (.c (.bool false)) .done)))
 (.seq (.seq (.reg (tq 3 (.faddr 0 (.t 1)) (tq 4 (.load 1 false (.t 3)) .done)))
 (.block 0 (.seq (.reg (tq 6 (.bin .eql (.t 4) (.c (.int .i64 1))) (tm 5 (.t 6) .done)))
 (.cond (.t 5) (.seq (.reg (tq 7 (.faddr 1 (.t 1)) (tq 8 (.load 1 false (.t 7)) (tq 9 (.call 47 [(.t 8)]) (tm 10 (.t 9) (tg 11 10 true (.faddr 2 (.t 1)) (tg 12 10 true (.load 1 false (.t 11)) (tg 13 10 true (.bin .eql (.t 12) (.c (.str []))) (tq 14 (.pick (.t 10) (.t 13) (.c (.bool false))) (tm 2 (.t 14) .done))))))))))
 .ret)
 (.seq (.reg (tq 16 (.bin .eql (.t 4) (.c (.int .i64 2))) (tm 15 (.t 16) .done)))
 (.cond (.t 15) (.seq (.reg (tq 17 (.faddr 1 (.t 1)) (tq 18 (.load 1 false (.t 17)) (tq 19 (.bin .eql (.t 18) (.c (.int .i64 0))) (tm 20 (.t 19) (tg 21 20 true (.faddr 2 (.t 1)) (tg 22 20 true (.load 1 false (.t 21)) (tg 23 20 true (.call 48 [(.t 22)]) (tq 24 (.pick (.t 20) (.t 23) (.c (.bool false))) (tm 2 (.t 24) .done))))))))))
 .ret)
 (.seq (.reg (tq 26 (.bin .eql (.t 4) (.c (.int .i64 3))) (tm 25 (.t 26) .done)))
 (.cond (.t 25) (.seq (.reg (tq 27 (.faddr 1 (.t 1)) (tq 28 (.load 1 false (.t 27)) (tq 29 (.call 46 [(.t 28),(.c (.int .i64 0)),(.c (.int .i64 1))]) (tm 30 (.t 29) (tg 31 30 true (.faddr 2 (.t 1)) (tg 32 30 true (.load 1 false (.t 31)) (tg 33 30 true (.bin .eql (.t 32) (.c (.str []))) (tq 34 (.pick (.t 30) (.t 33) (.c (.bool false))) (tm 2 (.t 34) .done))))))))))
 .ret)
 (.seq (.reg (tq 36 (.bin .eql (.t 4) (.c (.int .i64 4))) (tm 35 (.t 36) .done)))
 (.cond (.t 35) (.seq (.reg (tq 37 (.faddr 1 (.t 1)) (tq 38 (.load 1 false (.t 37)) (tq 39 (.call 51 [(.t 38)]) (tm 40 (.t 39) (tg 41 40 true (.faddr 2 (.t 1)) (tg 42 40 true (.load 1 false (.t 41)) (tg 43 40 true (.bin .eql (.t 42) (.c (.str []))) (tq 44 (.pick (.t 40) (.t 43) (.c (.bool false))) (tm 2 (.t 44) .done))))))))))
 .ret)
 .skip))))))))))
 (.seq (.reg (tm 2 (.c (.bool false)) .done))
 .ret)))
theorem d5y:a1f Try.prog Try.f43 = some (c43.erase,[.mov (.t 2)],45):=by kernel_rfl
def a6j (a_1:y5):Option Bool :=
    if (a_1.Kind == 1) then
    (a5t a_1.N).bind fun r_3 =>
    if r_3 then
    some (a_1.T == [])
    else
    some false
    else
    if (a_1.Kind == 2) then
    if (a_1.N == 0) then
    (a5n a_1.T).bind fun r_8 =>
    some r_8
    else
    some false
    else
    if (a_1.Kind == 3) then
    (a5k a_1.N 0 1).bind fun r_11 =>
    if r_11 then
    some (a_1.T == [])
    else
    some false
    else
    if (a_1.Kind == 4) then
    (b2u a_1.N).bind fun r_15 =>
    if r_15 then
    some (a_1.T == [])
    else
    some false
    else
    some false
theorem b3i (a_1:y5) (r:Bool) (hf:a6j a_1 = some r):a0d Try.prog 43 .flat [(o5 a_1)] (.bool r):=by
 refine a0d.of_awp mixed Try.func43 d5y nle ?_;rw [a0q];unfold a6j at hf;unfold c43;refine (show awp Try.prog false 0 _ (ofL [(0,(o5 a_1))]) [] _ from ?_);refine sr<|a0b (a1p (j:=0) (c:=(.agg [(.int .i64 a_1.Kind),(.int .i64 a_1.N),(.str a_1.T)])) rfl trivial rfl rfl)<|l7 (.bool false) rfl<|dk<|o6<|sr<|x9 (.ptr 0 0 0) rfl trivial rfl<|x9 (.int .i64 a_1.Kind) rfl nle rfl<|dk<|a4a<|sr<|x9 (.bool (a_1.Kind == 1)) rfl rfl rfl<|l7 (.bool (a_1.Kind == 1)) rfl<|dk<|?_
 rcases oi hf with ⟨c2,hf⟩ | ⟨c2,hf⟩
 ·refine y7 rfl c2<|sr<|?_
  obtain ⟨r_3,er4,hf⟩:=ob hf
  rcases oi hf with ⟨c5,hf⟩ | ⟨c5,hf⟩
  ·refine x9 (.ptr 0 0 1) rfl trivial rfl<|x9 (.int .i64 a_1.N) rfl nle rfl<|a0b (a0s (a8v _ _ er4) rfl (.refl _) rfl)<|l7 (.bool r_3) rfl<|a0v (s:=10) (b:=true) rfl c5<|s_on rfl<|x9 (.ptr 0 0 2) rfl trivial rfl<|s_on rfl<|x9 (.str a_1.T) rfl nle rfl<|s_on rfl<|x9 (.bool (a_1.T == [])) rfl trivial rfl<|x9 (.bool (a_1.T == [])) rfl trivial rfl<|l7 (.bool (a_1.T == [])) rfl<|dk<|a0c<|?_;obtain rfl:=os hf;exact a0h ⟨trivial,trivial⟩ rfl (.refl _)
  ·refine x9 (.ptr 0 0 1) rfl trivial rfl<|x9 (.int .i64 a_1.N) rfl nle rfl<|a0b (a0s (a8v _ _ er4) rfl (.refl _) rfl)<|l7 (.bool r_3) rfl<|a0v (s:=10) (b:=false) rfl (bf c5)<|a0a rfl rfl<|a0a rfl rfl<|a0a rfl rfl<|x9 (.bool false) rfl trivial rfl<|l7 (.bool false) rfl<|dk<|a0c<|?_;obtain rfl:=os hf;exact a0h ⟨trivial,trivial⟩ rfl (.refl _)
 ·refine y8 rfl (bf c2)<|sr<|x9 (.bool (a_1.Kind == 2)) rfl rfl rfl<|l7 (.bool (a_1.Kind == 2)) rfl<|dk<|?_
  rcases oi hf with ⟨c6,hf⟩ | ⟨c6,hf⟩
  ·refine y7 rfl c6<|sr<|?_
   rcases oi hf with ⟨c7,hf⟩ | ⟨c7,hf⟩
   ·obtain ⟨r_8,er9,hf⟩:=ob hf
    refine x9 (.ptr 0 0 1) rfl trivial rfl<|x9 (.int .i64 a_1.N) rfl nle rfl<|x9 (.bool (a_1.N == 0)) rfl rfl rfl<|l7 (.bool (a_1.N == 0)) rfl<|a0v (s:=20) (b:=true) rfl c7<|s_on rfl<|x9 (.ptr 0 0 2) rfl trivial rfl<|s_on rfl<|x9 (.str a_1.T) rfl nle rfl<|s_on rfl<|a0b (a0s (a9t _ _ er9) rfl (.refl _) rfl)<|x9 (.bool r_8) rfl trivial rfl<|l7 (.bool r_8) rfl<|dk<|a0c<|?_;obtain rfl:=os hf;exact a0h ⟨trivial,trivial⟩ rfl (.refl _)
   ·refine x9 (.ptr 0 0 1) rfl trivial rfl<|x9 (.int .i64 a_1.N) rfl nle rfl<|x9 (.bool (a_1.N == 0)) rfl rfl rfl<|l7 (.bool (a_1.N == 0)) rfl<|a0v (s:=20) (b:=false) rfl (bf c7)<|a0a rfl rfl<|a0a rfl rfl<|a0a rfl rfl<|x9 (.bool false) rfl trivial rfl<|l7 (.bool false) rfl<|dk<|a0c<|?_;obtain rfl:=os hf;exact a0h ⟨trivial,trivial⟩ rfl (.refl _)
  ·refine y8 rfl (bf c6)<|sr<|x9 (.bool (a_1.Kind == 3)) rfl rfl rfl<|l7 (.bool (a_1.Kind == 3)) rfl<|dk<|?_
   rcases oi hf with ⟨c10,hf⟩ | ⟨c10,hf⟩
   ·refine y7 rfl c10<|sr<|?_
    obtain ⟨r_11,er12,hf⟩:=ob hf
    rcases oi hf with ⟨c13,hf⟩ | ⟨c13,hf⟩
    ·refine x9 (.ptr 0 0 1) rfl trivial rfl<|x9 (.int .i64 a_1.N) rfl nle rfl<|a0b (a0s (a7b _ _ _ _ er12) rfl (.refl _) rfl)<|l7 (.bool r_11) rfl<|a0v (s:=30) (b:=true) rfl c13<|s_on rfl<|x9 (.ptr 0 0 2) rfl trivial rfl<|s_on rfl<|x9 (.str a_1.T) rfl nle rfl<|s_on rfl<|x9 (.bool (a_1.T == [])) rfl trivial rfl<|x9 (.bool (a_1.T == [])) rfl trivial rfl<|l7 (.bool (a_1.T == [])) rfl<|dk<|a0c<|?_;obtain rfl:=os hf;exact a0h ⟨trivial,trivial⟩ rfl (.refl _)
    ·refine x9 (.ptr 0 0 1) rfl trivial rfl<|x9 (.int .i64 a_1.N) rfl nle rfl<|a0b (a0s (a7b _ _ _ _ er12) rfl (.refl _) rfl)<|l7 (.bool r_11) rfl<|a0v (s:=30) (b:=false) rfl (bf c13)<|a0a rfl rfl<|a0a rfl rfl<|a0a rfl rfl<|x9 (.bool false) rfl trivial rfl<|l7 (.bool false) rfl<|dk<|a0c<|?_;obtain rfl:=os hf;exact a0h ⟨trivial,trivial⟩ rfl (.refl _)
   ·refine y8 rfl (bf c10)<|sr<|x9 (.bool (a_1.Kind == 4)) rfl rfl rfl<|l7 (.bool (a_1.Kind == 4)) rfl<|dk<|?_
    rcases oi hf with ⟨c14,hf⟩ | ⟨c14,hf⟩
    ·refine y7 rfl c14<|sr<|?_
     obtain ⟨r_15,er16,hf⟩:=ob hf
     rcases oi hf with ⟨c17,hf⟩ | ⟨c17,hf⟩
     ·refine x9 (.ptr 0 0 1) rfl trivial rfl<|x9 (.int .i64 a_1.N) rfl nle rfl<|a0b (a0s (b6t _ _ er16) rfl (.refl _) rfl)<|l7 (.bool r_15) rfl<|a0v (s:=40) (b:=true) rfl c17<|s_on rfl<|x9 (.ptr 0 0 2) rfl trivial rfl<|s_on rfl<|x9 (.str a_1.T) rfl nle rfl<|s_on rfl<|x9 (.bool (a_1.T == [])) rfl trivial rfl<|x9 (.bool (a_1.T == [])) rfl trivial rfl<|l7 (.bool (a_1.T == [])) rfl<|dk<|a0c<|?_;obtain rfl:=os hf;exact a0h ⟨trivial,trivial⟩ rfl (.refl _)
     ·refine x9 (.ptr 0 0 1) rfl trivial rfl<|x9 (.int .i64 a_1.N) rfl nle rfl<|a0b (a0s (b6t _ _ er16) rfl (.refl _) rfl)<|l7 (.bool r_15) rfl<|a0v (s:=40) (b:=false) rfl (bf c17)<|a0a rfl rfl<|a0a rfl rfl<|a0a rfl rfl<|x9 (.bool false) rfl trivial rfl<|l7 (.bool false) rfl<|dk<|a0c<|?_;obtain rfl:=os hf;exact a0h ⟨trivial,trivial⟩ rfl (.refl _)
    ·refine y8 rfl (bf c14)<|a0k<|a2y<|a0m<|sr<|l7 (.bool false) rfl<|dk<|a0c<|?_;obtain rfl:=os hf;exact a0h ⟨trivial,trivial⟩ rfl (.refl _)

/- impl.jsonAtom -/
def c33:a0p :=
 (.seq (.reg (tq 1 (.box 5 (.t 0)) (tq 2 (.box 3 (.c (.agg [(.int .i64 0),(.int .i64 0),(.str [])]))) (tm 3 (.c (.bool false)) .done))))
 (.seq (.reg (tq 7 (.build [(.int .i64 0),(.int .i64 0),(.str [])] []) (tq 4 (.box 3 (.c (.agg [(.int .i64 0),(.int .i64 0),(.str [])]))) (.q ⟨none,none,.store 3 (.t 4) (.t 7)⟩
 .done))))
 (.seq (.seq (.reg (tq 8 (.faddr 0 (.t 1)) (tq 9 (.load 1 false (.t 8)) .done)))
 (.block 0 (.seq (.reg (tq 11 (.bin .eql (.t 9) (.c (.int .i64 2))) (tm 10 (.t 11) .done)))
 (.cond (.t 10) (.reg (tq 12 (.faddr 1 (.t 1)) (tq 13 (.load 1 false (.t 12)) (tq 14 (.build [(.int .i64 0),(.int .i64 0),(.str [])] [(0,1,(.c (.int .i64 1))),(1,1,(.t 13))]) (.q ⟨none,none,.store 3 (.t 4) (.t 14)⟩
 .done)))))
 (.seq (.reg (tq 16 (.bin .eql (.t 9) (.c (.int .i64 3))) (tm 15 (.t 16) .done)))
 (.cond (.t 15) (.reg (tq 17 (.faddr 2 (.t 1)) (tq 18 (.load 1 false (.t 17)) (tq 19 (.build [(.int .i64 0),(.int .i64 0),(.str [])] [(0,1,(.c (.int .i64 2))),(2,1,(.t 18))]) (.q ⟨none,none,.store 3 (.t 4) (.t 19)⟩
 .done)))))
 (.seq (.reg (tq 21 (.bin .eql (.t 9) (.c (.int .i64 1))) (tm 20 (.t 21) .done)))
 (.cond (.t 20) (.reg (tq 22 (.faddr 1 (.t 1)) (tq 23 (.load 1 false (.t 22)) (tq 24 (.build [(.int .i64 0),(.int .i64 0),(.str [])] [(0,1,(.c (.int .i64 3))),(1,1,(.t 23))]) (.q ⟨none,none,.store 3 (.t 4) (.t 24)⟩
 .done)))))
 (.seq (.reg (tq 26 (.bin .eql (.t 9) (.c (.int .i64 4))) (tm 25 (.t 26) .done)))
 (.cond (.t 25) (.seq (.reg (tq 28 (.load 5 true (.t 1)) (tq 29 (.call 42 [(.t 28),(.c (.str [117,117,105,100]))]) (tm 27 (.t 29) (tq 30 (.extract 0 (.t 27)) (tq 31 (.extract 1 (.t 27)) (tq 5 (.box 5 (.c (.agg [(.int .i64 0),(.int .i64 0),(.str []),.nil,.nil]))) (.q ⟨none,none,.store 5 (.t 5) (.t 30)⟩
 (tm 6 (.t 31) .done)))))))))
 (.seq (.seq (.reg (tm 32 (.t 6) (tq 33 (.not (.t 32)) (tm 34 (.t 33) (tg 35 34 false (.faddr 0 (.t 5)) (tg 36 34 false (.load 1 false (.t 35)) (tg 37 34 false (.bin .neq (.t 36) (.c (.int .i64 2))) (tq 38 (.pick (.t 34) (.c (.bool true)) (.t 37)) .done))))))))
 (.cut (.cond (.t 38) (.seq (.reg (tq 39 (.build [(.int .i64 0),(.int .i64 0),(.str [])] []) (.q ⟨none,none,.store 3 (.t 2) (.t 39)⟩
 (tm 3 (.c (.bool false)) .done))))
 .ret)
 .skip)))
 (.reg (tq 40 (.faddr 1 (.t 5)) (tq 41 (.load 1 false (.t 40)) (tq 42 (.build [(.int .i64 0),(.int .i64 0),(.str [])] [(0,1,(.c (.int .i64 4))),(1,1,(.t 41))]) (.q ⟨none,none,.store 3 (.t 4) (.t 42)⟩
 .done)))))))
 .skip))))))))))
 (.cut (.seq (.reg (tq 43 (.load 3 true (.t 4)) (tq 44 (.load 3 true (.t 4)) (.l ⟨(some 45),none,.call 43 [(.t 44)]⟩ [⟨(some 43),none,.load 3 true (.t 4)⟩]
 (.l ⟨none,none,.store 3 (.t 2) (.t 43)⟩ []
 (tm 3 (.t 45) .done) .non) .non))))
 .ret)))))
theorem d5z:a1f Try.prog Try.f33 = some (c33.erase,[.load 3 true (.t 2),.mov (.t 3)],46):=by kernel_rfl
def a4i (j_1:o8):Option (y5 × Bool) :=
    ((if (j_1.Kind == 2) then
    some (.go (1,j_1.N,[]))
    else
    if (j_1.Kind == 3) then
    some (.go (2,0,j_1.T))
    else
    if (j_1.Kind == 1) then
    some (.go (3,j_1.N,[]))
    else
    if (j_1.Kind == 4) then
    (a4k j_1 [117,117,105,100]).bind fun r_21 =>
    ((if (!r_21.2) then
    some true
    else
    some (r_21.1.Kind != 2):Option Bool)).bind fun s38_24 =>
    if s38_24 then
    some (.ret ((⟨0,0,[]⟩:y5),false))
    else
    some (.go (4,r_21.1.N,[]))
    else
    some (.go (0,0,[])):Option (Fl (y5 × Bool) (Int × Int × Str)))).bind fun q => (match q with
    | .ret r => some r
    | .go (x_13,x_14,x_15) =>
    (a6j (⟨x_13,x_14,x_15⟩:y5)).bind fun r_28 =>
    some ((⟨x_13,x_14,x_15⟩:y5),r_28))
theorem b7c (j_1:o8) (r:(y5 × Bool)) (hf:a4i j_1 = some r):a0d Try.prog 33 .flat [(l9 j_1)] (.tup [(o5 r.1),(.bool r.2)]):=by
 refine a0d.of_awp mixed Try.func33 d5z nle ?_;rw [a0q];rw [o9 j_1];unfold a4i at hf;unfold c33;refine (show awp Try.prog false 0 _ (ofL [(0,(.agg [(.int .i64 j_1.Kind),(.int .i64 j_1.N),(.str j_1.T),(.lst 1 (j_1.Keys.map AV.str)),(.lst 5 (j_1.Items.map l9))]))]) [] _ from ?_);refine sr<|a0b (a1p (j:=0) (c:=(.agg [(.int .i64 j_1.Kind),(.int .i64 j_1.N),(.str j_1.T),(.lst 1 (j_1.Keys.map AV.str)),(.lst 5 (j_1.Items.map l9))])) rfl trivial rfl rfl)<|a0b (a1p (j:=1) (c:=(.agg [(.int .i64 0),(.int .i64 0),(.str [])])) rfl trivial rfl rfl)<|l7 (.bool false) rfl<|dk<|sr<|x9 (.agg [(.int .i64 0),(.int .i64 0),(.str [])]) rfl trivial rfl<|?_
 refine a0b (a1p (j:=2) (c:=(.agg [(.int .i64 0),(.int .i64 0),(.str [])])) rfl trivial rfl rfl)<|a2a (a0o (v:=(.agg [(.int .i64 0),(.int .i64 0),(.str [])])) (y':=(.agg [(.int .i64 0),(.int .i64 0),(.str [])])) rfl rfl rfl trivial ⟨rfl,nle⟩ ⟨⟨rfl,trivial⟩,⟨⟨rfl,trivial⟩,⟨⟨rfl,trivial⟩,trivial⟩⟩⟩ rfl)<|dk<|o6<|?_
 obtain ⟨p16,hb1,hf⟩:=ob hf
 refine a3f (X:={q:(Int × Int × Str) // p16 = .go q}) (fun q => ([(2,(.ptr 0 0 0)),(4,(.ptr 1 0 0))],[.box 3 (.agg [(.int .i64 0),(.int .i64 0),(.str [])]),.box 3 (.agg [(.int .i64 q.1.1),(.int .i64 q.1.2.1),(.str q.1.2.2)])])) ?_ ?_
 ·refine sr<|x9 (.ptr 0 0 0) rfl trivial rfl<|x9 (.int .i64 j_1.Kind) rfl nle rfl<|dk<|a4a<|sr<|x9 (.bool (j_1.Kind == 2)) rfl rfl rfl<|l7 (.bool (j_1.Kind == 2)) rfl<|dk<|?_
  rcases oi hb1 with ⟨c17,hb1⟩ | ⟨c17,hb1⟩
  ·refine y7 rfl c17<|a0x<|x9 (.ptr 0 0 1) rfl trivial rfl<|x9 (.int .i64 j_1.N) rfl nle rfl<|x9 (.agg [(.int .i64 1),(.int .i64 j_1.N),(.str [])]) rfl ⟨⟨rfl,nle,trivial⟩,⟨⟨rfl,nle,trivial⟩,trivial⟩⟩ rfl<|a2a (a0o (v:=(.agg [(.int .i64 1),(.int .i64 j_1.N),(.str [])])) (y':=(.agg [(.int .i64 1),(.int .i64 j_1.N),(.str [])])) rfl rfl rfl trivial ⟨rfl,nle⟩ ⟨⟨rfl,trivial⟩,⟨⟨rfl,trivial⟩,⟨⟨rfl,trivial⟩,trivial⟩⟩⟩ rfl)<|a0l<|a2y<|?_;obtain rfl:=os hb1;exact a3u ⟨_,rfl⟩ ⟨[],[1,2],_,_,rfl,rfl,⟨.refl _,⟨.refl _,trivial⟩⟩,(.refl _)⟩
  ·refine y8 rfl (bf c17)<|sr<|x9 (.bool (j_1.Kind == 3)) rfl rfl rfl<|l7 (.bool (j_1.Kind == 3)) rfl<|dk<|?_
   rcases oi hb1 with ⟨c18,hb1⟩ | ⟨c18,hb1⟩
   ·refine y7 rfl c18<|a0x<|x9 (.ptr 0 0 2) rfl trivial rfl<|x9 (.str j_1.T) rfl nle rfl<|x9 (.agg [(.int .i64 2),(.int .i64 0),(.str j_1.T)]) rfl ⟨⟨rfl,nle,trivial⟩,⟨⟨rfl,nle,trivial⟩,trivial⟩⟩ rfl<|a2a (a0o (v:=(.agg [(.int .i64 2),(.int .i64 0),(.str j_1.T)])) (y':=(.agg [(.int .i64 2),(.int .i64 0),(.str j_1.T)])) rfl rfl rfl trivial ⟨rfl,nle⟩ ⟨⟨rfl,trivial⟩,⟨⟨rfl,trivial⟩,⟨⟨rfl,trivial⟩,trivial⟩⟩⟩ rfl)<|a0l<|a2y<|?_;obtain rfl:=os hb1;exact a3u ⟨_,rfl⟩ ⟨[],[1,2],_,_,rfl,rfl,⟨.refl _,⟨.refl _,trivial⟩⟩,(.refl _)⟩
   ·refine y8 rfl (bf c18)<|sr<|x9 (.bool (j_1.Kind == 1)) rfl rfl rfl<|l7 (.bool (j_1.Kind == 1)) rfl<|dk<|?_
    rcases oi hb1 with ⟨c19,hb1⟩ | ⟨c19,hb1⟩
    ·refine y7 rfl c19<|a0x<|x9 (.ptr 0 0 1) rfl trivial rfl<|x9 (.int .i64 j_1.N) rfl nle rfl<|x9 (.agg [(.int .i64 3),(.int .i64 j_1.N),(.str [])]) rfl ⟨⟨rfl,nle,trivial⟩,⟨⟨rfl,nle,trivial⟩,trivial⟩⟩ rfl<|a2a (a0o (v:=(.agg [(.int .i64 3),(.int .i64 j_1.N),(.str [])])) (y':=(.agg [(.int .i64 3),(.int .i64 j_1.N),(.str [])])) rfl rfl rfl trivial ⟨rfl,nle⟩ ⟨⟨rfl,trivial⟩,⟨⟨rfl,trivial⟩,⟨⟨rfl,trivial⟩,trivial⟩⟩⟩ rfl)<|a0l<|a2y<|?_;obtain rfl:=os hb1;exact a3u ⟨_,rfl⟩ ⟨[],[1,2],_,_,rfl,rfl,⟨.refl _,⟨.refl _,trivial⟩⟩,(.refl _)⟩
    ·refine y8 rfl (bf c19)<|sr<|x9 (.bool (j_1.Kind == 4)) rfl rfl rfl<|l7 (.bool (j_1.Kind == 4)) rfl<|dk<|?_
     rcases oi hb1 with ⟨c20,hb1⟩ | ⟨c20,hb1⟩
     ·refine y7 rfl c20<|sr<|?_
      obtain ⟨r_21,er22,hb1⟩:=ob hb1
      refine x9 (.agg [(.int .i64 j_1.Kind),(.int .i64 j_1.N),(.str j_1.T),(.lst 1 (j_1.Keys.map AV.str)),(.lst 5 (j_1.Items.map l9))]) rfl nle rfl<|a0b (b4x (v:=(.tup [(.agg [(.int .i64 r_21.1.Kind),(.int .i64 r_21.1.N),(.str r_21.1.T),(.lst 1 (r_21.1.Keys.map AV.str)),(.lst 5 (r_21.1.Items.map l9))]),(.bool r_21.2)])) rfl (a9u _ _ _ er22) rfl (.cons (.of_eq (o9 j_1).symm) (.cons (.refl _) .nil)) (by simp only [o9]) rfl)<|l7 (.tup [(.agg [(.int .i64 r_21.1.Kind),(.int .i64 r_21.1.N),(.str r_21.1.T),(.lst 1 (r_21.1.Keys.map AV.str)),(.lst 5 (r_21.1.Items.map l9))]),(.bool r_21.2)]) rfl<|x9 (.agg [(.int .i64 r_21.1.Kind),(.int .i64 r_21.1.N),(.str r_21.1.T),(.lst 1 (r_21.1.Keys.map AV.str)),(.lst 5 (r_21.1.Items.map l9))]) rfl nle rfl<|?_
      refine x9 (.bool r_21.2) rfl nle rfl<|a0b (a1p (j:=3) (c:=(.agg [(.int .i64 0),(.int .i64 0),(.str []),.nil,.nil])) rfl trivial rfl rfl)<|a2a (a0o (v:=(.agg [(.int .i64 r_21.1.Kind),(.int .i64 r_21.1.N),(.str r_21.1.T),(.lst 1 (r_21.1.Keys.map AV.str)),(.lst 5 (r_21.1.Items.map l9))])) (y':=(.agg [(.int .i64 r_21.1.Kind),(.int .i64 r_21.1.N),(.str r_21.1.T),(.lst 1 (r_21.1.Keys.map AV.str)),(.lst 5 (r_21.1.Items.map l9))])) rfl rfl rfl trivial ⟨rfl,nle⟩ ⟨⟨rfl,trivial⟩,⟨⟨rfl,trivial⟩,⟨⟨rfl,trivial⟩,⟨⟨rfl,trivial⟩,⟨⟨rfl,trivial⟩,trivial⟩⟩⟩⟩⟩ rfl)<|l7 (.bool r_21.2) rfl<|dk<|o6<|o6<|?_
      obtain ⟨s38_24,hb2,hb1⟩:=ob hb1
      refine a2n ([(2,(.ptr 0 0 0)),(4,(.ptr 1 0 0)),(5,(.ptr 2 0 0)),(38,(.bool s38_24))],[.box 3 (.agg [(.int .i64 0),(.int .i64 0),(.str [])]),.box 3 (.agg [(.int .i64 0),(.int .i64 0),(.str [])]),.box 5 (.agg [(.int .i64 r_21.1.Kind),(.int .i64 r_21.1.N),(.str r_21.1.T),(.lst 1 (r_21.1.Keys.map AV.str)),(.lst 5 (r_21.1.Items.map l9))])]) ?_ ?_
      ·refine a0x ?_
       rcases oi hb2 with ⟨c26,hb2⟩ | ⟨c26,hb2⟩
       ·refine l7 (.bool r_21.2) rfl<|x9 (.bool (!r_21.2)) rfl trivial rfl<|l7 (.bool (!r_21.2)) rfl<|a0v (s:=34) (b:=true) rfl c26<|a0a rfl rfl<|a0a rfl rfl<|a0a rfl rfl<|x9 (.bool true) rfl trivial rfl<|a0l<|?_;obtain rfl:=os hb2;exact ⟨[],[1,2,3],_,_,rfl,rfl,⟨.refl _,⟨.refl _,⟨.refl _,⟨.refl _,trivial⟩⟩⟩⟩,(.refl _)⟩
       ·refine l7 (.bool r_21.2) rfl<|x9 (.bool (!r_21.2)) rfl trivial rfl<|l7 (.bool (!r_21.2)) rfl<|a0v (s:=34) (b:=false) rfl (bf c26)<|s_on rfl<|x9 (.ptr 3 0 0) rfl trivial rfl<|s_on rfl<|x9 (.int .i64 r_21.1.Kind) rfl nle rfl<|s_on rfl<|x9 (.bool (r_21.1.Kind != 2)) rfl rfl rfl<|x9 (.bool (r_21.1.Kind != 2)) rfl trivial rfl<|a0l<|?_;obtain rfl:=os hb2;exact ⟨[],[1,2,3],_,_,rfl,rfl,⟨.refl _,⟨.refl _,⟨.refl _,⟨.refl _,trivial⟩⟩⟩⟩,(.refl _)⟩
      ·rcases oi hb1 with ⟨c27,hb1⟩ | ⟨c27,hb1⟩
       ·refine y7 rfl c27<|sr<|x9 (.agg [(.int .i64 0),(.int .i64 0),(.str [])]) rfl trivial rfl<|a2a (a0o (v:=(.agg [(.int .i64 0),(.int .i64 0),(.str [])])) (y':=(.agg [(.int .i64 0),(.int .i64 0),(.str [])])) rfl rfl rfl trivial ⟨rfl,nle⟩ ⟨⟨rfl,trivial⟩,⟨⟨rfl,trivial⟩,⟨⟨rfl,trivial⟩,trivial⟩⟩⟩ rfl)<|l7 (.bool false) rfl<|dk<|a0c<|?_;obtain rfl:=os hb1;obtain rfl:=os hf;exact a0h ⟨nle,⟨trivial,trivial⟩⟩ rfl (.refl _)
       ·refine y8 rfl (bf c27)<|a0k<|a0m<|a0x<|x9 (.ptr 2 0 1) rfl trivial rfl<|x9 (.int .i64 r_21.1.N) rfl nle rfl<|x9 (.agg [(.int .i64 4),(.int .i64 r_21.1.N),(.str [])]) rfl ⟨⟨rfl,nle,trivial⟩,⟨⟨rfl,nle,trivial⟩,trivial⟩⟩ rfl<|a2a (a0o (v:=(.agg [(.int .i64 4),(.int .i64 r_21.1.N),(.str [])])) (y':=(.agg [(.int .i64 4),(.int .i64 r_21.1.N),(.str [])])) rfl rfl rfl trivial ⟨rfl,nle⟩ ⟨⟨rfl,trivial⟩,⟨⟨rfl,trivial⟩,⟨⟨rfl,trivial⟩,trivial⟩⟩⟩ rfl)<|a0l<|a2y<|?_;obtain rfl:=os hb1;exact a3u ⟨_,rfl⟩ ⟨[],[0,1],_,_,rfl,rfl,⟨.refl _,⟨.refl _,trivial⟩⟩,(.refl _)⟩
     ·refine y8 rfl (bf c20)<|a0k<|a2y<|?_;obtain rfl:=os hb1;exact a3u ⟨_,rfl⟩ ⟨[],[1,2],_,_,rfl,rfl,⟨.refl _,⟨.refl _,trivial⟩⟩,(.refl _)⟩
 ·rintro ⟨⟨x_13,x_14,x_15⟩,rfl⟩
  refine sr<|?_
  obtain ⟨r_28,er29,hf⟩:=ob hf
  refine x9 (.agg [(.int .i64 x_13),(.int .i64 x_14),(.str x_15)]) rfl nle rfl<|x9 (.agg [(.int .i64 x_13),(.int .i64 x_14),(.str x_15)]) rfl nle rfl<|a5x (a0s (b3i _ _ er29) rfl (.refl _) rfl) b0f trivial<|d2z (a0o (v:=(.agg [(.int .i64 x_13),(.int .i64 x_14),(.str x_15)])) (y':=(.agg [(.int .i64 x_13),(.int .i64 x_14),(.str x_15)])) rfl rfl rfl trivial ⟨rfl,nle⟩ ⟨⟨rfl,trivial⟩,⟨⟨rfl,trivial⟩,⟨⟨rfl,trivial⟩,trivial⟩⟩⟩ rfl) trivial trivial<|l7 (.bool r_28) rfl<|dk<|a0c<|?_;obtain rfl:=os hf;exact a0h ⟨nle,⟨trivial,trivial⟩⟩ rfl (.refl _)

/- slices.Clone[[]impl.Atom,impl.Atom] -/
def c52:a0p :=
 (.seq (.reg (tm 2 (.c .nil) .done))
 (.seq (.seq (.reg (tm 3 (.t 0) (tq 4 (.isnil false (.t 3)) .done)))
 (.cond (.t 4) (.seq (.reg (tm 2 (.c .nil) .done))
 .ret)
 .skip))
 (.seq (.reg (tq 5 (.bslice 3 []) (tm 6 (.t 0) (tq 7 (.append 3 32 (.t 5) (.t 6)) (tm 2 (.t 7) .done)))))
 .ret)))
theorem d6a:a1f Try.prog Try.f52 = some (c52.erase,[.mov (.t 2)],8):=by kernel_rfl
def a1u (s_1:(List y5)):Option (List y5) :=
    if ([] ++ s_1).length ≤ 2 ^ 30 then
    some ([] ++ s_1)
    else none
theorem a7j (s_1:(List y5)) (r:(List y5)) (hf:a1u s_1 = some r):a0d Try.prog 52 .fresh [(.lst 3 (s_1.map o5))] (.lst 3 (r.map o5)):=by
 refine a0d.of_awp mixed Try.func52 d6a nle ?_;rw [a0q];unfold a1u at hf;unfold c52;refine (show awp Try.prog true 0 _ (ofL [(0,(.lst 3 (s_1.map o5)))]) [] _ from ?_);refine sr<|l7 .nil rfl<|dk<|o6<|sr<|l7 (.lst 3 (s_1.map o5)) rfl<|d4e (l:=s_1.map o5) rfl<|?_
 intro b hb3
 rcases b with _ | _
 ·refine dk<|y8 rfl rfl<|a0k<|a0m<|sr<|?_
  obtain ⟨g2,hf⟩:=og hf
  refine a0b (a2i (j:=0) (as':=[]) rfl (fun _ => by decide) trivial (.refl _) rfl rfl rfl) ?_;refine l7 (.lst 3 (s_1.map o5)) rfl ?_
  refine a0b (a4t (j:=1) (L:=(([] ++ s_1).map o5)) (len:=([] ++ s_1).length) rfl false rfl rfl (fun _ => flm (fun _ => rfl) _) (fun _ _ _ => flm (fun _ => rfl) _) (by decide) ((by simp)) (by simp <;> omega) g2 rfl rfl) ?_
  refine l7 (.own 1 0 (([] ++ s_1).length)) rfl<|dk<|a0c<|?_;obtain rfl:=os hf;exact a2p ⟨trivial,trivial⟩ rfl (by decide) (.of_eq (congrArg (AV.lst _) (tk (enc:=o5) ([] ++ s_1))))
 ·have he4:s_1 = []:=d3a (hb3 rfl)
  have hE:(if ([] ++ s_1).length ≤ 2 ^ 30 then some ([] ++ s_1) else none) = (some []):=by simp [he4]
  rw [hE] at hf;refine dk<|y7 rfl rfl<|sr<|l7 .nil rfl<|dk<|a0c<|?_;obtain rfl:=os hf;exact a2p ⟨trivial,trivial⟩ rfl (by decide) (.nil _)

/- slices.SortFunc[[]impl.Atom,impl.Atom] -/
def a1a (a0:List y5):Option (List y5) :=
    if a0.length ≤ 2 ^ 30 then
    some (a0.mergeSort fun x y => !(Go.Proofs.ltOf cfA) (y.Kind,y.N,y.T) (x.Kind,x.N,x.T))
    else none
/- HAND -/
theorem a5v (a0:List y5) (r:List y5) (hf:a1a a0 = some r):a0r Try.prog true 53 [.own 0 0 a0.length,.fn 54 []] [.row 3 (a0.map o5)] (.tup []) [.row 3 (r.map o5)]:=by
  unfold a1a at hf
  split at hf
  · rename_i h
    obtain rfl:=os hf
    have:=d1h d4w d4x true (a0.map fun x => (x.Kind,x.N,x.T)) (by rw [List.length_map];exact h)
    rw [List.length_map,← List.map_mergeSort (r:=fun x y => !(Go.Proofs.ltOf cfA) (y.Kind,y.N,y.T) (x.Kind,x.N,x.T)) (fun _ _ _ _ => rfl),List.map_map,List.map_map] at this
    exact this
  · cases hf

/- slices.Compact[[]impl.Atom,impl.Atom] -/
def d0a:a0p :=
 (.seq (.reg (tm 2 (.c .nil) .done))
 (.seq (.seq (.reg (tm 6 (.t 0) (tq 7 (.len (.t 6)) (tq 8 (.bin .lss (.t 7) (.c (.int .i64 2))) .done))))
 (.cond (.t 8) (.seq (.reg (tm 9 (.t 0) (tm 2 (.t 9) .done)))
 .ret)
 .skip))
 (.seq (.seq (.reg (tm 3 (.c (.int .i64 1)) .done))
 (.block 0 (.loop (.seq (.seq (.reg (tm 10 (.t 3) (tm 11 (.t 0) (tq 12 (.len (.t 11)) (tq 13 (.bin .lss (.t 10) (.t 12)) .done)))))
 (.cond (.t 13) .skip
 (.exit 0)))
 (.seq (.block 1 (.seq (.reg (tm 16 (.t 0) (tm 17 (.t 3) (tq 18 (.iaddr 3 (.t 16) (.t 17)) (tq 19 (.load 3 true (.t 18)) (tm 20 (.t 0) (tm 21 (.t 3) (tq 22 (.bin .sub (.t 21) (.c (.int .i64 1))) (tq 23 (.iaddr 3 (.t 20) (.t 22)) (tq 24 (.load 3 true (.t 23)) (tq 25 (.eqs false [0,0,2] (.t 19) (.t 24)) .done)))))))))))
 (.cond (.t 25) (.seq (.reg (tm 26 (.t 0) (tm 27 (.t 3) (tq 28 (.slice 3 (.t 26) (some (.t 27)) none) (tm 4 (.t 28) .done)))))
 (.seq (.seq (.reg (tm 5 (.c (.int .i64 1)) .done))
 (.block 2 (.loop (.seq (.seq (.reg (tm 29 (.t 5) (tm 30 (.t 4) (tq 31 (.len (.t 30)) (tq 32 (.bin .lss (.t 29) (.t 31)) .done)))))
 (.cond (.t 32) .skip
 (.exit 2)))
 (.seq (.block 3 (.seq (.reg (tm 35 (.t 4) (tm 36 (.t 5) (tq 37 (.iaddr 3 (.t 35) (.t 36)) (tq 38 (.load 3 true (.t 37)) (tm 39 (.t 4) (tm 40 (.t 5) (tq 41 (.bin .sub (.t 40) (.c (.int .i64 1))) (tq 42 (.iaddr 3 (.t 39) (.t 41)) (tq 43 (.load 3 true (.t 42)) (tq 44 (.eqs true [0,0,2] (.t 38) (.t 43)) .done)))))))))))
 (.cond (.t 44) (.seq (.reg (tm 45 (.t 0) (tm 46 (.t 3) (tm 47 (.t 4) (tm 48 (.t 5) (tq 49 (.iaddr 3 (.t 47) (.t 48)) (tq 50 (.load 3 true (.t 49)) (tq 51 (.iaddr 3 (.t 45) (.t 46)) (.q ⟨none,none,.store 3 (.t 51) (.t 50)⟩
 .done)))))))))
 (.reg (tm 52 (.t 3) (tq 53 (.bin .add (.t 52) (.c (.int .i64 1))) (tm 3 (.t 53) .done)))))
 .skip)))
 (.reg (tm 33 (.t 5) (tq 34 (.bin .add (.t 33) (.c (.int .i64 1))) (tm 5 (.t 34) .done)))))))))
 (.cut (.seq (.reg (tm 54 (.t 0) (tm 55 (.t 3) (tq 56 (.slice 3 (.t 54) (some (.t 55)) none) (.q ⟨none,none,.clr 3 (.agg [(.int .i64 0),(.int .i64 0),(.str [])]) (.t 56)⟩
 .done)))))
 (.seq (.reg (tm 57 (.t 0) (tm 58 (.t 3) (tq 59 (.slice 3 (.t 57) none (some (.t 58))) (tm 2 (.t 59) .done)))))
 .ret)))))
 .skip)))
 (.reg (tm 14 (.t 3) (tq 15 (.bin .add (.t 14) (.c (.int .i64 1))) (tm 3 (.t 15) .done)))))))))
 (.cut (.seq (.reg (tm 60 (.t 0) (tm 2 (.t 60) .done)))
 .ret)))))
theorem d1p:a1f Try.prog Try.f55 = some (d0a.erase,[.mov (.t 2)],61):=by kernel_rfl
def a0g (s_1:(List y5)) (k_235:Nat):Nat → Int → Int → (List y5) → Option (Int × (List y5))
  | 0,_,_,_ => none
  | k + 1,k_439,k2_440,s_441 =>
    if (decide (k2_440 < (((s_1.length - k_235):Nat):Int))) then
    if (0:Int) ≤ k2_440 ∧ k2_440 < (((s_1.length - k_235):Nat):Int) then
    (s_441[(k_235 + k2_440.toNat)]?).bind fun x_461 =>
    if (0:Int) ≤ w64 (k2_440 - 1) ∧ w64 (k2_440 - 1) < (((s_1.length - k_235):Nat):Int) then
    (s_441[(k_235 + (w64 (k2_440 - 1)).toNat)]?).bind fun x_464 =>
    if (!(x_461.Kind == x_464.Kind && (x_461.N == x_464.N && (x_461.T == x_464.T && true)))) then
    if (0:Int) ≤ k2_440 ∧ k2_440 < (((s_1.length - k_235):Nat):Int) then
    if (0:Int) ≤ k_439 ∧ k_439 < (s_441.length:Int) then
    (s_441[(0 + k_439.toNat)]?).bind fun x_469 =>
    a0g s_1 k_235 k (w64 (k_439 + 1)) (w64 (k2_440 + 1)) (s_441.set (0 + k_439.toNat) x_461)
    else none
    else none
    else
    a0g s_1 k_235 k k_439 (w64 (k2_440 + 1)) s_441
    else none
    else none
    else
    some (k_439,s_441)

def a0j (s_1:(List y5)):List y5 → Nat → Option (Fl (List y5) Unit)
  | [],k_235 =>
    some (.go ())
  | x_359 :: xs,k_235 =>
    if k_235 < s_1.length then
    if (0:Int) ≤ w64 ((k_235:Int) - 1) ∧ w64 ((k_235:Int) - 1) < (s_1.length:Int) then
    (s_1[(0 + (w64 ((k_235:Int) - 1)).toNat)]?).bind fun x_364 =>
    if (x_359.Kind == x_364.Kind && (x_359.N == x_364.N && (x_359.T == x_364.T && true))) then
    if (0:Int) ≤ (k_235:Int) ∧ (k_235:Int) ≤ (s_1.length:Int) then
    (a0g s_1 k_235 FUEL (k_235:Int) 1 s_1).bind fun p457 =>
    (match p457 with
    | (k_455,s_456) =>
    if (0:Int) ≤ k_455 ∧ k_455 ≤ (s_456.length:Int) then
    if (0:Int) ≤ k_455 ∧ k_455 ≤ (s_456.length:Int) then
    some (.ret ((s_456.take k_455.toNat ++ List.replicate (s_456.length - k_455.toNat) (⟨0,0,[]⟩:y5) ++ s_456.drop (k_455.toNat + (s_456.length - k_455.toNat))).take k_455.toNat))
    else none
    else none)
    else none
    else
    a0j s_1 xs (k_235 + 1)
    else none
    else none

def a1b (s_1:(List y5)):Option (List y5) :=
    if (decide ((s_1.length:Int) < 2)) then
    some s_1
    else
    (a0j s_1 (s_1.drop 1) 1).bind fun q => (match q with
    | .ret r => some r
    | .go _ =>
    some s_1)
theorem a6a (s_1:(List y5)) (r:(List y5)) (hf:a1b s_1 = some r):a0r Try.prog true 55 [(.own 0 0 s_1.length)] [.row 3 (s_1.map o5)] (.own 1 0 r.length) [.dead,.row 3 (r.map o5)]:=by
 refine a0r.of_awp mixed Try.func55 d1p nle ?_;rw [a0q];unfold a1b at hf;unfold d0a;refine (show awp Try.prog true 1 _ (ofL [(0,(.own 0 0 s_1.length))]) [.row 3 (s_1.map o5)] _ from ?_);refine sr<|l7 .nil rfl<|dk<|o6<|sr<|l7 (.own 0 0 s_1.length) rfl<|a1d (a6y rfl rfl) fun hl2 => x9 (.bool (decide ((s_1.length:Int) < 2))) rfl rfl rfl<|dk<|?_
 rcases oi hf with ⟨c3,hf⟩ | ⟨c3,hf⟩
 ·refine y7 rfl c3<|sr<|l7 (.own 0 0 s_1.length) rfl<|l7 (.own 0 0 s_1.length) rfl<|dk<|a0c<|?_;obtain rfl:=os hf;exact a6d [.mv 0] [0,1] rfl ⟨trivial,trivial⟩ rfl (.refl _) (.refl _)
 ·refine y8 rfl (bf c3)<|a0k<|a0m<|o6<|sr<|l7 (.int .i64 1) rfl<|dk<|?_
  obtain ⟨p352,hb1,hf⟩:=ob hf
  refine a3f (X:={q:Unit // p352 = .go q}) (fun q => ([(0,(.own 0 0 s_1.length))],[.row 3 (s_1.map o5)])) ?_ ?_
  ·refine a1o (X:={q:Nat // a0j s_1 (s_1.drop q) q = some p352}) (fun q => ([(0,(.own 0 0 s_1.length)),(3,(.int .i64 (q.1:Int)))],[.row 3 (s_1.map o5)])) (fun q => s_1.length - q.1) ⟨1,hb1⟩ ⟨[],[0],_,_,rfl,rfl,⟨.refl _,⟨.refl _,trivial⟩⟩,(.refl _)⟩ ?_
   rintro ⟨k_235,hc1⟩
   have hc1:a0j s_1 (s_1.drop k_235) k_235 = some p352:=hc1
   refine (show awp Try.prog true 1 _ (ofL [(0,(.own 0 0 s_1.length)),(3,(.int .i64 (k_235:Int)))]) [.row 3 (s_1.map o5)] _ from ?_)
   rcases a7n s_1 k_235 with ⟨hie355,hd358⟩ | ⟨hlt353,x_359,hx354,hd358⟩
   ·rw [hd358,a0j.eq_1] at hc1
    have hq357:=dlf hie355
    refine o6<|sr<|l7 (.int .i64 (k_235:Int)) rfl<|l7 (.own 0 0 s_1.length) rfl<|a1d (a6y rfl rfl) fun hl360 => x9 (.bool (decide ((k_235:Int) < (s_1.length:Int)))) rfl rfl rfl<|dk<|y8 rfl hq357<|a3x<|a3w<|a2o<|a3v<|?_;obtain rfl:=os hc1;exact a3u ⟨_,rfl⟩ ⟨[],[0],_,_,rfl,rfl,⟨.refl _,trivial⟩,(.refl _)⟩
   ·rw [hd358,a0j.eq_2] at hc1
    have hq357:=dlt hlt353
    refine o6<|sr<|l7 (.int .i64 (k_235:Int)) rfl<|l7 (.own 0 0 s_1.length) rfl<|a1d (a6y rfl rfl) fun hl361 => x9 (.bool (decide ((k_235:Int) < (s_1.length:Int)))) rfl rfl rfl<|dk<|y7 rfl hq357<|a0k<|a0m<|o6<|a4a<|sr<|?_
    obtain ⟨g362,hc1⟩:=og hc1
    obtain ⟨g363,hc1⟩:=og hc1
    obtain ⟨x_364,ex365,hc1⟩:=ob hc1
    refine l7 (.own 0 0 s_1.length) rfl<|l7 (.int .i64 (k_235:Int)) rfl<|a0b (b1r rfl rfl g362 rfl rfl)<|a0b (a9j (enc:=o5) (v:=(o5 x_359)) rfl rfl hx354 nle rfl)<|l7 (.own 0 0 s_1.length) rfl<|l7 (.int .i64 (k_235:Int)) rfl<|x9 (.int .i64 (w64 ((k_235:Int) - 1))) rfl rfl rfl<|a0b (a2k rfl rfl g363.1 g363.2 rfl rfl)<|a0b (a9j (enc:=o5) (v:=(o5 x_364)) rfl rfl ex365 nle rfl)<|x9 (.bool (x_359.Kind == x_364.Kind && (x_359.N == x_364.N && (x_359.T == x_364.T && true)))) rfl ⟨⟨rfl,rfl⟩,⟨⟨rfl,rfl⟩,⟨rfl,trivial⟩⟩⟩ rfl<|dk<|?_
    rcases oi hc1 with ⟨c366,hc1⟩ | ⟨c366,hc1⟩
    ·refine y7 rfl c366<|sr<|?_
     obtain ⟨g367,hc1⟩:=og hc1
     refine l7 (.own 0 0 s_1.length) rfl<|l7 (.int .i64 (k_235:Int)) rfl<|a0b (c2p rfl rfl rfl g367.1 g367.2)<|l7 (.own 0 k_235 (s_1.length - k_235)) rfl<|dk<|o6<|sr<|l7 (.int .i64 1) rfl<|dk<|?_
     obtain ⟨p457,hb2,hc1⟩:=ob hc1
     refine a2n ([(0,(.own 0 0 p457.2.length)),(3,(.int .i64 p457.1))],[.row 3 (p457.2.map o5)]) ?_ ?_
     ·refine a1o (X:={q:(Nat × Int × Int × (List y5)) // a0g s_1 k_235 q.1 q.2.1 q.2.2.1 q.2.2.2 = some p457}) (fun q => ([(0,(.own 0 0 q.1.2.2.2.length)),(3,(.int .i64 q.1.2.1)),(4,(.own 0 k_235 (s_1.length - k_235))),(5,(.int .i64 q.1.2.2.1))],[.row 3 (q.1.2.2.2.map o5)])) (fun q => q.1.1) ⟨(FUEL,(k_235:Int),1,s_1),hb2⟩ ⟨[],[0],_,_,rfl,rfl,⟨.refl _,⟨.refl _,⟨.refl _,⟨.refl _,trivial⟩⟩⟩⟩,(.refl _)⟩ ?_
      rintro ⟨⟨k,k_439,k2_440,s_441⟩,hc2⟩
      have hc2:a0g s_1 k_235 k k_439 k2_440 s_441 = some p457:=hc2
      refine (show awp Try.prog true 1 _ (ofL [(0,(.own 0 0 s_441.length)),(3,(.int .i64 k_439)),(4,(.own 0 k_235 (s_1.length - k_235))),(5,(.int .i64 k2_440))]) [.row 3 (s_441.map o5)] _ from ?_)
      rcases k with _ | k
      ·rw [a0g.eq_1] at hc2
       cases hc2
      ·rw [a0g.eq_2] at hc2;refine o6<|sr<|l7 (.int .i64 k2_440) rfl<|l7 (.own 0 k_235 (s_1.length - k_235)) rfl<|a1d (a6y rfl rfl) fun hl458 => x9 (.bool (decide (k2_440 < (((s_1.length - k_235):Nat):Int)))) rfl rfl rfl<|dk<|?_
       rcases oi hc2 with ⟨c459,hc2⟩ | ⟨c459,hc2⟩
       ·refine y7 rfl c459<|a0k<|a0m<|o6<|a4a<|sr<|?_
        obtain ⟨g460,hc2⟩:=og hc2
        obtain ⟨x_461,ex462,hc2⟩:=ob hc2
        obtain ⟨g463,hc2⟩:=og hc2
        obtain ⟨x_464,ex465,hc2⟩:=ob hc2
        refine l7 (.own 0 k_235 (s_1.length - k_235)) rfl<|l7 (.int .i64 k2_440) rfl<|a0b (a2k rfl rfl g460.1 g460.2 rfl rfl)<|a0b (a9j (enc:=o5) (v:=(o5 x_461)) rfl rfl ex462 nle rfl)<|l7 (.own 0 k_235 (s_1.length - k_235)) rfl<|l7 (.int .i64 k2_440) rfl<|x9 (.int .i64 (w64 (k2_440 - 1))) rfl rfl rfl<|a0b (a2k rfl rfl g463.1 g463.2 rfl rfl)<|a0b (a9j (enc:=o5) (v:=(o5 x_464)) rfl rfl ex465 nle rfl)<|x9 (.bool (!(x_461.Kind == x_464.Kind && (x_461.N == x_464.N && (x_461.T == x_464.T && true))))) rfl ⟨⟨rfl,rfl⟩,⟨⟨rfl,rfl⟩,⟨rfl,trivial⟩⟩⟩ rfl<|dk<|?_
        rcases oi hc2 with ⟨c466,hc2⟩ | ⟨c466,hc2⟩
        ·refine y7 rfl c466<|sr<|?_
         obtain ⟨g467,hc2⟩:=og hc2
         obtain ⟨g468,hc2⟩:=og hc2
         obtain ⟨x_469,ex470,hc2⟩:=ob hc2
         refine l7 (.own 0 0 s_441.length) rfl<|l7 (.int .i64 k_439) rfl<|l7 (.own 0 k_235 (s_1.length - k_235)) rfl<|l7 (.int .i64 k2_440) rfl<|a0b (a2k rfl rfl g467.1 g467.2 rfl rfl)<|a0b (a9j (enc:=o5) (v:=(o5 x_461)) rfl rfl ex462 nle rfl)<|a0b (a2k rfl rfl g468.1 g468.2 rfl rfl)<|?_;refine a2a (a7h (v':=(o5 x_461)) (e':=x_461) rfl rfl ex470 rfl rfl rfl (by decide) (fun _ => by decide) ⟨rfl,nle⟩ (.refl _) rfl) ?_;refine dk<|a0x<|l7 (.int .i64 k_439) rfl<|x9 (.int .i64 (w64 (k_439 + 1))) rfl rfl rfl<|l7 (.int .i64 (w64 (k_439 + 1))) rfl<|a0l<|a2y<|a0m<|a0x<|l7 (.int .i64 k2_440) rfl<|x9 (.int .i64 (w64 (k2_440 + 1))) rfl rfl rfl<|?_
         refine l7 (.int .i64 (w64 (k2_440 + 1))) rfl<|a0l<|?_;exact a2g ⟨(k,w64 (k_439 + 1),w64 (k2_440 + 1),s_441.set (0 + k_439.toNat) x_461),hc2⟩ (Nat.lt_succ_self _) ⟨[],[0],_,_,rfl,rfl,⟨.of_eq (congrArg (AV.own _ 0) (by simp)),⟨.refl _,⟨.refl _,⟨.refl _,trivial⟩⟩⟩⟩,(.refl _)⟩
        ·refine y8 rfl (bf c466)<|a0k<|a2y<|a0m<|a0x<|l7 (.int .i64 k2_440) rfl<|x9 (.int .i64 (w64 (k2_440 + 1))) rfl rfl rfl<|l7 (.int .i64 (w64 (k2_440 + 1))) rfl<|a0l<|?_;exact a2g ⟨(k,k_439,w64 (k2_440 + 1),s_441),hc2⟩ (Nat.lt_succ_self _) ⟨[],[0],_,_,rfl,rfl,⟨.refl _,⟨.refl _,⟨.refl _,⟨.refl _,trivial⟩⟩⟩⟩,(.refl _)⟩
       ·refine y8 rfl (bf c459)<|a3x<|a3w<|a2o<|a3v<|?_;obtain rfl:=os hc2;exact ⟨[],[0],_,_,rfl,rfl,⟨.refl _,⟨.refl _,trivial⟩⟩,(.refl _)⟩
     ·obtain ⟨k_455,s_456⟩:=p457
      refine sr<|?_
      obtain ⟨g471,hc1⟩:=og hc1
      refine l7 (.own 0 0 s_456.length) rfl<|l7 (.int .i64 k_455) rfl<|a0b (c2p rfl rfl rfl g471.1 g471.2)<|a2a (d4f (enc:=o5) (y:=(⟨0,0,[]⟩:y5)) rfl rfl (.refl _) rfl)<|dk<|sr<|?_
      obtain ⟨g472,hc1⟩:=og hc1
      refine l7 (.own 0 0 s_456.length) rfl<|l7 (.int .i64 k_455) rfl<|a0b (c6l rfl rfl rfl g472.1 g472.2)<|l7 (.own 0 0 k_455.toNat) rfl<|dk<|a0c<|?_;obtain rfl:=os hc1;obtain rfl:=os hf;exact a6d [.trim 2] [0,1] rfl ⟨trivial,trivial⟩ rfl ((.cons (.refl _) (.cons ((LeO.tk (enc:=o5) (s_456.take k_455.toNat ++ List.replicate (s_456.length - k_455.toNat) (⟨0,0,[]⟩:y5) ++ s_456.drop (k_455.toNat + (s_456.length - k_455.toNat))) _)) .nil))) (.of_eq (congrArg (AV.own _ 0) (by simp)))
    ·refine y8 rfl (bf c366)<|a0k<|a2y<|a0m<|a0x<|l7 (.int .i64 (k_235:Int)) rfl<|x9 (.int .i64 (w64 ((k_235:Int) + 1))) rfl rfl rfl<|l7 (.int .i64 (w64 ((k_235:Int) + 1))) rfl<|a0l<|?_;exact a2g ⟨(k_235 + 1),hc1⟩ (mul hlt353) ⟨[],[0],_,_,rfl,rfl,⟨.refl _,⟨.of_eq (congrArg (AV.int _) (a2z hlt353 hl361)),trivial⟩⟩,(.refl _)⟩
  ·rintro ⟨_,rfl⟩
   refine sr<|l7 (.own 0 0 s_1.length) rfl<|l7 (.own 0 0 s_1.length) rfl<|dk<|a0c<|?_;obtain rfl:=os hf;exact a6d [.mv 0] [0,1] rfl ⟨trivial,trivial⟩ rfl (.refl _) (.refl _)

/- impl.setOf -/
def c44:a0p :=
 (.seq (.reg (tm 2 (.c .nil) .done))
 (.seq (.reg (tm 4 (.t 0) (tq 5 (.call 52 [(.t 4)]) (tm 3 (.t 5) .done))))
 (.seq (.reg (tm 6 (.t 3) (tq 7 (.call 53 [(.t 6),(.c (.fn 54 []))]) .done)))
 (.seq (.reg (tm 8 (.t 3) (tq 9 (.call 55 [(.t 8)]) (tm 2 (.t 9) .done))))
 .ret))))
theorem d6b:a1f Try.prog Try.f44 = some (c44.erase,[.mov (.t 2)],10):=by kernel_rfl
def a9v (list_1:(List y5)):Option (List y5) :=
    (a1u list_1).bind fun r_2 =>
    (a1a r_2).bind fun r_4 =>
    (a1b r_4).bind fun r_7 =>
    some r_7
theorem c2s (list_1:(List y5)) (r:(List y5)) (hf:a9v list_1 = some r):a0d Try.prog 44 .fresh [(.lst 3 (list_1.map o5))] (.lst 3 (r.map o5)):=by
 refine a0d.of_awp mixed Try.func44 d6b nle ?_;rw [a0q];unfold a9v at hf;unfold c44;refine (show awp Try.prog true 0 _ (ofL [(0,(.lst 3 (list_1.map o5)))]) [] _ from ?_);refine sr<|l7 .nil rfl<|dk<|sr<|?_
 obtain ⟨r_2,er3,hf⟩:=ob hf
 refine l7 (.lst 3 (list_1.map o5)) rfl<|a0b (a4x (v:=(.own 0 0 r_2.length)) (h':=[.row 3 (r_2.map o5)]) (a7j _ _ er3) rfl (.refl _) (by simp only [a1n,a1y,List.length_map,List.nil_append,List.append_nil,List.cons_append];rfl))<|l7 (.own 0 0 r_2.length) rfl<|dk<|sr<|?_
 obtain ⟨r_4,er5,hf⟩:=ob hf
 refine l7 (.own 0 0 r_2.length) rfl ?_;refine a1d (b1s (v:=(.tup [])) (h2:=[.row 3 (r_4.map o5)]) [] [0] (fun _ => rfl) (a5v _ _ er5) rfl (.refl _) (.refl _) rfl rfl) fun hl6 => ?_;refine dk<|sr<|?_
 obtain ⟨r_7,er8,hf⟩:=ob hf
 refine l7 (.own 0 0 r_2.length) rfl ?_;refine a0b (b2r (v:=(.own 1 0 r_7.length)) (h2:=[.dead,.row 3 (r_7.map o5)]) [] [0] (fun _ => rfl) (a6a _ _ er8) rfl (.cons (.of_eq (congrArg (AV.own _ 0) (by have h:=(hl6 0 _ _ _ _ rfl rfl);simpa using h.symm))) .nil) (.refl _) rfl rfl) ?_;refine l7 (.own 1 0 r_7.length) rfl<|dk<|a0c<|?_;obtain rfl:=os hf;exact a2p ⟨trivial,trivial⟩ rfl (by decide) (.of_eq (congrArg (AV.lst _) (tk (enc:=o5) r_7)))

/- impl.datumOf -/
def c34:a0p :=
 (.seq (.reg (tm 2 (.c .nil) (tm 3 (.c (.int .i64 0)) .done)))
 (.seq (.seq (.reg (tm 7 (.t 0) (tq 8 (.len (.t 7)) (tm 9 (.c (.int .i64 0)) .done))))
 (.block 0 (.loop (.seq (.reg (tq 10 (.bin .lss (.t 9) (.t 8)) .done))
 (.seq (.cond (.t 10) .skip
 (.exit 0))
 (.seq (.block 1 (.seq (.reg (tq 11 (.iaddr 3 (.t 7) (.t 9)) (tq 12 (.load 3 true (.t 11)) (tq 5 (.box 3 (.c (.agg [(.int .i64 0),(.int .i64 0),(.str [])]))) (.q ⟨none,none,.store 3 (.t 5) (.t 12)⟩
 .done)))))
 (.block 2 (.seq (.reg (tq 14 (.load 3 true (.t 5)) (tq 15 (.call 43 [(.t 14)]) (tq 16 (.not (.t 15)) (tm 13 (.t 16) .done)))))
 (.cond (.t 13) (.seq (.reg (tm 2 (.c .nil) (tm 3 (.c (.int .i64 1)) .done)))
 .ret)
 (.seq (.reg (tq 18 (.faddr 0 (.t 5)) (tq 19 (.load 1 false (.t 18)) (tm 20 (.t 0) (tq 21 (.iaddr 3 (.t 20) (.c (.int .i64 0))) (tq 22 (.faddr 0 (.t 21)) (tq 23 (.load 1 false (.t 22)) (tq 24 (.bin .neq (.t 19) (.t 23)) (tm 17 (.t 24) .done)))))))))
 (.cond (.t 17) (.seq (.reg (tm 2 (.c .nil) (tm 3 (.c (.int .i64 9)) .done)))
 .ret)
 .skip)))))))
 (.reg (tq 25 (.bin .add (.t 9) (.c (.int .i64 1))) (tm 9 (.t 25) .done)))))))))
 (.cut (.seq (.reg (tm 26 (.t 0) (tq 27 (.call 44 [(.t 26)]) (tm 6 (.t 27) .done))))
 (.seq (.seq (.reg (tm 28 (.t 6) (tq 29 (.len (.t 28)) (tq 30 (.bin .gtr (.t 29) (.c (.int .i64 8))) .done))))
 (.cond (.t 30) (.seq (.reg (tm 2 (.c .nil) (tm 3 (.c (.int .i64 6)) .done)))
 .ret)
 .skip))
 (.seq (.reg (tm 31 (.t 6) (tm 2 (.t 31) (tm 3 (.c (.int .i64 0)) .done))))
 .ret))))))
theorem d6c:a1f Try.prog Try.f34 = some (c34.erase,[.mov (.t 2),.mov (.t 3)],32):=by kernel_rfl
def a1m (list_1:(List y5)):List y5 → Option (Fl ((List y5) × Int) Unit)
  | [] =>
    some (.go ())
  | x_39 :: xs =>
    (a6j x_39).bind fun r_40 =>
    if (!r_40) then
    some (.ret ([],1))
    else
    (idx list_1 0).bind fun x_43 =>
    if (x_39.Kind != x_43.Kind) then
    some (.ret ([],9))
    else
    a1m list_1 xs 

def a4g (list_1:(List y5)):Option ((List y5) × Int) :=
    (a1m list_1 list_1 ).bind fun q => (match q with
    | .ret r => some r
    | .go _ =>
    (a9v list_1).bind fun r_46 =>
    if (decide ((r_46.length:Int) > 8)) then
    some ([],6)
    else
    some (r_46,0))
theorem b8v (list_1:(List y5)) (r:((List y5) × Int)) (hf:a4g list_1 = some r):a0d Try.prog 34 .fresh [(.lst 3 (list_1.map o5))] (.tup [(.lst 3 (r.1.map o5)),(.int .i64 r.2)]):=by
 refine a0d.of_awp mixed Try.func34 d6c nle ?_;rw [a0q];unfold a4g at hf;unfold c34;refine (show awp Try.prog true 0 _ (ofL [(0,(.lst 3 (list_1.map o5)))]) [] _ from ?_);refine sr<|l7 .nil rfl<|l7 (.int .i64 0) rfl<|dk<|o6<|sr<|l7 (.lst 3 (list_1.map o5)) rfl<|a1d (a2q (enc:=o5) rfl) fun hl2 => l7 (.int .i64 0) rfl<|dk<|?_
 obtain ⟨p32,hb1,hf⟩:=ob hf
 refine a3f (X:={q:Unit // p32 = .go q}) (fun q => ([(0,(.lst 3 (list_1.map o5)))],[])) ?_ ?_
 ·refine a1o (X:={q:Nat // a1m list_1 (list_1.drop q)  = some p32}) (fun q => ([(0,(.lst 3 (list_1.map o5))),(7,(.lst 3 (list_1.map o5))),(8,(.int .i64 (list_1.length:Int))),(9,(.int .i64 (q.1:Int)))],[])) (fun q => list_1.length - q.1) ⟨0,hb1⟩ ⟨[],[],_,_,rfl,rfl,⟨.refl _,⟨.refl _,⟨.refl _,⟨.refl _,trivial⟩⟩⟩⟩,(.refl _)⟩ ?_
  rintro ⟨s9_22,hc1⟩
  have hc1:a1m list_1 (list_1.drop s9_22)  = some p32:=hc1
  refine (show awp Try.prog true 0 _ (ofL [(0,(.lst 3 (list_1.map o5))),(7,(.lst 3 (list_1.map o5))),(8,(.int .i64 (list_1.length:Int))),(9,(.int .i64 (s9_22:Int)))]) [] _ from ?_)
  rcases a7n list_1 s9_22 with ⟨hie35,hd38⟩ | ⟨hlt33,x_39,hx34,hd38⟩
  ·rw [hd38,a1m.eq_1] at hc1
   have hq37:=dlf hie35
   refine sr<|x9 (.bool (decide ((s9_22:Int) < (list_1.length:Int)))) rfl rfl rfl<|dk<|o6<|y8 rfl hq37<|a3x<|a3w<|a2o<|a3v<|?_;obtain rfl:=os hc1;exact a3u ⟨_,rfl⟩ ⟨[],[],_,_,rfl,rfl,⟨.refl _,trivial⟩,(.refl _)⟩
  ·rw [hd38,a1m.eq_2] at hc1
   have hq37:=dlt hlt33
   refine sr<|x9 (.bool (decide ((s9_22:Int) < (list_1.length:Int)))) rfl rfl rfl<|dk<|o6<|y7 rfl hq37<|a0k<|a0m<|o6<|a4a<|sr<|a0b (a3a (enc:=o5) rfl rfl hx34)<|x9 (o5 x_39) rfl nle rfl<|a0b (a1p (j:=0) (c:=(.agg [(.int .i64 0),(.int .i64 0),(.str [])])) rfl trivial rfl rfl)<|a2a (a0o (v:=(.agg [(.int .i64 x_39.Kind),(.int .i64 x_39.N),(.str x_39.T)])) (y':=(.agg [(.int .i64 x_39.Kind),(.int .i64 x_39.N),(.str x_39.T)])) rfl rfl rfl trivial ⟨rfl,nle⟩ ⟨⟨rfl,trivial⟩,⟨⟨rfl,trivial⟩,⟨⟨rfl,trivial⟩,trivial⟩⟩⟩ rfl)<|dk<|a4a<|sr<|?_
   obtain ⟨r_40,er41,hc1⟩:=ob hc1
   refine x9 (.agg [(.int .i64 x_39.Kind),(.int .i64 x_39.N),(.str x_39.T)]) rfl nle rfl<|a0b (a0s (b3i _ _ er41) rfl (.refl _) rfl)<|x9 (.bool (!r_40)) rfl trivial rfl<|l7 (.bool (!r_40)) rfl<|dk<|?_
   rcases oi hc1 with ⟨c42,hc1⟩ | ⟨c42,hc1⟩
   ·refine y7 rfl c42<|sr<|l7 .nil rfl<|l7 (.int .i64 1) rfl<|dk<|a0c<|?_;obtain rfl:=os hc1;obtain rfl:=os hf;exact a2p ⟨trivial,⟨trivial,trivial⟩⟩ rfl (by decide) (.tup (.cons (.nil _) (.cons (.refl _) .nil)))
   ·refine y8 rfl (bf c42)<|sr<|?_
    obtain ⟨x_43,ex44,hc1⟩:=ob hc1
    refine x9 (.ptr 0 0 0) rfl trivial rfl<|x9 (.int .i64 x_39.Kind) rfl nle rfl<|l7 (.lst 3 (list_1.map o5)) rfl<|a0b (a5c (enc:=o5) rfl rfl (b4b ex44) (b4c ex44))<|x9 (.iptr (o5 x_43) 0) rfl trivial rfl<|x9 (.int .i64 x_43.Kind) rfl nle rfl<|x9 (.bool (x_39.Kind != x_43.Kind)) rfl rfl rfl<|l7 (.bool (x_39.Kind != x_43.Kind)) rfl<|dk<|?_
    rcases oi hc1 with ⟨c45,hc1⟩ | ⟨c45,hc1⟩
    ·refine y7 rfl c45<|sr<|l7 .nil rfl<|l7 (.int .i64 9) rfl<|dk<|a0c<|?_;obtain rfl:=os hc1;obtain rfl:=os hf;exact a2p ⟨trivial,⟨trivial,trivial⟩⟩ rfl (by decide) (.tup (.cons (.nil _) (.cons (.refl _) .nil)))
    ·refine y8 rfl (bf c45)<|a0k<|a2y<|a2y<|a0m<|a0x<|x9 (.int .i64 (w64 ((s9_22:Int) + 1))) rfl rfl rfl<|l7 (.int .i64 (w64 ((s9_22:Int) + 1))) rfl<|a0l<|?_;exact a2g ⟨(s9_22 + 1),hc1⟩ (mul hlt33) ⟨[],[],_,_,rfl,rfl,⟨.refl _,⟨.refl _,⟨.refl _,⟨.of_eq (congrArg (AV.int _) (a2z hlt33 hl2)),trivial⟩⟩⟩⟩,(.refl _)⟩
 ·rintro ⟨_,rfl⟩
  refine sr<|?_
  obtain ⟨r_46,er47,hf⟩:=ob hf
  refine l7 (.lst 3 (list_1.map o5)) rfl<|a0b (a4x (v:=(.own 0 0 r_46.length)) (h':=[.row 3 (r_46.map o5)]) (c2s _ _ er47) rfl (.refl _) (by simp only [a1n,a1y,List.length_map,List.nil_append,List.append_nil,List.cons_append];rfl))<|l7 (.own 0 0 r_46.length) rfl<|dk<|o6<|sr<|l7 (.own 0 0 r_46.length) rfl<|a1d (a6y rfl rfl) fun hl48 => x9 (.bool (decide ((r_46.length:Int) > 8))) rfl rfl rfl<|dk<|?_
  rcases oi hf with ⟨c49,hf⟩ | ⟨c49,hf⟩
  ·refine y7 rfl c49<|sr<|l7 .nil rfl<|l7 (.int .i64 6) rfl<|dk<|a0c<|?_;obtain rfl:=os hf;exact a2p ⟨trivial,⟨trivial,trivial⟩⟩ rfl (by decide) (.tup (.cons (.nil _) (.cons (.refl _) .nil)))
  ·refine y8 rfl (bf c49)<|a0k<|a0m<|sr<|l7 (.own 0 0 r_46.length) rfl<|l7 (.own 0 0 r_46.length) rfl<|l7 (.int .i64 0) rfl<|dk<|a0c<|?_;obtain rfl:=os hf;exact a2p ⟨trivial,⟨trivial,trivial⟩⟩ rfl (by decide) (.tup (.cons (.of_eq (congrArg (AV.lst _) (tk (enc:=o5) r_46))) (.cons (.refl _) .nil)))

/- impl.jsonDatum -/
def c20:a0p :=
 (.seq (.reg (tq 1 (.box 5 (.t 0)) (tm 2 (.c .nil) (tm 3 (.c (.bool false)) .done))))
 (.seq (.reg (tq 14 (.load 5 true (.t 1)) (tq 15 (.call 32 [(.t 14)]) (tm 13 (.t 15) (tq 16 (.extract 0 (.t 13)) (tq 17 (.extract 1 (.t 13)) (tm 4 (.t 16) (tm 5 (.t 17) .done))))))))
 (.seq (.seq (.reg (tm 18 (.t 5) (tq 19 (.not (.t 18)) .done)))
 (.cond (.t 19) (.reg (tq 20 (.load 5 true (.t 1)) (tq 21 (.bslice 5 [(.t 20)]) (tm 4 (.t 21) .done))))
 .skip))
 (.cut (.seq (.reg (tq 22 (.bslice 3 []) (tm 6 (.t 22) .done)))
 (.seq (.seq (.reg (tm 23 (.t 4) (tq 24 (.len (.t 23)) (tm 25 (.c (.int .i64 0)) .done))))
 (.block 0 (.loop (.seq (.reg (tq 26 (.bin .lss (.t 25) (.t 24)) .done))
 (.seq (.cond (.t 26) .skip
 (.exit 0))
 (.seq (.block 1 (.seq (.reg (tq 27 (.iaddr 5 (.t 23) (.t 25)) (tq 28 (.load 5 true (.t 27)) (tq 8 (.box 5 (.c (.agg [(.int .i64 0),(.int .i64 0),(.str []),.nil,.nil]))) (.q ⟨none,none,.store 5 (.t 8) (.t 28)⟩
 .done)))))
 (.seq (.reg (tq 30 (.load 5 true (.t 8)) (tq 31 (.call 33 [(.t 30)]) (tm 29 (.t 31) (tq 32 (.extract 0 (.t 29)) (tq 33 (.extract 1 (.t 29)) (tq 9 (.box 3 (.c (.agg [(.int .i64 0),(.int .i64 0),(.str [])]))) (.q ⟨none,none,.store 3 (.t 9) (.t 32)⟩
 (tm 10 (.t 33) .done)))))))))
 (.seq (.seq (.reg (tm 34 (.t 10) (tq 35 (.not (.t 34)) .done)))
 (.cond (.t 35) (.seq (.reg (tm 2 (.c .nil) (tm 3 (.c (.bool false)) .done)))
 .ret)
 .skip))
 (.reg (tm 36 (.t 6) (tq 37 (.load 3 true (.t 9)) (tq 38 (.bslice 3 [(.t 37)]) (tq 39 (.append 3 32 (.t 36) (.t 38)) (tm 6 (.t 39) .done))))))))))
 (.reg (tq 40 (.bin .add (.t 25) (.c (.int .i64 1))) (tm 25 (.t 40) .done)))))))))
 (.cut (.seq (.reg (tm 42 (.t 6) (tq 43 (.call 34 [(.t 42)]) (tm 41 (.t 43) (tq 44 (.extract 0 (.t 41)) (tq 45 (.extract 1 (.t 41)) (tm 11 (.t 44) (tm 12 (.t 45) .done))))))))
 (.seq (.reg (tm 46 (.t 11) (tm 47 (.t 12) (tq 48 (.bin .eql (.t 47) (.c (.int .i64 0))) (tm 2 (.t 46) (tm 3 (.t 48) .done))))))
 .ret)))))))))
theorem d6d:a1f Try.prog Try.f20 = some (c20.erase,[.mov (.t 2),.mov (.t 3)],49):=by kernel_rfl
def a0w :List o8 → (List y5) → Option (Fl ((List y5) × Bool) (List y5))
  | [],list_26 =>
    some (.go list_26)
  | x_42 :: xs,list_26 =>
    (a4i x_42).bind fun r_43 =>
    if (!r_43.2) then
    some (.ret ([],false))
    else
    if (list_26 ++ [r_43.1]).length ≤ 2 ^ 30 then
    a0w xs  (list_26 ++ [r_43.1])
    else none

def a6k (j_1:o8):Option ((List y5) × Bool) :=
    (a5y j_1).bind fun r_2 =>
    ((if (!r_2.2) then
    some [j_1]
    else
    some r_2.1:Option (List o8))).bind fun items_5 =>
    (a0w items_5 []).bind fun q => (match q with
    | .ret r => some r
    | .go list_34 =>
    (a4g list_34).bind fun r_47 =>
    some (r_47.1,(r_47.2 == 0)))
theorem b6f (j_1:o8) (r:((List y5) × Bool)) (hf:a6k j_1 = some r):a0d Try.prog 20 .fresh [(l9 j_1)] (.tup [(.lst 3 (r.1.map o5)),(.bool r.2)]):=by
 refine a0d.of_awpF mixed Try.func20 d6d nle ?_;rw [a0q];rw [o9 j_1];unfold a6k at hf;unfold c20;refine (show awp Try.prog false 0 _ (ofL [(0,(.agg [(.int .i64 j_1.Kind),(.int .i64 j_1.N),(.str j_1.T),(.lst 1 (j_1.Keys.map AV.str)),(.lst 5 (j_1.Items.map l9))]))]) [] _ from ?_);refine sr<|a0b (a1p (j:=0) (c:=(.agg [(.int .i64 j_1.Kind),(.int .i64 j_1.N),(.str j_1.T),(.lst 1 (j_1.Keys.map AV.str)),(.lst 5 (j_1.Items.map l9))])) rfl trivial rfl rfl)<|l7 .nil rfl<|l7 (.bool false) rfl<|dk<|sr<|?_
 obtain ⟨r_2,er3,hf⟩:=ob hf
 refine x9 (.agg [(.int .i64 j_1.Kind),(.int .i64 j_1.N),(.str j_1.T),(.lst 1 (j_1.Keys.map AV.str)),(.lst 5 (j_1.Items.map l9))]) rfl nle rfl<|a0b (b4x rfl (b3a _ _ er3) rfl (.cons (.of_eq (o9 j_1).symm) .nil) rfl rfl)<|l7 (.tup [(.lst 5 (r_2.1.map l9)),(.bool r_2.2)]) rfl<|x9 (.lst 5 (r_2.1.map l9)) rfl nle rfl<|x9 (.bool r_2.2) rfl nle rfl<|l7 (.lst 5 (r_2.1.map l9)) rfl<|l7 (.bool r_2.2) rfl<|dk<|o6<|?_
 obtain ⟨items_5,hb1,hf⟩:=ob hf
 refine a2n ([(4,(.lst 5 (items_5.map l9)))],[]) ?_ ?_
 ·refine sr<|l7 (.bool r_2.2) rfl<|x9 (.bool (!r_2.2)) rfl trivial rfl<|dk<|?_
  rcases oi hb1 with ⟨c7,hb1⟩ | ⟨c7,hb1⟩
  ·refine y7 rfl c7<|a0x<|x9 (.agg [(.int .i64 j_1.Kind),(.int .i64 j_1.N),(.str j_1.T),(.lst 1 (j_1.Keys.map AV.str)),(.lst 5 (j_1.Items.map l9))]) rfl nle rfl<|?_;refine a0b (a2i (j:=1) (as':=[(l9 j_1)]) rfl (fun _ => by decide) ⟨rfl,trivial⟩ (.cons (.of_eq (o9 j_1).symm) .nil) rfl rfl rfl) ?_;refine l7 (.own 1 0 1) rfl<|a0l<|?_;obtain rfl:=os hb1;exact ⟨[.frz 4],[],_,_,rfl,rfl,⟨.of_eq (congrArg (AV.lst _) (tko [j_1])),trivial⟩,(.refl _)⟩
  ·refine y8 rfl (bf c7)<|a0k<|?_;obtain rfl:=os hb1;exact ⟨[],[],_,_,rfl,rfl,⟨.refl _,trivial⟩,(.refl _)⟩
 ·refine sr<|?_;refine a0b (a2i (j:=0) (as':=[]) rfl (fun _ => by decide) trivial (.refl _) rfl rfl rfl) ?_;refine l7 (.own 0 0 0) rfl<|dk<|o6<|sr<|l7 (.lst 5 (items_5.map l9)) rfl<|a1d (a2q (enc:=l9) rfl) fun hl8 => l7 (.int .i64 0) rfl<|dk<|?_
  obtain ⟨p35,hb1,hf⟩:=ob hf
  refine a3f (X:={q:(List y5) // p35 = .go q}) (fun q => ([(6,(.own 0 0 q.1.length))],[.row 3 (q.1.map o5)])) ?_ ?_
  ·refine a1o (X:={q:(Nat × (List y5)) // a0w (items_5.drop q.1) q.2 = some p35}) (fun q => ([(6,(.own 0 0 q.1.2.length)),(23,(.lst 5 (items_5.map l9))),(24,(.int .i64 (items_5.length:Int))),(25,(.int .i64 (q.1.1:Int)))],[.row 3 (q.1.2.map o5)])) (fun q => items_5.length - q.1.1) ⟨(0,[]),hb1⟩ ⟨[],[0],_,_,rfl,rfl,⟨.of_eq (congrArg (AV.own _ 0) (by simp)),⟨.refl _,⟨.refl _,⟨.refl _,trivial⟩⟩⟩⟩,(.refl _)⟩ ?_
   rintro ⟨⟨s25_25,list_26⟩,hc1⟩
   have hc1:a0w (items_5.drop s25_25) list_26 = some p35:=hc1
   refine (show awp Try.prog false 0 _ (ofL [(6,(.own 0 0 list_26.length)),(23,(.lst 5 (items_5.map l9))),(24,(.int .i64 (items_5.length:Int))),(25,(.int .i64 (s25_25:Int)))]) [.row 3 (list_26.map o5)] _ from ?_)
   rcases a7n items_5 s25_25 with ⟨hie38,hd41⟩ | ⟨hlt36,x_42,hx37,hd41⟩
   ·rw [hd41,a0w.eq_1] at hc1
    have hq40:=dlf hie38
    refine sr<|x9 (.bool (decide ((s25_25:Int) < (items_5.length:Int)))) rfl rfl rfl<|dk<|o6<|y8 rfl hq40<|a3x<|a3w<|a2o<|a3v<|?_;obtain rfl:=os hc1;exact a3u ⟨_,rfl⟩ ⟨[],[0],_,_,rfl,rfl,⟨.refl _,trivial⟩,(.refl _)⟩
   ·rw [hd41,a0w.eq_2] at hc1
    have hq40:=dlt hlt36
    refine sr<|x9 (.bool (decide ((s25_25:Int) < (items_5.length:Int)))) rfl rfl rfl<|dk<|o6<|y7 rfl hq40<|a0k<|a0m<|o6<|a4a<|sr<|a0b (a3a (enc:=l9) rfl rfl hx37)<|a0b (a4w (v:=(.agg [(.int .i64 x_42.Kind),(.int .i64 x_42.N),(.str x_42.T),(.lst 1 (x_42.Keys.map AV.str)),(.lst 5 (x_42.Items.map l9))])) rfl (o9 _) nle rfl)<|a0b (a1p (j:=1) (c:=(.agg [(.int .i64 0),(.int .i64 0),(.str []),.nil,.nil])) rfl trivial rfl rfl)<|a2a (a0o (v:=(.agg [(.int .i64 x_42.Kind),(.int .i64 x_42.N),(.str x_42.T),(.lst 1 (x_42.Keys.map AV.str)),(.lst 5 (x_42.Items.map l9))])) (y':=(.agg [(.int .i64 x_42.Kind),(.int .i64 x_42.N),(.str x_42.T),(.lst 1 (x_42.Keys.map AV.str)),(.lst 5 (x_42.Items.map l9))])) rfl rfl rfl trivial ⟨rfl,nle⟩ ⟨⟨rfl,trivial⟩,⟨⟨rfl,trivial⟩,⟨⟨rfl,trivial⟩,⟨⟨rfl,trivial⟩,⟨⟨rfl,trivial⟩,trivial⟩⟩⟩⟩⟩ rfl)<|?_
    refine dk<|sr<|?_
    obtain ⟨r_43,er44,hc1⟩:=ob hc1
    refine x9 (.agg [(.int .i64 x_42.Kind),(.int .i64 x_42.N),(.str x_42.T),(.lst 1 (x_42.Keys.map AV.str)),(.lst 5 (x_42.Items.map l9))]) rfl nle rfl<|a0b (a0s (b7c _ _ er44) rfl (.cons (.of_eq (o9 x_42).symm) .nil) rfl)<|l7 (.tup [(o5 r_43.1),(.bool r_43.2)]) rfl<|x9 (o5 r_43.1) rfl nle rfl<|x9 (.bool r_43.2) rfl nle rfl<|a0b (a1p (j:=2) (c:=(.agg [(.int .i64 0),(.int .i64 0),(.str [])])) rfl trivial rfl rfl)<|a2a (a0o (v:=(.agg [(.int .i64 r_43.1.Kind),(.int .i64 r_43.1.N),(.str r_43.1.T)])) (y':=(.agg [(.int .i64 r_43.1.Kind),(.int .i64 r_43.1.N),(.str r_43.1.T)])) rfl rfl rfl trivial ⟨rfl,nle⟩ ⟨⟨rfl,trivial⟩,⟨⟨rfl,trivial⟩,⟨⟨rfl,trivial⟩,trivial⟩⟩⟩ rfl)<|?_
    refine l7 (.bool r_43.2) rfl<|dk<|o6<|sr<|l7 (.bool r_43.2) rfl<|x9 (.bool (!r_43.2)) rfl trivial rfl<|dk<|?_
    rcases oi hc1 with ⟨c45,hc1⟩ | ⟨c45,hc1⟩
    ·refine y7 rfl c45<|sr<|l7 .nil rfl<|l7 (.bool false) rfl<|dk<|a0c<|?_;obtain rfl:=os hc1;obtain rfl:=os hf;exact c4q ⟨trivial,⟨trivial,trivial⟩⟩ rfl (by decide) trivial (.tup (.cons (.nil _) (.cons (.refl _) .nil)))
    ·refine y8 rfl (bf c45)<|a0k<|a0m<|a0x<|?_
     obtain ⟨g46,hc1⟩:=og hc1
     refine l7 (.own 0 0 list_26.length) rfl<|x9 (.agg [(.int .i64 r_43.1.Kind),(.int .i64 r_43.1.N),(.str r_43.1.T)]) rfl nle rfl<|?_;refine a0b (a2i (j:=3) (as':=[(o5 r_43.1)]) rfl (fun _ => by decide) ⟨rfl,trivial⟩ (.refl _) rfl rfl rfl) ?_
     refine a0b (c8e (j:=4) (L:=((list_26 ++ [r_43.1]).map o5)) (len:=(list_26 ++ [r_43.1]).length) rfl rfl (c9q (enc:=o5) list_26 [r_43.1] _ (by rfl)) (by simp <;> omega) g46 rfl rfl) ?_
     refine l7 (.own 4 0 ((list_26 ++ [r_43.1]).length)) rfl<|a0l<|a2y<|a0m<|a0x<|x9 (.int .i64 (w64 ((s25_25:Int) + 1))) rfl rfl rfl<|l7 (.int .i64 (w64 ((s25_25:Int) + 1))) rfl<|a0l<|?_;exact a2g ⟨((s25_25 + 1),list_26 ++ [r_43.1]),hc1⟩ (mul hlt36) ⟨[],[4],_,_,rfl,rfl,⟨.refl _,⟨.refl _,⟨.refl _,⟨.of_eq (congrArg (AV.int _) (a2z hlt36 hl8)),trivial⟩⟩⟩⟩,(.refl _)⟩
  ·rintro ⟨list_34,rfl⟩
   refine sr<|?_
   obtain ⟨r_47,er48,hf⟩:=ob hf
   refine l7 (.own 0 0 list_34.length) rfl<|a0b (a4x (v:=(.tup [(.own 1 0 r_47.1.length),(.int .i64 r_47.2)])) (h':=[.row 3 (r_47.1.map o5)]) (b8v _ _ er48) rfl (.cons (.of_eq (congrArg (AV.lst _) (tko list_34))) .nil) (by simp only [a1n,a1y,List.length_map,List.nil_append,List.append_nil,List.cons_append];rfl))<|l7 (.tup [(.own 1 0 r_47.1.length),(.int .i64 r_47.2)]) rfl<|x9 (.own 1 0 r_47.1.length) rfl nle rfl<|x9 (.int .i64 r_47.2) rfl nle rfl<|l7 (.own 1 0 r_47.1.length) rfl<|l7 (.int .i64 r_47.2) rfl<|dk<|sr<|l7 (.own 1 0 r_47.1.length) rfl<|l7 (.int .i64 r_47.2) rfl<|x9 (.bool (r_47.2 == 0)) rfl rfl rfl<|?_
   refine l7 (.own 1 0 r_47.1.length) rfl<|l7 (.bool (r_47.2 == 0)) rfl<|dk<|a0c<|?_;obtain rfl:=os hf;exact c4q ⟨trivial,⟨trivial,trivial⟩⟩ rfl (by decide) ⟨⟨_,_,rfl,flm (fun _ => rfl) _⟩,trivial⟩ (.tup (.cons (.of_eq (congrArg (AV.lst _) (tk (enc:=o5) r_47.1))) (.cons (.refl _) .nil)))

/- impl.JsonDatum -/
def c7:a0p :=
 (.seq (.reg (tq 1 (.box 5 (.t 0)) (tm 2 (.c .nil) (tm 3 (.c (.int .i64 0)) .done))))
 (.seq (.seq (.reg (tq 6 (.load 5 true (.t 1)) (tq 7 (.call 19 [(.t 6)]) (tq 8 (.not (.t 7)) .done))))
 (.cond (.t 8) (.seq (.reg (tm 2 (.c .nil) (tm 3 (.c (.int .i64 1)) .done)))
 .ret)
 .skip))
 (.seq (.reg (tq 10 (.load 5 true (.t 1)) (tq 11 (.call 20 [(.t 10)]) (tm 9 (.t 11) (tq 12 (.extract 0 (.t 9)) (tq 13 (.extract 1 (.t 9)) (tm 4 (.t 12) (tm 5 (.t 13) .done))))))))
 (.seq (.seq (.reg (tm 14 (.t 5) (tq 15 (.not (.t 14)) .done)))
 (.cond (.t 15) (.seq (.reg (tm 2 (.c .nil) (tm 3 (.c (.int .i64 3)) .done)))
 .ret)
 .skip))
 (.seq (.reg (tm 16 (.t 4) (tm 2 (.t 16) (tm 3 (.c (.int .i64 0)) .done))))
 .ret)))))
theorem fc7:a1f Try.prog Try.f7 = some (c7.erase,[.mov (.t 2),.mov (.t 3)],17):=by kernel_rfl
def a5g (j_1:o8):Option ((List y5) × Int) :=
    (a8p j_1).bind fun r_2 =>
    if (!r_2) then
    some ([],1)
    else
    (a6k j_1).bind fun r_5 =>
    if (!r_5.2) then
    some ([],3)
    else
    some (r_5.1,0)
theorem b0l (j_1:o8) (r:((List y5) × Int)) (hf:a5g j_1 = some r):a0d Try.prog 7 .fresh [(l9 j_1)] (.tup [(.lst 3 (r.1.map o5)),(.int .i64 r.2)]):=by
 refine a0d.of_awp mixed Try.func7 fc7 nle ?_;rw [a0q];rw [o9 j_1];unfold a5g at hf;unfold c7;refine (show awp Try.prog true 0 _ (ofL [(0,(.agg [(.int .i64 j_1.Kind),(.int .i64 j_1.N),(.str j_1.T),(.lst 1 (j_1.Keys.map AV.str)),(.lst 5 (j_1.Items.map l9))]))]) [] _ from ?_);refine sr<|a0b (a1p (j:=0) (c:=(.agg [(.int .i64 j_1.Kind),(.int .i64 j_1.N),(.str j_1.T),(.lst 1 (j_1.Keys.map AV.str)),(.lst 5 (j_1.Items.map l9))])) rfl trivial rfl rfl)<|l7 .nil rfl<|l7 (.int .i64 0) rfl<|dk<|o6<|sr<|?_
 obtain ⟨r_2,er3,hf⟩:=ob hf
 refine x9 (.agg [(.int .i64 j_1.Kind),(.int .i64 j_1.N),(.str j_1.T),(.lst 1 (j_1.Keys.map AV.str)),(.lst 5 (j_1.Items.map l9))]) rfl nle rfl<|a0b (a0s (b9x _ _ er3) rfl (.cons (.of_eq (o9 j_1).symm) .nil) rfl)<|x9 (.bool (!r_2)) rfl trivial rfl<|dk<|?_
 rcases oi hf with ⟨c4,hf⟩ | ⟨c4,hf⟩
 ·refine y7 rfl c4<|sr<|l7 .nil rfl<|l7 (.int .i64 1) rfl<|dk<|a0c<|?_;obtain rfl:=os hf;exact a2p ⟨trivial,⟨trivial,trivial⟩⟩ rfl (by decide) (.tup (.cons (.nil _) (.cons (.refl _) .nil)))
 ·refine y8 rfl (bf c4)<|a0k<|a0m<|sr<|?_
  obtain ⟨r_5,er6,hf⟩:=ob hf
  refine x9 (.agg [(.int .i64 j_1.Kind),(.int .i64 j_1.N),(.str j_1.T),(.lst 1 (j_1.Keys.map AV.str)),(.lst 5 (j_1.Items.map l9))]) rfl nle rfl<|a0b (a4x (v:=(.tup [(.own 1 0 r_5.1.length),(.bool r_5.2)])) (h':=[.row 3 (r_5.1.map o5)]) (b6f _ _ er6) rfl (.cons (.of_eq (o9 j_1).symm) .nil) (by simp only [a1n,a1y,List.length_map,List.nil_append,List.append_nil,List.cons_append];rfl))<|l7 (.tup [(.own 1 0 r_5.1.length),(.bool r_5.2)]) rfl<|x9 (.own 1 0 r_5.1.length) rfl nle rfl<|x9 (.bool r_5.2) rfl nle rfl<|l7 (.own 1 0 r_5.1.length) rfl<|l7 (.bool r_5.2) rfl<|dk<|o6<|sr<|l7 (.bool r_5.2) rfl<|?_
  refine x9 (.bool (!r_5.2)) rfl trivial rfl<|dk<|?_
  rcases oi hf with ⟨c7,hf⟩ | ⟨c7,hf⟩
  ·refine y7 rfl c7<|sr<|l7 .nil rfl<|l7 (.int .i64 3) rfl<|dk<|a0c<|?_;obtain rfl:=os hf;exact a2p ⟨trivial,⟨trivial,trivial⟩⟩ rfl (by decide) (.tup (.cons (.nil _) (.cons (.refl _) .nil)))
  ·refine y8 rfl (bf c7)<|a0k<|a0m<|sr<|l7 (.own 1 0 r_5.1.length) rfl<|l7 (.own 1 0 r_5.1.length) rfl<|l7 (.int .i64 0) rfl<|dk<|a0c<|?_;obtain rfl:=os hf;exact a2p ⟨trivial,⟨trivial,trivial⟩⟩ rfl (by decide) (.tup (.cons (.of_eq (congrArg (AV.lst _) (tk (enc:=o5) r_5.1))) (.cons (.refl _) .nil)))

/- laws.eqAtom -/
def c21:a0p :=
 (.seq (.reg (tq 2 (.box 3 (.t 0)) (tq 3 (.box 3 (.t 1)) (tm 4 (.c (.bool false)) .done))))
 (.seq (.seq (.reg (tq 5 (.faddr 0 (.t 2)) (tq 6 (.load 1 false (.t 5)) (tq 7 (.faddr 0 (.t 3)) (tq 8 (.load 1 false (.t 7)) (tq 9 (.bin .neq (.t 6) (.t 8)) .done))))))
 (.cond (.t 9) (.seq (.reg (tm 4 (.c (.bool false)) .done))
 .ret)
 .skip))
 (.seq (.seq (.reg (tq 10 (.faddr 1 (.t 2)) (tq 11 (.load 1 false (.t 10)) (tq 12 (.faddr 1 (.t 3)) (tq 13 (.load 1 false (.t 12)) (tq 14 (.bin .neq (.t 11) (.t 13)) .done))))))
 (.cond (.t 14) (.seq (.reg (tm 4 (.c (.bool false)) .done))
 .ret)
 .skip))
 (.seq (.seq (.reg (tq 15 (.faddr 2 (.t 2)) (tq 16 (.load 1 false (.t 15)) (tq 17 (.faddr 2 (.t 3)) (tq 18 (.load 1 false (.t 17)) (tq 19 (.bin .neq (.t 16) (.t 18)) .done))))))
 (.cond (.t 19) (.seq (.reg (tm 4 (.c (.bool false)) .done))
 .ret)
 .skip))
 (.seq (.reg (tm 4 (.c (.bool true)) .done))
 .ret)))))
theorem d6e:a1f Try.prog Try.f21 = some (c21.erase,[.mov (.t 4)],20):=by kernel_rfl
def a8q (a_1:y5) (b_2:y5):Option Bool :=
    if (a_1.Kind != b_2.Kind) then
    some false
    else
    if (a_1.N != b_2.N) then
    some false
    else
    if (!(a_1.T == b_2.T)) then
    some false
    else
    some true
theorem b9y (a_1:y5) (b_2:y5) (r:Bool) (hf:a8q a_1 b_2 = some r):a0d Try.prog 21 .flat [(o5 a_1),(o5 b_2)] (.bool r):=by
 refine a0d.of_awp mixed Try.func21 d6e nle ?_;rw [a0q];unfold a8q at hf;unfold c21;refine (show awp Try.prog false 0 _ (ofL [(0,(o5 a_1)),(1,(o5 b_2))]) [] _ from ?_);refine sr<|a0b (a1p (j:=0) (c:=(.agg [(.int .i64 a_1.Kind),(.int .i64 a_1.N),(.str a_1.T)])) rfl trivial rfl rfl)<|a0b (a1p (j:=1) (c:=(.agg [(.int .i64 b_2.Kind),(.int .i64 b_2.N),(.str b_2.T)])) rfl trivial rfl rfl)<|l7 (.bool false) rfl<|dk<|o6<|sr<|x9 (.ptr 0 0 0) rfl trivial rfl<|x9 (.int .i64 a_1.Kind) rfl nle rfl<|x9 (.ptr 1 0 0) rfl trivial rfl<|x9 (.int .i64 b_2.Kind) rfl nle rfl<|x9 (.bool (a_1.Kind != b_2.Kind)) rfl rfl rfl<|?_
 refine dk<|?_
 rcases oi hf with ⟨c3,hf⟩ | ⟨c3,hf⟩
 ·refine y7 rfl c3<|sr<|l7 (.bool false) rfl<|dk<|a0c<|?_;obtain rfl:=os hf;exact a0h ⟨trivial,trivial⟩ rfl (.refl _)
 ·refine y8 rfl (bf c3)<|a0k<|a0m<|o6<|sr<|x9 (.ptr 0 0 1) rfl trivial rfl<|x9 (.int .i64 a_1.N) rfl nle rfl<|x9 (.ptr 1 0 1) rfl trivial rfl<|x9 (.int .i64 b_2.N) rfl nle rfl<|x9 (.bool (a_1.N != b_2.N)) rfl rfl rfl<|dk<|?_
  rcases oi hf with ⟨c4,hf⟩ | ⟨c4,hf⟩
  ·refine y7 rfl c4<|sr<|l7 (.bool false) rfl<|dk<|a0c<|?_;obtain rfl:=os hf;exact a0h ⟨trivial,trivial⟩ rfl (.refl _)
  ·refine y8 rfl (bf c4)<|a0k<|a0m<|o6<|sr<|x9 (.ptr 0 0 2) rfl trivial rfl<|x9 (.str a_1.T) rfl nle rfl<|x9 (.ptr 1 0 2) rfl trivial rfl<|x9 (.str b_2.T) rfl nle rfl<|x9 (.bool (!(a_1.T == b_2.T))) rfl trivial rfl<|dk<|?_
   rcases oi hf with ⟨c5,hf⟩ | ⟨c5,hf⟩
   ·refine y7 rfl c5<|sr<|l7 (.bool false) rfl<|dk<|a0c<|?_;obtain rfl:=os hf;exact a0h ⟨trivial,trivial⟩ rfl (.refl _)
   ·refine y8 rfl (bf c5)<|a0k<|a0m<|sr<|l7 (.bool true) rfl<|dk<|a0c<|?_;obtain rfl:=os hf;exact a0h ⟨trivial,trivial⟩ rfl (.refl _)

/- laws.eqAtomS -/
def c8:a0p :=
 (.seq (.reg (tm 4 (.c (.bool false)) .done))
 (.seq (.seq (.reg (tm 6 (.t 0) (tq 7 (.len (.t 6)) (tm 8 (.t 1) (tq 9 (.len (.t 8)) (tq 10 (.bin .neq (.t 7) (.t 9)) .done))))))
 (.cond (.t 10) (.seq (.reg (tm 4 (.c (.bool false)) .done))
 .ret)
 .skip))
 (.seq (.seq (.reg (tm 5 (.c (.int .i64 0)) .done))
 (.block 0 (.loop (.seq (.seq (.reg (tm 11 (.t 5) (tm 12 (.t 0) (tq 13 (.len (.t 12)) (tq 14 (.bin .lss (.t 11) (.t 13)) .done)))))
 (.cond (.t 14) .skip
 (.exit 0)))
 (.seq (.block 1 (.seq (.reg (tm 17 (.t 0) (tm 18 (.t 5) (tq 19 (.iaddr 3 (.t 17) (.t 18)) (tq 20 (.load 3 true (.t 19)) (tm 21 (.t 1) (tm 22 (.t 5) (tq 23 (.iaddr 3 (.t 21) (.t 22)) (tq 24 (.load 3 true (.t 23)) (.l ⟨(some 25),none,.call 21 [(.t 20),(.t 24)]⟩ []
 (tq 26 (.not (.t 25)) .done) .non))))))))))
 (.cond (.t 26) (.seq (.reg (tm 4 (.c (.bool false)) .done))
 .ret)
 .skip)))
 (.reg (tm 15 (.t 5) (tq 16 (.bin .add (.t 15) (.c (.int .i64 1))) (tm 5 (.t 16) .done)))))))))
 (.cut (.seq (.reg (tm 4 (.c (.bool true)) .done))
 .ret)))))
theorem fc8:a1f Try.prog Try.f8 = some (c8.erase,[.mov (.t 4)],27):=by kernel_rfl
def a2w (b_2:(List y5)):List y5 → Nat → Option (Fl Bool Unit)
  | [],i_25 =>
    some (.go ())
  | x_43 :: xs,i_25 =>
    (idx b_2 (i_25:Int)).bind fun x_46 =>
    (a8q x_43 x_46).bind fun r_48 =>
    if (!r_48) then
    some (.ret false)
    else
    a2w b_2 xs (i_25 + 1)

def a5o (a_1:(List y5)) (b_2:(List y5)):Option Bool :=
    if ((a_1.length:Int) != (b_2.length:Int)) then
    some false
    else
    (a2w b_2 a_1 0).bind fun q => (match q with
    | .ret r => some r
    | .go _ =>
    some true)
theorem a6l (a_1:(List y5)) (b_2:(List y5)) (r:Bool) (hf:a5o a_1 b_2 = some r):a0d Try.prog 8 .flat [(.lst 3 (a_1.map o5)),(.lst 3 (b_2.map o5))] (.bool r):=by
 refine a0d.of_awp mixed Try.func8 fc8 nle ?_;rw [a0q];unfold a5o at hf;unfold c8;refine (show awp Try.prog false 0 _ (ofL [(0,(.lst 3 (a_1.map o5))),(1,(.lst 3 (b_2.map o5)))]) [] _ from ?_);refine sr<|l7 (.bool false) rfl<|dk<|o6<|sr<|l7 (.lst 3 (a_1.map o5)) rfl<|a1d (a2q (enc:=o5) rfl) fun hl3 => l7 (.lst 3 (b_2.map o5)) rfl<|a1d (a2q (enc:=o5) rfl) fun hl4 => x9 (.bool ((a_1.length:Int) != (b_2.length:Int))) rfl rfl rfl<|dk<|?_
 rcases oi hf with ⟨c5,hf⟩ | ⟨c5,hf⟩
 ·refine y7 rfl c5<|sr<|l7 (.bool false) rfl<|dk<|a0c<|?_;obtain rfl:=os hf;exact a0h ⟨trivial,trivial⟩ rfl (.refl _)
 ·refine y8 rfl (bf c5)<|a0k<|a0m<|o6<|sr<|l7 (.int .i64 0) rfl<|dk<|?_
  obtain ⟨p36,hb1,hf⟩:=ob hf
  refine a3f (X:={q:Unit // p36 = .go q}) (fun q => ([],[])) ?_ ?_
  ·refine a1o (X:={q:Nat // a2w b_2 (a_1.drop q) q = some p36}) (fun q => ([(0,(.lst 3 (a_1.map o5))),(1,(.lst 3 (b_2.map o5))),(5,(.int .i64 (q.1:Int)))],[])) (fun q => a_1.length - q.1) ⟨0,hb1⟩ ⟨[],[],_,_,rfl,rfl,⟨.refl _,⟨.refl _,⟨.refl _,trivial⟩⟩⟩,(.refl _)⟩ ?_
   rintro ⟨i_25,hc1⟩
   have hc1:a2w b_2 (a_1.drop i_25) i_25 = some p36:=hc1
   refine (show awp Try.prog false 0 _ (ofL [(0,(.lst 3 (a_1.map o5))),(1,(.lst 3 (b_2.map o5))),(5,(.int .i64 (i_25:Int)))]) [] _ from ?_)
   rcases a7n a_1 i_25 with ⟨hie39,hd42⟩ | ⟨hlt37,x_43,hx38,hd42⟩
   ·rw [hd42,a2w.eq_1] at hc1
    have hq41:=dlf hie39
    refine o6<|sr<|l7 (.int .i64 (i_25:Int)) rfl<|l7 (.lst 3 (a_1.map o5)) rfl<|a1d (a2q (enc:=o5) rfl) fun hl44 => x9 (.bool (decide ((i_25:Int) < (a_1.length:Int)))) rfl rfl rfl<|dk<|y8 rfl hq41<|a3x<|a3w<|a2o<|a3v<|?_;obtain rfl:=os hc1;exact a3u ⟨_,rfl⟩ ⟨[],[],_,_,rfl,rfl,trivial,(.refl _)⟩
   ·rw [hd42,a2w.eq_2] at hc1
    have hq41:=dlt hlt37
    refine o6<|sr<|l7 (.int .i64 (i_25:Int)) rfl<|l7 (.lst 3 (a_1.map o5)) rfl<|a1d (a2q (enc:=o5) rfl) fun hl45 => x9 (.bool (decide ((i_25:Int) < (a_1.length:Int)))) rfl rfl rfl<|dk<|y7 rfl hq41<|a0k<|a0m<|o6<|a4a<|sr<|?_
    obtain ⟨x_46,ex47,hc1⟩:=ob hc1
    obtain ⟨r_48,er49,hc1⟩:=ob hc1
    refine l7 (.lst 3 (a_1.map o5)) rfl<|l7 (.int .i64 (i_25:Int)) rfl<|a0b (a3a (enc:=o5) rfl rfl hx38)<|x9 (o5 x_43) rfl nle rfl<|l7 (.lst 3 (b_2.map o5)) rfl<|l7 (.int .i64 (i_25:Int)) rfl<|a0b (a5c (enc:=o5) rfl rfl (b4b ex47) (b4c ex47))<|x9 (o5 x_46) rfl nle rfl<|a5x (a0s (b9y _ _ _ er49) rfl (.refl _) rfl) b0f trivial<|x9 (.bool (!r_48)) rfl trivial rfl<|dk<|?_
    rcases oi hc1 with ⟨c50,hc1⟩ | ⟨c50,hc1⟩
    ·refine y7 rfl c50<|sr<|l7 (.bool false) rfl<|dk<|a0c<|?_;obtain rfl:=os hc1;obtain rfl:=os hf;exact a0h ⟨trivial,trivial⟩ rfl (.refl _)
    ·refine y8 rfl (bf c50)<|a0k<|a2y<|a0m<|a0x<|l7 (.int .i64 (i_25:Int)) rfl<|x9 (.int .i64 (w64 ((i_25:Int) + 1))) rfl rfl rfl<|l7 (.int .i64 (w64 ((i_25:Int) + 1))) rfl<|a0l<|?_;exact a2g ⟨(i_25 + 1),hc1⟩ (mul hlt37) ⟨[],[],_,_,rfl,rfl,⟨.refl _,⟨.refl _,⟨.of_eq (congrArg (AV.int _) (a2z hlt37 hl45)),trivial⟩⟩⟩,(.refl _)⟩
  ·rintro ⟨_,rfl⟩
   refine sr<|l7 (.bool true) rfl<|dk<|a0c<|?_;obtain rfl:=os hf;exact a0h ⟨trivial,trivial⟩ rfl (.refl _)

/- laws.eqStringS -/
def c22:a0p :=
 (.seq (.reg (tm 4 (.c (.bool false)) .done))
 (.seq (.seq (.reg (tm 6 (.t 0) (tq 7 (.len (.t 6)) (tm 8 (.t 1) (tq 9 (.len (.t 8)) (tq 10 (.bin .neq (.t 7) (.t 9)) .done))))))
 (.cond (.t 10) (.seq (.reg (tm 4 (.c (.bool false)) .done))
 .ret)
 .skip))
 (.seq (.seq (.reg (tm 5 (.c (.int .i64 0)) .done))
 (.block 0 (.loop (.seq (.seq (.reg (tm 11 (.t 5) (tm 12 (.t 0) (tq 13 (.len (.t 12)) (tq 14 (.bin .lss (.t 11) (.t 13)) .done)))))
 (.cond (.t 14) .skip
 (.exit 0)))
 (.seq (.block 1 (.seq (.reg (tm 17 (.t 0) (tm 18 (.t 5) (tq 19 (.iaddr 1 (.t 17) (.t 18)) (tq 20 (.load 1 false (.t 19)) (tm 21 (.t 1) (tm 22 (.t 5) (tq 23 (.iaddr 1 (.t 21) (.t 22)) (tq 24 (.load 1 false (.t 23)) (tq 25 (.bin .neq (.t 20) (.t 24)) .done))))))))))
 (.cond (.t 25) (.seq (.reg (tm 4 (.c (.bool false)) .done))
 .ret)
 .skip)))
 (.reg (tm 15 (.t 5) (tq 16 (.bin .add (.t 15) (.c (.int .i64 1))) (tm 5 (.t 16) .done)))))))))
 (.cut (.seq (.reg (tm 4 (.c (.bool true)) .done))
 .ret)))))
theorem d6f:a1f Try.prog Try.f22 = some (c22.erase,[.mov (.t 4)],26):=by kernel_rfl
def a1v (b_2:(List Str)):List Str → Nat → Option (Fl Bool Unit)
  | [],i_21 =>
    some (.go ())
  | x_37 :: xs,i_21 =>
    (idx b_2 (i_21:Int)).bind fun x_40 =>
    if (!(x_37 == x_40)) then
    some (.ret false)
    else
    a1v b_2 xs (i_21 + 1)

def a6m (a_1:(List Str)) (b_2:(List Str)):Option Bool :=
    if ((a_1.length:Int) != (b_2.length:Int)) then
    some false
    else
    (a1v b_2 a_1 0).bind fun q => (match q with
    | .ret r => some r
    | .go _ =>
    some true)
theorem b6g (a_1:(List Str)) (b_2:(List Str)) (r:Bool) (hf:a6m a_1 b_2 = some r):a0d Try.prog 22 .flat [(.lst 1 (a_1.map AV.str)),(.lst 1 (b_2.map AV.str))] (.bool r):=by
 refine a0d.of_awp mixed Try.func22 d6f nle ?_;rw [a0q];unfold a6m at hf;unfold c22;refine (show awp Try.prog false 0 _ (ofL [(0,(.lst 1 (a_1.map AV.str))),(1,(.lst 1 (b_2.map AV.str)))]) [] _ from ?_);refine sr<|l7 (.bool false) rfl<|dk<|o6<|sr<|l7 (.lst 1 (a_1.map AV.str)) rfl<|a1d (a2q (enc:=AV.str) rfl) fun hl3 => l7 (.lst 1 (b_2.map AV.str)) rfl<|a1d (a2q (enc:=AV.str) rfl) fun hl4 => x9 (.bool ((a_1.length:Int) != (b_2.length:Int))) rfl rfl rfl<|dk<|?_
 rcases oi hf with ⟨c5,hf⟩ | ⟨c5,hf⟩
 ·refine y7 rfl c5<|sr<|l7 (.bool false) rfl<|dk<|a0c<|?_;obtain rfl:=os hf;exact a0h ⟨trivial,trivial⟩ rfl (.refl _)
 ·refine y8 rfl (bf c5)<|a0k<|a0m<|o6<|sr<|l7 (.int .i64 0) rfl<|dk<|?_
  obtain ⟨p30,hb1,hf⟩:=ob hf
  refine a3f (X:={q:Unit // p30 = .go q}) (fun q => ([],[])) ?_ ?_
  ·refine a1o (X:={q:Nat // a1v b_2 (a_1.drop q) q = some p30}) (fun q => ([(0,(.lst 1 (a_1.map AV.str))),(1,(.lst 1 (b_2.map AV.str))),(5,(.int .i64 (q.1:Int)))],[])) (fun q => a_1.length - q.1) ⟨0,hb1⟩ ⟨[],[],_,_,rfl,rfl,⟨.refl _,⟨.refl _,⟨.refl _,trivial⟩⟩⟩,(.refl _)⟩ ?_
   rintro ⟨i_21,hc1⟩
   have hc1:a1v b_2 (a_1.drop i_21) i_21 = some p30:=hc1
   refine (show awp Try.prog false 0 _ (ofL [(0,(.lst 1 (a_1.map AV.str))),(1,(.lst 1 (b_2.map AV.str))),(5,(.int .i64 (i_21:Int)))]) [] _ from ?_)
   rcases a7n a_1 i_21 with ⟨hie33,hd36⟩ | ⟨hlt31,x_37,hx32,hd36⟩
   ·rw [hd36,a1v.eq_1] at hc1
    have hq35:=dlf hie33
    refine o6<|sr<|l7 (.int .i64 (i_21:Int)) rfl<|l7 (.lst 1 (a_1.map AV.str)) rfl<|a1d (a2q (enc:=AV.str) rfl) fun hl38 => x9 (.bool (decide ((i_21:Int) < (a_1.length:Int)))) rfl rfl rfl<|dk<|y8 rfl hq35<|a3x<|a3w<|a2o<|a3v<|?_;obtain rfl:=os hc1;exact a3u ⟨_,rfl⟩ ⟨[],[],_,_,rfl,rfl,trivial,(.refl _)⟩
   ·rw [hd36,a1v.eq_2] at hc1
    have hq35:=dlt hlt31
    refine o6<|sr<|l7 (.int .i64 (i_21:Int)) rfl<|l7 (.lst 1 (a_1.map AV.str)) rfl<|a1d (a2q (enc:=AV.str) rfl) fun hl39 => x9 (.bool (decide ((i_21:Int) < (a_1.length:Int)))) rfl rfl rfl<|dk<|y7 rfl hq35<|a0k<|a0m<|o6<|a4a<|sr<|?_
    obtain ⟨x_40,ex41,hc1⟩:=ob hc1
    refine l7 (.lst 1 (a_1.map AV.str)) rfl<|l7 (.int .i64 (i_21:Int)) rfl<|a0b (a3a (enc:=AV.str) rfl rfl hx32)<|x9 (.str x_37) rfl ⟨rfl,rfl⟩ rfl<|l7 (.lst 1 (b_2.map AV.str)) rfl<|l7 (.int .i64 (i_21:Int)) rfl<|a0b (a5c (enc:=AV.str) rfl rfl (b4b ex41) (b4c ex41))<|x9 (.str x_40) rfl ⟨rfl,rfl⟩ rfl<|x9 (.bool (!(x_37 == x_40))) rfl trivial rfl<|dk<|?_
    rcases oi hc1 with ⟨c42,hc1⟩ | ⟨c42,hc1⟩
    ·refine y7 rfl c42<|sr<|l7 (.bool false) rfl<|dk<|a0c<|?_;obtain rfl:=os hc1;obtain rfl:=os hf;exact a0h ⟨trivial,trivial⟩ rfl (.refl _)
    ·refine y8 rfl (bf c42)<|a0k<|a2y<|a0m<|a0x<|l7 (.int .i64 (i_21:Int)) rfl<|x9 (.int .i64 (w64 ((i_21:Int) + 1))) rfl rfl rfl<|l7 (.int .i64 (w64 ((i_21:Int) + 1))) rfl<|a0l<|?_;exact a2g ⟨(i_21 + 1),hc1⟩ (mul hlt31) ⟨[],[],_,_,rfl,rfl,⟨.refl _,⟨.refl _,⟨.of_eq (congrArg (AV.int _) (a2z hlt31 hl39)),trivial⟩⟩⟩,(.refl _)⟩
  ·rintro ⟨_,rfl⟩
   refine sr<|l7 (.bool true) rfl<|dk<|a0c<|?_;obtain rfl:=os hf;exact a0h ⟨trivial,trivial⟩ rfl (.refl _)

/- laws.eqJsonS -/
def c23:a0p :=
 (.seq (.reg (tm 4 (.c (.bool false)) .done))
 (.seq (.seq (.reg (tm 6 (.t 0) (tq 7 (.len (.t 6)) (tm 8 (.t 1) (tq 9 (.len (.t 8)) (tq 10 (.bin .neq (.t 7) (.t 9)) .done))))))
 (.cond (.t 10) (.seq (.reg (tm 4 (.c (.bool false)) .done))
 .ret)
 .skip))
 (.seq (.seq (.reg (tm 5 (.c (.int .i64 0)) .done))
 (.block 0 (.loop (.seq (.seq (.reg (tm 11 (.t 5) (tm 12 (.t 0) (tq 13 (.len (.t 12)) (tq 14 (.bin .lss (.t 11) (.t 13)) .done)))))
 (.cond (.t 14) .skip
 (.exit 0)))
 (.seq (.block 1 (.seq (.reg (tm 17 (.t 0) (tm 18 (.t 5) (tq 19 (.iaddr 5 (.t 17) (.t 18)) (tq 20 (.load 5 true (.t 19)) (tm 21 (.t 1) (tm 22 (.t 5) (tq 23 (.iaddr 5 (.t 21) (.t 22)) (tq 24 (.load 5 true (.t 23)) (.l ⟨(some 25),none,.call 9 [(.t 20),(.t 24)]⟩ []
 (tq 26 (.not (.t 25)) .done) .non))))))))))
 (.cond (.t 26) (.seq (.reg (tm 4 (.c (.bool false)) .done))
 .ret)
 .skip)))
 (.reg (tm 15 (.t 5) (tq 16 (.bin .add (.t 15) (.c (.int .i64 1))) (tm 5 (.t 16) .done)))))))))
 (.cut (.seq (.reg (tm 4 (.c (.bool true)) .done))
 .ret)))))
theorem d6g:a1f Try.prog Try.f23 = some (c23.erase,[.mov (.t 4)],27):=by kernel_rfl
def a2x (b_2:(List o8)) (rec:(o8 → o8 → Option Bool)):List o8 → Nat → Option (Fl Bool Unit)
  | [],i_25 =>
    some (.go ())
  | x_43 :: xs,i_25 =>
    (idx b_2 (i_25:Int)).bind fun x_46 =>
    (rec x_43 x_46).bind fun r_48 =>
    if (!r_48) then
    some (.ret false)
    else
    a2x b_2 rec xs (i_25 + 1)

def a6t (rec:(o8 → o8 → Option Bool)) (a_1:(List o8)) (b_2:(List o8)):Option Bool :=
    if ((a_1.length:Int) != (b_2.length:Int)) then
    some false
    else
    (a2x b_2 rec a_1 0).bind fun q => (match q with
    | .ret r => some r
    | .go _ =>
    some true)
theorem b8w (rec:(o8 → o8 → Option Bool)) (hrec:∀ a0 a1 r,rec a0 a1 = some r → a0d Try.prog 9 .flat [(l9 a0),(l9 a1)] (.bool r)) (a_1:(List o8)) (b_2:(List o8)) (r:Bool) (hf:a6t rec a_1 b_2 = some r):a0d Try.prog 23 .flat [(.lst 5 (a_1.map l9)),(.lst 5 (b_2.map l9))] (.bool r):=by
 refine a0d.of_awp mixed Try.func23 d6g nle ?_;rw [a0q];unfold a6t at hf;unfold c23;refine (show awp Try.prog false 0 _ (ofL [(0,(.lst 5 (a_1.map l9))),(1,(.lst 5 (b_2.map l9)))]) [] _ from ?_);refine sr<|l7 (.bool false) rfl<|dk<|o6<|sr<|l7 (.lst 5 (a_1.map l9)) rfl<|a1d (a2q (enc:=l9) rfl) fun hl3 => l7 (.lst 5 (b_2.map l9)) rfl<|a1d (a2q (enc:=l9) rfl) fun hl4 => x9 (.bool ((a_1.length:Int) != (b_2.length:Int))) rfl rfl rfl<|dk<|?_
 rcases oi hf with ⟨c5,hf⟩ | ⟨c5,hf⟩
 ·refine y7 rfl c5<|sr<|l7 (.bool false) rfl<|dk<|a0c<|?_;obtain rfl:=os hf;exact a0h ⟨trivial,trivial⟩ rfl (.refl _)
 ·refine y8 rfl (bf c5)<|a0k<|a0m<|o6<|sr<|l7 (.int .i64 0) rfl<|dk<|?_
  obtain ⟨p36,hb1,hf⟩:=ob hf
  refine a3f (X:={q:Unit // p36 = .go q}) (fun q => ([],[])) ?_ ?_
  ·refine a1o (X:={q:Nat // a2x b_2 rec (a_1.drop q) q = some p36}) (fun q => ([(0,(.lst 5 (a_1.map l9))),(1,(.lst 5 (b_2.map l9))),(5,(.int .i64 (q.1:Int)))],[])) (fun q => a_1.length - q.1) ⟨0,hb1⟩ ⟨[],[],_,_,rfl,rfl,⟨.refl _,⟨.refl _,⟨.refl _,trivial⟩⟩⟩,(.refl _)⟩ ?_
   rintro ⟨i_25,hc1⟩
   have hc1:a2x b_2 rec (a_1.drop i_25) i_25 = some p36:=hc1
   refine (show awp Try.prog false 0 _ (ofL [(0,(.lst 5 (a_1.map l9))),(1,(.lst 5 (b_2.map l9))),(5,(.int .i64 (i_25:Int)))]) [] _ from ?_)
   rcases a7n a_1 i_25 with ⟨hie39,hd42⟩ | ⟨hlt37,x_43,hx38,hd42⟩
   ·rw [hd42,a2x.eq_1] at hc1
    have hq41:=dlf hie39
    refine o6<|sr<|l7 (.int .i64 (i_25:Int)) rfl<|l7 (.lst 5 (a_1.map l9)) rfl<|a1d (a2q (enc:=l9) rfl) fun hl44 => x9 (.bool (decide ((i_25:Int) < (a_1.length:Int)))) rfl rfl rfl<|dk<|y8 rfl hq41<|a3x<|a3w<|a2o<|a3v<|?_;obtain rfl:=os hc1;exact a3u ⟨_,rfl⟩ ⟨[],[],_,_,rfl,rfl,trivial,(.refl _)⟩
   ·rw [hd42,a2x.eq_2] at hc1
    have hq41:=dlt hlt37
    refine o6<|sr<|l7 (.int .i64 (i_25:Int)) rfl<|l7 (.lst 5 (a_1.map l9)) rfl<|a1d (a2q (enc:=l9) rfl) fun hl45 => x9 (.bool (decide ((i_25:Int) < (a_1.length:Int)))) rfl rfl rfl<|dk<|y7 rfl hq41<|a0k<|a0m<|o6<|a4a<|sr<|?_
    obtain ⟨x_46,ex47,hc1⟩:=ob hc1
    obtain ⟨r_48,er49,hc1⟩:=ob hc1
    refine l7 (.lst 5 (a_1.map l9)) rfl<|l7 (.int .i64 (i_25:Int)) rfl<|a0b (a3a (enc:=l9) rfl rfl hx38)<|a0b (a4w (v:=(.agg [(.int .i64 x_43.Kind),(.int .i64 x_43.N),(.str x_43.T),(.lst 1 (x_43.Keys.map AV.str)),(.lst 5 (x_43.Items.map l9))])) rfl (o9 _) nle rfl)<|l7 (.lst 5 (b_2.map l9)) rfl<|l7 (.int .i64 (i_25:Int)) rfl<|a0b (a5c (enc:=l9) rfl rfl (b4b ex47) (b4c ex47))<|a0b (a4w (v:=(.agg [(.int .i64 x_46.Kind),(.int .i64 x_46.N),(.str x_46.T),(.lst 1 (x_46.Keys.map AV.str)),(.lst 5 (x_46.Items.map l9))])) rfl (o9 _) nle rfl)<|a5x (a0s (hrec _ _ _ er49) rfl (.cons (.of_eq (o9 x_43).symm) (.cons (.of_eq (o9 x_46).symm) .nil)) rfl) b0f trivial<|?_
    refine x9 (.bool (!r_48)) rfl trivial rfl<|dk<|?_
    rcases oi hc1 with ⟨c50,hc1⟩ | ⟨c50,hc1⟩
    ·refine y7 rfl c50<|sr<|l7 (.bool false) rfl<|dk<|a0c<|?_;obtain rfl:=os hc1;obtain rfl:=os hf;exact a0h ⟨trivial,trivial⟩ rfl (.refl _)
    ·refine y8 rfl (bf c50)<|a0k<|a2y<|a0m<|a0x<|l7 (.int .i64 (i_25:Int)) rfl<|x9 (.int .i64 (w64 ((i_25:Int) + 1))) rfl rfl rfl<|l7 (.int .i64 (w64 ((i_25:Int) + 1))) rfl<|a0l<|?_;exact a2g ⟨(i_25 + 1),hc1⟩ (mul hlt37) ⟨[],[],_,_,rfl,rfl,⟨.refl _,⟨.refl _,⟨.of_eq (congrArg (AV.int _) (a2z hlt37 hl45)),trivial⟩⟩⟩,(.refl _)⟩
  ·rintro ⟨_,rfl⟩
   refine sr<|l7 (.bool true) rfl<|dk<|a0c<|?_;obtain rfl:=os hf;exact a0h ⟨trivial,trivial⟩ rfl (.refl _)

/- laws.eqJson -/
def c9:a0p :=
 (.seq (.reg (tq 2 (.box 5 (.t 0)) (tq 3 (.box 5 (.t 1)) (tm 4 (.c (.bool false)) .done))))
 (.seq (.seq (.reg (tq 5 (.faddr 0 (.t 2)) (tq 6 (.load 1 false (.t 5)) (tq 7 (.faddr 0 (.t 3)) (tq 8 (.load 1 false (.t 7)) (tq 9 (.bin .neq (.t 6) (.t 8)) .done))))))
 (.cond (.t 9) (.seq (.reg (tm 4 (.c (.bool false)) .done))
 .ret)
 .skip))
 (.seq (.seq (.reg (tq 10 (.faddr 1 (.t 2)) (tq 11 (.load 1 false (.t 10)) (tq 12 (.faddr 1 (.t 3)) (tq 13 (.load 1 false (.t 12)) (tq 14 (.bin .neq (.t 11) (.t 13)) .done))))))
 (.cond (.t 14) (.seq (.reg (tm 4 (.c (.bool false)) .done))
 .ret)
 .skip))
 (.seq (.seq (.reg (tq 15 (.faddr 2 (.t 2)) (tq 16 (.load 1 false (.t 15)) (tq 17 (.faddr 2 (.t 3)) (tq 18 (.load 1 false (.t 17)) (tq 19 (.bin .neq (.t 16) (.t 18)) .done))))))
 (.cond (.t 19) (.seq (.reg (tm 4 (.c (.bool false)) .done))
 .ret)
 .skip))
 (.seq (.seq (.reg (tq 20 (.faddr 3 (.t 2)) (tq 21 (.load 1 false (.t 20)) (tq 22 (.faddr 3 (.t 3)) (tq 23 (.load 1 false (.t 22)) (tq 24 (.call 22 [(.t 21),(.t 23)]) (tq 25 (.not (.t 24)) .done)))))))
 (.cond (.t 25) (.seq (.reg (tm 4 (.c (.bool false)) .done))
 .ret)
 .skip))
 (.seq (.seq (.reg (tq 26 (.faddr 4 (.t 2)) (tq 27 (.load 1 false (.t 26)) (tq 28 (.faddr 4 (.t 3)) (tq 29 (.load 1 false (.t 28)) (tq 30 (.call 23 [(.t 27),(.t 29)]) (tq 31 (.not (.t 30)) .done)))))))
 (.cond (.t 31) (.seq (.reg (tm 4 (.c (.bool false)) .done))
 .ret)
 .skip))
 (.seq (.reg (tm 4 (.c (.bool true)) .done))
 .ret)))))))
theorem fc9:a1f Try.prog Try.f9 = some (c9.erase,[.mov (.t 4)],32):=by kernel_rfl
def a8i (rec:(o8 → o8 → Option Bool)) (a_1:o8) (b_2:o8):Option Bool :=
    if (a_1.Kind != b_2.Kind) then
    some false
    else
    if (a_1.N != b_2.N) then
    some false
    else
    if (!(a_1.T == b_2.T)) then
    some false
    else
    (a6m a_1.Keys b_2.Keys).bind fun r_6 =>
    if (!r_6) then
    some false
    else
    (a6t rec a_1.Items b_2.Items).bind fun r_9 =>
    if (!r_9) then
    some false
    else
    some true
theorem b7d (rec:(o8 → o8 → Option Bool)) (hrec:∀ a0 a1 r,rec a0 a1 = some r → a0d Try.prog 9 .flat [(l9 a0),(l9 a1)] (.bool r)) (a_1:o8) (b_2:o8) (r:Bool) (hf:a8i rec a_1 b_2 = some r):a0d Try.prog 9 .flat [(l9 a_1),(l9 b_2)] (.bool r):=by
 refine a0d.of_awp mixed Try.func9 fc9 nle ?_;rw [a0q];rw [o9 a_1,o9 b_2];unfold a8i at hf;unfold c9;refine (show awp Try.prog false 0 _ (ofL [(0,(.agg [(.int .i64 a_1.Kind),(.int .i64 a_1.N),(.str a_1.T),(.lst 1 (a_1.Keys.map AV.str)),(.lst 5 (a_1.Items.map l9))])),(1,(.agg [(.int .i64 b_2.Kind),(.int .i64 b_2.N),(.str b_2.T),(.lst 1 (b_2.Keys.map AV.str)),(.lst 5 (b_2.Items.map l9))]))]) [] _ from ?_);refine sr<|a0b (a1p (j:=0) (c:=(.agg [(.int .i64 a_1.Kind),(.int .i64 a_1.N),(.str a_1.T),(.lst 1 (a_1.Keys.map AV.str)),(.lst 5 (a_1.Items.map l9))])) rfl trivial rfl rfl)<|a0b (a1p (j:=1) (c:=(.agg [(.int .i64 b_2.Kind),(.int .i64 b_2.N),(.str b_2.T),(.lst 1 (b_2.Keys.map AV.str)),(.lst 5 (b_2.Items.map l9))])) rfl trivial rfl rfl)<|?_
 refine l7 (.bool false) rfl<|dk<|o6<|sr<|x9 (.ptr 0 0 0) rfl trivial rfl<|x9 (.int .i64 a_1.Kind) rfl nle rfl<|x9 (.ptr 1 0 0) rfl trivial rfl<|x9 (.int .i64 b_2.Kind) rfl nle rfl<|x9 (.bool (a_1.Kind != b_2.Kind)) rfl rfl rfl<|dk<|?_
 rcases oi hf with ⟨c3,hf⟩ | ⟨c3,hf⟩
 ·refine y7 rfl c3<|sr<|l7 (.bool false) rfl<|dk<|a0c<|?_;obtain rfl:=os hf;exact a0h ⟨trivial,trivial⟩ rfl (.refl _)
 ·refine y8 rfl (bf c3)<|a0k<|a0m<|o6<|sr<|x9 (.ptr 0 0 1) rfl trivial rfl<|x9 (.int .i64 a_1.N) rfl nle rfl<|x9 (.ptr 1 0 1) rfl trivial rfl<|x9 (.int .i64 b_2.N) rfl nle rfl<|x9 (.bool (a_1.N != b_2.N)) rfl rfl rfl<|dk<|?_
  rcases oi hf with ⟨c4,hf⟩ | ⟨c4,hf⟩
  ·refine y7 rfl c4<|sr<|l7 (.bool false) rfl<|dk<|a0c<|?_;obtain rfl:=os hf;exact a0h ⟨trivial,trivial⟩ rfl (.refl _)
  ·refine y8 rfl (bf c4)<|a0k<|a0m<|o6<|sr<|x9 (.ptr 0 0 2) rfl trivial rfl<|x9 (.str a_1.T) rfl nle rfl<|x9 (.ptr 1 0 2) rfl trivial rfl<|x9 (.str b_2.T) rfl nle rfl<|x9 (.bool (!(a_1.T == b_2.T))) rfl trivial rfl<|dk<|?_
   rcases oi hf with ⟨c5,hf⟩ | ⟨c5,hf⟩
   ·refine y7 rfl c5<|sr<|l7 (.bool false) rfl<|dk<|a0c<|?_;obtain rfl:=os hf;exact a0h ⟨trivial,trivial⟩ rfl (.refl _)
   ·refine y8 rfl (bf c5)<|a0k<|a0m<|o6<|sr<|?_
    obtain ⟨r_6,er7,hf⟩:=ob hf
    refine x9 (.ptr 0 0 3) rfl trivial rfl<|x9 (.lst 1 (a_1.Keys.map AV.str)) rfl nle rfl<|x9 (.ptr 1 0 3) rfl trivial rfl<|x9 (.lst 1 (b_2.Keys.map AV.str)) rfl nle rfl<|a0b (a0s (b6g _ _ _ er7) rfl (.refl _) rfl)<|x9 (.bool (!r_6)) rfl trivial rfl<|dk<|?_
    rcases oi hf with ⟨c8,hf⟩ | ⟨c8,hf⟩
    ·refine y7 rfl c8<|sr<|l7 (.bool false) rfl<|dk<|a0c<|?_;obtain rfl:=os hf;exact a0h ⟨trivial,trivial⟩ rfl (.refl _)
    ·refine y8 rfl (bf c8)<|a0k<|a0m<|o6<|sr<|?_
     obtain ⟨r_9,er10,hf⟩:=ob hf
     refine x9 (.ptr 0 0 4) rfl trivial rfl<|x9 (.lst 5 (a_1.Items.map l9)) rfl nle rfl<|x9 (.ptr 1 0 4) rfl trivial rfl<|x9 (.lst 5 (b_2.Items.map l9)) rfl nle rfl<|a0b (a0s (b8w rec hrec _ _ _ er10) rfl (.refl _) rfl)<|x9 (.bool (!r_9)) rfl trivial rfl<|dk<|?_
     rcases oi hf with ⟨c11,hf⟩ | ⟨c11,hf⟩
     ·refine y7 rfl c11<|sr<|l7 (.bool false) rfl<|dk<|a0c<|?_;obtain rfl:=os hf;exact a0h ⟨trivial,trivial⟩ rfl (.refl _)
     ·refine y8 rfl (bf c11)<|a0k<|a0m<|sr<|l7 (.bool true) rfl<|dk<|a0c<|?_;obtain rfl:=os hf;exact a0h ⟨trivial,trivial⟩ rfl (.refl _)
def a4j:Nat → o8 → o8 → Option Bool
 | 0,_,_ => none
 | k + 1,a_1,b_2 => a8i (a4j k) a_1 b_2
theorem b3j:∀ (k:Nat) (a_1:o8) (b_2:o8) (r:Bool),a4j k a_1 b_2 = some r → a0d Try.prog 9 .flat [(l9 a_1),(l9 b_2)] (.bool r)
 | 0,a_1,b_2,r,h => by rw [a4j.eq_1] at h;cases h
 | k + 1,a_1,b_2,r,h => by
  rw [a4j.eq_2] at h;exact b7d _ (b3j k) a_1 b_2 r h

/- laws.markText -/
def c26:a0p :=
 (.seq (.reg (tm 2 (.c (.str [])) .done))
 (.seq (.seq (.reg (tm 4 (.t 0) (tq 5 (.bin .leq (.t 4) (.c (.int .i64 0))) .done)))
 (.cond (.t 5) (.seq (.reg (tm 2 (.c (.str [109,48])) .done))
 .ret)
 .skip))
 (.seq (.reg (tm 3 (.c (.str [])) .done))
 (.seq (.block 0 (.loop (.seq (.seq (.reg (tm 6 (.t 0) (tq 7 (.bin .gtr (.t 6) (.c (.int .i64 0))) .done)))
 (.cond (.t 7) .skip
 (.exit 0)))
 (.block 1 (.seq (.reg (tm 8 (.t 0) (tq 9 (.bin .rem (.t 8) (.c (.int .i64 10))) (tq 10 (.bin .add (.c (.int .i64 48)) (.t 9)) (tq 11 (.convI .u8 (.t 10)) (tq 12 (.bslice 1 [(.t 11)]) (tq 13 (.convBS (.t 12)) (tm 14 (.t 3) (tq 15 (.bin .add (.t 13) (.t 14)) (tm 3 (.t 15) .done))))))))))
 (.reg (tm 16 (.t 0) (tq 17 (.bin .quo (.t 16) (.c (.int .i64 10))) (tm 0 (.t 17) .done)))))))))
 (.cut (.seq (.reg (tm 18 (.t 3) (tq 19 (.bin .add (.c (.str [109])) (.t 18)) (tm 2 (.t 19) .done))))
 .ret))))))
theorem d6h:a1f Try.prog Try.f26 = some (c26.erase,[.mov (.t 2)],20):=by kernel_rfl
def a2h :Nat → Int → Str → Option Str
  | 0,_,_ => none
  | k + 1,k_9,out_10 =>
    if (decide (k_9 > 0)) then
    if (c4p [IntKind.u8.wrap (w64 (48 + (k_9.tmod 10)))]).length + out_10.length ≤ maxLen then
    a2h k (w64 (k_9.tdiv 10)) ((c4p [IntKind.u8.wrap (w64 (48 + (k_9.tmod 10)))]) ++ out_10)
    else none
    else
    some out_10

def a3c (k_1:Int):Option Str :=
    if (decide (k_1 ≤ 0)) then
    some [109,48]
    else
    (a2h FUEL k_1 []).bind fun out_13 =>
    if [109].length + out_13.length ≤ maxLen then
    some ([109] ++ out_13)
    else none
theorem a7e (k_1:Int) (r:Str) (hf:a3c k_1 = some r):a0d Try.prog 26 .flat [(.int .i64 k_1)] (.str r):=by
 refine a0d.of_awp mixed Try.func26 d6h nle ?_;rw [a0q];unfold a3c at hf;unfold c26;refine (show awp Try.prog false 0 _ (ofL [(0,(.int .i64 k_1))]) [] _ from ?_);refine sr<|l7 (.str []) rfl<|dk<|o6<|sr<|l7 (.int .i64 k_1) rfl<|x9 (.bool (decide (k_1 ≤ 0))) rfl rfl rfl<|dk<|?_
 rcases oi hf with ⟨c2,hf⟩ | ⟨c2,hf⟩
 ·refine y7 rfl c2<|sr<|l7 (.str [109,48]) rfl<|dk<|a0c<|?_;obtain rfl:=os hf;exact a0h ⟨trivial,trivial⟩ rfl (.refl _)
 ·refine y8 rfl (bf c2)<|a0k<|a0m<|sr<|l7 (.str []) rfl<|dk<|o6<|?_
  obtain ⟨out_13,hb1,hf⟩:=ob hf
  refine a2n ([(3,(.str out_13))],[]) ?_ ?_
  ·refine a1o (X:={q:(Nat × Int × Str) // a2h q.1 q.2.1 q.2.2 = some out_13}) (fun q => ([(0,(.int .i64 q.1.2.1)),(3,(.str q.1.2.2))],[])) (fun q => q.1.1) ⟨(FUEL,k_1,[]),hb1⟩ ⟨[],[],_,_,rfl,rfl,⟨.refl _,⟨.refl _,trivial⟩⟩,(.refl _)⟩ ?_
   rintro ⟨⟨k,k_9,out_10⟩,hc1⟩
   have hc1:a2h k k_9 out_10 = some out_13:=hc1
   refine (show awp Try.prog false 0 _ (ofL [(0,(.int .i64 k_9)),(3,(.str out_10))]) [] _ from ?_)
   rcases k with _ | k
   ·rw [a2h.eq_1] at hc1
    cases hc1
   ·rw [a2h.eq_2] at hc1;refine o6<|sr<|l7 (.int .i64 k_9) rfl<|x9 (.bool (decide (k_9 > 0))) rfl rfl rfl<|dk<|?_
    rcases oi hc1 with ⟨c15,hc1⟩ | ⟨c15,hc1⟩
    ·refine y7 rfl c15<|a0k<|a0m<|a4a<|sr<|?_
     obtain ⟨g16,hc1⟩:=og hc1
     refine l7 (.int .i64 k_9) rfl<|x9 (.int .i64 (k_9.tmod 10)) rfl ⟨rfl,by decide⟩ rfl<|x9 (.int .i64 (w64 (48 + (k_9.tmod 10)))) rfl rfl rfl<|x9 (.int .u8 (IntKind.u8.wrap (w64 (48 + (k_9.tmod 10))))) rfl trivial rfl<|?_;refine a0b (a2i (j:=0) (as':=[(.int .u8 (IntKind.u8.wrap (w64 (48 + (k_9.tmod 10)))))]) rfl (fun _ => by decide) ⟨rfl,trivial⟩ (.refl _) rfl rfl rfl) ?_;refine a0b (c8f (l:=[IntKind.u8.wrap (w64 (48 + (k_9.tmod 10)))]) rfl rfl (by simp))<|l7 (.str out_10) rfl<|x9 (.str ((c4p [IntKind.u8.wrap (w64 (48 + (k_9.tmod 10)))]) ++ out_10)) rfl g16 rfl<|l7 (.str ((c4p [IntKind.u8.wrap (w64 (48 + (k_9.tmod 10)))]) ++ out_10)) rfl<|dk<|a0x<|l7 (.int .i64 k_9) rfl<|?_
     refine x9 (.int .i64 (w64 (k_9.tdiv 10))) rfl ⟨rfl,by decide⟩ rfl<|l7 (.int .i64 (w64 (k_9.tdiv 10))) rfl<|a0l<|a2y<|?_;exact a2g ⟨(k,w64 (k_9.tdiv 10),(c4p [IntKind.u8.wrap (w64 (48 + (k_9.tmod 10)))]) ++ out_10),hc1⟩ (Nat.lt_succ_self _) ⟨[],[],_,_,rfl,rfl,⟨.refl _,⟨.refl _,trivial⟩⟩,(.refl _)⟩
    ·refine y8 rfl (bf c15)<|a3x<|a3w<|a2o<|a3v<|?_;obtain rfl:=os hc1;exact ⟨[],[],_,_,rfl,rfl,⟨.refl _,trivial⟩,(.refl _)⟩
  ·refine sr<|?_
   obtain ⟨g17,hf⟩:=og hf
   refine l7 (.str out_13) rfl<|x9 (.str ([109] ++ out_13)) rfl g17 rfl<|l7 (.str ([109] ++ out_13)) rfl<|dk<|a0c<|?_;obtain rfl:=os hf;exact a0h ⟨trivial,trivial⟩ rfl (.refl _)

/- laws.markStringS -/
def d0b:a0p :=
 (.seq (.reg (tm 4 (.c (.int .i64 0)) .done))
 (.seq (.seq (.reg (tm 5 (.c (.int .i64 0)) .done))
 (.block 0 (.loop (.seq (.seq (.reg (tm 6 (.t 5) (tm 7 (.t 0) (tq 8 (.len (.t 7)) (tq 9 (.bin .lss (.t 6) (.t 8)) .done)))))
 (.cond (.t 9) .skip
 (.exit 0)))
 (.seq (.block 1 (.seq (.reg (tm 12 (.t 0) (tm 13 (.t 5) (tm 14 (.t 1) (tq 15 (.call 26 [(.t 14)]) (tq 16 (.iaddr 1 (.t 12) (.t 13)) (.q ⟨none,none,.store 1 (.t 16) (.t 15)⟩
 .done)))))))
 (.reg (tm 17 (.t 1) (tq 18 (.bin .add (.t 17) (.c (.int .i64 1))) (tm 1 (.t 18) .done))))))
 (.reg (tm 10 (.t 5) (tq 11 (.bin .add (.t 10) (.c (.int .i64 1))) (tm 5 (.t 11) .done)))))))))
 (.cut (.seq (.reg (tm 19 (.t 1) (tm 4 (.t 19) .done)))
 .ret))))
theorem d1q:a1f Try.prog Try.f24 = some (d0b.erase,[.mov (.t 4)],20):=by kernel_rfl
def a1k :Nat → Int → Int → (List Str) → Option (Int × (List Str))
  | 0,_,_,_ => none
  | k + 1,k_48,i_49,a_50 =>
    if (decide (i_49 < (a_50.length:Int))) then
    (a3c k_48).bind fun r_63 =>
    if (0:Int) ≤ i_49 ∧ i_49 < (a_50.length:Int) then
    (a_50[(0 + i_49.toNat)]?).bind fun x_66 =>
    a1k k (w64 (k_48 + 1)) (w64 (i_49 + 1)) (a_50.set (0 + i_49.toNat) r_63)
    else none
    else
    some (k_48,a_50)

def a4l (a_1:(List Str)) (k_2:Int):Option (Int × (List Str)) :=
    (a1k FUEL k_2 0 a_1).bind fun p60 =>
    (match p60 with
    | (k_58,l_59) =>
    some (k_58,l_59))
theorem a9w (a_1:(List Str)) (k_2:Int) (r:(Int × (List Str))) (hf:a4l a_1 k_2 = some r):a0r Try.prog ⟨true,true⟩ 24 [(.own 0 0 a_1.length),(.int .i64 k_2)] [.row 1 (a_1.map AV.str)] (.int .i64 r.1) [.row 1 (r.2.map AV.str)]:=by
 refine a0r.of_awp mixed Try.func24 d1q nle ?_;rw [a0q];unfold a4l at hf;unfold d0b;refine (show awp Try.prog ⟨true,true⟩ 1 _ (ofL [(0,(.own 0 0 a_1.length)),(1,(.int .i64 k_2))]) [.row 1 (a_1.map AV.str)] _ from ?_);refine sr<|l7 (.int .i64 0) rfl<|dk<|o6<|sr<|l7 (.int .i64 0) rfl<|dk<|?_
 obtain ⟨p60,hb1,hf⟩:=ob hf
 refine a2n ([(1,(.int .i64 p60.1))],[.row 1 (p60.2.map AV.str)]) ?_ ?_
 ·refine a1o (X:={q:(Nat × Int × Int × (List Str)) // a1k q.1 q.2.1 q.2.2.1 q.2.2.2 = some p60}) (fun q => ([(0,(.own 0 0 q.1.2.2.2.length)),(1,(.int .i64 q.1.2.1)),(5,(.int .i64 q.1.2.2.1))],[.row 1 (q.1.2.2.2.map AV.str)])) (fun q => q.1.1) ⟨(FUEL,k_2,0,a_1),hb1⟩ ⟨[],[0],_,_,rfl,rfl,⟨.refl _,⟨.refl _,⟨.refl _,trivial⟩⟩⟩,(.refl _)⟩ ?_
  rintro ⟨⟨k,k_48,i_49,a_50⟩,hc1⟩
  have hc1:a1k k k_48 i_49 a_50 = some p60:=hc1
  refine (show awp Try.prog ⟨true,true⟩ 1 _ (ofL [(0,(.own 0 0 a_50.length)),(1,(.int .i64 k_48)),(5,(.int .i64 i_49))]) [.row 1 (a_50.map AV.str)] _ from ?_)
  rcases k with _ | k
  ·rw [a1k.eq_1] at hc1
   cases hc1
  ·rw [a1k.eq_2] at hc1;refine o6<|sr<|l7 (.int .i64 i_49) rfl<|l7 (.own 0 0 a_50.length) rfl<|a1d (a6y rfl rfl) fun hl61 => x9 (.bool (decide (i_49 < (a_50.length:Int)))) rfl (.of rfl trivial) rfl<|dk<|?_
   rcases oi hc1 with ⟨c62,hc1⟩ | ⟨c62,hc1⟩
   ·refine y7 rfl c62<|a0k<|a0m<|o6<|a4a<|sr<|?_
    obtain ⟨r_63,er64,hc1⟩:=ob hc1
    obtain ⟨g65,hc1⟩:=og hc1
    obtain ⟨x_66,ex67,hc1⟩:=ob hc1
    refine l7 (.own 0 0 a_50.length) rfl<|l7 (.int .i64 i_49) rfl<|l7 (.int .i64 k_48) rfl<|a0b (a0s (a7e _ _ er64) rfl (.refl _) rfl)<|a0b (a2k rfl rfl g65.1 g65.2 rfl rfl)<|?_;refine a2a (a7h (v':=(.str r_63)) (e':=r_63) rfl rfl ex67 rfl rfl rfl (by decide) (fun _ => by decide) ⟨rfl,rfl,rfl⟩ (.refl _) rfl) ?_;refine dk<|a0x<|l7 (.int .i64 k_48) rfl<|x9 (.int .i64 (w64 (k_48 + 1))) rfl (.of rfl trivial) rfl<|l7 (.int .i64 (w64 (k_48 + 1))) rfl<|a0l<|a2y<|a0m<|a0x<|l7 (.int .i64 i_49) rfl<|x9 (.int .i64 (w64 (i_49 + 1))) rfl (.of rfl trivial) rfl<|l7 (.int .i64 (w64 (i_49 + 1))) rfl<|a0l<|?_;exact a2g ⟨(k,w64 (k_48 + 1),w64 (i_49 + 1),a_50.set (0 + i_49.toNat) r_63),hc1⟩ (Nat.lt_succ_self _) ⟨[],[0],_,_,rfl,rfl,⟨.of_eq (congrArg (AV.own _ 0) (by simp)),⟨.refl _,⟨.refl _,trivial⟩⟩⟩,(.refl _)⟩
   ·refine y8 rfl (bf c62)<|a3x<|a3w<|a2o<|a3v<|?_;obtain rfl:=os hc1;exact ⟨[],[0],_,_,rfl,rfl,⟨.refl _,trivial⟩,(.refl _)⟩
 ·obtain ⟨k_58,l_59⟩:=p60
  refine sr<|l7 (.int .i64 k_58) rfl<|l7 (.int .i64 k_58) rfl<|dk<|a0c<|?_;obtain rfl:=os hf;exact a6d [] [0] rfl ⟨.of trivial trivial,trivial⟩ rfl (.refl _) (.refl _)

/- laws.markJsonS -/
def d0c:a0p :=
 (.seq (.reg (tm 4 (.c (.int .i64 0)) .done))
 (.seq (.seq (.reg (tm 5 (.c (.int .i64 0)) .done))
 (.block 0 (.loop (.seq (.seq (.reg (tm 6 (.t 5) (tm 7 (.t 0) (tq 8 (.len (.t 7)) (tq 9 (.bin .lss (.t 6) (.t 8)) .done)))))
 (.cond (.t 9) .skip
 (.exit 0)))
 (.seq (.block 1 (.seq (.reg (tm 12 (.t 0) (tm 13 (.t 5) (tm 14 (.t 1) (tq 15 (.iaddr 5 (.t 12) (.t 13)) (tq 16 (.faddr 0 (.t 15)) (.q ⟨none,none,.store 1 (.t 16) (.t 14)⟩
 .done)))))))
 (.seq (.reg (tm 17 (.t 1) (tq 18 (.bin .add (.t 17) (.c (.int .i64 1))) (tm 1 (.t 18) .done))))
 (.seq (.reg (tm 19 (.t 0) (tm 20 (.t 5) (tm 21 (.t 1) (tq 22 (.iaddr 5 (.t 19) (.t 20)) (tq 23 (.faddr 1 (.t 22)) (.q ⟨none,none,.store 1 (.t 23) (.t 21)⟩
 .done)))))))
 (.seq (.reg (tm 24 (.t 1) (tq 25 (.bin .add (.t 24) (.c (.int .i64 1))) (tm 1 (.t 25) .done))))
 (.seq (.reg (tm 26 (.t 0) (tm 27 (.t 5) (tm 28 (.t 1) (tq 29 (.call 26 [(.t 28)]) (tq 30 (.iaddr 5 (.t 26) (.t 27)) (tq 31 (.faddr 2 (.t 30)) (.q ⟨none,none,.store 1 (.t 31) (.t 29)⟩
 .done))))))))
 (.seq (.reg (tm 32 (.t 1) (tq 33 (.bin .add (.t 32) (.c (.int .i64 1))) (tm 1 (.t 33) .done))))
 (.seq (.rev (.reg (tm 34 (.t 0) (tm 35 (.t 5) (tq 36 (.iaddr 5 (.t 34) (.t 35)) (tq 37 (.faddr 3 (.t 36)) (tq 38 (.load 1 false (.t 37)) (tm 39 (.t 1) (tq 40 (.call 24 [(.t 38),(.t 39)]) (tm 1 (.t 40) .done))))))))))
 (.rev (.reg (tm 41 (.t 0) (tm 42 (.t 5) (tq 43 (.iaddr 5 (.t 41) (.t 42)) (tq 44 (.faddr 4 (.t 43)) (tq 45 (.load 1 false (.t 44)) (tm 46 (.t 1) (tq 47 (.call 25 [(.t 45),(.t 46)]) (tm 1 (.t 47) .done))))))))))))))))))
 (.reg (tm 10 (.t 5) (tq 11 (.bin .add (.t 10) (.c (.int .i64 1))) (tm 5 (.t 11) .done)))))))))
 (.cut (.seq (.reg (tm 48 (.t 1) (tm 4 (.t 48) .done)))
 .ret))))
theorem d1r:a1f Try.prog Try.f25 = some (d0c.erase,[.mov (.t 4)],49):=by kernel_rfl
def a1l (rec:((List o8) → Int → Option (Int × (List o8)))):Nat → Int → Int → (List o8) → Option (Int × (List o8))
  | 0,_,_,_ => none
  | k + 1,k_108,i_109,a_110 =>
    if (decide (i_109 < (a_110.length:Int))) then
    if (0:Int) ≤ i_109 ∧ i_109 < (a_110.length:Int) then
    (a_110[(0 + i_109.toNat)]?).bind fun x_136 =>
    if (0:Int) ≤ i_109 ∧ i_109 < (a_110.length:Int) then
    (a3c (w64 ((w64 (k_108 + 1)) + 1))).bind fun r_139 =>
    if (0:Int) ≤ i_109 ∧ i_109 < (a_110.length:Int) then
    if (0:Int) ≤ i_109 ∧ i_109 < (a_110.length:Int) then
    (a4l x_136.Keys (w64 ((w64 ((w64 (k_108 + 1)) + 1)) + 1))).bind fun r_145 =>
    if (0:Int) ≤ i_109 ∧ i_109 < (a_110.length:Int) then
    (rec x_136.Items r_145.1).bind fun r_150 =>
    a1l rec k r_150.1 (w64 (i_109 + 1)) (((((a_110.set (0 + i_109.toNat) (⟨k_108,x_136.N,x_136.T,x_136.Keys,x_136.Items⟩:o8)).set (0 + i_109.toNat) (⟨k_108,w64 (k_108 + 1),x_136.T,x_136.Keys,x_136.Items⟩:o8)).set (0 + i_109.toNat) (⟨k_108,w64 (k_108 + 1),r_139,x_136.Keys,x_136.Items⟩:o8)).set (0 + i_109.toNat) (⟨k_108,w64 (k_108 + 1),r_139,r_145.2,x_136.Items⟩:o8)).set (0 + i_109.toNat) (⟨k_108,w64 (k_108 + 1),r_139,r_145.2,r_150.2⟩:o8))
    else none
    else none
    else none
    else none
    else none
    else
    some (k_108,a_110)

def a6u (rec:((List o8) → Int → Option (Int × (List o8)))) (a_1:(List o8)) (k_2:Int):Option (Int × (List o8)) :=
    (a1l rec FUEL k_2 0 a_1).bind fun p132 =>
    (match p132 with
    | (k_130,l_131) =>
    some (k_130,l_131))
theorem b4f (rec:((List o8) → Int → Option (Int × (List o8)))) (hrec:∀ a0 a1 r,rec a0 a1 = some r → a0r Try.prog ⟨true,true⟩ 25 [(.own 0 0 a0.length),(.int .i64 a1)] [.row 5 (a0.map l9)] (.int .i64 r.1) [.row 5 (r.2.map l9)]) (a_1:(List o8)) (k_2:Int) (r:(Int × (List o8))) (hf:a6u rec a_1 k_2 = some r):a0r Try.prog ⟨true,true⟩ 25 [(.own 0 0 a_1.length),(.int .i64 k_2)] [.row 5 (a_1.map l9)] (.int .i64 r.1) [.row 5 (r.2.map l9)]:=by
 refine a0r.of_awp mixed Try.func25 d1r nle ?_;rw [a0q];unfold a6u at hf;unfold d0c;refine (show awp Try.prog ⟨true,true⟩ 1 _ (ofL [(0,(.own 0 0 a_1.length)),(1,(.int .i64 k_2))]) [.row 5 (a_1.map l9)] _ from ?_);refine sr<|l7 (.int .i64 0) rfl<|dk<|o6<|sr<|l7 (.int .i64 0) rfl<|dk<|?_
 obtain ⟨p132,hb1,hf⟩:=ob hf
 refine a2n ([(1,(.int .i64 p132.1))],[.row 5 (p132.2.map l9)]) ?_ ?_
 ·refine a1o (X:={q:(Nat × Int × Int × (List o8)) // a1l rec q.1 q.2.1 q.2.2.1 q.2.2.2 = some p132}) (fun q => ([(0,(.own 0 0 q.1.2.2.2.length)),(1,(.int .i64 q.1.2.1)),(5,(.int .i64 q.1.2.2.1))],[.row 5 (q.1.2.2.2.map l9)])) (fun q => q.1.1) ⟨(FUEL,k_2,0,a_1),hb1⟩ ⟨[],[0],_,_,rfl,rfl,⟨.refl _,⟨.refl _,⟨.refl _,trivial⟩⟩⟩,(.refl _)⟩ ?_
  rintro ⟨⟨k,k_108,i_109,a_110⟩,hc1⟩
  have hc1:a1l rec k k_108 i_109 a_110 = some p132:=hc1
  refine (show awp Try.prog ⟨true,true⟩ 1 _ (ofL [(0,(.own 0 0 a_110.length)),(1,(.int .i64 k_108)),(5,(.int .i64 i_109))]) [.row 5 (a_110.map l9)] _ from ?_)
  rcases k with _ | k
  ·rw [a1l.eq_1] at hc1
   cases hc1
  ·rw [a1l.eq_2] at hc1;refine o6<|sr<|l7 (.int .i64 i_109) rfl<|l7 (.own 0 0 a_110.length) rfl<|a1d (a6y rfl rfl) fun hl133 => x9 (.bool (decide (i_109 < (a_110.length:Int)))) rfl (.of rfl trivial) rfl<|dk<|?_
   rcases oi hc1 with ⟨c134,hc1⟩ | ⟨c134,hc1⟩
   ·refine y7 rfl c134<|a0k<|a0m<|o6<|a4a<|sr<|?_
    obtain ⟨g135,hc1⟩:=og hc1
    obtain ⟨x_136,ex137,hc1⟩:=ob hc1
    refine l7 (.own 0 0 a_110.length) rfl<|l7 (.int .i64 i_109) rfl<|l7 (.int .i64 k_108) rfl<|a0b (a2k rfl rfl g135.1 g135.2 rfl rfl)<|x9 (.ptr 0 (0 + i_109.toNat) 0) rfl (.of trivial trivial) rfl<|?_;refine a2a (a9c (v':=(.int .i64 k_108)) (e':=(⟨k_108,x_136.N,x_136.T,x_136.Keys,x_136.Items⟩:o8)) rfl rfl ex137 (o9 _) rfl rfl rfl (by decide) (fun _ => by decide) ⟨rfl,nle⟩ (.of_eq (o9 (⟨k_108,x_136.N,x_136.T,x_136.Keys,x_136.Items⟩:o8)).symm) rfl) ?_;refine dk<|sr<|l7 (.int .i64 k_108) rfl<|x9 (.int .i64 (w64 (k_108 + 1))) rfl (.of rfl trivial) rfl<|l7 (.int .i64 (w64 (k_108 + 1))) rfl<|dk<|?_
    refine sr<|?_
    obtain ⟨g138,hc1⟩:=og hc1
    refine l7 (.own 0 0 a_110.length) rfl<|l7 (.int .i64 i_109) rfl<|l7 (.int .i64 (w64 (k_108 + 1))) rfl<|a0b (a2k rfl rfl g138.1 g138.2 rfl rfl)<|x9 (.ptr 0 (0 + i_109.toNat) 1) rfl (.of trivial trivial) rfl<|?_;refine a2a (a9c (v':=(.int .i64 (w64 (k_108 + 1)))) (e':=(⟨k_108,w64 (k_108 + 1),x_136.T,x_136.Keys,x_136.Items⟩:o8)) rfl rfl (a3r ex137) (o9 _) rfl rfl rfl (by decide) (fun _ => by decide) ⟨rfl,nle⟩ (.of_eq (o9 (⟨k_108,w64 (k_108 + 1),x_136.T,x_136.Keys,x_136.Items⟩:o8)).symm) rfl) ?_;refine dk<|sr<|l7 (.int .i64 (w64 (k_108 + 1))) rfl<|x9 (.int .i64 (w64 ((w64 (k_108 + 1)) + 1))) rfl (.of rfl trivial) rfl<|?_
    refine l7 (.int .i64 (w64 ((w64 (k_108 + 1)) + 1))) rfl<|dk<|sr<|?_
    obtain ⟨r_139,er140,hc1⟩:=ob hc1
    obtain ⟨g141,hc1⟩:=og hc1
    refine l7 (.own 0 0 a_110.length) rfl<|l7 (.int .i64 i_109) rfl<|l7 (.int .i64 (w64 ((w64 (k_108 + 1)) + 1))) rfl<|a0b (a0s (a7e _ _ er140) rfl (.refl _) rfl)<|a0b (a2k rfl rfl g141.1 g141.2 rfl rfl)<|x9 (.ptr 0 (0 + i_109.toNat) 2) rfl (.of trivial trivial) rfl<|?_;refine a2a (a9c (v':=(.str r_139)) (e':=(⟨k_108,w64 (k_108 + 1),r_139,x_136.Keys,x_136.Items⟩:o8)) rfl rfl (a3r (a3r ex137)) (o9 _) rfl rfl rfl (by decide) (fun _ => by decide) ⟨rfl,nle⟩ (.of_eq (o9 (⟨k_108,w64 (k_108 + 1),r_139,x_136.Keys,x_136.Items⟩:o8)).symm) rfl) ?_;refine dk<|sr<|l7 (.int .i64 (w64 ((w64 (k_108 + 1)) + 1))) rfl<|?_
    refine x9 (.int .i64 (w64 ((w64 ((w64 (k_108 + 1)) + 1)) + 1))) rfl (.of rfl trivial) rfl<|l7 (.int .i64 (w64 ((w64 ((w64 (k_108 + 1)) + 1)) + 1))) rfl<|dk<|o6<|?_;refine d2n (o:=0) (f:=3) (l':=x_136.Keys) (enc':=AV.str) (el:=(.agg [(.int .i64 k_108),(.int .i64 (w64 (k_108 + 1))),(.str r_139),(.lst 1 (x_136.Keys.map AV.str)),(.lst 5 (x_136.Items.map l9))])) rfl (a3r (a3r (a3r ex137))) (o9 _) rfl fun v_143 => ?_;refine a0x ?_
    obtain ⟨g144,hc1⟩:=og hc1
    obtain ⟨r_145,er146,hc1⟩:=ob hc1
    refine l7 (.own 0 0 a_110.length) rfl<|l7 (.int .i64 i_109) rfl<|a0b (a2k rfl rfl g144.1 g144.2 rfl rfl)<|x9 (.ptr 0 (0 + i_109.toNat) 3) rfl (.of trivial trivial) rfl<|a0b (c1i rfl rfl (c6m (a3r (a3r (a3r ex137)))) nle rfl)<|l7 (.int .i64 (w64 ((w64 ((w64 (k_108 + 1)) + 1)) + 1))) rfl<|a0b (c7e (o:=0) (l:=(((a_110.set (0 + i_109.toNat) (⟨k_108,x_136.N,x_136.T,x_136.Keys,x_136.Items⟩:o8)).set (0 + i_109.toNat) (⟨k_108,w64 (k_108 + 1),x_136.T,x_136.Keys,x_136.Items⟩:o8)).set (0 + i_109.toNat) (⟨k_108,w64 (k_108 + 1),r_139,x_136.Keys,x_136.Items⟩:o8))) (enc:=l9) (enc':=AV.str) (l'':=r_145.2) (y:=(⟨k_108,w64 (k_108 + 1),r_139,r_145.2,x_136.Items⟩:o8)) (j:=3) (el:=(.agg [(.int .i64 k_108),(.int .i64 (w64 (k_108 + 1))),(.str r_139),(.hdr v_143 1 (x_136.Keys.map AV.str)),(.lst 5 (x_136.Items.map l9))])) rfl rfl (a9w _ _ _ er146) rfl rfl (a3r (a3r (a3r ex137))) rfl (by decide) (o9 (⟨k_108,w64 (k_108 + 1),r_139,r_145.2,x_136.Items⟩:o8)).symm)<|?_
    refine l7 (.int .i64 r_145.1) rfl<|dk<|?_;refine d2n (o:=0) (f:=4) (l':=x_136.Items) (enc':=l9) (el:=(.agg [(.int .i64 k_108),(.int .i64 (w64 (k_108 + 1))),(.str r_139),(.lst 1 (r_145.2.map AV.str)),(.lst 5 (x_136.Items.map l9))])) rfl (a3r (a3r (a3r (a3r ex137)))) (o9 _) rfl fun v_148 => ?_;refine a0x ?_
    obtain ⟨g149,hc1⟩:=og hc1
    obtain ⟨r_150,er151,hc1⟩:=ob hc1
    refine l7 (.own 0 0 a_110.length) rfl<|l7 (.int .i64 i_109) rfl<|a0b (a2k rfl rfl g149.1 g149.2 rfl rfl)<|x9 (.ptr 0 (0 + i_109.toNat) 4) rfl (.of trivial trivial) rfl<|a0b (c1i rfl rfl (c6m (a3r (a3r (a3r (a3r ex137))))) nle rfl)<|l7 (.int .i64 r_145.1) rfl<|a0b (c7e (o:=0) (l:=((((a_110.set (0 + i_109.toNat) (⟨k_108,x_136.N,x_136.T,x_136.Keys,x_136.Items⟩:o8)).set (0 + i_109.toNat) (⟨k_108,w64 (k_108 + 1),x_136.T,x_136.Keys,x_136.Items⟩:o8)).set (0 + i_109.toNat) (⟨k_108,w64 (k_108 + 1),r_139,x_136.Keys,x_136.Items⟩:o8)).set (0 + i_109.toNat) (⟨k_108,w64 (k_108 + 1),r_139,r_145.2,x_136.Items⟩:o8))) (enc:=l9) (enc':=l9) (l'':=r_150.2) (y:=(⟨k_108,w64 (k_108 + 1),r_139,r_145.2,r_150.2⟩:o8)) (j:=4) (el:=(.agg [(.int .i64 k_108),(.int .i64 (w64 (k_108 + 1))),(.str r_139),(.lst 1 (r_145.2.map AV.str)),(.hdr v_148 5 (x_136.Items.map l9))])) rfl rfl (hrec _ _ _ er151) rfl rfl (a3r (a3r (a3r (a3r ex137)))) rfl (by decide) (o9 (⟨k_108,w64 (k_108 + 1),r_139,r_145.2,r_150.2⟩:o8)).symm)<|?_
    refine l7 (.int .i64 r_150.1) rfl<|a0l<|a2y<|a0m<|a0x<|l7 (.int .i64 i_109) rfl<|x9 (.int .i64 (w64 (i_109 + 1))) rfl (.of rfl trivial) rfl<|l7 (.int .i64 (w64 (i_109 + 1))) rfl<|a0l<|?_;exact a2g ⟨(k,r_150.1,w64 (i_109 + 1),((((a_110.set (0 + i_109.toNat) (⟨k_108,x_136.N,x_136.T,x_136.Keys,x_136.Items⟩:o8)).set (0 + i_109.toNat) (⟨k_108,w64 (k_108 + 1),x_136.T,x_136.Keys,x_136.Items⟩:o8)).set (0 + i_109.toNat) (⟨k_108,w64 (k_108 + 1),r_139,x_136.Keys,x_136.Items⟩:o8)).set (0 + i_109.toNat) (⟨k_108,w64 (k_108 + 1),r_139,r_145.2,x_136.Items⟩:o8)).set (0 + i_109.toNat) (⟨k_108,w64 (k_108 + 1),r_139,r_145.2,r_150.2⟩:o8)),hc1⟩ (Nat.lt_succ_self _) ⟨[],[0],_,_,rfl,rfl,⟨.of_eq (congrArg (AV.own _ 0) (by simp)),⟨.refl _,⟨.refl _,trivial⟩⟩⟩,(.refl _)⟩
   ·refine y8 rfl (bf c134)<|a3x<|a3w<|a2o<|a3v<|?_;obtain rfl:=os hc1;exact ⟨[],[0],_,_,rfl,rfl,⟨.refl _,trivial⟩,(.refl _)⟩
 ·obtain ⟨k_130,l_131⟩:=p132
  refine sr<|l7 (.int .i64 k_130) rfl<|l7 (.int .i64 k_130) rfl<|dk<|a0c<|?_;obtain rfl:=os hf;exact a6d [] [0] rfl ⟨.of trivial trivial,trivial⟩ rfl (.refl _) (.refl _)
def a3j:Nat → (List o8) → Int → Option (Int × (List o8))
 | 0,_,_ => none
 | k + 1,a_1,k_2 => a6u (a3j k) a_1 k_2
theorem b0m:∀ (k:Nat) (a_1:(List o8)) (k_2:Int) (r:(Int × (List o8))),a3j k a_1 k_2 = some r → a0r Try.prog ⟨true,true⟩ 25 [(.own 0 0 a_1.length),(.int .i64 k_2)] [.row 5 (a_1.map l9)] (.int .i64 r.1) [.row 5 (r.2.map l9)]
 | 0,a_1,k_2,r,h => by rw [a3j.eq_1] at h;cases h
 | k + 1,a_1,k_2,r,h => by
  rw [a3j.eq_2] at h;exact b4f _ (b0m k) a_1 k_2 r h

/- laws.markJson -/
def d0d:a0p :=
 (.seq (.reg (tq 2 (.box 5 (.t 0)) (tm 4 (.c (.int .i64 0)) .done)))
 (.seq (.reg (tq 5 (.faddr 3 (.t 2)) (tq 6 (.load 1 false (.t 5)) (tm 7 (.t 1) (tq 8 (.call 24 [(.t 6),(.t 7)]) (tm 1 (.t 8) .done))))))
 (.seq (.reg (tq 9 (.faddr 4 (.t 2)) (tq 10 (.load 1 false (.t 9)) (tm 11 (.t 1) (tq 12 (.call 25 [(.t 10),(.t 11)]) (tm 1 (.t 12) .done))))))
 (.seq (.reg (tm 13 (.t 1) (tm 4 (.t 13) .done)))
 .ret))))
theorem d1s:a1f Try.prog Try.f10 = some (d0d.erase,[.mov (.t 4)],14):=by kernel_rfl
def a7c (a_1:o8) (k_2:Int):Option (Int × o8) :=
    (a4l a_1.Keys k_2).bind fun r_3 =>
    (a3j FUEL a_1.Items r_3.1).bind fun r_6 =>
    some (r_6.1,(⟨a_1.Kind,a_1.N,a_1.T,r_3.2,r_6.2⟩:o8))
theorem b7e (a_1:o8) (k_2:Int) (r:(Int × o8)) (hf:a7c a_1 k_2 = some r):a0r Try.prog ⟨true,true⟩ 10 [(.agg [(.int .i64 a_1.Kind),(.int .i64 a_1.N),(.str a_1.T),(.own 0 0 a_1.Keys.length),(.own 1 0 a_1.Items.length)]),(.int .i64 k_2)] [.row 1 (a_1.Keys.map AV.str),.row 5 (a_1.Items.map l9)] (.int .i64 r.1) [.row 1 (r.2.Keys.map AV.str),.row 5 (r.2.Items.map l9)]:=by
 refine a0r.of_awp mixed Try.func10 d1s nle ?_;rw [a0q];unfold a7c at hf;unfold d0d;refine (show awp Try.prog ⟨true,true⟩ 2 _ (ofL [(0,(.agg [(.int .i64 a_1.Kind),(.int .i64 a_1.N),(.str a_1.T),(.own 0 0 a_1.Keys.length),(.own 1 0 a_1.Items.length)])),(1,(.int .i64 k_2))]) [.row 1 (a_1.Keys.map AV.str),.row 5 (a_1.Items.map l9)] _ from ?_);refine sr<|a0b (a1p (j:=2) (c:=(.agg [(.int .i64 a_1.Kind),(.int .i64 a_1.N),(.str a_1.T),(.own 0 0 a_1.Keys.length),(.own 1 0 a_1.Items.length)])) rfl trivial rfl rfl)<|l7 (.int .i64 0) rfl<|dk<|sr<|?_
 obtain ⟨r_3,er4,hf⟩:=ob hf
 refine x9 (.ptr 2 0 3) rfl (.of trivial trivial) rfl<|x9 (.own 0 0 a_1.Keys.length) rfl (.of nle trivial) rfl<|l7 (.int .i64 k_2) rfl<|?_;refine a1d (b1s (v:=(.int .i64 r_3.1)) (h2:=[.row 1 (r_3.2.map AV.str),.row 5 (a_1.Items.map l9),.box 5 (.agg [(.int .i64 a_1.Kind),(.int .i64 a_1.N),(.str a_1.T),(.own 0 0 a_1.Keys.length),(.own 1 0 a_1.Items.length)])]) [] [0] (fun _ => rfl) (a9w _ _ _ er4) rfl (.refl _) (.refl _) rfl rfl) fun hl5 => ?_;refine l7 (.int .i64 r_3.1) rfl<|dk<|sr<|?_
 obtain ⟨r_6,er7,hf⟩:=ob hf
 refine x9 (.ptr 2 0 4) rfl (.of trivial trivial) rfl<|x9 (.own 1 0 a_1.Items.length) rfl (.of nle trivial) rfl<|l7 (.int .i64 r_3.1) rfl<|?_;refine a1d (b1s (v:=(.int .i64 r_6.1)) (h2:=[.row 1 (r_3.2.map AV.str),.row 5 (r_6.2.map l9),.box 5 (.agg [(.int .i64 a_1.Kind),(.int .i64 a_1.N),(.str a_1.T),(.own 0 0 a_1.Keys.length),(.own 1 0 a_1.Items.length)])]) [] [1] (fun _ => rfl) (b0m FUEL _ _ _ er7) rfl (.refl _) (.refl _) rfl rfl) fun hl8 => ?_;refine l7 (.int .i64 r_6.1) rfl<|dk<|sr<|l7 (.int .i64 r_6.1) rfl<|l7 (.int .i64 r_6.1) rfl<|dk<|a0c<|?_;obtain rfl:=os hf;exact a6d [] [0,1] rfl ⟨.of trivial trivial,trivial⟩ rfl (.refl _) (.refl _)

end Go.R
