/- Walks. -/
import Derived.Test.YtgdkfnndbknjpaaGreatMT1
set_option linter.all false
namespace Go.R
open Go Go.Proofs
set_option linter.unusedVariables false
set_option linter.unusedSimpArgs false
set_option maxHeartbeats 8000000
/- impl.isPlain -/
def e2u:a0n :=
 (.seq (.reg (tm 2 (.c (.bool false)) .done))
 (.seq (.seq (.reg (tm 4 (.t 0) (tq 5 (.lenS (.t 4)) (tm 6 (.c (.int .i64 0)) .done))))
 (.block 0 (.loop (.seq (.reg (tq 7 (.bin .lss (.t 6) (.t 5)) .done))
 (.seq (.cond (.t 7) .skip
 (.exit 0))
 (.seq (.block 1 (.seq (.reg (tm 8 (.t 6) (tm 3 (.t 8) .done)))
 (.seq (.reg (tm 9 (.t 0) (tm 10 (.t 3) (tq 11 (.idxs (.t 9) (.t 10)) (tq 12 (.bin .lss (.t 11) (.c (.int .u8 32))) (tm 13 (.t 12) (tg 14 13 false (.mov (.t 0)) (tg 15 13 false (.mov (.t 3)) (tg 16 13 false (.idxs (.t 14) (.t 15)) (tg 17 13 false (.bin .gtr (.t 16) (.c (.int .u8 126))) (tq 18 (.pick (.t 13) (.c (.bool true)) (.t 17)) .done)))))))))))
 (.cut (.cond (.t 18) (.seq (.reg (tm 2 (.c (.bool false)) .done))
 .ret)
 .skip)))))
 (.reg (tq 19 (.bin .add (.t 6) (.c (.int .i64 1))) (tm 6 (.t 19) .done)))))))))
 (.cut (.seq (.reg (tm 20 (.t 0) (tq 21 (.lenS (.t 20)) (tq 22 (.bin .leq (.t 21) (.c (.int .i64 200))) (tm 2 (.t 22) .done)))))
 .ret))))
theorem e2v:a1c Tryz.prog Tryz.f292 = some (e2u.erase,[.mov (.t 2)],23):=by kernel_rfl
def a4v :List UInt8 → Option (Fl Bool Unit)
  | [] =>
    some (.go ())
  | x_54 :: xs =>
    ((if (decide ((x_54.toNat:Int) < 32)) then
    some true
    else
    some (decide ((x_54.toNat:Int) > 126)):Option Bool)).bind fun s18_56 =>
    if s18_56 then
    some (.ret false)
    else
    a4v xs 

def b1h (t_1:Str):Option Bool :=
    (a4v t_1 ).bind fun q => (match q with
    | .ret r => some r
    | .go _ =>
    some (decide ((t_1.length:Int) ≤ 200)))
theorem c4f (t_1:Str) (r:Bool) (hf:b1h t_1 = some r):y8 Tryz.prog 292 .flat [(.str t_1)] (.bool r):=by
 refine y8.of_awp mixed Tryz.func292 e2v nle ?_;rw [a0h];unfold b1h at hf;unfold e2u;refine (show awp Tryz.prog false 0 _ (ofL [(0,(.str t_1))]) [] _ from ?_);refine sr<|l9 (.bool false) rfl<|dk<|o6<|sr<|l9 (.str t_1) rfl<|a1e (b3o rfl) fun hl2 => l9 (.int .i64 0) rfl<|dk<|?_
 obtain ⟨p47,hb1,hf⟩:=ob hf
 refine a2i (X:={q:Unit // p47 = .go q}) (fun q => ([(0,(.str t_1))],[])) ?_ ?_
 ·refine a1m (X:={q:Nat // a4v (t_1.drop q)  = some p47}) (fun q => ([(0,(.str t_1)),(5,(.int .i64 (t_1.length:Int))),(6,(.int .i64 (q.1:Int)))],[])) (fun q => t_1.length - q.1) ⟨0,hb1⟩ ⟨[],[],_,_,rfl,rfl,⟨.refl _,⟨.refl _,⟨.refl _,trivial⟩⟩⟩,(.refl _)⟩ ?_
  rintro ⟨s6_32,hc1⟩
  have hc1:a4v (t_1.drop s6_32)  = some p47:=hc1
  refine (show awp Tryz.prog false 0 _ (ofL [(0,(.str t_1)),(5,(.int .i64 (t_1.length:Int))),(6,(.int .i64 (s6_32:Int)))]) [] _ from ?_)
  rcases a5p t_1 s6_32 with ⟨hie50,hd53⟩ | ⟨hlt48,x_54,hx49,hd53⟩
  ·rw [hd53,a4v.eq_1] at hc1
   have hq52:=dlf hie50
   refine sr<|o7 (.bool (decide ((s6_32:Int) < (t_1.length:Int)))) rfl rfl rfl<|dk<|o6<|y5 rfl hq52<|a2u<|a2t<|a1x<|a2s<|?_;obtain rfl:=os hc1;exact a3h ⟨_,rfl⟩ ⟨[],[],_,_,rfl,rfl,⟨.refl _,trivial⟩,(.refl _)⟩
  ·rw [hd53,a4v.eq_2] at hc1
   have hq52:=dlt hlt48
   refine sr<|o7 (.bool (decide ((s6_32:Int) < (t_1.length:Int)))) rfl rfl rfl<|dk<|o6<|x9 rfl hq52<|a0e<|a0f<|o6<|a3c<|sr<|l9 (.int .i64 (s6_32:Int)) rfl<|l9 (.int .i64 (s6_32:Int)) rfl<|dk<|o6<|?_
   obtain ⟨s18_56,hb2,hc1⟩:=ob hc1
   refine a1k ([(0,(.str t_1)),(5,(.int .i64 (t_1.length:Int))),(6,(.int .i64 (s6_32:Int))),(18,(.bool s18_56))],[]) ?_ ?_
   ·refine a0k ?_
    rcases oi hb2 with ⟨c58,hb2⟩ | ⟨c58,hb2⟩
    ·refine l9 (.str t_1) rfl<|l9 (.int .i64 (s6_32:Int)) rfl<|x8 (b2d rfl rfl hx49)<|o7 (.bool (decide ((x_54.toNat:Int) < 32))) rfl rfl rfl<|l9 (.bool (decide ((x_54.toNat:Int) < 32))) rfl<|a0u (s:=13) (b:=true) rfl c58<|o9 rfl rfl<|o9 rfl rfl<|o9 rfl rfl<|o9 rfl rfl<|o7 (.bool true) rfl trivial rfl<|y7<|?_;obtain rfl:=os hb2;exact ⟨[],[],_,_,rfl,rfl,⟨.refl _,⟨.refl _,⟨.refl _,⟨.refl _,trivial⟩⟩⟩⟩,(.refl _)⟩
    ·refine l9 (.str t_1) rfl<|l9 (.int .i64 (s6_32:Int)) rfl<|x8 (b2d rfl rfl hx49)<|o7 (.bool (decide ((x_54.toNat:Int) < 32))) rfl rfl rfl<|l9 (.bool (decide ((x_54.toNat:Int) < 32))) rfl<|a0u (s:=13) (b:=false) rfl (bf c58)<|s_on rfl<|l9 (.str t_1) rfl<|s_on rfl<|l9 (.int .i64 (s6_32:Int)) rfl<|s_on rfl<|x8 (b2d rfl rfl hx49)<|s_on rfl<|o7 (.bool (decide ((x_54.toNat:Int) > 126))) rfl rfl rfl<|o7 (.bool (decide ((x_54.toNat:Int) > 126))) rfl trivial rfl<|y7<|?_;obtain rfl:=os hb2;exact ⟨[],[],_,_,rfl,rfl,⟨.refl _,⟨.refl _,⟨.refl _,⟨.refl _,trivial⟩⟩⟩⟩,(.refl _)⟩
   ·rcases oi hc1 with ⟨c59,hc1⟩ | ⟨c59,hc1⟩
    ·refine x9 rfl c59<|sr<|l9 (.bool false) rfl<|dk<|a0a<|?_;obtain rfl:=os hc1;obtain rfl:=os hf;exact a0d ⟨trivial,trivial⟩ rfl (.refl _)
    ·refine y5 rfl (bf c59)<|a0e<|a2c<|a0f<|a0k<|o7 (.int .i64 (w64 ((s6_32:Int) + 1))) rfl rfl rfl<|l9 (.int .i64 (w64 ((s6_32:Int) + 1))) rfl<|y7<|?_;exact a1t ⟨(s6_32 + 1),hc1⟩ (mul hlt48) ⟨[],[],_,_,rfl,rfl,⟨.refl _,⟨.refl _,⟨.of_eq (congrArg (AV.int _) (a1w hlt48 hl2)),trivial⟩⟩⟩,(.refl _)⟩
 ·rintro ⟨_,rfl⟩
  refine sr<|l9 (.str t_1) rfl<|a1e (b3o rfl) fun hl60 => o7 (.bool (decide ((t_1.length:Int) ≤ 200))) rfl rfl rfl<|l9 (.bool (decide ((t_1.length:Int) ≤ 200))) rfl<|dk<|a0a<|?_;obtain rfl:=os hf;exact a0d ⟨trivial,trivial⟩ rfl (.refl _)

/- impl.isId -/
def e2w:a0n :=
 (.seq (.reg (tm 2 (.c (.bool false)) .done))
 (.seq (.reg (tm 3 (.t 0) (tq 4 (.call 114 [(.t 3),(.c (.int .i64 1)),(.c (.int .i64 1000000))]) (tm 2 (.t 4) .done))))
 .ret))
theorem e2x:a1c Tryz.prog Tryz.f133 = some (e2w.erase,[.mov (.t 2)],5):=by kernel_rfl
def b3g (n_1:Int):Option Bool :=
    (a3v n_1 1 1000000).bind fun r_2 =>
    some r_2
theorem b6e (n_1:Int) (r:Bool) (hf:b3g n_1 = some r):y8 Tryz.prog 133 .flat [(.int .i64 n_1)] (.bool r):=by
  refine y8.of_awp mixed Tryz.func133 e2x nle ?_
  rw [a0h]
  unfold b3g at hf
  unfold e2w
  refine (show awp Tryz.prog false 0 _ (ofL [(0,(.int .i64 n_1))]) [] _ from ?_)
  refine o6 ?_
  refine a0k ?_
  refine x8 (a2r (.bool false) rfl) ?_
  refine y7 ?_
  refine a0f ?_
  refine o6 ?_
  refine a0k ?_
  obtain ⟨r_2,er3,hf⟩:=ob hf
  refine x8 (a2r (.int .i64 n_1) rfl) ?_
  refine x8 (a0g (a3y _ _ _ _ er3) rfl (.refl _) rfl) ?_
  refine x8 (a2r (.bool r_2) rfl) ?_
  refine y7 ?_
  refine a0f ?_
  refine a0a ?_
  obtain rfl:=os hf
  exact a0d ⟨trivial,trivial⟩ rfl (.refl _)

/- impl.AtomOK -/
def e2y:a0n :=
 (.seq (.reg (tq 1 (.box 3 (.t 0)) (tm 2 (.c (.bool false)) .done)))
 (.seq (.seq (.reg (tq 3 (.faddr 0 (.t 1)) (tq 4 (.load 1 false (.t 3)) .done)))
 (.block 0 (.seq (.reg (tq 6 (.bin .eql (.t 4) (.c (.int .i64 1))) (tm 5 (.t 6) .done)))
 (.cond (.t 5) (.seq (.reg (tq 7 (.faddr 1 (.t 1)) (tq 8 (.load 1 false (.t 7)) (tq 9 (.call 252 [(.t 8)]) (tm 10 (.t 9) (tg 11 10 true (.faddr 2 (.t 1)) (tg 12 10 true (.load 1 false (.t 11)) (tg 13 10 true (.bin .eql (.t 12) (.c (.str []))) (tq 14 (.pick (.t 10) (.t 13) (.c (.bool false))) (tm 2 (.t 14) .done))))))))))
 .ret)
 (.seq (.reg (tq 16 (.bin .eql (.t 4) (.c (.int .i64 2))) (tm 15 (.t 16) .done)))
 (.cond (.t 15) (.seq (.reg (tq 17 (.faddr 1 (.t 1)) (tq 18 (.load 1 false (.t 17)) (tq 19 (.bin .eql (.t 18) (.c (.int .i64 0))) (tm 20 (.t 19) (tg 21 20 true (.faddr 2 (.t 1)) (tg 22 20 true (.load 1 false (.t 21)) (tg 23 20 true (.call 292 [(.t 22)]) (tq 24 (.pick (.t 20) (.t 23) (.c (.bool false))) (tm 2 (.t 24) .done))))))))))
 .ret)
 (.seq (.reg (tq 26 (.bin .eql (.t 4) (.c (.int .i64 3))) (tm 25 (.t 26) .done)))
 (.cond (.t 25) (.seq (.reg (tq 27 (.faddr 1 (.t 1)) (tq 28 (.load 1 false (.t 27)) (tq 29 (.call 114 [(.t 28),(.c (.int .i64 0)),(.c (.int .i64 1))]) (tm 30 (.t 29) (tg 31 30 true (.faddr 2 (.t 1)) (tg 32 30 true (.load 1 false (.t 31)) (tg 33 30 true (.bin .eql (.t 32) (.c (.str []))) (tq 34 (.pick (.t 30) (.t 33) (.c (.bool false))) (tm 2 (.t 34) .done))))))))))
 .ret)
 (.seq (.reg (tq 36 (.bin .eql (.t 4) (.c (.int .i64 4))) (tm 35 (.t 36) .done)))
 (.cond (.t 35) (.seq (.reg (tq 37 (.faddr 1 (.t 1)) (tq 38 (.load 1 false (.t 37)) (tq 39 (.call 133 [(.t 38)]) (tm 40 (.t 39) (tg 41 40 true (.faddr 2 (.t 1)) (tg 42 40 true (.load 1 false (.t 41)) (tg 43 40 true (.bin .eql (.t 42) (.c (.str []))) (tq 44 (.pick (.t 40) (.t 43) (.c (.bool false))) (tm 2 (.t 44) .done))))))))))
 .ret)
 .skip))))))))))
 (.seq (.reg (tm 2 (.c (.bool false)) .done))
 .ret)))
theorem e2z:a1c Tryz.prog Tryz.f174 = some (e2y.erase,[.mov (.t 2)],45):=by kernel_rfl
def b0t (a_1:o8):Option Bool :=
    if (a_1.Kind == 1) then
    (a6f a_1.N).bind fun r_3 =>
    if r_3 then
    some (a_1.T == [])
    else
    some false
    else
    if (a_1.Kind == 2) then
    if (a_1.N == 0) then
    (b1h a_1.T).bind fun r_8 =>
    some r_8
    else
    some false
    else
    if (a_1.Kind == 3) then
    (a3v a_1.N 0 1).bind fun r_11 =>
    if r_11 then
    some (a_1.T == [])
    else
    some false
    else
    if (a_1.Kind == 4) then
    (b3g a_1.N).bind fun r_15 =>
    if r_15 then
    some (a_1.T == [])
    else
    some false
    else
    some false
theorem c5p (a_1:o8) (r:Bool) (hf:b0t a_1 = some r):y8 Tryz.prog 174 .flat [(l7 a_1)] (.bool r):=by
 refine y8.of_awp mixed Tryz.func174 e2z nle ?_;rw [a0h];unfold b0t at hf;unfold e2y;refine (show awp Tryz.prog false 0 _ (ofL [(0,(l7 a_1))]) [] _ from ?_);refine sr<|x8 (a1o (j:=0) (c:=(.agg [(.int .i64 a_1.Kind),(.int .i64 a_1.N),(.str a_1.T)])) rfl trivial rfl rfl)<|l9 (.bool false) rfl<|dk<|o6<|sr<|o7 (.ptr 0 0 0) rfl trivial rfl<|o7 (.int .i64 a_1.Kind) rfl nle rfl<|dk<|a3c<|sr<|o7 (.bool (a_1.Kind == 1)) rfl rfl rfl<|l9 (.bool (a_1.Kind == 1)) rfl<|dk<|?_
 rcases oi hf with ⟨c2,hf⟩ | ⟨c2,hf⟩
 ·refine x9 rfl c2<|sr<|?_
  obtain ⟨r_3,er4,hf⟩:=ob hf
  rcases oi hf with ⟨c5,hf⟩ | ⟨c5,hf⟩
  ·refine o7 (.ptr 0 0 1) rfl trivial rfl<|o7 (.int .i64 a_1.N) rfl nle rfl<|x8 (a0g (a7z _ _ er4) rfl (.refl _) rfl)<|l9 (.bool r_3) rfl<|a0u (s:=10) (b:=true) rfl c5<|s_on rfl<|o7 (.ptr 0 0 2) rfl trivial rfl<|s_on rfl<|o7 (.str a_1.T) rfl nle rfl<|s_on rfl<|o7 (.bool (a_1.T == [])) rfl trivial rfl<|o7 (.bool (a_1.T == [])) rfl trivial rfl<|l9 (.bool (a_1.T == [])) rfl<|dk<|a0a<|?_;obtain rfl:=os hf;exact a0d ⟨trivial,trivial⟩ rfl (.refl _)
  ·refine o7 (.ptr 0 0 1) rfl trivial rfl<|o7 (.int .i64 a_1.N) rfl nle rfl<|x8 (a0g (a7z _ _ er4) rfl (.refl _) rfl)<|l9 (.bool r_3) rfl<|a0u (s:=10) (b:=false) rfl (bf c5)<|o9 rfl rfl<|o9 rfl rfl<|o9 rfl rfl<|o7 (.bool false) rfl trivial rfl<|l9 (.bool false) rfl<|dk<|a0a<|?_;obtain rfl:=os hf;exact a0d ⟨trivial,trivial⟩ rfl (.refl _)
 ·refine y5 rfl (bf c2)<|sr<|o7 (.bool (a_1.Kind == 2)) rfl rfl rfl<|l9 (.bool (a_1.Kind == 2)) rfl<|dk<|?_
  rcases oi hf with ⟨c6,hf⟩ | ⟨c6,hf⟩
  ·refine x9 rfl c6<|sr<|?_
   rcases oi hf with ⟨c7,hf⟩ | ⟨c7,hf⟩
   ·obtain ⟨r_8,er9,hf⟩:=ob hf
    refine o7 (.ptr 0 0 1) rfl trivial rfl<|o7 (.int .i64 a_1.N) rfl nle rfl<|o7 (.bool (a_1.N == 0)) rfl rfl rfl<|l9 (.bool (a_1.N == 0)) rfl<|a0u (s:=20) (b:=true) rfl c7<|s_on rfl<|o7 (.ptr 0 0 2) rfl trivial rfl<|s_on rfl<|o7 (.str a_1.T) rfl nle rfl<|s_on rfl<|x8 (a0g (c4f _ _ er9) rfl (.refl _) rfl)<|o7 (.bool r_8) rfl trivial rfl<|l9 (.bool r_8) rfl<|dk<|a0a<|?_;obtain rfl:=os hf;exact a0d ⟨trivial,trivial⟩ rfl (.refl _)
   ·refine o7 (.ptr 0 0 1) rfl trivial rfl<|o7 (.int .i64 a_1.N) rfl nle rfl<|o7 (.bool (a_1.N == 0)) rfl rfl rfl<|l9 (.bool (a_1.N == 0)) rfl<|a0u (s:=20) (b:=false) rfl (bf c7)<|o9 rfl rfl<|o9 rfl rfl<|o9 rfl rfl<|o7 (.bool false) rfl trivial rfl<|l9 (.bool false) rfl<|dk<|a0a<|?_;obtain rfl:=os hf;exact a0d ⟨trivial,trivial⟩ rfl (.refl _)
  ·refine y5 rfl (bf c6)<|sr<|o7 (.bool (a_1.Kind == 3)) rfl rfl rfl<|l9 (.bool (a_1.Kind == 3)) rfl<|dk<|?_
   rcases oi hf with ⟨c10,hf⟩ | ⟨c10,hf⟩
   ·refine x9 rfl c10<|sr<|?_
    obtain ⟨r_11,er12,hf⟩:=ob hf
    rcases oi hf with ⟨c13,hf⟩ | ⟨c13,hf⟩
    ·refine o7 (.ptr 0 0 1) rfl trivial rfl<|o7 (.int .i64 a_1.N) rfl nle rfl<|x8 (a0g (a3y _ _ _ _ er12) rfl (.refl _) rfl)<|l9 (.bool r_11) rfl<|a0u (s:=30) (b:=true) rfl c13<|s_on rfl<|o7 (.ptr 0 0 2) rfl trivial rfl<|s_on rfl<|o7 (.str a_1.T) rfl nle rfl<|s_on rfl<|o7 (.bool (a_1.T == [])) rfl trivial rfl<|o7 (.bool (a_1.T == [])) rfl trivial rfl<|l9 (.bool (a_1.T == [])) rfl<|dk<|a0a<|?_;obtain rfl:=os hf;exact a0d ⟨trivial,trivial⟩ rfl (.refl _)
    ·refine o7 (.ptr 0 0 1) rfl trivial rfl<|o7 (.int .i64 a_1.N) rfl nle rfl<|x8 (a0g (a3y _ _ _ _ er12) rfl (.refl _) rfl)<|l9 (.bool r_11) rfl<|a0u (s:=30) (b:=false) rfl (bf c13)<|o9 rfl rfl<|o9 rfl rfl<|o9 rfl rfl<|o7 (.bool false) rfl trivial rfl<|l9 (.bool false) rfl<|dk<|a0a<|?_;obtain rfl:=os hf;exact a0d ⟨trivial,trivial⟩ rfl (.refl _)
   ·refine y5 rfl (bf c10)<|sr<|o7 (.bool (a_1.Kind == 4)) rfl rfl rfl<|l9 (.bool (a_1.Kind == 4)) rfl<|dk<|?_
    rcases oi hf with ⟨c14,hf⟩ | ⟨c14,hf⟩
    ·refine x9 rfl c14<|sr<|?_
     obtain ⟨r_15,er16,hf⟩:=ob hf
     rcases oi hf with ⟨c17,hf⟩ | ⟨c17,hf⟩
     ·refine o7 (.ptr 0 0 1) rfl trivial rfl<|o7 (.int .i64 a_1.N) rfl nle rfl<|x8 (a0g (b6e _ _ er16) rfl (.refl _) rfl)<|l9 (.bool r_15) rfl<|a0u (s:=40) (b:=true) rfl c17<|s_on rfl<|o7 (.ptr 0 0 2) rfl trivial rfl<|s_on rfl<|o7 (.str a_1.T) rfl nle rfl<|s_on rfl<|o7 (.bool (a_1.T == [])) rfl trivial rfl<|o7 (.bool (a_1.T == [])) rfl trivial rfl<|l9 (.bool (a_1.T == [])) rfl<|dk<|a0a<|?_;obtain rfl:=os hf;exact a0d ⟨trivial,trivial⟩ rfl (.refl _)
     ·refine o7 (.ptr 0 0 1) rfl trivial rfl<|o7 (.int .i64 a_1.N) rfl nle rfl<|x8 (a0g (b6e _ _ er16) rfl (.refl _) rfl)<|l9 (.bool r_15) rfl<|a0u (s:=40) (b:=false) rfl (bf c17)<|o9 rfl rfl<|o9 rfl rfl<|o9 rfl rfl<|o7 (.bool false) rfl trivial rfl<|l9 (.bool false) rfl<|dk<|a0a<|?_;obtain rfl:=os hf;exact a0d ⟨trivial,trivial⟩ rfl (.refl _)
    ·refine y5 rfl (bf c14)<|a0e<|a2c<|a0f<|sr<|l9 (.bool false) rfl<|dk<|a0a<|?_;obtain rfl:=os hf;exact a0d ⟨trivial,trivial⟩ rfl (.refl _)

/- cmp.isNaN[int] -/
def e3a:a0n :=
 (.seq (.reg (tm 2 (.c (.bool false)) .done))
 (.seq (.reg (tm 3 (.t 0) (tm 4 (.t 0) (tq 5 (.bin .neq (.t 3) (.t 4)) (tm 2 (.t 5) .done)))))
 .ret))
theorem e3c:a1c Tryz.prog Tryz.f384 = some (e3a.erase,[.mov (.t 2)],6):=by kernel_rfl
def cmp_isNaN_int (x_1:Int):Option Bool :=
    some (x_1 != x_1)
theorem b5r (x_1:Int) (r:Bool) (hf:cmp_isNaN_int x_1 = some r):y8 Tryz.prog 384 .flat [(.int .i64 x_1)] (.bool r):=by
  refine y8.of_awp mixed Tryz.func384 e3c nle ?_
  rw [a0h]
  unfold cmp_isNaN_int at hf
  unfold e3a
  refine (show awp Tryz.prog false 0 _ (ofL [(0,(.int .i64 x_1))]) [] _ from ?_)
  refine o6 ?_
  refine a0k ?_
  refine x8 (a2r (.bool false) rfl) ?_
  refine y7 ?_
  refine a0f ?_
  refine o6 ?_
  refine a0k ?_
  refine x8 (a2r (.int .i64 x_1) rfl) ?_
  refine x8 (a2r (.int .i64 x_1) rfl) ?_
  refine x8 (o_q (.bool (x_1 != x_1)) rfl rfl rfl) ?_
  refine x8 (a2r (.bool (x_1 != x_1)) rfl) ?_
  refine y7 ?_
  refine a0f ?_
  refine a0a ?_
  obtain rfl:=os hf
  exact a0d ⟨trivial,trivial⟩ rfl (.refl _)

/- cmp.Compare[int] -/
def e3d:a0n :=
 (.seq (.reg (tm 4 (.c (.int .i64 0)) .done))
 (.seq (.reg (tm 7 (.t 0) (tq 8 (.call 384 [(.t 7)]) (tm 5 (.t 8) .done))))
 (.seq (.reg (tm 9 (.t 1) (tq 10 (.call 384 [(.t 9)]) (tm 6 (.t 10) .done))))
 (.seq (.seq (.reg (tm 11 (.t 5) .done))
 (.cond (.t 11) (.seq (.seq (.reg (tm 12 (.t 6) .done))
 (.cond (.t 12) (.seq (.reg (tm 4 (.c (.int .i64 0)) .done))
 .ret)
 .skip))
 (.seq (.reg (tq 4 (.mov (.c (.int .i64 (-1)))) .done))
 .ret))
 .skip))
 (.seq (.seq (.reg (tm 13 (.t 6) .done))
 (.cond (.t 13) (.seq (.reg (tm 4 (.c (.int .i64 1)) .done))
 .ret)
 .skip))
 (.seq (.seq (.reg (tm 14 (.t 0) (tm 15 (.t 1) (tq 16 (.bin .lss (.t 14) (.t 15)) .done))))
 (.cond (.t 16) (.seq (.reg (tq 4 (.mov (.c (.int .i64 (-1)))) .done))
 .ret)
 .skip))
 (.seq (.seq (.reg (tm 17 (.t 0) (tm 18 (.t 1) (tq 19 (.bin .gtr (.t 17) (.t 18)) .done))))
 (.cond (.t 19) (.seq (.reg (tm 4 (.c (.int .i64 1)) .done))
 .ret)
 .skip))
 (.seq (.reg (tm 4 (.c (.int .i64 0)) .done))
 .ret))))))))
theorem e3e:a1c Tryz.prog Tryz.f307 = some (e3d.erase,[.mov (.t 4)],20):=by kernel_rfl
def cmp_Compare_int (x_1:Int) (y_2:Int):Option Int :=
    (cmp_isNaN_int x_1).bind fun r_3 =>
    (cmp_isNaN_int y_2).bind fun r_5 =>
    if r_3 then
    if r_5 then
    some 0
    else
    some (-1)
    else
    if r_5 then
    some 1
    else
    if (decide (x_1 < y_2)) then
    some (-1)
    else
    if (decide (x_1 > y_2)) then
    some 1
    else
    some 0
theorem b3z (x_1:Int) (y_2:Int) (r:Int) (hf:cmp_Compare_int x_1 y_2 = some r):y8 Tryz.prog 307 .flat [(.int .i64 x_1),(.int .i64 y_2)] (.int .i64 r):=by
 refine y8.of_awp mixed Tryz.func307 e3e nle ?_;rw [a0h];unfold cmp_Compare_int at hf;unfold e3d;refine (show awp Tryz.prog false 0 _ (ofL [(0,(.int .i64 x_1)),(1,(.int .i64 y_2))]) [] _ from ?_);refine sr<|l9 (.int .i64 0) rfl<|dk<|sr<|?_
 obtain ⟨r_3,er4,hf⟩:=ob hf
 refine l9 (.int .i64 x_1) rfl<|x8 (a0g (b5r _ _ er4) rfl (.refl _) rfl)<|l9 (.bool r_3) rfl<|dk<|sr<|?_
 obtain ⟨r_5,er6,hf⟩:=ob hf
 refine l9 (.int .i64 y_2) rfl<|x8 (a0g (b5r _ _ er6) rfl (.refl _) rfl)<|l9 (.bool r_5) rfl<|dk<|o6<|sr<|l9 (.bool r_3) rfl<|dk<|?_
 rcases oi hf with ⟨c7,hf⟩ | ⟨c7,hf⟩
 ·refine x9 rfl c7<|o6<|sr<|l9 (.bool r_5) rfl<|dk<|?_
  rcases oi hf with ⟨c8,hf⟩ | ⟨c8,hf⟩
  ·refine x9 rfl c8<|sr<|l9 (.int .i64 0) rfl<|dk<|a0a<|?_;obtain rfl:=os hf;exact a0d ⟨trivial,trivial⟩ rfl (.refl _)
  ·refine y5 rfl (bf c8)<|a0e<|a0f<|sr<|l9 (.int .i64 (-1)) rfl<|dk<|a0a<|?_;obtain rfl:=os hf;exact a0d ⟨trivial,trivial⟩ rfl (.refl _)
 ·refine y5 rfl (bf c7)<|a0e<|a0f<|o6<|sr<|l9 (.bool r_5) rfl<|dk<|?_
  rcases oi hf with ⟨c9,hf⟩ | ⟨c9,hf⟩
  ·refine x9 rfl c9<|sr<|l9 (.int .i64 1) rfl<|dk<|a0a<|?_;obtain rfl:=os hf;exact a0d ⟨trivial,trivial⟩ rfl (.refl _)
  ·refine y5 rfl (bf c9)<|a0e<|a0f<|o6<|sr<|l9 (.int .i64 x_1) rfl<|l9 (.int .i64 y_2) rfl<|o7 (.bool (decide (x_1 < y_2))) rfl rfl rfl<|dk<|?_
   rcases oi hf with ⟨c10,hf⟩ | ⟨c10,hf⟩
   ·refine x9 rfl c10<|sr<|l9 (.int .i64 (-1)) rfl<|dk<|a0a<|?_;obtain rfl:=os hf;exact a0d ⟨trivial,trivial⟩ rfl (.refl _)
   ·refine y5 rfl (bf c10)<|a0e<|a0f<|o6<|sr<|l9 (.int .i64 x_1) rfl<|l9 (.int .i64 y_2) rfl<|o7 (.bool (decide (x_1 > y_2))) rfl rfl rfl<|dk<|?_
    rcases oi hf with ⟨c11,hf⟩ | ⟨c11,hf⟩
    ·refine x9 rfl c11<|sr<|l9 (.int .i64 1) rfl<|dk<|a0a<|?_;obtain rfl:=os hf;exact a0d ⟨trivial,trivial⟩ rfl (.refl _)
    ·refine y5 rfl (bf c11)<|a0e<|a0f<|sr<|l9 (.int .i64 0) rfl<|dk<|a0a<|?_;obtain rfl:=os hf;exact a0d ⟨trivial,trivial⟩ rfl (.refl _)

/- internal/bytealg.CompareString -/
def a4k (a b:Str):Option Int:=some (Lib.compareBytes a b)
set_option maxRecDepth 100000 in
open Go.RowKit in
theorem d7i (a b:ByteArray) (w:World):Calls Tryz.prog 418 #[.string a,.string b] w fun e w' => e = .returned (.int .i64 (Lib.compareBytes a.data.toList b.data.toList)) ∧ w' = w:=by
  go_enter Tryz.func418,(show Tryz.f418.ntmps = _ from rfl)
  go_wp2
  rw [run_callFunc_extern Tryz.func440 (by kernel_rfl) (by kernel_rfl) (by kernel_rfl) (e:=Extern.BytealgCompare.compare) (by kernel_rfl),Lib.run_compareString]
  simp only [Result.andThen]
  rw [Oper.upon_value]
  go_wp2
  go_ret
  exact ⟨rfl,rfl⟩
open Go.RowKit in
theorem b1i (a b:Str) (r:Int) (hf:a4k a b = some r):y8 Tryz.prog 418 .flat [(.str a),(.str b)] (.int .i64 r):=by
  intro w vals fps hr
  simp only [a2d,Rep] at hr
  obtain ⟨v1,vs1,f1,f2,rfl,⟨rfl,h1,rfl⟩,⟨v2,vs2,f3,f4,rfl,⟨rfl,h2,rfl⟩,⟨rfl,rfl⟩,rfl⟩,rfl⟩:=hr
  unfold a4k at hf
  obtain rfl:=os hf
  refine (d7i ⟨a.toArray⟩ ⟨b.toArray⟩ w).mono ?_
  rintro e w' ⟨rfl,rfl⟩
  refine ⟨Below.refl _ _,?_⟩
  exact ⟨[.int .i64 (Lib.compareBytes a b)],rfl,by simp [Rep]⟩

/- strings.Compare -/
def e3f:a0n :=
 (.seq (.reg (tm 4 (.c (.int .i64 0)) .done))
 (.seq (.reg (tm 5 (.t 0) (tm 6 (.t 1) (tq 7 (.call 418 [(.t 5),(.t 6)]) (tm 4 (.t 7) .done)))))
 .ret))
theorem e3g:a1c Tryz.prog Tryz.f376 = some (e3f.erase,[.mov (.t 4)],8):=by kernel_rfl
def strings_Compare (a_1:Str) (b_2:Str):Option Int :=
    (a4k a_1 b_2).bind fun r_3 =>
    some r_3
theorem b9c (a_1:Str) (b_2:Str) (r:Int) (hf:strings_Compare a_1 b_2 = some r):y8 Tryz.prog 376 .flat [(.str a_1),(.str b_2)] (.int .i64 r):=by
  refine y8.of_awp mixed Tryz.func376 e3g nle ?_
  rw [a0h]
  unfold strings_Compare at hf
  unfold e3f
  refine (show awp Tryz.prog false 0 _ (ofL [(0,(.str a_1)),(1,(.str b_2))]) [] _ from ?_)
  refine o6 ?_
  refine a0k ?_
  refine x8 (a2r (.int .i64 0) rfl) ?_
  refine y7 ?_
  refine a0f ?_
  refine o6 ?_
  refine a0k ?_
  obtain ⟨r_3,er4,hf⟩:=ob hf
  refine x8 (a2r (.str a_1) rfl) ?_
  refine x8 (a2r (.str b_2) rfl) ?_
  refine x8 (a0g (b1i _ _ _ er4) rfl (.refl _) rfl) ?_
  refine x8 (a2r (.int .i64 r_3) rfl) ?_
  refine y7 ?_
  refine a0f ?_
  refine a0a ?_
  obtain rfl:=os hf
  exact a0d ⟨trivial,trivial⟩ rfl (.refl _)

/- cmp.Or[int] -/
def e3h:a0n :=
 (.seq (.reg (tm 2 (.c (.int .i64 0)) .done))
 (.seq (.reg (tm 3 (.c (.int .i64 0)) .done))
 (.seq (.seq (.reg (tm 6 (.t 0) (tq 7 (.len (.t 6)) (tm 8 (.c (.int .i64 0)) .done))))
 (.block 0 (.loop (.seq (.reg (tq 9 (.bin .lss (.t 8) (.t 7)) .done))
 (.seq (.cond (.t 9) .skip
 (.exit 0))
 (.seq (.block 1 (.seq (.reg (tq 10 (.iaddr 1 (.t 6) (.t 8)) (tq 11 (.load 1 false (.t 10)) (tm 5 (.t 11) .done))))
 (.seq (.reg (tm 12 (.t 5) (tm 13 (.t 3) (tq 14 (.bin .neq (.t 12) (.t 13)) .done))))
 (.cond (.t 14) (.seq (.reg (tm 15 (.t 5) (tm 2 (.t 15) .done)))
 .ret)
 .skip))))
 (.reg (tq 16 (.bin .add (.t 8) (.c (.int .i64 1))) (tm 8 (.t 16) .done)))))))))
 (.cut (.seq (.reg (tm 17 (.t 3) (tm 2 (.t 17) .done)))
 .ret)))))
theorem e3i:a1c Tryz.prog Tryz.f375 = some (e3h.erase,[.mov (.t 2)],18):=by kernel_rfl
def a4s :List Int → Option (Fl Int Unit)
  | [] =>
    some (.go ())
  | x_24 :: xs =>
    if (x_24 != 0) then
    some (.ret x_24)
    else
    a4s xs 

def b5g (vals_1:(List Int)):Option Int :=
    (a4s vals_1 ).bind fun q => (match q with
    | .ret r => some r
    | .go _ =>
    some 0)
theorem c8j (vals_1:(List Int)) (r:Int) (hf:b5g vals_1 = some r):y8 Tryz.prog 375 .flat [(.lst 1 (vals_1.map encI))] (.int .i64 r):=by
 refine y8.of_awp mixed Tryz.func375 e3i nle ?_;rw [a0h];unfold b5g at hf;unfold e3h;refine (show awp Tryz.prog false 0 _ (ofL [(0,(.lst 1 (vals_1.map encI)))]) [] _ from ?_);refine sr<|l9 (.int .i64 0) rfl<|dk<|sr<|l9 (.int .i64 0) rfl<|dk<|o6<|sr<|l9 (.lst 1 (vals_1.map encI)) rfl<|a1e (a1p (enc:=encI) rfl) fun hl2 => l9 (.int .i64 0) rfl<|dk<|?_
 obtain ⟨p17,hb1,hf⟩:=ob hf
 refine a2i (X:={q:Unit // p17 = .go q}) (fun q => ([(3,(.int .i64 0))],[])) ?_ ?_
 ·refine a1m (X:={q:Nat // a4s (vals_1.drop q)  = some p17}) (fun q => ([(3,(.int .i64 0)),(6,(.lst 1 (vals_1.map encI))),(7,(.int .i64 (vals_1.length:Int))),(8,(.int .i64 (q.1:Int)))],[])) (fun q => vals_1.length - q.1) ⟨0,hb1⟩ ⟨[],[],_,_,rfl,rfl,⟨.refl _,⟨.refl _,⟨.refl _,⟨.refl _,trivial⟩⟩⟩⟩,(.refl _)⟩ ?_
  rintro ⟨s8_12,hc1⟩
  have hc1:a4s (vals_1.drop s8_12)  = some p17:=hc1
  refine (show awp Tryz.prog false 0 _ (ofL [(3,(.int .i64 0)),(6,(.lst 1 (vals_1.map encI))),(7,(.int .i64 (vals_1.length:Int))),(8,(.int .i64 (s8_12:Int)))]) [] _ from ?_)
  rcases a5p vals_1 s8_12 with ⟨hie20,hd23⟩ | ⟨hlt18,x_24,hx19,hd23⟩
  ·rw [hd23,a4s.eq_1] at hc1
   have hq22:=dlf hie20
   refine sr<|o7 (.bool (decide ((s8_12:Int) < (vals_1.length:Int)))) rfl rfl rfl<|dk<|o6<|y5 rfl hq22<|a2u<|a2t<|a1x<|a2s<|?_;obtain rfl:=os hc1;exact a3h ⟨_,rfl⟩ ⟨[],[],_,_,rfl,rfl,⟨.refl _,trivial⟩,(.refl _)⟩
  ·rw [hd23,a4s.eq_2] at hc1
   have hq22:=dlt hlt18
   refine sr<|o7 (.bool (decide ((s8_12:Int) < (vals_1.length:Int)))) rfl rfl rfl<|dk<|o6<|x9 rfl hq22<|a0e<|a0f<|o6<|a3c<|sr<|x8 (a1r (enc:=encI) rfl rfl hx19)<|o7 (.int .i64 x_24) rfl ⟨rfl,rfl⟩ rfl<|l9 (.int .i64 x_24) rfl<|dk<|sr<|l9 (.int .i64 x_24) rfl<|l9 (.int .i64 0) rfl<|o7 (.bool (x_24 != 0)) rfl rfl rfl<|dk<|?_
   rcases oi hc1 with ⟨c25,hc1⟩ | ⟨c25,hc1⟩
   ·refine x9 rfl c25<|sr<|l9 (.int .i64 x_24) rfl<|l9 (.int .i64 x_24) rfl<|dk<|a0a<|?_;obtain rfl:=os hc1;obtain rfl:=os hf;exact a0d ⟨trivial,trivial⟩ rfl (.refl _)
   ·refine y5 rfl (bf c25)<|a0e<|a2c<|a0f<|a0k<|o7 (.int .i64 (w64 ((s8_12:Int) + 1))) rfl rfl rfl<|l9 (.int .i64 (w64 ((s8_12:Int) + 1))) rfl<|y7<|?_;exact a1t ⟨(s8_12 + 1),hc1⟩ (mul hlt18) ⟨[],[],_,_,rfl,rfl,⟨.refl _,⟨.refl _,⟨.refl _,⟨.of_eq (congrArg (AV.int _) (a1w hlt18 hl2)),trivial⟩⟩⟩⟩,(.refl _)⟩
 ·rintro ⟨_,rfl⟩
  refine sr<|l9 (.int .i64 0) rfl<|l9 (.int .i64 0) rfl<|dk<|a0a<|?_;obtain rfl:=os hf;exact a0d ⟨trivial,trivial⟩ rfl (.refl _)

/- impl.compareAtoms -/
def e3j:a0n :=
 (.seq (.reg (tq 2 (.box 3 (.t 0)) (tq 3 (.box 3 (.t 1)) (tm 4 (.c (.int .i64 0)) .done))))
 (.seq (.reg (tq 5 (.faddr 0 (.t 2)) (tq 6 (.load 1 false (.t 5)) (tq 7 (.faddr 0 (.t 3)) (tq 8 (.load 1 false (.t 7)) (tq 10 (.faddr 1 (.t 2)) (tq 11 (.load 1 false (.t 10)) (tq 12 (.faddr 1 (.t 3)) (tq 13 (.load 1 false (.t 12)) (tq 15 (.faddr 2 (.t 2)) (tq 16 (.load 1 false (.t 15)) (tq 17 (.faddr 2 (.t 3)) (tq 18 (.load 1 false (.t 17)) (.l ⟨(some 9),none,.call 307 [(.t 6),(.t 8)]⟩ [⟨(some 18),none,.load 1 false (.t 17)⟩,⟨(some 17),none,.faddr 2 (.t 3)⟩,⟨(some 16),none,.load 1 false (.t 15)⟩,⟨(some 15),none,.faddr 2 (.t 2)⟩,⟨(some 13),none,.load 1 false (.t 12)⟩,⟨(some 12),none,.faddr 1 (.t 3)⟩,⟨(some 11),none,.load 1 false (.t 10)⟩,⟨(some 10),none,.faddr 1 (.t 2)⟩]
 (.l ⟨(some 14),none,.call 307 [(.t 11),(.t 13)]⟩ [⟨(some 18),none,.load 1 false (.t 17)⟩,⟨(some 17),none,.faddr 2 (.t 3)⟩,⟨(some 16),none,.load 1 false (.t 15)⟩,⟨(some 15),none,.faddr 2 (.t 2)⟩]
 (.l ⟨(some 19),none,.call 376 [(.t 16),(.t 18)]⟩ []
 (.l ⟨(some 20),none,.bslice 1 [(.t 9),(.t 14),(.t 19)]⟩ []
 (.l ⟨(some 21),none,.call 375 [(.t 20)]⟩ []
 (tm 4 (.t 21) .done) .non) .non) .non) .non) .non))))))))))))))
 .ret))
theorem e3k:a1c Tryz.prog Tryz.f286 = some (e3j.erase,[.mov (.t 4)],22):=by kernel_rfl
def a5u (a_1:o8) (b_2:o8):Option Int :=
    (cmp_Compare_int a_1.Kind b_2.Kind).bind fun r_3 =>
    (cmp_Compare_int a_1.N b_2.N).bind fun r_5 =>
    (strings_Compare a_1.T b_2.T).bind fun r_7 =>
    (b5g [r_3,r_5,r_7]).bind fun r_9 =>
    some r_9
theorem b2y (a_1:o8) (b_2:o8) (r:Int) (hf:a5u a_1 b_2 = some r):y8 Tryz.prog 286 .flat [(l7 a_1),(l7 b_2)] (.int .i64 r):=by
 refine y8.of_awp mixed Tryz.func286 e3k nle ?_;rw [a0h];unfold a5u at hf;unfold e3j;refine (show awp Tryz.prog false 0 _ (ofL [(0,(l7 a_1)),(1,(l7 b_2))]) [] _ from ?_);refine sr<|x8 (a1o (j:=0) (c:=(.agg [(.int .i64 a_1.Kind),(.int .i64 a_1.N),(.str a_1.T)])) rfl trivial rfl rfl)<|x8 (a1o (j:=1) (c:=(.agg [(.int .i64 b_2.Kind),(.int .i64 b_2.N),(.str b_2.T)])) rfl trivial rfl rfl)<|l9 (.int .i64 0) rfl<|dk<|sr<|o7 (.ptr 0 0 0) rfl trivial rfl<|o7 (.int .i64 a_1.Kind) rfl nle rfl<|o7 (.ptr 1 0 0) rfl trivial rfl<|o7 (.int .i64 b_2.Kind) rfl nle rfl<|o7 (.ptr 0 0 1) rfl trivial rfl<|o7 (.int .i64 a_1.N) rfl nle rfl<|?_
 refine o7 (.ptr 1 0 1) rfl trivial rfl<|o7 (.int .i64 b_2.N) rfl nle rfl<|o7 (.ptr 0 0 2) rfl trivial rfl<|o7 (.str a_1.T) rfl nle rfl<|o7 (.ptr 1 0 2) rfl trivial rfl<|o7 (.str b_2.T) rfl nle rfl<|?_
 obtain ⟨r_3,er4,hf⟩:=ob hf
 refine a2j (a0g (b3z _ _ _ er4) rfl (.refl _) rfl) a6a trivial ?_
 obtain ⟨r_5,er6,hf⟩:=ob hf
 refine a2j (a0g (b3z _ _ _ er6) rfl (.refl _) rfl) a6a trivial ?_
 obtain ⟨r_7,er8,hf⟩:=ob hf
 refine a2j (a0g (b9c _ _ _ er8) rfl (.refl _) rfl) a6a trivial ?_;refine a2j (a1z (j:=2) (as':=[(.int .i64 r_3),(.int .i64 r_5),(.int .i64 r_7)]) rfl (fun _ => by decide) ⟨rfl,⟨rfl,⟨rfl,trivial⟩⟩⟩ (.refl _) rfl rfl rfl) trivial trivial ?_
 obtain ⟨r_9,er10,hf⟩:=ob hf
 refine a2j (a0g (c8j _ _ er10) rfl (.cons (.of_eq (congrArg (AV.lst _) (by rfl))) .nil) rfl) a6a trivial<|l9 (.int .i64 r_9) rfl<|dk<|a0a<|?_;obtain rfl:=os hf;exact a0d ⟨trivial,trivial⟩ rfl (.refl _)

/- impl.DatumOK -/
def c168:a0n :=
 (.seq (.reg (tm 2 (.c (.bool false)) .done))
 (.seq (.seq (.reg (tm 5 (.t 0) (tq 6 (.len (.t 5)) (tm 7 (.c (.int .i64 0)) .done))))
 (.block 0 (.loop (.seq (.reg (tq 8 (.bin .lss (.t 7) (.t 6)) .done))
 (.seq (.cond (.t 8) .skip
 (.exit 0))
 (.seq (.block 1 (.seq (.reg (tm 9 (.t 7) (tq 10 (.iaddr 3 (.t 5) (.t 7)) (tq 11 (.load 3 true (.t 10)) (tq 4 (.box 3 (.c (.agg [(.int .i64 0),(.int .i64 0),(.str [])]))) (tm 3 (.t 9) (.q ⟨none,none,.store 3 (.t 4) (.t 11)⟩
 .done)))))))
 (.seq (.reg (tq 12 (.load 3 true (.t 4)) (.l ⟨(some 13),none,.call 174 [(.t 12)]⟩ []
 (tq 14 (.not (.t 13)) (tm 15 (.t 14) (tg 16 15 false (.faddr 0 (.t 4)) (tg 17 15 false (.load 1 false (.t 16)) (tg 18 15 false (.mov (.t 0)) (tg 19 15 false (.iaddr 3 (.t 18) (.c (.int .i64 0))) (tg 20 15 false (.faddr 0 (.t 19)) (tg 21 15 false (.load 1 false (.t 20)) (tg 22 15 false (.bin .neq (.t 17) (.t 21)) (tq 23 (.pick (.t 15) (.c (.bool true)) (.t 22)) (tm 24 (.t 23) (tg 25 24 false (.mov (.t 3)) (tg 26 24 false (.bin .gtr (.t 25) (.c (.int .i64 0))) (tg 27 24 false (.mov (.t 26)) (tg 28 27 true (.mov (.t 0)) (tg 29 27 true (.mov (.t 3)) (tg 30 27 true (.bin .sub (.t 29) (.c (.int .i64 1))) (tg 31 27 true (.iaddr 3 (.t 28) (.t 30)) (tg 32 27 true (.load 3 true (.t 31)) (tg 33 27 true (.load 3 true (.t 4)) (.l ⟨(some 34),(some (27,true)),.call 286 [(.t 32),(.t 33)]⟩ []
 (tg 35 27 true (.bin .geq (.t 34) (.c (.int .i64 0))) (tg 36 24 false (.pick (.t 27) (.t 35) (.c (.bool false))) (tq 37 (.pick (.t 24) (.c (.bool true)) (.t 36)) .done))) .non))))))))))))))))))))) .non)))
 (.cut (.cond (.t 37) (.seq (.reg (tm 2 (.c (.bool false)) .done))
 .ret)
 .skip)))))
 (.reg (tq 38 (.bin .add (.t 7) (.c (.int .i64 1))) (tm 7 (.t 38) .done)))))))))
 (.cut (.seq (.reg (tm 39 (.t 0) (tq 40 (.len (.t 39)) (tq 41 (.bin .leq (.t 40) (.c (.int .i64 8))) (tm 2 (.t 41) .done)))))
 .ret))))
theorem e3l:a1c Tryz.prog Tryz.f168 = some (c168.erase,[.mov (.t 2)],42):=by kernel_rfl
def a4w (d_1:(List o8)):List o8 → Nat → Option (Fl Bool Unit)
  | [],s7_60 =>
    some (.go ())
  | x_96 :: xs,s7_60 =>
    (((b0t x_96).bind fun r_110 =>
    if (!r_110) then
    some true
    else
    (idx d_1 0).bind fun x_113 =>
    if (x_96.Kind != x_113.Kind) then
    some true
    else
    if (decide ((s7_60:Int) > 0)) then
    (idx d_1 (w64 ((s7_60:Int) - 1))).bind fun x_117 =>
    (a5u x_117 x_96).bind fun r_119 =>
    some (decide (r_119 ≥ 0))
    else
    some false:Option Bool)).bind fun s37_108 =>
    if s37_108 then
    some (.ret false)
    else
    a4w d_1 xs (s7_60 + 1)

def a9i (d_1:(List o8)):Option Bool :=
    (a4w d_1 d_1 0).bind fun q => (match q with
    | .ret r => some r
    | .go _ =>
    some (decide ((d_1.length:Int) ≤ 8)))
theorem b6f (d_1:(List o8)) (r:Bool) (hf:a9i d_1 = some r):y8 Tryz.prog 168 .flat [(.lst 3 (d_1.map l7))] (.bool r):=by
 refine y8.of_awp mixed Tryz.func168 e3l nle ?_;rw [a0h];unfold a9i at hf;unfold c168;refine (show awp Tryz.prog false 0 _ (ofL [(0,(.lst 3 (d_1.map l7)))]) [] _ from ?_);refine sr<|l9 (.bool false) rfl<|dk<|o6<|sr<|l9 (.lst 3 (d_1.map l7)) rfl<|a1e (a1p (enc:=l7) rfl) fun hl2 => l9 (.int .i64 0) rfl<|dk<|?_
 obtain ⟨p89,hb1,hf⟩:=ob hf
 refine a2i (X:={q:Unit // p89 = .go q}) (fun q => ([(0,(.lst 3 (d_1.map l7)))],[])) ?_ ?_
 ·refine a1m (X:={q:Nat // a4w d_1 (d_1.drop q) q = some p89}) (fun q => ([(0,(.lst 3 (d_1.map l7))),(5,(.lst 3 (d_1.map l7))),(6,(.int .i64 (d_1.length:Int))),(7,(.int .i64 (q.1:Int)))],[])) (fun q => d_1.length - q.1) ⟨0,hb1⟩ ⟨[],[],_,_,rfl,rfl,⟨.refl _,⟨.refl _,⟨.refl _,⟨.refl _,trivial⟩⟩⟩⟩,(.refl _)⟩ ?_
  rintro ⟨s7_60,hc1⟩
  have hc1:a4w d_1 (d_1.drop s7_60) s7_60 = some p89:=hc1
  refine (show awp Tryz.prog false 0 _ (ofL [(0,(.lst 3 (d_1.map l7))),(5,(.lst 3 (d_1.map l7))),(6,(.int .i64 (d_1.length:Int))),(7,(.int .i64 (s7_60:Int)))]) [] _ from ?_)
  rcases a5p d_1 s7_60 with ⟨hie92,hd95⟩ | ⟨hlt90,x_96,hx91,hd95⟩
  ·rw [hd95,a4w.eq_1] at hc1
   have hq94:=dlf hie92
   refine sr<|o7 (.bool (decide ((s7_60:Int) < (d_1.length:Int)))) rfl rfl rfl<|dk<|o6<|y5 rfl hq94<|a2u<|a2t<|a1x<|a2s<|?_;obtain rfl:=os hc1;exact a3h ⟨_,rfl⟩ ⟨[],[],_,_,rfl,rfl,⟨.refl _,trivial⟩,(.refl _)⟩
  ·rw [hd95,a4w.eq_2] at hc1
   have hq94:=dlt hlt90
   refine sr<|o7 (.bool (decide ((s7_60:Int) < (d_1.length:Int)))) rfl rfl rfl<|dk<|o6<|x9 rfl hq94<|a0e<|a0f<|o6<|a3c<|sr<|l9 (.int .i64 (s7_60:Int)) rfl<|x8 (a1r (enc:=l7) rfl rfl hx91)<|o7 (l7 x_96) rfl nle rfl<|x8 (a1o (j:=0) (c:=(.agg [(.int .i64 0),(.int .i64 0),(.str [])])) rfl trivial rfl rfl)<|l9 (.int .i64 (s7_60:Int)) rfl<|a3w (a0v (v:=(.agg [(.int .i64 x_96.Kind),(.int .i64 x_96.N),(.str x_96.T)])) (y':=(.agg [(.int .i64 x_96.Kind),(.int .i64 x_96.N),(.str x_96.T)])) rfl rfl rfl trivial ⟨rfl,nle⟩ ⟨⟨rfl,trivial⟩,⟨⟨rfl,trivial⟩,⟨⟨rfl,trivial⟩,trivial⟩⟩⟩ rfl)<|?_
   refine dk<|o6<|?_
   obtain ⟨s37_108,hb2,hc1⟩:=ob hc1
   refine a1k ([(0,(.lst 3 (d_1.map l7))),(5,(.lst 3 (d_1.map l7))),(6,(.int .i64 (d_1.length:Int))),(7,(.int .i64 (s7_60:Int))),(37,(.bool s37_108))],[]) ?_ ?_
   ·refine a0k<|o7 (.agg [(.int .i64 x_96.Kind),(.int .i64 x_96.N),(.str x_96.T)]) rfl nle rfl<|?_
    obtain ⟨r_110,er111,hb2⟩:=ob hb2
    refine a2j (a0g (c5p _ _ er111) rfl (.refl _) rfl) a6a trivial<|o7 (.bool (!r_110)) rfl trivial rfl<|l9 (.bool (!r_110)) rfl<|?_
    rcases oi hb2 with ⟨d4v,hb2⟩ | ⟨d4v,hb2⟩
    ·refine a0u (s:=15) (b:=true) rfl d4v<|o9 rfl rfl<|o9 rfl rfl<|o9 rfl rfl<|o9 rfl rfl<|o9 rfl rfl<|o9 rfl rfl<|o9 rfl rfl<|o7 (.bool true) rfl trivial rfl<|l9 (.bool true) rfl<|o9 rfl rfl<|o9 rfl rfl<|o9 rfl rfl<|a1y rfl<|a1y rfl<|a1y rfl<|a1y rfl<|a1y rfl<|a1y rfl<|c2j rfl trivial<|a1y rfl<|o9 rfl rfl<|o7 (.bool true) rfl trivial rfl<|y7<|?_;obtain rfl:=os hb2;exact ⟨[],[],_,_,rfl,rfl,⟨.refl _,⟨.refl _,⟨.refl _,⟨.refl _,⟨.refl _,trivial⟩⟩⟩⟩⟩,(.refl _)⟩
    ·refine a0u (s:=15) (b:=false) rfl (bf d4v)<|s_on rfl<|o7 (.ptr 0 0 0) rfl trivial rfl<|s_on rfl<|o7 (.int .i64 x_96.Kind) rfl nle rfl<|s_on rfl<|l9 (.lst 3 (d_1.map l7)) rfl<|s_on rfl<|?_
     obtain ⟨x_113,ex114,hb2⟩:=ob hb2
     refine x8 (a3l (enc:=l7) rfl rfl (a8m ex114) (a8n ex114))<|s_on rfl<|o7 (.iptr (l7 x_113) 0) rfl trivial rfl<|s_on rfl<|o7 (.int .i64 x_113.Kind) rfl nle rfl<|s_on rfl<|o7 (.bool (x_96.Kind != x_113.Kind)) rfl rfl rfl<|o7 (.bool (x_96.Kind != x_113.Kind)) rfl trivial rfl<|l9 (.bool (x_96.Kind != x_113.Kind)) rfl<|?_
     rcases oi hb2 with ⟨d4t,hb2⟩ | ⟨d4t,hb2⟩
     ·refine a0u (s:=24) (b:=true) rfl d4t<|o9 rfl rfl<|o9 rfl rfl<|o9 rfl rfl<|a1y rfl<|a1y rfl<|a1y rfl<|a1y rfl<|a1y rfl<|a1y rfl<|c2j rfl trivial<|a1y rfl<|o9 rfl rfl<|o7 (.bool true) rfl trivial rfl<|y7<|?_;obtain rfl:=os hb2;exact ⟨[],[],_,_,rfl,rfl,⟨.refl _,⟨.refl _,⟨.refl _,⟨.refl _,⟨.refl _,trivial⟩⟩⟩⟩⟩,(.refl _)⟩
     ·refine a0u (s:=24) (b:=false) rfl (bf d4t)<|s_on rfl<|l9 (.int .i64 (s7_60:Int)) rfl<|s_on rfl<|o7 (.bool (decide ((s7_60:Int) > 0))) rfl rfl rfl<|s_on rfl<|l9 (.bool (decide ((s7_60:Int) > 0))) rfl<|?_
      rcases oi hb2 with ⟨c116,hb2⟩ | ⟨c116,hb2⟩
      ·refine a0u (s:=27) (b:=true) rfl c116<|s_on rfl<|l9 (.lst 3 (d_1.map l7)) rfl<|s_on rfl<|l9 (.int .i64 (s7_60:Int)) rfl<|s_on rfl<|o7 (.int .i64 (w64 ((s7_60:Int) - 1))) rfl rfl rfl<|s_on rfl<|?_
       obtain ⟨x_117,ex118,hb2⟩:=ob hb2
       refine x8 (a3l (enc:=l7) rfl rfl (a8m ex118) (a8n ex118))<|s_on rfl<|o7 (l7 x_117) rfl nle rfl<|s_on rfl<|o7 (.agg [(.int .i64 x_96.Kind),(.int .i64 x_96.N),(.str x_96.T)]) rfl nle rfl<|b8x rfl<|?_
       obtain ⟨r_119,er120,hb2⟩:=ob hb2
       refine a2j (a0g (b2y _ _ _ er120) rfl (.refl _) rfl) a6a trivial<|s_on rfl<|o7 (.bool (decide (r_119 ≥ 0))) rfl rfl rfl<|s_on rfl<|o7 (.bool (decide (r_119 ≥ 0))) rfl trivial rfl<|o7 (.bool (decide (r_119 ≥ 0))) rfl trivial rfl<|y7<|?_;obtain rfl:=os hb2;exact ⟨[],[],_,_,rfl,rfl,⟨.refl _,⟨.refl _,⟨.refl _,⟨.refl _,⟨.refl _,trivial⟩⟩⟩⟩⟩,(.refl _)⟩
      ·refine a0u (s:=27) (b:=false) rfl (bf c116)<|o9 rfl rfl<|o9 rfl rfl<|o9 rfl rfl<|o9 rfl rfl<|o9 rfl rfl<|o9 rfl rfl<|b5e rfl rfl trivial<|o9 rfl rfl<|s_on rfl<|o7 (.bool false) rfl trivial rfl<|o7 (.bool false) rfl trivial rfl<|y7<|?_;obtain rfl:=os hb2;exact ⟨[],[],_,_,rfl,rfl,⟨.refl _,⟨.refl _,⟨.refl _,⟨.refl _,⟨.refl _,trivial⟩⟩⟩⟩⟩,(.refl _)⟩
   ·rcases oi hc1 with ⟨d4q,hc1⟩ | ⟨d4q,hc1⟩
    ·refine x9 rfl d4q<|sr<|l9 (.bool false) rfl<|dk<|a0a<|?_;obtain rfl:=os hc1;obtain rfl:=os hf;exact a0d ⟨trivial,trivial⟩ rfl (.refl _)
    ·refine y5 rfl (bf d4q)<|a0e<|a2c<|a0f<|a0k<|o7 (.int .i64 (w64 ((s7_60:Int) + 1))) rfl rfl rfl<|l9 (.int .i64 (w64 ((s7_60:Int) + 1))) rfl<|y7<|?_;exact a1t ⟨(s7_60 + 1),hc1⟩ (mul hlt90) ⟨[],[],_,_,rfl,rfl,⟨.refl _,⟨.refl _,⟨.refl _,⟨.of_eq (congrArg (AV.int _) (a1w hlt90 hl2)),trivial⟩⟩⟩⟩,(.refl _)⟩
 ·rintro ⟨_,rfl⟩
  refine sr<|l9 (.lst 3 (d_1.map l7)) rfl<|a1e (a1p (enc:=l7) rfl) fun hl122 => o7 (.bool (decide ((d_1.length:Int) ≤ 8))) rfl rfl rfl<|l9 (.bool (decide ((d_1.length:Int) ≤ 8))) rfl<|dk<|a0a<|?_;obtain rfl:=os hf;exact a0d ⟨trivial,trivial⟩ rfl (.refl _)

/- slices.IndexFunc[[]string,string] -/
def e3m:a0n :=
 (.seq (.reg (tm 4 (.c (.int .i64 0)) .done))
 (.seq (.seq (.reg (tm 6 (.t 0) (tq 7 (.len (.t 6)) (tm 8 (.c (.int .i64 0)) .done))))
 (.block 0 (.loop (.seq (.reg (tq 9 (.bin .lss (.t 8) (.t 7)) .done))
 (.seq (.cond (.t 9) .skip
 (.exit 0))
 (.seq (.block 1 (.seq (.reg (tm 10 (.t 8) (tm 5 (.t 10) .done)))
 (.seq (.reg (tm 11 (.t 1) (tm 12 (.t 0) (tm 13 (.t 5) (tq 14 (.iaddr 1 (.t 12) (.t 13)) (tq 15 (.load 1 false (.t 14)) (tq 16 (.calv (.t 11) [(.t 15)]) .done)))))))
 (.cond (.t 16) (.seq (.reg (tm 17 (.t 5) (tm 4 (.t 17) .done)))
 .ret)
 .skip))))
 (.reg (tq 18 (.bin .add (.t 8) (.c (.int .i64 1))) (tm 8 (.t 18) .done)))))))))
 (.cut (.seq (.reg (tq 4 (.mov (.c (.int .i64 (-1)))) .done))
 .ret))))
theorem e3n:a1c Tryz.prog Tryz.f247 = some (e3m.erase,[.mov (.t 4)],19):=by kernel_rfl
def a1l (f_2:(Str → Option Bool)):List Str → Nat → Option (Fl Int Unit)
  | [],s8_17 =>
    some (.go ())
  | x_31 :: xs,s8_17 =>
    (f_2 x_31).bind fun r_32 =>
    if r_32 then
    some (.ret (s8_17:Int))
    else
    a1l f_2 xs (s8_17 + 1)

def a3q (s_1:(List Str)) (f_2:(Str → Option Bool)):Option Int :=
    (a1l f_2 s_1 0).bind fun q => (match q with
    | .ret r => some r
    | .go _ =>
    some (-1))
theorem b1j (s_1:(List Str)) (f_2:(Str → Option Bool)) (r:Int) (hf:a3q s_1 f_2 = some r) (kf_f_2:Nat) (cf_f_2:List AV) (okf_f_2:c3o Tryz.prog kf_f_2 = true) (hcf_f_2:∀ h p,a3x h p cf_f_2 = some cf_f_2) (hrf_f_2:∀ f,a7n f cf_f_2 = cf_f_2) (hpf_f_2:∀ a0 r,f_2 a0 = some r → y8 Tryz.prog kf_f_2 .flat ([(.str a0)] ++ cf_f_2) (.bool r)):y8 Tryz.prog 247 .flat [(.lst 1 (s_1.map AV.str)),(.fn kf_f_2 cf_f_2)] (.int .i64 r):=by
 refine y8.of_awp mixed Tryz.func247 e3n nle ?_;rw [a0h];unfold a3q at hf;unfold e3m;refine (show awp Tryz.prog false 0 _ (ofL [(0,(.lst 1 (s_1.map AV.str))),(1,(.fn kf_f_2 cf_f_2))]) [] _ from ?_);refine sr<|l9 (.int .i64 0) rfl<|dk<|o6<|sr<|l9 (.lst 1 (s_1.map AV.str)) rfl<|a1e (a1p (enc:=AV.str) rfl) fun hl3 => l9 (.int .i64 0) rfl<|dk<|?_
 obtain ⟨p24,hb1,hf⟩:=ob hf
 refine a2i (X:={q:Unit // p24 = .go q}) (fun q => ([],[])) ?_ ?_
 ·refine a1m (X:={q:Nat // a1l f_2 (s_1.drop q) q = some p24}) (fun q => ([(0,(.lst 1 (s_1.map AV.str))),(1,(.fn kf_f_2 cf_f_2)),(7,(.int .i64 (s_1.length:Int))),(8,(.int .i64 (q.1:Int)))],[])) (fun q => s_1.length - q.1) ⟨0,hb1⟩ ⟨[],[],_,_,rfl,rfl,⟨.refl _,⟨.of_eq (congrArg (AV.fn _) (hrf_f_2 _)),⟨.refl _,⟨.refl _,trivial⟩⟩⟩⟩,(.refl _)⟩ ?_
  rintro ⟨s8_17,hc1⟩
  have hc1:a1l f_2 (s_1.drop s8_17) s8_17 = some p24:=hc1
  refine (show awp Tryz.prog false 0 _ (ofL [(0,(.lst 1 (s_1.map AV.str))),(1,(.fn kf_f_2 cf_f_2)),(7,(.int .i64 (s_1.length:Int))),(8,(.int .i64 (s8_17:Int)))]) [] _ from ?_)
  rcases a5p s_1 s8_17 with ⟨hie27,hd30⟩ | ⟨hlt25,x_31,hx26,hd30⟩
  ·rw [hd30,a1l.eq_1] at hc1
   have hq29:=dlf hie27
   refine sr<|o7 (.bool (decide ((s8_17:Int) < (s_1.length:Int)))) rfl rfl rfl<|dk<|o6<|y5 rfl hq29<|a2u<|a2t<|a1x<|a2s<|?_;obtain rfl:=os hc1;exact a3h ⟨_,rfl⟩ ⟨[],[],_,_,rfl,rfl,trivial,(.refl _)⟩
  ·rw [hd30,a1l.eq_2] at hc1
   have hq29:=dlt hlt25
   refine sr<|o7 (.bool (decide ((s8_17:Int) < (s_1.length:Int)))) rfl rfl rfl<|dk<|o6<|x9 rfl hq29<|a0e<|a0f<|o6<|a3c<|sr<|l9 (.int .i64 (s8_17:Int)) rfl<|l9 (.int .i64 (s8_17:Int)) rfl<|dk<|sr<|?_
   obtain ⟨r_32,er33,hc1⟩:=ob hc1
   refine l9 (.fn kf_f_2 cf_f_2) rfl<|l9 (.lst 1 (s_1.map AV.str)) rfl<|l9 (.int .i64 (s8_17:Int)) rfl<|x8 (a1r (enc:=AV.str) rfl rfl hx26)<|o7 (.str x_31) rfl ⟨rfl,rfl⟩ rfl<|x8 (c2k (v:=(.bool r_32)) rfl okf_f_2 hcf_f_2 (hpf_f_2 _ _ er33) rfl (.refl _) rfl)<|dk<|?_
   rcases oi hc1 with ⟨c34,hc1⟩ | ⟨c34,hc1⟩
   ·refine x9 rfl c34<|sr<|l9 (.int .i64 (s8_17:Int)) rfl<|l9 (.int .i64 (s8_17:Int)) rfl<|dk<|a0a<|?_;obtain rfl:=os hc1;obtain rfl:=os hf;exact a0d ⟨trivial,trivial⟩ rfl (.refl _)
   ·refine y5 rfl (bf c34)<|a0e<|a2c<|a0f<|a0k<|o7 (.int .i64 (w64 ((s8_17:Int) + 1))) rfl rfl rfl<|l9 (.int .i64 (w64 ((s8_17:Int) + 1))) rfl<|y7<|?_;exact a1t ⟨(s8_17 + 1),hc1⟩ (mul hlt25) ⟨[],[],_,_,rfl,rfl,⟨.refl _,⟨.of_eq (congrArg (AV.fn _) (hrf_f_2 _)),⟨.refl _,⟨.of_eq (congrArg (AV.int _) (a1w hlt25 hl3)),trivial⟩⟩⟩⟩,(.refl _)⟩
 ·rintro ⟨_,rfl⟩
  refine sr<|l9 (.int .i64 (-1)) rfl<|dk<|a0a<|?_;obtain rfl:=os hf;exact a0d ⟨trivial,trivial⟩ rfl (.refl _)

/- slices.ContainsFunc[[]string,string] -/
def d4t:a0n :=
 (.seq (.reg (tm 4 (.c (.bool false)) .done))
 (.seq (.reg (tm 5 (.t 0) (tm 6 (.t 1) (tq 7 (.call 247 [(.t 5),(.t 6)]) (tq 8 (.bin .geq (.t 7) (.c (.int .i64 0))) (tm 4 (.t 8) .done))))))
 .ret))
theorem e3o:a1c Tryz.prog Tryz.f115 = some (d4t.erase,[.mov (.t 4)],9):=by kernel_rfl
def a3e (s_1:(List Str)) (f_2:(Str → Option Bool)):Option Bool :=
    (a3q s_1 f_2).bind fun r_3 =>
    some (decide (r_3 ≥ 0))
theorem a9w (s_1:(List Str)) (f_2:(Str → Option Bool)) (r:Bool) (hf:a3e s_1 f_2 = some r) (kf_f_2:Nat) (cf_f_2:List AV) (okf_f_2:c3o Tryz.prog kf_f_2 = true) (hcf_f_2:∀ h p,a3x h p cf_f_2 = some cf_f_2) (hrf_f_2:∀ f,a7n f cf_f_2 = cf_f_2) (hpf_f_2:∀ a0 r,f_2 a0 = some r → y8 Tryz.prog kf_f_2 .flat ([(.str a0)] ++ cf_f_2) (.bool r)):y8 Tryz.prog 115 .flat [(.lst 1 (s_1.map AV.str)),(.fn kf_f_2 cf_f_2)] (.bool r):=by
  refine y8.of_awp mixed Tryz.func115 e3o nle ?_
  rw [a0h]
  unfold a3e at hf
  unfold d4t
  refine (show awp Tryz.prog false 0 _ (ofL [(0,(.lst 1 (s_1.map AV.str))),(1,(.fn kf_f_2 cf_f_2))]) [] _ from ?_)
  refine o6 ?_
  refine a0k ?_
  refine x8 (a2r (.bool false) rfl) ?_
  refine y7 ?_
  refine a0f ?_
  refine o6 ?_
  refine a0k ?_
  obtain ⟨r_3,er4,hf⟩:=ob hf
  refine x8 (a2r (.lst 1 (s_1.map AV.str)) rfl) ?_
  refine x8 (a2r (.fn kf_f_2 cf_f_2) rfl) ?_
  refine x8 (a0g (b1j _ _ _ er4 kf_f_2 cf_f_2 okf_f_2 hcf_f_2 hrf_f_2 hpf_f_2) (b4o rfl (b4o (d1y hcf_f_2) rfl)) (.refl _) rfl) ?_
  refine x8 (o_q (.bool (decide (r_3 ≥ 0))) rfl rfl rfl) ?_
  refine x8 (a2r (.bool (decide (r_3 ≥ 0))) rfl) ?_
  refine y7 ?_
  refine a0f ?_
  refine a0a ?_
  obtain rfl:=os hf
  exact a0d ⟨trivial,trivial⟩ rfl (.refl _)

/- impl.areShort$1 -/
def e3p:a0n :=
 (.seq (.reg (tm 2 (.c (.bool false)) .done))
 (.seq (.reg (tm 3 (.t 0) (tq 4 (.lenS (.t 3)) (tq 5 (.bin .gtr (.t 4) (.c (.int .i64 40))) (tm 2 (.t 5) .done)))))
 .ret))
theorem e3q:a1c Tryz.prog Tryz.f238 = some (e3p.erase,[.mov (.t 2)],6):=by kernel_rfl
def b0h (t_1:Str):Option Bool :=
    some (decide ((t_1.length:Int) > 40))
theorem b9d (t_1:Str) (r:Bool) (hf:b0h t_1 = some r):y8 Tryz.prog 238 .flat [(.str t_1)] (.bool r):=by
  refine y8.of_awp mixed Tryz.func238 e3q nle ?_
  rw [a0h]
  unfold b0h at hf
  unfold e3p
  refine (show awp Tryz.prog false 0 _ (ofL [(0,(.str t_1))]) [] _ from ?_)
  refine o6 ?_
  refine a0k ?_
  refine x8 (a2r (.bool false) rfl) ?_
  refine y7 ?_
  refine a0f ?_
  refine o6 ?_
  refine a0k ?_
  refine x8 (a2r (.str t_1) rfl) ?_
  refine a1e (b3o rfl) fun hl2 => ?_
  refine x8 (o_q (.bool (decide ((t_1.length:Int) > 40))) rfl rfl rfl) ?_
  refine x8 (a2r (.bool (decide ((t_1.length:Int) > 40))) rfl) ?_
  refine y7 ?_
  refine a0f ?_
  refine a0a ?_
  obtain rfl:=os hf
  exact a0d ⟨trivial,trivial⟩ rfl (.refl _)

/- impl.areShort -/
def d4u:a0n :=
 (.seq (.reg (tm 2 (.c (.bool false)) .done))
 (.seq (.reg (tm 3 (.t 0) (tq 4 (.call 115 [(.t 3),(.c (.fn 238 []))]) (tq 5 (.not (.t 4)) (tm 2 (.t 5) .done)))))
 .ret))
theorem e3r:a1c Tryz.prog Tryz.f110 = some (d4u.erase,[.mov (.t 2)],6):=by kernel_rfl
def a9x (list_1:(List Str)):Option Bool :=
    (a3e list_1 b0h).bind fun r_2 =>
    some (!r_2)
theorem c1t (list_1:(List Str)) (r:Bool) (hf:a9x list_1 = some r):y8 Tryz.prog 110 .flat [(.lst 1 (list_1.map AV.str))] (.bool r):=by
  refine y8.of_awp mixed Tryz.func110 e3r nle ?_
  rw [a0h]
  unfold a9x at hf
  unfold d4u
  refine (show awp Tryz.prog false 0 _ (ofL [(0,(.lst 1 (list_1.map AV.str)))]) [] _ from ?_)
  refine o6 ?_
  refine a0k ?_
  refine x8 (a2r (.bool false) rfl) ?_
  refine y7 ?_
  refine a0f ?_
  refine o6 ?_
  refine a0k ?_
  obtain ⟨r_2,er3,hf⟩:=ob hf
  refine x8 (a2r (.lst 1 (list_1.map AV.str)) rfl) ?_
  refine x8 (a0g (a9w _ _ _ er3 238 [] (by kernel_rfl) (fun _ _ => rfl) (fun _ => rfl) (fun a0 r h => b9d a0 r h)) rfl (.refl _) rfl) ?_
  refine x8 (o_q (.bool (!r_2)) rfl trivial rfl) ?_
  refine x8 (a2r (.bool (!r_2)) rfl) ?_
  refine y7 ?_
  refine a0f ?_
  refine a0a ?_
  obtain rfl:=os hf
  exact a0d ⟨trivial,trivial⟩ rfl (.refl _)

/- impl.mutOK -/
def e3s:a0n :=
 (.seq (.reg (tq 1 (.box 3 (.t 0)) (tm 2 (.c (.bool false)) .done)))
 (.seq (.reg (tq 3 (.faddr 1 (.t 1)) (tq 4 (.load 1 false (.t 3)) (tq 5 (.call 114 [(.t 4),(.c (.int .i64 1)),(.c (.int .i64 7))]) (tm 6 (.t 5) (tg 7 6 true (.faddr 2 (.t 1)) (tg 8 6 true (.load 1 false (.t 7)) (tg 9 6 true (.call 168 [(.t 8)]) (tq 10 (.pick (.t 6) (.t 9) (.c (.bool false))) (tm 11 (.t 10) (tg 12 11 true (.faddr 0 (.t 1)) (tg 13 11 true (.load 1 false (.t 12)) (tg 14 11 true (.bslice 1 [(.t 13)]) (tg 15 11 true (.call 110 [(.t 14)]) (tq 16 (.pick (.t 11) (.t 15) (.c (.bool false))) (tm 2 (.t 16) .done))))))))))))))))
 .ret))
theorem e3t:a1c Tryz.prog Tryz.f135 = some (e3s.erase,[.mov (.t 2)],17):=by kernel_rfl
def b1w (m_1:a2w):Option Bool :=
    (a3v m_1.Func 1 7).bind fun r_2 =>
    if r_2 then
    (a9i m_1.Value).bind fun r_5 =>
    if r_5 then
    (a9x [m_1.Column]).bind fun r_8 =>
    some r_8
    else
    some false
    else
    some false
theorem b9e (m_1:a2w) (r:Bool) (hf:b1w m_1 = some r):y8 Tryz.prog 135 .flat [(a0c m_1)] (.bool r):=by
 refine y8.of_awp mixed Tryz.func135 e3t nle ?_;rw [a0h];unfold b1w at hf;unfold e3s;refine (show awp Tryz.prog false 0 _ (ofL [(0,(a0c m_1))]) [] _ from ?_);refine sr<|x8 (a1o (j:=0) (c:=(.agg [(.str m_1.Column),(.int .i64 m_1.Func),(.lst 3 (m_1.Value.map l7))])) rfl trivial rfl rfl)<|l9 (.bool false) rfl<|dk<|sr<|o7 (.ptr 0 0 1) rfl trivial rfl<|o7 (.int .i64 m_1.Func) rfl nle rfl<|?_
 obtain ⟨r_2,er3,hf⟩:=ob hf
 refine x8 (a0g (a3y _ _ _ _ er3) rfl (.refl _) rfl)<|l9 (.bool r_2) rfl<|?_
 rcases oi hf with ⟨c4,hf⟩ | ⟨c4,hf⟩
 ·refine a0u (s:=6) (b:=true) rfl c4<|s_on rfl<|o7 (.ptr 0 0 2) rfl trivial rfl<|s_on rfl<|o7 (.lst 3 (m_1.Value.map l7)) rfl nle rfl<|s_on rfl<|?_
  obtain ⟨r_5,er6,hf⟩:=ob hf
  refine x8 (a0g (b6f _ _ er6) rfl (.refl _) rfl)<|o7 (.bool r_5) rfl trivial rfl<|l9 (.bool r_5) rfl<|?_
  rcases oi hf with ⟨c7,hf⟩ | ⟨c7,hf⟩
  ·refine a0u (s:=11) (b:=true) rfl c7<|s_on rfl<|o7 (.ptr 0 0 0) rfl trivial rfl<|s_on rfl<|o7 (.str m_1.Column) rfl nle rfl<|s_on rfl<|?_;refine x8 (a1z (j:=1) (as':=[(.str m_1.Column)]) rfl (fun _ => by decide) ⟨rfl,trivial⟩ (.refl _) rfl rfl rfl) ?_;refine s_on rfl ?_
   obtain ⟨r_8,er9,hf⟩:=ob hf
   refine x8 (a0g (c1t _ _ er9) rfl (.cons (.of_eq (congrArg (AV.lst _) (by rfl))) .nil) rfl)<|o7 (.bool r_8) rfl trivial rfl<|l9 (.bool r_8) rfl<|dk<|a0a<|?_;obtain rfl:=os hf;exact a0d ⟨trivial,trivial⟩ rfl (.refl _)
  ·refine a0u (s:=11) (b:=false) rfl (bf c7)<|o9 rfl rfl<|o9 rfl rfl<|o9 rfl rfl<|o9 rfl rfl<|o7 (.bool false) rfl trivial rfl<|l9 (.bool false) rfl<|dk<|a0a<|?_;obtain rfl:=os hf;exact a0d ⟨trivial,trivial⟩ rfl (.refl _)
 ·refine a0u (s:=6) (b:=false) rfl (bf c4)<|o9 rfl rfl<|o9 rfl rfl<|o9 rfl rfl<|o7 (.bool false) rfl trivial rfl<|l9 (.bool false) rfl<|o9 rfl rfl<|o9 rfl rfl<|o9 rfl rfl<|o9 rfl rfl<|o7 (.bool false) rfl trivial rfl<|l9 (.bool false) rfl<|dk<|a0a<|?_;obtain rfl:=os hf;exact a0d ⟨trivial,trivial⟩ rfl (.refl _)

/- impl.mutsOK$1 -/
def e3u:a0n :=
 (.seq (.reg (tq 1 (.box 3 (.t 0)) (tm 2 (.c (.bool false)) .done)))
 (.seq (.reg (tq 3 (.load 3 true (.t 1)) (tq 4 (.call 135 [(.t 3)]) (tq 5 (.not (.t 4)) (tm 2 (.t 5) .done)))))
 .ret))
theorem e3v:a1c Tryz.prog Tryz.f243 = some (e3u.erase,[.mov (.t 2)],6):=by kernel_rfl
def b2f (m_1:a2w):Option Bool :=
    (b1w m_1).bind fun r_2 =>
    some (!r_2)
theorem c1u (m_1:a2w) (r:Bool) (hf:b2f m_1 = some r):y8 Tryz.prog 243 .flat [(a0c m_1)] (.bool r):=by
  refine y8.of_awp mixed Tryz.func243 e3v nle ?_
  rw [a0h]
  unfold b2f at hf
  unfold e3u
  refine (show awp Tryz.prog false 0 _ (ofL [(0,(a0c m_1))]) [] _ from ?_)
  refine o6 ?_
  refine a0k ?_
  refine x8 (a1o (j:=0) (c:=(.agg [(.str m_1.Column),(.int .i64 m_1.Func),(.lst 3 (m_1.Value.map l7))])) rfl trivial rfl rfl) ?_
  refine x8 (a2r (.bool false) rfl) ?_
  refine y7 ?_
  refine a0f ?_
  refine o6 ?_
  refine a0k ?_
  obtain ⟨r_2,er3,hf⟩:=ob hf
  refine x8 (o_q (.agg [(.str m_1.Column),(.int .i64 m_1.Func),(.lst 3 (m_1.Value.map l7))]) rfl nle rfl) ?_
  refine x8 (a0g (b9e _ _ er3) rfl (.refl _) rfl) ?_
  refine x8 (o_q (.bool (!r_2)) rfl trivial rfl) ?_
  refine x8 (a2r (.bool (!r_2)) rfl) ?_
  refine y7 ?_
  refine a0f ?_
  refine a0a ?_
  obtain rfl:=os hf
  exact a0d ⟨trivial,trivial⟩ rfl (.refl _)

/- impl.mutsOK -/
def d4v:a0n :=
 (.seq (.reg (tm 2 (.c (.bool false)) .done))
 (.seq (.reg (tm 3 (.t 0) (tq 4 (.len (.t 3)) (tq 5 (.bin .leq (.t 4) (.c (.int .i64 8))) (tm 6 (.t 5) (tg 7 6 true (.mov (.t 0)) (tg 8 6 true (.call 242 [(.t 7),(.c (.fn 243 []))]) (tg 9 6 true (.not (.t 8)) (tq 10 (.pick (.t 6) (.t 9) (.c (.bool false))) (tm 2 (.t 10) .done))))))))))
 .ret))
theorem e3w:a1c Tryz.prog Tryz.f112 = some (d4v.erase,[.mov (.t 2)],11):=by kernel_rfl
def b0u (list_1:(List a2w)):Option Bool :=
    if (decide ((list_1.length:Int) ≤ 8)) then
    (a2o list_1 b2f).bind fun r_4 =>
    some (!r_4)
    else
    some false
theorem b7l (list_1:(List a2w)) (r:Bool) (hf:b0u list_1 = some r):y8 Tryz.prog 112 .flat [(.lst 3 (list_1.map a0c))] (.bool r):=by
 refine y8.of_awp mixed Tryz.func112 e3w nle ?_;rw [a0h];unfold b0u at hf;unfold d4v;refine (show awp Tryz.prog false 0 _ (ofL [(0,(.lst 3 (list_1.map a0c)))]) [] _ from ?_);refine sr<|l9 (.bool false) rfl<|dk<|sr<|?_
 rcases oi hf with ⟨c3,hf⟩ | ⟨c3,hf⟩
 ·obtain ⟨r_4,er5,hf⟩:=ob hf
  refine l9 (.lst 3 (list_1.map a0c)) rfl<|a1e (a1p (enc:=a0c) rfl) fun hl2 => o7 (.bool (decide ((list_1.length:Int) ≤ 8))) rfl rfl rfl<|l9 (.bool (decide ((list_1.length:Int) ≤ 8))) rfl<|a0u (s:=6) (b:=true) rfl c3<|s_on rfl<|l9 (.lst 3 (list_1.map a0c)) rfl<|s_on rfl<|?_;refine x8 (a0g (a8o _ _ _ er5 243 [] (by kernel_rfl) (fun _ _ => rfl) (fun _ => rfl) (fun a0 r h => c1u a0 r h)) rfl (.refl _) rfl) ?_;refine s_on rfl<|o7 (.bool (!r_4)) rfl trivial rfl<|o7 (.bool (!r_4)) rfl trivial rfl<|l9 (.bool (!r_4)) rfl<|dk<|a0a<|?_;obtain rfl:=os hf;exact a0d ⟨trivial,trivial⟩ rfl (.refl _)
 ·refine l9 (.lst 3 (list_1.map a0c)) rfl<|a1e (a1p (enc:=a0c) rfl) fun hl2 => o7 (.bool (decide ((list_1.length:Int) ≤ 8))) rfl rfl rfl<|l9 (.bool (decide ((list_1.length:Int) ≤ 8))) rfl<|a0u (s:=6) (b:=false) rfl (bf c3)<|o9 rfl rfl<|o9 rfl rfl<|o9 rfl rfl<|o7 (.bool false) rfl trivial rfl<|l9 (.bool false) rfl<|dk<|a0a<|?_;obtain rfl:=os hf;exact a0d ⟨trivial,trivial⟩ rfl (.refl _)

/- slices.IndexFunc[[]impl.Column,impl.Column] -/
def d4w:a0n :=
 (.seq (.reg (tm 4 (.c (.int .i64 0)) .done))
 (.seq (.seq (.reg (tm 6 (.t 0) (tq 7 (.len (.t 6)) (tm 8 (.c (.int .i64 0)) .done))))
 (.block 0 (.loop (.seq (.reg (tq 9 (.bin .lss (.t 8) (.t 7)) .done))
 (.seq (.cond (.t 9) .skip
 (.exit 0))
 (.seq (.block 1 (.seq (.reg (tm 10 (.t 8) (tm 5 (.t 10) .done)))
 (.seq (.reg (tm 11 (.t 1) (tm 12 (.t 0) (tm 13 (.t 5) (tq 14 (.iaddr 8 (.t 12) (.t 13)) (tq 15 (.load 8 true (.t 14)) (tq 16 (.calv (.t 11) [(.t 15)]) .done)))))))
 (.cond (.t 16) (.seq (.reg (tm 17 (.t 5) (tm 4 (.t 17) .done)))
 .ret)
 .skip))))
 (.reg (tq 18 (.bin .add (.t 8) (.c (.int .i64 1))) (tm 8 (.t 18) .done)))))))))
 (.cut (.seq (.reg (tq 4 (.mov (.c (.int .i64 (-1)))) .done))
 .ret))))
theorem e3x:a1c Tryz.prog Tryz.f338 = some (d4w.erase,[.mov (.t 4)],19):=by kernel_rfl
def a0y (f_2:(a0m → Option Bool)):List a0m → Nat → Option (Fl Int Unit)
  | [],s8_17 =>
    some (.go ())
  | x_31 :: xs,s8_17 =>
    (f_2 x_31).bind fun r_32 =>
    if r_32 then
    some (.ret (s8_17:Int))
    else
    a0y f_2 xs (s8_17 + 1)

def a2e (s_1:(List a0m)) (f_2:(a0m → Option Bool)):Option Int :=
    (a0y f_2 s_1 0).bind fun q => (match q with
    | .ret r => some r
    | .go _ =>
    some (-1))
theorem a7v (s_1:(List a0m)) (f_2:(a0m → Option Bool)) (r:Int) (hf:a2e s_1 f_2 = some r) (kf_f_2:Nat) (cf_f_2:List AV) (okf_f_2:c3o Tryz.prog kf_f_2 = true) (hcf_f_2:∀ h p,a3x h p cf_f_2 = some cf_f_2) (hrf_f_2:∀ f,a7n f cf_f_2 = cf_f_2) (hpf_f_2:∀ a0 r,f_2 a0 = some r → y8 Tryz.prog kf_f_2 .flat ([(o5 a0)] ++ cf_f_2) (.bool r)):y8 Tryz.prog 338 .flat [(.lst 8 (s_1.map o5)),(.fn kf_f_2 cf_f_2)] (.int .i64 r):=by
 refine y8.of_awp mixed Tryz.func338 e3x nle ?_;rw [a0h];unfold a2e at hf;unfold d4w;refine (show awp Tryz.prog false 0 _ (ofL [(0,(.lst 8 (s_1.map o5))),(1,(.fn kf_f_2 cf_f_2))]) [] _ from ?_);refine sr<|l9 (.int .i64 0) rfl<|dk<|o6<|sr<|l9 (.lst 8 (s_1.map o5)) rfl<|a1e (a1p (enc:=o5) rfl) fun hl3 => l9 (.int .i64 0) rfl<|dk<|?_
 obtain ⟨p24,hb1,hf⟩:=ob hf
 refine a2i (X:={q:Unit // p24 = .go q}) (fun q => ([],[])) ?_ ?_
 ·refine a1m (X:={q:Nat // a0y f_2 (s_1.drop q) q = some p24}) (fun q => ([(0,(.lst 8 (s_1.map o5))),(1,(.fn kf_f_2 cf_f_2)),(7,(.int .i64 (s_1.length:Int))),(8,(.int .i64 (q.1:Int)))],[])) (fun q => s_1.length - q.1) ⟨0,hb1⟩ ⟨[],[],_,_,rfl,rfl,⟨.refl _,⟨.of_eq (congrArg (AV.fn _) (hrf_f_2 _)),⟨.refl _,⟨.refl _,trivial⟩⟩⟩⟩,(.refl _)⟩ ?_
  rintro ⟨s8_17,hc1⟩
  have hc1:a0y f_2 (s_1.drop s8_17) s8_17 = some p24:=hc1
  refine (show awp Tryz.prog false 0 _ (ofL [(0,(.lst 8 (s_1.map o5))),(1,(.fn kf_f_2 cf_f_2)),(7,(.int .i64 (s_1.length:Int))),(8,(.int .i64 (s8_17:Int)))]) [] _ from ?_)
  rcases a5p s_1 s8_17 with ⟨hie27,hd30⟩ | ⟨hlt25,x_31,hx26,hd30⟩
  ·rw [hd30,a0y.eq_1] at hc1
   have hq29:=dlf hie27
   refine sr<|o7 (.bool (decide ((s8_17:Int) < (s_1.length:Int)))) rfl rfl rfl<|dk<|o6<|y5 rfl hq29<|a2u<|a2t<|a1x<|a2s<|?_;obtain rfl:=os hc1;exact a3h ⟨_,rfl⟩ ⟨[],[],_,_,rfl,rfl,trivial,(.refl _)⟩
  ·rw [hd30,a0y.eq_2] at hc1
   have hq29:=dlt hlt25
   refine sr<|o7 (.bool (decide ((s8_17:Int) < (s_1.length:Int)))) rfl rfl rfl<|dk<|o6<|x9 rfl hq29<|a0e<|a0f<|o6<|a3c<|sr<|l9 (.int .i64 (s8_17:Int)) rfl<|l9 (.int .i64 (s8_17:Int)) rfl<|dk<|sr<|?_
   obtain ⟨r_32,er33,hc1⟩:=ob hc1
   refine l9 (.fn kf_f_2 cf_f_2) rfl<|l9 (.lst 8 (s_1.map o5)) rfl<|l9 (.int .i64 (s8_17:Int)) rfl<|x8 (a1r (enc:=o5) rfl rfl hx26)<|o7 (o5 x_31) rfl nle rfl<|x8 (c2k (v:=(.bool r_32)) rfl okf_f_2 hcf_f_2 (hpf_f_2 _ _ er33) rfl (.refl _) rfl)<|dk<|?_
   rcases oi hc1 with ⟨c34,hc1⟩ | ⟨c34,hc1⟩
   ·refine x9 rfl c34<|sr<|l9 (.int .i64 (s8_17:Int)) rfl<|l9 (.int .i64 (s8_17:Int)) rfl<|dk<|a0a<|?_;obtain rfl:=os hc1;obtain rfl:=os hf;exact a0d ⟨trivial,trivial⟩ rfl (.refl _)
   ·refine y5 rfl (bf c34)<|a0e<|a2c<|a0f<|a0k<|o7 (.int .i64 (w64 ((s8_17:Int) + 1))) rfl rfl rfl<|l9 (.int .i64 (w64 ((s8_17:Int) + 1))) rfl<|y7<|?_;exact a1t ⟨(s8_17 + 1),hc1⟩ (mul hlt25) ⟨[],[],_,_,rfl,rfl,⟨.refl _,⟨.of_eq (congrArg (AV.fn _) (hrf_f_2 _)),⟨.refl _,⟨.of_eq (congrArg (AV.int _) (a1w hlt25 hl3)),trivial⟩⟩⟩⟩,(.refl _)⟩
 ·rintro ⟨_,rfl⟩
  refine sr<|l9 (.int .i64 (-1)) rfl<|dk<|a0a<|?_;obtain rfl:=os hf;exact a0d ⟨trivial,trivial⟩ rfl (.refl _)

/- (impl.Table).columnAt$1 -/
def e3y:a0n :=
 (.seq (.reg (tq 2 (.box 8 (.t 0)) (tm 3 (.c (.bool false)) .done)))
 (.seq (.reg (tq 4 (.faddr 0 (.t 2)) (tq 5 (.load 1 false (.t 4)) (tq 6 (.load 1 false (.t 1)) (tq 7 (.bin .eql (.t 5) (.t 6)) (tm 3 (.t 7) .done))))))
 .ret))
theorem e3z:a1c Tryz.prog Tryz.f351 = some (e3y.erase,[.mov (.t 3)],8):=by kernel_rfl
def a6y (c_1:a0m) (cap_2:Str):Option Bool :=
    some (c_1.Name == cap_2)
theorem b4p (c_1:a0m) (cap_2:Str) (r:Bool) (hf:a6y c_1 cap_2 = some r):y8 Tryz.prog 351 .flat [(o5 c_1),(.iptr (.str cap_2) 0)] (.bool r):=by
  refine y8.of_awp mixed Tryz.func351 e3z nle ?_
  rw [a0h]
  unfold a6y at hf
  unfold e3y
  refine (show awp Tryz.prog false 0 _ (ofL [(0,(o5 c_1)),(1,(.iptr (.str cap_2) 0))]) [] _ from ?_)
  refine o6 ?_
  refine a0k ?_
  refine x8 (a1o (j:=0) (c:=(.agg [(.str c_1.Name),(.int .i64 c_1.Kind),(.int .i64 c_1.Min),(.int .i64 c_1.Max),(.int .i64 c_1.Low),(.int .i64 c_1.High),(.str c_1.Ref),(.bool c_1.Strong)])) rfl trivial rfl rfl) ?_
  refine x8 (a2r (.bool false) rfl) ?_
  refine y7 ?_
  refine a0f ?_
  refine o6 ?_
  refine a0k ?_
  refine x8 (o_q (.ptr 0 0 0) rfl trivial rfl) ?_
  refine x8 (o_q (.str c_1.Name) rfl nle rfl) ?_
  refine x8 (o_q (.str cap_2) rfl ⟨rfl,rfl⟩ rfl) ?_
  refine x8 (o_q (.bool (c_1.Name == cap_2)) rfl trivial rfl) ?_
  refine x8 (a2r (.bool (c_1.Name == cap_2)) rfl) ?_
  refine y7 ?_
  refine a0f ?_
  refine a0a ?_
  obtain rfl:=os hf
  exact a0d ⟨trivial,trivial⟩ rfl (.refl _)

/- (impl.Table).columnAt -/
def e4a:a0n :=
 (.seq (.reg (tq 2 (.box 4 (.t 0)) (tq 3 (.box 1 (.t 1)) (tm 4 (.c (.int .i64 0)) .done))))
 (.seq (.reg (tq 5 (.faddr 1 (.t 2)) (tq 6 (.load 1 false (.t 5)) (tq 7 (.mkfn 351 [(.t 3)]) (tq 8 (.call 338 [(.t 6),(.t 7)]) (tm 4 (.t 8) .done))))))
 .ret))
theorem e4c:a1c Tryz.prog Tryz.f254 = some (e4a.erase,[.mov (.t 4)],9):=by kernel_rfl
def a4b (t_1:a0w) (name_2:Str):Option Int :=
    (a2e t_1.Columns (fun a0 => a6y a0 name_2)).bind fun r_3 =>
    some r_3
theorem a8g (t_1:a0w) (name_2:Str) (r:Int) (hf:a4b t_1 name_2 = some r):y8 Tryz.prog 254 .flat [(a1b t_1),(.str name_2)] (.int .i64 r):=by
  refine y8.of_awp mixed Tryz.func254 e4c nle ?_
  rw [a0h]
  unfold a4b at hf
  unfold e4a
  refine (show awp Tryz.prog false 0 _ (ofL [(0,(a1b t_1)),(1,(.str name_2))]) [] _ from ?_)
  refine o6 ?_
  refine a0k ?_
  refine x8 (a1o (j:=0) (c:=(.agg [(.str t_1.Name),(.lst 8 (t_1.Columns.map o5)),(.lst 1 (t_1.Unique.map encI)),(.bool t_1.Root)])) rfl trivial rfl rfl) ?_
  refine x8 (a1o (j:=1) (c:=(.str name_2)) rfl trivial rfl rfl) ?_
  refine x8 (a2r (.int .i64 0) rfl) ?_
  refine y7 ?_
  refine a0f ?_
  refine o6 ?_
  refine a0k ?_
  obtain ⟨r_3,er4,hf⟩:=ob hf
  refine x8 (o_q (.ptr 0 0 1) rfl trivial rfl) ?_
  refine x8 (o_q (.lst 8 (t_1.Columns.map o5)) rfl nle rfl) ?_
  refine x8 (o_q (.fn 351 [(.ptr 1 0 0)]) rfl trivial rfl) ?_
  refine x8 (a0g (a7v _ _ _ er4 351 [(.iptr (.str name_2) 0)] (by kernel_rfl) (fun _ _ => rfl) (fun _ => rfl) (fun a0 r h => b4p a0 name_2 r h)) rfl (.refl _) rfl) ?_
  refine x8 (a2r (.int .i64 r_3) rfl) ?_
  refine y7 ?_
  refine a0f ?_
  refine a0a ?_
  obtain rfl:=os hf
  exact a0d ⟨trivial,trivial⟩ rfl (.refl _)

/- impl.isTable -/
def e4d:a0n :=
 (.seq (.reg (tq 1 (.box 4 (.t 0)) (tm 2 (.c (.bool false)) .done)))
 (.seq (.seq (.reg (tq 7 (.faddr 0 (.t 1)) (tq 8 (.load 1 false (.t 7)) (tq 9 (.call 117 [(.t 8)]) (tq 10 (.not (.t 9)) (tm 11 (.t 10) (tg 12 11 false (.faddr 1 (.t 1)) (tg 13 11 false (.load 1 false (.t 12)) (tg 14 11 false (.len (.t 13)) (tg 15 11 false (.call 114 [(.t 14),(.c (.int .i64 1)),(.c (.int .i64 6))]) (tg 16 11 false (.not (.t 15)) (tq 17 (.pick (.t 11) (.c (.bool true)) (.t 16)) (tm 18 (.t 17) (tg 19 18 false (.faddr 2 (.t 1)) (tg 20 18 false (.load 1 false (.t 19)) (tg 21 18 false (.len (.t 20)) (tg 22 18 false (.faddr 1 (.t 1)) (tg 23 18 false (.load 1 false (.t 22)) (tg 24 18 false (.len (.t 23)) (tg 25 18 false (.bin .gtr (.t 21) (.t 24)) (tq 26 (.pick (.t 18) (.c (.bool true)) (.t 25)) .done)))))))))))))))))))))
 (.cut (.cond (.t 26) (.seq (.reg (tm 2 (.c (.bool false)) .done))
 .ret)
 .skip)))
 (.seq (.seq (.reg (tq 27 (.faddr 1 (.t 1)) (tq 28 (.load 1 false (.t 27)) (tq 29 (.len (.t 28)) (tm 30 (.c (.int .i64 0)) .done)))))
 (.block 0 (.loop (.seq (.reg (tq 31 (.bin .lss (.t 30) (.t 29)) .done))
 (.seq (.cond (.t 31) .skip
 (.exit 0))
 (.seq (.block 1 (.seq (.reg (tm 32 (.t 30) (tq 33 (.iaddr 8 (.t 28) (.t 30)) (tq 34 (.load 8 true (.t 33)) (tq 4 (.box 8 (.c (.agg [(.str []),(.int .i64 0),(.int .i64 0),(.int .i64 0),(.int .i64 0),(.int .i64 0),(.str []),(.bool false)]))) (tm 3 (.t 32) (.q ⟨none,none,.store 8 (.t 4) (.t 34)⟩
 .done)))))))
 (.seq (.reg (tq 35 (.load 8 true (.t 4)) (tq 36 (.call 121 [(.t 35)]) (tq 37 (.not (.t 36)) (tm 38 (.t 37) (tg 39 38 false (.load 4 true (.t 1)) (tg 40 38 false (.faddr 0 (.t 4)) (tg 41 38 false (.load 1 false (.t 40)) (tg 42 38 false (.call 254 [(.t 39),(.t 41)]) (tg 43 38 false (.mov (.t 3)) (tg 44 38 false (.bin .neq (.t 42) (.t 43)) (tq 45 (.pick (.t 38) (.c (.bool true)) (.t 44)) .done))))))))))))
 (.cut (.cond (.t 45) (.seq (.reg (tm 2 (.c (.bool false)) .done))
 .ret)
 .skip)))))
 (.reg (tq 46 (.bin .add (.t 30) (.c (.int .i64 1))) (tm 30 (.t 46) .done)))))))))
 (.cut (.seq (.seq (.reg (tq 47 (.faddr 2 (.t 1)) (tq 48 (.load 1 false (.t 47)) (tq 49 (.len (.t 48)) (tm 50 (.c (.int .i64 0)) .done)))))
 (.block 2 (.loop (.seq (.reg (tq 51 (.bin .lss (.t 50) (.t 49)) .done))
 (.seq (.cond (.t 51) .skip
 (.exit 2))
 (.seq (.block 3 (.seq (.reg (tm 52 (.t 50) (tq 53 (.iaddr 1 (.t 48) (.t 50)) (tq 54 (.load 1 false (.t 53)) (tm 5 (.t 52) (tm 6 (.t 54) .done))))))
 (.seq (.reg (tm 55 (.t 6) (tq 56 (.faddr 1 (.t 1)) (tq 57 (.load 1 false (.t 56)) (tq 58 (.len (.t 57)) (tq 59 (.bin .sub (.t 58) (.c (.int .i64 1))) (tq 60 (.call 114 [(.t 55),(.c (.int .i64 0)),(.t 59)]) (tq 61 (.not (.t 60)) (tm 62 (.t 61) (tg 63 62 false (.mov (.t 5)) (tg 64 62 false (.bin .gtr (.t 63) (.c (.int .i64 0))) (tg 65 62 false (.mov (.t 64)) (tg 66 65 true (.faddr 2 (.t 1)) (tg 67 65 true (.load 1 false (.t 66)) (tg 68 65 true (.mov (.t 5)) (tg 69 65 true (.bin .sub (.t 68) (.c (.int .i64 1))) (tg 70 65 true (.iaddr 1 (.t 67) (.t 69)) (tg 71 65 true (.load 1 false (.t 70)) (tg 72 65 true (.mov (.t 6)) (tg 73 65 true (.bin .geq (.t 71) (.t 72)) (tg 74 62 false (.pick (.t 65) (.t 73) (.c (.bool false))) (tq 75 (.pick (.t 62) (.c (.bool true)) (.t 74)) .done))))))))))))))))))))))
 (.cut (.cond (.t 75) (.seq (.reg (tm 2 (.c (.bool false)) .done))
 .ret)
 .skip)))))
 (.reg (tq 76 (.bin .add (.t 50) (.c (.int .i64 1))) (tm 50 (.t 76) .done)))))))))
 (.cut (.seq (.reg (tm 2 (.c (.bool true)) .done))
 .ret)))))))
theorem e4e:a1c Tryz.prog Tryz.f132 = some (e4d.erase,[.mov (.t 2)],77):=by kernel_rfl
def a4x (t_1:a0w):List a0m → Nat → Option (Fl Bool Unit)
  | [],s30_57 =>
    some (.go ())
  | x_81 :: xs,s30_57 =>
    (((a8e x_81).bind fun r_89 =>
    if (!r_89) then
    some true
    else
    (a4b t_1 x_81.Name).bind fun r_92 =>
    some (r_92 != (s30_57:Int)):Option Bool)).bind fun s45_87 =>
    if s45_87 then
    some (.ret false)
    else
    a4x t_1 xs (s30_57 + 1)

def a4y (t_1:a0w):List Int → Nat → Option (Fl Bool Unit)
  | [],s50_137 =>
    some (.go ())
  | x_165 :: xs,s50_137 =>
    (((a3v x_165 0 (w64 ((t_1.Columns.length:Int) - 1))).bind fun r_176 =>
    if (!r_176) then
    some true
    else
    if (decide ((s50_137:Int) > 0)) then
    (idx t_1.Unique (w64 ((s50_137:Int) - 1))).bind fun x_180 =>
    some (decide (x_180 ≥ x_165))
    else
    some false:Option Bool)).bind fun s75_173 =>
    if s75_173 then
    some (.ret false)
    else
    a4y t_1 xs (s50_137 + 1)

def a9j (t_1:a0w):Option Bool :=
    (((a8t t_1.Name).bind fun r_13 =>
    if (!r_13) then
    some true
    else
    (a3v (t_1.Columns.length:Int) 1 6).bind fun r_18 =>
    some (bif (!r_18) then true else (decide ((t_1.Unique.length:Int) > (t_1.Columns.length:Int)))):Option Bool)).bind fun s26_11 =>
    if s26_11 then
    some false
    else
    (a4x t_1 t_1.Columns 0).bind fun q => (match q with
    | .ret r => some r
    | .go _ =>
    (a4y t_1 t_1.Unique 0).bind fun q => (match q with
    | .ret r => some r
    | .go _ =>
    some true))
theorem b3r (t_1:a0w) (r:Bool) (hf:a9j t_1 = some r):y8 Tryz.prog 132 .flat [(a1b t_1)] (.bool r):=by
 refine y8.of_awp mixed Tryz.func132 e4e nle ?_;rw [a0h];unfold a9j at hf;unfold e4d;refine (show awp Tryz.prog false 0 _ (ofL [(0,(a1b t_1))]) [] _ from ?_);refine sr<|x8 (a1o (j:=0) (c:=(.agg [(.str t_1.Name),(.lst 8 (t_1.Columns.map o5)),(.lst 1 (t_1.Unique.map encI)),(.bool t_1.Root)])) rfl trivial rfl rfl)<|l9 (.bool false) rfl<|dk<|o6<|o6<|?_
 obtain ⟨s26_11,hb1,hf⟩:=ob hf
 refine a1k ([(1,(.ptr 0 0 0)),(26,(.bool s26_11))],[.box 4 (.agg [(.str t_1.Name),(.lst 8 (t_1.Columns.map o5)),(.lst 1 (t_1.Unique.map encI)),(.bool t_1.Root)])]) ?_ ?_
 ·refine a0k<|o7 (.ptr 0 0 0) rfl trivial rfl<|o7 (.str t_1.Name) rfl nle rfl<|?_
  obtain ⟨r_13,er14,hb1⟩:=ob hb1
  refine x8 (a0g (b4j _ _ er14) rfl (.refl _) rfl)<|o7 (.bool (!r_13)) rfl trivial rfl<|l9 (.bool (!r_13)) rfl<|?_
  rcases oi hb1 with ⟨c16,hb1⟩ | ⟨c16,hb1⟩
  ·refine a0u (s:=11) (b:=true) rfl c16<|o9 rfl rfl<|o9 rfl rfl<|o9 rfl rfl<|o9 rfl rfl<|o9 rfl rfl<|o7 (.bool true) rfl trivial rfl<|l9 (.bool true) rfl<|o9 rfl rfl<|o9 rfl rfl<|o9 rfl rfl<|o9 rfl rfl<|o9 rfl rfl<|o9 rfl rfl<|o9 rfl rfl<|o7 (.bool true) rfl trivial rfl<|y7<|?_;obtain rfl:=os hb1;exact ⟨[],[0],_,_,rfl,rfl,⟨.refl _,⟨.refl _,trivial⟩⟩,(.refl _)⟩
  ·refine a0u (s:=11) (b:=false) rfl (bf c16)<|s_on rfl<|o7 (.ptr 0 0 1) rfl trivial rfl<|s_on rfl<|o7 (.lst 8 (t_1.Columns.map o5)) rfl nle rfl<|s_on rfl<|a1e (a1p (enc:=o5) rfl) fun hl17 => s_on rfl<|?_
   obtain ⟨r_18,er19,hb1⟩:=ob hb1
   refine x8 (a0g (a3y _ _ _ _ er19) rfl (.refl _) rfl)<|s_on rfl<|o7 (.bool (!r_18)) rfl trivial rfl<|o7 (.bool (!r_18)) rfl trivial rfl<|l9 (.bool (!r_18)) rfl<|?_;refine s_g (v:=(!r_18)) (.ptr 0 0 2) rfl (fun hv => by (try simp only [a0i hv]);exact ⟨rfl,trivial,rfl⟩) ?_;refine s_g (v:=(!r_18)) (.lst 1 (t_1.Unique.map encI)) rfl (fun hv => by (try simp only [a0i hv]);exact ⟨rfl,nle,rfl⟩) ?_;refine s_g (v:=(!r_18)) (.int .i64 (t_1.Unique.length:Int)) rfl (fun hv => by (try simp only [a0i hv]);exact ⟨rfl,trivial,lenV _ _⟩) ?_;refine s_g (v:=(!r_18)) (.ptr 0 0 1) rfl (fun hv => by (try simp only [a0i hv]);exact ⟨rfl,trivial,rfl⟩) ?_;refine s_g (v:=(!r_18)) (.lst 8 (t_1.Columns.map o5)) rfl (fun hv => by (try simp only [a0i hv]);exact ⟨rfl,nle,rfl⟩) ?_
   refine s_g (v:=(!r_18)) (.int .i64 (t_1.Columns.length:Int)) rfl (fun hv => by (try simp only [a0i hv]);exact ⟨rfl,trivial,lenV _ _⟩) ?_;refine s_g (v:=(!r_18)) (.bool (decide ((t_1.Unique.length:Int) > (t_1.Columns.length:Int)))) rfl (fun hv => by (try simp only [a0i hv]);exact ⟨rfl,rfl,rfl⟩) ?_;refine a6l (x:=true) (y:=(decide ((t_1.Unique.length:Int) > (t_1.Columns.length:Int)))) rfl (fun hv => by (try simp only [a0i hv]);rfl) (fun hv => by (try simp only [a0i hv]);rfl) ?_;refine y7 ?_;obtain rfl:=os hb1;exact ⟨[],[0],_,_,rfl,rfl,⟨.refl _,⟨.refl _,trivial⟩⟩,(.refl _)⟩
 ·rcases oi hf with ⟨c22,hf⟩ | ⟨c22,hf⟩
  ·refine x9 rfl c22<|sr<|l9 (.bool false) rfl<|dk<|a0a<|?_;obtain rfl:=os hf;exact a0d ⟨trivial,trivial⟩ rfl (.refl _)
  ·refine y5 rfl (bf c22)<|a0e<|a0f<|o6<|sr<|o7 (.ptr 0 0 1) rfl trivial rfl<|o7 (.lst 8 (t_1.Columns.map o5)) rfl nle rfl<|a1e (a1p (enc:=o5) rfl) fun hl23 => l9 (.int .i64 0) rfl<|dk<|?_
   obtain ⟨p74,hb1,hf⟩:=ob hf
   refine a2i (X:={q:Unit // p74 = .go q}) (fun q => ([(1,(.ptr 0 0 0))],[.box 4 (.agg [(.str t_1.Name),(.lst 8 (t_1.Columns.map o5)),(.lst 1 (t_1.Unique.map encI)),(.bool t_1.Root)])])) ?_ ?_
   ·refine a1m (X:={q:Nat // a4x t_1 (t_1.Columns.drop q) q = some p74}) (fun q => ([(1,(.ptr 0 0 0)),(28,(.lst 8 (t_1.Columns.map o5))),(29,(.int .i64 (t_1.Columns.length:Int))),(30,(.int .i64 (q.1:Int)))],[.box 4 (.agg [(.str t_1.Name),(.lst 8 (t_1.Columns.map o5)),(.lst 1 (t_1.Unique.map encI)),(.bool t_1.Root)])])) (fun q => t_1.Columns.length - q.1) ⟨0,hb1⟩ ⟨[],[0],_,_,rfl,rfl,⟨.refl _,⟨.refl _,⟨.refl _,⟨.refl _,trivial⟩⟩⟩⟩,(.refl _)⟩ ?_
    rintro ⟨s30_57,hc1⟩
    have hc1:a4x t_1 (t_1.Columns.drop s30_57) s30_57 = some p74:=hc1
    refine (show awp Tryz.prog false 0 _ (ofL [(1,(.ptr 0 0 0)),(28,(.lst 8 (t_1.Columns.map o5))),(29,(.int .i64 (t_1.Columns.length:Int))),(30,(.int .i64 (s30_57:Int)))]) [.box 4 (.agg [(.str t_1.Name),(.lst 8 (t_1.Columns.map o5)),(.lst 1 (t_1.Unique.map encI)),(.bool t_1.Root)])] _ from ?_)
    rcases a5p t_1.Columns s30_57 with ⟨hie77,hd80⟩ | ⟨hlt75,x_81,hx76,hd80⟩
    ·rw [hd80,a4x.eq_1] at hc1
     have hq79:=dlf hie77
     refine sr<|o7 (.bool (decide ((s30_57:Int) < (t_1.Columns.length:Int)))) rfl rfl rfl<|dk<|o6<|y5 rfl hq79<|a2u<|a2t<|a1x<|a2s<|?_;obtain rfl:=os hc1;exact a3h ⟨_,rfl⟩ ⟨[],[0],_,_,rfl,rfl,⟨.refl _,trivial⟩,(.refl _)⟩
    ·rw [hd80,a4x.eq_2] at hc1
     have hq79:=dlt hlt75
     refine sr<|o7 (.bool (decide ((s30_57:Int) < (t_1.Columns.length:Int)))) rfl rfl rfl<|dk<|o6<|x9 rfl hq79<|a0e<|a0f<|o6<|a3c<|sr<|l9 (.int .i64 (s30_57:Int)) rfl<|x8 (a1r (enc:=o5) rfl rfl hx76)<|o7 (o5 x_81) rfl nle rfl<|x8 (a1o (j:=1) (c:=(.agg [(.str []),(.int .i64 0),(.int .i64 0),(.int .i64 0),(.int .i64 0),(.int .i64 0),(.str []),(.bool false)])) rfl trivial rfl rfl)<|l9 (.int .i64 (s30_57:Int)) rfl<|a3w (a0v (v:=(.agg [(.str x_81.Name),(.int .i64 x_81.Kind),(.int .i64 x_81.Min),(.int .i64 x_81.Max),(.int .i64 x_81.Low),(.int .i64 x_81.High),(.str x_81.Ref),(.bool x_81.Strong)])) (y':=(.agg [(.str x_81.Name),(.int .i64 x_81.Kind),(.int .i64 x_81.Min),(.int .i64 x_81.Max),(.int .i64 x_81.Low),(.int .i64 x_81.High),(.str x_81.Ref),(.bool x_81.Strong)])) rfl rfl rfl trivial ⟨rfl,nle⟩ ⟨⟨rfl,trivial⟩,⟨⟨rfl,trivial⟩,⟨⟨rfl,trivial⟩,⟨⟨rfl,trivial⟩,⟨⟨rfl,trivial⟩,⟨⟨rfl,trivial⟩,⟨⟨rfl,trivial⟩,⟨⟨rfl,trivial⟩,trivial⟩⟩⟩⟩⟩⟩⟩⟩ rfl)<|?_
     refine dk<|o6<|?_
     obtain ⟨s45_87,hb2,hc1⟩:=ob hc1
     refine a1k ([(1,(.ptr 0 0 0)),(28,(.lst 8 (t_1.Columns.map o5))),(29,(.int .i64 (t_1.Columns.length:Int))),(30,(.int .i64 (s30_57:Int))),(45,(.bool s45_87))],[.box 4 (.agg [(.str t_1.Name),(.lst 8 (t_1.Columns.map o5)),(.lst 1 (t_1.Unique.map encI)),(.bool t_1.Root)])]) ?_ ?_
     ·refine a0k ?_
      obtain ⟨r_89,er90,hb2⟩:=ob hb2
      rcases oi hb2 with ⟨c91,hb2⟩ | ⟨c91,hb2⟩
      ·refine o7 (.agg [(.str x_81.Name),(.int .i64 x_81.Kind),(.int .i64 x_81.Min),(.int .i64 x_81.Max),(.int .i64 x_81.Low),(.int .i64 x_81.High),(.str x_81.Ref),(.bool x_81.Strong)]) rfl nle rfl<|x8 (a0g (b2t _ _ er90) rfl (.refl _) rfl)<|o7 (.bool (!r_89)) rfl trivial rfl<|l9 (.bool (!r_89)) rfl<|a0u (s:=38) (b:=true) rfl c91<|o9 rfl rfl<|o9 rfl rfl<|o9 rfl rfl<|o9 rfl rfl<|o9 rfl rfl<|o9 rfl rfl<|o7 (.bool true) rfl trivial rfl<|y7<|?_;obtain rfl:=os hb2;exact ⟨[],[0],_,_,rfl,rfl,⟨.refl _,⟨.refl _,⟨.refl _,⟨.refl _,⟨.refl _,trivial⟩⟩⟩⟩⟩,(.refl _)⟩
      ·obtain ⟨r_92,er93,hb2⟩:=ob hb2
       refine o7 (.agg [(.str x_81.Name),(.int .i64 x_81.Kind),(.int .i64 x_81.Min),(.int .i64 x_81.Max),(.int .i64 x_81.Low),(.int .i64 x_81.High),(.str x_81.Ref),(.bool x_81.Strong)]) rfl nle rfl<|x8 (a0g (b2t _ _ er90) rfl (.refl _) rfl)<|o7 (.bool (!r_89)) rfl trivial rfl<|l9 (.bool (!r_89)) rfl<|a0u (s:=38) (b:=false) rfl (bf c91)<|s_on rfl<|o7 (.agg [(.str t_1.Name),(.lst 8 (t_1.Columns.map o5)),(.lst 1 (t_1.Unique.map encI)),(.bool t_1.Root)]) rfl nle rfl<|s_on rfl<|o7 (.ptr 1 0 0) rfl trivial rfl<|s_on rfl<|o7 (.str x_81.Name) rfl nle rfl<|s_on rfl<|x8 (a0g (a8g _ _ _ er93) rfl (.refl _) rfl)<|s_on rfl<|?_
       refine l9 (.int .i64 (s30_57:Int)) rfl<|s_on rfl<|o7 (.bool (r_92 != (s30_57:Int))) rfl rfl rfl<|o7 (.bool (r_92 != (s30_57:Int))) rfl trivial rfl<|y7<|?_;obtain rfl:=os hb2;exact ⟨[],[0],_,_,rfl,rfl,⟨.refl _,⟨.refl _,⟨.refl _,⟨.refl _,⟨.refl _,trivial⟩⟩⟩⟩⟩,(.refl _)⟩
     ·rcases oi hc1 with ⟨c94,hc1⟩ | ⟨c94,hc1⟩
      ·refine x9 rfl c94<|sr<|l9 (.bool false) rfl<|dk<|a0a<|?_;obtain rfl:=os hc1;obtain rfl:=os hf;exact a0d ⟨trivial,trivial⟩ rfl (.refl _)
      ·refine y5 rfl (bf c94)<|a0e<|a2c<|a0f<|a0k<|o7 (.int .i64 (w64 ((s30_57:Int) + 1))) rfl rfl rfl<|l9 (.int .i64 (w64 ((s30_57:Int) + 1))) rfl<|y7<|?_;exact a1t ⟨(s30_57 + 1),hc1⟩ (mul hlt75) ⟨[],[0],_,_,rfl,rfl,⟨.refl _,⟨.refl _,⟨.refl _,⟨.of_eq (congrArg (AV.int _) (a1w hlt75 hl23)),trivial⟩⟩⟩⟩,(.refl _)⟩
   ·rintro ⟨_,rfl⟩
    refine o6<|sr<|o7 (.ptr 0 0 2) rfl trivial rfl<|o7 (.lst 1 (t_1.Unique.map encI)) rfl nle rfl<|a1e (a1p (enc:=encI) rfl) fun hl95 => l9 (.int .i64 0) rfl<|dk<|?_
    obtain ⟨p158,hb1,hf⟩:=ob hf
    refine a2i (X:={q:Unit // p158 = .go q}) (fun q => ([],[])) ?_ ?_
    ·refine a1m (X:={q:Nat // a4y t_1 (t_1.Unique.drop q) q = some p158}) (fun q => ([(1,(.ptr 0 0 0)),(48,(.lst 1 (t_1.Unique.map encI))),(49,(.int .i64 (t_1.Unique.length:Int))),(50,(.int .i64 (q.1:Int)))],[.box 4 (.agg [(.str t_1.Name),(.lst 8 (t_1.Columns.map o5)),(.lst 1 (t_1.Unique.map encI)),(.bool t_1.Root)])])) (fun q => t_1.Unique.length - q.1) ⟨0,hb1⟩ ⟨[],[0],_,_,rfl,rfl,⟨.refl _,⟨.refl _,⟨.refl _,⟨.refl _,trivial⟩⟩⟩⟩,(.refl _)⟩ ?_
     rintro ⟨s50_137,hc1⟩
     have hc1:a4y t_1 (t_1.Unique.drop s50_137) s50_137 = some p158:=hc1
     refine (show awp Tryz.prog false 0 _ (ofL [(1,(.ptr 0 0 0)),(48,(.lst 1 (t_1.Unique.map encI))),(49,(.int .i64 (t_1.Unique.length:Int))),(50,(.int .i64 (s50_137:Int)))]) [.box 4 (.agg [(.str t_1.Name),(.lst 8 (t_1.Columns.map o5)),(.lst 1 (t_1.Unique.map encI)),(.bool t_1.Root)])] _ from ?_)
     rcases a5p t_1.Unique s50_137 with ⟨hie161,hd164⟩ | ⟨hlt159,x_165,hx160,hd164⟩
     ·rw [hd164,a4y.eq_1] at hc1
      have hq163:=dlf hie161
      refine sr<|o7 (.bool (decide ((s50_137:Int) < (t_1.Unique.length:Int)))) rfl rfl rfl<|dk<|o6<|y5 rfl hq163<|a2u<|a2t<|a1x<|a2s<|?_;obtain rfl:=os hc1;exact a3h ⟨_,rfl⟩ ⟨[],[],_,_,rfl,rfl,trivial,(.refl _)⟩
     ·rw [hd164,a4y.eq_2] at hc1
      have hq163:=dlt hlt159
      refine sr<|o7 (.bool (decide ((s50_137:Int) < (t_1.Unique.length:Int)))) rfl rfl rfl<|dk<|o6<|x9 rfl hq163<|a0e<|a0f<|o6<|a3c<|sr<|l9 (.int .i64 (s50_137:Int)) rfl<|x8 (a1r (enc:=encI) rfl rfl hx160)<|o7 (.int .i64 x_165) rfl ⟨rfl,rfl⟩ rfl<|l9 (.int .i64 (s50_137:Int)) rfl<|l9 (.int .i64 x_165) rfl<|dk<|o6<|?_
      obtain ⟨s75_173,hb2,hc1⟩:=ob hc1
      refine a1k ([(1,(.ptr 0 0 0)),(48,(.lst 1 (t_1.Unique.map encI))),(49,(.int .i64 (t_1.Unique.length:Int))),(50,(.int .i64 (s50_137:Int))),(75,(.bool s75_173))],[.box 4 (.agg [(.str t_1.Name),(.lst 8 (t_1.Columns.map o5)),(.lst 1 (t_1.Unique.map encI)),(.bool t_1.Root)])]) ?_ ?_
      ·refine a0k<|l9 (.int .i64 x_165) rfl<|o7 (.ptr 0 0 1) rfl trivial rfl<|o7 (.lst 8 (t_1.Columns.map o5)) rfl nle rfl<|a1e (a1p (enc:=o5) rfl) fun hl175 => o7 (.int .i64 (w64 ((t_1.Columns.length:Int) - 1))) rfl rfl rfl<|?_
       obtain ⟨r_176,er177,hb2⟩:=ob hb2
       refine x8 (a0g (a3y _ _ _ _ er177) rfl (.refl _) rfl)<|o7 (.bool (!r_176)) rfl trivial rfl<|l9 (.bool (!r_176)) rfl<|?_
       rcases oi hb2 with ⟨c178,hb2⟩ | ⟨c178,hb2⟩
       ·refine a0u (s:=62) (b:=true) rfl c178<|o9 rfl rfl<|o9 rfl rfl<|o9 rfl rfl<|a1y rfl<|a1y rfl<|a1y rfl<|a1y rfl<|a1y rfl<|a1y rfl<|a1y rfl<|a1y rfl<|o9 rfl rfl<|o7 (.bool true) rfl trivial rfl<|y7<|?_;obtain rfl:=os hb2;exact ⟨[],[0],_,_,rfl,rfl,⟨.refl _,⟨.refl _,⟨.refl _,⟨.refl _,⟨.refl _,trivial⟩⟩⟩⟩⟩,(.refl _)⟩
       ·refine a0u (s:=62) (b:=false) rfl (bf c178)<|s_on rfl<|l9 (.int .i64 (s50_137:Int)) rfl<|s_on rfl<|o7 (.bool (decide ((s50_137:Int) > 0))) rfl rfl rfl<|s_on rfl<|l9 (.bool (decide ((s50_137:Int) > 0))) rfl<|?_
        rcases oi hb2 with ⟨c179,hb2⟩ | ⟨c179,hb2⟩
        ·refine a0u (s:=65) (b:=true) rfl c179<|s_on rfl<|o7 (.ptr 0 0 2) rfl trivial rfl<|s_on rfl<|o7 (.lst 1 (t_1.Unique.map encI)) rfl nle rfl<|s_on rfl<|l9 (.int .i64 (s50_137:Int)) rfl<|s_on rfl<|o7 (.int .i64 (w64 ((s50_137:Int) - 1))) rfl rfl rfl<|s_on rfl<|?_
         obtain ⟨x_180,ex181,hb2⟩:=ob hb2
         refine x8 (a3l (enc:=encI) rfl rfl (a8m ex181) (a8n ex181))<|s_on rfl<|o7 (.int .i64 x_180) rfl ⟨rfl,rfl⟩ rfl<|s_on rfl<|l9 (.int .i64 x_165) rfl<|s_on rfl<|o7 (.bool (decide (x_180 ≥ x_165))) rfl rfl rfl<|s_on rfl<|o7 (.bool (decide (x_180 ≥ x_165))) rfl trivial rfl<|o7 (.bool (decide (x_180 ≥ x_165))) rfl trivial rfl<|y7<|?_;obtain rfl:=os hb2;exact ⟨[],[0],_,_,rfl,rfl,⟨.refl _,⟨.refl _,⟨.refl _,⟨.refl _,⟨.refl _,trivial⟩⟩⟩⟩⟩,(.refl _)⟩
        ·refine a0u (s:=65) (b:=false) rfl (bf c179)<|o9 rfl rfl<|o9 rfl rfl<|o9 rfl rfl<|o9 rfl rfl<|o9 rfl rfl<|o9 rfl rfl<|o9 rfl rfl<|o9 rfl rfl<|s_on rfl<|o7 (.bool false) rfl trivial rfl<|o7 (.bool false) rfl trivial rfl<|y7<|?_;obtain rfl:=os hb2;exact ⟨[],[0],_,_,rfl,rfl,⟨.refl _,⟨.refl _,⟨.refl _,⟨.refl _,⟨.refl _,trivial⟩⟩⟩⟩⟩,(.refl _)⟩
      ·rcases oi hc1 with ⟨c182,hc1⟩ | ⟨c182,hc1⟩
       ·refine x9 rfl c182<|sr<|l9 (.bool false) rfl<|dk<|a0a<|?_;obtain rfl:=os hc1;obtain rfl:=os hf;exact a0d ⟨trivial,trivial⟩ rfl (.refl _)
       ·refine y5 rfl (bf c182)<|a0e<|a2c<|a0f<|a0k<|o7 (.int .i64 (w64 ((s50_137:Int) + 1))) rfl rfl rfl<|l9 (.int .i64 (w64 ((s50_137:Int) + 1))) rfl<|y7<|?_;exact a1t ⟨(s50_137 + 1),hc1⟩ (mul hlt159) ⟨[],[0],_,_,rfl,rfl,⟨.refl _,⟨.refl _,⟨.refl _,⟨.of_eq (congrArg (AV.int _) (a1w hlt159 hl95)),trivial⟩⟩⟩⟩,(.refl _)⟩
    ·rintro ⟨_,rfl⟩
     refine sr<|l9 (.bool true) rfl<|dk<|a0a<|?_;obtain rfl:=os hf;exact a0d ⟨trivial,trivial⟩ rfl (.refl _)

/- slices.IndexFunc[[]impl.Atom,impl.Atom] -/
def d4x:a0n :=
 (.seq (.reg (tm 4 (.c (.int .i64 0)) .done))
 (.seq (.seq (.reg (tm 6 (.t 0) (tq 7 (.len (.t 6)) (tm 8 (.c (.int .i64 0)) .done))))
 (.block 0 (.loop (.seq (.reg (tq 9 (.bin .lss (.t 8) (.t 7)) .done))
 (.seq (.cond (.t 9) .skip
 (.exit 0))
 (.seq (.block 1 (.seq (.reg (tm 10 (.t 8) (tm 5 (.t 10) .done)))
 (.seq (.reg (tm 11 (.t 1) (tm 12 (.t 0) (tm 13 (.t 5) (tq 14 (.iaddr 3 (.t 12) (.t 13)) (tq 15 (.load 3 true (.t 14)) (tq 16 (.calv (.t 11) [(.t 15)]) .done)))))))
 (.cond (.t 16) (.seq (.reg (tm 17 (.t 5) (tm 4 (.t 17) .done)))
 .ret)
 .skip))))
 (.reg (tq 18 (.bin .add (.t 8) (.c (.int .i64 1))) (tm 8 (.t 18) .done)))))))))
 (.cut (.seq (.reg (tq 4 (.mov (.c (.int .i64 (-1)))) .done))
 .ret))))
theorem e4f:a1c Tryz.prog Tryz.f366 = some (d4x.erase,[.mov (.t 4)],19):=by kernel_rfl
def a0j (f_2:(o8 → Option Bool)):List o8 → Nat → Option (Fl Int Unit)
  | [],s8_17 =>
    some (.go ())
  | x_31 :: xs,s8_17 =>
    (f_2 x_31).bind fun r_32 =>
    if r_32 then
    some (.ret (s8_17:Int))
    else
    a0j f_2 xs (s8_17 + 1)

def a2b (s_1:(List o8)) (f_2:(o8 → Option Bool)):Option Int :=
    (a0j f_2 s_1 0).bind fun q => (match q with
    | .ret r => some r
    | .go _ =>
    some (-1))
theorem a6i (s_1:(List o8)) (f_2:(o8 → Option Bool)) (r:Int) (hf:a2b s_1 f_2 = some r) (kf_f_2:Nat) (cf_f_2:List AV) (okf_f_2:c3o Tryz.prog kf_f_2 = true) (hcf_f_2:∀ h p,a3x h p cf_f_2 = some cf_f_2) (hrf_f_2:∀ f,a7n f cf_f_2 = cf_f_2) (hpf_f_2:∀ a0 r,f_2 a0 = some r → y8 Tryz.prog kf_f_2 .flat ([(l7 a0)] ++ cf_f_2) (.bool r)):y8 Tryz.prog 366 .flat [(.lst 3 (s_1.map l7)),(.fn kf_f_2 cf_f_2)] (.int .i64 r):=by
 refine y8.of_awp mixed Tryz.func366 e4f nle ?_;rw [a0h];unfold a2b at hf;unfold d4x;refine (show awp Tryz.prog false 0 _ (ofL [(0,(.lst 3 (s_1.map l7))),(1,(.fn kf_f_2 cf_f_2))]) [] _ from ?_);refine sr<|l9 (.int .i64 0) rfl<|dk<|o6<|sr<|l9 (.lst 3 (s_1.map l7)) rfl<|a1e (a1p (enc:=l7) rfl) fun hl3 => l9 (.int .i64 0) rfl<|dk<|?_
 obtain ⟨p24,hb1,hf⟩:=ob hf
 refine a2i (X:={q:Unit // p24 = .go q}) (fun q => ([],[])) ?_ ?_
 ·refine a1m (X:={q:Nat // a0j f_2 (s_1.drop q) q = some p24}) (fun q => ([(0,(.lst 3 (s_1.map l7))),(1,(.fn kf_f_2 cf_f_2)),(7,(.int .i64 (s_1.length:Int))),(8,(.int .i64 (q.1:Int)))],[])) (fun q => s_1.length - q.1) ⟨0,hb1⟩ ⟨[],[],_,_,rfl,rfl,⟨.refl _,⟨.of_eq (congrArg (AV.fn _) (hrf_f_2 _)),⟨.refl _,⟨.refl _,trivial⟩⟩⟩⟩,(.refl _)⟩ ?_
  rintro ⟨s8_17,hc1⟩
  have hc1:a0j f_2 (s_1.drop s8_17) s8_17 = some p24:=hc1
  refine (show awp Tryz.prog false 0 _ (ofL [(0,(.lst 3 (s_1.map l7))),(1,(.fn kf_f_2 cf_f_2)),(7,(.int .i64 (s_1.length:Int))),(8,(.int .i64 (s8_17:Int)))]) [] _ from ?_)
  rcases a5p s_1 s8_17 with ⟨hie27,hd30⟩ | ⟨hlt25,x_31,hx26,hd30⟩
  ·rw [hd30,a0j.eq_1] at hc1
   have hq29:=dlf hie27
   refine sr<|o7 (.bool (decide ((s8_17:Int) < (s_1.length:Int)))) rfl rfl rfl<|dk<|o6<|y5 rfl hq29<|a2u<|a2t<|a1x<|a2s<|?_;obtain rfl:=os hc1;exact a3h ⟨_,rfl⟩ ⟨[],[],_,_,rfl,rfl,trivial,(.refl _)⟩
  ·rw [hd30,a0j.eq_2] at hc1
   have hq29:=dlt hlt25
   refine sr<|o7 (.bool (decide ((s8_17:Int) < (s_1.length:Int)))) rfl rfl rfl<|dk<|o6<|x9 rfl hq29<|a0e<|a0f<|o6<|a3c<|sr<|l9 (.int .i64 (s8_17:Int)) rfl<|l9 (.int .i64 (s8_17:Int)) rfl<|dk<|sr<|?_
   obtain ⟨r_32,er33,hc1⟩:=ob hc1
   refine l9 (.fn kf_f_2 cf_f_2) rfl<|l9 (.lst 3 (s_1.map l7)) rfl<|l9 (.int .i64 (s8_17:Int)) rfl<|x8 (a1r (enc:=l7) rfl rfl hx26)<|o7 (l7 x_31) rfl nle rfl<|x8 (c2k (v:=(.bool r_32)) rfl okf_f_2 hcf_f_2 (hpf_f_2 _ _ er33) rfl (.refl _) rfl)<|dk<|?_
   rcases oi hc1 with ⟨c34,hc1⟩ | ⟨c34,hc1⟩
   ·refine x9 rfl c34<|sr<|l9 (.int .i64 (s8_17:Int)) rfl<|l9 (.int .i64 (s8_17:Int)) rfl<|dk<|a0a<|?_;obtain rfl:=os hc1;obtain rfl:=os hf;exact a0d ⟨trivial,trivial⟩ rfl (.refl _)
   ·refine y5 rfl (bf c34)<|a0e<|a2c<|a0f<|a0k<|o7 (.int .i64 (w64 ((s8_17:Int) + 1))) rfl rfl rfl<|l9 (.int .i64 (w64 ((s8_17:Int) + 1))) rfl<|y7<|?_;exact a1t ⟨(s8_17 + 1),hc1⟩ (mul hlt25) ⟨[],[],_,_,rfl,rfl,⟨.refl _,⟨.of_eq (congrArg (AV.fn _) (hrf_f_2 _)),⟨.refl _,⟨.of_eq (congrArg (AV.int _) (a1w hlt25 hl3)),trivial⟩⟩⟩⟩,(.refl _)⟩
 ·rintro ⟨_,rfl⟩
  refine sr<|l9 (.int .i64 (-1)) rfl<|dk<|a0a<|?_;obtain rfl:=os hf;exact a0d ⟨trivial,trivial⟩ rfl (.refl _)

/- slices.ContainsFunc[[]impl.Atom,impl.Atom] -/
def e4g:a0n :=
 (.seq (.reg (tm 4 (.c (.bool false)) .done))
 (.seq (.reg (tm 5 (.t 0) (tm 6 (.t 1) (tq 7 (.call 366 [(.t 5),(.t 6)]) (tq 8 (.bin .geq (.t 7) (.c (.int .i64 0))) (tm 4 (.t 8) .done))))))
 .ret))
theorem e4h:a1c Tryz.prog Tryz.f360 = some (e4g.erase,[.mov (.t 4)],9):=by kernel_rfl
def a2k (s_1:(List o8)) (f_2:(o8 → Option Bool)):Option Bool :=
    (a2b s_1 f_2).bind fun r_3 =>
    some (decide (r_3 ≥ 0))
theorem a8b (s_1:(List o8)) (f_2:(o8 → Option Bool)) (r:Bool) (hf:a2k s_1 f_2 = some r) (kf_f_2:Nat) (cf_f_2:List AV) (okf_f_2:c3o Tryz.prog kf_f_2 = true) (hcf_f_2:∀ h p,a3x h p cf_f_2 = some cf_f_2) (hrf_f_2:∀ f,a7n f cf_f_2 = cf_f_2) (hpf_f_2:∀ a0 r,f_2 a0 = some r → y8 Tryz.prog kf_f_2 .flat ([(l7 a0)] ++ cf_f_2) (.bool r)):y8 Tryz.prog 360 .flat [(.lst 3 (s_1.map l7)),(.fn kf_f_2 cf_f_2)] (.bool r):=by
 refine y8.of_awp mixed Tryz.func360 e4h nle ?_;rw [a0h];unfold a2k at hf;unfold e4g;refine (show awp Tryz.prog false 0 _ (ofL [(0,(.lst 3 (s_1.map l7))),(1,(.fn kf_f_2 cf_f_2))]) [] _ from ?_);refine sr<|l9 (.bool false) rfl<|dk<|sr<|?_
 obtain ⟨r_3,er4,hf⟩:=ob hf
 refine l9 (.lst 3 (s_1.map l7)) rfl<|l9 (.fn kf_f_2 cf_f_2) rfl<|x8 (a0g (a6i _ _ _ er4 kf_f_2 cf_f_2 okf_f_2 hcf_f_2 hrf_f_2 hpf_f_2) (b4o rfl (b4o (d1y hcf_f_2) rfl)) (.refl _) rfl)<|o7 (.bool (decide (r_3 ≥ 0))) rfl rfl rfl<|l9 (.bool (decide (r_3 ≥ 0))) rfl<|dk<|a0a<|?_;obtain rfl:=os hf;exact a0d ⟨trivial,trivial⟩ rfl (.refl _)

/- (impl.Column).fits$1 -/
def e4i:a0n :=
 (.seq (.reg (tq 2 (.box 3 (.t 0)) (tm 3 (.c (.bool false)) .done)))
 (.seq (.reg (tq 4 (.faddr 1 (.t 2)) (tq 5 (.load 1 false (.t 4)) (tq 6 (.faddr 4 (.t 1)) (tq 7 (.load 1 false (.t 6)) (tq 8 (.faddr 5 (.t 1)) (tq 9 (.load 1 false (.t 8)) (tq 10 (.call 114 [(.t 5),(.t 7),(.t 9)]) (tq 11 (.not (.t 10)) (tm 3 (.t 11) .done))))))))))
 .ret))
theorem e4j:a1c Tryz.prog Tryz.f361 = some (e4i.erase,[.mov (.t 3)],12):=by kernel_rfl
def a4i (a_1:o8) (cap_2:a0m):Option Bool :=
    (a3v a_1.N cap_2.Low cap_2.High).bind fun r_3 =>
    some (!r_3)
theorem b6g (a_1:o8) (cap_2:a0m) (r:Bool) (hf:a4i a_1 cap_2 = some r):y8 Tryz.prog 361 .flat [(l7 a_1),(.iptr (o5 cap_2) 0)] (.bool r):=by
  refine y8.of_awp mixed Tryz.func361 e4j nle ?_
  rw [a0h]
  unfold a4i at hf
  unfold e4i
  refine (show awp Tryz.prog false 0 _ (ofL [(0,(l7 a_1)),(1,(.iptr (o5 cap_2) 0))]) [] _ from ?_)
  refine o6 ?_
  refine a0k ?_
  refine x8 (a1o (j:=0) (c:=(.agg [(.int .i64 a_1.Kind),(.int .i64 a_1.N),(.str a_1.T)])) rfl trivial rfl rfl) ?_
  refine x8 (a2r (.bool false) rfl) ?_
  refine y7 ?_
  refine a0f ?_
  refine o6 ?_
  refine a0k ?_
  obtain ⟨r_3,er4,hf⟩:=ob hf
  refine x8 (o_q (.ptr 0 0 1) rfl trivial rfl) ?_
  refine x8 (o_q (.int .i64 a_1.N) rfl nle rfl) ?_
  refine x8 (o_q (.iptr (o5 cap_2) 4) rfl trivial rfl) ?_
  refine x8 (o_q (.int .i64 cap_2.Low) rfl nle rfl) ?_
  refine x8 (o_q (.iptr (o5 cap_2) 5) rfl trivial rfl) ?_
  refine x8 (o_q (.int .i64 cap_2.High) rfl nle rfl) ?_
  refine x8 (a0g (a3y _ _ _ _ er4) rfl (.refl _) rfl) ?_
  refine x8 (o_q (.bool (!r_3)) rfl trivial rfl) ?_
  refine x8 (a2r (.bool (!r_3)) rfl) ?_
  refine y7 ?_
  refine a0f ?_
  refine a0a ?_
  obtain rfl:=os hf
  exact a0d ⟨trivial,trivial⟩ rfl (.refl _)

/- (impl.Column).fits -/
def e4k:a0n :=
 (.seq (.reg (tq 2 (.box 8 (.t 0)) (tm 4 (.c (.int .i64 0)) .done)))
 (.seq (.block 0 (.seq (.reg (tm 6 (.t 1) (tq 7 (.len (.t 6)) (tq 8 (.bin .gtr (.t 7) (.c (.int .i64 0))) (tm 9 (.t 8) (tg 10 9 true (.mov (.t 1)) (tg 11 9 true (.iaddr 3 (.t 10) (.c (.int .i64 0))) (tg 12 9 true (.faddr 0 (.t 11)) (tg 13 9 true (.load 1 false (.t 12)) (tg 14 9 true (.faddr 1 (.t 2)) (tg 15 9 true (.load 1 false (.t 14)) (tg 16 9 true (.bin .neq (.t 13) (.t 15)) (tq 17 (.pick (.t 9) (.t 16) (.c (.bool false))) (tm 5 (.t 17) .done))))))))))))))
 (.cut (.cond (.t 5) (.seq (.reg (tm 4 (.c (.int .i64 9)) .done))
 .ret)
 (.seq (.reg (tm 19 (.t 1) (tq 20 (.len (.t 19)) (tq 21 (.faddr 2 (.t 2)) (tq 22 (.load 1 false (.t 21)) (tq 23 (.faddr 3 (.t 2)) (tq 24 (.load 1 false (.t 23)) (tq 25 (.call 114 [(.t 20),(.t 22),(.t 24)]) (tq 26 (.not (.t 25)) (tm 18 (.t 26) .done))))))))))
 (.cond (.t 18) (.seq (.reg (tm 4 (.c (.int .i64 6)) .done))
 .ret)
 (.seq (.reg (tq 28 (.faddr 1 (.t 2)) (tq 29 (.load 1 false (.t 28)) (tq 30 (.bin .eql (.t 29) (.c (.int .i64 1))) (tm 31 (.t 30) (tg 32 31 true (.mov (.t 1)) (tg 33 31 true (.mkfn 361 [(.t 2)]) (tg 34 31 true (.call 360 [(.t 32),(.t 33)]) (tq 35 (.pick (.t 31) (.t 34) (.c (.bool false))) (tm 27 (.t 35) .done))))))))))
 (.cut (.cond (.t 27) (.seq (.reg (tm 4 (.c (.int .i64 4)) .done))
 .ret)
 .skip)))))))))
 (.seq (.reg (tm 4 (.c (.int .i64 0)) .done))
 .ret)))
theorem e4l:a1c Tryz.prog Tryz.f259 = some (e4k.erase,[.mov (.t 4)],36):=by kernel_rfl
def a6t (c_1:a0m) (d_2:(List o8)):Option Int :=
    ((if (decide ((d_2.length:Int) > 0)) then
    (idx d_2 0).bind fun x_11 =>
    some (x_11.Kind != c_1.Kind)
    else
    some false:Option Bool)).bind fun s5_7 =>
    if s5_7 then
    some 9
    else
    (a3v (d_2.length:Int) c_1.Min c_1.Max).bind fun r_15 =>
    if (!r_15) then
    some 6
    else
    ((if (c_1.Kind == 1) then
    (a2k d_2 (fun a0 => a4i a0 c_1)).bind fun r_24 =>
    some r_24
    else
    some false:Option Bool)).bind fun s27_21 =>
    if s27_21 then
    some 4
    else
    some 0
theorem b3s (c_1:a0m) (d_2:(List o8)) (r:Int) (hf:a6t c_1 d_2 = some r):y8 Tryz.prog 259 .flat [(o5 c_1),(.lst 3 (d_2.map l7))] (.int .i64 r):=by
 refine y8.of_awp mixed Tryz.func259 e4l nle ?_;rw [a0h];unfold a6t at hf;unfold e4k;refine (show awp Tryz.prog false 0 _ (ofL [(0,(o5 c_1)),(1,(.lst 3 (d_2.map l7)))]) [] _ from ?_);refine sr<|x8 (a1o (j:=0) (c:=(.agg [(.str c_1.Name),(.int .i64 c_1.Kind),(.int .i64 c_1.Min),(.int .i64 c_1.Max),(.int .i64 c_1.Low),(.int .i64 c_1.High),(.str c_1.Ref),(.bool c_1.Strong)])) rfl trivial rfl rfl)<|l9 (.int .i64 0) rfl<|dk<|o6<|a3c<|o6<|?_
 obtain ⟨s5_7,hb1,hf⟩:=ob hf
 refine a1k ([(1,(.lst 3 (d_2.map l7))),(2,(.ptr 0 0 0)),(5,(.bool s5_7))],[.box 8 (.agg [(.str c_1.Name),(.int .i64 c_1.Kind),(.int .i64 c_1.Min),(.int .i64 c_1.Max),(.int .i64 c_1.Low),(.int .i64 c_1.High),(.str c_1.Ref),(.bool c_1.Strong)])]) ?_ ?_
 ·refine a0k<|l9 (.lst 3 (d_2.map l7)) rfl<|a1e (a1p (enc:=l7) rfl) fun hl9 => o7 (.bool (decide ((d_2.length:Int) > 0))) rfl rfl rfl<|l9 (.bool (decide ((d_2.length:Int) > 0))) rfl<|?_
  rcases oi hb1 with ⟨c10,hb1⟩ | ⟨c10,hb1⟩
  ·refine a0u (s:=9) (b:=true) rfl c10<|s_on rfl<|l9 (.lst 3 (d_2.map l7)) rfl<|s_on rfl<|?_
   obtain ⟨x_11,ex12,hb1⟩:=ob hb1
   refine x8 (a3l (enc:=l7) rfl rfl (a8m ex12) (a8n ex12))<|s_on rfl<|o7 (.iptr (l7 x_11) 0) rfl trivial rfl<|s_on rfl<|o7 (.int .i64 x_11.Kind) rfl nle rfl<|s_on rfl<|o7 (.ptr 0 0 1) rfl trivial rfl<|s_on rfl<|o7 (.int .i64 c_1.Kind) rfl nle rfl<|s_on rfl<|o7 (.bool (x_11.Kind != c_1.Kind)) rfl rfl rfl<|o7 (.bool (x_11.Kind != c_1.Kind)) rfl trivial rfl<|l9 (.bool (x_11.Kind != c_1.Kind)) rfl<|y7<|?_;obtain rfl:=os hb1;exact ⟨[],[0],_,_,rfl,rfl,⟨.refl _,⟨.refl _,⟨.refl _,trivial⟩⟩⟩,(.refl _)⟩
  ·refine a0u (s:=9) (b:=false) rfl (bf c10)<|o9 rfl rfl<|o9 rfl rfl<|o9 rfl rfl<|o9 rfl rfl<|o9 rfl rfl<|o9 rfl rfl<|o9 rfl rfl<|o7 (.bool false) rfl trivial rfl<|l9 (.bool false) rfl<|y7<|?_;obtain rfl:=os hb1;exact ⟨[],[0],_,_,rfl,rfl,⟨.refl _,⟨.refl _,⟨.refl _,trivial⟩⟩⟩,(.refl _)⟩
 ·rcases oi hf with ⟨c13,hf⟩ | ⟨c13,hf⟩
  ·refine x9 rfl c13<|sr<|l9 (.int .i64 9) rfl<|dk<|a0a<|?_;obtain rfl:=os hf;exact a0d ⟨trivial,trivial⟩ rfl (.refl _)
  ·refine y5 rfl (bf c13)<|sr<|?_
   obtain ⟨r_15,er16,hf⟩:=ob hf
   refine l9 (.lst 3 (d_2.map l7)) rfl<|a1e (a1p (enc:=l7) rfl) fun hl14 => o7 (.ptr 0 0 2) rfl trivial rfl<|o7 (.int .i64 c_1.Min) rfl nle rfl<|o7 (.ptr 0 0 3) rfl trivial rfl<|o7 (.int .i64 c_1.Max) rfl nle rfl<|x8 (a0g (a3y _ _ _ _ er16) rfl (.refl _) rfl)<|o7 (.bool (!r_15)) rfl trivial rfl<|l9 (.bool (!r_15)) rfl<|dk<|?_
   rcases oi hf with ⟨c17,hf⟩ | ⟨c17,hf⟩
   ·refine x9 rfl c17<|sr<|l9 (.int .i64 6) rfl<|dk<|a0a<|?_;obtain rfl:=os hf;exact a0d ⟨trivial,trivial⟩ rfl (.refl _)
   ·refine y5 rfl (bf c17)<|o6<|?_
    obtain ⟨s27_21,hb1,hf⟩:=ob hf
    refine a1k ([(27,(.bool s27_21))],[]) ?_ ?_
    ·refine a0k ?_
     rcases oi hb1 with ⟨c23,hb1⟩ | ⟨c23,hb1⟩
     ·obtain ⟨r_24,er25,hb1⟩:=ob hb1
      refine o7 (.ptr 0 0 1) rfl trivial rfl<|o7 (.int .i64 c_1.Kind) rfl nle rfl<|o7 (.bool (c_1.Kind == 1)) rfl rfl rfl<|l9 (.bool (c_1.Kind == 1)) rfl<|a0u (s:=31) (b:=true) rfl c23<|s_on rfl<|l9 (.lst 3 (d_2.map l7)) rfl<|s_on rfl<|o7 (.fn 361 [(.ptr 0 0 0)]) rfl trivial rfl<|s_on rfl<|?_;refine x8 (a0g (a8b _ _ _ er25 361 [(.iptr (o5 c_1) 0)] (by kernel_rfl) (fun _ _ => rfl) (fun _ => rfl) (fun a0 r h => b6g a0 c_1 r h)) rfl (.refl _) rfl) ?_;refine o7 (.bool r_24) rfl trivial rfl<|l9 (.bool r_24) rfl<|y7<|?_;obtain rfl:=os hb1;exact ⟨[],[],_,_,rfl,rfl,⟨.refl _,trivial⟩,(.refl _)⟩
     ·refine o7 (.ptr 0 0 1) rfl trivial rfl<|o7 (.int .i64 c_1.Kind) rfl nle rfl<|o7 (.bool (c_1.Kind == 1)) rfl rfl rfl<|l9 (.bool (c_1.Kind == 1)) rfl<|a0u (s:=31) (b:=false) rfl (bf c23)<|o9 rfl rfl<|o9 rfl rfl<|o9 rfl rfl<|o7 (.bool false) rfl trivial rfl<|l9 (.bool false) rfl<|y7<|?_;obtain rfl:=os hb1;exact ⟨[],[],_,_,rfl,rfl,⟨.refl _,trivial⟩,(.refl _)⟩
    ·rcases oi hf with ⟨c26,hf⟩ | ⟨c26,hf⟩
     ·refine x9 rfl c26<|sr<|l9 (.int .i64 4) rfl<|dk<|a0a<|?_;obtain rfl:=os hf;exact a0d ⟨trivial,trivial⟩ rfl (.refl _)
     ·refine y5 rfl (bf c26)<|a0e<|a2c<|a0f<|sr<|l9 (.int .i64 0) rfl<|dk<|a0a<|?_;obtain rfl:=os hf;exact a0d ⟨trivial,trivial⟩ rfl (.refl _)

/- impl.cellsOK -/
def e4m:a0n :=
 (.seq (.reg (tq 2 (.box 4 (.t 0)) (tq 3 (.box 2 (.t 1)) (tm 4 (.c (.bool false)) .done))))
 (.seq (.seq (.reg (tq 7 (.faddr 1 (.t 3)) (tq 8 (.load 1 false (.t 7)) (tq 9 (.len (.t 8)) (tq 10 (.faddr 1 (.t 2)) (tq 11 (.load 1 false (.t 10)) (tq 12 (.len (.t 11)) (tq 13 (.bin .neq (.t 9) (.t 12)) .done))))))))
 (.cond (.t 13) (.seq (.reg (tm 4 (.c (.bool false)) .done))
 .ret)
 .skip))
 (.seq (.seq (.reg (tq 14 (.faddr 1 (.t 3)) (tq 15 (.load 1 false (.t 14)) (tq 16 (.len (.t 15)) (tm 17 (.c (.int .i64 0)) .done)))))
 (.block 0 (.loop (.seq (.reg (tq 18 (.bin .lss (.t 17) (.t 16)) .done))
 (.seq (.cond (.t 18) .skip
 (.exit 0))
 (.seq (.block 1 (.seq (.reg (tm 19 (.t 17) (tq 20 (.iaddr 1 (.t 15) (.t 17)) (tq 21 (.load 1 false (.t 20)) (tm 5 (.t 19) (tm 6 (.t 21) .done))))))
 (.seq (.reg (tm 22 (.t 6) (tq 23 (.call 168 [(.t 22)]) (tq 24 (.not (.t 23)) (tm 25 (.t 24) (tg 26 25 false (.faddr 1 (.t 2)) (tg 27 25 false (.load 1 false (.t 26)) (tg 28 25 false (.mov (.t 5)) (tg 29 25 false (.iaddr 8 (.t 27) (.t 28)) (tg 30 25 false (.load 8 true (.t 29)) (tg 31 25 false (.mov (.t 6)) (tg 32 25 false (.call 259 [(.t 30),(.t 31)]) (tg 33 25 false (.bin .neq (.t 32) (.c (.int .i64 0))) (tq 34 (.pick (.t 25) (.c (.bool true)) (.t 33)) .done))))))))))))))
 (.cut (.cond (.t 34) (.seq (.reg (tm 4 (.c (.bool false)) .done))
 .ret)
 .skip)))))
 (.reg (tq 35 (.bin .add (.t 17) (.c (.int .i64 1))) (tm 17 (.t 35) .done)))))))))
 (.cut (.seq (.reg (tm 4 (.c (.bool true)) .done))
 .ret)))))
theorem e4n:a1c Tryz.prog Tryz.f134 = some (e4m.erase,[.mov (.t 4)],36):=by kernel_rfl
def a4z (t_1:a0w):List (List o8) → Nat → Option (Fl Bool Unit)
  | [],s17_48 =>
    some (.go ())
  | x_76 :: xs,s17_48 =>
    (((a9i x_76).bind fun r_86 =>
    if (!r_86) then
    some true
    else
    (idx t_1.Columns (s17_48:Int)).bind fun x_89 =>
    (a6t x_89 x_76).bind fun r_91 =>
    some (r_91 != 0):Option Bool)).bind fun s34_84 =>
    if s34_84 then
    some (.ret false)
    else
    a4z t_1 xs (s17_48 + 1)

def b1k (t_1:a0w) (r_2:a4p):Option Bool :=
    if ((r_2.Cells.length:Int) != (t_1.Columns.length:Int)) then
    some false
    else
    (a4z t_1 r_2.Cells 0).bind fun q => (match q with
    | .ret r => some r
    | .go _ =>
    some true)
theorem c4g (t_1:a0w) (r_2:a4p) (r:Bool) (hf:b1k t_1 r_2 = some r):y8 Tryz.prog 134 .flat [(a1b t_1),(a3g r_2)] (.bool r):=by
 refine y8.of_awp mixed Tryz.func134 e4n nle ?_;rw [a0h];unfold b1k at hf;unfold e4m;refine (show awp Tryz.prog false 0 _ (ofL [(0,(a1b t_1)),(1,(a3g r_2))]) [] _ from ?_);refine sr<|x8 (a1o (j:=0) (c:=(.agg [(.str t_1.Name),(.lst 8 (t_1.Columns.map o5)),(.lst 1 (t_1.Unique.map encI)),(.bool t_1.Root)])) rfl trivial rfl rfl)<|x8 (a1o (j:=1) (c:=(.agg [(.int .i64 r_2.Id),(.lst 1 (r_2.Cells.map (a1n 3 l7)))])) rfl trivial rfl rfl)<|l9 (.bool false) rfl<|dk<|o6<|sr<|o7 (.ptr 1 0 1) rfl trivial rfl<|o7 (.lst 1 (r_2.Cells.map (a1n 3 l7))) rfl nle rfl<|a1e (a1p (enc:=(a1n 3 l7)) rfl) fun hl3 => ?_
 refine o7 (.ptr 0 0 1) rfl trivial rfl<|o7 (.lst 8 (t_1.Columns.map o5)) rfl nle rfl<|a1e (a1p (enc:=o5) rfl) fun hl4 => o7 (.bool ((r_2.Cells.length:Int) != (t_1.Columns.length:Int))) rfl rfl rfl<|dk<|?_
 rcases oi hf with ⟨c5,hf⟩ | ⟨c5,hf⟩
 ·refine x9 rfl c5<|sr<|l9 (.bool false) rfl<|dk<|a0a<|?_;obtain rfl:=os hf;exact a0d ⟨trivial,trivial⟩ rfl (.refl _)
 ·refine y5 rfl (bf c5)<|a0e<|a0f<|o6<|sr<|o7 (.ptr 1 0 1) rfl trivial rfl<|o7 (.lst 1 (r_2.Cells.map (a1n 3 l7))) rfl nle rfl<|a1e (a1p (enc:=(a1n 3 l7)) rfl) fun hl6 => l9 (.int .i64 0) rfl<|dk<|?_
  obtain ⟨p69,hb1,hf⟩:=ob hf
  refine a2i (X:={q:Unit // p69 = .go q}) (fun q => ([],[])) ?_ ?_
  ·refine a1m (X:={q:Nat // a4z t_1 (r_2.Cells.drop q) q = some p69}) (fun q => ([(2,(.ptr 0 0 0)),(15,(.lst 1 (r_2.Cells.map (a1n 3 l7)))),(16,(.int .i64 (r_2.Cells.length:Int))),(17,(.int .i64 (q.1:Int)))],[.box 4 (.agg [(.str t_1.Name),(.lst 8 (t_1.Columns.map o5)),(.lst 1 (t_1.Unique.map encI)),(.bool t_1.Root)])])) (fun q => r_2.Cells.length - q.1) ⟨0,hb1⟩ ⟨[],[0],_,_,rfl,rfl,⟨.refl _,⟨.refl _,⟨.refl _,⟨.refl _,trivial⟩⟩⟩⟩,(.refl _)⟩ ?_
   rintro ⟨s17_48,hc1⟩
   have hc1:a4z t_1 (r_2.Cells.drop s17_48) s17_48 = some p69:=hc1
   refine (show awp Tryz.prog false 0 _ (ofL [(2,(.ptr 0 0 0)),(15,(.lst 1 (r_2.Cells.map (a1n 3 l7)))),(16,(.int .i64 (r_2.Cells.length:Int))),(17,(.int .i64 (s17_48:Int)))]) [.box 4 (.agg [(.str t_1.Name),(.lst 8 (t_1.Columns.map o5)),(.lst 1 (t_1.Unique.map encI)),(.bool t_1.Root)])] _ from ?_)
   rcases a5p r_2.Cells s17_48 with ⟨hie72,hd75⟩ | ⟨hlt70,x_76,hx71,hd75⟩
   ·rw [hd75,a4z.eq_1] at hc1
    have hq74:=dlf hie72
    refine sr<|o7 (.bool (decide ((s17_48:Int) < (r_2.Cells.length:Int)))) rfl rfl rfl<|dk<|o6<|y5 rfl hq74<|a2u<|a2t<|a1x<|a2s<|?_;obtain rfl:=os hc1;exact a3h ⟨_,rfl⟩ ⟨[],[],_,_,rfl,rfl,trivial,(.refl _)⟩
   ·rw [hd75,a4z.eq_2] at hc1
    have hq74:=dlt hlt70
    refine sr<|o7 (.bool (decide ((s17_48:Int) < (r_2.Cells.length:Int)))) rfl rfl rfl<|dk<|o6<|x9 rfl hq74<|a0e<|a0f<|o6<|a3c<|sr<|l9 (.int .i64 (s17_48:Int)) rfl<|x8 (a1r (enc:=(a1n 3 l7)) rfl rfl hx71)<|o7 (.lst 3 (x_76.map l7)) rfl ⟨rfl,rfl⟩ rfl<|l9 (.int .i64 (s17_48:Int)) rfl<|l9 (.lst 3 (x_76.map l7)) rfl<|dk<|o6<|?_
    obtain ⟨s34_84,hb2,hc1⟩:=ob hc1
    refine a1k ([(2,(.ptr 0 0 0)),(15,(.lst 1 (r_2.Cells.map (a1n 3 l7)))),(16,(.int .i64 (r_2.Cells.length:Int))),(17,(.int .i64 (s17_48:Int))),(34,(.bool s34_84))],[.box 4 (.agg [(.str t_1.Name),(.lst 8 (t_1.Columns.map o5)),(.lst 1 (t_1.Unique.map encI)),(.bool t_1.Root)])]) ?_ ?_
    ·refine a0k<|l9 (.lst 3 (x_76.map l7)) rfl<|?_
     obtain ⟨r_86,er87,hb2⟩:=ob hb2
     refine x8 (a0g (b6f _ _ er87) rfl (.refl _) rfl)<|o7 (.bool (!r_86)) rfl trivial rfl<|l9 (.bool (!r_86)) rfl<|?_
     rcases oi hb2 with ⟨c88,hb2⟩ | ⟨c88,hb2⟩
     ·refine a0u (s:=25) (b:=true) rfl c88<|o9 rfl rfl<|o9 rfl rfl<|o9 rfl rfl<|o9 rfl rfl<|o9 rfl rfl<|o9 rfl rfl<|o9 rfl rfl<|o9 rfl rfl<|o7 (.bool true) rfl trivial rfl<|y7<|?_;obtain rfl:=os hb2;exact ⟨[],[0],_,_,rfl,rfl,⟨.refl _,⟨.refl _,⟨.refl _,⟨.refl _,⟨.refl _,trivial⟩⟩⟩⟩⟩,(.refl _)⟩
     ·refine a0u (s:=25) (b:=false) rfl (bf c88)<|s_on rfl<|o7 (.ptr 0 0 1) rfl trivial rfl<|s_on rfl<|o7 (.lst 8 (t_1.Columns.map o5)) rfl nle rfl<|s_on rfl<|l9 (.int .i64 (s17_48:Int)) rfl<|s_on rfl<|?_
      obtain ⟨x_89,ex90,hb2⟩:=ob hb2
      refine x8 (a3l (enc:=o5) rfl rfl (a8m ex90) (a8n ex90))<|s_on rfl<|o7 (o5 x_89) rfl nle rfl<|s_on rfl<|l9 (.lst 3 (x_76.map l7)) rfl<|s_on rfl<|?_
      obtain ⟨r_91,er92,hb2⟩:=ob hb2
      refine x8 (a0g (b3s _ _ _ er92) rfl (.refl _) rfl)<|s_on rfl<|o7 (.bool (r_91 != 0)) rfl rfl rfl<|o7 (.bool (r_91 != 0)) rfl trivial rfl<|y7<|?_;obtain rfl:=os hb2;exact ⟨[],[0],_,_,rfl,rfl,⟨.refl _,⟨.refl _,⟨.refl _,⟨.refl _,⟨.refl _,trivial⟩⟩⟩⟩⟩,(.refl _)⟩
    ·rcases oi hc1 with ⟨c93,hc1⟩ | ⟨c93,hc1⟩
     ·refine x9 rfl c93<|sr<|l9 (.bool false) rfl<|dk<|a0a<|?_;obtain rfl:=os hc1;obtain rfl:=os hf;exact a0d ⟨trivial,trivial⟩ rfl (.refl _)
     ·refine y5 rfl (bf c93)<|a0e<|a2c<|a0f<|a0k<|o7 (.int .i64 (w64 ((s17_48:Int) + 1))) rfl rfl rfl<|l9 (.int .i64 (w64 ((s17_48:Int) + 1))) rfl<|y7<|?_;exact a1t ⟨(s17_48 + 1),hc1⟩ (mul hlt70) ⟨[],[0],_,_,rfl,rfl,⟨.refl _,⟨.refl _,⟨.refl _,⟨.of_eq (congrArg (AV.int _) (a1w hlt70 hl6)),trivial⟩⟩⟩⟩,(.refl _)⟩
  ·rintro ⟨_,rfl⟩
   refine sr<|l9 (.bool true) rfl<|dk<|a0a<|?_;obtain rfl:=os hf;exact a0d ⟨trivial,trivial⟩ rfl (.refl _)

/- impl.RowOK -/
def c37:a0n :=
 (.seq (.reg (tq 2 (.box 4 (.t 0)) (tq 3 (.box 2 (.t 1)) (tm 4 (.c (.bool false)) .done))))
 (.seq (.reg (tq 5 (.load 4 true (.t 2)) (tq 6 (.call 132 [(.t 5)]) (tm 7 (.t 6) (tg 8 7 true (.faddr 0 (.t 3)) (tg 9 7 true (.load 1 false (.t 8)) (tg 10 7 true (.call 133 [(.t 9)]) (tq 11 (.pick (.t 7) (.t 10) (.c (.bool false))) (tm 12 (.t 11) (tg 13 12 true (.load 4 true (.t 2)) (tg 14 12 true (.load 2 true (.t 3)) (tg 15 12 true (.call 134 [(.t 13),(.t 14)]) (tq 16 (.pick (.t 12) (.t 15) (.c (.bool false))) (tm 4 (.t 16) .done))))))))))))))
 .ret))
theorem e8f:a1c Tryz.prog Tryz.f37 = some (c37.erase,[.mov (.t 4)],17):=by kernel_rfl
def b0l (t_1:a0w) (r_2:a4p):Option Bool :=
    (a9j t_1).bind fun r_3 =>
    if r_3 then
    (b3g r_2.Id).bind fun r_6 =>
    if r_6 then
    (b1k t_1 r_2).bind fun r_9 =>
    some r_9
    else
    some false
    else
    some false
theorem b5h (t_1:a0w) (r_2:a4p) (r:Bool) (hf:b0l t_1 r_2 = some r):y8 Tryz.prog 37 .flat [(a1b t_1),(a3g r_2)] (.bool r):=by
 refine y8.of_awp mixed Tryz.func37 e8f nle ?_;rw [a0h];unfold b0l at hf;unfold c37;refine (show awp Tryz.prog false 0 _ (ofL [(0,(a1b t_1)),(1,(a3g r_2))]) [] _ from ?_);refine sr<|x8 (a1o (j:=0) (c:=(.agg [(.str t_1.Name),(.lst 8 (t_1.Columns.map o5)),(.lst 1 (t_1.Unique.map encI)),(.bool t_1.Root)])) rfl trivial rfl rfl)<|x8 (a1o (j:=1) (c:=(.agg [(.int .i64 r_2.Id),(.lst 1 (r_2.Cells.map (a1n 3 l7)))])) rfl trivial rfl rfl)<|l9 (.bool false) rfl<|dk<|sr<|o7 (.agg [(.str t_1.Name),(.lst 8 (t_1.Columns.map o5)),(.lst 1 (t_1.Unique.map encI)),(.bool t_1.Root)]) rfl nle rfl<|?_
 obtain ⟨r_3,er4,hf⟩:=ob hf
 refine x8 (a0g (b3r _ _ er4) rfl (.refl _) rfl)<|l9 (.bool r_3) rfl<|?_
 rcases oi hf with ⟨c5,hf⟩ | ⟨c5,hf⟩
 ·refine a0u (s:=7) (b:=true) rfl c5<|s_on rfl<|o7 (.ptr 1 0 0) rfl trivial rfl<|s_on rfl<|o7 (.int .i64 r_2.Id) rfl nle rfl<|s_on rfl<|?_
  obtain ⟨r_6,er7,hf⟩:=ob hf
  refine x8 (a0g (b6e _ _ er7) rfl (.refl _) rfl)<|o7 (.bool r_6) rfl trivial rfl<|l9 (.bool r_6) rfl<|?_
  rcases oi hf with ⟨c8,hf⟩ | ⟨c8,hf⟩
  ·refine a0u (s:=12) (b:=true) rfl c8<|s_on rfl<|o7 (.agg [(.str t_1.Name),(.lst 8 (t_1.Columns.map o5)),(.lst 1 (t_1.Unique.map encI)),(.bool t_1.Root)]) rfl nle rfl<|s_on rfl<|o7 (.agg [(.int .i64 r_2.Id),(.lst 1 (r_2.Cells.map (a1n 3 l7)))]) rfl nle rfl<|s_on rfl<|?_
   obtain ⟨r_9,er10,hf⟩:=ob hf
   refine x8 (a0g (c4g _ _ _ er10) rfl (.refl _) rfl)<|o7 (.bool r_9) rfl trivial rfl<|l9 (.bool r_9) rfl<|dk<|a0a<|?_;obtain rfl:=os hf;exact a0d ⟨trivial,trivial⟩ rfl (.refl _)
  ·refine a0u (s:=12) (b:=false) rfl (bf c8)<|o9 rfl rfl<|o9 rfl rfl<|o9 rfl rfl<|o7 (.bool false) rfl trivial rfl<|l9 (.bool false) rfl<|dk<|a0a<|?_;obtain rfl:=os hf;exact a0d ⟨trivial,trivial⟩ rfl (.refl _)
 ·refine a0u (s:=7) (b:=false) rfl (bf c5)<|o9 rfl rfl<|o9 rfl rfl<|o9 rfl rfl<|o7 (.bool false) rfl trivial rfl<|l9 (.bool false) rfl<|o9 rfl rfl<|o9 rfl rfl<|o9 rfl rfl<|o7 (.bool false) rfl trivial rfl<|l9 (.bool false) rfl<|dk<|a0a<|?_;obtain rfl:=os hf;exact a0d ⟨trivial,trivial⟩ rfl (.refl _)

/- (impl.Mut).typeCode -/
def e4o:a0n :=
 (.seq (.reg (tq 2 (.box 3 (.t 0)) (tq 3 (.box 8 (.t 1)) (tm 4 (.c (.int .i64 0)) .done))))
 (.seq (.block 0 (.seq (.reg (tq 6 (.faddr 2 (.t 2)) (tq 7 (.load 1 false (.t 6)) (tq 8 (.len (.t 7)) (tq 9 (.bin .gtr (.t 8) (.c (.int .i64 0))) (tm 10 (.t 9) (tg 11 10 true (.faddr 2 (.t 2)) (tg 12 10 true (.load 1 false (.t 11)) (tg 13 10 true (.iaddr 3 (.t 12) (.c (.int .i64 0))) (tg 14 10 true (.faddr 0 (.t 13)) (tg 15 10 true (.load 1 false (.t 14)) (tg 16 10 true (.faddr 1 (.t 3)) (tg 17 10 true (.load 1 false (.t 16)) (tg 18 10 true (.bin .neq (.t 15) (.t 17)) (tq 19 (.pick (.t 10) (.t 18) (.c (.bool false))) (tm 5 (.t 19) .done))))))))))))))))
 (.cut (.cond (.t 5) (.seq (.reg (tm 4 (.c (.int .i64 9)) .done))
 .ret)
 (.seq (.reg (tq 21 (.faddr 1 (.t 2)) (tq 22 (.load 1 false (.t 21)) (tq 23 (.bin .leq (.t 22) (.c (.int .i64 5))) (tm 24 (.t 23) (tg 25 24 true (.faddr 1 (.t 3)) (tg 26 24 true (.load 1 false (.t 25)) (tg 27 24 true (.bin .neq (.t 26) (.c (.int .i64 1))) (tg 28 24 true (.mov (.t 27)) (tg 29 28 false (.faddr 2 (.t 2)) (tg 30 28 false (.load 1 false (.t 29)) (tg 31 28 false (.len (.t 30)) (tg 32 28 false (.bin .neq (.t 31) (.c (.int .i64 1))) (tg 33 24 true (.pick (.t 28) (.c (.bool true)) (.t 32)) (tq 34 (.pick (.t 24) (.t 33) (.c (.bool false))) (tm 20 (.t 34) .done))))))))))))))))
 (.cut (.cond (.t 20) (.seq (.reg (tm 4 (.c (.int .i64 9)) .done))
 .ret)
 .skip)))))))
 (.seq (.reg (tm 4 (.c (.int .i64 0)) .done))
 .ret)))
theorem e4p:a1c Tryz.prog Tryz.f260 = some (e4o.erase,[.mov (.t 4)],35):=by kernel_rfl
def a8l (m_1:a2w) (c_2:a0m):Option Int :=
    ((if (decide ((m_1.Value.length:Int) > 0)) then
    (idx m_1.Value 0).bind fun x_11 =>
    some (x_11.Kind != c_2.Kind)
    else
    some false:Option Bool)).bind fun s5_7 =>
    if s5_7 then
    some 9
    else
    ((some ():Option Unit)).bind fun _ =>
    if (bif (decide (m_1.Func ≤ 5)) then (bif (c_2.Kind != 1) then true else ((m_1.Value.length:Int) != 1)) else false) then
    some 9
    else
    some 0
theorem b7g (m_1:a2w) (c_2:a0m) (r:Int) (hf:a8l m_1 c_2 = some r):y8 Tryz.prog 260 .flat [(a0c m_1),(o5 c_2)] (.int .i64 r):=by
 refine y8.of_awp mixed Tryz.func260 e4p nle ?_;rw [a0h];unfold a8l at hf;unfold e4o;refine (show awp Tryz.prog false 0 _ (ofL [(0,(a0c m_1)),(1,(o5 c_2))]) [] _ from ?_);refine sr<|x8 (a1o (j:=0) (c:=(.agg [(.str m_1.Column),(.int .i64 m_1.Func),(.lst 3 (m_1.Value.map l7))])) rfl trivial rfl rfl)<|x8 (a1o (j:=1) (c:=(.agg [(.str c_2.Name),(.int .i64 c_2.Kind),(.int .i64 c_2.Min),(.int .i64 c_2.Max),(.int .i64 c_2.Low),(.int .i64 c_2.High),(.str c_2.Ref),(.bool c_2.Strong)])) rfl trivial rfl rfl)<|l9 (.int .i64 0) rfl<|dk<|o6<|a3c<|o6<|?_
 obtain ⟨s5_7,hb1,hf⟩:=ob hf
 refine a1k ([(2,(.ptr 0 0 0)),(3,(.ptr 1 0 0)),(5,(.bool s5_7))],[.box 3 (.agg [(.str m_1.Column),(.int .i64 m_1.Func),(.lst 3 (m_1.Value.map l7))]),.box 8 (.agg [(.str c_2.Name),(.int .i64 c_2.Kind),(.int .i64 c_2.Min),(.int .i64 c_2.Max),(.int .i64 c_2.Low),(.int .i64 c_2.High),(.str c_2.Ref),(.bool c_2.Strong)])]) ?_ ?_
 ·refine a0k<|o7 (.ptr 0 0 2) rfl trivial rfl<|o7 (.lst 3 (m_1.Value.map l7)) rfl nle rfl<|a1e (a1p (enc:=l7) rfl) fun hl9 => o7 (.bool (decide ((m_1.Value.length:Int) > 0))) rfl rfl rfl<|l9 (.bool (decide ((m_1.Value.length:Int) > 0))) rfl<|?_
  rcases oi hb1 with ⟨c10,hb1⟩ | ⟨c10,hb1⟩
  ·refine a0u (s:=10) (b:=true) rfl c10<|s_on rfl<|o7 (.ptr 0 0 2) rfl trivial rfl<|s_on rfl<|o7 (.lst 3 (m_1.Value.map l7)) rfl nle rfl<|s_on rfl<|?_
   obtain ⟨x_11,ex12,hb1⟩:=ob hb1
   refine x8 (a3l (enc:=l7) rfl rfl (a8m ex12) (a8n ex12))<|s_on rfl<|o7 (.iptr (l7 x_11) 0) rfl trivial rfl<|s_on rfl<|o7 (.int .i64 x_11.Kind) rfl nle rfl<|s_on rfl<|o7 (.ptr 1 0 1) rfl trivial rfl<|s_on rfl<|o7 (.int .i64 c_2.Kind) rfl nle rfl<|s_on rfl<|o7 (.bool (x_11.Kind != c_2.Kind)) rfl rfl rfl<|o7 (.bool (x_11.Kind != c_2.Kind)) rfl trivial rfl<|l9 (.bool (x_11.Kind != c_2.Kind)) rfl<|y7<|?_;obtain rfl:=os hb1;exact ⟨[],[0,1],_,_,rfl,rfl,⟨.refl _,⟨.refl _,⟨.refl _,trivial⟩⟩⟩,(.refl _)⟩
  ·refine a0u (s:=10) (b:=false) rfl (bf c10)<|o9 rfl rfl<|o9 rfl rfl<|o9 rfl rfl<|o9 rfl rfl<|o9 rfl rfl<|o9 rfl rfl<|o9 rfl rfl<|o9 rfl rfl<|o7 (.bool false) rfl trivial rfl<|l9 (.bool false) rfl<|y7<|?_;obtain rfl:=os hb1;exact ⟨[],[0,1],_,_,rfl,rfl,⟨.refl _,⟨.refl _,⟨.refl _,trivial⟩⟩⟩,(.refl _)⟩
 ·rcases oi hf with ⟨c13,hf⟩ | ⟨c13,hf⟩
  ·refine x9 rfl c13<|sr<|l9 (.int .i64 9) rfl<|dk<|a0a<|?_;obtain rfl:=os hf;exact a0d ⟨trivial,trivial⟩ rfl (.refl _)
  ·refine y5 rfl (bf c13)<|o6<|?_
   obtain ⟨p15,hb1,hf⟩:=ob hf
   refine a1k ([(20,(.bool (bif (decide (m_1.Func ≤ 5)) then (bif (c_2.Kind != 1) then true else ((m_1.Value.length:Int) != 1)) else false)))],[]) ?_ ?_
   ·refine a0k<|o7 (.ptr 0 0 1) rfl trivial rfl<|o7 (.int .i64 m_1.Func) rfl nle rfl<|o7 (.bool (decide (m_1.Func ≤ 5))) rfl rfl rfl<|l9 (.bool (decide (m_1.Func ≤ 5))) rfl<|?_;refine s_g (v:=(decide (m_1.Func ≤ 5))) (.ptr 1 0 1) rfl (fun hv => by (try simp only [a0i hv]);exact ⟨rfl,trivial,rfl⟩) ?_;refine s_g (v:=(decide (m_1.Func ≤ 5))) (.int .i64 c_2.Kind) rfl (fun hv => by (try simp only [a0i hv]);exact ⟨rfl,nle,rfl⟩) ?_;refine s_g (v:=(decide (m_1.Func ≤ 5))) (.bool (c_2.Kind != 1)) rfl (fun hv => by (try simp only [a0i hv]);exact ⟨rfl,rfl,rfl⟩) ?_;refine s_g (v:=(decide (m_1.Func ≤ 5))) (.bool (c_2.Kind != 1)) rfl (fun hv => by (try simp only [a0i hv]);exact ⟨rfl,trivial,rfl⟩) ?_
    refine c1s (v1:=(decide (m_1.Func ≤ 5))) (b1:=true) (v2:=(c_2.Kind != 1)) (.ptr 0 0 2) rfl (fun hv hw => by (try simp only [a0i hv,a0i hw]);exact ⟨rfl,trivial,rfl⟩) ?_;refine c1s (v1:=(decide (m_1.Func ≤ 5))) (b1:=true) (v2:=(c_2.Kind != 1)) (.lst 3 (m_1.Value.map l7)) rfl (fun hv hw => by (try simp only [a0i hv,a0i hw]);exact ⟨rfl,nle,rfl⟩) ?_;refine c1s (v1:=(decide (m_1.Func ≤ 5))) (b1:=true) (v2:=(c_2.Kind != 1)) (.int .i64 (m_1.Value.length:Int)) rfl (fun hv hw => by (try simp only [a0i hv,a0i hw]);exact ⟨rfl,trivial,lenV _ _⟩) ?_;refine c1s (v1:=(decide (m_1.Func ≤ 5))) (b1:=true) (v2:=(c_2.Kind != 1)) (.bool ((m_1.Value.length:Int) != 1)) rfl (fun hv hw => by (try simp only [a0i hv,a0i hw]);exact ⟨rfl,rfl,rfl⟩) ?_
    refine d9i (v1:=(decide (m_1.Func ≤ 5))) (b1:=true) (v2:=(c_2.Kind != 1)) (x:=true) (y:=((m_1.Value.length:Int) != 1)) rfl (fun hv => by (try simp only [a0i hv]);rfl) (fun hv hw => by (try simp only [a0i hv,a0i hw]);rfl) (fun hv hw => by (try simp only [a0i hv,a0i hw]);rfl) ?_;refine a6l (x:=(bif (c_2.Kind != 1) then true else ((m_1.Value.length:Int) != 1))) (y:=false) rfl (fun hv => by (try simp only [a0i hv]);rfl) (fun hv => by (try simp only [a0i hv]);rfl) ?_;refine l9 (.bool (bif (decide (m_1.Func ≤ 5)) then (bif (c_2.Kind != 1) then true else ((m_1.Value.length:Int) != 1)) else false)) rfl<|y7<|?_;obtain rfl:=os hb1;exact ⟨[],[],_,_,rfl,rfl,⟨.refl _,trivial⟩,(.refl _)⟩
   ·rcases oi hf with ⟨c17,hf⟩ | ⟨c17,hf⟩
    ·refine x9 rfl c17<|sr<|l9 (.int .i64 9) rfl<|dk<|a0a<|?_;obtain rfl:=os hf;exact a0d ⟨trivial,trivial⟩ rfl (.refl _)
    ·refine y5 rfl (bf c17)<|a0e<|a2c<|a0f<|sr<|l9 (.int .i64 0) rfl<|dk<|a0a<|?_;obtain rfl:=os hf;exact a0d ⟨trivial,trivial⟩ rfl (.refl _)

/- impl.mutCode -/
def e4q:a0n :=
 (.seq (.reg (tq 2 (.box 4 (.t 0)) (tq 3 (.box 3 (.t 1)) (tm 4 (.c (.int .i64 0)) .done))))
 (.seq (.reg (tq 6 (.load 4 true (.t 2)) (tq 7 (.faddr 0 (.t 3)) (tq 8 (.load 1 false (.t 7)) (tq 9 (.call 254 [(.t 6),(.t 8)]) (tm 5 (.t 9) .done))))))
 (.seq (.seq (.reg (tm 10 (.t 5) (tq 11 (.bin .lss (.t 10) (.c (.int .i64 0))) .done)))
 (.cond (.t 11) (.seq (.reg (tm 4 (.c (.int .i64 11)) .done))
 .ret)
 .skip))
 (.seq (.reg (tq 12 (.load 3 true (.t 3)) (tq 13 (.faddr 1 (.t 2)) (tq 14 (.load 1 false (.t 13)) (tm 15 (.t 5) (tq 16 (.iaddr 8 (.t 14) (.t 15)) (tq 17 (.load 8 true (.t 16)) (.l ⟨(some 18),none,.call 260 [(.t 12),(.t 17)]⟩ []
 (tm 4 (.t 18) .done) .non))))))))
 .ret))))
theorem e4r:a1c Tryz.prog Tryz.f136 = some (e4q.erase,[.mov (.t 4)],19):=by kernel_rfl
def a9k (t_1:a0w) (m_2:a2w):Option Int :=
    (a4b t_1 m_2.Column).bind fun r_3 =>
    if (decide (r_3 < 0)) then
    some 11
    else
    (idx t_1.Columns r_3).bind fun x_6 =>
    (a8l m_2 x_6).bind fun r_8 =>
    some r_8
theorem b6h (t_1:a0w) (m_2:a2w) (r:Int) (hf:a9k t_1 m_2 = some r):y8 Tryz.prog 136 .flat [(a1b t_1),(a0c m_2)] (.int .i64 r):=by
 refine y8.of_awp mixed Tryz.func136 e4r nle ?_;rw [a0h];unfold a9k at hf;unfold e4q;refine (show awp Tryz.prog false 0 _ (ofL [(0,(a1b t_1)),(1,(a0c m_2))]) [] _ from ?_);refine sr<|x8 (a1o (j:=0) (c:=(.agg [(.str t_1.Name),(.lst 8 (t_1.Columns.map o5)),(.lst 1 (t_1.Unique.map encI)),(.bool t_1.Root)])) rfl trivial rfl rfl)<|x8 (a1o (j:=1) (c:=(.agg [(.str m_2.Column),(.int .i64 m_2.Func),(.lst 3 (m_2.Value.map l7))])) rfl trivial rfl rfl)<|l9 (.int .i64 0) rfl<|dk<|sr<|?_
 obtain ⟨r_3,er4,hf⟩:=ob hf
 refine o7 (.agg [(.str t_1.Name),(.lst 8 (t_1.Columns.map o5)),(.lst 1 (t_1.Unique.map encI)),(.bool t_1.Root)]) rfl nle rfl<|o7 (.ptr 1 0 0) rfl trivial rfl<|o7 (.str m_2.Column) rfl nle rfl<|x8 (a0g (a8g _ _ _ er4) rfl (.refl _) rfl)<|l9 (.int .i64 r_3) rfl<|dk<|o6<|sr<|l9 (.int .i64 r_3) rfl<|o7 (.bool (decide (r_3 < 0))) rfl rfl rfl<|dk<|?_
 rcases oi hf with ⟨c5,hf⟩ | ⟨c5,hf⟩
 ·refine x9 rfl c5<|sr<|l9 (.int .i64 11) rfl<|dk<|a0a<|?_;obtain rfl:=os hf;exact a0d ⟨trivial,trivial⟩ rfl (.refl _)
 ·refine y5 rfl (bf c5)<|a0e<|a0f<|sr<|?_
  obtain ⟨x_6,ex7,hf⟩:=ob hf
  obtain ⟨r_8,er9,hf⟩:=ob hf
  refine o7 (.agg [(.str m_2.Column),(.int .i64 m_2.Func),(.lst 3 (m_2.Value.map l7))]) rfl nle rfl<|o7 (.ptr 0 0 1) rfl trivial rfl<|o7 (.lst 8 (t_1.Columns.map o5)) rfl nle rfl<|l9 (.int .i64 r_3) rfl<|x8 (a3l (enc:=o5) rfl rfl (a8m ex7) (a8n ex7))<|o7 (o5 x_6) rfl nle rfl<|a2j (a0g (b7g _ _ _ er9) rfl (.refl _) rfl) a6a trivial<|l9 (.int .i64 r_8) rfl<|dk<|a0a<|?_;obtain rfl:=os hf;exact a0d ⟨trivial,trivial⟩ rfl (.refl _)

/- impl.mutsCode -/
def e4s:a0n :=
 (.seq (.reg (tq 2 (.box 4 (.t 0)) (tm 4 (.c (.int .i64 0)) .done)))
 (.seq (.seq (.reg (tm 8 (.t 1) (tq 9 (.len (.t 8)) (tm 10 (.c (.int .i64 0)) .done))))
 (.block 0 (.loop (.seq (.reg (tq 11 (.bin .lss (.t 10) (.t 9)) .done))
 (.seq (.cond (.t 11) .skip
 (.exit 0))
 (.seq (.block 1 (.seq (.reg (tq 12 (.iaddr 3 (.t 8) (.t 10)) (tq 13 (.load 3 true (.t 12)) (tq 6 (.box 3 (.c (.agg [(.str []),(.int .i64 0),.nil]))) (.q ⟨none,none,.store 3 (.t 6) (.t 13)⟩
 .done)))))
 (.seq (.reg (tq 14 (.load 4 true (.t 2)) (tq 15 (.load 3 true (.t 6)) (tq 16 (.call 136 [(.t 14),(.t 15)]) (tm 7 (.t 16) .done)))))
 (.seq (.reg (tm 17 (.t 7) (tq 18 (.bin .neq (.t 17) (.c (.int .i64 0))) .done)))
 (.cond (.t 18) (.seq (.reg (tm 19 (.t 7) (tm 4 (.t 19) .done)))
 .ret)
 .skip)))))
 (.reg (tq 20 (.bin .add (.t 10) (.c (.int .i64 1))) (tm 10 (.t 20) .done)))))))))
 (.cut (.seq (.reg (tm 4 (.c (.int .i64 0)) .done))
 .ret))))
theorem e4t:a1c Tryz.prog Tryz.f126 = some (e4s.erase,[.mov (.t 4)],21):=by kernel_rfl
def a4l (t_1:a0w):List a2w → Option (Fl Int Unit)
  | [] =>
    some (.go ())
  | x_31 :: xs =>
    (a9k t_1 x_31).bind fun r_32 =>
    if (r_32 != 0) then
    some (.ret r_32)
    else
    a4l t_1 xs 

def a9y (t_1:a0w) (list_2:(List a2w)):Option Int :=
    (a4l t_1 list_2 ).bind fun q => (match q with
    | .ret r => some r
    | .go _ =>
    some 0)
theorem c1w (t_1:a0w) (list_2:(List a2w)) (r:Int) (hf:a9y t_1 list_2 = some r):y8 Tryz.prog 126 .flat [(a1b t_1),(.lst 3 (list_2.map a0c))] (.int .i64 r):=by
 refine y8.of_awp mixed Tryz.func126 e4t nle ?_;rw [a0h];unfold a9y at hf;unfold e4s;refine (show awp Tryz.prog false 0 _ (ofL [(0,(a1b t_1)),(1,(.lst 3 (list_2.map a0c)))]) [] _ from ?_);refine sr<|x8 (a1o (j:=0) (c:=(.agg [(.str t_1.Name),(.lst 8 (t_1.Columns.map o5)),(.lst 1 (t_1.Unique.map encI)),(.bool t_1.Root)])) rfl trivial rfl rfl)<|l9 (.int .i64 0) rfl<|dk<|o6<|sr<|l9 (.lst 3 (list_2.map a0c)) rfl<|a1e (a1p (enc:=a0c) rfl) fun hl3 => l9 (.int .i64 0) rfl<|dk<|?_
 obtain ⟨p24,hb1,hf⟩:=ob hf
 refine a2i (X:={q:Unit // p24 = .go q}) (fun q => ([],[])) ?_ ?_
 ·refine a1m (X:={q:Nat // a4l t_1 (list_2.drop q)  = some p24}) (fun q => ([(2,(.ptr 0 0 0)),(8,(.lst 3 (list_2.map a0c))),(9,(.int .i64 (list_2.length:Int))),(10,(.int .i64 (q.1:Int)))],[.box 4 (.agg [(.str t_1.Name),(.lst 8 (t_1.Columns.map o5)),(.lst 1 (t_1.Unique.map encI)),(.bool t_1.Root)])])) (fun q => list_2.length - q.1) ⟨0,hb1⟩ ⟨[],[0],_,_,rfl,rfl,⟨.refl _,⟨.refl _,⟨.refl _,⟨.refl _,trivial⟩⟩⟩⟩,(.refl _)⟩ ?_
  rintro ⟨s10_17,hc1⟩
  have hc1:a4l t_1 (list_2.drop s10_17)  = some p24:=hc1
  refine (show awp Tryz.prog false 0 _ (ofL [(2,(.ptr 0 0 0)),(8,(.lst 3 (list_2.map a0c))),(9,(.int .i64 (list_2.length:Int))),(10,(.int .i64 (s10_17:Int)))]) [.box 4 (.agg [(.str t_1.Name),(.lst 8 (t_1.Columns.map o5)),(.lst 1 (t_1.Unique.map encI)),(.bool t_1.Root)])] _ from ?_)
  rcases a5p list_2 s10_17 with ⟨hie27,hd30⟩ | ⟨hlt25,x_31,hx26,hd30⟩
  ·rw [hd30,a4l.eq_1] at hc1
   have hq29:=dlf hie27
   refine sr<|o7 (.bool (decide ((s10_17:Int) < (list_2.length:Int)))) rfl rfl rfl<|dk<|o6<|y5 rfl hq29<|a2u<|a2t<|a1x<|a2s<|?_;obtain rfl:=os hc1;exact a3h ⟨_,rfl⟩ ⟨[],[],_,_,rfl,rfl,trivial,(.refl _)⟩
  ·rw [hd30,a4l.eq_2] at hc1
   have hq29:=dlt hlt25
   refine sr<|o7 (.bool (decide ((s10_17:Int) < (list_2.length:Int)))) rfl rfl rfl<|dk<|o6<|x9 rfl hq29<|a0e<|a0f<|o6<|a3c<|sr<|x8 (a1r (enc:=a0c) rfl rfl hx26)<|o7 (a0c x_31) rfl nle rfl<|x8 (a1o (j:=1) (c:=(.agg [(.str []),(.int .i64 0),.nil])) rfl trivial rfl rfl)<|a3w (a0v (v:=(.agg [(.str x_31.Column),(.int .i64 x_31.Func),(.lst 3 (x_31.Value.map l7))])) (y':=(.agg [(.str x_31.Column),(.int .i64 x_31.Func),(.lst 3 (x_31.Value.map l7))])) rfl rfl rfl trivial ⟨rfl,nle⟩ ⟨⟨rfl,trivial⟩,⟨⟨rfl,trivial⟩,⟨⟨rfl,trivial⟩,trivial⟩⟩⟩ rfl)<|dk<|?_
   refine sr<|?_
   obtain ⟨r_32,er33,hc1⟩:=ob hc1
   refine o7 (.agg [(.str t_1.Name),(.lst 8 (t_1.Columns.map o5)),(.lst 1 (t_1.Unique.map encI)),(.bool t_1.Root)]) rfl nle rfl<|o7 (.agg [(.str x_31.Column),(.int .i64 x_31.Func),(.lst 3 (x_31.Value.map l7))]) rfl nle rfl<|x8 (a0g (b6h _ _ _ er33) rfl (.refl _) rfl)<|l9 (.int .i64 r_32) rfl<|dk<|sr<|l9 (.int .i64 r_32) rfl<|o7 (.bool (r_32 != 0)) rfl rfl rfl<|dk<|?_
   rcases oi hc1 with ⟨c34,hc1⟩ | ⟨c34,hc1⟩
   ·refine x9 rfl c34<|sr<|l9 (.int .i64 r_32) rfl<|l9 (.int .i64 r_32) rfl<|dk<|a0a<|?_;obtain rfl:=os hc1;obtain rfl:=os hf;exact a0d ⟨trivial,trivial⟩ rfl (.refl _)
   ·refine y5 rfl (bf c34)<|a0e<|a2c<|a0f<|a0k<|o7 (.int .i64 (w64 ((s10_17:Int) + 1))) rfl rfl rfl<|l9 (.int .i64 (w64 ((s10_17:Int) + 1))) rfl<|y7<|?_;exact a1t ⟨(s10_17 + 1),hc1⟩ (mul hlt25) ⟨[],[0],_,_,rfl,rfl,⟨.refl _,⟨.refl _,⟨.refl _,⟨.of_eq (congrArg (AV.int _) (a1w hlt25 hl3)),trivial⟩⟩⟩⟩,(.refl _)⟩
 ·rintro ⟨_,rfl⟩
  refine sr<|l9 (.int .i64 0) rfl<|dk<|a0a<|?_;obtain rfl:=os hf;exact a0d ⟨trivial,trivial⟩ rfl (.refl _)

/- slices.Clone[[]impl.Atom,impl.Atom] -/
def e4u:a0n :=
 (.seq (.reg (tm 2 (.c .nil) .done))
 (.seq (.seq (.reg (tm 3 (.t 0) (tq 4 (.isnil false (.t 3)) .done)))
 (.cond (.t 4) (.seq (.reg (tm 2 (.c .nil) .done))
 .ret)
 .skip))
 (.seq (.reg (tq 5 (.bslice 3 []) (tm 6 (.t 0) (tq 7 (.append 3 32 (.t 5) (.t 6)) (tm 2 (.t 7) .done)))))
 .ret)))
theorem e4v:a1c Tryz.prog Tryz.f303 = some (e4u.erase,[.mov (.t 2)],8):=by kernel_rfl
def a1s (s_1:(List o8)):Option (List o8) :=
    if ([] ++ s_1).length ≤ 2 ^ 30 then
    some ([] ++ s_1)
    else none
theorem a5l (s_1:(List o8)) (r:(List o8)) (hf:a1s s_1 = some r):y8 Tryz.prog 303 .fresh [(.lst 3 (s_1.map l7))] (.lst 3 (r.map l7)):=by
 refine y8.of_awp mixed Tryz.func303 e4v nle ?_;rw [a0h];unfold a1s at hf;unfold e4u;refine (show awp Tryz.prog true 0 _ (ofL [(0,(.lst 3 (s_1.map l7)))]) [] _ from ?_);refine sr<|l9 .nil rfl<|dk<|o6<|sr<|l9 (.lst 3 (s_1.map l7)) rfl<|e1w (l:=s_1.map l7) rfl<|?_
 intro b hb3
 rcases b with _ | _
 ·refine dk<|y5 rfl rfl<|a0e<|a0f<|sr<|?_
  obtain ⟨g2,hf⟩:=og hf
  refine x8 (a1z (j:=0) (as':=[]) rfl (fun _ => by decide) trivial (.refl _) rfl rfl rfl) ?_;refine l9 (.lst 3 (s_1.map l7)) rfl ?_
  refine x8 (a5n (j:=1) (L:=(([] ++ s_1).map l7)) (len:=([] ++ s_1).length) rfl false rfl rfl (fun _ => flm (fun _ => rfl) _) (fun _ _ _ => flm (fun _ => rfl) _) (by decide) ((by simp)) (by simp <;> omega) g2 rfl rfl) ?_
  refine l9 (.own 1 0 (([] ++ s_1).length)) rfl<|dk<|a0a<|?_;obtain rfl:=os hf;exact a4r ⟨trivial,trivial⟩ rfl (by decide) (.of_eq (congrArg (AV.lst _) (tk (enc:=l7) ([] ++ s_1))))
 ·have he4:s_1 = []:=e0r (hb3 rfl)
  have hE:(if ([] ++ s_1).length ≤ 2 ^ 30 then some ([] ++ s_1) else none) = (some []):=by simp [he4]
  rw [hE] at hf;refine dk<|x9 rfl rfl<|sr<|l9 .nil rfl<|dk<|a0a<|?_;obtain rfl:=os hf;exact a4r ⟨trivial,trivial⟩ rfl (by decide) (.nil _)

/- impl.copyRow -/
def e4w:a0n :=
 (.seq (.reg (tq 1 (.box 2 (.t 0)) (tq 2 (.box 2 (.c (.agg [(.int .i64 0),.nil]))) .done)))
 (.seq (.reg (tq 6 (.bslice 1 []) (tm 3 (.t 6) .done)))
 (.seq (.seq (.reg (tq 7 (.faddr 1 (.t 1)) (tq 8 (.load 1 false (.t 7)) (tq 9 (.len (.t 8)) (tm 10 (.c (.int .i64 0)) .done)))))
 (.block 0 (.loop (.seq (.reg (tq 11 (.bin .lss (.t 10) (.t 9)) .done))
 (.seq (.cond (.t 11) .skip
 (.exit 0))
 (.seq (.block 1 (.seq (.reg (tq 12 (.iaddr 1 (.t 8) (.t 10)) (tq 13 (.load 1 false (.t 12)) (tm 5 (.t 13) .done))))
 (.reg (tm 14 (.t 3) (tm 15 (.t 5) (tq 16 (.call 303 [(.t 15)]) (tq 17 (.bslice 1 [(.t 16)]) (tq 18 (.append 1 24 (.t 14) (.t 17)) (tm 3 (.t 18) .done)))))))))
 (.reg (tq 19 (.bin .add (.t 10) (.c (.int .i64 1))) (tm 10 (.t 19) .done)))))))))
 (.cut (.seq (.seq (.reg (tq 20 (.faddr 1 (.t 1)) (.q ⟨none,none,.store 1 (.t 20) (.c .nil)⟩
 .done)))
 (.seq (.reg (tm 21 (.t 3) (tq 22 (.len (.t 21)) (tq 23 (.bin .gtr (.t 22) (.c (.int .i64 0))) .done))))
 (.cond (.t 23) (.reg (tm 24 (.t 3) (tq 25 (.faddr 1 (.t 1)) (.q ⟨none,none,.store 1 (.t 25) (.t 24)⟩
 .done))))
 .skip)))
 (.seq (.reg (tq 26 (.load 2 true (.t 1)) (.q ⟨none,none,.store 2 (.t 2) (.t 26)⟩
 .done)))
 .ret))))))
theorem e4x:a1c Tryz.prog Tryz.f186 = some (e4w.erase,[.load 2 true (.t 2)],27):=by kernel_rfl
def a5a :List (List o8) → (List (List o8)) → Option (List (List o8))
  | [],cells_18 =>
    some cells_18
  | x_33 :: xs,cells_18 =>
    (a1s x_33).bind fun r_34 =>
    if (cells_18 ++ [r_34]).length ≤ 2 ^ 30 then
    a5a xs  (cells_18 ++ [r_34])
    else none

def b1l (r_1:a4p):Option a4p :=
    (a5a r_1.Cells []).bind fun cells_25 =>
    if (decide ((cells_25.length:Int) > 0)) then
    some (⟨r_1.Id,cells_25⟩:a4p)
    else
    some (⟨r_1.Id,[]⟩:a4p)
theorem c4h (r_1:a4p) (r:a4p) (hf:b1l r_1 = some r):y8 Tryz.prog 186 .fresh [(a3g r_1)] (a3g r):=by
 refine y8.of_awp mixed Tryz.func186 e4x nle ?_;rw [a0h];unfold b1l at hf;unfold e4w;refine (show awp Tryz.prog true 0 _ (ofL [(0,(a3g r_1))]) [] _ from ?_);refine sr<|x8 (a1o (j:=0) (c:=(.agg [(.int .i64 r_1.Id),(.lst 1 (r_1.Cells.map (a1n 3 l7)))])) rfl trivial rfl rfl)<|x8 (a1o (j:=1) (c:=(.agg [(.int .i64 0),.nil])) rfl trivial rfl rfl)<|dk<|sr<|?_;refine x8 (a1z (j:=2) (as':=[]) rfl (fun _ => by decide) trivial (.refl _) rfl rfl rfl) ?_;refine l9 (.own 2 0 0) rfl<|dk<|o6<|sr<|o7 (.ptr 0 0 1) rfl trivial rfl<|o7 (.lst 1 (r_1.Cells.map (a1n 3 l7))) rfl nle rfl<|a1e (a1p (enc:=(a1n 3 l7)) rfl) fun hl2 => ?_
 refine l9 (.int .i64 0) rfl<|dk<|?_
 obtain ⟨cells_25,hb1,hf⟩:=ob hf
 refine a1k ([(1,(.ptr 0 0 0)),(2,(.ptr 1 0 0)),(3,(.own 2 0 cells_25.length))],[.box 2 (.agg [(.int .i64 r_1.Id),(.lst 1 (r_1.Cells.map (a1n 3 l7)))]),.box 2 (.agg [(.int .i64 0),.nil]),.row 1 (cells_25.map (a1n 3 l7))]) ?_ ?_
 ·refine a1m (X:={q:(Nat × (List (List o8))) // a5a (r_1.Cells.drop q.1) q.2 = some cells_25}) (fun q => ([(1,(.ptr 0 0 0)),(2,(.ptr 1 0 0)),(3,(.own 2 0 q.1.2.length)),(8,(.lst 1 (r_1.Cells.map (a1n 3 l7)))),(9,(.int .i64 (r_1.Cells.length:Int))),(10,(.int .i64 (q.1.1:Int)))],[.box 2 (.agg [(.int .i64 r_1.Id),(.lst 1 (r_1.Cells.map (a1n 3 l7)))]),.box 2 (.agg [(.int .i64 0),.nil]),.row 1 (q.1.2.map (a1n 3 l7))])) (fun q => r_1.Cells.length - q.1.1) ⟨(0,[]),hb1⟩ ⟨[],[0,1,2],_,_,rfl,rfl,⟨.refl _,⟨.refl _,⟨.of_eq (congrArg (AV.own _ 0) (by simp)),⟨.refl _,⟨.refl _,⟨.refl _,trivial⟩⟩⟩⟩⟩⟩,(.refl _)⟩ ?_
  rintro ⟨⟨s10_17,cells_18⟩,hc1⟩
  have hc1:a5a (r_1.Cells.drop s10_17) cells_18 = some cells_25:=hc1
  refine (show awp Tryz.prog true 0 _ (ofL [(1,(.ptr 0 0 0)),(2,(.ptr 1 0 0)),(3,(.own 2 0 cells_18.length)),(8,(.lst 1 (r_1.Cells.map (a1n 3 l7)))),(9,(.int .i64 (r_1.Cells.length:Int))),(10,(.int .i64 (s10_17:Int)))]) [.box 2 (.agg [(.int .i64 r_1.Id),(.lst 1 (r_1.Cells.map (a1n 3 l7)))]),.box 2 (.agg [(.int .i64 0),.nil]),.row 1 (cells_18.map (a1n 3 l7))] _ from ?_)
  rcases a5p r_1.Cells s10_17 with ⟨hie29,hd32⟩ | ⟨hlt27,x_33,hx28,hd32⟩
  ·rw [hd32,a5a.eq_1] at hc1
   have hq31:=dlf hie29
   refine sr<|o7 (.bool (decide ((s10_17:Int) < (r_1.Cells.length:Int)))) rfl rfl rfl<|dk<|o6<|y5 rfl hq31<|a2u<|a2t<|a1x<|a2s<|?_;obtain rfl:=os hc1;exact ⟨[],[0,1,2],_,_,rfl,rfl,⟨.refl _,⟨.refl _,⟨.refl _,trivial⟩⟩⟩,(.refl _)⟩
  ·rw [hd32,a5a.eq_2] at hc1
   have hq31:=dlt hlt27
   refine sr<|o7 (.bool (decide ((s10_17:Int) < (r_1.Cells.length:Int)))) rfl rfl rfl<|dk<|o6<|x9 rfl hq31<|a0e<|a0f<|o6<|a3c<|sr<|x8 (a1r (enc:=(a1n 3 l7)) rfl rfl hx28)<|o7 (.lst 3 (x_33.map l7)) rfl ⟨rfl,rfl⟩ rfl<|l9 (.lst 3 (x_33.map l7)) rfl<|dk<|a0k<|?_
   obtain ⟨r_34,er35,hc1⟩:=ob hc1
   obtain ⟨g36,hc1⟩:=og hc1
   refine l9 (.own 2 0 cells_18.length) rfl<|l9 (.lst 3 (x_33.map l7)) rfl<|x8 (b1e (v:=(.own 3 0 r_34.length)) (h':=[.row 3 (r_34.map l7)]) (a5l _ _ er35) rfl (.refl _) (by simp only [a4h,a5o,List.length_map,List.nil_append,List.append_nil,List.cons_append];rfl))<|?_;refine x8 (a1z (j:=4) (as':=[(.lst 3 (r_34.map l7))]) rfl (fun _ => by decide) ⟨rfl,trivial⟩ (.cons (.of_eq (congrArg (AV.lst _) (tk (enc:=l7) r_34))) .nil) rfl rfl rfl) ?_
   refine x8 (a5n (j:=5) (L:=((cells_18 ++ [r_34]).map (a1n 3 l7))) (len:=(cells_18 ++ [r_34]).length) rfl true rfl rfl (fun h => Bool.noConfusion h) (fun _ _ h => (c0j (show AV.own _ _ _ = AV.lst _ _ from h)).elim) (by decide) (c4b (enc:=(a1n 3 l7)) cells_18 [r_34] _ (by rfl)) (by simp <;> omega) g36 rfl rfl) ?_
   refine l9 (.own 5 0 ((cells_18 ++ [r_34]).length)) rfl<|y7<|a2c<|a0f<|a0k<|o7 (.int .i64 (w64 ((s10_17:Int) + 1))) rfl rfl rfl<|l9 (.int .i64 (w64 ((s10_17:Int) + 1))) rfl<|y7<|?_;exact a1t ⟨((s10_17 + 1),cells_18 ++ [r_34]),hc1⟩ (mul hlt27) ⟨[],[0,1,5],_,_,rfl,rfl,⟨.refl _,⟨.refl _,⟨.refl _,⟨.refl _,⟨.refl _,⟨.of_eq (congrArg (AV.int _) (a1w hlt27 hl2)),trivial⟩⟩⟩⟩⟩⟩,(.refl _)⟩
 ·refine o6<|sr<|o7 (.ptr 0 0 1) rfl trivial rfl<|a3w (a0v (v:=.nil) (y':=(.agg [(.int .i64 r_1.Id),.nil])) rfl rfl rfl trivial ⟨rfl,nle⟩ ⟨⟨rfl,trivial⟩,trivial⟩ rfl)<|dk<|sr<|l9 (.own 2 0 cells_25.length) rfl<|a1e (b2l rfl rfl) fun hl37 => o7 (.bool (decide ((cells_25.length:Int) > 0))) rfl rfl rfl<|dk<|?_
  rcases oi hf with ⟨c38,hf⟩ | ⟨c38,hf⟩
  ·refine x9 rfl c38<|a0k<|l9 (.own 2 0 cells_25.length) rfl<|o7 (.ptr 0 0 1) rfl trivial rfl<|a3w (a0v (v:=(.own 2 0 cells_25.length)) (y':=(.agg [(.int .i64 r_1.Id),(.own 2 0 cells_25.length)])) rfl rfl rfl trivial ⟨rfl,nle⟩ ⟨⟨rfl,trivial⟩,trivial⟩ rfl)<|dk<|sr<|o7 (.agg [(.int .i64 r_1.Id),(.own 2 0 cells_25.length)]) rfl nle rfl<|a3w (a0v (v:=(.agg [(.int .i64 r_1.Id),(.own 2 0 cells_25.length)])) (y':=(.agg [(.int .i64 r_1.Id),(.own 2 0 cells_25.length)])) rfl rfl rfl trivial ⟨rfl,nle⟩ ⟨⟨rfl,trivial⟩,⟨⟨rfl,trivial⟩,trivial⟩⟩ rfl)<|dk<|a0a<|?_;obtain rfl:=os hf;exact a4r ⟨nle,trivial⟩ rfl (by decide) (.agg (.cons (.refl _) (.cons (.of_eq (congrArg (AV.lst _) (tk (enc:=(a1n 3 l7)) cells_25))) .nil)))
  ·refine y5 rfl (bf c38)<|a0e<|a0f<|sr<|o7 (.agg [(.int .i64 r_1.Id),.nil]) rfl nle rfl<|a3w (a0v (v:=(.agg [(.int .i64 r_1.Id),.nil])) (y':=(.agg [(.int .i64 r_1.Id),.nil])) rfl rfl rfl trivial ⟨rfl,nle⟩ ⟨⟨rfl,trivial⟩,⟨⟨rfl,trivial⟩,trivial⟩⟩ rfl)<|dk<|a0a<|?_;obtain rfl:=os hf;exact a4r ⟨nle,trivial⟩ rfl (by decide) (.agg (.cons (.refl _) (.cons (.nil _) .nil)))

/- slices.Grow[[]impl.Atom,impl.Atom] -/
def d3e:a0n :=
 (.seq (.reg (tm 4 (.c .nil) .done))
 (.seq (.seq (.reg (tm 5 (.t 1) (tq 6 (.bin .lss (.t 5) (.c (.int .i64 0))) .done)))
 (.cond (.t 6) (.reg (tq 7 (.never) (.q ⟨none,none,.never⟩
 .done)))
 .skip))
 (.cut (.seq (.seq (.reg (tm 8 (.t 1) (tm 9 (.t 0) (tq 10 (.cap (.t 9)) (tm 11 (.t 0) (tq 12 (.len (.t 11)) (tq 13 (.bin .sub (.t 10) (.t 12)) (tq 14 (.bin .sub (.t 8) (.t 13)) (tm 1 (.t 14) .done)))))))))
 (.seq (.reg (tm 15 (.t 1) (tq 16 (.bin .gtr (.t 15) (.c (.int .i64 0))) .done)))
 (.cond (.t 16) (.reg (tm 17 (.t 0) (tm 18 (.t 0) (tq 19 (.cap (.t 18)) (tq 20 (.slice 3 (.t 17) none (some (.t 19))) (tm 21 (.t 1) (tq 22 (.appz 3 32 (.agg [(.int .i64 0),(.int .i64 0),(.str [])]) (.t 20) (.t 21)) (tm 23 (.t 0) (tq 24 (.len (.t 23)) (tq 25 (.slice 3 (.t 22) none (some (.t 24))) (tm 0 (.t 25) .done)))))))))))
 .skip)))
 (.seq (.reg (tm 26 (.t 0) (tm 4 (.t 26) .done)))
 .ret)))))
theorem d7j:a1c Tryz.prog Tryz.f411 = some (d3e.erase,[.mov (.t 4)],27):=by kernel_rfl
def a3a (n_1:Int):Option (List o8) :=
    ((if (decide (n_1 < 0)) then
    none
    else
    some ():Option Unit)).bind fun _ =>
    if (decide (w64 (n_1 - (w64 (0 - 0))) > 0)) then
    if 0 < w64 (n_1 - (w64 (0 - 0))) ∧ w64 (n_1 - (w64 (0 - 0))) ≤ 2 ^ 30 then
    if (0:Int) ≤ 0 ∧ 0 ≤ (((w64 (n_1 - (w64 (0 - 0)))).toNat:Nat):Int) then
    some ((List.replicate ((w64 (n_1 - (w64 (0 - 0)))).toNat) (⟨0,0,[]⟩:o8)).take 0)
    else none
    else none
    else
    some []
theorem a9t (n_1:Int) (r:(List o8)) (hf:a3a n_1 = some r):a1q Tryz.prog true 411 [.nil,(.int .i64 n_1)] [] (.own 0 0 r.length) [.row 3 (r.map l7)]:=by
 refine a1q.of_awp mixed Tryz.func411 d7j nle ?_;rw [a0h];unfold a3a at hf;unfold d3e;refine (show awp Tryz.prog true 0 _ (ofL [(0,.nil),(1,(.int .i64 n_1))]) [] _ from ?_);refine sr<|l9 .nil rfl<|dk<|o6<|?_
 obtain ⟨p3,hb1,hf⟩:=ob hf
 refine a1k ([(0,.nil),(1,(.int .i64 n_1))],[]) ?_ ?_
 ·refine sr<|l9 (.int .i64 n_1) rfl<|o7 (.bool (decide (n_1 < 0))) rfl rfl rfl<|dk<|?_
  rcases oi hb1 with ⟨c4,hb1⟩ | ⟨c4,hb1⟩
  ·refine x9 rfl c4<|a0k<|?_
   cases hb1
  ·refine y5 rfl (bf c4)<|a0e<|?_;obtain rfl:=os hb1;exact ⟨[],[],_,_,rfl,rfl,⟨.refl _,⟨.refl _,trivial⟩⟩,(.refl _)⟩
 ·refine o6<|sr<|l9 (.int .i64 n_1) rfl<|l9 .nil rfl<|x8 (e0e rfl)<|l9 .nil rfl<|x8 (d0d rfl)<|o7 (.int .i64 (w64 (0 - 0))) rfl rfl rfl<|o7 (.int .i64 (w64 (n_1 - (w64 (0 - 0))))) rfl rfl rfl<|l9 (.int .i64 (w64 (n_1 - (w64 (0 - 0))))) rfl<|dk<|sr<|l9 (.int .i64 (w64 (n_1 - (w64 (0 - 0))))) rfl<|o7 (.bool (decide (w64 (n_1 - (w64 (0 - 0))) > 0))) rfl rfl rfl<|dk<|?_
  rcases oi hf with ⟨c5,hf⟩ | ⟨c5,hf⟩
  ·refine x9 rfl c5<|a0k<|?_
   obtain ⟨g6,hf⟩:=og hf
   obtain ⟨g7,hf⟩:=og hf
   refine l9 .nil rfl<|l9 .nil rfl<|x8 (e0e rfl)<|o7 .nil rfl ⟨⟨Int.le_refl 0,Int.le_refl 0,Int.le_refl 0⟩,trivial⟩ rfl<|l9 (.int .i64 (w64 (n_1 - (w64 (0 - 0))))) rfl<|x8 (e0s (j:=0) (enc:=l7) (y:=(⟨0,0,[]⟩:o8)) rfl rfl (.refl _) g6 rfl)<|l9 .nil rfl<|x8 (d0d rfl)<|x8 (c3x rfl rfl rfl g7.1 g7.2)<|l9 (.own 0 0 0) rfl<|dk<|sr<|l9 (.own 0 0 0) rfl<|l9 (.own 0 0 0) rfl<|dk<|a0a<|?_;obtain rfl:=os hf;exact a5j [.trim 4] [1] rfl ⟨trivial,trivial⟩ rfl ((.cons ((LeO.tk (enc:=l7) (List.replicate ((w64 (n_1 - (w64 (0 - 0)))).toNat) (⟨0,0,[]⟩:o8)) _)) .nil)) (.of_eq (congrArg (AV.own _ 0) (by simp)))
  ·refine y5 rfl (bf c5)<|a0e<|a0f<|sr<|l9 .nil rfl<|l9 .nil rfl<|dk<|a0a<|?_;obtain rfl:=os hf;exact a5j [.nilT 4 3] [0] rfl ⟨trivial,trivial⟩ rfl (.refl _) (.refl _)

/- slices.Concat[[]impl.Atom,impl.Atom] -/
def e4y:a0n :=
 (.seq (.reg (tm 2 (.c .nil) .done))
 (.seq (.reg (tm 3 (.c (.int .i64 0)) .done))
 (.seq (.seq (.reg (tm 9 (.t 0) (tq 10 (.len (.t 9)) (tm 11 (.c (.int .i64 0)) .done))))
 (.block 0 (.loop (.seq (.reg (tq 12 (.bin .lss (.t 11) (.t 10)) .done))
 (.seq (.cond (.t 12) .skip
 (.exit 0))
 (.seq (.block 1 (.seq (.reg (tq 13 (.iaddr 1 (.t 9) (.t 11)) (tq 14 (.load 1 false (.t 13)) (tm 5 (.t 14) .done))))
 (.seq (.reg (tm 15 (.t 3) (tm 16 (.t 5) (tq 17 (.len (.t 16)) (tq 18 (.bin .add (.t 15) (.t 17)) (tm 3 (.t 18) .done))))))
 (.seq (.reg (tm 19 (.t 3) (tq 20 (.bin .lss (.t 19) (.c (.int .i64 0))) .done)))
 (.cond (.t 20) (.reg (tq 21 (.never) (.q ⟨none,none,.never⟩
 .done)))
 .skip)))))
 (.reg (tq 22 (.bin .add (.t 11) (.c (.int .i64 1))) (tm 11 (.t 22) .done)))))))))
 (.cut (.seq (.reg (tm 23 (.t 3) (tq 24 (.call 411 [(.c .nil),(.t 23)]) (tm 6 (.t 24) .done))))
 (.seq (.seq (.reg (tm 25 (.t 0) (tq 26 (.len (.t 25)) (tm 27 (.c (.int .i64 0)) .done))))
 (.block 2 (.loop (.seq (.reg (tq 28 (.bin .lss (.t 27) (.t 26)) .done))
 (.seq (.cond (.t 28) .skip
 (.exit 2))
 (.seq (.block 3 (.seq (.reg (tq 29 (.iaddr 1 (.t 25) (.t 27)) (tq 30 (.load 1 false (.t 29)) (tm 8 (.t 30) .done))))
 (.reg (tm 31 (.t 6) (tm 32 (.t 8) (tq 33 (.append 3 32 (.t 31) (.t 32)) (tm 6 (.t 33) .done)))))))
 (.reg (tq 34 (.bin .add (.t 27) (.c (.int .i64 1))) (tm 27 (.t 34) .done)))))))))
 (.cut (.seq (.reg (tm 35 (.t 6) (tm 2 (.t 35) .done)))
 .ret))))))))
theorem e4z:a1c Tryz.prog Tryz.f353 = some (e4y.erase,[.mov (.t 2)],36):=by kernel_rfl
def a1f :List (List o8) → Int → Option Int
  | [],size_15 =>
    some size_15
  | x_30 :: xs,size_15 =>
    if (decide (w64 (size_15 + (x_30.length:Int)) < 0)) then
    none
    else
    a1f xs (w64 (size_15 + (x_30.length:Int))) 

def a1g :List (List o8) → (List o8) → Option (List o8)
  | [],newslice_47 =>
    some newslice_47
  | x_60 :: xs,newslice_47 =>
    if (newslice_47 ++ x_60).length ≤ 2 ^ 30 then
    a1g xs  (newslice_47 ++ x_60)
    else none

def a3f (slices_1:(List (List o8))):Option (List o8) :=
    (a1f slices_1 0).bind fun size_22 =>
    (a3a size_22).bind fun r_33 =>
    (a1g slices_1 r_33).bind fun newslice_52 =>
    some newslice_52
theorem a9z (slices_1:(List (List o8))) (r:(List o8)) (hf:a3f slices_1 = some r):y8 Tryz.prog 353 .fresh [(.lst 1 (slices_1.map (a1n 3 l7)))] (.lst 3 (r.map l7)):=by
 refine y8.of_awp mixed Tryz.func353 e4z nle ?_;rw [a0h];unfold a3f at hf;unfold e4y;refine (show awp Tryz.prog true 0 _ (ofL [(0,(.lst 1 (slices_1.map (a1n 3 l7))))]) [] _ from ?_);refine sr<|l9 .nil rfl<|dk<|sr<|l9 (.int .i64 0) rfl<|dk<|o6<|sr<|l9 (.lst 1 (slices_1.map (a1n 3 l7))) rfl<|a1e (a1p (enc:=(a1n 3 l7)) rfl) fun hl2 => l9 (.int .i64 0) rfl<|dk<|?_
 obtain ⟨size_22,hb1,hf⟩:=ob hf
 refine a1k ([(0,(.lst 1 (slices_1.map (a1n 3 l7)))),(3,(.int .i64 size_22))],[]) ?_ ?_
 ·refine a1m (X:={q:(Int × Nat) // a1f (slices_1.drop q.2) q.1 = some size_22}) (fun q => ([(0,(.lst 1 (slices_1.map (a1n 3 l7)))),(3,(.int .i64 q.1.1)),(9,(.lst 1 (slices_1.map (a1n 3 l7)))),(10,(.int .i64 (slices_1.length:Int))),(11,(.int .i64 (q.1.2:Int)))],[])) (fun q => slices_1.length - q.1.2) ⟨(0,0),hb1⟩ ⟨[],[],_,_,rfl,rfl,⟨.refl _,⟨.refl _,⟨.refl _,⟨.refl _,⟨.refl _,trivial⟩⟩⟩⟩⟩,(.refl _)⟩ ?_
  rintro ⟨⟨size_15,s11_16⟩,hc1⟩
  have hc1:a1f (slices_1.drop s11_16) size_15 = some size_22:=hc1
  refine (show awp Tryz.prog true 0 _ (ofL [(0,(.lst 1 (slices_1.map (a1n 3 l7)))),(3,(.int .i64 size_15)),(9,(.lst 1 (slices_1.map (a1n 3 l7)))),(10,(.int .i64 (slices_1.length:Int))),(11,(.int .i64 (s11_16:Int)))]) [] _ from ?_)
  rcases a5p slices_1 s11_16 with ⟨hie26,hd29⟩ | ⟨hlt24,x_30,hx25,hd29⟩
  ·rw [hd29,a1f.eq_1] at hc1
   have hq28:=dlf hie26
   refine sr<|o7 (.bool (decide ((s11_16:Int) < (slices_1.length:Int)))) rfl rfl rfl<|dk<|o6<|y5 rfl hq28<|a2u<|a2t<|a1x<|a2s<|?_;obtain rfl:=os hc1;exact ⟨[],[],_,_,rfl,rfl,⟨.refl _,⟨.refl _,trivial⟩⟩,(.refl _)⟩
  ·rw [hd29,a1f.eq_2] at hc1
   have hq28:=dlt hlt24
   refine sr<|o7 (.bool (decide ((s11_16:Int) < (slices_1.length:Int)))) rfl rfl rfl<|dk<|o6<|x9 rfl hq28<|a0e<|a0f<|o6<|a3c<|sr<|x8 (a1r (enc:=(a1n 3 l7)) rfl rfl hx25)<|o7 (.lst 3 (x_30.map l7)) rfl ⟨rfl,rfl⟩ rfl<|l9 (.lst 3 (x_30.map l7)) rfl<|dk<|sr<|l9 (.int .i64 size_15) rfl<|l9 (.lst 3 (x_30.map l7)) rfl<|a1e (a1p (enc:=l7) rfl) fun hl31 => o7 (.int .i64 (w64 (size_15 + (x_30.length:Int)))) rfl rfl rfl<|l9 (.int .i64 (w64 (size_15 + (x_30.length:Int)))) rfl<|dk<|sr<|l9 (.int .i64 (w64 (size_15 + (x_30.length:Int)))) rfl<|?_
   refine o7 (.bool (decide (w64 (size_15 + (x_30.length:Int)) < 0))) rfl rfl rfl<|dk<|?_
   rcases oi hc1 with ⟨c32,hc1⟩ | ⟨c32,hc1⟩
   ·refine x9 rfl c32<|a0k<|?_
    cases hc1
   ·refine y5 rfl (bf c32)<|a0e<|a2c<|a0f<|a0k<|o7 (.int .i64 (w64 ((s11_16:Int) + 1))) rfl rfl rfl<|l9 (.int .i64 (w64 ((s11_16:Int) + 1))) rfl<|y7<|?_;exact a1t ⟨(w64 (size_15 + (x_30.length:Int)),(s11_16 + 1)),hc1⟩ (mul hlt24) ⟨[],[],_,_,rfl,rfl,⟨.refl _,⟨.refl _,⟨.refl _,⟨.refl _,⟨.of_eq (congrArg (AV.int _) (a1w hlt24 hl2)),trivial⟩⟩⟩⟩⟩,(.refl _)⟩
 ·refine sr<|?_
  obtain ⟨r_33,er34,hf⟩:=ob hf
  refine l9 (.int .i64 size_22) rfl ?_;refine x8 (a3m (v:=(.own 0 0 r_33.length)) (h2:=[.row 3 (r_33.map l7)]) [] [] (fun _ => rfl) (a9t _ _ er34) rfl (.refl _) (.refl _) rfl rfl) ?_;refine l9 (.own 0 0 r_33.length) rfl<|dk<|o6<|sr<|l9 (.lst 1 (slices_1.map (a1n 3 l7))) rfl<|a1e (a1p (enc:=(a1n 3 l7)) rfl) fun hl35 => l9 (.int .i64 0) rfl<|dk<|?_
  obtain ⟨newslice_52,hb1,hf⟩:=ob hf
  refine a1k ([(6,(.own 0 0 newslice_52.length))],[.row 3 (newslice_52.map l7)]) ?_ ?_
  ·refine a1m (X:={q:(Nat × (List o8)) // a1g (slices_1.drop q.1) q.2 = some newslice_52}) (fun q => ([(6,(.own 0 0 q.1.2.length)),(25,(.lst 1 (slices_1.map (a1n 3 l7)))),(26,(.int .i64 (slices_1.length:Int))),(27,(.int .i64 (q.1.1:Int)))],[.row 3 (q.1.2.map l7)])) (fun q => slices_1.length - q.1.1) ⟨(0,r_33),hb1⟩ ⟨[],[0],_,_,rfl,rfl,⟨.refl _,⟨.refl _,⟨.refl _,⟨.refl _,trivial⟩⟩⟩⟩,(.refl _)⟩ ?_
   rintro ⟨⟨s27_46,newslice_47⟩,hc1⟩
   have hc1:a1g (slices_1.drop s27_46) newslice_47 = some newslice_52:=hc1
   refine (show awp Tryz.prog true 0 _ (ofL [(6,(.own 0 0 newslice_47.length)),(25,(.lst 1 (slices_1.map (a1n 3 l7)))),(26,(.int .i64 (slices_1.length:Int))),(27,(.int .i64 (s27_46:Int)))]) [.row 3 (newslice_47.map l7)] _ from ?_)
   rcases a5p slices_1 s27_46 with ⟨hie56,hd59⟩ | ⟨hlt54,x_60,hx55,hd59⟩
   ·rw [hd59,a1g.eq_1] at hc1
    have hq58:=dlf hie56
    refine sr<|o7 (.bool (decide ((s27_46:Int) < (slices_1.length:Int)))) rfl rfl rfl<|dk<|o6<|y5 rfl hq58<|a2u<|a2t<|a1x<|a2s<|?_;obtain rfl:=os hc1;exact ⟨[],[0],_,_,rfl,rfl,⟨.refl _,trivial⟩,(.refl _)⟩
   ·rw [hd59,a1g.eq_2] at hc1
    have hq58:=dlt hlt54
    refine sr<|o7 (.bool (decide ((s27_46:Int) < (slices_1.length:Int)))) rfl rfl rfl<|dk<|o6<|x9 rfl hq58<|a0e<|a0f<|o6<|a3c<|sr<|x8 (a1r (enc:=(a1n 3 l7)) rfl rfl hx55)<|o7 (.lst 3 (x_60.map l7)) rfl ⟨rfl,rfl⟩ rfl<|l9 (.lst 3 (x_60.map l7)) rfl<|dk<|a0k<|?_
    obtain ⟨g61,hc1⟩:=og hc1
    refine l9 (.own 0 0 newslice_47.length) rfl<|l9 (.lst 3 (x_60.map l7)) rfl<|?_
    refine x8 (a5n (j:=1) (L:=((newslice_47 ++ x_60).map l7)) (len:=(newslice_47 ++ x_60).length) rfl false rfl rfl (fun _ => flm (fun _ => rfl) _) (fun _ _ _ => flm (fun _ => rfl) _) (by decide) (apl (enc:=l7) newslice_47 x_60) (by simp <;> omega) g61 rfl rfl) ?_
    refine l9 (.own 1 0 ((newslice_47 ++ x_60).length)) rfl<|y7<|a2c<|a0f<|a0k<|o7 (.int .i64 (w64 ((s27_46:Int) + 1))) rfl rfl rfl<|l9 (.int .i64 (w64 ((s27_46:Int) + 1))) rfl<|y7<|?_;exact a1t ⟨((s27_46 + 1),newslice_47 ++ x_60),hc1⟩ (mul hlt54) ⟨[],[1],_,_,rfl,rfl,⟨.refl _,⟨.refl _,⟨.refl _,⟨.of_eq (congrArg (AV.int _) (a1w hlt54 hl35)),trivial⟩⟩⟩⟩,(.refl _)⟩
  ·refine sr<|l9 (.own 0 0 newslice_52.length) rfl<|l9 (.own 0 0 newslice_52.length) rfl<|dk<|a0a<|?_;obtain rfl:=os hf;exact a4r ⟨trivial,trivial⟩ rfl (by decide) (.of_eq (congrArg (AV.lst _) (tk (enc:=l7) newslice_52)))

/- math/bits.Len64 -/
def e5a:a0n :=
 (.seq (.reg (tm 2 (.c (.int .i64 0)) .done))
 (.seq (.seq (.reg (tm 3 (.t 0) (tq 4 (.bin .geq (.t 3) (.c (.int .u64 4294967296))) .done)))
 (.cond (.t 4) (.seq (.reg (tm 5 (.t 0) (tq 6 (.bin .shr (.t 5) (.c (.int .u64 32))) (tm 0 (.t 6) .done))))
 (.reg (tm 2 (.c (.int .i64 32)) .done)))
 .skip))
 (.cut (.seq (.seq (.reg (tm 7 (.t 0) (tq 8 (.bin .geq (.t 7) (.c (.int .u64 65536))) .done)))
 (.cond (.t 8) (.seq (.reg (tm 9 (.t 0) (tq 10 (.bin .shr (.t 9) (.c (.int .u64 16))) (tm 0 (.t 10) .done))))
 (.reg (tm 11 (.t 2) (tq 12 (.bin .add (.t 11) (.c (.int .i64 16))) (tm 2 (.t 12) .done)))))
 .skip))
 (.cut (.seq (.seq (.reg (tm 13 (.t 0) (tq 14 (.bin .geq (.t 13) (.c (.int .u64 256))) .done)))
 (.cond (.t 14) (.seq (.reg (tm 15 (.t 0) (tq 16 (.bin .shr (.t 15) (.c (.int .u64 8))) (tm 0 (.t 16) .done))))
 (.reg (tm 17 (.t 2) (tq 18 (.bin .add (.t 17) (.c (.int .i64 8))) (tm 2 (.t 18) .done)))))
 .skip))
 (.seq (.reg (tm 19 (.t 2) (tm 20 (.t 0) (tq 21 (.convI .u8 (.t 20)) (tq 22 (.idxs (.c (.str [0,1,2,2,3,3,3,3,4,4,4,4,4,4,4,4,5,5,5,5,5,5,5,5,5,5,5,5,5,5,5,5,6,6,6,6,6,6,6,6,6,6,6,6,6,6,6,6,6,6,6,6,6,6,6,6,6,6,6,6,6,6,6,6,7,7,7,7,7,7,7,7,7,7,7,7,7,7,7,7,7,7,7,7,7,7,7,7,7,7,7,7,7,7,7,7,7,7,7,7,7,7,7,7,7,7,7,7,7,7,7,7,7,7,7,7,7,7,7,7,7,7,7,7,7,7,7,7,8,8,8,8,8,8,8,8,8,8,8,8,8,8,8,8,8,8,8,8,8,8,8,8,8,8,8,8,8,8,8,8,8,8,8,8,8,8,8,8,8,8,8,8,8,8,8,8,8,8,8,8,8,8,8,8,8,8,8,8,8,8,8,8,8,8,8,8,8,8,8,8,8,8,8,8,8,8,8,8,8,8,8,8,8,8,8,8,8,8,8,8,8,8,8,8,8,8,8,8,8,8,8,8,8,8,8,8,8,8,8,8,8,8,8,8,8,8,8,8,8,8,8,8,8,8,8,8])) (.t 21)) (tq 23 (.convI .i64 (.t 22)) (tq 24 (.bin .add (.t 19) (.t 23)) (tm 2 (.t 24) .done))))))))
 .ret)))))))
theorem e5b:a1c Tryz.prog Tryz.f407 = some (e5a.erase,[.mov (.t 2)],25):=by kernel_rfl
def b2v (x_1:Int):Option Int :=
    ((if (decide (x_1 ≥ 4294967296)) then
    some (Int.fdiv x_1 (2 ^ (min (Int.toNat 32) (IntKind.bits .u64))),32)
    else
    some (x_1,0):Option (Int × Int))).bind fun p5 =>
    (match p5 with
    | (x_3,n_4) =>
    ((if (decide (x_3 ≥ 65536)) then
    some (Int.fdiv x_3 (2 ^ (min (Int.toNat 16) (IntKind.bits .u64))),w64 (n_4 + 16))
    else
    some (x_3,n_4):Option (Int × Int))).bind fun p10 =>
    (match p10 with
    | (x_8,n_9) =>
    if (decide (x_8 ≥ 256)) then
    (idx ([0,1,2,2,3,3,3,3,4,4,4,4,4,4,4,4,5,5,5,5,5,5,5,5,5,5,5,5,5,5,5,5,6,6,6,6,6,6,6,6,6,6,6,6,6,6,6,6,6,6,6,6,6,6,6,6,6,6,6,6,6,6,6,6,7,7,7,7,7,7,7,7,7,7,7,7,7,7,7,7,7,7,7,7,7,7,7,7,7,7,7,7,7,7,7,7,7,7,7,7,7,7,7,7,7,7,7,7,7,7,7,7,7,7,7,7,7,7,7,7,7,7,7,7,7,7,7,7,8,8,8,8,8,8,8,8,8,8,8,8,8,8,8,8,8,8,8,8,8,8,8,8,8,8,8,8,8,8,8,8,8,8,8,8,8,8,8,8,8,8,8,8,8,8,8,8,8,8,8,8,8,8,8,8,8,8,8,8,8,8,8,8,8,8,8,8,8,8,8,8,8,8,8,8,8,8,8,8,8,8,8,8,8,8,8,8,8,8,8,8,8,8,8,8,8,8,8,8,8,8,8,8,8,8,8,8,8,8,8,8,8,8,8,8,8,8,8,8,8,8,8,8,8,8,8,8]:Str) (IntKind.u8.wrap (Int.fdiv x_8 (2 ^ (min (Int.toNat 8) (IntKind.bits .u64)))))).bind fun b_13 =>
    some (w64 ((w64 (n_9 + 8)) + (w64 (b_13.toNat:Int))))
    else
    (idx ([0,1,2,2,3,3,3,3,4,4,4,4,4,4,4,4,5,5,5,5,5,5,5,5,5,5,5,5,5,5,5,5,6,6,6,6,6,6,6,6,6,6,6,6,6,6,6,6,6,6,6,6,6,6,6,6,6,6,6,6,6,6,6,6,7,7,7,7,7,7,7,7,7,7,7,7,7,7,7,7,7,7,7,7,7,7,7,7,7,7,7,7,7,7,7,7,7,7,7,7,7,7,7,7,7,7,7,7,7,7,7,7,7,7,7,7,7,7,7,7,7,7,7,7,7,7,7,7,8,8,8,8,8,8,8,8,8,8,8,8,8,8,8,8,8,8,8,8,8,8,8,8,8,8,8,8,8,8,8,8,8,8,8,8,8,8,8,8,8,8,8,8,8,8,8,8,8,8,8,8,8,8,8,8,8,8,8,8,8,8,8,8,8,8,8,8,8,8,8,8,8,8,8,8,8,8,8,8,8,8,8,8,8,8,8,8,8,8,8,8,8,8,8,8,8,8,8,8,8,8,8,8,8,8,8,8,8,8,8,8,8,8,8,8,8,8,8,8,8,8,8,8,8,8,8,8]:Str) (IntKind.u8.wrap x_8)).bind fun b_15 =>
    some (w64 (n_9 + (w64 (b_15.toNat:Int))))))
theorem b9f (x_1:Int) (r:Int) (hf:b2v x_1 = some r):y8 Tryz.prog 407 .flat [(.int .u64 x_1)] (.int .i64 r):=by
 refine y8.of_awp mixed Tryz.func407 e5b nle ?_;rw [a0h];unfold b2v at hf;unfold e5a;refine (show awp Tryz.prog false 0 _ (ofL [(0,(.int .u64 x_1))]) [] _ from ?_);refine sr<|l9 (.int .i64 0) rfl<|dk<|o6<|?_
 obtain ⟨p5,hb1,hf⟩:=ob hf
 refine a1k ([(0,(.int .u64 p5.1)),(2,(.int .i64 p5.2))],[]) ?_ ?_
 ·refine sr<|l9 (.int .u64 x_1) rfl<|o7 (.bool (decide (x_1 ≥ 4294967296))) rfl rfl rfl<|dk<|?_
  rcases oi hb1 with ⟨c6,hb1⟩ | ⟨c6,hb1⟩
  ·refine x9 rfl c6<|sr<|l9 (.int .u64 x_1) rfl<|?_;refine x8 (o_q (.int .u64 (Int.fdiv x_1 (2 ^ (min (Int.toNat 32) (IntKind.bits .u64))))) rfl (show (0:Int) ≤ 32 by decide) rfl) ?_;refine l9 (.int .u64 (Int.fdiv x_1 (2 ^ (min (Int.toNat 32) (IntKind.bits .u64))))) rfl<|dk<|a0k<|l9 (.int .i64 32) rfl<|y7<|?_;obtain rfl:=os hb1;exact ⟨[],[],_,_,rfl,rfl,⟨.refl _,⟨.refl _,trivial⟩⟩,(.refl _)⟩
  ·refine y5 rfl (bf c6)<|a0e<|?_;obtain rfl:=os hb1;exact ⟨[],[],_,_,rfl,rfl,⟨.refl _,⟨.refl _,trivial⟩⟩,(.refl _)⟩
 ·obtain ⟨x_3,n_4⟩:=p5
  refine o6 ?_
  obtain ⟨p10,hb1,hf⟩:=ob hf
  refine a1k ([(0,(.int .u64 p10.1)),(2,(.int .i64 p10.2))],[]) ?_ ?_
  ·refine sr<|l9 (.int .u64 x_3) rfl<|o7 (.bool (decide (x_3 ≥ 65536))) rfl rfl rfl<|dk<|?_
   rcases oi hb1 with ⟨c11,hb1⟩ | ⟨c11,hb1⟩
   ·refine x9 rfl c11<|sr<|l9 (.int .u64 x_3) rfl<|?_;refine x8 (o_q (.int .u64 (Int.fdiv x_3 (2 ^ (min (Int.toNat 16) (IntKind.bits .u64))))) rfl (show (0:Int) ≤ 16 by decide) rfl) ?_;refine l9 (.int .u64 (Int.fdiv x_3 (2 ^ (min (Int.toNat 16) (IntKind.bits .u64))))) rfl<|dk<|a0k<|l9 (.int .i64 n_4) rfl<|o7 (.int .i64 (w64 (n_4 + 16))) rfl rfl rfl<|l9 (.int .i64 (w64 (n_4 + 16))) rfl<|y7<|?_;obtain rfl:=os hb1;exact ⟨[],[],_,_,rfl,rfl,⟨.refl _,⟨.refl _,trivial⟩⟩,(.refl _)⟩
   ·refine y5 rfl (bf c11)<|a0e<|?_;obtain rfl:=os hb1;exact ⟨[],[],_,_,rfl,rfl,⟨.refl _,⟨.refl _,trivial⟩⟩,(.refl _)⟩
  ·obtain ⟨x_8,n_9⟩:=p10
   refine o6<|sr<|l9 (.int .u64 x_8) rfl<|o7 (.bool (decide (x_8 ≥ 256))) rfl rfl rfl<|dk<|?_
   rcases oi hf with ⟨c12,hf⟩ | ⟨c12,hf⟩
   ·refine x9 rfl c12<|sr<|l9 (.int .u64 x_8) rfl<|?_;refine x8 (o_q (.int .u64 (Int.fdiv x_8 (2 ^ (min (Int.toNat 8) (IntKind.bits .u64))))) rfl (show (0:Int) ≤ 8 by decide) rfl) ?_;refine l9 (.int .u64 (Int.fdiv x_8 (2 ^ (min (Int.toNat 8) (IntKind.bits .u64))))) rfl<|dk<|a0k<|l9 (.int .i64 n_9) rfl<|o7 (.int .i64 (w64 (n_9 + 8))) rfl rfl rfl<|l9 (.int .i64 (w64 (n_9 + 8))) rfl<|dk<|sr<|?_
    obtain ⟨b_13,eb14,hf⟩:=ob hf
    refine l9 (.int .i64 (w64 (n_9 + 8))) rfl<|l9 (.int .u64 (Int.fdiv x_8 (2 ^ (min (Int.toNat 8) (IntKind.bits .u64))))) rfl<|o7 (.int .u8 (IntKind.u8.wrap (Int.fdiv x_8 (2 ^ (min (Int.toNat 8) (IntKind.bits .u64)))))) rfl trivial rfl<|x8 (c8g rfl rfl (a8m eb14) (a8n eb14))<|o7 (.int .i64 (w64 (b_13.toNat:Int))) rfl trivial rfl<|o7 (.int .i64 (w64 ((w64 (n_9 + 8)) + (w64 (b_13.toNat:Int))))) rfl rfl rfl<|l9 (.int .i64 (w64 ((w64 (n_9 + 8)) + (w64 (b_13.toNat:Int))))) rfl<|dk<|a0a<|?_;obtain rfl:=os hf;exact a0d ⟨trivial,trivial⟩ rfl (.refl _)
   ·refine y5 rfl (bf c12)<|a0e<|a0f<|sr<|?_
    obtain ⟨b_15,eb16,hf⟩:=ob hf
    refine l9 (.int .i64 n_9) rfl<|l9 (.int .u64 x_8) rfl<|o7 (.int .u8 (IntKind.u8.wrap x_8)) rfl trivial rfl<|x8 (c8g rfl rfl (a8m eb16) (a8n eb16))<|o7 (.int .i64 (w64 (b_15.toNat:Int))) rfl trivial rfl<|o7 (.int .i64 (w64 (n_9 + (w64 (b_15.toNat:Int))))) rfl rfl rfl<|l9 (.int .i64 (w64 (n_9 + (w64 (b_15.toNat:Int))))) rfl<|dk<|a0a<|?_;obtain rfl:=os hf;exact a0d ⟨trivial,trivial⟩ rfl (.refl _)

/- math/bits.Len -/
def e5c:a0n :=
 (.seq (.reg (tm 2 (.c (.int .i64 0)) .done))
 (.seq (.cond (.c (.bool false)) (.seq (.reg (tm 3 (.t 0) (tq 4 (.convI .u32 (.t 3)) (tq 5 (.call 406 [(.t 4)]) (tm 2 (.t 5) .done)))))
 .ret)
 .skip)
 (.seq (.reg (tm 6 (.t 0) (tq 7 (.call 407 [(.t 6)]) (tm 2 (.t 7) .done))))
 .ret)))
theorem e5d:a1c Tryz.prog Tryz.f332 = some (e5c.erase,[.mov (.t 2)],8):=by kernel_rfl
def b0a (x_1:Int):Option Int :=
    (b2v x_1).bind fun r_2 =>
    some r_2
theorem c1x (x_1:Int) (r:Int) (hf:b0a x_1 = some r):y8 Tryz.prog 332 .flat [(.int .u64 x_1)] (.int .i64 r):=by
  refine y8.of_awp mixed Tryz.func332 e5d nle ?_
  rw [a0h]
  unfold b0a at hf
  unfold e5c
  refine (show awp Tryz.prog false 0 _ (ofL [(0,(.int .u64 x_1))]) [] _ from ?_)
  refine o6 ?_
  refine a0k ?_
  refine x8 (a2r (.int .i64 0) rfl) ?_
  refine y7 ?_
  refine a0f ?_
  refine o6 ?_
  refine d6y ?_
  refine a0e ?_
  refine a0f ?_
  refine o6 ?_
  refine a0k ?_
  obtain ⟨r_2,er3,hf⟩:=ob hf
  refine x8 (a2r (.int .u64 x_1) rfl) ?_
  refine x8 (a0g (b9f _ _ er3) rfl (.refl _) rfl) ?_
  refine x8 (a2r (.int .i64 r_2) rfl) ?_
  refine y7 ?_
  refine a0f ?_
  refine a0a ?_
  obtain rfl:=os hf
  exact a0d ⟨trivial,trivial⟩ rfl (.refl _)

/- slices.insertionSortCmpFunc[impl.Atom] -/
def d3f:a0n :=
 (.seq (.reg (tm 10 (.t 1) (tq 11 (.bin .add (.t 10) (.c (.int .i64 1))) (tm 8 (.t 11) .done))))
 (.block 0 (.loop (.seq (.seq (.reg (tm 12 (.t 8) (tm 13 (.t 2) (tq 14 (.bin .lss (.t 12) (.t 13)) .done))))
 (.cond (.t 14) .skip
 (.exit 0)))
 (.seq (.block 1 (.seq (.reg (tm 17 (.t 8) (tm 9 (.t 17) .done)))
 (.block 2 (.loop (.seq (.seq (.reg (tm 18 (.t 9) (tm 19 (.t 1) (tq 20 (.bin .gtr (.t 18) (.t 19)) (tm 21 (.t 20) (tg 22 21 true (.mov (.t 3)) (tg 23 21 true (.mov (.t 0)) (tg 24 21 true (.mov (.t 9)) (tg 25 21 true (.iaddr 3 (.t 23) (.t 24)) (tg 26 21 true (.load 3 true (.t 25)) (tg 27 21 true (.mov (.t 0)) (tg 28 21 true (.mov (.t 9)) (tg 29 21 true (.bin .sub (.t 28) (.c (.int .i64 1))) (tg 30 21 true (.iaddr 3 (.t 27) (.t 29)) (tg 31 21 true (.load 3 true (.t 30)) (.l ⟨(some 32),(some (21,true)),.calv (.t 22) [(.t 26),(.t 31)]⟩ []
 (tg 33 21 true (.bin .lss (.t 32) (.c (.int .i64 0))) (tq 34 (.pick (.t 21) (.t 33) (.c (.bool false))) .done)) .non))))))))))))))))
 (.cut (.cond (.t 34) .skip
 (.exit 2))))
 (.seq (.block 3 (.reg (tm 37 (.t 0) (tm 38 (.t 9) (tm 39 (.t 0) (tm 40 (.t 9) (tq 41 (.bin .sub (.t 40) (.c (.int .i64 1))) (tm 42 (.t 0) (tm 43 (.t 9) (tq 44 (.bin .sub (.t 43) (.c (.int .i64 1))) (tq 45 (.iaddr 3 (.t 42) (.t 44)) (tq 46 (.load 3 true (.t 45)) (tm 47 (.t 0) (tm 48 (.t 9) (tq 49 (.iaddr 3 (.t 47) (.t 48)) (tq 50 (.load 3 true (.t 49)) (tq 51 (.iaddr 3 (.t 37) (.t 38)) (.l ⟨none,none,.store 3 (.t 51) (.t 46)⟩ []
 (tq 52 (.iaddr 3 (.t 39) (.t 41)) (.l ⟨none,none,.store 3 (.t 52) (.t 50)⟩ []
 .done .non)) .non))))))))))))))))))
 (.reg (tm 35 (.t 9) (tq 36 (.bin .sub (.t 35) (.c (.int .i64 1))) (tm 9 (.t 36) .done))))))))))
 (.cut (.reg (tm 15 (.t 8) (tq 16 (.bin .add (.t 15) (.c (.int .i64 1))) (tm 8 (.t 16) .done))))))))))
theorem d7k:a1c Tryz.prog Tryz.f454 = some (d3f.erase,[],53):=by kernel_rfl
def a0z (a_2:Int):Nat → Int → (List o8) → Option (List o8)
  | 0,_,_ => none
  | k + 1,j_864,data_865 =>
    ((if (decide (j_864 > a_2)) then
    if (0:Int) ≤ j_864 ∧ j_864 < (data_865.length:Int) then
    (data_865[(0 + j_864.toNat)]?).bind fun x_912 =>
    if (0:Int) ≤ w64 (j_864 - 1) ∧ w64 (j_864 - 1) < (data_865.length:Int) then
    (data_865[(0 + (w64 (j_864 - 1)).toNat)]?).bind fun x_915 =>
    (a5u x_912 x_915).bind fun r_917 =>
    some (decide (r_917 < 0))
    else none
    else none
    else
    some false:Option Bool)).bind fun s34_908 =>
    if s34_908 then
    if (0:Int) ≤ w64 (j_864 - 1) ∧ w64 (j_864 - 1) < (data_865.length:Int) then
    (data_865[(0 + (w64 (j_864 - 1)).toNat)]?).bind fun x_921 =>
    if (0:Int) ≤ j_864 ∧ j_864 < (data_865.length:Int) then
    (data_865[(0 + j_864.toNat)]?).bind fun x_924 =>
    if (0:Int) ≤ j_864 ∧ j_864 < (data_865.length:Int) then
    if (0:Int) ≤ w64 (j_864 - 1) ∧ w64 (j_864 - 1) < (data_865.length:Int) then
    ((data_865.set (0 + j_864.toNat) x_921)[(0 + (w64 (j_864 - 1)).toNat)]?).bind fun x_928 =>
    a0z a_2 k (w64 (j_864 - 1)) ((data_865.set (0 + j_864.toNat) x_921).set (0 + (w64 (j_864 - 1)).toNat) x_924)
    else none
    else none
    else none
    else none
    else
    some data_865

def a0s (b_3:Int) (a_2:Int):Nat → Int → (List o8) → Option (List o8)
  | 0,_,_ => none
  | k + 1,i_665,data_666 =>
    if (decide (i_665 < b_3)) then
    (a0z a_2 FUEL i_665 data_666).bind fun data_897 =>
    a0s b_3 a_2 k (w64 (i_665 + 1)) data_897
    else
    some data_666

def a2f (data_1:(List o8)) (a_2:Int) (b_3:Int):Option (List o8) :=
    a0s b_3 a_2 FUEL (w64 (a_2 + 1)) data_1
theorem a7w (data_1:(List o8)) (a_2:Int) (b_3:Int) (r:(List o8)) (hf:a2f data_1 a_2 b_3 = some r):a1q Tryz.prog true 454 [(.own 0 0 data_1.length),(.int .i64 a_2),(.int .i64 b_3),(.fn 286 [])] [.row 3 (data_1.map l7)] (.tup []) [.row 3 (r.map l7)]:=by
 refine a1q.of_awp mixed Tryz.func454 d7k nle ?_;rw [a0h];unfold a2f at hf;unfold d3f;refine (show awp Tryz.prog true 1 _ (ofL [(0,(.own 0 0 data_1.length)),(1,(.int .i64 a_2)),(2,(.int .i64 b_3)),(3,(.fn 286 []))]) [.row 3 (data_1.map l7)] _ from ?_);refine sr<|l9 (.int .i64 a_2) rfl<|o7 (.int .i64 (w64 (a_2 + 1))) rfl rfl rfl<|l9 (.int .i64 (w64 (a_2 + 1))) rfl<|dk<|?_;refine a1m (X:={q:(Nat × Int × (List o8)) // a0s b_3 a_2 q.1 q.2.1 q.2.2 = some r}) (fun q => ([(0,(.own 0 0 q.1.2.2.length)),(1,(.int .i64 a_2)),(2,(.int .i64 b_3)),(3,(.fn 286 [])),(8,(.int .i64 q.1.2.1))],[.row 3 (q.1.2.2.map l7)])) (fun q => q.1.1) ⟨(FUEL,w64 (a_2 + 1),data_1),hf⟩ ⟨[],[0],_,_,rfl,rfl,⟨.refl _,⟨.refl _,⟨.refl _,⟨.refl _,⟨.refl _,trivial⟩⟩⟩⟩⟩,(.refl _)⟩ ?_
 rintro ⟨⟨k,i_665,data_666⟩,hc1⟩
 have hc1:a0s b_3 a_2 k i_665 data_666 = some r:=hc1
 refine (show awp Tryz.prog true 1 _ (ofL [(0,(.own 0 0 data_666.length)),(1,(.int .i64 a_2)),(2,(.int .i64 b_3)),(3,(.fn 286 [])),(8,(.int .i64 i_665))]) [.row 3 (data_666.map l7)] _ from ?_)
 rcases k with _ | k
 ·rw [a0s.eq_1] at hc1
  cases hc1
 ·rw [a0s.eq_2] at hc1;refine o6<|sr<|l9 (.int .i64 i_665) rfl<|l9 (.int .i64 b_3) rfl<|o7 (.bool (decide (i_665 < b_3))) rfl rfl rfl<|dk<|?_
  rcases oi hc1 with ⟨c799,hc1⟩ | ⟨c799,hc1⟩
  ·refine x9 rfl c799<|a0e<|a0f<|o6<|a3c<|sr<|l9 (.int .i64 i_665) rfl<|l9 (.int .i64 i_665) rfl<|dk<|?_
   obtain ⟨data_897,hb1,hc1⟩:=ob hc1
   refine d6v ([(0,(.own 0 0 data_897.length)),(1,(.int .i64 a_2)),(2,(.int .i64 b_3)),(3,(.fn 286 [])),(8,(.int .i64 i_665))],[.row 3 (data_897.map l7)]) ?_ ?_
   ·refine a1m (X:={q:(Nat × Int × (List o8)) // a0z a_2 q.1 q.2.1 q.2.2 = some data_897}) (fun q => ([(0,(.own 0 0 q.1.2.2.length)),(1,(.int .i64 a_2)),(2,(.int .i64 b_3)),(3,(.fn 286 [])),(8,(.int .i64 i_665)),(9,(.int .i64 q.1.2.1))],[.row 3 (q.1.2.2.map l7)])) (fun q => q.1.1) ⟨(FUEL,i_665,data_666),hb1⟩ ⟨[],[0],_,_,rfl,rfl,⟨.refl _,⟨.refl _,⟨.refl _,⟨.refl _,⟨.refl _,⟨.refl _,trivial⟩⟩⟩⟩⟩⟩,(.refl _)⟩ ?_
    rintro ⟨⟨k,j_864,data_865⟩,hc1⟩
    have hc1:a0z a_2 k j_864 data_865 = some data_897:=hc1
    refine (show awp Tryz.prog true 1 _ (ofL [(0,(.own 0 0 data_865.length)),(1,(.int .i64 a_2)),(2,(.int .i64 b_3)),(3,(.fn 286 [])),(8,(.int .i64 i_665)),(9,(.int .i64 j_864))]) [.row 3 (data_865.map l7)] _ from ?_)
    rcases k with _ | k
    ·rw [a0z.eq_1] at hc1
     cases hc1
    ·rw [a0z.eq_2] at hc1;refine o6<|o6<|?_
     obtain ⟨s34_908,hb2,hc1⟩:=ob hc1
     refine a1k ([(0,(.own 0 0 data_865.length)),(1,(.int .i64 a_2)),(2,(.int .i64 b_3)),(3,(.fn 286 [])),(8,(.int .i64 i_665)),(9,(.int .i64 j_864)),(34,(.bool s34_908))],[.row 3 (data_865.map l7)]) ?_ ?_
     ·refine a0k<|l9 (.int .i64 j_864) rfl<|l9 (.int .i64 a_2) rfl<|o7 (.bool (decide (j_864 > a_2))) rfl rfl rfl<|l9 (.bool (decide (j_864 > a_2))) rfl<|?_
      rcases oi hb2 with ⟨c910,hb2⟩ | ⟨c910,hb2⟩
      ·refine a0u (s:=21) (b:=true) rfl c910<|s_on rfl<|l9 (.fn 286 []) rfl<|s_on rfl<|l9 (.own 0 0 data_865.length) rfl<|s_on rfl<|l9 (.int .i64 j_864) rfl<|s_on rfl<|?_
       obtain ⟨g911,hb2⟩:=og hb2
       refine x8 (a3o rfl rfl g911.1 g911.2 rfl rfl)<|s_on rfl<|?_
       obtain ⟨x_912,ex913,hb2⟩:=ob hb2
       refine x8 (a6j (enc:=l7) (v:=(l7 x_912)) rfl rfl ex913 nle rfl)<|s_on rfl<|l9 (.own 0 0 data_865.length) rfl<|s_on rfl<|l9 (.int .i64 j_864) rfl<|s_on rfl<|o7 (.int .i64 (w64 (j_864 - 1))) rfl rfl rfl<|s_on rfl<|?_
       obtain ⟨g914,hb2⟩:=og hb2
       refine x8 (a3o rfl rfl g914.1 g914.2 rfl rfl)<|s_on rfl<|?_
       obtain ⟨x_915,ex916,hb2⟩:=ob hb2
       refine x8 (a6j (enc:=l7) (v:=(l7 x_915)) rfl rfl ex916 nle rfl)<|b8x rfl<|?_
       obtain ⟨r_917,er918,hb2⟩:=ob hb2
       refine a2j (d2u (v:=(.int .i64 r_917)) rfl (by kernel_rfl) (b2y _ _ _ er918) rfl rfl (.refl _) rfl) a6a trivial<|s_on rfl<|o7 (.bool (decide (r_917 < 0))) rfl rfl rfl<|o7 (.bool (decide (r_917 < 0))) rfl trivial rfl<|y7<|?_;obtain rfl:=os hb2;exact ⟨[],[0],_,_,rfl,rfl,⟨.refl _,⟨.refl _,⟨.refl _,⟨.refl _,⟨.refl _,⟨.refl _,⟨.refl _,trivial⟩⟩⟩⟩⟩⟩⟩,(.refl _)⟩
      ·refine a0u (s:=21) (b:=false) rfl (bf c910)<|o9 rfl rfl<|o9 rfl rfl<|o9 rfl rfl<|o9 rfl rfl<|o9 rfl rfl<|o9 rfl rfl<|o9 rfl rfl<|o9 rfl rfl<|o9 rfl rfl<|o9 rfl rfl<|b5e rfl rfl trivial<|o9 rfl rfl<|o7 (.bool false) rfl trivial rfl<|y7<|?_;obtain rfl:=os hb2;exact ⟨[],[0],_,_,rfl,rfl,⟨.refl _,⟨.refl _,⟨.refl _,⟨.refl _,⟨.refl _,⟨.refl _,⟨.refl _,trivial⟩⟩⟩⟩⟩⟩⟩,(.refl _)⟩
     ·rcases oi hc1 with ⟨c919,hc1⟩ | ⟨c919,hc1⟩
      ·refine x9 rfl c919<|a0e<|a0f<|o6<|a3c<|a0k<|l9 (.own 0 0 data_865.length) rfl<|l9 (.int .i64 j_864) rfl<|l9 (.own 0 0 data_865.length) rfl<|l9 (.int .i64 j_864) rfl<|o7 (.int .i64 (w64 (j_864 - 1))) rfl rfl rfl<|l9 (.own 0 0 data_865.length) rfl<|l9 (.int .i64 j_864) rfl<|o7 (.int .i64 (w64 (j_864 - 1))) rfl rfl rfl<|?_
       obtain ⟨g920,hc1⟩:=og hc1
       refine x8 (a3o rfl rfl g920.1 g920.2 rfl rfl) ?_
       obtain ⟨x_921,ex922,hc1⟩:=ob hc1
       refine x8 (a6j (enc:=l7) (v:=(l7 x_921)) rfl rfl ex922 nle rfl)<|l9 (.own 0 0 data_865.length) rfl<|l9 (.int .i64 j_864) rfl<|?_
       obtain ⟨g923,hc1⟩:=og hc1
       refine x8 (a3o rfl rfl g923.1 g923.2 rfl rfl) ?_
       obtain ⟨x_924,ex925,hc1⟩:=ob hc1
       refine x8 (a6j (enc:=l7) (v:=(l7 x_924)) rfl rfl ex925 nle rfl) ?_
       obtain ⟨g926,hc1⟩:=og hc1
       refine x8 (a3o rfl rfl g926.1 g926.2 rfl rfl) ?_;refine b4i (b0k (v':=(l7 x_921)) (e':=x_921) rfl rfl ex925 rfl rfl rfl (by decide) (fun _ => by decide) ⟨rfl,nle⟩ (.refl _) rfl) trivial trivial ?_
       obtain ⟨g927,hc1⟩:=og hc1
       refine x8 (a3o rfl rfl g927.1 g927.2 rfl rfl) ?_
       obtain ⟨x_928,ex929,hc1⟩:=ob hc1
       refine b4i (b0k (v':=(l7 x_924)) (e':=x_924) rfl rfl ex929 rfl rfl rfl (by decide) (fun _ => by decide) ⟨rfl,nle⟩ (.refl _) rfl) trivial trivial ?_;refine y7<|a2c<|a0f<|a0k<|l9 (.int .i64 j_864) rfl<|o7 (.int .i64 (w64 (j_864 - 1))) rfl rfl rfl<|l9 (.int .i64 (w64 (j_864 - 1))) rfl<|y7<|?_;exact a1t ⟨(k,w64 (j_864 - 1),(data_865.set (0 + j_864.toNat) x_921).set (0 + (w64 (j_864 - 1)).toNat) x_924),hc1⟩ (Nat.lt_succ_self _) ⟨[],[0],_,_,rfl,rfl,⟨.of_eq (congrArg (AV.own _ 0) (by simp)),⟨.refl _,⟨.refl _,⟨.refl _,⟨.refl _,⟨.refl _,trivial⟩⟩⟩⟩⟩⟩,(.refl _)⟩
      ·refine y5 rfl (bf c919)<|a2u<|a2t<|a1x<|a2s<|?_;refine a2c ?_;obtain rfl:=os hc1;exact ⟨[],[0],_,_,rfl,rfl,⟨.refl _,⟨.refl _,⟨.refl _,⟨.refl _,⟨.refl _,trivial⟩⟩⟩⟩⟩,(.refl _)⟩
   ·refine a0k<|l9 (.int .i64 i_665) rfl<|o7 (.int .i64 (w64 (i_665 + 1))) rfl rfl rfl<|l9 (.int .i64 (w64 (i_665 + 1))) rfl<|y7<|?_;exact a1t ⟨(k,w64 (i_665 + 1),data_897),hc1⟩ (Nat.lt_succ_self _) ⟨[],[0],_,_,rfl,rfl,⟨.refl _,⟨.refl _,⟨.refl _,⟨.refl _,⟨.refl _,trivial⟩⟩⟩⟩⟩,(.refl _)⟩
  ·refine y5 rfl (bf c799)<|a2u<|a2t<|a1x<|a2s<|?_;obtain rfl:=os hc1;exact a5j [] [0] rfl trivial rfl (.refl _) (.refl _)

/- slices.pdqsortCmpFunc[impl.Atom] -/
def d3g:a0n :=
 (.seq (.reg (tm 10 (.c (.bool true)) .done))
 (.seq (.reg (tm 11 (.c (.bool true)) .done))
 (.block 0 (.loop (.block 1 (.seq (.reg (tm 21 (.t 2) (tm 22 (.t 1) (tq 23 (.bin .sub (.t 21) (.t 22)) (tm 12 (.t 23) .done)))))
 (.seq (.seq (.reg (tm 24 (.t 12) (tq 25 (.bin .leq (.t 24) (.c (.int .i64 12))) .done)))
 (.cond (.t 25) (.seq (.reg (tm 26 (.t 0) (tm 27 (.t 1) (tm 28 (.t 2) (tm 29 (.t 4) (tq 30 (.call 454 [(.t 26),(.t 27),(.t 28),(.t 29)]) .done))))))
 .ret)
 .skip))
 (.seq (.seq (.reg (tm 31 (.t 3) (tq 32 (.bin .eql (.t 31) (.c (.int .i64 0))) .done)))
 (.cond (.t 32) (.seq (.reg (tm 33 (.t 0) (tm 34 (.t 1) (tm 35 (.t 2) (tm 36 (.t 4) (tq 37 (.call 455 [(.t 33),(.t 34),(.t 35),(.t 36)]) .done))))))
 .ret)
 .skip))
 (.seq (.seq (.reg (tm 38 (.t 10) (tq 39 (.not (.t 38)) .done)))
 (.cond (.t 39) (.seq (.reg (tm 40 (.t 0) (tm 41 (.t 1) (tm 42 (.t 2) (tm 43 (.t 4) (tq 44 (.call 456 [(.t 40),(.t 41),(.t 42),(.t 43)]) .done))))))
 (.reg (tm 45 (.t 3) (tq 46 (.bin .sub (.t 45) (.c (.int .i64 1))) (tm 3 (.t 46) .done)))))
 .skip))
 (.seq (.reg (tm 48 (.t 0) (tm 49 (.t 1) (tm 50 (.t 2) (tm 51 (.t 4) (tq 52 (.call 457 [(.t 48),(.t 49),(.t 50),(.t 51)]) (tm 47 (.t 52) (tq 53 (.extract 0 (.t 47)) (tq 54 (.extract 1 (.t 47)) (tm 13 (.t 53) (tm 14 (.t 54) .done)))))))))))
 (.seq (.seq (.reg (tm 55 (.t 14) (tq 56 (.bin .eql (.t 55) (.c (.int .i64 2))) .done)))
 (.cond (.t 56) (.seq (.reg (tm 57 (.t 0) (tm 58 (.t 1) (tm 59 (.t 2) (tm 60 (.t 4) (tq 61 (.call 458 [(.t 57),(.t 58),(.t 59),(.t 60)]) .done))))))
 (.seq (.reg (tm 62 (.t 2) (tq 63 (.bin .sub (.t 62) (.c (.int .i64 1))) (tm 64 (.t 13) (tm 65 (.t 1) (tq 66 (.bin .sub (.t 64) (.t 65)) (tq 67 (.bin .sub (.t 63) (.t 66)) (tm 13 (.t 67) .done))))))))
 (.reg (tm 14 (.c (.int .i64 1)) .done))))
 .skip))
 (.seq (.seq (.reg (tm 68 (.t 10) (tm 69 (.t 68) (tg 70 69 true (.mov (.t 11)) (tq 71 (.pick (.t 69) (.t 70) (.c (.bool false))) (tm 72 (.t 71) (tg 73 72 true (.mov (.t 14)) (tg 74 72 true (.bin .eql (.t 73) (.c (.int .i64 1))) (tq 75 (.pick (.t 72) (.t 74) (.c (.bool false))) .done)))))))))
 (.cond (.t 75) (.seq (.reg (tm 76 (.t 0) (tm 77 (.t 1) (tm 78 (.t 2) (tm 79 (.t 4) (tq 80 (.call 459 [(.t 76),(.t 77),(.t 78),(.t 79)]) .done))))))
 (.cond (.t 80) .ret
 .skip))
 .skip))
 (.seq (.seq (.reg (tm 81 (.t 1) (tq 82 (.bin .gtr (.t 81) (.c (.int .i64 0))) (tm 83 (.t 82) (tg 84 83 true (.mov (.t 4)) (tg 85 83 true (.mov (.t 0)) (tg 86 83 true (.mov (.t 1)) (tg 87 83 true (.bin .sub (.t 86) (.c (.int .i64 1))) (tg 88 83 true (.iaddr 3 (.t 85) (.t 87)) (tg 89 83 true (.load 3 true (.t 88)) (tg 90 83 true (.mov (.t 0)) (tg 91 83 true (.mov (.t 13)) (tg 92 83 true (.iaddr 3 (.t 90) (.t 91)) (tg 93 83 true (.load 3 true (.t 92)) (.l ⟨(some 94),(some (83,true)),.calv (.t 84) [(.t 89),(.t 93)]⟩ []
 (tg 95 83 true (.bin .lss (.t 94) (.c (.int .i64 0))) (tg 96 83 true (.not (.t 95)) (tq 97 (.pick (.t 83) (.t 96) (.c (.bool false))) .done))) .non)))))))))))))))
 (.cond (.t 97) (.seq (.reg (tm 98 (.t 0) (tm 99 (.t 1) (tm 100 (.t 2) (tm 101 (.t 13) (tm 102 (.t 4) (tq 103 (.call 460 [(.t 98),(.t 99),(.t 100),(.t 101),(.t 102)]) (tm 15 (.t 103) .done))))))))
 (.seq (.reg (tm 104 (.t 15) (tm 1 (.t 104) .done)))
 (.exit 1)))
 .skip))
 (.seq (.reg (tm 106 (.t 0) (tm 107 (.t 1) (tm 108 (.t 2) (tm 109 (.t 13) (tm 110 (.t 4) (tq 111 (.call 461 [(.t 106),(.t 107),(.t 108),(.t 109),(.t 110)]) (tm 105 (.t 111) (tq 112 (.extract 0 (.t 105)) (tq 113 (.extract 1 (.t 105)) (tm 16 (.t 112) (tm 17 (.t 113) .done))))))))))))
 (.seq (.reg (tm 114 (.t 17) (tm 11 (.t 114) .done)))
 (.seq (.reg (tm 115 (.t 16) (tm 116 (.t 1) (tq 117 (.bin .sub (.t 115) (.t 116)) (tm 118 (.t 2) (tm 119 (.t 16) (tq 120 (.bin .sub (.t 118) (.t 119)) (tm 18 (.t 117) (tm 19 (.t 120) .done)))))))))
 (.seq (.reg (tm 121 (.t 12) (tq 122 (.bin .quo (.t 121) (.c (.int .i64 8))) (tm 20 (.t 122) .done))))
 (.seq (.reg (tm 123 (.t 18) (tm 124 (.t 19) (tq 125 (.bin .lss (.t 123) (.t 124)) .done))))
 (.cond (.t 125) (.seq (.reg (tm 126 (.t 18) (tm 127 (.t 20) (tq 128 (.bin .geq (.t 126) (.t 127)) (tm 10 (.t 128) .done)))))
 (.seq (.reg (tm 129 (.t 0) (tm 130 (.t 1) (tm 131 (.t 16) (tm 132 (.t 3) (tm 133 (.t 4) (tq 134 (.call 439 [(.t 129),(.t 130),(.t 131),(.t 132),(.t 133)]) .done)))))))
 (.reg (tm 135 (.t 16) (tq 136 (.bin .add (.t 135) (.c (.int .i64 1))) (tm 1 (.t 136) .done))))))
 (.seq (.reg (tm 137 (.t 19) (tm 138 (.t 20) (tq 139 (.bin .geq (.t 137) (.t 138)) (tm 10 (.t 139) .done)))))
 (.seq (.reg (tm 140 (.t 0) (tm 141 (.t 16) (tq 142 (.bin .add (.t 141) (.c (.int .i64 1))) (tm 143 (.t 2) (tm 144 (.t 3) (tm 145 (.t 4) (tq 146 (.call 439 [(.t 140),(.t 142),(.t 143),(.t 144),(.t 145)]) .done))))))))
 (.reg (tm 147 (.t 16) (tm 2 (.t 147) .done))))))))))))))))))))))))
theorem d7l:a1c Tryz.prog Tryz.f439 = some (d3g.erase,[],148):=by kernel_rfl
def a1u (b_3:Int) (a_2:Int) (data_1:(List o8)):Nat → Option (List o8)
  | 0 => none
  | k + 1 =>
    if (decide (w64 (b_3 - a_2) ≤ 12)) then
    (a2f data_1 a_2 b_3).bind fun r_15 =>
    some r_15
    else
    none

def a3n (rec:((List o8) → Int → Int → Int → Option (List o8))) (data_1:(List o8)) (a_2:Int) (b_3:Int) (limit_4:Int):Option (List o8) :=
    a1u b_3 a_2 data_1 FUEL 
theorem a8w (rec:((List o8) → Int → Int → Int → Option (List o8))) (hrec:∀ a0 a1 a2 a3 r,rec a0 a1 a2 a3 = some r → a1q Tryz.prog true 439 [(.own 0 0 a0.length),(.int .i64 a1),(.int .i64 a2),(.int .i64 a3),(.fn 286 [])] [.row 3 (a0.map l7)] (.tup []) [.row 3 (r.map l7)]) (data_1:(List o8)) (a_2:Int) (b_3:Int) (limit_4:Int) (r:(List o8)) (hf:a3n rec data_1 a_2 b_3 limit_4 = some r):a1q Tryz.prog true 439 [(.own 0 0 data_1.length),(.int .i64 a_2),(.int .i64 b_3),(.int .i64 limit_4),(.fn 286 [])] [.row 3 (data_1.map l7)] (.tup []) [.row 3 (r.map l7)]:=by
 refine a1q.of_awp mixed Tryz.func439 d7l nle ?_;rw [a0h];unfold a3n at hf;unfold d3g;refine (show awp Tryz.prog true 1 _ (ofL [(0,(.own 0 0 data_1.length)),(1,(.int .i64 a_2)),(2,(.int .i64 b_3)),(3,(.int .i64 limit_4)),(4,(.fn 286 []))]) [.row 3 (data_1.map l7)] _ from ?_);refine sr<|l9 (.bool true) rfl<|dk<|sr<|l9 (.bool true) rfl<|dk<|?_;refine a1m (X:={q:Nat // a1u b_3 a_2 data_1 q = some r}) (fun q => ([(0,(.own 0 0 data_1.length)),(1,(.int .i64 a_2)),(2,(.int .i64 b_3)),(3,(.int .i64 limit_4)),(4,(.fn 286 [])),(10,(.bool true)),(11,(.bool true))],[.row 3 (data_1.map l7)])) (fun q => q.1) ⟨FUEL,hf⟩ ⟨[],[0],_,_,rfl,rfl,⟨.refl _,⟨.refl _,⟨.refl _,⟨.refl _,⟨.refl _,⟨.refl _,⟨.refl _,trivial⟩⟩⟩⟩⟩⟩⟩,(.refl _)⟩ ?_
 rintro ⟨k,hc1⟩
 have hc1:a1u b_3 a_2 data_1 k  = some r:=hc1
 refine (show awp Tryz.prog true 1 _ (ofL [(0,(.own 0 0 data_1.length)),(1,(.int .i64 a_2)),(2,(.int .i64 b_3)),(3,(.int .i64 limit_4)),(4,(.fn 286 [])),(10,(.bool true)),(11,(.bool true))]) [.row 3 (data_1.map l7)] _ from ?_)
 rcases k with _ | k
 ·rw [a1u.eq_1] at hc1
  cases hc1
 ·rw [a1u.eq_2] at hc1;refine a3c<|sr<|l9 (.int .i64 b_3) rfl<|l9 (.int .i64 a_2) rfl<|o7 (.int .i64 (w64 (b_3 - a_2))) rfl rfl rfl<|l9 (.int .i64 (w64 (b_3 - a_2))) rfl<|dk<|o6<|sr<|l9 (.int .i64 (w64 (b_3 - a_2))) rfl<|o7 (.bool (decide (w64 (b_3 - a_2) ≤ 12))) rfl rfl rfl<|dk<|?_
  rcases oi hc1 with ⟨c14,hc1⟩ | ⟨c14,hc1⟩
  ·refine x9 rfl c14<|sr<|?_
   obtain ⟨r_15,er16,hc1⟩:=ob hc1
   refine l9 (.own 0 0 data_1.length) rfl<|l9 (.int .i64 a_2) rfl<|l9 (.int .i64 b_3) rfl<|l9 (.fn 286 []) rfl<|?_;refine a1e (c4a (v:=(.tup [])) (h2:=[.row 3 (r_15.map l7)]) [] [0] (fun _ => rfl) (a7w _ _ _ _ er16) rfl (.refl _) (.refl _) rfl rfl) fun hl17 => ?_;refine dk<|a0a<|?_;obtain rfl:=os hc1;exact a5j [] [0] rfl trivial rfl (.refl _) (.refl _)
  ·cases hc1
def a1v:Nat → (List o8) → Int → Int → Int → Option (List o8)
 | 0,_,_,_,_ => none
 | k + 1,data_1,a_2,b_3,limit_4 => a3n (a1v k) data_1 a_2 b_3 limit_4
theorem a6n:∀ (k:Nat) (data_1:(List o8)) (a_2:Int) (b_3:Int) (limit_4:Int) (r:(List o8)),a1v k data_1 a_2 b_3 limit_4 = some r → a1q Tryz.prog true 439 [(.own 0 0 data_1.length),(.int .i64 a_2),(.int .i64 b_3),(.int .i64 limit_4),(.fn 286 [])] [.row 3 (data_1.map l7)] (.tup []) [.row 3 (r.map l7)]
 | 0,data_1,a_2,b_3,limit_4,r,h => by rw [a1v.eq_1] at h;cases h
 | k + 1,data_1,a_2,b_3,limit_4,r,h => by
  rw [a1v.eq_2] at h;exact a8w _ (a6n k) data_1 a_2 b_3 limit_4 r h

end Go.R
