import Derived.Test.YtldahjcikmpifaaGreatJMO4
set_option linter.all false
namespace Go.R
open Go Go.Proofs
set_option maxHeartbeats 8000000
def e9v:a0q :=
 (.seq (.reg (tm 4 (.c (.int .i64 0)) .done))
 (.seq (.reg (tm 7 (.t 0) (tq 8 (.call 311 [(.t 7)]) (tm 5 (.t 8) .done))))
 (.seq (.reg (tm 9 (.t 1) (tq 10 (.call 311 [(.t 9)]) (tm 6 (.t 10) .done))))
 (.seq (.seq (.reg (tm 11 (.t 5) .done))
 (.cond (.t 11) (.seq (.seq (.reg (tm 12 (.t 6) .done))
 (.cond (.t 12) (.seq (.reg (tm 4 (.c (.int .i64 0)) .done))
 .ret)
 .skip))
 (.seq (.reg (tq 4 (.mov (.c (.int .i64 (-1)))) .done))
 .ret))
 .skip))
 (.seq (.seq (.reg (tm 13 (.t 6) .done))
 (.cond (.t 13) (.seq (.reg (tm 4 (.c (.int .i64 1)) .done))
 .ret)
 .skip))
 (.seq (.seq (.reg (tm 14 (.t 0) (tm 15 (.t 1) (tq 16 (.bin .lss (.t 14) (.t 15)) .done))))
 (.cond (.t 16) (.seq (.reg (tq 4 (.mov (.c (.int .i64 (-1)))) .done))
 .ret)
 .skip))
 (.seq (.seq (.reg (tm 17 (.t 0) (tm 18 (.t 1) (tq 19 (.bin .gtr (.t 17) (.t 18)) .done))))
 (.cond (.t 19) (.seq (.reg (tm 4 (.c (.int .i64 1)) .done))
 .ret)
 .skip))
 (.seq (.reg (tm 4 (.c (.int .i64 0)) .done))
 .ret))))))))
theorem e9w:a1b Tryz.prog Tryz.f249 = some (e9v.erase,[.mov (.t 4)],20):=by kernel_rfl
def cmp_Compare_int (A:Int) (B:Int):Option Int :=
    (cmp_isNaN_int A).bind fun E =>
    (cmp_isNaN_int B).bind fun D =>
    if E then
    if D then
    some 0
    else
    some (-1)
    else
    if D then
    some 1
    else
    if (decide (A < B)) then
    some (-1)
    else
    if (decide (A > B)) then
    some 1
    else
    some 0
theorem b4t (A:Int) (B:Int) (r:Int) (hf:cmp_Compare_int A B = some r):a0a Tryz.prog 249 .flat [(.I A),(.I B)] (.I r):=by
 refine a0a.of_awp mixed Tryz.func249 e9w nle ?_;rw [a0l];unfold cmp_Compare_int at hf;unfold e9v;refine (show awp Tryz.prog false 0 _ (ofL [(0,(.I A)),(1,(.I B))]) [] _ from ?_);refine sr<|l7 (.I 0) rfl<|dk<|sr<|?_
 obtain ⟨E,er4,hf⟩:=ob hf
 refine l7 (.I A) rfl<|y7 (a0p (b6u _ _ er4) rfl .r rfl)<|l7 (.bool E) rfl<|dk<|sr<|?_
 obtain ⟨D,er6,hf⟩:=ob hf
 refine l7 (.I B) rfl<|y7 (a0p (b6u _ _ er6) rfl .r rfl)<|l7 (.bool D) rfl<|dk<|o6<|sr<|l7 (.bool E) rfl<|dk<|?_
 rcases oi hf with ⟨c7,hf⟩ | ⟨c7,hf⟩
 ·refine x9 rfl c7<|o6<|sr<|l7 (.bool D) rfl<|dk<|?_
  rcases oi hf with ⟨c8,hf⟩ | ⟨c8,hf⟩
  ·refine x9 rfl c8<|sr<|l7 (.I 0) rfl<|dk<|a0d<|?_;obtain rfl:=os hf;exact a0f ⟨tr,tr⟩ rfl .r
  ·refine x8 rfl (bf c8)<|a0h<|a0j<|sr<|l7 (.I (-1)) rfl<|dk<|a0d<|?_;obtain rfl:=os hf;exact a0f ⟨tr,tr⟩ rfl .r
 ·refine x8 rfl (bf c7)<|a0h<|a0j<|o6<|sr<|l7 (.bool D) rfl<|dk<|?_
  rcases oi hf with ⟨c9,hf⟩ | ⟨c9,hf⟩
  ·refine x9 rfl c9<|sr<|l7 (.I 1) rfl<|dk<|a0d<|?_;obtain rfl:=os hf;exact a0f ⟨tr,tr⟩ rfl .r
  ·refine x8 rfl (bf c9)<|a0h<|a0j<|o6<|sr<|l7 (.I A) rfl<|l7 (.I B) rfl<|o7 (.bool (decide (A < B))) rfl rfl rfl<|dk<|?_
   rcases oi hf with ⟨c10,hf⟩ | ⟨c10,hf⟩
   ·refine x9 rfl c10<|sr<|l7 (.I (-1)) rfl<|dk<|a0d<|?_;obtain rfl:=os hf;exact a0f ⟨tr,tr⟩ rfl .r
   ·refine x8 rfl (bf c10)<|a0h<|a0j<|o6<|sr<|l7 (.I A) rfl<|l7 (.I B) rfl<|o7 (.bool (decide (A > B))) rfl rfl rfl<|dk<|?_
    rcases oi hf with ⟨c11,hf⟩ | ⟨c11,hf⟩
    ·refine x9 rfl c11<|sr<|l7 (.I 1) rfl<|dk<|a0d<|?_;obtain rfl:=os hf;exact a0f ⟨tr,tr⟩ rfl .r
    ·refine x8 rfl (bf c11)<|a0h<|a0j<|sr<|l7 (.I 0) rfl<|dk<|a0d<|?_;obtain rfl:=os hf;exact a0f ⟨tr,tr⟩ rfl .r
def a4m (a b:Str):Option Int:=some (Lib.compareBytes a b)
set_option maxRecDepth 100000 in
open Go.RowKit in
theorem e1h (a b:ByteArray) (w:World):Calls Tryz.prog 351 #[.string a,.string b] w fun e w' => e = .returned (.int .i64 (Lib.compareBytes a.data.toList b.data.toList)) ∧ w' = w:=by
  go_enter Tryz.func351,(show Tryz.f351.ntmps = _ from rfl)
  go_wp2
  rw [run_callFunc_extern Tryz.func384 (by kernel_rfl) (by kernel_rfl) (by kernel_rfl) (e:=Extern.BytealgCompare.compare) (by kernel_rfl),Lib.run_compareString]
  simp only [Result.andThen]
  rw [Oper.upon_value]
  go_wp2
  go_ret
  exact ⟨rfl,rfl⟩
open Go.RowKit in
theorem b1s (a b:Str) (r:Int) (hf:a4m a b = some r):a0a Tryz.prog 351 .flat [(.str a),(.str b)] (.int .i64 r):=by
  intro w vals fps hr
  simp only [a1q,Rep] at hr
  obtain ⟨v1,vs1,f1,f2,rfl,⟨rfl,h1,rfl⟩,⟨v2,vs2,f3,f4,rfl,⟨rfl,h2,rfl⟩,⟨rfl,rfl⟩,rfl⟩,rfl⟩:=hr
  unfold a4m at hf
  obtain rfl:=os hf
  refine (e1h ⟨a.toArray⟩ ⟨b.toArray⟩ w).mono ?_
  rintro e w' ⟨rfl,rfl⟩
  refine ⟨Below.refl _ _,?_⟩
  exact ⟨[.int .i64 (Lib.compareBytes a b)],rfl,by simp [Rep]⟩
def e9x:a0q :=
 (.seq (.reg (tm 4 (.c (.int .i64 0)) .done))
 (.seq (.reg (tm 5 (.t 0) (tm 6 (.t 1) (tq 7 (.call 351 [(.t 5),(.t 6)]) (tm 4 (.t 7) .done)))))
 .ret))
theorem e9y:a1b Tryz.prog Tryz.f305 = some (e9x.erase,[.mov (.t 4)],8):=by kernel_rfl
def strings_Compare (A:Str) (B:Str):Option Int :=
    (a4m A B).bind fun D =>
    some D
theorem c1y (A:Str) (B:Str) (r:Int) (hf:strings_Compare A B = some r):a0a Tryz.prog 305 .flat [(.str A),(.str B)] (.I r):=by
  refine a0a.of_awp mixed Tryz.func305 e9y nle ?_
  rw [a0l]
  unfold strings_Compare at hf
  unfold e9x
  refine (show awp Tryz.prog false 0 _ (ofL [(0,(.str A)),(1,(.str B))]) [] _ from ?_)
  refine o6 ?_
  refine a0t ?_
  refine y7 (a4c (.I 0) rfl) ?_
  refine a0e ?_
  refine a0j ?_
  refine o6 ?_
  refine a0t ?_
  obtain ⟨D,er4,hf⟩:=ob hf
  refine y7 (a4c (.str A) rfl) ?_
  refine y7 (a4c (.str B) rfl) ?_
  refine y7 (a0p (b1s _ _ _ er4) rfl .r rfl) ?_
  refine y7 (a4c (.I D) rfl) ?_
  refine a0e ?_
  refine a0j ?_
  refine a0d ?_
  obtain rfl:=os hf
  exact a0f ⟨tr,tr⟩ rfl .r
def e9z:a0q :=
 (.seq (.reg (tm 2 (.c (.int .i64 0)) .done))
 (.seq (.reg (tm 3 (.c (.int .i64 0)) .done))
 (.seq (.seq (.reg (tm 6 (.t 0) (tq 7 (.len (.t 6)) (tm 8 (.c (.int .i64 0)) .done))))
 (.block 0 (.loop (.seq (.reg (tq 9 (.bin .lss (.t 8) (.t 7)) .done))
 (.seq (.cond (.t 9) .skip
 (.exit 0))
 (.seq (.block 1 (.seq (.reg (tq 10 (.iaddr 1 (.t 6) (.t 8)) (tq 11 (.load 1 false (.t 10)) (tm 5 (.t 11) .done))))
 (.seq (.reg (tm 12 (.t 5) (tm 13 (.t 3) (tq 14 (.bin .neq (.t 12) (.t 13)) .done))))
 (.cond (.t 14) (.seq (.reg (tm 15 (.t 5) (tm 2 (.t 15) .done)))
 .ret)
 .skip))))
 (.reg (tq 16 (.bin .add (.t 8) (.c (.int .i64 1))) (tm 8 (.t 16) .done)))))))))
 (.cut (.seq (.reg (tm 17 (.t 3) (tm 2 (.t 17) .done)))
 .ret)))))
theorem f0b:a1b Tryz.prog Tryz.f304 = some (e9z.erase,[.mov (.t 2)],18):=by kernel_rfl
def a4t :List Int → Option (Fl Int Unit)
  | [] =>
    some (.go ())
  | D :: xs =>
    if (D != 0) then
    some (.ret D)
    else
    a4t xs 
def b6i (A:(List Int)):Option Int :=
    (a4t A ).bind fun q => (match q with
    | .ret r => some r
    | .go _ =>
    some 0)
theorem d1s (A:(List Int)) (r:Int) (hf:b6i A = some r):a0a Tryz.prog 304 .flat [(.lst 1 (A.map encI))] (.I r):=by
 refine a0a.of_awp mixed Tryz.func304 f0b nle ?_;rw [a0l];unfold b6i at hf;unfold e9z;refine (show awp Tryz.prog false 0 _ (ofL [(0,(.lst 1 (A.map encI)))]) [] _ from ?_);refine sr<|l7 (.I 0) rfl<|dk<|sr<|l7 (.I 0) rfl<|dk<|o6<|sr<|l7 (.lst 1 (A.map encI)) rfl<|a1a (a1t (enc:=encI) rfl) fun hl2 => l7 (.I 0) rfl<|dk<|?_
 obtain ⟨p17,hb1,hf⟩:=ob hf
 refine a1u (X:={q:Unit // p17 = .go q}) (fun q => ([(3,(.I 0))],[])) ?_ ?_
 ·refine a1h (X:={q:Nat // a4t (A.drop q)  = some p17}) (fun q => ([(3,(.I 0)),(6,(.lst 1 (A.map encI))),(7,(.I (A.length:Int))),(8,(.I (q.1:Int)))],[])) (fun q => A.length - q.1) ⟨0,hb1⟩ ⟨[],[],_,_,rfl,rfl,⟨.r,⟨.r,⟨.r,⟨.r,tr⟩⟩⟩⟩,.r⟩ ?_
  rintro ⟨B,hc1⟩
  have hc1:a4t (A.drop B)  = some p17:=hc1
  refine (show awp Tryz.prog false 0 _ (ofL [(3,(.I 0)),(6,(.lst 1 (A.map encI))),(7,(.I (A.length:Int))),(8,(.I (B:Int)))]) [] _ from ?_)
  rcases a5j A B with ⟨hie20,hd23⟩ | ⟨hlt18,D,hx19,hd23⟩
  ·rw [hd23,a4t.eq_1] at hc1
   have hq22:=dlf hie20
   refine sr<|o7 (.bool (decide ((B:Int) < (A.length:Int)))) rfl rfl rfl<|dk<|o6<|x8 rfl hq22<|a2o<|a2n<|a1s<|a2m<|?_;obtain rfl:=os hc1;exact a2s ⟨_,rfl⟩ ⟨[],[],_,_,rfl,rfl,⟨.r,tr⟩,.r⟩
  ·rw [hd23,a4t.eq_2] at hc1
   have hq22:=dlt hlt18
   refine sr<|o7 (.bool (decide ((B:Int) < (A.length:Int)))) rfl rfl rfl<|dk<|o6<|x9 rfl hq22<|a0h<|a0j<|o6<|a2y<|sr<|y7 (a1m (enc:=encI) rfl rfl hx19)<|o7 (.I D) rfl ⟨rfl,rfl⟩ rfl<|l7 (.I D) rfl<|dk<|sr<|l7 (.I D) rfl<|l7 (.I 0) rfl<|o7 (.bool (D != 0)) rfl rfl rfl<|dk<|?_
   rcases oi hc1 with ⟨c25,hc1⟩ | ⟨c25,hc1⟩
   ·refine x9 rfl c25<|sr<|l7 (.I D) rfl<|l7 (.I D) rfl<|dk<|a0d<|?_;obtain rfl:=os hc1;obtain rfl:=os hf;exact a0f ⟨tr,tr⟩ rfl .r
   ·refine x8 rfl (bf c25)<|a0h<|a1v<|a0j<|a0t<|o7 (.I (w64 ((B:Int) + 1))) rfl rfl rfl<|l7 (.I (w64 ((B:Int) + 1))) rfl<|a0e<|?_;exact a1p ⟨(B + 1),hc1⟩ (mul hlt18) ⟨[],[],_,_,rfl,rfl,⟨.r,⟨.r,⟨.r,⟨.of_eq (congrArg (AV.int _) (a1r hlt18 hl2)),tr⟩⟩⟩⟩,.r⟩
 ·rintro ⟨_,rfl⟩
  refine sr<|l7 (.I 0) rfl<|l7 (.I 0) rfl<|dk<|a0d<|?_;obtain rfl:=os hf;exact a0f ⟨tr,tr⟩ rfl .r
def c227:a0q :=
 (.seq (.reg (tq 2 (.box 3 (.t 0)) (tq 3 (.box 3 (.t 1)) (tm 4 (.c (.int .i64 0)) .done))))
 (.seq (.reg (tq 5 (.faddr 0 (.t 2)) (tq 6 (.load 1 false (.t 5)) (tq 7 (.faddr 0 (.t 3)) (tq 8 (.load 1 false (.t 7)) (tq 10 (.faddr 1 (.t 2)) (tq 11 (.load 1 false (.t 10)) (tq 12 (.faddr 1 (.t 3)) (tq 13 (.load 1 false (.t 12)) (tq 15 (.faddr 2 (.t 2)) (tq 16 (.load 1 false (.t 15)) (tq 17 (.faddr 2 (.t 3)) (tq 18 (.load 1 false (.t 17)) (.l ⟨(some 9),none,.call 249 [(.t 6),(.t 8)]⟩ [⟨(some 18),none,.load 1 false (.t 17)⟩,⟨(some 17),none,.faddr 2 (.t 3)⟩,⟨(some 16),none,.load 1 false (.t 15)⟩,⟨(some 15),none,.faddr 2 (.t 2)⟩,⟨(some 13),none,.load 1 false (.t 12)⟩,⟨(some 12),none,.faddr 1 (.t 3)⟩,⟨(some 11),none,.load 1 false (.t 10)⟩,⟨(some 10),none,.faddr 1 (.t 2)⟩]
 (.l ⟨(some 14),none,.call 249 [(.t 11),(.t 13)]⟩ [⟨(some 18),none,.load 1 false (.t 17)⟩,⟨(some 17),none,.faddr 2 (.t 3)⟩,⟨(some 16),none,.load 1 false (.t 15)⟩,⟨(some 15),none,.faddr 2 (.t 2)⟩]
 (.l ⟨(some 19),none,.call 305 [(.t 16),(.t 18)]⟩ []
 (.l ⟨(some 20),none,.bslice 1 [(.t 9),(.t 14),(.t 19)]⟩ []
 (.l ⟨(some 21),none,.call 304 [(.t 20)]⟩ []
 (tm 4 (.t 21) .done) .non) .non) .non) .non) .non))))))))))))))
 .ret))
theorem f0c:a1b Tryz.prog Tryz.f227 = some (c227.erase,[.mov (.t 4)],22):=by kernel_rfl
def a6g (A:a0g) (B:a0g):Option Int :=
    (cmp_Compare_int A.Kind B.Kind).bind fun D =>
    (cmp_Compare_int A.N B.N).bind fun E =>
    (strings_Compare A.T B.T).bind fun F =>
    (b6i [D,E,F]).bind fun G =>
    some G
theorem b9a (A:a0g) (B:a0g) (r:Int) (hf:a6g A B = some r):a0a Tryz.prog 227 .flat [(o5 A),(o5 B)] (.I r):=by
 refine a0a.of_awp mixed Tryz.func227 f0c nle ?_;rw [a0l];unfold a6g at hf;unfold c227;refine (show awp Tryz.prog false 0 _ (ofL [(0,(o5 A)),(1,(o5 B))]) [] _ from ?_);refine sr<|y7 (a1i (j:=0) (c:=(.agg [(.I A.Kind),(.I A.N),(.str A.T)])) rfl tr rfl rfl)<|y7 (a1i (j:=1) (c:=(.agg [(.I B.Kind),(.I B.N),(.str B.T)])) rfl tr rfl rfl)<|l7 (.I 0) rfl<|dk<|sr<|o7 (.ptr 0 0 0) rfl tr rfl<|o7 (.I A.Kind) rfl nle rfl<|o7 (.ptr 1 0 0) rfl tr rfl<|o7 (.I B.Kind) rfl nle rfl<|o7 (.ptr 0 0 1) rfl tr rfl<|o7 (.I A.N) rfl nle rfl<|?_
 refine o7 (.ptr 1 0 1) rfl tr rfl<|o7 (.I B.N) rfl nle rfl<|o7 (.ptr 0 0 2) rfl tr rfl<|o7 (.str A.T) rfl nle rfl<|o7 (.ptr 1 0 2) rfl tr rfl<|o7 (.str B.T) rfl nle rfl<|?_
 obtain ⟨D,er4,hf⟩:=ob hf
 refine a2e (a0p (b4t _ _ _ er4) rfl .r rfl) a2j tr ?_
 obtain ⟨E,er6,hf⟩:=ob hf
 refine a2e (a0p (b4t _ _ _ er6) rfl .r rfl) a2j tr ?_
 obtain ⟨F,er8,hf⟩:=ob hf
 refine a2e (a0p (c1y _ _ _ er8) rfl .r rfl) a2j tr ?_;refine a2e (a1o (j:=2) (as':=[(.I D),(.I E),(.I F)]) rfl (fun _ => by decide) ⟨rfl,⟨rfl,⟨rfl,tr⟩⟩⟩ .r rfl rfl rfl) tr tr ?_
 obtain ⟨G,er10,hf⟩:=ob hf
 refine a2e (a0p (d1s _ _ er10) rfl (.cons (.of_eq (congrArg (AV.lst _) (by rfl))) .nil) rfl) a2j tr<|l7 (.I G) rfl<|dk<|a0d<|?_;obtain rfl:=os hf;exact a0f ⟨tr,tr⟩ rfl .r
def f0d:a0q :=
 (.seq (.reg (tm 2 (.c (.bool false)) .done))
 (.seq (.seq (.reg (tm 5 (.t 0) (tq 6 (.len (.t 5)) (tm 7 (.c (.int .i64 0)) .done))))
 (.block 0 (.loop (.seq (.reg (tq 8 (.bin .lss (.t 7) (.t 6)) .done))
 (.seq (.cond (.t 8) .skip
 (.exit 0))
 (.seq (.block 1 (.seq (.reg (tm 9 (.t 7) (tq 10 (.iaddr 3 (.t 5) (.t 7)) (tq 11 (.load 3 true (.t 10)) (tq 4 (.box 3 (.c (.agg [(.int .i64 0),(.int .i64 0),(.str [])]))) (tm 3 (.t 9) (.q ⟨none,none,.store 3 (.t 4) (.t 11)⟩
 .done)))))))
 (.seq (.reg (tq 12 (.load 3 true (.t 4)) (.l ⟨(some 13),none,.call 135 [(.t 12)]⟩ []
 (tq 14 (.not (.t 13)) (tm 15 (.t 14) (tg 16 15 false (.faddr 0 (.t 4)) (tg 17 15 false (.load 1 false (.t 16)) (tg 18 15 false (.mov (.t 0)) (tg 19 15 false (.iaddr 3 (.t 18) (.c (.int .i64 0))) (tg 20 15 false (.faddr 0 (.t 19)) (tg 21 15 false (.load 1 false (.t 20)) (tg 22 15 false (.bin .neq (.t 17) (.t 21)) (tq 23 (.pick (.t 15) (.c (.bool true)) (.t 22)) (tm 24 (.t 23) (tg 25 24 false (.mov (.t 3)) (tg 26 24 false (.bin .gtr (.t 25) (.c (.int .i64 0))) (tg 27 24 false (.mov (.t 26)) (tg 28 27 true (.mov (.t 0)) (tg 29 27 true (.mov (.t 3)) (tg 30 27 true (.bin .sub (.t 29) (.c (.int .i64 1))) (tg 31 27 true (.iaddr 3 (.t 28) (.t 30)) (tg 32 27 true (.load 3 true (.t 31)) (tg 33 27 true (.load 3 true (.t 4)) (.l ⟨(some 34),(some (27,true)),.call 227 [(.t 32),(.t 33)]⟩ []
 (tg 35 27 true (.bin .geq (.t 34) (.c (.int .i64 0))) (tg 36 24 false (.pick (.t 27) (.t 35) (.c (.bool false))) (tq 37 (.pick (.t 24) (.c (.bool true)) (.t 36)) .done))) .non))))))))))))))))))))) .non)))
 (.cut (.cond (.t 37) (.seq (.reg (tm 2 (.c (.bool false)) .done))
 .ret)
 .skip)))))
 (.reg (tq 38 (.bin .add (.t 7) (.c (.int .i64 1))) (tm 7 (.t 38) .done)))))))))
 (.cut (.seq (.reg (tm 39 (.t 0) (tq 40 (.len (.t 39)) (tq 41 (.bin .leq (.t 40) (.c (.int .i64 8))) (tm 2 (.t 41) .done)))))
 .ret))))
theorem f0e:a1b Tryz.prog Tryz.f129 = some (f0d.erase,[.mov (.t 2)],42):=by kernel_rfl
def a5b (B:(List a0g)):List a0g → Nat → Option (Fl Bool Unit)
  | [],A =>
    some (.go ())
  | D :: xs,A =>
    (((a7k D).bind fun G =>
    if (!G) then
    some true
    else
    (idx B 0).bind fun E =>
    if (D.Kind != E.Kind) then
    some true
    else
    if (decide ((A:Int) > 0)) then
    (idx B (w64 ((A:Int) - 1))).bind fun J =>
    (a6g J D).bind fun F =>
    some (decide (F ≥ 0))
    else
    some false:Option Bool)).bind fun H =>
    if H then
    some (.ret false)
    else
    a5b B xs (A + 1)
def b1t (B:(List a0g)):Option Bool :=
    (a5b B B 0).bind fun q => (match q with
    | .ret r => some r
    | .go _ =>
    some (decide ((B.length:Int) ≤ 8)))
theorem c7j (B:(List a0g)) (r:Bool) (hf:b1t B = some r):a0a Tryz.prog 129 .flat [(.lst 3 (B.map o5))] (.bool r):=by
 refine a0a.of_awp mixed Tryz.func129 f0e nle ?_;rw [a0l];unfold b1t at hf;unfold f0d;refine (show awp Tryz.prog false 0 _ (ofL [(0,(.lst 3 (B.map o5)))]) [] _ from ?_);refine sr<|l7 (.bool false) rfl<|dk<|o6<|sr<|l7 (.lst 3 (B.map o5)) rfl<|a1a (a1t (enc:=o5) rfl) fun hl2 => l7 (.I 0) rfl<|dk<|?_
 obtain ⟨p79,hb1,hf⟩:=ob hf
 refine a1u (X:={q:Unit // p79 = .go q}) (fun q => ([(0,(.lst 3 (B.map o5)))],[])) ?_ ?_
 ·refine a1h (X:={q:Nat // a5b B (B.drop q) q = some p79}) (fun q => ([(0,(.lst 3 (B.map o5))),(5,(.lst 3 (B.map o5))),(6,(.I (B.length:Int))),(7,(.I (q.1:Int)))],[])) (fun q => B.length - q.1) ⟨0,hb1⟩ ⟨[],[],_,_,rfl,rfl,⟨.r,⟨.r,⟨.r,⟨.r,tr⟩⟩⟩⟩,.r⟩ ?_
  rintro ⟨A,hc1⟩
  have hc1:a5b B (B.drop A) A = some p79:=hc1
  refine (show awp Tryz.prog false 0 _ (ofL [(0,(.lst 3 (B.map o5))),(5,(.lst 3 (B.map o5))),(6,(.I (B.length:Int))),(7,(.I (A:Int)))]) [] _ from ?_)
  rcases a5j B A with ⟨hie82,hd85⟩ | ⟨hlt80,D,hx81,hd85⟩
  ·rw [hd85,a5b.eq_1] at hc1
   have hq84:=dlf hie82
   refine sr<|o7 (.bool (decide ((A:Int) < (B.length:Int)))) rfl rfl rfl<|dk<|o6<|x8 rfl hq84<|a2o<|a2n<|a1s<|a2m<|?_;obtain rfl:=os hc1;exact a2s ⟨_,rfl⟩ ⟨[],[],_,_,rfl,rfl,⟨.r,tr⟩,.r⟩
  ·rw [hd85,a5b.eq_2] at hc1
   have hq84:=dlt hlt80
   refine sr<|o7 (.bool (decide ((A:Int) < (B.length:Int)))) rfl rfl rfl<|dk<|o6<|x9 rfl hq84<|a0h<|a0j<|o6<|a2y<|sr<|l7 (.I (A:Int)) rfl<|y7 (a1m (enc:=o5) rfl rfl hx81)<|o7 (o5 D) rfl nle rfl<|y7 (a1i (j:=0) (c:=(.agg [(.I 0),(.I 0),(.str [])])) rfl tr rfl rfl)<|l7 (.I (A:Int)) rfl<|a1k (a0i (v:=(.agg [(.I D.Kind),(.I D.N),(.str D.T)])) (y':=(.agg [(.I D.Kind),(.I D.N),(.str D.T)])) rfl rfl rfl tr ⟨rfl,nle⟩ ⟨⟨rfl,tr⟩,⟨⟨rfl,tr⟩,⟨⟨rfl,tr⟩,tr⟩⟩⟩ rfl)<|?_
   refine dk<|o6<|?_
   obtain ⟨H,hb2,hc1⟩:=ob hc1
   refine a2d ([(0,(.lst 3 (B.map o5))),(5,(.lst 3 (B.map o5))),(6,(.I (B.length:Int))),(7,(.I (A:Int))),(37,(.bool H))],[]) ?_ ?_
   ·refine a0t<|o7 (.agg [(.I D.Kind),(.I D.N),(.str D.T)]) rfl nle rfl<|?_
    obtain ⟨G,er101,hb2⟩:=ob hb2
    refine a2e (a0p (b5e _ _ er101) rfl .r rfl) a2j tr<|o7 (.bool (!G)) rfl tr rfl<|l7 (.bool (!G)) rfl<|?_
    rcases oi hb2 with ⟨c102,hb2⟩ | ⟨c102,hb2⟩
    ·refine a0x (s:=15) (b:=true) rfl c102<|y5 rfl rfl<|y5 rfl rfl<|y5 rfl rfl<|y5 rfl rfl<|y5 rfl rfl<|y5 rfl rfl<|y5 rfl rfl<|o7 (.bool true) rfl tr rfl<|l7 (.bool true) rfl<|y5 rfl rfl<|y5 rfl rfl<|y5 rfl rfl<|a1g rfl<|a1g rfl<|a1g rfl<|a1g rfl<|a1g rfl<|a1g rfl<|c5n rfl tr<|a1g rfl<|y5 rfl rfl<|o7 (.bool true) rfl tr rfl<|a0e<|?_;obtain rfl:=os hb2;exact ⟨[],[],_,_,rfl,rfl,⟨.r,⟨.r,⟨.r,⟨.r,⟨.r,tr⟩⟩⟩⟩⟩,.r⟩
    ·refine a0x (s:=15) (b:=false) rfl (bf c102)<|s_on rfl<|o7 (.ptr 0 0 0) rfl tr rfl<|s_on rfl<|o7 (.I D.Kind) rfl nle rfl<|s_on rfl<|l7 (.lst 3 (B.map o5)) rfl<|s_on rfl<|?_
     obtain ⟨E,ex104,hb2⟩:=ob hb2
     refine y7 (a3d (enc:=o5) rfl rfl (b0a ex104) (b0b ex104))<|s_on rfl<|o7 (.iptr (o5 E) 0) rfl tr rfl<|s_on rfl<|o7 (.I E.Kind) rfl nle rfl<|s_on rfl<|o7 (.bool (D.Kind != E.Kind)) rfl rfl rfl<|o7 (.bool (D.Kind != E.Kind)) rfl tr rfl<|l7 (.bool (D.Kind != E.Kind)) rfl<|?_
     rcases oi hb2 with ⟨c105,hb2⟩ | ⟨c105,hb2⟩
     ·refine a0x (s:=24) (b:=true) rfl c105<|y5 rfl rfl<|y5 rfl rfl<|y5 rfl rfl<|a1g rfl<|a1g rfl<|a1g rfl<|a1g rfl<|a1g rfl<|a1g rfl<|c5n rfl tr<|a1g rfl<|y5 rfl rfl<|o7 (.bool true) rfl tr rfl<|a0e<|?_;obtain rfl:=os hb2;exact ⟨[],[],_,_,rfl,rfl,⟨.r,⟨.r,⟨.r,⟨.r,⟨.r,tr⟩⟩⟩⟩⟩,.r⟩
     ·refine a0x (s:=24) (b:=false) rfl (bf c105)<|s_on rfl<|l7 (.I (A:Int)) rfl<|s_on rfl<|o7 (.bool (decide ((A:Int) > 0))) rfl rfl rfl<|s_on rfl<|l7 (.bool (decide ((A:Int) > 0))) rfl<|?_
      rcases oi hb2 with ⟨c106,hb2⟩ | ⟨c106,hb2⟩
      ·refine a0x (s:=27) (b:=true) rfl c106<|s_on rfl<|l7 (.lst 3 (B.map o5)) rfl<|s_on rfl<|l7 (.I (A:Int)) rfl<|s_on rfl<|o7 (.I (w64 ((A:Int) - 1))) rfl rfl rfl<|s_on rfl<|?_
       obtain ⟨J,ex108,hb2⟩:=ob hb2
       refine y7 (a3d (enc:=o5) rfl rfl (b0a ex108) (b0b ex108))<|s_on rfl<|o7 (o5 J) rfl nle rfl<|s_on rfl<|o7 (.agg [(.I D.Kind),(.I D.N),(.str D.T)]) rfl nle rfl<|c6t rfl<|?_
       obtain ⟨F,er110,hb2⟩:=ob hb2
       refine a2e (a0p (b9a _ _ _ er110) rfl .r rfl) a2j tr<|s_on rfl<|o7 (.bool (decide (F ≥ 0))) rfl rfl rfl<|s_on rfl<|o7 (.bool (decide (F ≥ 0))) rfl tr rfl<|o7 (.bool (decide (F ≥ 0))) rfl tr rfl<|a0e<|?_;obtain rfl:=os hb2;exact ⟨[],[],_,_,rfl,rfl,⟨.r,⟨.r,⟨.r,⟨.r,⟨.r,tr⟩⟩⟩⟩⟩,.r⟩
      ·refine a0x (s:=27) (b:=false) rfl (bf c106)<|y5 rfl rfl<|y5 rfl rfl<|y5 rfl rfl<|y5 rfl rfl<|y5 rfl rfl<|y5 rfl rfl<|c0d rfl rfl tr<|y5 rfl rfl<|s_on rfl<|o7 (.bool false) rfl tr rfl<|o7 (.bool false) rfl tr rfl<|a0e<|?_;obtain rfl:=os hb2;exact ⟨[],[],_,_,rfl,rfl,⟨.r,⟨.r,⟨.r,⟨.r,⟨.r,tr⟩⟩⟩⟩⟩,.r⟩
   ·rcases oi hc1 with ⟨c111,hc1⟩ | ⟨c111,hc1⟩
    ·refine x9 rfl c111<|sr<|l7 (.bool false) rfl<|dk<|a0d<|?_;obtain rfl:=os hc1;obtain rfl:=os hf;exact a0f ⟨tr,tr⟩ rfl .r
    ·refine x8 rfl (bf c111)<|a0h<|a1v<|a0j<|a0t<|o7 (.I (w64 ((A:Int) + 1))) rfl rfl rfl<|l7 (.I (w64 ((A:Int) + 1))) rfl<|a0e<|?_;exact a1p ⟨(A + 1),hc1⟩ (mul hlt80) ⟨[],[],_,_,rfl,rfl,⟨.r,⟨.r,⟨.r,⟨.of_eq (congrArg (AV.int _) (a1r hlt80 hl2)),tr⟩⟩⟩⟩,.r⟩
 ·rintro ⟨_,rfl⟩
  refine sr<|l7 (.lst 3 (B.map o5)) rfl<|a1a (a1t (enc:=o5) rfl) fun hl112 => o7 (.bool (decide ((B.length:Int) ≤ 8))) rfl rfl rfl<|l7 (.bool (decide ((B.length:Int) ≤ 8))) rfl<|dk<|a0d<|?_;obtain rfl:=os hf;exact a0f ⟨tr,tr⟩ rfl .r
def f0f:a0q :=
 (.seq (.reg (tq 1 (.box 3 (.t 0)) (tm 2 (.c (.bool false)) .done)))
 (.seq (.reg (tq 3 (.faddr 1 (.t 1)) (tq 4 (.load 1 false (.t 3)) (tq 5 (.call 81 [(.t 4),(.c (.int .i64 1)),(.c (.int .i64 8))]) (tm 6 (.t 5) (tg 7 6 true (.faddr 2 (.t 1)) (tg 8 6 true (.load 1 false (.t 7)) (tg 9 6 true (.call 129 [(.t 8)]) (tq 10 (.pick (.t 6) (.t 9) (.c (.bool false))) (tm 11 (.t 10) (tg 12 11 true (.faddr 0 (.t 1)) (tg 13 11 true (.load 1 false (.t 12)) (tg 14 11 true (.bslice 1 [(.t 13)]) (tg 15 11 true (.call 318 [(.t 14)]) (tq 16 (.pick (.t 11) (.t 15) (.c (.bool false))) (tm 2 (.t 16) .done))))))))))))))))
 .ret))
theorem f0g:a1b Tryz.prog Tryz.f364 = some (f0f.erase,[.mov (.t 2)],17):=by kernel_rfl
def b2z (A:a0m):Option Bool :=
    (a6v A.Func 1 8).bind fun E =>
    if E then
    (b1t A.Value).bind fun B =>
    if B then
    (a7s [A.Column]).bind fun D =>
    some D
    else
    some false
    else
    some false
theorem c8v (A:a0m) (r:Bool) (hf:b2z A = some r):a0a Tryz.prog 364 .flat [(o8 A)] (.bool r):=by
 refine a0a.of_awp mixed Tryz.func364 f0g nle ?_;rw [a0l];unfold b2z at hf;unfold f0f;refine (show awp Tryz.prog false 0 _ (ofL [(0,(o8 A))]) [] _ from ?_);refine sr<|y7 (a1i (j:=0) (c:=(.agg [(.str A.Column),(.I A.Func),(.lst 3 (A.Value.map o5))])) rfl tr rfl rfl)<|l7 (.bool false) rfl<|dk<|sr<|o7 (.ptr 0 0 1) rfl tr rfl<|o7 (.I A.Func) rfl nle rfl<|?_
 obtain ⟨E,er3,hf⟩:=ob hf
 refine y7 (a0p (a7r _ _ _ _ er3) rfl .r rfl)<|l7 (.bool E) rfl<|?_
 rcases oi hf with ⟨c4,hf⟩ | ⟨c4,hf⟩
 ·refine a0x (s:=6) (b:=true) rfl c4<|s_on rfl<|o7 (.ptr 0 0 2) rfl tr rfl<|s_on rfl<|o7 (.lst 3 (A.Value.map o5)) rfl nle rfl<|s_on rfl<|?_
  obtain ⟨B,er6,hf⟩:=ob hf
  refine y7 (a0p (c7j _ _ er6) rfl .r rfl)<|o7 (.bool B) rfl tr rfl<|l7 (.bool B) rfl<|?_
  rcases oi hf with ⟨c7,hf⟩ | ⟨c7,hf⟩
  ·refine a0x (s:=11) (b:=true) rfl c7<|s_on rfl<|o7 (.ptr 0 0 0) rfl tr rfl<|s_on rfl<|o7 (.str A.Column) rfl nle rfl<|s_on rfl<|?_;refine y7 (a1o (j:=1) (as':=[(.str A.Column)]) rfl (fun _ => by decide) ⟨rfl,tr⟩ .r rfl rfl rfl) ?_;refine s_on rfl ?_
   obtain ⟨D,er9,hf⟩:=ob hf
   refine y7 (a0p (b3h _ _ er9) rfl (.cons (.of_eq (congrArg (AV.lst _) (by rfl))) .nil) rfl)<|o7 (.bool D) rfl tr rfl<|l7 (.bool D) rfl<|dk<|a0d<|?_;obtain rfl:=os hf;exact a0f ⟨tr,tr⟩ rfl .r
  ·refine a0x (s:=11) (b:=false) rfl (bf c7)<|y5 rfl rfl<|y5 rfl rfl<|y5 rfl rfl<|y5 rfl rfl<|o7 (.bool false) rfl tr rfl<|l7 (.bool false) rfl<|dk<|a0d<|?_;obtain rfl:=os hf;exact a0f ⟨tr,tr⟩ rfl .r
 ·refine a0x (s:=6) (b:=false) rfl (bf c4)<|y5 rfl rfl<|y5 rfl rfl<|y5 rfl rfl<|o7 (.bool false) rfl tr rfl<|l7 (.bool false) rfl<|y5 rfl rfl<|y5 rfl rfl<|y5 rfl rfl<|y5 rfl rfl<|o7 (.bool false) rfl tr rfl<|l7 (.bool false) rfl<|dk<|a0d<|?_;obtain rfl:=os hf;exact a0f ⟨tr,tr⟩ rfl .r
def f0h:a0q :=
 (.seq (.reg (tq 1 (.box 3 (.t 0)) (tm 2 (.c (.bool false)) .done)))
 (.seq (.reg (tq 3 (.load 3 true (.t 1)) (tq 4 (.call 364 [(.t 3)]) (tq 5 (.not (.t 4)) (tm 2 (.t 5) .done)))))
 .ret))
theorem f0i:a1b Tryz.prog Tryz.f363 = some (f0h.erase,[.mov (.t 2)],6):=by kernel_rfl
def b1u (A:a0m):Option Bool :=
    (b2z A).bind fun B =>
    some (!B)
theorem c3o (A:a0m) (r:Bool) (hf:b1u A = some r):a0a Tryz.prog 363 .flat [(o8 A)] (.bool r):=by
  refine a0a.of_awp mixed Tryz.func363 f0i nle ?_
  rw [a0l]
  unfold b1u at hf
  unfold f0h
  refine (show awp Tryz.prog false 0 _ (ofL [(0,(o8 A))]) [] _ from ?_)
  refine o6 ?_
  refine a0t ?_
  refine y7 (a1i (j:=0) (c:=(.agg [(.str A.Column),(.I A.Func),(.lst 3 (A.Value.map o5))])) rfl tr rfl rfl) ?_
  refine y7 (a4c (.bool false) rfl) ?_
  refine a0e ?_
  refine a0j ?_
  refine o6 ?_
  refine a0t ?_
  obtain ⟨B,er3,hf⟩:=ob hf
  refine y7 (o_q (.agg [(.str A.Column),(.I A.Func),(.lst 3 (A.Value.map o5))]) rfl nle rfl) ?_
  refine y7 (a0p (c8v _ _ er3) rfl .r rfl) ?_
  refine y7 (o_q (.bool (!B)) rfl tr rfl) ?_
  refine y7 (a4c (.bool (!B)) rfl) ?_
  refine a0e ?_
  refine a0j ?_
  refine a0d ?_
  obtain rfl:=os hf
  exact a0f ⟨tr,tr⟩ rfl .r
def f0j:a0q :=
 (.seq (.reg (tm 2 (.c (.bool false)) .done))
 (.seq (.reg (tm 3 (.t 0) (tq 4 (.len (.t 3)) (tq 5 (.bin .leq (.t 4) (.c (.int .i64 8))) (tm 6 (.t 5) (tg 7 6 true (.mov (.t 0)) (tg 8 6 true (.call 362 [(.t 7),(.c (.fn 363 []))]) (tg 9 6 true (.not (.t 8)) (tq 10 (.pick (.t 6) (.t 9) (.c (.bool false))) (tm 2 (.t 10) .done))))))))))
 .ret))
theorem f0k:a1b Tryz.prog Tryz.f319 = some (f0j.erase,[.mov (.t 2)],11):=by kernel_rfl
def b1v (A:(List a0m)):Option Bool :=
    if (decide ((A.length:Int) ≤ 8)) then
    (a1z A b1u).bind fun B =>
    some (!B)
    else
    some false
theorem c7k (A:(List a0m)) (r:Bool) (hf:b1v A = some r):a0a Tryz.prog 319 .flat [(.lst 3 (A.map o8))] (.bool r):=by
 refine a0a.of_awp mixed Tryz.func319 f0k nle ?_;rw [a0l];unfold b1v at hf;unfold f0j;refine (show awp Tryz.prog false 0 _ (ofL [(0,(.lst 3 (A.map o8)))]) [] _ from ?_);refine sr<|l7 (.bool false) rfl<|dk<|sr<|?_
 rcases oi hf with ⟨c3,hf⟩ | ⟨c3,hf⟩
 ·obtain ⟨B,er5,hf⟩:=ob hf
  refine l7 (.lst 3 (A.map o8)) rfl<|a1a (a1t (enc:=o8) rfl) fun hl2 => o7 (.bool (decide ((A.length:Int) ≤ 8))) rfl rfl rfl<|l7 (.bool (decide ((A.length:Int) ≤ 8))) rfl<|a0x (s:=6) (b:=true) rfl c3<|s_on rfl<|l7 (.lst 3 (A.map o8)) rfl<|s_on rfl<|?_;refine y7 (a0p (a8v _ _ _ er5 363 [] (by kernel_rfl) (fun _ _ => rfl) (fun _ => rfl) (fun a0 r h => c3o a0 r h)) rfl .r rfl) ?_;refine s_on rfl<|o7 (.bool (!B)) rfl tr rfl<|o7 (.bool (!B)) rfl tr rfl<|l7 (.bool (!B)) rfl<|dk<|a0d<|?_;obtain rfl:=os hf;exact a0f ⟨tr,tr⟩ rfl .r
 ·refine l7 (.lst 3 (A.map o8)) rfl<|a1a (a1t (enc:=o8) rfl) fun hl2 => o7 (.bool (decide ((A.length:Int) ≤ 8))) rfl rfl rfl<|l7 (.bool (decide ((A.length:Int) ≤ 8))) rfl<|a0x (s:=6) (b:=false) rfl (bf c3)<|y5 rfl rfl<|y5 rfl rfl<|y5 rfl rfl<|o7 (.bool false) rfl tr rfl<|l7 (.bool false) rfl<|dk<|a0d<|?_;obtain rfl:=os hf;exact a0f ⟨tr,tr⟩ rfl .r
def f0l:a0q :=
 (.seq (.reg (tq 1 (.box 8 (.t 0)) (tm 2 (.c (.bool false)) .done)))
 (.seq (.reg (tq 3 (.faddr 0 (.t 1)) (tq 4 (.load 1 false (.t 3)) (tq 5 (.call 186 [(.t 4)]) (tm 6 (.t 5) (tg 7 6 true (.faddr 1 (.t 1)) (tg 8 6 true (.load 1 false (.t 7)) (tg 9 6 true (.bslice 1 [(.t 8)]) (tg 10 6 true (.call 318 [(.t 9)]) (tq 11 (.pick (.t 6) (.t 10) (.c (.bool false))) (tm 12 (.t 11) (tg 13 12 true (.faddr 2 (.t 1)) (tg 14 12 true (.load 1 false (.t 13)) (tg 15 12 true (.len (.t 14)) (tg 16 12 true (.bin .leq (.t 15) (.c (.int .i64 6))) (tq 17 (.pick (.t 12) (.t 16) (.c (.bool false))) (tm 18 (.t 17) (tg 19 18 true (.faddr 2 (.t 1)) (tg 20 18 true (.load 1 false (.t 19)) (tg 21 18 true (.call 318 [(.t 20)]) (tq 22 (.pick (.t 18) (.t 21) (.c (.bool false))) (tm 23 (.t 22) (tg 24 23 true (.faddr 7 (.t 1)) (tg 25 23 true (.load 1 false (.t 24)) (tg 26 23 true (.call 319 [(.t 25)]) (tq 27 (.pick (.t 23) (.t 26) (.c (.bool false))) (tm 2 (.t 27) .done)))))))))))))))))))))))))))
 .ret))
theorem f0m:a1b Tryz.prog Tryz.f258 = some (f0l.erase,[.mov (.t 2)],28):=by kernel_rfl
def a6d (A:a0k):Option Bool :=
    (b2y A.Name).bind fun F =>
    if F then
    (a7s [A.Table]).bind fun B =>
    if (bif B then (decide ((A.Columns.length:Int) ≤ 6)) else false) then
    (a7s A.Columns).bind fun E =>
    if E then
    (b1v A.Where).bind fun D =>
    some D
    else
    some false
    else
    some false
    else
    some false
theorem c3p (A:a0k) (r:Bool) (hf:a6d A = some r):a0a Tryz.prog 258 .flat [(a4d A)] (.bool r):=by
 refine a0a.of_awp mixed Tryz.func258 f0m nle ?_;rw [a0l];unfold a6d at hf;unfold f0l;refine (show awp Tryz.prog false 0 _ (ofL [(0,(a4d A))]) [] _ from ?_);refine sr<|y7 (a1i (j:=0) (c:=(.agg [(.str A.Name),(.str A.Table),(.lst 1 (A.Columns.map AV.str)),(.bool A.Initial),(.bool A.Insert),(.bool A.Delete),(.bool A.Modify),(.lst 3 (A.Where.map o8))])) rfl tr rfl rfl)<|l7 (.bool false) rfl<|dk<|sr<|o7 (.ptr 0 0 0) rfl tr rfl<|o7 (.str A.Name) rfl nle rfl<|?_
 obtain ⟨F,er3,hf⟩:=ob hf
 refine y7 (a0p (c8u _ _ er3) rfl .r rfl)<|l7 (.bool F) rfl<|?_
 rcases oi hf with ⟨c4,hf⟩ | ⟨c4,hf⟩
 ·refine a0x (s:=6) (b:=true) rfl c4<|s_on rfl<|o7 (.ptr 0 0 1) rfl tr rfl<|s_on rfl<|o7 (.str A.Table) rfl nle rfl<|s_on rfl<|?_;refine y7 (a1o (j:=1) (as':=[(.str A.Table)]) rfl (fun _ => by decide) ⟨rfl,tr⟩ .r rfl rfl rfl) ?_;refine s_on rfl ?_
  obtain ⟨B,er6,hf⟩:=ob hf
  refine y7 (a0p (b3h _ _ er6) rfl (.cons (.of_eq (congrArg (AV.lst _) (by rfl))) .nil) rfl)<|o7 (.bool B) rfl tr rfl<|l7 (.bool B) rfl<|?_;refine s_g (v:=B) (.ptr 0 0 2) rfl (fun hv => by (try simp only [a0c hv]);exact ⟨rfl,tr,rfl⟩) ?_;refine s_g (v:=B) (.lst 1 (A.Columns.map AV.str)) rfl (fun hv => by (try simp only [a0c hv]);exact ⟨rfl,nle,rfl⟩) ?_;refine s_g (v:=B) (.I (A.Columns.length:Int)) rfl (fun hv => by (try simp only [a0c hv]);exact ⟨rfl,tr,lenV _ _⟩) ?_;refine s_g (v:=B) (.bool (decide ((A.Columns.length:Int) ≤ 6))) rfl (fun hv => by (try simp only [a0c hv]);exact ⟨rfl,rfl,rfl⟩) ?_;refine a3a (x:=(decide ((A.Columns.length:Int) ≤ 6))) (y:=false) rfl (fun hv => by (try simp only [a0c hv]);rfl) (fun hv => by (try simp only [a0c hv]);rfl) ?_
  refine l7 (.bool (bif B then (decide ((A.Columns.length:Int) ≤ 6)) else false)) rfl ?_
  rcases oi hf with ⟨c8,hf⟩ | ⟨c8,hf⟩
  ·refine a0x (s:=18) (b:=true) rfl c8<|s_on rfl<|o7 (.ptr 0 0 2) rfl tr rfl<|s_on rfl<|o7 (.lst 1 (A.Columns.map AV.str)) rfl nle rfl<|s_on rfl<|?_
   obtain ⟨E,er10,hf⟩:=ob hf
   refine y7 (a0p (b3h _ _ er10) rfl .r rfl)<|o7 (.bool E) rfl tr rfl<|l7 (.bool E) rfl<|?_
   rcases oi hf with ⟨c11,hf⟩ | ⟨c11,hf⟩
   ·refine a0x (s:=23) (b:=true) rfl c11<|s_on rfl<|o7 (.ptr 0 0 7) rfl tr rfl<|s_on rfl<|o7 (.lst 3 (A.Where.map o8)) rfl nle rfl<|s_on rfl<|?_
    obtain ⟨D,er13,hf⟩:=ob hf
    refine y7 (a0p (c7k _ _ er13) rfl .r rfl)<|o7 (.bool D) rfl tr rfl<|l7 (.bool D) rfl<|dk<|a0d<|?_;obtain rfl:=os hf;exact a0f ⟨tr,tr⟩ rfl .r
   ·refine a0x (s:=23) (b:=false) rfl (bf c11)<|y5 rfl rfl<|y5 rfl rfl<|y5 rfl rfl<|o7 (.bool false) rfl tr rfl<|l7 (.bool false) rfl<|dk<|a0d<|?_;obtain rfl:=os hf;exact a0f ⟨tr,tr⟩ rfl .r
  ·refine a0x (s:=18) (b:=false) rfl (bf c8)<|y5 rfl rfl<|y5 rfl rfl<|y5 rfl rfl<|o7 (.bool false) rfl tr rfl<|l7 (.bool false) rfl<|y5 rfl rfl<|y5 rfl rfl<|y5 rfl rfl<|o7 (.bool false) rfl tr rfl<|l7 (.bool false) rfl<|dk<|a0d<|?_;obtain rfl:=os hf;exact a0f ⟨tr,tr⟩ rfl .r
 ·refine a0x (s:=6) (b:=false) rfl (bf c4)<|y5 rfl rfl<|y5 rfl rfl<|y5 rfl rfl<|y5 rfl rfl<|o7 (.bool false) rfl tr rfl<|l7 (.bool false) rfl<|y5 rfl rfl<|y5 rfl rfl<|y5 rfl rfl<|y5 rfl rfl<|o7 (.bool false) rfl tr rfl<|l7 (.bool false) rfl<|y5 rfl rfl<|y5 rfl rfl<|y5 rfl rfl<|o7 (.bool false) rfl tr rfl<|l7 (.bool false) rfl<|y5 rfl rfl<|y5 rfl rfl<|y5 rfl rfl<|o7 (.bool false) rfl tr rfl<|l7 (.bool false) rfl<|dk<|a0d<|?_;obtain rfl:=os hf;exact a0f ⟨tr,tr⟩ rfl .r
def f0n:a0q :=
 (.seq (.reg (tq 3 (.box 5 (.t 1)) (tq 4 (.box 8 (.c (.agg [(.str []),(.str []),.nil,(.bool false),(.bool false),(.bool false),(.bool false),.nil]))) (tm 5 (.c (.bool false)) .done))))
 (.seq (.reg (tm 11 (.t 0) (tq 12 (.build [(.str []),(.str []),.nil,(.bool false),(.bool false),(.bool false),(.bool false),.nil] [(0,1,(.t 11)),(3,1,(.c (.bool true))),(4,1,(.c (.bool true))),(5,1,(.c (.bool true))),(6,1,(.c (.bool true)))]) (tq 6 (.box 8 (.c (.agg [(.str []),(.str []),.nil,(.bool false),(.bool false),(.bool false),(.bool false),.nil]))) (.q ⟨none,none,.store 8 (.t 6) (.t 12)⟩
 .done)))))
 (.seq (.seq (.reg (tq 14 (.load 5 true (.t 3)) (tq 15 (.call 140 [(.t 14),(.c (.str [116,97,98,108,101]))]) (tm 13 (.t 15) (tq 16 (.extract 0 (.t 13)) (tq 17 (.extract 1 (.t 13)) (tq 7 (.box 5 (.c (.agg [(.int .i64 0),(.int .i64 0),(.str []),.nil,.nil]))) (.q ⟨none,none,.store 5 (.t 7) (.t 16)⟩
 (tm 8 (.t 17) .done)))))))))
 (.seq (.reg (tm 18 (.t 8) (tq 19 (.not (.t 18)) .done)))
 (.cond (.t 19) (.seq (.reg (tq 20 (.build [(.str []),(.str []),.nil,(.bool false),(.bool false),(.bool false),(.bool false),.nil] []) (.q ⟨none,none,.store 8 (.t 4) (.t 20)⟩
 (tm 5 (.c (.bool false)) .done))))
 .ret)
 .skip)))
 (.seq (.seq (.reg (tq 21 (.faddr 3 (.t 3)) (tq 22 (.load 1 false (.t 21)) (tq 23 (.len (.t 22)) (tm 24 (.c (.int .i64 0)) .done)))))
 (.block 0 (.loop (.seq (.reg (tq 25 (.bin .lss (.t 24) (.t 23)) .done))
 (.seq (.cond (.t 25) .skip
 (.exit 0))
 (.seq (.block 1 (.seq (.reg (tm 26 (.t 24) (tq 27 (.iaddr 1 (.t 22) (.t 24)) (tq 28 (.load 1 false (.t 27)) (tm 9 (.t 26) (tm 10 (.t 28) .done))))))
 (.seq (.reg (tm 29 (.t 10) (tq 30 (.faddr 4 (.t 3)) (tq 31 (.load 1 false (.t 30)) (tm 32 (.t 9) (tq 33 (.iaddr 5 (.t 31) (.t 32)) (tq 34 (.load 5 true (.t 33)) (tq 35 (.call 257 [(.t 6),(.t 29),(.t 34)]) (tq 36 (.not (.t 35)) .done)))))))))
 (.cond (.t 36) (.seq (.reg (tq 37 (.build [(.str []),(.str []),.nil,(.bool false),(.bool false),(.bool false),(.bool false),.nil] []) (.q ⟨none,none,.store 8 (.t 4) (.t 37)⟩
 (tm 5 (.c (.bool false)) .done))))
 .ret)
 .skip))))
 (.reg (tq 38 (.bin .add (.t 24) (.c (.int .i64 1))) (tm 24 (.t 38) .done)))))))))
 (.cut (.seq (.reg (tq 39 (.load 8 true (.t 6)) (tq 40 (.load 8 true (.t 6)) (.l ⟨(some 41),none,.call 258 [(.t 40)]⟩ [⟨(some 39),none,.load 8 true (.t 6)⟩]
 (.l ⟨none,none,.store 8 (.t 4) (.t 39)⟩ []
 (tm 5 (.t 41) .done) .non) .non))))
 .ret))))))
theorem f0o:a1b Tryz.prog Tryz.f158 = some (f0n.erase,[.load 8 true (.t 4),.mov (.t 5)],42):=by kernel_rfl
def a2t (A:y8):List Str → Nat → Str → Str → Bool → Bool → Bool → Bool → (List Str) → (List a0m) → (List Str) → (List a0m) → Option (Fl (a0k × Bool) (Str × Str × Bool × Bool × Bool × Bool × (List Str) × (List a0m) × (List Str) × (List a0m)))
  | [],D,Y,Z,Aa,Ab,Ac,Ad,G,H,M,O =>
    some (.go (Y,Z,Aa,Ab,Ac,Ad,G,H,M,O))
  | Ae :: xs,D,Y,Z,Aa,Ab,Ac,Ad,G,H,M,O =>
    (idx A.Items (D:Int)).bind fun L =>
    (a6c Ae L Y Z M Aa Ab Ac Ad O).bind fun B =>
    if (!B.1) then
    some (.ret ((⟨[],[],[],false,false,false,false,[]⟩:a0k),false))
    else
    a2t A xs (D + 1) B.2.Name B.2.Table B.2.Initial B.2.Insert B.2.Delete B.2.Modify G H B.2.Columns B.2.Where
def a8d (F:Str) (A:y8):Option (a0k × Bool) :=
    (a6l A [116,97,98,108,101]).bind fun E =>
    if (!E.2) then
    some ((⟨[],[],[],false,false,false,false,[]⟩:a0k),false)
    else
    (a2t A A.Keys 0 F [] true true true true [] [] [] []).bind fun q => (match q with
    | .ret r => some r
    | .go (P,R,S,U,V,W,Ag,Ah,J,K) =>
    (a6d (⟨P,R,J,S,U,V,W,K⟩:a0k)).bind fun Af =>
    some ((⟨P,R,J,S,U,V,W,K⟩:a0k),Af))
theorem c0i (F:Str) (A:y8) (r:(a0k × Bool)) (hf:a8d F A = some r):a0a Tryz.prog 158 .fresh [(.str F),(l9 A)] (.tup [(a4d r.1),(.bool r.2)]):=by
 refine a0a.of_awp mixed Tryz.func158 f0o nle ?_;rw [a0l];rw [o9 A];unfold a8d at hf;unfold f0n;refine (show awp Tryz.prog true 0 _ (ofL [(0,(.str F)),(1,(.agg [(.I A.Kind),(.I A.N),(.str A.T),(.lst 1 (A.Keys.map AV.str)),(.lst 5 (A.Items.map l9))]))]) [] _ from ?_);refine sr<|y7 (a1i (j:=0) (c:=(.agg [(.I A.Kind),(.I A.N),(.str A.T),(.lst 1 (A.Keys.map AV.str)),(.lst 5 (A.Items.map l9))])) rfl tr rfl rfl)<|y7 (a1i (j:=1) (c:=(.agg [(.str []),(.str []),.nil,(.bool false),(.bool false),(.bool false),(.bool false),.nil])) rfl tr rfl rfl)<|l7 (.bool false) rfl<|?_
 refine dk<|sr<|l7 (.str F) rfl<|o7 (.agg [(.str F),(.str []),.nil,(.bool true),(.bool true),(.bool true),(.bool true),.nil]) rfl ⟨⟨rfl,nle,tr⟩,⟨⟨rfl,nle,tr⟩,⟨⟨rfl,nle,tr⟩,⟨⟨rfl,nle,tr⟩,⟨⟨rfl,nle,tr⟩,tr⟩⟩⟩⟩⟩ rfl<|y7 (a1i (j:=2) (c:=(.agg [(.str []),(.str []),.nil,(.bool false),(.bool false),(.bool false),(.bool false),.nil])) rfl tr rfl rfl)<|a1k (a0i (v:=(.agg [(.str F),(.str []),.nil,(.bool true),(.bool true),(.bool true),(.bool true),.nil])) (y':=(.agg [(.str F),(.str []),.nil,(.bool true),(.bool true),(.bool true),(.bool true),.nil])) rfl rfl rfl tr ⟨rfl,nle⟩ ⟨⟨rfl,tr⟩,⟨⟨rfl,tr⟩,⟨⟨rfl,tr⟩,⟨⟨rfl,tr⟩,⟨⟨rfl,tr⟩,⟨⟨rfl,tr⟩,⟨⟨rfl,tr⟩,⟨⟨rfl,tr⟩,tr⟩⟩⟩⟩⟩⟩⟩⟩ rfl)<|?_
 refine dk<|o6<|sr<|?_
 obtain ⟨E,er4,hf⟩:=ob hf
 refine o7 (.agg [(.I A.Kind),(.I A.N),(.str A.T),(.lst 1 (A.Keys.map AV.str)),(.lst 5 (A.Items.map l9))]) rfl nle rfl<|y7 (b8p (v:=(.tup [(.agg [(.I E.1.Kind),(.I E.1.N),(.str E.1.T),(.lst 1 (E.1.Keys.map AV.str)),(.lst 5 (E.1.Items.map l9))]),(.bool E.2)])) rfl (c1t _ _ _ er4) rfl (.cons (.of_eq (o9 A).symm) (.cons .r .nil)) (by simp only [o9]) rfl)<|l7 (.tup [(.agg [(.I E.1.Kind),(.I E.1.N),(.str E.1.T),(.lst 1 (E.1.Keys.map AV.str)),(.lst 5 (E.1.Items.map l9))]),(.bool E.2)]) rfl<|o7 (.agg [(.I E.1.Kind),(.I E.1.N),(.str E.1.T),(.lst 1 (E.1.Keys.map AV.str)),(.lst 5 (E.1.Items.map l9))]) rfl nle rfl<|?_
 refine o7 (.bool E.2) rfl nle rfl<|y7 (a1i (j:=3) (c:=(.agg [(.I 0),(.I 0),(.str []),.nil,.nil])) rfl tr rfl rfl)<|a1k (a0i (v:=(.agg [(.I E.1.Kind),(.I E.1.N),(.str E.1.T),(.lst 1 (E.1.Keys.map AV.str)),(.lst 5 (E.1.Items.map l9))])) (y':=(.agg [(.I E.1.Kind),(.I E.1.N),(.str E.1.T),(.lst 1 (E.1.Keys.map AV.str)),(.lst 5 (E.1.Items.map l9))])) rfl rfl rfl tr ⟨rfl,nle⟩ ⟨⟨rfl,tr⟩,⟨⟨rfl,tr⟩,⟨⟨rfl,tr⟩,⟨⟨rfl,tr⟩,⟨⟨rfl,tr⟩,tr⟩⟩⟩⟩⟩ rfl)<|l7 (.bool E.2) rfl<|dk<|sr<|l7 (.bool E.2) rfl<|o7 (.bool (!E.2)) rfl tr rfl<|?_
 refine dk<|?_
 rcases oi hf with ⟨c5,hf⟩ | ⟨c5,hf⟩
 ·refine x9 rfl c5<|sr<|o7 (.agg [(.str []),(.str []),.nil,(.bool false),(.bool false),(.bool false),(.bool false),.nil]) rfl tr rfl<|a1k (a0i (v:=(.agg [(.str []),(.str []),.nil,(.bool false),(.bool false),(.bool false),(.bool false),.nil])) (y':=(.agg [(.str []),(.str []),.nil,(.bool false),(.bool false),(.bool false),(.bool false),.nil])) rfl rfl rfl tr ⟨rfl,nle⟩ ⟨⟨rfl,tr⟩,⟨⟨rfl,tr⟩,⟨⟨rfl,tr⟩,⟨⟨rfl,tr⟩,⟨⟨rfl,tr⟩,⟨⟨rfl,tr⟩,⟨⟨rfl,tr⟩,⟨⟨rfl,tr⟩,tr⟩⟩⟩⟩⟩⟩⟩⟩ rfl)<|l7 (.bool false) rfl<|dk<|a0d<|?_;obtain rfl:=os hf;exact a1x ⟨nle,⟨tr,tr⟩⟩ rfl (by decide) (.tup (.cons (.agg (.cons .r (.cons .r (.cons (.nil _) (.cons .r (.cons .r (.cons .r (.cons .r (.cons (.nil _) .nil))))))))) (.cons .r .nil)))
 ·refine x8 rfl (bf c5)<|a0h<|a0j<|o6<|sr<|o7 (.ptr 0 0 3) rfl tr rfl<|o7 (.lst 1 (A.Keys.map AV.str)) rfl nle rfl<|a1a (a1t (enc:=AV.str) rfl) fun hl6 => l7 (.I 0) rfl<|dk<|?_
  obtain ⟨p72,hb1,hf⟩:=ob hf
  refine a1u (X:={q:(Str × Str × Bool × Bool × Bool × Bool × (List Str) × (List a0m) × (List Str) × (List a0m)) // p72 = .go q}) (fun q => ([(4,(.ptr 0 0 0)),(6,(.ptr 1 0 0))],[.box 8 (.agg [(.str []),(.str []),(.own 2 0 q.1.2.2.2.2.2.2.1.length),(.bool false),(.bool false),(.bool false),(.bool false),(.own 3 0 q.1.2.2.2.2.2.2.2.1.length)]),.box 8 (.agg [(.str q.1.1),(.str q.1.2.1),(.own 4 0 q.1.2.2.2.2.2.2.2.2.1.length),(.bool q.1.2.2.1),(.bool q.1.2.2.2.1),(.bool q.1.2.2.2.2.1),(.bool q.1.2.2.2.2.2.1),(.own 5 0 q.1.2.2.2.2.2.2.2.2.2.length)]),.row 1 (q.1.2.2.2.2.2.2.1.map AV.str),.row 3 (q.1.2.2.2.2.2.2.2.1.map o8),.row 1 (q.1.2.2.2.2.2.2.2.2.1.map AV.str),.row 3 (q.1.2.2.2.2.2.2.2.2.2.map o8)])) ?_ ?_
  ·refine a1h (X:={q:(Nat × Str × Str × Bool × Bool × Bool × Bool × (List Str) × (List a0m) × (List Str) × (List a0m)) // a2t A (A.Keys.drop q.1) q.1 q.2.1 q.2.2.1 q.2.2.2.1 q.2.2.2.2.1 q.2.2.2.2.2.1 q.2.2.2.2.2.2.1 q.2.2.2.2.2.2.2.1 q.2.2.2.2.2.2.2.2.1 q.2.2.2.2.2.2.2.2.2.1 q.2.2.2.2.2.2.2.2.2.2 = some p72}) (fun q => ([(3,(.ptr 0 0 0)),(4,(.ptr 1 0 0)),(6,(.ptr 2 0 0)),(22,(.lst 1 (A.Keys.map AV.str))),(23,(.I (A.Keys.length:Int))),(24,(.I (q.1.1:Int)))],[.box 5 (.agg [(.I A.Kind),(.I A.N),(.str A.T),(.lst 1 (A.Keys.map AV.str)),(.lst 5 (A.Items.map l9))]),.box 8 (.agg [(.str []),(.str []),(.own 3 0 q.1.2.2.2.2.2.2.2.1.length),(.bool false),(.bool false),(.bool false),(.bool false),(.own 4 0 q.1.2.2.2.2.2.2.2.2.1.length)]),.box 8 (.agg [(.str q.1.2.1),(.str q.1.2.2.1),(.own 5 0 q.1.2.2.2.2.2.2.2.2.2.1.length),(.bool q.1.2.2.2.1),(.bool q.1.2.2.2.2.1),(.bool q.1.2.2.2.2.2.1),(.bool q.1.2.2.2.2.2.2.1),(.own 6 0 q.1.2.2.2.2.2.2.2.2.2.2.length)]),.row 1 (q.1.2.2.2.2.2.2.2.1.map AV.str),.row 3 (q.1.2.2.2.2.2.2.2.2.1.map o8),.row 1 (q.1.2.2.2.2.2.2.2.2.2.1.map AV.str),.row 3 (q.1.2.2.2.2.2.2.2.2.2.2.map o8)])) (fun q => A.Keys.length - q.1.1) ⟨(0,F,[],true,true,true,true,[],[],[],[]),hb1⟩ ⟨[.nilC 1 2 1,.nilC 1 7 3,.nilC 2 2 1,.nilC 2 7 3],[0,1,2,4,5,6,7],_,_,rfl,rfl,⟨.r,⟨.r,⟨.r,⟨.r,⟨.r,⟨.r,tr⟩⟩⟩⟩⟩⟩,.r⟩ ?_
   rintro ⟨⟨D,Y,Z,Aa,Ab,Ac,Ad,G,H,M,O⟩,hc1⟩
   have hc1:a2t A (A.Keys.drop D) D Y Z Aa Ab Ac Ad G H M O = some p72:=hc1
   refine (show awp Tryz.prog true 0 _ (ofL [(3,(.ptr 0 0 0)),(4,(.ptr 1 0 0)),(6,(.ptr 2 0 0)),(22,(.lst 1 (A.Keys.map AV.str))),(23,(.I (A.Keys.length:Int))),(24,(.I (D:Int)))]) [.box 5 (.agg [(.I A.Kind),(.I A.N),(.str A.T),(.lst 1 (A.Keys.map AV.str)),(.lst 5 (A.Items.map l9))]),.box 8 (.agg [(.str []),(.str []),(.own 3 0 G.length),(.bool false),(.bool false),(.bool false),(.bool false),(.own 4 0 H.length)]),.box 8 (.agg [(.str Y),(.str Z),(.own 5 0 M.length),(.bool Aa),(.bool Ab),(.bool Ac),(.bool Ad),(.own 6 0 O.length)]),.row 1 (G.map AV.str),.row 3 (H.map o8),.row 1 (M.map AV.str),.row 3 (O.map o8)] _ from ?_)
   rcases a5j A.Keys D with ⟨hie75,hd78⟩ | ⟨hlt73,Ae,hx74,hd78⟩
   ·rw [hd78,a2t.eq_1] at hc1
    have hq77:=dlf hie75
    refine sr<|o7 (.bool (decide ((D:Int) < (A.Keys.length:Int)))) rfl rfl rfl<|dk<|o6<|x8 rfl hq77<|a2o<|a2n<|a1s<|a2m<|?_;obtain rfl:=os hc1;exact a2s ⟨_,rfl⟩ ⟨[],[1,2,3,4,5,6],_,_,rfl,rfl,⟨.r,⟨.r,tr⟩⟩,.r⟩
   ·rw [hd78,a2t.eq_2] at hc1
    have hq77:=dlt hlt73
    refine sr<|o7 (.bool (decide ((D:Int) < (A.Keys.length:Int)))) rfl rfl rfl<|dk<|o6<|x9 rfl hq77<|a0h<|a0j<|o6<|a2y<|sr<|l7 (.I (D:Int)) rfl<|y7 (a1m (enc:=AV.str) rfl rfl hx74)<|o7 (.str Ae) rfl ⟨rfl,rfl⟩ rfl<|l7 (.I (D:Int)) rfl<|l7 (.str Ae) rfl<|dk<|sr<|?_
    obtain ⟨L,ex81,hc1⟩:=ob hc1
    obtain ⟨B,er83,hc1⟩:=ob hc1
    refine l7 (.str Ae) rfl<|o7 (.ptr 0 0 4) rfl tr rfl<|o7 (.lst 5 (A.Items.map l9)) rfl nle rfl<|l7 (.I (D:Int)) rfl<|y7 (a3d (enc:=l9) rfl rfl (b0a ex81) (b0b ex81))<|y7 (a2l (v:=(.agg [(.I L.Kind),(.I L.N),(.str L.T),(.lst 1 (L.Keys.map AV.str)),(.lst 5 (L.Items.map l9))])) rfl (o9 _) nle rfl)<|?_;refine y7 (b3q (v:=(.bool B.1)) (h2:=[.box 5 (.agg [(.I A.Kind),(.I A.N),(.str A.T),(.lst 1 (A.Keys.map AV.str)),(.lst 5 (A.Items.map l9))]),.box 8 (.agg [(.str []),(.str []),(.own 3 0 G.length),(.bool false),(.bool false),(.bool false),(.bool false),(.own 4 0 H.length)]),.box 8 (.agg [(.str B.2.Name),(.str B.2.Table),(.own 7 0 B.2.Columns.length),(.bool B.2.Initial),(.bool B.2.Insert),(.bool B.2.Delete),(.bool B.2.Modify),(.own 8 0 B.2.Where.length)]),.row 1 (G.map AV.str),.row 3 (H.map o8),.dead,.dead,.row 1 (B.2.Columns.map AV.str),.row 3 (B.2.Where.map o8)]) [] [2,5,6] (fun _ => rfl) (b6h _ _ _ _ _ _ _ _ _ _ _ er83) rfl (.cons .r (.cons .r (.cons (.of_eq (o9 L).symm) .nil))) .r rfl rfl) ?_
    refine o7 (.bool (!B.1)) rfl tr rfl<|dk<|?_
    rcases oi hc1 with ⟨c84,hc1⟩ | ⟨c84,hc1⟩
    ·refine x9 rfl c84<|sr<|o7 (.agg [(.str []),(.str []),.nil,(.bool false),(.bool false),(.bool false),(.bool false),.nil]) rfl tr rfl<|a1k (a0i (v:=(.agg [(.str []),(.str []),.nil,(.bool false),(.bool false),(.bool false),(.bool false),.nil])) (y':=(.agg [(.str []),(.str []),.nil,(.bool false),(.bool false),(.bool false),(.bool false),.nil])) rfl rfl rfl tr ⟨rfl,nle⟩ ⟨⟨rfl,tr⟩,⟨⟨rfl,tr⟩,⟨⟨rfl,tr⟩,⟨⟨rfl,tr⟩,⟨⟨rfl,tr⟩,⟨⟨rfl,tr⟩,⟨⟨rfl,tr⟩,⟨⟨rfl,tr⟩,tr⟩⟩⟩⟩⟩⟩⟩⟩ rfl)<|l7 (.bool false) rfl<|dk<|a0d<|?_;obtain rfl:=os hc1;obtain rfl:=os hf;exact a1x ⟨nle,⟨tr,tr⟩⟩ rfl (by decide) (.tup (.cons (.agg (.cons .r (.cons .r (.cons (.nil _) (.cons .r (.cons .r (.cons .r (.cons .r (.cons (.nil _) .nil))))))))) (.cons .r .nil)))
    ·refine x8 rfl (bf c84)<|a0h<|a1v<|a0j<|a0t<|o7 (.I (w64 ((D:Int) + 1))) rfl rfl rfl<|l7 (.I (w64 ((D:Int) + 1))) rfl<|a0e<|?_;exact a1p ⟨((D + 1),B.2.Name,B.2.Table,B.2.Initial,B.2.Insert,B.2.Delete,B.2.Modify,G,H,B.2.Columns,B.2.Where),hc1⟩ (mul hlt73) ⟨[],[0,1,2,3,4,7,8],_,_,rfl,rfl,⟨.r,⟨.r,⟨.r,⟨.r,⟨.r,⟨.of_eq (congrArg (AV.int _) (a1r hlt73 hl6)),tr⟩⟩⟩⟩⟩⟩,.r⟩
  ·rintro ⟨⟨P,R,S,U,V,W,Ag,Ah,J,K⟩,rfl⟩
   refine sr<|?_
   obtain ⟨Af,er86,hf⟩:=ob hf
   refine o7 (.agg [(.str P),(.str R),(.own 4 0 J.length),(.bool S),(.bool U),(.bool V),(.bool W),(.own 5 0 K.length)]) rfl nle rfl<|o7 (.agg [(.str P),(.str R),(.own 4 0 J.length),(.bool S),(.bool U),(.bool V),(.bool W),(.own 5 0 K.length)]) rfl nle rfl<|a2e (a0p (c3p _ _ er86) rfl (.cons (.agg (.cons .r (.cons .r (.cons (.of_eq (congrArg (AV.lst _) (tko (enc:=AV.str) J))) (.cons .r (.cons .r (.cons .r (.cons .r (.cons (.of_eq (congrArg (AV.lst _) (tko (enc:=o8) K))) .nil))))))))) .nil) rfl) a2j tr<|a1j (a0i (v:=(.agg [(.str P),(.str R),(.own 4 0 J.length),(.bool S),(.bool U),(.bool V),(.bool W),(.own 5 0 K.length)])) (y':=(.agg [(.str P),(.str R),(.own 4 0 J.length),(.bool S),(.bool U),(.bool V),(.bool W),(.own 5 0 K.length)])) rfl rfl rfl tr ⟨rfl,nle⟩ ⟨⟨rfl,tr⟩,⟨⟨rfl,tr⟩,⟨⟨rfl,tr⟩,⟨⟨rfl,tr⟩,⟨⟨rfl,tr⟩,⟨⟨rfl,tr⟩,⟨⟨rfl,tr⟩,⟨⟨rfl,tr⟩,tr⟩⟩⟩⟩⟩⟩⟩⟩ rfl) tr tr<|?_
   refine l7 (.bool Af) rfl<|dk<|a0d<|?_;obtain rfl:=os hf;exact a1x ⟨nle,⟨tr,tr⟩⟩ rfl (by decide) (.tup (.cons (.agg (.cons .r (.cons .r (.cons (.of_eq (congrArg (AV.lst _) (tk (enc:=AV.str) J))) (.cons .r (.cons .r (.cons .r (.cons .r (.cons (.of_eq (congrArg (AV.lst _) (tk (enc:=o8) K))) .nil))))))))) (.cons .r .nil)))
def c68:a0q :=
 (.seq (.reg (tq 3 (.box 5 (.t 1)) (tq 4 (.box 8 (.c (.agg [(.str []),(.str []),.nil,(.bool false),(.bool false),(.bool false),(.bool false),.nil]))) (tm 5 (.c (.int .i64 0)) .done))))
 (.seq (.block 0 (.seq (.reg (tm 9 (.t 0) (tq 10 (.call 139 [(.t 9)]) (tq 11 (.not (.t 10)) (tm 8 (.t 11) .done)))))
 (.cond (.t 8) (.seq (.reg (tq 12 (.build [(.str []),(.str []),.nil,(.bool false),(.bool false),(.bool false),(.bool false),.nil] []) (.q ⟨none,none,.store 8 (.t 4) (.t 12)⟩
 (tm 5 (.c (.int .i64 2)) .done))))
 .ret)
 (.seq (.reg (tq 14 (.load 5 true (.t 3)) (tq 15 (.call 124 [(.t 14)]) (tq 16 (.not (.t 15)) (tm 13 (.t 16) .done)))))
 (.cond (.t 13) (.seq (.reg (tq 17 (.build [(.str []),(.str []),.nil,(.bool false),(.bool false),(.bool false),(.bool false),.nil] []) (.q ⟨none,none,.store 8 (.t 4) (.t 17)⟩
 (tm 5 (.c (.int .i64 1)) .done))))
 .ret)
 .skip)))))
 (.seq (.reg (tm 19 (.t 0) (tq 20 (.load 5 true (.t 3)) (tq 21 (.call 158 [(.t 19),(.t 20)]) (tm 18 (.t 21) (tq 22 (.extract 0 (.t 18)) (tq 23 (.extract 1 (.t 18)) (tq 6 (.box 8 (.c (.agg [(.str []),(.str []),.nil,(.bool false),(.bool false),(.bool false),(.bool false),.nil]))) (.q ⟨none,none,.store 8 (.t 6) (.t 22)⟩
 (tm 7 (.t 23) .done))))))))))
 (.seq (.seq (.reg (tm 24 (.t 7) (tq 25 (.not (.t 24)) .done)))
 (.cond (.t 25) (.seq (.reg (tq 26 (.build [(.str []),(.str []),.nil,(.bool false),(.bool false),(.bool false),(.bool false),.nil] []) (.q ⟨none,none,.store 8 (.t 4) (.t 26)⟩
 (tm 5 (.c (.int .i64 3)) .done))))
 .ret)
 .skip))
 (.seq (.reg (tq 27 (.load 8 true (.t 6)) (.q ⟨none,none,.store 8 (.t 4) (.t 27)⟩
 (tm 5 (.c (.int .i64 0)) .done))))
 .ret)))))
theorem f1z:a1b Tryz.prog Tryz.f68 = some (c68.erase,[.load 8 true (.t 4),.mov (.t 5)],28):=by kernel_rfl
def a7a (D:Str) (B:y8):Option (a0k × Int) :=
    (b4s D).bind fun E =>
    if (!E) then
    some ((⟨[],[],[],false,false,false,false,[]⟩:a0k),2)
    else
    (b2x B).bind fun F =>
    if (!F) then
    some ((⟨[],[],[],false,false,false,false,[]⟩:a0k),1)
    else
    (a8d D B).bind fun A =>
    if (!A.2) then
    some ((⟨[],[],[],false,false,false,false,[]⟩:a0k),3)
    else
    some (A.1,0)
theorem b4l (D:Str) (B:y8) (r:(a0k × Int)) (hf:a7a D B = some r):a0a Tryz.prog 68 .fresh [(.str D),(l9 B)] (.tup [(a4d r.1),(.I r.2)]):=by
 refine a0a.of_awp mixed Tryz.func68 f1z nle ?_;rw [a0l];rw [o9 B];unfold a7a at hf;unfold c68;refine (show awp Tryz.prog true 0 _ (ofL [(0,(.str D)),(1,(.agg [(.I B.Kind),(.I B.N),(.str B.T),(.lst 1 (B.Keys.map AV.str)),(.lst 5 (B.Items.map l9))]))]) [] _ from ?_);refine sr<|y7 (a1i (j:=0) (c:=(.agg [(.I B.Kind),(.I B.N),(.str B.T),(.lst 1 (B.Keys.map AV.str)),(.lst 5 (B.Items.map l9))])) rfl tr rfl rfl)<|y7 (a1i (j:=1) (c:=(.agg [(.str []),(.str []),.nil,(.bool false),(.bool false),(.bool false),(.bool false),.nil])) rfl tr rfl rfl)<|l7 (.I 0) rfl<|?_
 refine dk<|o6<|a2y<|sr<|?_
 obtain ⟨E,er4,hf⟩:=ob hf
 refine l7 (.str D) rfl<|y7 (a0p (c8r _ _ er4) rfl .r rfl)<|o7 (.bool (!E)) rfl tr rfl<|l7 (.bool (!E)) rfl<|dk<|?_
 rcases oi hf with ⟨c5,hf⟩ | ⟨c5,hf⟩
 ·refine x9 rfl c5<|sr<|o7 (.agg [(.str []),(.str []),.nil,(.bool false),(.bool false),(.bool false),(.bool false),.nil]) rfl tr rfl<|a1k (a0i (v:=(.agg [(.str []),(.str []),.nil,(.bool false),(.bool false),(.bool false),(.bool false),.nil])) (y':=(.agg [(.str []),(.str []),.nil,(.bool false),(.bool false),(.bool false),(.bool false),.nil])) rfl rfl rfl tr ⟨rfl,nle⟩ ⟨⟨rfl,tr⟩,⟨⟨rfl,tr⟩,⟨⟨rfl,tr⟩,⟨⟨rfl,tr⟩,⟨⟨rfl,tr⟩,⟨⟨rfl,tr⟩,⟨⟨rfl,tr⟩,⟨⟨rfl,tr⟩,tr⟩⟩⟩⟩⟩⟩⟩⟩ rfl)<|l7 (.I 2) rfl<|dk<|a0d<|?_;obtain rfl:=os hf;exact a1x ⟨nle,⟨tr,tr⟩⟩ rfl (by decide) (.tup (.cons (.agg (.cons .r (.cons .r (.cons (.nil _) (.cons .r (.cons .r (.cons .r (.cons .r (.cons (.nil _) .nil))))))))) (.cons .r .nil)))
 ·refine x8 rfl (bf c5)<|sr<|?_
  obtain ⟨F,er7,hf⟩:=ob hf
  refine o7 (.agg [(.I B.Kind),(.I B.N),(.str B.T),(.lst 1 (B.Keys.map AV.str)),(.lst 5 (B.Items.map l9))]) rfl nle rfl<|y7 (a0p (c8s _ _ er7) rfl (.cons (.of_eq (o9 B).symm) .nil) rfl)<|o7 (.bool (!F)) rfl tr rfl<|l7 (.bool (!F)) rfl<|dk<|?_
  rcases oi hf with ⟨c8,hf⟩ | ⟨c8,hf⟩
  ·refine x9 rfl c8<|sr<|o7 (.agg [(.str []),(.str []),.nil,(.bool false),(.bool false),(.bool false),(.bool false),.nil]) rfl tr rfl<|a1k (a0i (v:=(.agg [(.str []),(.str []),.nil,(.bool false),(.bool false),(.bool false),(.bool false),.nil])) (y':=(.agg [(.str []),(.str []),.nil,(.bool false),(.bool false),(.bool false),(.bool false),.nil])) rfl rfl rfl tr ⟨rfl,nle⟩ ⟨⟨rfl,tr⟩,⟨⟨rfl,tr⟩,⟨⟨rfl,tr⟩,⟨⟨rfl,tr⟩,⟨⟨rfl,tr⟩,⟨⟨rfl,tr⟩,⟨⟨rfl,tr⟩,⟨⟨rfl,tr⟩,tr⟩⟩⟩⟩⟩⟩⟩⟩ rfl)<|l7 (.I 1) rfl<|dk<|a0d<|?_;obtain rfl:=os hf;exact a1x ⟨nle,⟨tr,tr⟩⟩ rfl (by decide) (.tup (.cons (.agg (.cons .r (.cons .r (.cons (.nil _) (.cons .r (.cons .r (.cons .r (.cons .r (.cons (.nil _) .nil))))))))) (.cons .r .nil)))
  ·refine x8 rfl (bf c8)<|a0h<|a1v<|a0j<|sr<|?_
   obtain ⟨A,er10,hf⟩:=ob hf
   refine l7 (.str D) rfl<|o7 (.agg [(.I B.Kind),(.I B.N),(.str B.T),(.lst 1 (B.Keys.map AV.str)),(.lst 5 (B.Items.map l9))]) rfl nle rfl<|y7 (a5i (v:=(.tup [(.agg [(.str A.1.Name),(.str A.1.Table),(.own 2 0 A.1.Columns.length),(.bool A.1.Initial),(.bool A.1.Insert),(.bool A.1.Delete),(.bool A.1.Modify),(.own 3 0 A.1.Where.length)]),(.bool A.2)])) (h':=[.row 1 (A.1.Columns.map AV.str),.row 3 (A.1.Where.map o8)]) (c0i _ _ _ er10) rfl (.cons .r (.cons (.of_eq (o9 B).symm) .nil)) (by simp only [a2r,a2z,List.length_map,a9n,List.nil_append,List.append_nil,List.cons_append];rfl))<|?_
   refine l7 (.tup [(.agg [(.str A.1.Name),(.str A.1.Table),(.own 2 0 A.1.Columns.length),(.bool A.1.Initial),(.bool A.1.Insert),(.bool A.1.Delete),(.bool A.1.Modify),(.own 3 0 A.1.Where.length)]),(.bool A.2)]) rfl<|o7 (.agg [(.str A.1.Name),(.str A.1.Table),(.own 2 0 A.1.Columns.length),(.bool A.1.Initial),(.bool A.1.Insert),(.bool A.1.Delete),(.bool A.1.Modify),(.own 3 0 A.1.Where.length)]) rfl nle rfl<|o7 (.bool A.2) rfl nle rfl<|y7 (a1i (j:=4) (c:=(.agg [(.str []),(.str []),.nil,(.bool false),(.bool false),(.bool false),(.bool false),.nil])) rfl tr rfl rfl)<|a1k (a0i (v:=(.agg [(.str A.1.Name),(.str A.1.Table),(.own 2 0 A.1.Columns.length),(.bool A.1.Initial),(.bool A.1.Insert),(.bool A.1.Delete),(.bool A.1.Modify),(.own 3 0 A.1.Where.length)])) (y':=(.agg [(.str A.1.Name),(.str A.1.Table),(.own 2 0 A.1.Columns.length),(.bool A.1.Initial),(.bool A.1.Insert),(.bool A.1.Delete),(.bool A.1.Modify),(.own 3 0 A.1.Where.length)])) rfl rfl rfl tr ⟨rfl,nle⟩ ⟨⟨rfl,tr⟩,⟨⟨rfl,tr⟩,⟨⟨rfl,tr⟩,⟨⟨rfl,tr⟩,⟨⟨rfl,tr⟩,⟨⟨rfl,tr⟩,⟨⟨rfl,tr⟩,⟨⟨rfl,tr⟩,tr⟩⟩⟩⟩⟩⟩⟩⟩ rfl)<|?_
   refine l7 (.bool A.2) rfl<|dk<|o6<|sr<|l7 (.bool A.2) rfl<|o7 (.bool (!A.2)) rfl tr rfl<|dk<|?_
   rcases oi hf with ⟨c11,hf⟩ | ⟨c11,hf⟩
   ·refine x9 rfl c11<|sr<|o7 (.agg [(.str []),(.str []),.nil,(.bool false),(.bool false),(.bool false),(.bool false),.nil]) rfl tr rfl<|a1k (a0i (v:=(.agg [(.str []),(.str []),.nil,(.bool false),(.bool false),(.bool false),(.bool false),.nil])) (y':=(.agg [(.str []),(.str []),.nil,(.bool false),(.bool false),(.bool false),(.bool false),.nil])) rfl rfl rfl tr ⟨rfl,nle⟩ ⟨⟨rfl,tr⟩,⟨⟨rfl,tr⟩,⟨⟨rfl,tr⟩,⟨⟨rfl,tr⟩,⟨⟨rfl,tr⟩,⟨⟨rfl,tr⟩,⟨⟨rfl,tr⟩,⟨⟨rfl,tr⟩,tr⟩⟩⟩⟩⟩⟩⟩⟩ rfl)<|l7 (.I 3) rfl<|dk<|a0d<|?_;obtain rfl:=os hf;exact a1x ⟨nle,⟨tr,tr⟩⟩ rfl (by decide) (.tup (.cons (.agg (.cons .r (.cons .r (.cons (.nil _) (.cons .r (.cons .r (.cons .r (.cons .r (.cons (.nil _) .nil))))))))) (.cons .r .nil)))
   ·refine x8 rfl (bf c11)<|a0h<|a0j<|sr<|o7 (.agg [(.str A.1.Name),(.str A.1.Table),(.own 2 0 A.1.Columns.length),(.bool A.1.Initial),(.bool A.1.Insert),(.bool A.1.Delete),(.bool A.1.Modify),(.own 3 0 A.1.Where.length)]) rfl nle rfl<|a1k (a0i (v:=(.agg [(.str A.1.Name),(.str A.1.Table),(.own 2 0 A.1.Columns.length),(.bool A.1.Initial),(.bool A.1.Insert),(.bool A.1.Delete),(.bool A.1.Modify),(.own 3 0 A.1.Where.length)])) (y':=(.agg [(.str A.1.Name),(.str A.1.Table),(.own 2 0 A.1.Columns.length),(.bool A.1.Initial),(.bool A.1.Insert),(.bool A.1.Delete),(.bool A.1.Modify),(.own 3 0 A.1.Where.length)])) rfl rfl rfl tr ⟨rfl,nle⟩ ⟨⟨rfl,tr⟩,⟨⟨rfl,tr⟩,⟨⟨rfl,tr⟩,⟨⟨rfl,tr⟩,⟨⟨rfl,tr⟩,⟨⟨rfl,tr⟩,⟨⟨rfl,tr⟩,⟨⟨rfl,tr⟩,tr⟩⟩⟩⟩⟩⟩⟩⟩ rfl)<|?_
    refine l7 (.I 0) rfl<|dk<|a0d<|?_;obtain rfl:=os hf;exact a1x ⟨nle,⟨tr,tr⟩⟩ rfl (by decide) (.tup (.cons (.agg (.cons .r (.cons .r (.cons (.of_eq (congrArg (AV.lst _) (tk (enc:=AV.str) A.1.Columns))) (.cons .r (.cons .r (.cons .r (.cons .r (.cons (.of_eq (congrArg (AV.lst _) (tk (enc:=o8) A.1.Where))) .nil))))))))) (.cons .r .nil)))
def c24:a0q :=
 (.seq (.reg (tm 4 (.c (.bool false)) .done))
 (.seq (.seq (.reg (tm 6 (.t 0) (tq 7 (.len (.t 6)) (tm 8 (.t 1) (tq 9 (.len (.t 8)) (tq 10 (.bin .neq (.t 7) (.t 9)) .done))))))
 (.cond (.t 10) (.seq (.reg (tm 4 (.c (.bool false)) .done))
 .ret)
 .skip))
 (.seq (.seq (.reg (tm 5 (.c (.int .i64 0)) .done))
 (.block 0 (.loop (.seq (.seq (.reg (tm 11 (.t 5) (tm 12 (.t 0) (tq 13 (.len (.t 12)) (tq 14 (.bin .lss (.t 11) (.t 13)) .done)))))
 (.cond (.t 14) .skip
 (.exit 0)))
 (.seq (.block 1 (.seq (.reg (tm 17 (.t 0) (tm 18 (.t 5) (tq 19 (.iaddr 1 (.t 17) (.t 18)) (tq 20 (.load 1 false (.t 19)) (tm 21 (.t 1) (tm 22 (.t 5) (tq 23 (.iaddr 1 (.t 21) (.t 22)) (tq 24 (.load 1 false (.t 23)) (tq 25 (.bin .neq (.t 20) (.t 24)) .done))))))))))
 (.cond (.t 25) (.seq (.reg (tm 4 (.c (.bool false)) .done))
 .ret)
 .skip)))
 (.reg (tm 15 (.t 5) (tq 16 (.bin .add (.t 15) (.c (.int .i64 1))) (tm 5 (.t 16) .done)))))))))
 (.cut (.seq (.reg (tm 4 (.c (.bool true)) .done))
 .ret)))))
theorem f2a:a1b Tryz.prog Tryz.f24 = some (c24.erase,[.mov (.t 4)],26):=by kernel_rfl
def a3w (D:(List Str)):List Str → Nat → Option (Fl Bool Unit)
  | [],A =>
    some (.go ())
  | E :: xs,A =>
    (idx D (A:Int)).bind fun F =>
    if (!(E == F)) then
    some (.ret false)
    else
    a3w D xs (A + 1)
def a8e (B:(List Str)) (D:(List Str)):Option Bool :=
    if ((B.length:Int) != (D.length:Int)) then
    some false
    else
    (a3w D B 0).bind fun q => (match q with
    | .ret r => some r
    | .go _ =>
    some true)
theorem b5l (B:(List Str)) (D:(List Str)) (r:Bool) (hf:a8e B D = some r):a0a Tryz.prog 24 .flat [(.lst 1 (B.map AV.str)),(.lst 1 (D.map AV.str))] (.bool r):=by
 refine a0a.of_awp mixed Tryz.func24 f2a nle ?_;rw [a0l];unfold a8e at hf;unfold c24;refine (show awp Tryz.prog false 0 _ (ofL [(0,(.lst 1 (B.map AV.str))),(1,(.lst 1 (D.map AV.str)))]) [] _ from ?_);refine sr<|l7 (.bool false) rfl<|dk<|o6<|sr<|l7 (.lst 1 (B.map AV.str)) rfl<|a1a (a1t (enc:=AV.str) rfl) fun hl3 => l7 (.lst 1 (D.map AV.str)) rfl<|a1a (a1t (enc:=AV.str) rfl) fun hl4 => o7 (.bool ((B.length:Int) != (D.length:Int))) rfl rfl rfl<|dk<|?_
 rcases oi hf with ⟨c5,hf⟩ | ⟨c5,hf⟩
 ·refine x9 rfl c5<|sr<|l7 (.bool false) rfl<|dk<|a0d<|?_;obtain rfl:=os hf;exact a0f ⟨tr,tr⟩ rfl .r
 ·refine x8 rfl (bf c5)<|a0h<|a0j<|o6<|sr<|l7 (.I 0) rfl<|dk<|?_
  obtain ⟨p30,hb1,hf⟩:=ob hf
  refine a1u (X:={q:Unit // p30 = .go q}) (fun q => ([],[])) ?_ ?_
  ·refine a1h (X:={q:Nat // a3w D (B.drop q) q = some p30}) (fun q => ([(0,(.lst 1 (B.map AV.str))),(1,(.lst 1 (D.map AV.str))),(5,(.I (q.1:Int)))],[])) (fun q => B.length - q.1) ⟨0,hb1⟩ ⟨[],[],_,_,rfl,rfl,⟨.r,⟨.r,⟨.r,tr⟩⟩⟩,.r⟩ ?_
   rintro ⟨A,hc1⟩
   have hc1:a3w D (B.drop A) A = some p30:=hc1
   refine (show awp Tryz.prog false 0 _ (ofL [(0,(.lst 1 (B.map AV.str))),(1,(.lst 1 (D.map AV.str))),(5,(.I (A:Int)))]) [] _ from ?_)
   rcases a5j B A with ⟨hie33,hd36⟩ | ⟨hlt31,E,hx32,hd36⟩
   ·rw [hd36,a3w.eq_1] at hc1
    have hq35:=dlf hie33
    refine o6<|sr<|l7 (.I (A:Int)) rfl<|l7 (.lst 1 (B.map AV.str)) rfl<|a1a (a1t (enc:=AV.str) rfl) fun hl38 => o7 (.bool (decide ((A:Int) < (B.length:Int)))) rfl rfl rfl<|dk<|x8 rfl hq35<|a2o<|a2n<|a1s<|a2m<|?_;obtain rfl:=os hc1;exact a2s ⟨_,rfl⟩ ⟨[],[],_,_,rfl,rfl,tr,.r⟩
   ·rw [hd36,a3w.eq_2] at hc1
    have hq35:=dlt hlt31
    refine o6<|sr<|l7 (.I (A:Int)) rfl<|l7 (.lst 1 (B.map AV.str)) rfl<|a1a (a1t (enc:=AV.str) rfl) fun hl39 => o7 (.bool (decide ((A:Int) < (B.length:Int)))) rfl rfl rfl<|dk<|x9 rfl hq35<|a0h<|a0j<|o6<|a2y<|sr<|?_
    obtain ⟨F,ex41,hc1⟩:=ob hc1
    refine l7 (.lst 1 (B.map AV.str)) rfl<|l7 (.I (A:Int)) rfl<|y7 (a1m (enc:=AV.str) rfl rfl hx32)<|o7 (.str E) rfl ⟨rfl,rfl⟩ rfl<|l7 (.lst 1 (D.map AV.str)) rfl<|l7 (.I (A:Int)) rfl<|y7 (a3d (enc:=AV.str) rfl rfl (b0a ex41) (b0b ex41))<|o7 (.str F) rfl ⟨rfl,rfl⟩ rfl<|o7 (.bool (!(E == F))) rfl tr rfl<|dk<|?_
    rcases oi hc1 with ⟨c42,hc1⟩ | ⟨c42,hc1⟩
    ·refine x9 rfl c42<|sr<|l7 (.bool false) rfl<|dk<|a0d<|?_;obtain rfl:=os hc1;obtain rfl:=os hf;exact a0f ⟨tr,tr⟩ rfl .r
    ·refine x8 rfl (bf c42)<|a0h<|a1v<|a0j<|a0t<|l7 (.I (A:Int)) rfl<|o7 (.I (w64 ((A:Int) + 1))) rfl rfl rfl<|l7 (.I (w64 ((A:Int) + 1))) rfl<|a0e<|?_;exact a1p ⟨(A + 1),hc1⟩ (mul hlt31) ⟨[],[],_,_,rfl,rfl,⟨.r,⟨.r,⟨.of_eq (congrArg (AV.int _) (a1r hlt31 hl39)),tr⟩⟩⟩,.r⟩
  ·rintro ⟨_,rfl⟩
   refine sr<|l7 (.bool true) rfl<|dk<|a0d<|?_;obtain rfl:=os hf;exact a0f ⟨tr,tr⟩ rfl .r
def f0p:a0q :=
 (.seq (.reg (tq 2 (.box 3 (.t 0)) (tq 3 (.box 3 (.t 1)) (tm 4 (.c (.bool false)) .done))))
 (.seq (.seq (.reg (tq 5 (.faddr 0 (.t 2)) (tq 6 (.load 1 false (.t 5)) (tq 7 (.faddr 0 (.t 3)) (tq 8 (.load 1 false (.t 7)) (tq 9 (.bin .neq (.t 6) (.t 8)) .done))))))
 (.cond (.t 9) (.seq (.reg (tm 4 (.c (.bool false)) .done))
 .ret)
 .skip))
 (.seq (.seq (.reg (tq 10 (.faddr 1 (.t 2)) (tq 11 (.load 1 false (.t 10)) (tq 12 (.faddr 1 (.t 3)) (tq 13 (.load 1 false (.t 12)) (tq 14 (.bin .neq (.t 11) (.t 13)) .done))))))
 (.cond (.t 14) (.seq (.reg (tm 4 (.c (.bool false)) .done))
 .ret)
 .skip))
 (.seq (.seq (.reg (tq 15 (.faddr 2 (.t 2)) (tq 16 (.load 1 false (.t 15)) (tq 17 (.faddr 2 (.t 3)) (tq 18 (.load 1 false (.t 17)) (tq 19 (.bin .neq (.t 16) (.t 18)) .done))))))
 (.cond (.t 19) (.seq (.reg (tm 4 (.c (.bool false)) .done))
 .ret)
 .skip))
 (.seq (.reg (tm 4 (.c (.bool true)) .done))
 .ret)))))
theorem f0q:a1b Tryz.prog Tryz.f289 = some (f0p.erase,[.mov (.t 4)],20):=by kernel_rfl
def b3a (A:a0g) (B:a0g):Option Bool :=
    if (A.Kind != B.Kind) then
    some false
    else
    if (A.N != B.N) then
    some false
    else
    if (!(A.T == B.T)) then
    some false
    else
    some true
theorem c8w (A:a0g) (B:a0g) (r:Bool) (hf:b3a A B = some r):a0a Tryz.prog 289 .flat [(o5 A),(o5 B)] (.bool r):=by
 refine a0a.of_awp mixed Tryz.func289 f0q nle ?_;rw [a0l];unfold b3a at hf;unfold f0p;refine (show awp Tryz.prog false 0 _ (ofL [(0,(o5 A)),(1,(o5 B))]) [] _ from ?_);refine sr<|y7 (a1i (j:=0) (c:=(.agg [(.I A.Kind),(.I A.N),(.str A.T)])) rfl tr rfl rfl)<|y7 (a1i (j:=1) (c:=(.agg [(.I B.Kind),(.I B.N),(.str B.T)])) rfl tr rfl rfl)<|l7 (.bool false) rfl<|dk<|o6<|sr<|o7 (.ptr 0 0 0) rfl tr rfl<|o7 (.I A.Kind) rfl nle rfl<|o7 (.ptr 1 0 0) rfl tr rfl<|o7 (.I B.Kind) rfl nle rfl<|o7 (.bool (A.Kind != B.Kind)) rfl rfl rfl<|?_
 refine dk<|?_
 rcases oi hf with ⟨c3,hf⟩ | ⟨c3,hf⟩
 ·refine x9 rfl c3<|sr<|l7 (.bool false) rfl<|dk<|a0d<|?_;obtain rfl:=os hf;exact a0f ⟨tr,tr⟩ rfl .r
 ·refine x8 rfl (bf c3)<|a0h<|a0j<|o6<|sr<|o7 (.ptr 0 0 1) rfl tr rfl<|o7 (.I A.N) rfl nle rfl<|o7 (.ptr 1 0 1) rfl tr rfl<|o7 (.I B.N) rfl nle rfl<|o7 (.bool (A.N != B.N)) rfl rfl rfl<|dk<|?_
  rcases oi hf with ⟨c4,hf⟩ | ⟨c4,hf⟩
  ·refine x9 rfl c4<|sr<|l7 (.bool false) rfl<|dk<|a0d<|?_;obtain rfl:=os hf;exact a0f ⟨tr,tr⟩ rfl .r
  ·refine x8 rfl (bf c4)<|a0h<|a0j<|o6<|sr<|o7 (.ptr 0 0 2) rfl tr rfl<|o7 (.str A.T) rfl nle rfl<|o7 (.ptr 1 0 2) rfl tr rfl<|o7 (.str B.T) rfl nle rfl<|o7 (.bool (!(A.T == B.T))) rfl tr rfl<|dk<|?_
   rcases oi hf with ⟨c5,hf⟩ | ⟨c5,hf⟩
   ·refine x9 rfl c5<|sr<|l7 (.bool false) rfl<|dk<|a0d<|?_;obtain rfl:=os hf;exact a0f ⟨tr,tr⟩ rfl .r
   ·refine x8 rfl (bf c5)<|a0h<|a0j<|sr<|l7 (.bool true) rfl<|dk<|a0d<|?_;obtain rfl:=os hf;exact a0f ⟨tr,tr⟩ rfl .r
def c201:a0q :=
 (.seq (.reg (tm 4 (.c (.bool false)) .done))
 (.seq (.seq (.reg (tm 6 (.t 0) (tq 7 (.len (.t 6)) (tm 8 (.t 1) (tq 9 (.len (.t 8)) (tq 10 (.bin .neq (.t 7) (.t 9)) .done))))))
 (.cond (.t 10) (.seq (.reg (tm 4 (.c (.bool false)) .done))
 .ret)
 .skip))
 (.seq (.seq (.reg (tm 5 (.c (.int .i64 0)) .done))
 (.block 0 (.loop (.seq (.seq (.reg (tm 11 (.t 5) (tm 12 (.t 0) (tq 13 (.len (.t 12)) (tq 14 (.bin .lss (.t 11) (.t 13)) .done)))))
 (.cond (.t 14) .skip
 (.exit 0)))
 (.seq (.block 1 (.seq (.reg (tm 17 (.t 0) (tm 18 (.t 5) (tq 19 (.iaddr 3 (.t 17) (.t 18)) (tq 20 (.load 3 true (.t 19)) (tm 21 (.t 1) (tm 22 (.t 5) (tq 23 (.iaddr 3 (.t 21) (.t 22)) (tq 24 (.load 3 true (.t 23)) (.l ⟨(some 25),none,.call 289 [(.t 20),(.t 24)]⟩ []
 (tq 26 (.not (.t 25)) .done) .non))))))))))
 (.cond (.t 26) (.seq (.reg (tm 4 (.c (.bool false)) .done))
 .ret)
 .skip)))
 (.reg (tm 15 (.t 5) (tq 16 (.bin .add (.t 15) (.c (.int .i64 1))) (tm 5 (.t 16) .done)))))))))
 (.cut (.seq (.reg (tm 4 (.c (.bool true)) .done))
 .ret)))))
theorem f0r:a1b Tryz.prog Tryz.f201 = some (c201.erase,[.mov (.t 4)],27):=by kernel_rfl
def a5c (D:(List a0g)):List a0g → Nat → Option (Fl Bool Unit)
  | [],A =>
    some (.go ())
  | E :: xs,A =>
    (idx D (A:Int)).bind fun F =>
    (b3a E F).bind fun G =>
    if (!G) then
    some (.ret false)
    else
    a5c D xs (A + 1)
def b1w (B:(List a0g)) (D:(List a0g)):Option Bool :=
    if ((B.length:Int) != (D.length:Int)) then
    some false
    else
    (a5c D B 0).bind fun q => (match q with
    | .ret r => some r
    | .go _ =>
    some true)
theorem c7l (B:(List a0g)) (D:(List a0g)) (r:Bool) (hf:b1w B D = some r):a0a Tryz.prog 201 .flat [(.lst 3 (B.map o5)),(.lst 3 (D.map o5))] (.bool r):=by
 refine a0a.of_awp mixed Tryz.func201 f0r nle ?_;rw [a0l];unfold b1w at hf;unfold c201;refine (show awp Tryz.prog false 0 _ (ofL [(0,(.lst 3 (B.map o5))),(1,(.lst 3 (D.map o5)))]) [] _ from ?_);refine sr<|l7 (.bool false) rfl<|dk<|o6<|sr<|l7 (.lst 3 (B.map o5)) rfl<|a1a (a1t (enc:=o5) rfl) fun hl3 => l7 (.lst 3 (D.map o5)) rfl<|a1a (a1t (enc:=o5) rfl) fun hl4 => o7 (.bool ((B.length:Int) != (D.length:Int))) rfl rfl rfl<|dk<|?_
 rcases oi hf with ⟨c5,hf⟩ | ⟨c5,hf⟩
 ·refine x9 rfl c5<|sr<|l7 (.bool false) rfl<|dk<|a0d<|?_;obtain rfl:=os hf;exact a0f ⟨tr,tr⟩ rfl .r
 ·refine x8 rfl (bf c5)<|a0h<|a0j<|o6<|sr<|l7 (.I 0) rfl<|dk<|?_
  obtain ⟨p36,hb1,hf⟩:=ob hf
  refine a1u (X:={q:Unit // p36 = .go q}) (fun q => ([],[])) ?_ ?_
  ·refine a1h (X:={q:Nat // a5c D (B.drop q) q = some p36}) (fun q => ([(0,(.lst 3 (B.map o5))),(1,(.lst 3 (D.map o5))),(5,(.I (q.1:Int)))],[])) (fun q => B.length - q.1) ⟨0,hb1⟩ ⟨[],[],_,_,rfl,rfl,⟨.r,⟨.r,⟨.r,tr⟩⟩⟩,.r⟩ ?_
   rintro ⟨A,hc1⟩
   have hc1:a5c D (B.drop A) A = some p36:=hc1
   refine (show awp Tryz.prog false 0 _ (ofL [(0,(.lst 3 (B.map o5))),(1,(.lst 3 (D.map o5))),(5,(.I (A:Int)))]) [] _ from ?_)
   rcases a5j B A with ⟨hie39,hd42⟩ | ⟨hlt37,E,hx38,hd42⟩
   ·rw [hd42,a5c.eq_1] at hc1
    have hq41:=dlf hie39
    refine o6<|sr<|l7 (.I (A:Int)) rfl<|l7 (.lst 3 (B.map o5)) rfl<|a1a (a1t (enc:=o5) rfl) fun hl44 => o7 (.bool (decide ((A:Int) < (B.length:Int)))) rfl rfl rfl<|dk<|x8 rfl hq41<|a2o<|a2n<|a1s<|a2m<|?_;obtain rfl:=os hc1;exact a2s ⟨_,rfl⟩ ⟨[],[],_,_,rfl,rfl,tr,.r⟩
   ·rw [hd42,a5c.eq_2] at hc1
    have hq41:=dlt hlt37
    refine o6<|sr<|l7 (.I (A:Int)) rfl<|l7 (.lst 3 (B.map o5)) rfl<|a1a (a1t (enc:=o5) rfl) fun hl45 => o7 (.bool (decide ((A:Int) < (B.length:Int)))) rfl rfl rfl<|dk<|x9 rfl hq41<|a0h<|a0j<|o6<|a2y<|sr<|?_
    obtain ⟨F,ex47,hc1⟩:=ob hc1
    obtain ⟨G,er49,hc1⟩:=ob hc1
    refine l7 (.lst 3 (B.map o5)) rfl<|l7 (.I (A:Int)) rfl<|y7 (a1m (enc:=o5) rfl rfl hx38)<|o7 (o5 E) rfl nle rfl<|l7 (.lst 3 (D.map o5)) rfl<|l7 (.I (A:Int)) rfl<|y7 (a3d (enc:=o5) rfl rfl (b0a ex47) (b0b ex47))<|o7 (o5 F) rfl nle rfl<|a2e (a0p (c8w _ _ _ er49) rfl .r rfl) a2j tr<|o7 (.bool (!G)) rfl tr rfl<|dk<|?_
    rcases oi hc1 with ⟨c50,hc1⟩ | ⟨c50,hc1⟩
    ·refine x9 rfl c50<|sr<|l7 (.bool false) rfl<|dk<|a0d<|?_;obtain rfl:=os hc1;obtain rfl:=os hf;exact a0f ⟨tr,tr⟩ rfl .r
    ·refine x8 rfl (bf c50)<|a0h<|a1v<|a0j<|a0t<|l7 (.I (A:Int)) rfl<|o7 (.I (w64 ((A:Int) + 1))) rfl rfl rfl<|l7 (.I (w64 ((A:Int) + 1))) rfl<|a0e<|?_;exact a1p ⟨(A + 1),hc1⟩ (mul hlt37) ⟨[],[],_,_,rfl,rfl,⟨.r,⟨.r,⟨.of_eq (congrArg (AV.int _) (a1r hlt37 hl45)),tr⟩⟩⟩,.r⟩
  ·rintro ⟨_,rfl⟩
   refine sr<|l7 (.bool true) rfl<|dk<|a0d<|?_;obtain rfl:=os hf;exact a0f ⟨tr,tr⟩ rfl .r
def f0s:a0q :=
 (.seq (.reg (tq 2 (.box 3 (.t 0)) (tq 3 (.box 3 (.t 1)) (tm 4 (.c (.bool false)) .done))))
 (.seq (.seq (.reg (tq 5 (.faddr 0 (.t 2)) (tq 6 (.load 1 false (.t 5)) (tq 7 (.faddr 0 (.t 3)) (tq 8 (.load 1 false (.t 7)) (tq 9 (.bin .neq (.t 6) (.t 8)) .done))))))
 (.cond (.t 9) (.seq (.reg (tm 4 (.c (.bool false)) .done))
 .ret)
 .skip))
 (.seq (.seq (.reg (tq 10 (.faddr 1 (.t 2)) (tq 11 (.load 1 false (.t 10)) (tq 12 (.faddr 1 (.t 3)) (tq 13 (.load 1 false (.t 12)) (tq 14 (.bin .neq (.t 11) (.t 13)) .done))))))
 (.cond (.t 14) (.seq (.reg (tm 4 (.c (.bool false)) .done))
 .ret)
 .skip))
 (.seq (.seq (.reg (tq 15 (.faddr 2 (.t 2)) (tq 16 (.load 1 false (.t 15)) (tq 17 (.faddr 2 (.t 3)) (tq 18 (.load 1 false (.t 17)) (tq 19 (.call 201 [(.t 16),(.t 18)]) (tq 20 (.not (.t 19)) .done)))))))
 (.cond (.t 20) (.seq (.reg (tm 4 (.c (.bool false)) .done))
 .ret)
 .skip))
 (.seq (.reg (tm 4 (.c (.bool true)) .done))
 .ret)))))
theorem f0t:a1b Tryz.prog Tryz.f259 = some (f0s.erase,[.mov (.t 4)],21):=by kernel_rfl
def b3b (A:a0m) (B:a0m):Option Bool :=
    if (!(A.Column == B.Column)) then
    some false
    else
    if (A.Func != B.Func) then
    some false
    else
    (b1w A.Value B.Value).bind fun D =>
    if (!D) then
    some false
    else
    some true
theorem c8x (A:a0m) (B:a0m) (r:Bool) (hf:b3b A B = some r):a0a Tryz.prog 259 .flat [(o8 A),(o8 B)] (.bool r):=by
 refine a0a.of_awp mixed Tryz.func259 f0t nle ?_;rw [a0l];unfold b3b at hf;unfold f0s;refine (show awp Tryz.prog false 0 _ (ofL [(0,(o8 A)),(1,(o8 B))]) [] _ from ?_);refine sr<|y7 (a1i (j:=0) (c:=(.agg [(.str A.Column),(.I A.Func),(.lst 3 (A.Value.map o5))])) rfl tr rfl rfl)<|y7 (a1i (j:=1) (c:=(.agg [(.str B.Column),(.I B.Func),(.lst 3 (B.Value.map o5))])) rfl tr rfl rfl)<|l7 (.bool false) rfl<|dk<|o6<|sr<|o7 (.ptr 0 0 0) rfl tr rfl<|o7 (.str A.Column) rfl nle rfl<|o7 (.ptr 1 0 0) rfl tr rfl<|o7 (.str B.Column) rfl nle rfl<|o7 (.bool (!(A.Column == B.Column))) rfl tr rfl<|?_
 refine dk<|?_
 rcases oi hf with ⟨c3,hf⟩ | ⟨c3,hf⟩
 ·refine x9 rfl c3<|sr<|l7 (.bool false) rfl<|dk<|a0d<|?_;obtain rfl:=os hf;exact a0f ⟨tr,tr⟩ rfl .r
 ·refine x8 rfl (bf c3)<|a0h<|a0j<|o6<|sr<|o7 (.ptr 0 0 1) rfl tr rfl<|o7 (.I A.Func) rfl nle rfl<|o7 (.ptr 1 0 1) rfl tr rfl<|o7 (.I B.Func) rfl nle rfl<|o7 (.bool (A.Func != B.Func)) rfl rfl rfl<|dk<|?_
  rcases oi hf with ⟨c4,hf⟩ | ⟨c4,hf⟩
  ·refine x9 rfl c4<|sr<|l7 (.bool false) rfl<|dk<|a0d<|?_;obtain rfl:=os hf;exact a0f ⟨tr,tr⟩ rfl .r
  ·refine x8 rfl (bf c4)<|a0h<|a0j<|o6<|sr<|?_
   obtain ⟨D,er6,hf⟩:=ob hf
   refine o7 (.ptr 0 0 2) rfl tr rfl<|o7 (.lst 3 (A.Value.map o5)) rfl nle rfl<|o7 (.ptr 1 0 2) rfl tr rfl<|o7 (.lst 3 (B.Value.map o5)) rfl nle rfl<|y7 (a0p (c7l _ _ _ er6) rfl .r rfl)<|o7 (.bool (!D)) rfl tr rfl<|dk<|?_
   rcases oi hf with ⟨c7,hf⟩ | ⟨c7,hf⟩
   ·refine x9 rfl c7<|sr<|l7 (.bool false) rfl<|dk<|a0d<|?_;obtain rfl:=os hf;exact a0f ⟨tr,tr⟩ rfl .r
   ·refine x8 rfl (bf c7)<|a0h<|a0j<|sr<|l7 (.bool true) rfl<|dk<|a0d<|?_;obtain rfl:=os hf;exact a0f ⟨tr,tr⟩ rfl .r
def c159:a0q :=
 (.seq (.reg (tm 4 (.c (.bool false)) .done))
 (.seq (.seq (.reg (tm 6 (.t 0) (tq 7 (.len (.t 6)) (tm 8 (.t 1) (tq 9 (.len (.t 8)) (tq 10 (.bin .neq (.t 7) (.t 9)) .done))))))
 (.cond (.t 10) (.seq (.reg (tm 4 (.c (.bool false)) .done))
 .ret)
 .skip))
 (.seq (.seq (.reg (tm 5 (.c (.int .i64 0)) .done))
 (.block 0 (.loop (.seq (.seq (.reg (tm 11 (.t 5) (tm 12 (.t 0) (tq 13 (.len (.t 12)) (tq 14 (.bin .lss (.t 11) (.t 13)) .done)))))
 (.cond (.t 14) .skip
 (.exit 0)))
 (.seq (.block 1 (.seq (.reg (tm 17 (.t 0) (tm 18 (.t 5) (tq 19 (.iaddr 3 (.t 17) (.t 18)) (tq 20 (.load 3 true (.t 19)) (tm 21 (.t 1) (tm 22 (.t 5) (tq 23 (.iaddr 3 (.t 21) (.t 22)) (tq 24 (.load 3 true (.t 23)) (.l ⟨(some 25),none,.call 259 [(.t 20),(.t 24)]⟩ []
 (tq 26 (.not (.t 25)) .done) .non))))))))))
 (.cond (.t 26) (.seq (.reg (tm 4 (.c (.bool false)) .done))
 .ret)
 .skip)))
 (.reg (tm 15 (.t 5) (tq 16 (.bin .add (.t 15) (.c (.int .i64 1))) (tm 5 (.t 16) .done)))))))))
 (.cut (.seq (.reg (tm 4 (.c (.bool true)) .done))
 .ret)))))
theorem f0u:a1b Tryz.prog Tryz.f159 = some (c159.erase,[.mov (.t 4)],27):=by kernel_rfl
def a5d (D:(List a0m)):List a0m → Nat → Option (Fl Bool Unit)
  | [],A =>
    some (.go ())
  | E :: xs,A =>
    (idx D (A:Int)).bind fun F =>
    (b3b E F).bind fun G =>
    if (!G) then
    some (.ret false)
    else
    a5d D xs (A + 1)
def b1x (B:(List a0m)) (D:(List a0m)):Option Bool :=
    if ((B.length:Int) != (D.length:Int)) then
    some false
    else
    (a5d D B 0).bind fun q => (match q with
    | .ret r => some r
    | .go _ =>
    some true)
theorem c7m (B:(List a0m)) (D:(List a0m)) (r:Bool) (hf:b1x B D = some r):a0a Tryz.prog 159 .flat [(.lst 3 (B.map o8)),(.lst 3 (D.map o8))] (.bool r):=by
 refine a0a.of_awp mixed Tryz.func159 f0u nle ?_;rw [a0l];unfold b1x at hf;unfold c159;refine (show awp Tryz.prog false 0 _ (ofL [(0,(.lst 3 (B.map o8))),(1,(.lst 3 (D.map o8)))]) [] _ from ?_);refine sr<|l7 (.bool false) rfl<|dk<|o6<|sr<|l7 (.lst 3 (B.map o8)) rfl<|a1a (a1t (enc:=o8) rfl) fun hl3 => l7 (.lst 3 (D.map o8)) rfl<|a1a (a1t (enc:=o8) rfl) fun hl4 => o7 (.bool ((B.length:Int) != (D.length:Int))) rfl rfl rfl<|dk<|?_
 rcases oi hf with ⟨c5,hf⟩ | ⟨c5,hf⟩
 ·refine x9 rfl c5<|sr<|l7 (.bool false) rfl<|dk<|a0d<|?_;obtain rfl:=os hf;exact a0f ⟨tr,tr⟩ rfl .r
 ·refine x8 rfl (bf c5)<|a0h<|a0j<|o6<|sr<|l7 (.I 0) rfl<|dk<|?_
  obtain ⟨p36,hb1,hf⟩:=ob hf
  refine a1u (X:={q:Unit // p36 = .go q}) (fun q => ([],[])) ?_ ?_
  ·refine a1h (X:={q:Nat // a5d D (B.drop q) q = some p36}) (fun q => ([(0,(.lst 3 (B.map o8))),(1,(.lst 3 (D.map o8))),(5,(.I (q.1:Int)))],[])) (fun q => B.length - q.1) ⟨0,hb1⟩ ⟨[],[],_,_,rfl,rfl,⟨.r,⟨.r,⟨.r,tr⟩⟩⟩,.r⟩ ?_
   rintro ⟨A,hc1⟩
   have hc1:a5d D (B.drop A) A = some p36:=hc1
   refine (show awp Tryz.prog false 0 _ (ofL [(0,(.lst 3 (B.map o8))),(1,(.lst 3 (D.map o8))),(5,(.I (A:Int)))]) [] _ from ?_)
   rcases a5j B A with ⟨hie39,hd42⟩ | ⟨hlt37,E,hx38,hd42⟩
   ·rw [hd42,a5d.eq_1] at hc1
    have hq41:=dlf hie39
    refine o6<|sr<|l7 (.I (A:Int)) rfl<|l7 (.lst 3 (B.map o8)) rfl<|a1a (a1t (enc:=o8) rfl) fun hl44 => o7 (.bool (decide ((A:Int) < (B.length:Int)))) rfl rfl rfl<|dk<|x8 rfl hq41<|a2o<|a2n<|a1s<|a2m<|?_;obtain rfl:=os hc1;exact a2s ⟨_,rfl⟩ ⟨[],[],_,_,rfl,rfl,tr,.r⟩
   ·rw [hd42,a5d.eq_2] at hc1
    have hq41:=dlt hlt37
    refine o6<|sr<|l7 (.I (A:Int)) rfl<|l7 (.lst 3 (B.map o8)) rfl<|a1a (a1t (enc:=o8) rfl) fun hl45 => o7 (.bool (decide ((A:Int) < (B.length:Int)))) rfl rfl rfl<|dk<|x9 rfl hq41<|a0h<|a0j<|o6<|a2y<|sr<|?_
    obtain ⟨F,ex47,hc1⟩:=ob hc1
    obtain ⟨G,er49,hc1⟩:=ob hc1
    refine l7 (.lst 3 (B.map o8)) rfl<|l7 (.I (A:Int)) rfl<|y7 (a1m (enc:=o8) rfl rfl hx38)<|o7 (o8 E) rfl nle rfl<|l7 (.lst 3 (D.map o8)) rfl<|l7 (.I (A:Int)) rfl<|y7 (a3d (enc:=o8) rfl rfl (b0a ex47) (b0b ex47))<|o7 (o8 F) rfl nle rfl<|a2e (a0p (c8x _ _ _ er49) rfl .r rfl) a2j tr<|o7 (.bool (!G)) rfl tr rfl<|dk<|?_
    rcases oi hc1 with ⟨c50,hc1⟩ | ⟨c50,hc1⟩
    ·refine x9 rfl c50<|sr<|l7 (.bool false) rfl<|dk<|a0d<|?_;obtain rfl:=os hc1;obtain rfl:=os hf;exact a0f ⟨tr,tr⟩ rfl .r
    ·refine x8 rfl (bf c50)<|a0h<|a1v<|a0j<|a0t<|l7 (.I (A:Int)) rfl<|o7 (.I (w64 ((A:Int) + 1))) rfl rfl rfl<|l7 (.I (w64 ((A:Int) + 1))) rfl<|a0e<|?_;exact a1p ⟨(A + 1),hc1⟩ (mul hlt37) ⟨[],[],_,_,rfl,rfl,⟨.r,⟨.r,⟨.of_eq (congrArg (AV.int _) (a1r hlt37 hl45)),tr⟩⟩⟩,.r⟩
  ·rintro ⟨_,rfl⟩
   refine sr<|l7 (.bool true) rfl<|dk<|a0d<|?_;obtain rfl:=os hf;exact a0f ⟨tr,tr⟩ rfl .r
def c69:a0q :=
 (.seq (.reg (tq 2 (.box 8 (.t 0)) (tq 3 (.box 8 (.t 1)) (tm 4 (.c (.bool false)) .done))))
 (.seq (.seq (.reg (tq 5 (.faddr 0 (.t 2)) (tq 6 (.load 1 false (.t 5)) (tq 7 (.faddr 0 (.t 3)) (tq 8 (.load 1 false (.t 7)) (tq 9 (.bin .neq (.t 6) (.t 8)) .done))))))
 (.cond (.t 9) (.seq (.reg (tm 4 (.c (.bool false)) .done))
 .ret)
 .skip))
 (.seq (.seq (.reg (tq 10 (.faddr 1 (.t 2)) (tq 11 (.load 1 false (.t 10)) (tq 12 (.faddr 1 (.t 3)) (tq 13 (.load 1 false (.t 12)) (tq 14 (.bin .neq (.t 11) (.t 13)) .done))))))
 (.cond (.t 14) (.seq (.reg (tm 4 (.c (.bool false)) .done))
 .ret)
 .skip))
 (.seq (.seq (.reg (tq 15 (.faddr 2 (.t 2)) (tq 16 (.load 1 false (.t 15)) (tq 17 (.faddr 2 (.t 3)) (tq 18 (.load 1 false (.t 17)) (tq 19 (.call 24 [(.t 16),(.t 18)]) (tq 20 (.not (.t 19)) .done)))))))
 (.cond (.t 20) (.seq (.reg (tm 4 (.c (.bool false)) .done))
 .ret)
 .skip))
 (.seq (.seq (.reg (tq 21 (.faddr 3 (.t 2)) (tq 22 (.load 1 false (.t 21)) (tq 23 (.faddr 3 (.t 3)) (tq 24 (.load 1 false (.t 23)) (tq 25 (.eqB true (.t 22) (.t 24)) .done))))))
 (.cond (.t 25) (.seq (.reg (tm 4 (.c (.bool false)) .done))
 .ret)
 .skip))
 (.seq (.seq (.reg (tq 26 (.faddr 4 (.t 2)) (tq 27 (.load 1 false (.t 26)) (tq 28 (.faddr 4 (.t 3)) (tq 29 (.load 1 false (.t 28)) (tq 30 (.eqB true (.t 27) (.t 29)) .done))))))
 (.cond (.t 30) (.seq (.reg (tm 4 (.c (.bool false)) .done))
 .ret)
 .skip))
 (.seq (.seq (.reg (tq 31 (.faddr 5 (.t 2)) (tq 32 (.load 1 false (.t 31)) (tq 33 (.faddr 5 (.t 3)) (tq 34 (.load 1 false (.t 33)) (tq 35 (.eqB true (.t 32) (.t 34)) .done))))))
 (.cond (.t 35) (.seq (.reg (tm 4 (.c (.bool false)) .done))
 .ret)
 .skip))
 (.seq (.seq (.reg (tq 36 (.faddr 6 (.t 2)) (tq 37 (.load 1 false (.t 36)) (tq 38 (.faddr 6 (.t 3)) (tq 39 (.load 1 false (.t 38)) (tq 40 (.eqB true (.t 37) (.t 39)) .done))))))
 (.cond (.t 40) (.seq (.reg (tm 4 (.c (.bool false)) .done))
 .ret)
 .skip))
 (.seq (.seq (.reg (tq 41 (.faddr 7 (.t 2)) (tq 42 (.load 1 false (.t 41)) (tq 43 (.faddr 7 (.t 3)) (tq 44 (.load 1 false (.t 43)) (tq 45 (.call 159 [(.t 42),(.t 44)]) (tq 46 (.not (.t 45)) .done)))))))
 (.cond (.t 46) (.seq (.reg (tm 4 (.c (.bool false)) .done))
 .ret)
 .skip))
 (.seq (.reg (tm 4 (.c (.bool true)) .done))
 .ret))))))))))
theorem f2b:a1b Tryz.prog Tryz.f69 = some (c69.erase,[.mov (.t 4)],47):=by kernel_rfl
def a7d (A:a0k) (B:a0k):Option Bool :=
    if (!(A.Name == B.Name)) then
    some false
    else
    if (!(A.Table == B.Table)) then
    some false
    else
    (a8e A.Columns B.Columns).bind fun E =>
    if (!E) then
    some false
    else
    if (!(A.Initial == B.Initial)) then
    some false
    else
    if (!(A.Insert == B.Insert)) then
    some false
    else
    if (!(A.Delete == B.Delete)) then
    some false
    else
    if (!(A.Modify == B.Modify)) then
    some false
    else
    (b1x A.Where B.Where).bind fun D =>
    if (!D) then
    some false
    else
    some true
theorem a8f (A:a0k) (B:a0k) (r:Bool) (hf:a7d A B = some r):a0a Tryz.prog 69 .flat [(a4d A),(a4d B)] (.bool r):=by
 refine a0a.of_awp mixed Tryz.func69 f2b nle ?_;rw [a0l];unfold a7d at hf;unfold c69;refine (show awp Tryz.prog false 0 _ (ofL [(0,(a4d A)),(1,(a4d B))]) [] _ from ?_);refine sr<|y7 (a1i (j:=0) (c:=(.agg [(.str A.Name),(.str A.Table),(.lst 1 (A.Columns.map AV.str)),(.bool A.Initial),(.bool A.Insert),(.bool A.Delete),(.bool A.Modify),(.lst 3 (A.Where.map o8))])) rfl tr rfl rfl)<|y7 (a1i (j:=1) (c:=(.agg [(.str B.Name),(.str B.Table),(.lst 1 (B.Columns.map AV.str)),(.bool B.Initial),(.bool B.Insert),(.bool B.Delete),(.bool B.Modify),(.lst 3 (B.Where.map o8))])) rfl tr rfl rfl)<|?_
 refine l7 (.bool false) rfl<|dk<|o6<|sr<|o7 (.ptr 0 0 0) rfl tr rfl<|o7 (.str A.Name) rfl nle rfl<|o7 (.ptr 1 0 0) rfl tr rfl<|o7 (.str B.Name) rfl nle rfl<|o7 (.bool (!(A.Name == B.Name))) rfl tr rfl<|dk<|?_
 rcases oi hf with ⟨c3,hf⟩ | ⟨c3,hf⟩
 ·refine x9 rfl c3<|sr<|l7 (.bool false) rfl<|dk<|a0d<|?_;obtain rfl:=os hf;exact a0f ⟨tr,tr⟩ rfl .r
 ·refine x8 rfl (bf c3)<|a0h<|a0j<|o6<|sr<|o7 (.ptr 0 0 1) rfl tr rfl<|o7 (.str A.Table) rfl nle rfl<|o7 (.ptr 1 0 1) rfl tr rfl<|o7 (.str B.Table) rfl nle rfl<|o7 (.bool (!(A.Table == B.Table))) rfl tr rfl<|dk<|?_
  rcases oi hf with ⟨c4,hf⟩ | ⟨c4,hf⟩
  ·refine x9 rfl c4<|sr<|l7 (.bool false) rfl<|dk<|a0d<|?_;obtain rfl:=os hf;exact a0f ⟨tr,tr⟩ rfl .r
  ·refine x8 rfl (bf c4)<|a0h<|a0j<|o6<|sr<|?_
   obtain ⟨E,er6,hf⟩:=ob hf
   refine o7 (.ptr 0 0 2) rfl tr rfl<|o7 (.lst 1 (A.Columns.map AV.str)) rfl nle rfl<|o7 (.ptr 1 0 2) rfl tr rfl<|o7 (.lst 1 (B.Columns.map AV.str)) rfl nle rfl<|y7 (a0p (b5l _ _ _ er6) rfl .r rfl)<|o7 (.bool (!E)) rfl tr rfl<|dk<|?_
   rcases oi hf with ⟨c7,hf⟩ | ⟨c7,hf⟩
   ·refine x9 rfl c7<|sr<|l7 (.bool false) rfl<|dk<|a0d<|?_;obtain rfl:=os hf;exact a0f ⟨tr,tr⟩ rfl .r
   ·refine x8 rfl (bf c7)<|a0h<|a0j<|o6<|sr<|o7 (.ptr 0 0 3) rfl tr rfl<|o7 (.bool A.Initial) rfl nle rfl<|o7 (.ptr 1 0 3) rfl tr rfl<|o7 (.bool B.Initial) rfl nle rfl<|o7 (.bool (!(A.Initial == B.Initial))) rfl tr rfl<|dk<|?_
    rcases oi hf with ⟨c8,hf⟩ | ⟨c8,hf⟩
    ·refine x9 rfl c8<|sr<|l7 (.bool false) rfl<|dk<|a0d<|?_;obtain rfl:=os hf;exact a0f ⟨tr,tr⟩ rfl .r
    ·refine x8 rfl (bf c8)<|a0h<|a0j<|o6<|sr<|o7 (.ptr 0 0 4) rfl tr rfl<|o7 (.bool A.Insert) rfl nle rfl<|o7 (.ptr 1 0 4) rfl tr rfl<|o7 (.bool B.Insert) rfl nle rfl<|o7 (.bool (!(A.Insert == B.Insert))) rfl tr rfl<|dk<|?_
     rcases oi hf with ⟨c9,hf⟩ | ⟨c9,hf⟩
     ·refine x9 rfl c9<|sr<|l7 (.bool false) rfl<|dk<|a0d<|?_;obtain rfl:=os hf;exact a0f ⟨tr,tr⟩ rfl .r
     ·refine x8 rfl (bf c9)<|a0h<|a0j<|o6<|sr<|o7 (.ptr 0 0 5) rfl tr rfl<|o7 (.bool A.Delete) rfl nle rfl<|o7 (.ptr 1 0 5) rfl tr rfl<|o7 (.bool B.Delete) rfl nle rfl<|o7 (.bool (!(A.Delete == B.Delete))) rfl tr rfl<|dk<|?_
      rcases oi hf with ⟨c10,hf⟩ | ⟨c10,hf⟩
      ·refine x9 rfl c10<|sr<|l7 (.bool false) rfl<|dk<|a0d<|?_;obtain rfl:=os hf;exact a0f ⟨tr,tr⟩ rfl .r
      ·refine x8 rfl (bf c10)<|a0h<|a0j<|o6<|sr<|o7 (.ptr 0 0 6) rfl tr rfl<|o7 (.bool A.Modify) rfl nle rfl<|o7 (.ptr 1 0 6) rfl tr rfl<|o7 (.bool B.Modify) rfl nle rfl<|o7 (.bool (!(A.Modify == B.Modify))) rfl tr rfl<|dk<|?_
       rcases oi hf with ⟨c11,hf⟩ | ⟨c11,hf⟩
       ·refine x9 rfl c11<|sr<|l7 (.bool false) rfl<|dk<|a0d<|?_;obtain rfl:=os hf;exact a0f ⟨tr,tr⟩ rfl .r
       ·refine x8 rfl (bf c11)<|a0h<|a0j<|o6<|sr<|?_
        obtain ⟨D,er13,hf⟩:=ob hf
        refine o7 (.ptr 0 0 7) rfl tr rfl<|o7 (.lst 3 (A.Where.map o8)) rfl nle rfl<|o7 (.ptr 1 0 7) rfl tr rfl<|o7 (.lst 3 (B.Where.map o8)) rfl nle rfl<|y7 (a0p (c7m _ _ _ er13) rfl .r rfl)<|o7 (.bool (!D)) rfl tr rfl<|dk<|?_
        rcases oi hf with ⟨c14,hf⟩ | ⟨c14,hf⟩
        ·refine x9 rfl c14<|sr<|l7 (.bool false) rfl<|dk<|a0d<|?_;obtain rfl:=os hf;exact a0f ⟨tr,tr⟩ rfl .r
        ·refine x8 rfl (bf c14)<|a0h<|a0j<|sr<|l7 (.bool true) rfl<|dk<|a0d<|?_;obtain rfl:=os hf;exact a0f ⟨tr,tr⟩ rfl .r
def c99:a0q :=
 (.seq (.reg (tm 4 (.c (.bool false)) .done))
 (.seq (.seq (.reg (tm 6 (.t 0) (tq 7 (.len (.t 6)) (tm 8 (.t 1) (tq 9 (.len (.t 8)) (tq 10 (.bin .neq (.t 7) (.t 9)) .done))))))
 (.cond (.t 10) (.seq (.reg (tm 4 (.c (.bool false)) .done))
 .ret)
 .skip))
 (.seq (.seq (.reg (tm 5 (.c (.int .i64 0)) .done))
 (.block 0 (.loop (.seq (.seq (.reg (tm 11 (.t 5) (tm 12 (.t 0) (tq 13 (.len (.t 12)) (tq 14 (.bin .lss (.t 11) (.t 13)) .done)))))
 (.cond (.t 14) .skip
 (.exit 0)))
 (.seq (.block 1 (.seq (.reg (tm 17 (.t 0) (tm 18 (.t 5) (tq 19 (.iaddr 5 (.t 17) (.t 18)) (tq 20 (.load 5 true (.t 19)) (tm 21 (.t 1) (tm 22 (.t 5) (tq 23 (.iaddr 5 (.t 21) (.t 22)) (tq 24 (.load 5 true (.t 23)) (.l ⟨(some 25),none,.call 23 [(.t 20),(.t 24)]⟩ []
 (tq 26 (.not (.t 25)) .done) .non))))))))))
 (.cond (.t 26) (.seq (.reg (tm 4 (.c (.bool false)) .done))
 .ret)
 .skip)))
 (.reg (tm 15 (.t 5) (tq 16 (.bin .add (.t 15) (.c (.int .i64 1))) (tm 5 (.t 16) .done)))))))))
 (.cut (.seq (.reg (tm 4 (.c (.bool true)) .done))
 .ret)))))
theorem f2c:a1b Tryz.prog Tryz.f99 = some (c99.erase,[.mov (.t 4)],27):=by kernel_rfl
def a5e (D:(List y8)) (rec:(y8 → y8 → Option Bool)):List y8 → Nat → Option (Fl Bool Unit)
  | [],A =>
    some (.go ())
  | E :: xs,A =>
    (idx D (A:Int)).bind fun F =>
    (rec E F).bind fun G =>
    if (!G) then
    some (.ret false)
    else
    a5e D rec xs (A + 1)
def b0c (rec:(y8 → y8 → Option Bool)) (B:(List y8)) (D:(List y8)):Option Bool :=
    if ((B.length:Int) != (D.length:Int)) then
    some false
    else
    (a5e D rec B 0).bind fun q => (match q with
    | .ret r => some r
    | .go _ =>
    some true)
theorem c7n (rec:(y8 → y8 → Option Bool)) (hrec:∀ a0 a1 r,rec a0 a1 = some r → a0a Tryz.prog 23 .flat [(l9 a0),(l9 a1)] (.bool r)) (B:(List y8)) (D:(List y8)) (r:Bool) (hf:b0c rec B D = some r):a0a Tryz.prog 99 .flat [(.lst 5 (B.map l9)),(.lst 5 (D.map l9))] (.bool r):=by
 refine a0a.of_awp mixed Tryz.func99 f2c nle ?_;rw [a0l];unfold b0c at hf;unfold c99;refine (show awp Tryz.prog false 0 _ (ofL [(0,(.lst 5 (B.map l9))),(1,(.lst 5 (D.map l9)))]) [] _ from ?_);refine sr<|l7 (.bool false) rfl<|dk<|o6<|sr<|l7 (.lst 5 (B.map l9)) rfl<|a1a (a1t (enc:=l9) rfl) fun hl3 => l7 (.lst 5 (D.map l9)) rfl<|a1a (a1t (enc:=l9) rfl) fun hl4 => o7 (.bool ((B.length:Int) != (D.length:Int))) rfl rfl rfl<|dk<|?_
 rcases oi hf with ⟨c5,hf⟩ | ⟨c5,hf⟩
 ·refine x9 rfl c5<|sr<|l7 (.bool false) rfl<|dk<|a0d<|?_;obtain rfl:=os hf;exact a0f ⟨tr,tr⟩ rfl .r
 ·refine x8 rfl (bf c5)<|a0h<|a0j<|o6<|sr<|l7 (.I 0) rfl<|dk<|?_
  obtain ⟨p36,hb1,hf⟩:=ob hf
  refine a1u (X:={q:Unit // p36 = .go q}) (fun q => ([],[])) ?_ ?_
  ·refine a1h (X:={q:Nat // a5e D rec (B.drop q) q = some p36}) (fun q => ([(0,(.lst 5 (B.map l9))),(1,(.lst 5 (D.map l9))),(5,(.I (q.1:Int)))],[])) (fun q => B.length - q.1) ⟨0,hb1⟩ ⟨[],[],_,_,rfl,rfl,⟨.r,⟨.r,⟨.r,tr⟩⟩⟩,.r⟩ ?_
   rintro ⟨A,hc1⟩
   have hc1:a5e D rec (B.drop A) A = some p36:=hc1
   refine (show awp Tryz.prog false 0 _ (ofL [(0,(.lst 5 (B.map l9))),(1,(.lst 5 (D.map l9))),(5,(.I (A:Int)))]) [] _ from ?_)
   rcases a5j B A with ⟨hie39,hd42⟩ | ⟨hlt37,E,hx38,hd42⟩
   ·rw [hd42,a5e.eq_1] at hc1
    have hq41:=dlf hie39
    refine o6<|sr<|l7 (.I (A:Int)) rfl<|l7 (.lst 5 (B.map l9)) rfl<|a1a (a1t (enc:=l9) rfl) fun hl44 => o7 (.bool (decide ((A:Int) < (B.length:Int)))) rfl rfl rfl<|dk<|x8 rfl hq41<|a2o<|a2n<|a1s<|a2m<|?_;obtain rfl:=os hc1;exact a2s ⟨_,rfl⟩ ⟨[],[],_,_,rfl,rfl,tr,.r⟩
   ·rw [hd42,a5e.eq_2] at hc1
    have hq41:=dlt hlt37
    refine o6<|sr<|l7 (.I (A:Int)) rfl<|l7 (.lst 5 (B.map l9)) rfl<|a1a (a1t (enc:=l9) rfl) fun hl45 => o7 (.bool (decide ((A:Int) < (B.length:Int)))) rfl rfl rfl<|dk<|x9 rfl hq41<|a0h<|a0j<|o6<|a2y<|sr<|?_
    obtain ⟨F,ex47,hc1⟩:=ob hc1
    obtain ⟨G,er49,hc1⟩:=ob hc1
    refine l7 (.lst 5 (B.map l9)) rfl<|l7 (.I (A:Int)) rfl<|y7 (a1m (enc:=l9) rfl rfl hx38)<|y7 (a2l (v:=(.agg [(.I E.Kind),(.I E.N),(.str E.T),(.lst 1 (E.Keys.map AV.str)),(.lst 5 (E.Items.map l9))])) rfl (o9 _) nle rfl)<|l7 (.lst 5 (D.map l9)) rfl<|l7 (.I (A:Int)) rfl<|y7 (a3d (enc:=l9) rfl rfl (b0a ex47) (b0b ex47))<|y7 (a2l (v:=(.agg [(.I F.Kind),(.I F.N),(.str F.T),(.lst 1 (F.Keys.map AV.str)),(.lst 5 (F.Items.map l9))])) rfl (o9 _) nle rfl)<|a2e (a0p (hrec _ _ _ er49) rfl (.cons (.of_eq (o9 E).symm) (.cons (.of_eq (o9 F).symm) .nil)) rfl) a2j tr<|?_
    refine o7 (.bool (!G)) rfl tr rfl<|dk<|?_
    rcases oi hc1 with ⟨c50,hc1⟩ | ⟨c50,hc1⟩
    ·refine x9 rfl c50<|sr<|l7 (.bool false) rfl<|dk<|a0d<|?_;obtain rfl:=os hc1;obtain rfl:=os hf;exact a0f ⟨tr,tr⟩ rfl .r
    ·refine x8 rfl (bf c50)<|a0h<|a1v<|a0j<|a0t<|l7 (.I (A:Int)) rfl<|o7 (.I (w64 ((A:Int) + 1))) rfl rfl rfl<|l7 (.I (w64 ((A:Int) + 1))) rfl<|a0e<|?_;exact a1p ⟨(A + 1),hc1⟩ (mul hlt37) ⟨[],[],_,_,rfl,rfl,⟨.r,⟨.r,⟨.of_eq (congrArg (AV.int _) (a1r hlt37 hl45)),tr⟩⟩⟩,.r⟩
  ·rintro ⟨_,rfl⟩
   refine sr<|l7 (.bool true) rfl<|dk<|a0d<|?_;obtain rfl:=os hf;exact a0f ⟨tr,tr⟩ rfl .r
def c23:a0q :=
 (.seq (.reg (tq 2 (.box 5 (.t 0)) (tq 3 (.box 5 (.t 1)) (tm 4 (.c (.bool false)) .done))))
 (.seq (.seq (.reg (tq 5 (.faddr 0 (.t 2)) (tq 6 (.load 1 false (.t 5)) (tq 7 (.faddr 0 (.t 3)) (tq 8 (.load 1 false (.t 7)) (tq 9 (.bin .neq (.t 6) (.t 8)) .done))))))
 (.cond (.t 9) (.seq (.reg (tm 4 (.c (.bool false)) .done))
 .ret)
 .skip))
 (.seq (.seq (.reg (tq 10 (.faddr 1 (.t 2)) (tq 11 (.load 1 false (.t 10)) (tq 12 (.faddr 1 (.t 3)) (tq 13 (.load 1 false (.t 12)) (tq 14 (.bin .neq (.t 11) (.t 13)) .done))))))
 (.cond (.t 14) (.seq (.reg (tm 4 (.c (.bool false)) .done))
 .ret)
 .skip))
 (.seq (.seq (.reg (tq 15 (.faddr 2 (.t 2)) (tq 16 (.load 1 false (.t 15)) (tq 17 (.faddr 2 (.t 3)) (tq 18 (.load 1 false (.t 17)) (tq 19 (.bin .neq (.t 16) (.t 18)) .done))))))
 (.cond (.t 19) (.seq (.reg (tm 4 (.c (.bool false)) .done))
 .ret)
 .skip))
 (.seq (.seq (.reg (tq 20 (.faddr 3 (.t 2)) (tq 21 (.load 1 false (.t 20)) (tq 22 (.faddr 3 (.t 3)) (tq 23 (.load 1 false (.t 22)) (tq 24 (.call 24 [(.t 21),(.t 23)]) (tq 25 (.not (.t 24)) .done)))))))
 (.cond (.t 25) (.seq (.reg (tm 4 (.c (.bool false)) .done))
 .ret)
 .skip))
 (.seq (.seq (.reg (tq 26 (.faddr 4 (.t 2)) (tq 27 (.load 1 false (.t 26)) (tq 28 (.faddr 4 (.t 3)) (tq 29 (.load 1 false (.t 28)) (tq 30 (.call 99 [(.t 27),(.t 29)]) (tq 31 (.not (.t 30)) .done)))))))
 (.cond (.t 31) (.seq (.reg (tm 4 (.c (.bool false)) .done))
 .ret)
 .skip))
 (.seq (.reg (tm 4 (.c (.bool true)) .done))
 .ret)))))))
theorem f2d:a1b Tryz.prog Tryz.f23 = some (c23.erase,[.mov (.t 4)],32):=by kernel_rfl
def b2n (rec:(y8 → y8 → Option Bool)) (A:y8) (B:y8):Option Bool :=
    if (A.Kind != B.Kind) then
    some false
    else
    if (A.N != B.N) then
    some false
    else
    if (!(A.T == B.T)) then
    some false
    else
    (a8e A.Keys B.Keys).bind fun D =>
    if (!D) then
    some false
    else
    (b0c rec A.Items B.Items).bind fun E =>
    if (!E) then
    some false
    else
    some true
theorem c5g (rec:(y8 → y8 → Option Bool)) (hrec:∀ a0 a1 r,rec a0 a1 = some r → a0a Tryz.prog 23 .flat [(l9 a0),(l9 a1)] (.bool r)) (A:y8) (B:y8) (r:Bool) (hf:b2n rec A B = some r):a0a Tryz.prog 23 .flat [(l9 A),(l9 B)] (.bool r):=by
 refine a0a.of_awp mixed Tryz.func23 f2d nle ?_;rw [a0l];rw [o9 A,o9 B];unfold b2n at hf;unfold c23;refine (show awp Tryz.prog false 0 _ (ofL [(0,(.agg [(.I A.Kind),(.I A.N),(.str A.T),(.lst 1 (A.Keys.map AV.str)),(.lst 5 (A.Items.map l9))])),(1,(.agg [(.I B.Kind),(.I B.N),(.str B.T),(.lst 1 (B.Keys.map AV.str)),(.lst 5 (B.Items.map l9))]))]) [] _ from ?_);refine sr<|y7 (a1i (j:=0) (c:=(.agg [(.I A.Kind),(.I A.N),(.str A.T),(.lst 1 (A.Keys.map AV.str)),(.lst 5 (A.Items.map l9))])) rfl tr rfl rfl)<|y7 (a1i (j:=1) (c:=(.agg [(.I B.Kind),(.I B.N),(.str B.T),(.lst 1 (B.Keys.map AV.str)),(.lst 5 (B.Items.map l9))])) rfl tr rfl rfl)<|?_
 refine l7 (.bool false) rfl<|dk<|o6<|sr<|o7 (.ptr 0 0 0) rfl tr rfl<|o7 (.I A.Kind) rfl nle rfl<|o7 (.ptr 1 0 0) rfl tr rfl<|o7 (.I B.Kind) rfl nle rfl<|o7 (.bool (A.Kind != B.Kind)) rfl rfl rfl<|dk<|?_
 rcases oi hf with ⟨c3,hf⟩ | ⟨c3,hf⟩
 ·refine x9 rfl c3<|sr<|l7 (.bool false) rfl<|dk<|a0d<|?_;obtain rfl:=os hf;exact a0f ⟨tr,tr⟩ rfl .r
 ·refine x8 rfl (bf c3)<|a0h<|a0j<|o6<|sr<|o7 (.ptr 0 0 1) rfl tr rfl<|o7 (.I A.N) rfl nle rfl<|o7 (.ptr 1 0 1) rfl tr rfl<|o7 (.I B.N) rfl nle rfl<|o7 (.bool (A.N != B.N)) rfl rfl rfl<|dk<|?_
  rcases oi hf with ⟨c4,hf⟩ | ⟨c4,hf⟩
  ·refine x9 rfl c4<|sr<|l7 (.bool false) rfl<|dk<|a0d<|?_;obtain rfl:=os hf;exact a0f ⟨tr,tr⟩ rfl .r
  ·refine x8 rfl (bf c4)<|a0h<|a0j<|o6<|sr<|o7 (.ptr 0 0 2) rfl tr rfl<|o7 (.str A.T) rfl nle rfl<|o7 (.ptr 1 0 2) rfl tr rfl<|o7 (.str B.T) rfl nle rfl<|o7 (.bool (!(A.T == B.T))) rfl tr rfl<|dk<|?_
   rcases oi hf with ⟨c5,hf⟩ | ⟨c5,hf⟩
   ·refine x9 rfl c5<|sr<|l7 (.bool false) rfl<|dk<|a0d<|?_;obtain rfl:=os hf;exact a0f ⟨tr,tr⟩ rfl .r
   ·refine x8 rfl (bf c5)<|a0h<|a0j<|o6<|sr<|?_
    obtain ⟨D,er7,hf⟩:=ob hf
    refine o7 (.ptr 0 0 3) rfl tr rfl<|o7 (.lst 1 (A.Keys.map AV.str)) rfl nle rfl<|o7 (.ptr 1 0 3) rfl tr rfl<|o7 (.lst 1 (B.Keys.map AV.str)) rfl nle rfl<|y7 (a0p (b5l _ _ _ er7) rfl .r rfl)<|o7 (.bool (!D)) rfl tr rfl<|dk<|?_
    rcases oi hf with ⟨c8,hf⟩ | ⟨c8,hf⟩
    ·refine x9 rfl c8<|sr<|l7 (.bool false) rfl<|dk<|a0d<|?_;obtain rfl:=os hf;exact a0f ⟨tr,tr⟩ rfl .r
    ·refine x8 rfl (bf c8)<|a0h<|a0j<|o6<|sr<|?_
     obtain ⟨E,er10,hf⟩:=ob hf
     refine o7 (.ptr 0 0 4) rfl tr rfl<|o7 (.lst 5 (A.Items.map l9)) rfl nle rfl<|o7 (.ptr 1 0 4) rfl tr rfl<|o7 (.lst 5 (B.Items.map l9)) rfl nle rfl<|y7 (a0p (c7n rec hrec _ _ _ er10) rfl .r rfl)<|o7 (.bool (!E)) rfl tr rfl<|dk<|?_
     rcases oi hf with ⟨c11,hf⟩ | ⟨c11,hf⟩
     ·refine x9 rfl c11<|sr<|l7 (.bool false) rfl<|dk<|a0d<|?_;obtain rfl:=os hf;exact a0f ⟨tr,tr⟩ rfl .r
     ·refine x8 rfl (bf c11)<|a0h<|a0j<|sr<|l7 (.bool true) rfl<|dk<|a0d<|?_;obtain rfl:=os hf;exact a0f ⟨tr,tr⟩ rfl .r
def a6x:Nat → y8 → y8 → Option Bool
 | 0,_,_ => none
 | k + 1,A,B => b2n (a6x k) A B
theorem b9f:∀ (k:Nat) (A:y8) (B:y8) (r:Bool),a6x k A B = some r → a0a Tryz.prog 23 .flat [(l9 A),(l9 B)] (.bool r)
 | 0,A,B,r,h => by rw [a6x.eq_1] at h;cases h
 | k + 1,A,B,r,h => by
  rw [a6x.eq_2] at h;exact c5g _ (b9f k) A B r h
def f0v:a0q :=
 (.seq (.reg (tm 2 (.c (.str [])) .done))
 (.seq (.seq (.reg (tm 4 (.t 0) (tq 5 (.bin .leq (.t 4) (.c (.int .i64 0))) .done)))
 (.cond (.t 5) (.seq (.reg (tm 2 (.c (.str [109,48])) .done))
 .ret)
 .skip))
 (.seq (.reg (tm 3 (.c (.str [])) .done))
 (.seq (.block 0 (.loop (.seq (.seq (.reg (tm 6 (.t 0) (tq 7 (.bin .gtr (.t 6) (.c (.int .i64 0))) .done)))
 (.cond (.t 7) .skip
 (.exit 0)))
 (.block 1 (.seq (.reg (tm 8 (.t 0) (tq 9 (.bin .rem (.t 8) (.c (.int .i64 10))) (tq 10 (.bin .add (.c (.int .i64 48)) (.t 9)) (tq 11 (.convI .u8 (.t 10)) (tq 12 (.bslice 1 [(.t 11)]) (tq 13 (.convBS (.t 12)) (tm 14 (.t 3) (tq 15 (.bin .add (.t 13) (.t 14)) (tm 3 (.t 15) .done))))))))))
 (.reg (tm 16 (.t 0) (tq 17 (.bin .quo (.t 16) (.c (.int .i64 10))) (tm 0 (.t 17) .done)))))))))
 (.cut (.seq (.reg (tm 18 (.t 3) (tq 19 (.bin .add (.c (.str [109])) (.t 18)) (tm 2 (.t 19) .done))))
 .ret))))))
theorem f0w:a1b Tryz.prog Tryz.f101 = some (f0v.erase,[.mov (.t 2)],20):=by kernel_rfl
def a4n :Nat → Int → Str → Option Str
  | 0,_,_ => none
  | k + 1,A,B =>
    if (decide (A > 0)) then
    if (d3t [IntKind.u8.wrap (w64 (48 + (A.tmod 10)))]).length + B.length ≤ maxLen then
    a4n k (w64 (A.tdiv 10)) ((d3t [IntKind.u8.wrap (w64 (48 + (A.tmod 10)))]) ++ B)
    else none
    else
    some B
def a3o (E:Int):Option Str :=
    if (decide (E ≤ 0)) then
    some [109,48]
    else
    (a4n FUEL E []).bind fun D =>
    if [109].length + D.length ≤ maxLen then
    some ([109] ++ D)
    else none
theorem a6m (E:Int) (r:Str) (hf:a3o E = some r):a0a Tryz.prog 101 .flat [(.I E)] (.str r):=by
 refine a0a.of_awp mixed Tryz.func101 f0w nle ?_;rw [a0l];unfold a3o at hf;unfold f0v;refine (show awp Tryz.prog false 0 _ (ofL [(0,(.I E))]) [] _ from ?_);refine sr<|l7 (.str []) rfl<|dk<|o6<|sr<|l7 (.I E) rfl<|o7 (.bool (decide (E ≤ 0))) rfl rfl rfl<|dk<|?_
 rcases oi hf with ⟨c2,hf⟩ | ⟨c2,hf⟩
 ·refine x9 rfl c2<|sr<|l7 (.str [109,48]) rfl<|dk<|a0d<|?_;obtain rfl:=os hf;exact a0f ⟨tr,tr⟩ rfl .r
 ·refine x8 rfl (bf c2)<|a0h<|a0j<|sr<|l7 (.str []) rfl<|dk<|o6<|?_
  obtain ⟨D,hb1,hf⟩:=ob hf
  refine a2d ([(3,(.str D))],[]) ?_ ?_
  ·refine a1h (X:={q:(Nat × Int × Str) // a4n q.1 q.2.1 q.2.2 = some D}) (fun q => ([(0,(.I q.1.2.1)),(3,(.str q.1.2.2))],[])) (fun q => q.1.1) ⟨(FUEL,E,[]),hb1⟩ ⟨[],[],_,_,rfl,rfl,⟨.r,⟨.r,tr⟩⟩,.r⟩ ?_
   rintro ⟨⟨k,A,B⟩,hc1⟩
   have hc1:a4n k A B = some D:=hc1
   refine (show awp Tryz.prog false 0 _ (ofL [(0,(.I A)),(3,(.str B))]) [] _ from ?_)
   rcases k with _ | k
   ·rw [a4n.eq_1] at hc1
    cases hc1
   ·rw [a4n.eq_2] at hc1;refine o6<|sr<|l7 (.I A) rfl<|o7 (.bool (decide (A > 0))) rfl rfl rfl<|dk<|?_
    rcases oi hc1 with ⟨c15,hc1⟩ | ⟨c15,hc1⟩
    ·refine x9 rfl c15<|a0h<|a0j<|a2y<|sr<|?_
     obtain ⟨g16,hc1⟩:=og hc1
     refine l7 (.I A) rfl<|o7 (.I (A.tmod 10)) rfl ⟨rfl,by decide⟩ rfl<|o7 (.I (w64 (48 + (A.tmod 10)))) rfl rfl rfl<|o7 (.int .u8 (IntKind.u8.wrap (w64 (48 + (A.tmod 10))))) rfl tr rfl<|?_;refine y7 (a1o (j:=0) (as':=[(.int .u8 (IntKind.u8.wrap (w64 (48 + (A.tmod 10)))))]) rfl (fun _ => by decide) ⟨rfl,tr⟩ .r rfl rfl rfl) ?_;refine y7 (d8t (l:=[IntKind.u8.wrap (w64 (48 + (A.tmod 10)))]) rfl rfl (by simp))<|l7 (.str B) rfl<|o7 (.str ((d3t [IntKind.u8.wrap (w64 (48 + (A.tmod 10)))]) ++ B)) rfl g16 rfl<|l7 (.str ((d3t [IntKind.u8.wrap (w64 (48 + (A.tmod 10)))]) ++ B)) rfl<|dk<|a0t<|l7 (.I A) rfl<|?_
     refine o7 (.I (w64 (A.tdiv 10))) rfl ⟨rfl,by decide⟩ rfl<|l7 (.I (w64 (A.tdiv 10))) rfl<|a0e<|a1v<|?_;exact a1p ⟨(k,w64 (A.tdiv 10),(d3t [IntKind.u8.wrap (w64 (48 + (A.tmod 10)))]) ++ B),hc1⟩ (Nat.lt_succ_self _) ⟨[],[],_,_,rfl,rfl,⟨.r,⟨.r,tr⟩⟩,.r⟩
    ·refine x8 rfl (bf c15)<|a2o<|a2n<|a1s<|a2m<|?_;obtain rfl:=os hc1;exact ⟨[],[],_,_,rfl,rfl,⟨.r,tr⟩,.r⟩
  ·refine sr<|?_
   obtain ⟨g17,hf⟩:=og hf
   refine l7 (.str D) rfl<|o7 (.str ([109] ++ D)) rfl g17 rfl<|l7 (.str ([109] ++ D)) rfl<|dk<|a0d<|?_;obtain rfl:=os hf;exact a0f ⟨tr,tr⟩ rfl .r
def e1i:a0q :=
 (.seq (.reg (tm 4 (.c (.int .i64 0)) .done))
 (.seq (.seq (.reg (tm 5 (.c (.int .i64 0)) .done))
 (.block 0 (.loop (.seq (.seq (.reg (tm 6 (.t 5) (tm 7 (.t 0) (tq 8 (.len (.t 7)) (tq 9 (.bin .lss (.t 6) (.t 8)) .done)))))
 (.cond (.t 9) .skip
 (.exit 0)))
 (.seq (.block 1 (.seq (.reg (tm 12 (.t 0) (tm 13 (.t 5) (tm 14 (.t 1) (tq 15 (.call 101 [(.t 14)]) (tq 16 (.iaddr 1 (.t 12) (.t 13)) (.q ⟨none,none,.store 1 (.t 16) (.t 15)⟩
 .done)))))))
 (.reg (tm 17 (.t 1) (tq 18 (.bin .add (.t 17) (.c (.int .i64 1))) (tm 1 (.t 18) .done))))))
 (.reg (tm 10 (.t 5) (tq 11 (.bin .add (.t 10) (.c (.int .i64 1))) (tm 5 (.t 11) .done)))))))))
 (.cut (.seq (.reg (tm 19 (.t 1) (tm 4 (.t 19) .done)))
 .ret))))
theorem e3l:a1b Tryz.prog Tryz.f26 = some (e1i.erase,[.mov (.t 4)],20):=by kernel_rfl
def a3f :Nat → Int → Int → (List Str) → Option (Int × (List Str))
  | 0,_,_,_ => none
  | k + 1,D,A,B =>
    if (decide (A < (B.length:Int))) then
    (a3o D).bind fun F =>
    if (0:Int) ≤ A ∧ A < (B.length:Int) then
    (B[(0 + A.toNat)]?).bind fun K =>
    a3f k (w64 (D + 1)) (w64 (A + 1)) (B.set (0 + A.toNat) F)
    else none
    else
    some (D,B)
def a5y (E:(List Str)) (G:Int):Option (Int × (List Str)) :=
    (a3f FUEL G 0 E).bind fun p60 =>
    (match p60 with
    | (H,J) =>
    some (H,J))
theorem b0t (E:(List Str)) (G:Int) (r:(Int × (List Str))) (hf:a5y E G = some r):a0z Tryz.prog ⟨true,true,false⟩ 26 [(.own 0 0 E.length),(.I G)] [.row 1 (E.map AV.str)] (.I r.1) [.row 1 (r.2.map AV.str)]:=by
 refine a0z.of_awp mixed Tryz.func26 e3l nle ?_;rw [a0l];unfold a5y at hf;unfold e1i;refine (show awp Tryz.prog ⟨true,true,false⟩ 1 _ (ofL [(0,(.own 0 0 E.length)),(1,(.I G))]) [.row 1 (E.map AV.str)] _ from ?_);refine sr<|l7 (.I 0) rfl<|dk<|o6<|sr<|l7 (.I 0) rfl<|dk<|?_
 obtain ⟨p60,hb1,hf⟩:=ob hf
 refine a2d ([(1,(.I p60.1))],[.row 1 (p60.2.map AV.str)]) ?_ ?_
 ·refine a1h (X:={q:(Nat × Int × Int × (List Str)) // a3f q.1 q.2.1 q.2.2.1 q.2.2.2 = some p60}) (fun q => ([(0,(.own 0 0 q.1.2.2.2.length)),(1,(.I q.1.2.1)),(5,(.I q.1.2.2.1))],[.row 1 (q.1.2.2.2.map AV.str)])) (fun q => q.1.1) ⟨(FUEL,G,0,E),hb1⟩ ⟨[],[0],_,_,rfl,rfl,⟨.r,⟨.r,⟨.r,tr⟩⟩⟩,.r⟩ ?_
  rintro ⟨⟨k,D,A,B⟩,hc1⟩
  have hc1:a3f k D A B = some p60:=hc1
  refine (show awp Tryz.prog ⟨true,true,false⟩ 1 _ (ofL [(0,(.own 0 0 B.length)),(1,(.I D)),(5,(.I A))]) [.row 1 (B.map AV.str)] _ from ?_)
  rcases k with _ | k
  ·rw [a3f.eq_1] at hc1
   cases hc1
  ·rw [a3f.eq_2] at hc1;refine o6<|sr<|l7 (.I A) rfl<|l7 (.own 0 0 B.length) rfl<|a1a (a8p rfl rfl) fun hl61 => o7 (.bool (decide (A < (B.length:Int)))) rfl (.of rfl tr) rfl<|dk<|?_
   rcases oi hc1 with ⟨c62,hc1⟩ | ⟨c62,hc1⟩
   ·refine x9 rfl c62<|a0h<|a0j<|o6<|a2y<|sr<|?_
    obtain ⟨F,er64,hc1⟩:=ob hc1
    obtain ⟨g65,hc1⟩:=og hc1
    obtain ⟨K,ex67,hc1⟩:=ob hc1
    refine l7 (.own 0 0 B.length) rfl<|l7 (.I A) rfl<|l7 (.I D) rfl<|y7 (a0p (a6m _ _ er64) rfl .r rfl)<|y7 (a2x rfl rfl g65.1 g65.2 rfl rfl)<|?_;refine a1k (a7n (v':=(.str F)) (e':=F) rfl rfl ex67 rfl rfl rfl (by decide) (fun _ => by decide) ⟨rfl,rfl,rfl⟩ .r rfl) ?_;refine dk<|a0t<|l7 (.I D) rfl<|o7 (.I (w64 (D + 1))) rfl (.of rfl tr) rfl<|l7 (.I (w64 (D + 1))) rfl<|a0e<|a1v<|a0j<|a0t<|l7 (.I A) rfl<|o7 (.I (w64 (A + 1))) rfl (.of rfl tr) rfl<|l7 (.I (w64 (A + 1))) rfl<|a0e<|?_;exact a1p ⟨(k,w64 (D + 1),w64 (A + 1),B.set (0 + A.toNat) F),hc1⟩ (Nat.lt_succ_self _) ⟨[],[0],_,_,rfl,rfl,⟨.of_eq (congrArg (AV.own _ 0) (by simp)),⟨.r,⟨.r,tr⟩⟩⟩,.r⟩
   ·refine x8 rfl (bf c62)<|a2o<|a2n<|a1s<|a2m<|?_;obtain rfl:=os hc1;exact ⟨[],[0],_,_,rfl,rfl,⟨.r,tr⟩,.r⟩
 ·obtain ⟨H,J⟩:=p60
  refine sr<|l7 (.I H) rfl<|l7 (.I H) rfl<|dk<|a0d<|?_;obtain rfl:=os hf;exact a4p [] [0] rfl ⟨.of tr tr,tr⟩ rfl .r .r
def d7o:a0q :=
 (.seq (.reg (tm 4 (.c (.int .i64 0)) .done))
 (.seq (.seq (.reg (tm 5 (.c (.int .i64 0)) .done))
 (.block 0 (.loop (.seq (.seq (.reg (tm 6 (.t 5) (tm 7 (.t 0) (tq 8 (.len (.t 7)) (tq 9 (.bin .lss (.t 6) (.t 8)) .done)))))
 (.cond (.t 9) .skip
 (.exit 0)))
 (.seq (.block 1 (.seq (.reg (tm 12 (.t 0) (tm 13 (.t 5) (tm 14 (.t 1) (tq 15 (.iaddr 5 (.t 12) (.t 13)) (tq 16 (.faddr 0 (.t 15)) (.q ⟨none,none,.store 1 (.t 16) (.t 14)⟩
 .done)))))))
 (.seq (.reg (tm 17 (.t 1) (tq 18 (.bin .add (.t 17) (.c (.int .i64 1))) (tm 1 (.t 18) .done))))
 (.seq (.reg (tm 19 (.t 0) (tm 20 (.t 5) (tm 21 (.t 1) (tq 22 (.iaddr 5 (.t 19) (.t 20)) (tq 23 (.faddr 1 (.t 22)) (.q ⟨none,none,.store 1 (.t 23) (.t 21)⟩
 .done)))))))
 (.seq (.reg (tm 24 (.t 1) (tq 25 (.bin .add (.t 24) (.c (.int .i64 1))) (tm 1 (.t 25) .done))))
 (.seq (.reg (tm 26 (.t 0) (tm 27 (.t 5) (tm 28 (.t 1) (tq 29 (.call 101 [(.t 28)]) (tq 30 (.iaddr 5 (.t 26) (.t 27)) (tq 31 (.faddr 2 (.t 30)) (.q ⟨none,none,.store 1 (.t 31) (.t 29)⟩
 .done))))))))
 (.seq (.reg (tm 32 (.t 1) (tq 33 (.bin .add (.t 32) (.c (.int .i64 1))) (tm 1 (.t 33) .done))))
 (.seq (.rev (.reg (tm 34 (.t 0) (tm 35 (.t 5) (tq 36 (.iaddr 5 (.t 34) (.t 35)) (tq 37 (.faddr 3 (.t 36)) (tq 38 (.load 1 false (.t 37)) (tm 39 (.t 1) (tq 40 (.call 26 [(.t 38),(.t 39)]) (tm 1 (.t 40) .done))))))))))
 (.rev (.reg (tm 41 (.t 0) (tm 42 (.t 5) (tq 43 (.iaddr 5 (.t 41) (.t 42)) (tq 44 (.faddr 4 (.t 43)) (tq 45 (.load 1 false (.t 44)) (tm 46 (.t 1) (tq 47 (.call 103 [(.t 45),(.t 46)]) (tm 1 (.t 47) .done))))))))))))))))))
 (.reg (tm 10 (.t 5) (tq 11 (.bin .add (.t 10) (.c (.int .i64 1))) (tm 5 (.t 11) .done)))))))))
 (.cut (.seq (.reg (tm 48 (.t 1) (tm 4 (.t 48) .done)))
 .ret))))
theorem e1j:a1b Tryz.prog Tryz.f103 = some (d7o.erase,[.mov (.t 4)],49):=by kernel_rfl
def a3g (rec:((List y8) → Int → Option (Int × (List y8)))):Nat → Int → Int → (List y8) → Option (Int × (List y8))
  | 0,_,_,_ => none
  | k + 1,A,D,E =>
    if (decide (D < (E.length:Int))) then
    if (0:Int) ≤ D ∧ D < (E.length:Int) then
    (E[(0 + D.toNat)]?).bind fun B =>
    if (0:Int) ≤ D ∧ D < (E.length:Int) then
    (a3o (w64 ((w64 (A + 1)) + 1))).bind fun F =>
    if (0:Int) ≤ D ∧ D < (E.length:Int) then
    if (0:Int) ≤ D ∧ D < (E.length:Int) then
    (a5y B.Keys (w64 ((w64 ((w64 (A + 1)) + 1)) + 1))).bind fun G =>
    if (0:Int) ≤ D ∧ D < (E.length:Int) then
    (rec B.Items G.1).bind fun J =>
    a3g rec k J.1 (w64 (D + 1)) (((((E.set (0 + D.toNat) (⟨A,B.N,B.T,B.Keys,B.Items⟩:y8)).set (0 + D.toNat) (⟨A,w64 (A + 1),B.T,B.Keys,B.Items⟩:y8)).set (0 + D.toNat) (⟨A,w64 (A + 1),F,B.Keys,B.Items⟩:y8)).set (0 + D.toNat) (⟨A,w64 (A + 1),F,G.2,B.Items⟩:y8)).set (0 + D.toNat) (⟨A,w64 (A + 1),F,G.2,J.2⟩:y8))
    else none
    else none
    else none
    else none
    else none
    else
    some (A,E)
def b0d (rec:((List y8) → Int → Option (Int × (List y8)))) (H:(List y8)) (K:Int):Option (Int × (List y8)) :=
    (a3g rec FUEL K 0 H).bind fun p132 =>
    (match p132 with
    | (L,M) =>
    some (L,M))
theorem c0j (rec:((List y8) → Int → Option (Int × (List y8)))) (hrec:∀ a0 a1 r,rec a0 a1 = some r → a0z Tryz.prog ⟨true,true,false⟩ 103 [(.own 0 0 a0.length),(.I a1)] [.row 5 (a0.map l9)] (.I r.1) [.row 5 (r.2.map l9)]) (H:(List y8)) (K:Int) (r:(Int × (List y8))) (hf:b0d rec H K = some r):a0z Tryz.prog ⟨true,true,false⟩ 103 [(.own 0 0 H.length),(.I K)] [.row 5 (H.map l9)] (.I r.1) [.row 5 (r.2.map l9)]:=by
 refine a0z.of_awp mixed Tryz.func103 e1j nle ?_;rw [a0l];unfold b0d at hf;unfold d7o;refine (show awp Tryz.prog ⟨true,true,false⟩ 1 _ (ofL [(0,(.own 0 0 H.length)),(1,(.I K))]) [.row 5 (H.map l9)] _ from ?_);refine sr<|l7 (.I 0) rfl<|dk<|o6<|sr<|l7 (.I 0) rfl<|dk<|?_
 obtain ⟨p132,hb1,hf⟩:=ob hf
 refine a2d ([(1,(.I p132.1))],[.row 5 (p132.2.map l9)]) ?_ ?_
 ·refine a1h (X:={q:(Nat × Int × Int × (List y8)) // a3g rec q.1 q.2.1 q.2.2.1 q.2.2.2 = some p132}) (fun q => ([(0,(.own 0 0 q.1.2.2.2.length)),(1,(.I q.1.2.1)),(5,(.I q.1.2.2.1))],[.row 5 (q.1.2.2.2.map l9)])) (fun q => q.1.1) ⟨(FUEL,K,0,H),hb1⟩ ⟨[],[0],_,_,rfl,rfl,⟨.r,⟨.r,⟨.r,tr⟩⟩⟩,.r⟩ ?_
  rintro ⟨⟨k,A,D,E⟩,hc1⟩
  have hc1:a3g rec k A D E = some p132:=hc1
  refine (show awp Tryz.prog ⟨true,true,false⟩ 1 _ (ofL [(0,(.own 0 0 E.length)),(1,(.I A)),(5,(.I D))]) [.row 5 (E.map l9)] _ from ?_)
  rcases k with _ | k
  ·rw [a3g.eq_1] at hc1
   cases hc1
  ·rw [a3g.eq_2] at hc1;refine o6<|sr<|l7 (.I D) rfl<|l7 (.own 0 0 E.length) rfl<|a1a (a8p rfl rfl) fun hl133 => o7 (.bool (decide (D < (E.length:Int)))) rfl (.of rfl tr) rfl<|dk<|?_
   rcases oi hc1 with ⟨c134,hc1⟩ | ⟨c134,hc1⟩
   ·refine x9 rfl c134<|a0h<|a0j<|o6<|a2y<|sr<|?_
    obtain ⟨g135,hc1⟩:=og hc1
    obtain ⟨B,ex137,hc1⟩:=ob hc1
    refine l7 (.own 0 0 E.length) rfl<|l7 (.I D) rfl<|l7 (.I A) rfl<|y7 (a2x rfl rfl g135.1 g135.2 rfl rfl)<|o7 (.ptr 0 (0 + D.toNat) 0) rfl (.of tr tr) rfl<|?_;refine a1k (b3p (v':=(.I A)) (e':=(⟨A,B.N,B.T,B.Keys,B.Items⟩:y8)) rfl rfl ex137 (o9 _) rfl rfl rfl (by decide) (fun _ => by decide) ⟨rfl,nle⟩ (.of_eq (o9 (⟨A,B.N,B.T,B.Keys,B.Items⟩:y8)).symm) rfl) ?_;refine dk<|sr<|l7 (.I A) rfl<|o7 (.I (w64 (A + 1))) rfl (.of rfl tr) rfl<|l7 (.I (w64 (A + 1))) rfl<|dk<|?_
    refine sr<|?_
    obtain ⟨g138,hc1⟩:=og hc1
    refine l7 (.own 0 0 E.length) rfl<|l7 (.I D) rfl<|l7 (.I (w64 (A + 1))) rfl<|y7 (a2x rfl rfl g138.1 g138.2 rfl rfl)<|o7 (.ptr 0 (0 + D.toNat) 1) rfl (.of tr tr) rfl<|?_;refine a1k (b3p (v':=(.I (w64 (A + 1)))) (e':=(⟨A,w64 (A + 1),B.T,B.Keys,B.Items⟩:y8)) rfl rfl (a4l ex137) (o9 _) rfl rfl rfl (by decide) (fun _ => by decide) ⟨rfl,nle⟩ (.of_eq (o9 (⟨A,w64 (A + 1),B.T,B.Keys,B.Items⟩:y8)).symm) rfl) ?_;refine dk<|sr<|l7 (.I (w64 (A + 1))) rfl<|o7 (.I (w64 ((w64 (A + 1)) + 1))) rfl (.of rfl tr) rfl<|?_
    refine l7 (.I (w64 ((w64 (A + 1)) + 1))) rfl<|dk<|sr<|?_
    obtain ⟨F,er140,hc1⟩:=ob hc1
    obtain ⟨g141,hc1⟩:=og hc1
    refine l7 (.own 0 0 E.length) rfl<|l7 (.I D) rfl<|l7 (.I (w64 ((w64 (A + 1)) + 1))) rfl<|y7 (a0p (a6m _ _ er140) rfl .r rfl)<|y7 (a2x rfl rfl g141.1 g141.2 rfl rfl)<|o7 (.ptr 0 (0 + D.toNat) 2) rfl (.of tr tr) rfl<|?_;refine a1k (b3p (v':=(.str F)) (e':=(⟨A,w64 (A + 1),F,B.Keys,B.Items⟩:y8)) rfl rfl (a4l (a4l ex137)) (o9 _) rfl rfl rfl (by decide) (fun _ => by decide) ⟨rfl,nle⟩ (.of_eq (o9 (⟨A,w64 (A + 1),F,B.Keys,B.Items⟩:y8)).symm) rfl) ?_;refine dk<|sr<|l7 (.I (w64 ((w64 (A + 1)) + 1))) rfl<|?_
    refine o7 (.I (w64 ((w64 ((w64 (A + 1)) + 1)) + 1))) rfl (.of rfl tr) rfl<|l7 (.I (w64 ((w64 ((w64 (A + 1)) + 1)) + 1))) rfl<|dk<|o6<|?_;refine e0q (o:=0) (f:=3) (l':=B.Keys) (enc':=AV.str) (el:=(.agg [(.I A),(.I (w64 (A + 1))),(.str F),(.lst 1 (B.Keys.map AV.str)),(.lst 5 (B.Items.map l9))])) rfl (a4l (a4l (a4l ex137))) (o9 _) rfl fun O => ?_;refine a0t ?_
    obtain ⟨g144,hc1⟩:=og hc1
    obtain ⟨G,er146,hc1⟩:=ob hc1
    refine l7 (.own 0 0 E.length) rfl<|l7 (.I D) rfl<|y7 (a2x rfl rfl g144.1 g144.2 rfl rfl)<|o7 (.ptr 0 (0 + D.toNat) 3) rfl (.of tr tr) rfl<|y7 (c3f rfl rfl (d1m (a4l (a4l (a4l ex137)))) nle rfl)<|l7 (.I (w64 ((w64 ((w64 (A + 1)) + 1)) + 1))) rfl<|y7 (d1n (o:=0) (l:=(((E.set (0 + D.toNat) (⟨A,B.N,B.T,B.Keys,B.Items⟩:y8)).set (0 + D.toNat) (⟨A,w64 (A + 1),B.T,B.Keys,B.Items⟩:y8)).set (0 + D.toNat) (⟨A,w64 (A + 1),F,B.Keys,B.Items⟩:y8))) (enc:=l9) (enc':=AV.str) (l'':=G.2) (y:=(⟨A,w64 (A + 1),F,G.2,B.Items⟩:y8)) (j:=3) (el:=(.agg [(.I A),(.I (w64 (A + 1))),(.str F),(.hdr O 1 (B.Keys.map AV.str)),(.lst 5 (B.Items.map l9))])) rfl rfl (b0t _ _ _ er146) rfl rfl (a4l (a4l (a4l ex137))) rfl (by decide) (o9 (⟨A,w64 (A + 1),F,G.2,B.Items⟩:y8)).symm)<|?_
    refine l7 (.I G.1) rfl<|dk<|?_;refine e0q (o:=0) (f:=4) (l':=B.Items) (enc':=l9) (el:=(.agg [(.I A),(.I (w64 (A + 1))),(.str F),(.lst 1 (G.2.map AV.str)),(.lst 5 (B.Items.map l9))])) rfl (a4l (a4l (a4l (a4l ex137)))) (o9 _) rfl fun P => ?_;refine a0t ?_
    obtain ⟨g149,hc1⟩:=og hc1
    obtain ⟨J,er151,hc1⟩:=ob hc1
    refine l7 (.own 0 0 E.length) rfl<|l7 (.I D) rfl<|y7 (a2x rfl rfl g149.1 g149.2 rfl rfl)<|o7 (.ptr 0 (0 + D.toNat) 4) rfl (.of tr tr) rfl<|y7 (c3f rfl rfl (d1m (a4l (a4l (a4l (a4l ex137))))) nle rfl)<|l7 (.I G.1) rfl<|y7 (d1n (o:=0) (l:=((((E.set (0 + D.toNat) (⟨A,B.N,B.T,B.Keys,B.Items⟩:y8)).set (0 + D.toNat) (⟨A,w64 (A + 1),B.T,B.Keys,B.Items⟩:y8)).set (0 + D.toNat) (⟨A,w64 (A + 1),F,B.Keys,B.Items⟩:y8)).set (0 + D.toNat) (⟨A,w64 (A + 1),F,G.2,B.Items⟩:y8))) (enc:=l9) (enc':=l9) (l'':=J.2) (y:=(⟨A,w64 (A + 1),F,G.2,J.2⟩:y8)) (j:=4) (el:=(.agg [(.I A),(.I (w64 (A + 1))),(.str F),(.lst 1 (G.2.map AV.str)),(.hdr P 5 (B.Items.map l9))])) rfl rfl (hrec _ _ _ er151) rfl rfl (a4l (a4l (a4l (a4l ex137)))) rfl (by decide) (o9 (⟨A,w64 (A + 1),F,G.2,J.2⟩:y8)).symm)<|?_
    refine l7 (.I J.1) rfl<|a0e<|a1v<|a0j<|a0t<|l7 (.I D) rfl<|o7 (.I (w64 (D + 1))) rfl (.of rfl tr) rfl<|l7 (.I (w64 (D + 1))) rfl<|a0e<|?_;exact a1p ⟨(k,J.1,w64 (D + 1),((((E.set (0 + D.toNat) (⟨A,B.N,B.T,B.Keys,B.Items⟩:y8)).set (0 + D.toNat) (⟨A,w64 (A + 1),B.T,B.Keys,B.Items⟩:y8)).set (0 + D.toNat) (⟨A,w64 (A + 1),F,B.Keys,B.Items⟩:y8)).set (0 + D.toNat) (⟨A,w64 (A + 1),F,G.2,B.Items⟩:y8)).set (0 + D.toNat) (⟨A,w64 (A + 1),F,G.2,J.2⟩:y8)),hc1⟩ (Nat.lt_succ_self _) ⟨[],[0],_,_,rfl,rfl,⟨.of_eq (congrArg (AV.own _ 0) (by simp)),⟨.r,⟨.r,tr⟩⟩⟩,.r⟩
   ·refine x8 rfl (bf c134)<|a2o<|a2n<|a1s<|a2m<|?_;obtain rfl:=os hc1;exact ⟨[],[0],_,_,rfl,rfl,⟨.r,tr⟩,.r⟩
 ·obtain ⟨L,M⟩:=p132
  refine sr<|l7 (.I L) rfl<|l7 (.I L) rfl<|dk<|a0d<|?_;obtain rfl:=os hf;exact a4p [] [0] rfl ⟨.of tr tr,tr⟩ rfl .r .r
def a5n:Nat → (List y8) → Int → Option (Int × (List y8))
 | 0,_,_ => none
 | k + 1,H,K => b0d (a5n k) H K
theorem b5m:∀ (k:Nat) (H:(List y8)) (K:Int) (r:(Int × (List y8))),a5n k H K = some r → a0z Tryz.prog ⟨true,true,false⟩ 103 [(.own 0 0 H.length),(.I K)] [.row 5 (H.map l9)] (.I r.1) [.row 5 (r.2.map l9)]
 | 0,H,K,r,h => by rw [a5n.eq_1] at h;cases h
 | k + 1,H,K,r,h => by
  rw [a5n.eq_2] at h;exact c0j _ (b5m k) H K r h
def e1k:a0q :=
 (.seq (.reg (tq 2 (.box 5 (.t 0)) (tm 4 (.c (.int .i64 0)) .done)))
 (.seq (.reg (tq 5 (.faddr 3 (.t 2)) (tq 6 (.load 1 false (.t 5)) (tm 7 (.t 1) (tq 8 (.call 26 [(.t 6),(.t 7)]) (tm 1 (.t 8) .done))))))
 (.seq (.reg (tq 9 (.faddr 4 (.t 2)) (tq 10 (.load 1 false (.t 9)) (tm 11 (.t 1) (tq 12 (.call 103 [(.t 10),(.t 11)]) (tm 1 (.t 12) .done))))))
 (.seq (.reg (tm 13 (.t 1) (tm 4 (.t 13) .done)))
 .ret))))
theorem e3m:a1b Tryz.prog Tryz.f28 = some (e1k.erase,[.mov (.t 4)],14):=by kernel_rfl
def b0l (A:y8) (E:Int):Option (Int × y8) :=
    (a5y A.Keys E).bind fun B =>
    (a5n FUEL A.Items B.1).bind fun D =>
    some (D.1,(⟨A.Kind,A.N,A.T,B.2,D.2⟩:y8))
theorem c5h (A:y8) (E:Int) (r:(Int × y8)) (hf:b0l A E = some r):a0z Tryz.prog ⟨true,true,false⟩ 28 [(.agg [(.I A.Kind),(.I A.N),(.str A.T),(.own 0 0 A.Keys.length),(.own 1 0 A.Items.length)]),(.I E)] [.row 1 (A.Keys.map AV.str),.row 5 (A.Items.map l9)] (.I r.1) [.row 1 (r.2.Keys.map AV.str),.row 5 (r.2.Items.map l9)]:=by
 refine a0z.of_awp mixed Tryz.func28 e3m nle ?_;rw [a0l];unfold b0l at hf;unfold e1k;refine (show awp Tryz.prog ⟨true,true,false⟩ 2 _ (ofL [(0,(.agg [(.I A.Kind),(.I A.N),(.str A.T),(.own 0 0 A.Keys.length),(.own 1 0 A.Items.length)])),(1,(.I E))]) [.row 1 (A.Keys.map AV.str),.row 5 (A.Items.map l9)] _ from ?_);refine sr<|y7 (a1i (j:=2) (c:=(.agg [(.I A.Kind),(.I A.N),(.str A.T),(.own 0 0 A.Keys.length),(.own 1 0 A.Items.length)])) rfl tr rfl rfl)<|l7 (.I 0) rfl<|dk<|sr<|?_
 obtain ⟨B,er4,hf⟩:=ob hf
 refine o7 (.ptr 2 0 3) rfl (.of tr tr) rfl<|o7 (.own 0 0 A.Keys.length) rfl (.of nle tr) rfl<|l7 (.I E) rfl<|?_;refine a1a (b4f (v:=(.I B.1)) (h2:=[.row 1 (B.2.map AV.str),.row 5 (A.Items.map l9),.box 5 (.agg [(.I A.Kind),(.I A.N),(.str A.T),(.own 0 0 A.Keys.length),(.own 1 0 A.Items.length)])]) [] [0] (fun _ => rfl) (b0t _ _ _ er4) rfl .r .r rfl rfl) fun hl5 => ?_;refine l7 (.I B.1) rfl<|dk<|sr<|?_
 obtain ⟨D,er7,hf⟩:=ob hf
 refine o7 (.ptr 2 0 4) rfl (.of tr tr) rfl<|o7 (.own 1 0 A.Items.length) rfl (.of nle tr) rfl<|l7 (.I B.1) rfl<|?_;refine a1a (b4f (v:=(.I D.1)) (h2:=[.row 1 (B.2.map AV.str),.row 5 (D.2.map l9),.box 5 (.agg [(.I A.Kind),(.I A.N),(.str A.T),(.own 0 0 A.Keys.length),(.own 1 0 A.Items.length)])]) [] [1] (fun _ => rfl) (b5m FUEL _ _ _ er7) rfl .r .r rfl rfl) fun hl8 => ?_;refine l7 (.I D.1) rfl<|dk<|sr<|l7 (.I D.1) rfl<|l7 (.I D.1) rfl<|dk<|a0d<|?_;obtain rfl:=os hf;exact a4p [] [0,1] rfl ⟨.of tr tr,tr⟩ rfl .r .r
def d7p:a0q :=
 (.seq (.reg (tm 4 (.c (.int .i64 0)) .done))
 (.seq (.seq (.reg (tm 5 (.c (.int .i64 0)) .done))
 (.block 0 (.loop (.seq (.seq (.reg (tm 6 (.t 5) (tm 7 (.t 0) (tq 8 (.len (.t 7)) (tq 9 (.bin .lss (.t 6) (.t 8)) .done)))))
 (.cond (.t 9) .skip
 (.exit 0)))
 (.seq (.block 1 (.seq (.reg (tm 12 (.t 0) (tm 13 (.t 5) (tm 14 (.t 1) (tq 15 (.iaddr 3 (.t 12) (.t 13)) (tq 16 (.faddr 0 (.t 15)) (.q ⟨none,none,.store 1 (.t 16) (.t 14)⟩
 .done)))))))
 (.seq (.reg (tm 17 (.t 1) (tq 18 (.bin .add (.t 17) (.c (.int .i64 1))) (tm 1 (.t 18) .done))))
 (.seq (.reg (tm 19 (.t 0) (tm 20 (.t 5) (tm 21 (.t 1) (tq 22 (.iaddr 3 (.t 19) (.t 20)) (tq 23 (.faddr 1 (.t 22)) (.q ⟨none,none,.store 1 (.t 23) (.t 21)⟩
 .done)))))))
 (.seq (.reg (tm 24 (.t 1) (tq 25 (.bin .add (.t 24) (.c (.int .i64 1))) (tm 1 (.t 25) .done))))
 (.seq (.reg (tm 26 (.t 0) (tm 27 (.t 5) (tm 28 (.t 1) (tq 29 (.call 101 [(.t 28)]) (tq 30 (.iaddr 3 (.t 26) (.t 27)) (tq 31 (.faddr 2 (.t 30)) (.q ⟨none,none,.store 1 (.t 31) (.t 29)⟩
 .done))))))))
 (.reg (tm 32 (.t 1) (tq 33 (.bin .add (.t 32) (.c (.int .i64 1))) (tm 1 (.t 33) .done))))))))))
 (.reg (tm 10 (.t 5) (tq 11 (.bin .add (.t 10) (.c (.int .i64 1))) (tm 5 (.t 11) .done)))))))))
 (.cut (.seq (.reg (tm 34 (.t 1) (tm 4 (.t 34) .done)))
 .ret))))
theorem e1l:a1b Tryz.prog Tryz.f202 = some (d7p.erase,[.mov (.t 4)],35):=by kernel_rfl
def a3x :Nat → Int → Int → (List a0g) → Option (Int × (List a0g))
  | 0,_,_,_ => none
  | k + 1,A,B,D =>
    if (decide (B < (D.length:Int))) then
    if (0:Int) ≤ B ∧ B < (D.length:Int) then
    (D[(0 + B.toNat)]?).bind fun E =>
    if (0:Int) ≤ B ∧ B < (D.length:Int) then
    (a3o (w64 ((w64 (A + 1)) + 1))).bind fun G =>
    if (0:Int) ≤ B ∧ B < (D.length:Int) then
    a3x k (w64 ((w64 ((w64 (A + 1)) + 1)) + 1)) (w64 (B + 1)) (((D.set (0 + B.toNat) (⟨A,E.N,E.T⟩:a0g)).set (0 + B.toNat) (⟨A,w64 (A + 1),E.T⟩:a0g)).set (0 + B.toNat) (⟨A,w64 (A + 1),G⟩:a0g))
    else none
    else none
    else none
    else
    some (A,D)
def a9t (F:(List a0g)) (H:Int):Option (Int × (List a0g)) :=
    (a3x FUEL H 0 F).bind fun p72 =>
    (match p72 with
    | (J,K) =>
    some (J,K))
theorem c3q (F:(List a0g)) (H:Int) (r:(Int × (List a0g))) (hf:a9t F H = some r):a0z Tryz.prog ⟨true,true,false⟩ 202 [(.own 0 0 F.length),(.I H)] [.row 3 (F.map o5)] (.I r.1) [.row 3 (r.2.map o5)]:=by
 refine a0z.of_awp mixed Tryz.func202 e1l nle ?_;rw [a0l];unfold a9t at hf;unfold d7p;refine (show awp Tryz.prog ⟨true,true,false⟩ 1 _ (ofL [(0,(.own 0 0 F.length)),(1,(.I H))]) [.row 3 (F.map o5)] _ from ?_);refine sr<|l7 (.I 0) rfl<|dk<|o6<|sr<|l7 (.I 0) rfl<|dk<|?_
 obtain ⟨p72,hb1,hf⟩:=ob hf
 refine a2d ([(1,(.I p72.1))],[.row 3 (p72.2.map o5)]) ?_ ?_
 ·refine a1h (X:={q:(Nat × Int × Int × (List a0g)) // a3x q.1 q.2.1 q.2.2.1 q.2.2.2 = some p72}) (fun q => ([(0,(.own 0 0 q.1.2.2.2.length)),(1,(.I q.1.2.1)),(5,(.I q.1.2.2.1))],[.row 3 (q.1.2.2.2.map o5)])) (fun q => q.1.1) ⟨(FUEL,H,0,F),hb1⟩ ⟨[],[0],_,_,rfl,rfl,⟨.r,⟨.r,⟨.r,tr⟩⟩⟩,.r⟩ ?_
  rintro ⟨⟨k,A,B,D⟩,hc1⟩
  have hc1:a3x k A B D = some p72:=hc1
  refine (show awp Tryz.prog ⟨true,true,false⟩ 1 _ (ofL [(0,(.own 0 0 D.length)),(1,(.I A)),(5,(.I B))]) [.row 3 (D.map o5)] _ from ?_)
  rcases k with _ | k
  ·rw [a3x.eq_1] at hc1
   cases hc1
  ·rw [a3x.eq_2] at hc1;refine o6<|sr<|l7 (.I B) rfl<|l7 (.own 0 0 D.length) rfl<|a1a (a8p rfl rfl) fun hl73 => o7 (.bool (decide (B < (D.length:Int)))) rfl (.of rfl tr) rfl<|dk<|?_
   rcases oi hc1 with ⟨c74,hc1⟩ | ⟨c74,hc1⟩
   ·refine x9 rfl c74<|a0h<|a0j<|o6<|a2y<|sr<|?_
    obtain ⟨g75,hc1⟩:=og hc1
    obtain ⟨E,ex77,hc1⟩:=ob hc1
    refine l7 (.own 0 0 D.length) rfl<|l7 (.I B) rfl<|l7 (.I A) rfl<|y7 (a2x rfl rfl g75.1 g75.2 rfl rfl)<|o7 (.ptr 0 (0 + B.toNat) 0) rfl (.of tr tr) rfl<|?_;refine a1k (a7n (v':=(.I A)) (e':=(⟨A,E.N,E.T⟩:a0g)) rfl rfl ex77 rfl rfl rfl (by decide) (fun _ => by decide) ⟨rfl,nle⟩ .r rfl) ?_;refine dk<|sr<|l7 (.I A) rfl<|o7 (.I (w64 (A + 1))) rfl (.of rfl tr) rfl<|l7 (.I (w64 (A + 1))) rfl<|dk<|sr<|?_
    obtain ⟨g78,hc1⟩:=og hc1
    refine l7 (.own 0 0 D.length) rfl<|l7 (.I B) rfl<|l7 (.I (w64 (A + 1))) rfl<|y7 (a2x rfl rfl g78.1 g78.2 rfl rfl)<|o7 (.ptr 0 (0 + B.toNat) 1) rfl (.of tr tr) rfl<|?_;refine a1k (a7n (v':=(.I (w64 (A + 1)))) (e':=(⟨A,w64 (A + 1),E.T⟩:a0g)) rfl rfl (a4l ex77) rfl rfl rfl (by decide) (fun _ => by decide) ⟨rfl,nle⟩ .r rfl) ?_;refine dk<|sr<|l7 (.I (w64 (A + 1))) rfl<|o7 (.I (w64 ((w64 (A + 1)) + 1))) rfl (.of rfl tr) rfl<|l7 (.I (w64 ((w64 (A + 1)) + 1))) rfl<|dk<|sr<|?_
    obtain ⟨G,er80,hc1⟩:=ob hc1
    obtain ⟨g81,hc1⟩:=og hc1
    refine l7 (.own 0 0 D.length) rfl<|l7 (.I B) rfl<|l7 (.I (w64 ((w64 (A + 1)) + 1))) rfl<|y7 (a0p (a6m _ _ er80) rfl .r rfl)<|y7 (a2x rfl rfl g81.1 g81.2 rfl rfl)<|o7 (.ptr 0 (0 + B.toNat) 2) rfl (.of tr tr) rfl<|?_;refine a1k (a7n (v':=(.str G)) (e':=(⟨A,w64 (A + 1),G⟩:a0g)) rfl rfl (a4l (a4l ex77)) rfl rfl rfl (by decide) (fun _ => by decide) ⟨rfl,nle⟩ .r rfl) ?_;refine dk<|a0t<|l7 (.I (w64 ((w64 (A + 1)) + 1))) rfl<|o7 (.I (w64 ((w64 ((w64 (A + 1)) + 1)) + 1))) rfl (.of rfl tr) rfl<|l7 (.I (w64 ((w64 ((w64 (A + 1)) + 1)) + 1))) rfl<|?_
    refine a0e<|a1v<|a0j<|a0t<|l7 (.I B) rfl<|o7 (.I (w64 (B + 1))) rfl (.of rfl tr) rfl<|l7 (.I (w64 (B + 1))) rfl<|a0e<|?_;exact a1p ⟨(k,w64 ((w64 ((w64 (A + 1)) + 1)) + 1),w64 (B + 1),((D.set (0 + B.toNat) (⟨A,E.N,E.T⟩:a0g)).set (0 + B.toNat) (⟨A,w64 (A + 1),E.T⟩:a0g)).set (0 + B.toNat) (⟨A,w64 (A + 1),G⟩:a0g)),hc1⟩ (Nat.lt_succ_self _) ⟨[],[0],_,_,rfl,rfl,⟨.of_eq (congrArg (AV.own _ 0) (by simp)),⟨.r,⟨.r,tr⟩⟩⟩,.r⟩
   ·refine x8 rfl (bf c74)<|a2o<|a2n<|a1s<|a2m<|?_;obtain rfl:=os hc1;exact ⟨[],[0],_,_,rfl,rfl,⟨.r,tr⟩,.r⟩
 ·obtain ⟨J,K⟩:=p72
  refine sr<|l7 (.I J) rfl<|l7 (.I J) rfl<|dk<|a0d<|?_;obtain rfl:=os hf;exact a4p [] [0] rfl ⟨.of tr tr,tr⟩ rfl .r .r
def d7q:a0q :=
 (.seq (.reg (tm 4 (.c (.int .i64 0)) .done))
 (.seq (.seq (.reg (tm 5 (.c (.int .i64 0)) .done))
 (.block 0 (.loop (.seq (.seq (.reg (tm 6 (.t 5) (tm 7 (.t 0) (tq 8 (.len (.t 7)) (tq 9 (.bin .lss (.t 6) (.t 8)) .done)))))
 (.cond (.t 9) .skip
 (.exit 0)))
 (.seq (.block 1 (.seq (.reg (tm 12 (.t 0) (tm 13 (.t 5) (tm 14 (.t 1) (tq 15 (.call 101 [(.t 14)]) (tq 16 (.iaddr 3 (.t 12) (.t 13)) (tq 17 (.faddr 0 (.t 16)) (.q ⟨none,none,.store 1 (.t 17) (.t 15)⟩
 .done))))))))
 (.seq (.reg (tm 18 (.t 1) (tq 19 (.bin .add (.t 18) (.c (.int .i64 1))) (tm 1 (.t 19) .done))))
 (.seq (.reg (tm 20 (.t 0) (tm 21 (.t 5) (tm 22 (.t 1) (tq 23 (.iaddr 3 (.t 20) (.t 21)) (tq 24 (.faddr 1 (.t 23)) (.q ⟨none,none,.store 1 (.t 24) (.t 22)⟩
 .done)))))))
 (.seq (.reg (tm 25 (.t 1) (tq 26 (.bin .add (.t 25) (.c (.int .i64 1))) (tm 1 (.t 26) .done))))
 (.rev (.reg (tm 27 (.t 0) (tm 28 (.t 5) (tq 29 (.iaddr 3 (.t 27) (.t 28)) (tq 30 (.faddr 2 (.t 29)) (tq 31 (.load 1 false (.t 30)) (tm 32 (.t 1) (tq 33 (.call 202 [(.t 31),(.t 32)]) (tm 1 (.t 33) .done)))))))))))))))
 (.reg (tm 10 (.t 5) (tq 11 (.bin .add (.t 10) (.c (.int .i64 1))) (tm 5 (.t 11) .done)))))))))
 (.cut (.seq (.reg (tm 34 (.t 1) (tm 4 (.t 34) .done)))
 .ret))))
theorem e1m:a1b Tryz.prog Tryz.f160 = some (d7q.erase,[.mov (.t 4)],35):=by kernel_rfl
def a3y :Nat → Int → Int → (List a0m) → Option (Int × (List a0m))
  | 0,_,_,_ => none
  | k + 1,B,A,E =>
    if (decide (A < (E.length:Int))) then
    (a3o B).bind fun F =>
    if (0:Int) ≤ A ∧ A < (E.length:Int) then
    (E[(0 + A.toNat)]?).bind fun D =>
    if (0:Int) ≤ A ∧ A < (E.length:Int) then
    if (0:Int) ≤ A ∧ A < (E.length:Int) then
    (a9t D.Value (w64 ((w64 (B + 1)) + 1))).bind fun G =>
    a3y k G.1 (w64 (A + 1)) (((E.set (0 + A.toNat) (⟨F,D.Func,D.Value⟩:a0m)).set (0 + A.toNat) (⟨F,w64 (B + 1),D.Value⟩:a0m)).set (0 + A.toNat) (⟨F,w64 (B + 1),G.2⟩:a0m))
    else none
    else none
    else none
    else
    some (B,E)
def a9u (H:(List a0m)) (J:Int):Option (Int × (List a0m)) :=
    (a3y FUEL J 0 H).bind fun p96 =>
    (match p96 with
    | (K,L) =>
    some (K,L))
theorem c3r (H:(List a0m)) (J:Int) (r:(Int × (List a0m))) (hf:a9u H J = some r):a0z Tryz.prog ⟨true,true,false⟩ 160 [(.own 0 0 H.length),(.I J)] [.row 3 (H.map o8)] (.I r.1) [.row 3 (r.2.map o8)]:=by
 refine a0z.of_awp mixed Tryz.func160 e1m nle ?_;rw [a0l];unfold a9u at hf;unfold d7q;refine (show awp Tryz.prog ⟨true,true,false⟩ 1 _ (ofL [(0,(.own 0 0 H.length)),(1,(.I J))]) [.row 3 (H.map o8)] _ from ?_);refine sr<|l7 (.I 0) rfl<|dk<|o6<|sr<|l7 (.I 0) rfl<|dk<|?_
 obtain ⟨p96,hb1,hf⟩:=ob hf
 refine a2d ([(1,(.I p96.1))],[.row 3 (p96.2.map o8)]) ?_ ?_
 ·refine a1h (X:={q:(Nat × Int × Int × (List a0m)) // a3y q.1 q.2.1 q.2.2.1 q.2.2.2 = some p96}) (fun q => ([(0,(.own 0 0 q.1.2.2.2.length)),(1,(.I q.1.2.1)),(5,(.I q.1.2.2.1))],[.row 3 (q.1.2.2.2.map o8)])) (fun q => q.1.1) ⟨(FUEL,J,0,H),hb1⟩ ⟨[],[0],_,_,rfl,rfl,⟨.r,⟨.r,⟨.r,tr⟩⟩⟩,.r⟩ ?_
  rintro ⟨⟨k,B,A,E⟩,hc1⟩
  have hc1:a3y k B A E = some p96:=hc1
  refine (show awp Tryz.prog ⟨true,true,false⟩ 1 _ (ofL [(0,(.own 0 0 E.length)),(1,(.I B)),(5,(.I A))]) [.row 3 (E.map o8)] _ from ?_)
  rcases k with _ | k
  ·rw [a3y.eq_1] at hc1
   cases hc1
  ·rw [a3y.eq_2] at hc1;refine o6<|sr<|l7 (.I A) rfl<|l7 (.own 0 0 E.length) rfl<|a1a (a8p rfl rfl) fun hl97 => o7 (.bool (decide (A < (E.length:Int)))) rfl (.of rfl tr) rfl<|dk<|?_
   rcases oi hc1 with ⟨c98,hc1⟩ | ⟨c98,hc1⟩
   ·refine x9 rfl c98<|a0h<|a0j<|o6<|a2y<|sr<|?_
    obtain ⟨F,er100,hc1⟩:=ob hc1
    obtain ⟨g101,hc1⟩:=og hc1
    obtain ⟨D,ex103,hc1⟩:=ob hc1
    refine l7 (.own 0 0 E.length) rfl<|l7 (.I A) rfl<|l7 (.I B) rfl<|y7 (a0p (a6m _ _ er100) rfl .r rfl)<|y7 (a2x rfl rfl g101.1 g101.2 rfl rfl)<|o7 (.ptr 0 (0 + A.toNat) 0) rfl (.of tr tr) rfl<|?_;refine a1k (a7n (v':=(.str F)) (e':=(⟨F,D.Func,D.Value⟩:a0m)) rfl rfl ex103 rfl rfl rfl (by decide) (fun _ => by decide) ⟨rfl,nle⟩ .r rfl) ?_;refine dk<|sr<|l7 (.I B) rfl<|o7 (.I (w64 (B + 1))) rfl (.of rfl tr) rfl<|l7 (.I (w64 (B + 1))) rfl<|dk<|sr<|?_
    obtain ⟨g104,hc1⟩:=og hc1
    refine l7 (.own 0 0 E.length) rfl<|l7 (.I A) rfl<|l7 (.I (w64 (B + 1))) rfl<|y7 (a2x rfl rfl g104.1 g104.2 rfl rfl)<|o7 (.ptr 0 (0 + A.toNat) 1) rfl (.of tr tr) rfl<|?_;refine a1k (a7n (v':=(.I (w64 (B + 1)))) (e':=(⟨F,w64 (B + 1),D.Value⟩:a0m)) rfl rfl (a4l ex103) rfl rfl rfl (by decide) (fun _ => by decide) ⟨rfl,nle⟩ .r rfl) ?_;refine dk<|sr<|l7 (.I (w64 (B + 1))) rfl<|o7 (.I (w64 ((w64 (B + 1)) + 1))) rfl (.of rfl tr) rfl<|l7 (.I (w64 ((w64 (B + 1)) + 1))) rfl<|dk<|?_;refine e0q (o:=0) (f:=2) (l':=D.Value) (enc':=o5) (el:=(.agg [(.str F),(.I (w64 (B + 1))),(.lst 3 (D.Value.map o5))])) rfl (a4l (a4l ex103)) rfl rfl fun M => ?_
    refine a0t ?_
    obtain ⟨g107,hc1⟩:=og hc1
    obtain ⟨G,er109,hc1⟩:=ob hc1
    refine l7 (.own 0 0 E.length) rfl<|l7 (.I A) rfl<|y7 (a2x rfl rfl g107.1 g107.2 rfl rfl)<|o7 (.ptr 0 (0 + A.toNat) 2) rfl (.of tr tr) rfl<|y7 (c3f rfl rfl (d1m (a4l (a4l ex103))) nle rfl)<|l7 (.I (w64 ((w64 (B + 1)) + 1))) rfl<|y7 (d1n (o:=0) (l:=((E.set (0 + A.toNat) (⟨F,D.Func,D.Value⟩:a0m)).set (0 + A.toNat) (⟨F,w64 (B + 1),D.Value⟩:a0m))) (enc:=o8) (enc':=o5) (l'':=G.2) (y:=(⟨F,w64 (B + 1),G.2⟩:a0m)) (j:=2) (el:=(.agg [(.str F),(.I (w64 (B + 1))),(.hdr M 3 (D.Value.map o5))])) rfl rfl (c3q _ _ _ er109) rfl rfl (a4l (a4l ex103)) rfl (by decide) rfl)<|?_
    refine l7 (.I G.1) rfl<|a0e<|a1v<|a0j<|a0t<|l7 (.I A) rfl<|o7 (.I (w64 (A + 1))) rfl (.of rfl tr) rfl<|l7 (.I (w64 (A + 1))) rfl<|a0e<|?_;exact a1p ⟨(k,G.1,w64 (A + 1),((E.set (0 + A.toNat) (⟨F,D.Func,D.Value⟩:a0m)).set (0 + A.toNat) (⟨F,w64 (B + 1),D.Value⟩:a0m)).set (0 + A.toNat) (⟨F,w64 (B + 1),G.2⟩:a0m)),hc1⟩ (Nat.lt_succ_self _) ⟨[],[0],_,_,rfl,rfl,⟨.of_eq (congrArg (AV.own _ 0) (by simp)),⟨.r,⟨.r,tr⟩⟩⟩,.r⟩
   ·refine x8 rfl (bf c98)<|a2o<|a2n<|a1s<|a2m<|?_;obtain rfl:=os hc1;exact ⟨[],[0],_,_,rfl,rfl,⟨.r,tr⟩,.r⟩
 ·obtain ⟨K,L⟩:=p96
  refine sr<|l7 (.I K) rfl<|l7 (.I K) rfl<|dk<|a0d<|?_;obtain rfl:=os hf;exact a4p [] [0] rfl ⟨.of tr tr,tr⟩ rfl .r .r
def e1n:a0q :=
 (.seq (.reg (tq 2 (.box 8 (.t 0)) (tm 4 (.c (.int .i64 0)) .done)))
 (.seq (.reg (tq 5 (.faddr 2 (.t 2)) (tq 6 (.load 1 false (.t 5)) (tm 7 (.t 1) (tq 8 (.call 26 [(.t 6),(.t 7)]) (tm 1 (.t 8) .done))))))
 (.seq (.reg (tq 9 (.faddr 7 (.t 2)) (tq 10 (.load 1 false (.t 9)) (tm 11 (.t 1) (tq 12 (.call 160 [(.t 10),(.t 11)]) (tm 1 (.t 12) .done))))))
 (.seq (.reg (tm 13 (.t 1) (tm 4 (.t 13) .done)))
 .ret))))
theorem e3n:a1b Tryz.prog Tryz.f70 = some (e1n.erase,[.mov (.t 4)],14):=by kernel_rfl
def a8g (A:a0k) (E:Int):Option (Int × a0k) :=
    (a5y A.Columns E).bind fun B =>
    (a9u A.Where B.1).bind fun D =>
    some (D.1,(⟨A.Name,A.Table,B.2,A.Initial,A.Insert,A.Delete,A.Modify,D.2⟩:a0k))
theorem c0k (A:a0k) (E:Int) (r:(Int × a0k)) (hf:a8g A E = some r):a0z Tryz.prog ⟨true,true,false⟩ 70 [(.agg [(.str A.Name),(.str A.Table),(.own 0 0 A.Columns.length),(.bool A.Initial),(.bool A.Insert),(.bool A.Delete),(.bool A.Modify),(.own 1 0 A.Where.length)]),(.I E)] [.row 1 (A.Columns.map AV.str),.row 3 (A.Where.map o8)] (.I r.1) [.row 1 (r.2.Columns.map AV.str),.row 3 (r.2.Where.map o8)]:=by
 refine a0z.of_awp mixed Tryz.func70 e3n nle ?_;rw [a0l];unfold a8g at hf;unfold e1n;refine (show awp Tryz.prog ⟨true,true,false⟩ 2 _ (ofL [(0,(.agg [(.str A.Name),(.str A.Table),(.own 0 0 A.Columns.length),(.bool A.Initial),(.bool A.Insert),(.bool A.Delete),(.bool A.Modify),(.own 1 0 A.Where.length)])),(1,(.I E))]) [.row 1 (A.Columns.map AV.str),.row 3 (A.Where.map o8)] _ from ?_);refine sr<|y7 (a1i (j:=2) (c:=(.agg [(.str A.Name),(.str A.Table),(.own 0 0 A.Columns.length),(.bool A.Initial),(.bool A.Insert),(.bool A.Delete),(.bool A.Modify),(.own 1 0 A.Where.length)])) rfl tr rfl rfl)<|l7 (.I 0) rfl<|?_
 refine dk<|sr<|?_
 obtain ⟨B,er4,hf⟩:=ob hf
 refine o7 (.ptr 2 0 2) rfl (.of tr tr) rfl<|o7 (.own 0 0 A.Columns.length) rfl (.of nle tr) rfl<|l7 (.I E) rfl<|?_;refine a1a (b4f (v:=(.I B.1)) (h2:=[.row 1 (B.2.map AV.str),.row 3 (A.Where.map o8),.box 8 (.agg [(.str A.Name),(.str A.Table),(.own 0 0 A.Columns.length),(.bool A.Initial),(.bool A.Insert),(.bool A.Delete),(.bool A.Modify),(.own 1 0 A.Where.length)])]) [] [0] (fun _ => rfl) (b0t _ _ _ er4) rfl .r .r rfl rfl) fun hl5 => ?_;refine l7 (.I B.1) rfl<|dk<|sr<|?_
 obtain ⟨D,er7,hf⟩:=ob hf
 refine o7 (.ptr 2 0 7) rfl (.of tr tr) rfl<|o7 (.own 1 0 A.Where.length) rfl (.of nle tr) rfl<|l7 (.I B.1) rfl<|?_;refine a1a (b4f (v:=(.I D.1)) (h2:=[.row 1 (B.2.map AV.str),.row 3 (D.2.map o8),.box 8 (.agg [(.str A.Name),(.str A.Table),(.own 0 0 A.Columns.length),(.bool A.Initial),(.bool A.Insert),(.bool A.Delete),(.bool A.Modify),(.own 1 0 A.Where.length)])]) [] [1] (fun _ => rfl) (c3r _ _ _ er7) rfl .r .r rfl rfl) fun hl8 => ?_;refine l7 (.I D.1) rfl<|dk<|sr<|l7 (.I D.1) rfl<|l7 (.I D.1) rfl<|dk<|a0d<|?_;obtain rfl:=os hf
 exact a4p [] [0,1] rfl ⟨.of tr tr,tr⟩ rfl .r .r
def f0x:a0q :=
 (.seq (.reg (tm 4 (.c (.int .i64 0)) .done))
 (.seq (.seq (.reg (tm 5 (.c (.int .i64 0)) .done))
 (.block 0 (.loop (.seq (.seq (.reg (tm 6 (.t 5) (tm 7 (.t 0) (tq 8 (.len (.t 7)) (tq 9 (.bin .lss (.t 6) (.t 8)) .done)))))
 (.cond (.t 9) .skip
 (.exit 0)))
 (.seq (.block 1 (.seq (.seq (.reg (tm 12 (.t 0) (tm 13 (.t 5) (tq 14 (.iaddr 1 (.t 12) (.t 13)) (tq 15 (.load 1 false (.t 14)) (tm 16 (.t 1) (.l ⟨(some 17),none,.call 101 [(.t 16)]⟩ [⟨(some 15),none,.load 1 false (.t 14)⟩,⟨(some 14),none,.iaddr 1 (.t 12) (.t 13)⟩]
 (tq 18 (.bin .neq (.t 15) (.t 17)) .done) .non)))))))
 (.cond (.t 18) (.seq (.reg (tq 4 (.mov (.c (.int .i64 (-1)))) .done))
 .ret)
 .skip))
 (.reg (tm 19 (.t 1) (tq 20 (.bin .add (.t 19) (.c (.int .i64 1))) (tm 1 (.t 20) .done))))))
 (.reg (tm 10 (.t 5) (tq 11 (.bin .add (.t 10) (.c (.int .i64 1))) (tm 5 (.t 11) .done)))))))))
 (.cut (.seq (.reg (tm 21 (.t 1) (tm 4 (.t 21) .done)))
 .ret))))
theorem f0y:a1b Tryz.prog Tryz.f104 = some (f0x.erase,[.mov (.t 4)],22):=by kernel_rfl
def a3h :List Str → Int → Option (Fl Int Int)
  | [],A =>
    some (.go A)
  | F :: xs,A =>
    (a3o A).bind fun H =>
    if (!(F == H)) then
    some (.ret (-1))
    else
    a3h xs (w64 (A + 1)) 
def a8h (D:(List Str)) (E:Int):Option Int :=
    (a3h D E).bind fun q => (match q with
    | .ret r => some r
    | .go G =>
    some G)
theorem c0l (D:(List Str)) (E:Int) (r:Int) (hf:a8h D E = some r):a0a Tryz.prog 104 .flat [(.lst 1 (D.map AV.str)),(.I E)] (.I r):=by
 refine a0a.of_awp mixed Tryz.func104 f0y nle ?_;rw [a0l];unfold a8h at hf;unfold f0x;refine (show awp Tryz.prog false 0 _ (ofL [(0,(.lst 1 (D.map AV.str))),(1,(.I E))]) [] _ from ?_);refine sr<|l7 (.I 0) rfl<|dk<|o6<|sr<|l7 (.I 0) rfl<|dk<|?_
 obtain ⟨p30,hb1,hf⟩:=ob hf
 refine a1u (X:={q:Int // p30 = .go q}) (fun q => ([(1,(.I q.1))],[])) ?_ ?_
 ·refine a1h (X:={q:(Int × Nat) // a3h (D.drop q.2) q.1 = some p30}) (fun q => ([(0,(.lst 1 (D.map AV.str))),(1,(.I q.1.1)),(5,(.I (q.1.2:Int)))],[])) (fun q => D.length - q.1.2) ⟨(E,0),hb1⟩ ⟨[],[],_,_,rfl,rfl,⟨.r,⟨.r,⟨.r,tr⟩⟩⟩,.r⟩ ?_
  rintro ⟨⟨A,B⟩,hc1⟩
  have hc1:a3h (D.drop B) A = some p30:=hc1
  refine (show awp Tryz.prog false 0 _ (ofL [(0,(.lst 1 (D.map AV.str))),(1,(.I A)),(5,(.I (B:Int)))]) [] _ from ?_)
  rcases a5j D B with ⟨hie33,hd36⟩ | ⟨hlt31,F,hx32,hd36⟩
  ·rw [hd36,a3h.eq_1] at hc1
   have hq35:=dlf hie33
   refine o6<|sr<|l7 (.I (B:Int)) rfl<|l7 (.lst 1 (D.map AV.str)) rfl<|a1a (a1t (enc:=AV.str) rfl) fun hl38 => o7 (.bool (decide ((B:Int) < (D.length:Int)))) rfl rfl rfl<|dk<|x8 rfl hq35<|a2o<|a2n<|a1s<|a2m<|?_;obtain rfl:=os hc1;exact a2s ⟨_,rfl⟩ ⟨[],[],_,_,rfl,rfl,⟨.r,tr⟩,.r⟩
  ·rw [hd36,a3h.eq_2] at hc1
   have hq35:=dlt hlt31
   refine o6<|sr<|l7 (.I (B:Int)) rfl<|l7 (.lst 1 (D.map AV.str)) rfl<|a1a (a1t (enc:=AV.str) rfl) fun hl39 => o7 (.bool (decide ((B:Int) < (D.length:Int)))) rfl rfl rfl<|dk<|x9 rfl hq35<|a0h<|a0j<|o6<|a2y<|o6<|sr<|?_
   obtain ⟨H,er41,hc1⟩:=ob hc1
   refine l7 (.lst 1 (D.map AV.str)) rfl<|l7 (.I (B:Int)) rfl<|y7 (a1m (enc:=AV.str) rfl rfl hx32)<|o7 (.str F) rfl ⟨rfl,rfl⟩ rfl<|l7 (.I A) rfl<|a2e (a0p (a6m _ _ er41) rfl .r rfl) a2j tr<|o7 (.bool (!(F == H))) rfl tr rfl<|dk<|?_
   rcases oi hc1 with ⟨c42,hc1⟩ | ⟨c42,hc1⟩
   ·refine x9 rfl c42<|sr<|l7 (.I (-1)) rfl<|dk<|a0d<|?_;obtain rfl:=os hc1;obtain rfl:=os hf;exact a0f ⟨tr,tr⟩ rfl .r
   ·refine x8 rfl (bf c42)<|a0h<|a0j<|a0t<|l7 (.I A) rfl<|o7 (.I (w64 (A + 1))) rfl rfl rfl<|l7 (.I (w64 (A + 1))) rfl<|a0e<|a1v<|a0j<|a0t<|l7 (.I (B:Int)) rfl<|o7 (.I (w64 ((B:Int) + 1))) rfl rfl rfl<|l7 (.I (w64 ((B:Int) + 1))) rfl<|a0e<|?_;exact a1p ⟨(w64 (A + 1),(B + 1)),hc1⟩ (mul hlt31) ⟨[],[],_,_,rfl,rfl,⟨.r,⟨.r,⟨.of_eq (congrArg (AV.int _) (a1r hlt31 hl39)),tr⟩⟩⟩,.r⟩
 ·rintro ⟨G,rfl⟩
  refine sr<|l7 (.I G) rfl<|l7 (.I G) rfl<|dk<|a0d<|?_;obtain rfl:=os hf;exact a0f ⟨tr,tr⟩ rfl .r
def f0z:a0q :=
 (.seq (.reg (tm 4 (.c (.int .i64 0)) .done))
 (.seq (.seq (.reg (tm 5 (.c (.int .i64 0)) .done))
 (.block 0 (.loop (.seq (.seq (.reg (tm 6 (.t 5) (tm 7 (.t 0) (tq 8 (.len (.t 7)) (tq 9 (.bin .lss (.t 6) (.t 8)) .done)))))
 (.cond (.t 9) .skip
 (.exit 0)))
 (.seq (.block 1 (.seq (.seq (.reg (tm 12 (.t 0) (tm 13 (.t 5) (tq 14 (.iaddr 3 (.t 12) (.t 13)) (tq 15 (.faddr 0 (.t 14)) (tq 16 (.load 1 false (.t 15)) (tm 17 (.t 1) (tq 18 (.bin .neq (.t 16) (.t 17)) .done))))))))
 (.cond (.t 18) (.seq (.reg (tq 4 (.mov (.c (.int .i64 (-1)))) .done))
 .ret)
 .skip))
 (.seq (.reg (tm 19 (.t 1) (tq 20 (.bin .add (.t 19) (.c (.int .i64 1))) (tm 1 (.t 20) .done))))
 (.seq (.seq (.reg (tm 21 (.t 0) (tm 22 (.t 5) (tq 23 (.iaddr 3 (.t 21) (.t 22)) (tq 24 (.faddr 1 (.t 23)) (tq 25 (.load 1 false (.t 24)) (tm 26 (.t 1) (tq 27 (.bin .neq (.t 25) (.t 26)) .done))))))))
 (.cond (.t 27) (.seq (.reg (tq 4 (.mov (.c (.int .i64 (-1)))) .done))
 .ret)
 .skip))
 (.seq (.reg (tm 28 (.t 1) (tq 29 (.bin .add (.t 28) (.c (.int .i64 1))) (tm 1 (.t 29) .done))))
 (.seq (.seq (.reg (tm 30 (.t 0) (tm 31 (.t 5) (tq 32 (.iaddr 3 (.t 30) (.t 31)) (tq 33 (.faddr 2 (.t 32)) (tq 34 (.load 1 false (.t 33)) (tm 35 (.t 1) (.l ⟨(some 36),none,.call 101 [(.t 35)]⟩ [⟨(some 34),none,.load 1 false (.t 33)⟩,⟨(some 33),none,.faddr 2 (.t 32)⟩,⟨(some 32),none,.iaddr 3 (.t 30) (.t 31)⟩]
 (tq 37 (.bin .neq (.t 34) (.t 36)) .done) .non))))))))
 (.cond (.t 37) (.seq (.reg (tq 4 (.mov (.c (.int .i64 (-1)))) .done))
 .ret)
 .skip))
 (.reg (tm 38 (.t 1) (tq 39 (.bin .add (.t 38) (.c (.int .i64 1))) (tm 1 (.t 39) .done))))))))))
 (.reg (tm 10 (.t 5) (tq 11 (.bin .add (.t 10) (.c (.int .i64 1))) (tm 5 (.t 11) .done)))))))))
 (.cut (.seq (.reg (tm 40 (.t 1) (tm 4 (.t 40) .done)))
 .ret))))
theorem f1b:a1b Tryz.prog Tryz.f260 = some (f0z.erase,[.mov (.t 4)],41):=by kernel_rfl
def a3z :List a0g → Int → Option (Fl Int Int)
  | [],A =>
    some (.go A)
  | E :: xs,A =>
    if (E.Kind != A) then
    some (.ret (-1))
    else
    if (E.N != w64 (A + 1)) then
    some (.ret (-1))
    else
    (a3o (w64 ((w64 (A + 1)) + 1))).bind fun H =>
    if (!(E.T == H)) then
    some (.ret (-1))
    else
    a3z xs (w64 ((w64 ((w64 (A + 1)) + 1)) + 1)) 
def a9v (D:(List a0g)) (F:Int):Option Int :=
    (a3z D F).bind fun q => (match q with
    | .ret r => some r
    | .go G =>
    some G)
theorem c3s (D:(List a0g)) (F:Int) (r:Int) (hf:a9v D F = some r):a0a Tryz.prog 260 .flat [(.lst 3 (D.map o5)),(.I F)] (.I r):=by
 refine a0a.of_awp mixed Tryz.func260 f1b nle ?_;rw [a0l];unfold a9v at hf;unfold f0z;refine (show awp Tryz.prog false 0 _ (ofL [(0,(.lst 3 (D.map o5))),(1,(.I F))]) [] _ from ?_);refine sr<|l7 (.I 0) rfl<|dk<|o6<|sr<|l7 (.I 0) rfl<|dk<|?_
 obtain ⟨p48,hb1,hf⟩:=ob hf
 refine a1u (X:={q:Int // p48 = .go q}) (fun q => ([(1,(.I q.1))],[])) ?_ ?_
 ·refine a1h (X:={q:(Int × Nat) // a3z (D.drop q.2) q.1 = some p48}) (fun q => ([(0,(.lst 3 (D.map o5))),(1,(.I q.1.1)),(5,(.I (q.1.2:Int)))],[])) (fun q => D.length - q.1.2) ⟨(F,0),hb1⟩ ⟨[],[],_,_,rfl,rfl,⟨.r,⟨.r,⟨.r,tr⟩⟩⟩,.r⟩ ?_
  rintro ⟨⟨A,B⟩,hc1⟩
  have hc1:a3z (D.drop B) A = some p48:=hc1
  refine (show awp Tryz.prog false 0 _ (ofL [(0,(.lst 3 (D.map o5))),(1,(.I A)),(5,(.I (B:Int)))]) [] _ from ?_)
  rcases a5j D B with ⟨hie51,hd54⟩ | ⟨hlt49,E,hx50,hd54⟩
  ·rw [hd54,a3z.eq_1] at hc1
   have hq53:=dlf hie51
   refine o6<|sr<|l7 (.I (B:Int)) rfl<|l7 (.lst 3 (D.map o5)) rfl<|a1a (a1t (enc:=o5) rfl) fun hl56 => o7 (.bool (decide ((B:Int) < (D.length:Int)))) rfl rfl rfl<|dk<|x8 rfl hq53<|a2o<|a2n<|a1s<|a2m<|?_;obtain rfl:=os hc1;exact a2s ⟨_,rfl⟩ ⟨[],[],_,_,rfl,rfl,⟨.r,tr⟩,.r⟩
  ·rw [hd54,a3z.eq_2] at hc1
   have hq53:=dlt hlt49
   refine o6<|sr<|l7 (.I (B:Int)) rfl<|l7 (.lst 3 (D.map o5)) rfl<|a1a (a1t (enc:=o5) rfl) fun hl57 => o7 (.bool (decide ((B:Int) < (D.length:Int)))) rfl rfl rfl<|dk<|x9 rfl hq53<|a0h<|a0j<|o6<|a2y<|o6<|sr<|l7 (.lst 3 (D.map o5)) rfl<|l7 (.I (B:Int)) rfl<|y7 (a1m (enc:=o5) rfl rfl hx50)<|o7 (.iptr (o5 E) 0) rfl tr rfl<|o7 (.I E.Kind) rfl nle rfl<|l7 (.I A) rfl<|o7 (.bool (E.Kind != A)) rfl rfl rfl<|dk<|?_
   rcases oi hc1 with ⟨c58,hc1⟩ | ⟨c58,hc1⟩
   ·refine x9 rfl c58<|sr<|l7 (.I (-1)) rfl<|dk<|a0d<|?_;obtain rfl:=os hc1;obtain rfl:=os hf;exact a0f ⟨tr,tr⟩ rfl .r
   ·refine x8 rfl (bf c58)<|a0h<|a0j<|sr<|l7 (.I A) rfl<|o7 (.I (w64 (A + 1))) rfl rfl rfl<|l7 (.I (w64 (A + 1))) rfl<|dk<|o6<|sr<|l7 (.lst 3 (D.map o5)) rfl<|l7 (.I (B:Int)) rfl<|y7 (a1m (enc:=o5) rfl rfl hx50)<|o7 (.iptr (o5 E) 1) rfl tr rfl<|o7 (.I E.N) rfl nle rfl<|l7 (.I (w64 (A + 1))) rfl<|o7 (.bool (E.N != w64 (A + 1))) rfl rfl rfl<|dk<|?_
    rcases oi hc1 with ⟨c59,hc1⟩ | ⟨c59,hc1⟩
    ·refine x9 rfl c59<|sr<|l7 (.I (-1)) rfl<|dk<|a0d<|?_;obtain rfl:=os hc1;obtain rfl:=os hf;exact a0f ⟨tr,tr⟩ rfl .r
    ·refine x8 rfl (bf c59)<|a0h<|a0j<|sr<|l7 (.I (w64 (A + 1))) rfl<|o7 (.I (w64 ((w64 (A + 1)) + 1))) rfl rfl rfl<|l7 (.I (w64 ((w64 (A + 1)) + 1))) rfl<|dk<|o6<|sr<|?_
     obtain ⟨H,er61,hc1⟩:=ob hc1
     refine l7 (.lst 3 (D.map o5)) rfl<|l7 (.I (B:Int)) rfl<|y7 (a1m (enc:=o5) rfl rfl hx50)<|o7 (.iptr (o5 E) 2) rfl tr rfl<|o7 (.str E.T) rfl nle rfl<|l7 (.I (w64 ((w64 (A + 1)) + 1))) rfl<|a2e (a0p (a6m _ _ er61) rfl .r rfl) a2j tr<|o7 (.bool (!(E.T == H))) rfl tr rfl<|dk<|?_
     rcases oi hc1 with ⟨c62,hc1⟩ | ⟨c62,hc1⟩
     ·refine x9 rfl c62<|sr<|l7 (.I (-1)) rfl<|dk<|a0d<|?_;obtain rfl:=os hc1;obtain rfl:=os hf;exact a0f ⟨tr,tr⟩ rfl .r
     ·refine x8 rfl (bf c62)<|a0h<|a0j<|a0t<|l7 (.I (w64 ((w64 (A + 1)) + 1))) rfl<|o7 (.I (w64 ((w64 ((w64 (A + 1)) + 1)) + 1))) rfl rfl rfl<|l7 (.I (w64 ((w64 ((w64 (A + 1)) + 1)) + 1))) rfl<|a0e<|a1v<|a0j<|a0t<|l7 (.I (B:Int)) rfl<|o7 (.I (w64 ((B:Int) + 1))) rfl rfl rfl<|l7 (.I (w64 ((B:Int) + 1))) rfl<|a0e<|?_;exact a1p ⟨(w64 ((w64 ((w64 (A + 1)) + 1)) + 1),(B + 1)),hc1⟩ (mul hlt49) ⟨[],[],_,_,rfl,rfl,⟨.r,⟨.r,⟨.of_eq (congrArg (AV.int _) (a1r hlt49 hl57)),tr⟩⟩⟩,.r⟩
 ·rintro ⟨G,rfl⟩
  refine sr<|l7 (.I G) rfl<|l7 (.I G) rfl<|dk<|a0d<|?_;obtain rfl:=os hf;exact a0f ⟨tr,tr⟩ rfl .r
def f1c:a0q :=
 (.seq (.reg (tm 4 (.c (.int .i64 0)) .done))
 (.seq (.seq (.reg (tm 5 (.c (.int .i64 0)) .done))
 (.block 0 (.loop (.seq (.seq (.reg (tm 6 (.t 5) (tm 7 (.t 0) (tq 8 (.len (.t 7)) (tq 9 (.bin .lss (.t 6) (.t 8)) .done)))))
 (.cond (.t 9) .skip
 (.exit 0)))
 (.seq (.block 1 (.seq (.seq (.reg (tm 12 (.t 0) (tm 13 (.t 5) (tq 14 (.iaddr 3 (.t 12) (.t 13)) (tq 15 (.faddr 0 (.t 14)) (tq 16 (.load 1 false (.t 15)) (tm 17 (.t 1) (.l ⟨(some 18),none,.call 101 [(.t 17)]⟩ [⟨(some 16),none,.load 1 false (.t 15)⟩,⟨(some 15),none,.faddr 0 (.t 14)⟩,⟨(some 14),none,.iaddr 3 (.t 12) (.t 13)⟩]
 (tq 19 (.bin .neq (.t 16) (.t 18)) .done) .non))))))))
 (.cond (.t 19) (.seq (.reg (tq 4 (.mov (.c (.int .i64 (-1)))) .done))
 .ret)
 .skip))
 (.seq (.reg (tm 20 (.t 1) (tq 21 (.bin .add (.t 20) (.c (.int .i64 1))) (tm 1 (.t 21) .done))))
 (.seq (.seq (.reg (tm 22 (.t 0) (tm 23 (.t 5) (tq 24 (.iaddr 3 (.t 22) (.t 23)) (tq 25 (.faddr 1 (.t 24)) (tq 26 (.load 1 false (.t 25)) (tm 27 (.t 1) (tq 28 (.bin .neq (.t 26) (.t 27)) .done))))))))
 (.cond (.t 28) (.seq (.reg (tq 4 (.mov (.c (.int .i64 (-1)))) .done))
 .ret)
 .skip))
 (.seq (.reg (tm 29 (.t 1) (tq 30 (.bin .add (.t 29) (.c (.int .i64 1))) (tm 1 (.t 30) .done))))
 (.seq (.reg (tm 31 (.t 0) (tm 32 (.t 5) (tq 33 (.iaddr 3 (.t 31) (.t 32)) (tq 34 (.faddr 2 (.t 33)) (tq 35 (.load 1 false (.t 34)) (tm 36 (.t 1) (tq 37 (.call 260 [(.t 35),(.t 36)]) (tm 1 (.t 37) .done)))))))))
 (.seq (.reg (tm 38 (.t 1) (tq 39 (.bin .lss (.t 38) (.c (.int .i64 0))) .done)))
 (.cond (.t 39) (.seq (.reg (tq 4 (.mov (.c (.int .i64 (-1)))) .done))
 .ret)
 .skip))))))))
 (.reg (tm 10 (.t 5) (tq 11 (.bin .add (.t 10) (.c (.int .i64 1))) (tm 5 (.t 11) .done)))))))))
 (.cut (.seq (.reg (tm 40 (.t 1) (tm 4 (.t 40) .done)))
 .ret))))
theorem f1d:a1b Tryz.prog Tryz.f161 = some (f1c.erase,[.mov (.t 4)],41):=by kernel_rfl
def a4a :List a0m → Int → Option (Fl Int Int)
  | [],A =>
    some (.go A)
  | E :: xs,A =>
    (a3o A).bind fun J =>
    if (!(E.Column == J)) then
    some (.ret (-1))
    else
    if (E.Func != w64 (A + 1)) then
    some (.ret (-1))
    else
    (a9v E.Value (w64 ((w64 (A + 1)) + 1))).bind fun F =>
    if (decide (F < 0)) then
    some (.ret (-1))
    else
    a4a xs F 
def a9w (D:(List a0m)) (G:Int):Option Int :=
    (a4a D G).bind fun q => (match q with
    | .ret r => some r
    | .go H =>
    some H)
theorem c3t (D:(List a0m)) (G:Int) (r:Int) (hf:a9w D G = some r):a0a Tryz.prog 161 .flat [(.lst 3 (D.map o8)),(.I G)] (.I r):=by
 refine a0a.of_awp mixed Tryz.func161 f1d nle ?_;rw [a0l];unfold a9w at hf;unfold f1c;refine (show awp Tryz.prog false 0 _ (ofL [(0,(.lst 3 (D.map o8))),(1,(.I G))]) [] _ from ?_);refine sr<|l7 (.I 0) rfl<|dk<|o6<|sr<|l7 (.I 0) rfl<|dk<|?_
 obtain ⟨p54,hb1,hf⟩:=ob hf
 refine a1u (X:={q:Int // p54 = .go q}) (fun q => ([(1,(.I q.1))],[])) ?_ ?_
 ·refine a1h (X:={q:(Int × Nat) // a4a (D.drop q.2) q.1 = some p54}) (fun q => ([(0,(.lst 3 (D.map o8))),(1,(.I q.1.1)),(5,(.I (q.1.2:Int)))],[])) (fun q => D.length - q.1.2) ⟨(G,0),hb1⟩ ⟨[],[],_,_,rfl,rfl,⟨.r,⟨.r,⟨.r,tr⟩⟩⟩,.r⟩ ?_
  rintro ⟨⟨A,B⟩,hc1⟩
  have hc1:a4a (D.drop B) A = some p54:=hc1
  refine (show awp Tryz.prog false 0 _ (ofL [(0,(.lst 3 (D.map o8))),(1,(.I A)),(5,(.I (B:Int)))]) [] _ from ?_)
  rcases a5j D B with ⟨hie57,hd60⟩ | ⟨hlt55,E,hx56,hd60⟩
  ·rw [hd60,a4a.eq_1] at hc1
   have hq59:=dlf hie57
   refine o6<|sr<|l7 (.I (B:Int)) rfl<|l7 (.lst 3 (D.map o8)) rfl<|a1a (a1t (enc:=o8) rfl) fun hl62 => o7 (.bool (decide ((B:Int) < (D.length:Int)))) rfl rfl rfl<|dk<|x8 rfl hq59<|a2o<|a2n<|a1s<|a2m<|?_;obtain rfl:=os hc1;exact a2s ⟨_,rfl⟩ ⟨[],[],_,_,rfl,rfl,⟨.r,tr⟩,.r⟩
  ·rw [hd60,a4a.eq_2] at hc1
   have hq59:=dlt hlt55
   refine o6<|sr<|l7 (.I (B:Int)) rfl<|l7 (.lst 3 (D.map o8)) rfl<|a1a (a1t (enc:=o8) rfl) fun hl63 => o7 (.bool (decide ((B:Int) < (D.length:Int)))) rfl rfl rfl<|dk<|x9 rfl hq59<|a0h<|a0j<|o6<|a2y<|o6<|sr<|?_
   obtain ⟨J,er65,hc1⟩:=ob hc1
   refine l7 (.lst 3 (D.map o8)) rfl<|l7 (.I (B:Int)) rfl<|y7 (a1m (enc:=o8) rfl rfl hx56)<|o7 (.iptr (o8 E) 0) rfl tr rfl<|o7 (.str E.Column) rfl nle rfl<|l7 (.I A) rfl<|a2e (a0p (a6m _ _ er65) rfl .r rfl) a2j tr<|o7 (.bool (!(E.Column == J))) rfl tr rfl<|dk<|?_
   rcases oi hc1 with ⟨c66,hc1⟩ | ⟨c66,hc1⟩
   ·refine x9 rfl c66<|sr<|l7 (.I (-1)) rfl<|dk<|a0d<|?_;obtain rfl:=os hc1;obtain rfl:=os hf;exact a0f ⟨tr,tr⟩ rfl .r
   ·refine x8 rfl (bf c66)<|a0h<|a0j<|sr<|l7 (.I A) rfl<|o7 (.I (w64 (A + 1))) rfl rfl rfl<|l7 (.I (w64 (A + 1))) rfl<|dk<|o6<|sr<|l7 (.lst 3 (D.map o8)) rfl<|l7 (.I (B:Int)) rfl<|y7 (a1m (enc:=o8) rfl rfl hx56)<|o7 (.iptr (o8 E) 1) rfl tr rfl<|o7 (.I E.Func) rfl nle rfl<|l7 (.I (w64 (A + 1))) rfl<|o7 (.bool (E.Func != w64 (A + 1))) rfl rfl rfl<|dk<|?_
    rcases oi hc1 with ⟨c67,hc1⟩ | ⟨c67,hc1⟩
    ·refine x9 rfl c67<|sr<|l7 (.I (-1)) rfl<|dk<|a0d<|?_;obtain rfl:=os hc1;obtain rfl:=os hf;exact a0f ⟨tr,tr⟩ rfl .r
    ·refine x8 rfl (bf c67)<|a0h<|a0j<|sr<|l7 (.I (w64 (A + 1))) rfl<|o7 (.I (w64 ((w64 (A + 1)) + 1))) rfl rfl rfl<|l7 (.I (w64 ((w64 (A + 1)) + 1))) rfl<|dk<|sr<|?_
     obtain ⟨F,er69,hc1⟩:=ob hc1
     refine l7 (.lst 3 (D.map o8)) rfl<|l7 (.I (B:Int)) rfl<|y7 (a1m (enc:=o8) rfl rfl hx56)<|o7 (.iptr (o8 E) 2) rfl tr rfl<|o7 (.lst 3 (E.Value.map o5)) rfl nle rfl<|l7 (.I (w64 ((w64 (A + 1)) + 1))) rfl<|y7 (a0p (c3s _ _ _ er69) rfl .r rfl)<|l7 (.I F) rfl<|dk<|sr<|l7 (.I F) rfl<|o7 (.bool (decide (F < 0))) rfl rfl rfl<|dk<|?_
     rcases oi hc1 with ⟨c70,hc1⟩ | ⟨c70,hc1⟩
     ·refine x9 rfl c70<|sr<|l7 (.I (-1)) rfl<|dk<|a0d<|?_;obtain rfl:=os hc1;obtain rfl:=os hf;exact a0f ⟨tr,tr⟩ rfl .r
     ·refine x8 rfl (bf c70)<|a0h<|a1v<|a0j<|a0t<|l7 (.I (B:Int)) rfl<|o7 (.I (w64 ((B:Int) + 1))) rfl rfl rfl<|l7 (.I (w64 ((B:Int) + 1))) rfl<|a0e<|?_;exact a1p ⟨(F,(B + 1)),hc1⟩ (mul hlt55) ⟨[],[],_,_,rfl,rfl,⟨.r,⟨.r,⟨.of_eq (congrArg (AV.int _) (a1r hlt55 hl63)),tr⟩⟩⟩,.r⟩
 ·rintro ⟨H,rfl⟩
  refine sr<|l7 (.I H) rfl<|l7 (.I H) rfl<|dk<|a0d<|?_;obtain rfl:=os hf;exact a0f ⟨tr,tr⟩ rfl .r
def c71:a0q :=
 (.seq (.reg (tq 2 (.box 8 (.t 0)) (tm 4 (.c (.int .i64 0)) .done)))
 (.seq (.reg (tq 5 (.faddr 2 (.t 2)) (tq 6 (.load 1 false (.t 5)) (tm 7 (.t 1) (tq 8 (.call 104 [(.t 6),(.t 7)]) (tm 1 (.t 8) .done))))))
 (.seq (.seq (.reg (tm 9 (.t 1) (tq 10 (.bin .lss (.t 9) (.c (.int .i64 0))) .done)))
 (.cond (.t 10) (.seq (.reg (tq 4 (.mov (.c (.int .i64 (-1)))) .done))
 .ret)
 .skip))
 (.seq (.reg (tq 11 (.faddr 7 (.t 2)) (tq 12 (.load 1 false (.t 11)) (tm 13 (.t 1) (tq 14 (.call 161 [(.t 12),(.t 13)]) (tm 1 (.t 14) .done))))))
 (.seq (.seq (.reg (tm 15 (.t 1) (tq 16 (.bin .lss (.t 15) (.c (.int .i64 0))) .done)))
 (.cond (.t 16) (.seq (.reg (tq 4 (.mov (.c (.int .i64 (-1)))) .done))
 .ret)
 .skip))
 (.seq (.reg (tm 17 (.t 1) (tm 4 (.t 17) .done)))
 .ret))))))
theorem f2e:a1b Tryz.prog Tryz.f71 = some (c71.erase,[.mov (.t 4)],18):=by kernel_rfl
def a5z (A:a0k) (E:Int):Option Int :=
    (a8h A.Columns E).bind fun D =>
    if (decide (D < 0)) then
    some (-1)
    else
    (a9w A.Where D).bind fun B =>
    if (decide (B < 0)) then
    some (-1)
    else
    some B
theorem b4m (A:a0k) (E:Int) (r:Int) (hf:a5z A E = some r):a0a Tryz.prog 71 .flat [(a4d A),(.I E)] (.I r):=by
 refine a0a.of_awp mixed Tryz.func71 f2e nle ?_;rw [a0l];unfold a5z at hf;unfold c71;refine (show awp Tryz.prog false 0 _ (ofL [(0,(a4d A)),(1,(.I E))]) [] _ from ?_);refine sr<|y7 (a1i (j:=0) (c:=(.agg [(.str A.Name),(.str A.Table),(.lst 1 (A.Columns.map AV.str)),(.bool A.Initial),(.bool A.Insert),(.bool A.Delete),(.bool A.Modify),(.lst 3 (A.Where.map o8))])) rfl tr rfl rfl)<|l7 (.I 0) rfl<|dk<|sr<|?_
 obtain ⟨D,er4,hf⟩:=ob hf
 refine o7 (.ptr 0 0 2) rfl tr rfl<|o7 (.lst 1 (A.Columns.map AV.str)) rfl nle rfl<|l7 (.I E) rfl<|y7 (a0p (c0l _ _ _ er4) rfl .r rfl)<|l7 (.I D) rfl<|dk<|o6<|sr<|l7 (.I D) rfl<|o7 (.bool (decide (D < 0))) rfl rfl rfl<|dk<|?_
 rcases oi hf with ⟨c5,hf⟩ | ⟨c5,hf⟩
 ·refine x9 rfl c5<|sr<|l7 (.I (-1)) rfl<|dk<|a0d<|?_;obtain rfl:=os hf;exact a0f ⟨tr,tr⟩ rfl .r
 ·refine x8 rfl (bf c5)<|a0h<|a0j<|sr<|?_
  obtain ⟨B,er7,hf⟩:=ob hf
  refine o7 (.ptr 0 0 7) rfl tr rfl<|o7 (.lst 3 (A.Where.map o8)) rfl nle rfl<|l7 (.I D) rfl<|y7 (a0p (c3t _ _ _ er7) rfl .r rfl)<|l7 (.I B) rfl<|dk<|o6<|sr<|l7 (.I B) rfl<|o7 (.bool (decide (B < 0))) rfl rfl rfl<|dk<|?_
  rcases oi hf with ⟨c8,hf⟩ | ⟨c8,hf⟩
  ·refine x9 rfl c8<|sr<|l7 (.I (-1)) rfl<|dk<|a0d<|?_;obtain rfl:=os hf;exact a0f ⟨tr,tr⟩ rfl .r
  ·refine x8 rfl (bf c8)<|a0h<|a0j<|sr<|l7 (.I B) rfl<|l7 (.I B) rfl<|dk<|a0d<|?_;obtain rfl:=os hf;exact a0f ⟨tr,tr⟩ rfl .r
end Go.R
