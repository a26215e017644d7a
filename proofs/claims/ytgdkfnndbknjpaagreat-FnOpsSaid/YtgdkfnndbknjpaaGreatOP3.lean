/- Walks. -/
import Derived.Test.YtgdkfnndbknjpaaGreatOP2
set_option linter.all false
namespace Go.R
open Go Go.Proofs
set_option linter.unusedVariables false
set_option linter.unusedSimpArgs false
set_option maxHeartbeats 8000000
/- impl.NameOK -/
def c117:a0s :=
 (.seq (.reg (tm 2 (.c (.bool false)) .done))
 (.seq (.seq (.reg (tm 6 (.t 0) (tq 7 (.lenS (.t 6)) (tm 8 (.c (.int .i64 0)) .done))))
 (.block 0 (.loop (.seq (.reg (tq 9 (.bin .lss (.t 8) (.t 7)) .done))
 (.seq (.cond (.t 9) .skip
 (.exit 0))
 (.seq (.block 1 (.seq (.reg (tm 10 (.t 8) (tm 3 (.t 10) .done)))
 (.seq (.reg (tm 11 (.t 0) (tm 12 (.t 3) (tq 13 (.idxs (.t 11) (.t 12)) (tm 4 (.t 13) .done)))))
 (.seq (.reg (tm 14 (.t 4) (tq 15 (.bin .geq (.t 14) (.c (.int .u8 97))) (tm 16 (.t 15) (tg 17 16 true (.mov (.t 4)) (tg 18 16 true (.bin .leq (.t 17) (.c (.int .u8 122))) (tq 19 (.pick (.t 16) (.t 18) (.c (.bool false))) (tm 20 (.t 19) (tg 21 20 false (.mov (.t 4)) (tg 22 20 false (.bin .geq (.t 21) (.c (.int .u8 65))) (tg 23 20 false (.mov (.t 22)) (tg 24 23 true (.mov (.t 4)) (tg 25 23 true (.bin .leq (.t 24) (.c (.int .u8 90))) (tg 26 20 false (.pick (.t 23) (.t 25) (.c (.bool false))) (tq 27 (.pick (.t 20) (.c (.bool true)) (.t 26)) (tm 28 (.t 27) (tg 29 28 false (.mov (.t 4)) (tg 30 28 false (.bin .eql (.t 29) (.c (.int .u8 95))) (tq 31 (.pick (.t 28) (.c (.bool true)) (.t 30)) (tm 5 (.t 31) .done))))))))))))))))))))
 (.cut (.seq (.reg (tm 32 (.t 5) (tq 33 (.not (.t 32)) (tm 34 (.t 33) (tg 35 34 true (.mov (.t 3)) (tg 36 34 true (.bin .eql (.t 35) (.c (.int .i64 0))) (tg 37 34 true (.mov (.t 36)) (tg 38 37 false (.mov (.t 4)) (tg 39 37 false (.call 248 [(.t 38)]) (tg 40 37 false (.not (.t 39)) (tg 41 34 true (.pick (.t 37) (.c (.bool true)) (.t 40)) (tq 42 (.pick (.t 34) (.t 41) (.c (.bool false))) .done))))))))))))
 (.cut (.cond (.t 42) (.seq (.reg (tm 2 (.c (.bool false)) .done))
 .ret)
 .skip))))))))
 (.reg (tq 43 (.bin .add (.t 8) (.c (.int .i64 1))) (tm 8 (.t 43) .done)))))))))
 (.cut (.seq (.reg (tm 44 (.t 0) (tq 45 (.lenS (.t 44)) (tq 46 (.call 114 [(.t 45),(.c (.int .i64 1)),(.c (.int .i64 40))]) (tm 2 (.t 46) .done)))))
 .ret))))
theorem e2t:a1e Tryz.prog Tryz.f117 = some (c117.erase,[.mov (.t 2)],47):=by kernel_rfl
def a6l :List UInt8 → Nat → Option (Fl Bool Unit)
  | [],B =>
    some (.go ())
  | A :: xs,B =>
    ((some ():Option Unit)).bind fun _ =>
    ((if (!(bif (bif (bif (decide ((A.toNat:Int) ≥ 97)) then (decide ((A.toNat:Int) ≤ 122)) else false) then true else (bif (decide ((A.toNat:Int) ≥ 65)) then (decide ((A.toNat:Int) ≤ 90)) else false)) then true else ((A.toNat:Int) == 95))) then
    if ((B:Int) == 0) then
    some true
    else
    (b2k (A.toNat:Int)).bind fun E =>
    some (!E)
    else
    some false:Option Bool)).bind fun F =>
    if F then
    some (.ret false)
    else
    a6l xs (B + 1)

def a7i (D:Str):Option Bool :=
    (a6l D 0).bind fun q => (match q with
    | .ret r => some r
    | .go _ =>
    (a3t (D.length:Int) 1 40).bind fun G =>
    some G)
theorem a8t (D:Str) (r:Bool) (hf:a7i D = some r):a0a Tryz.prog 117 .flat [(.str D)] (.bool r):=by
 refine a0a.of_awp mixed Tryz.func117 e2t nle ?_;rw [a0n];unfold a7i at hf;unfold c117;refine (show awp Tryz.prog false 0 _ (ofL [(0,(.str D))]) [] _ from ?_);refine sr<|l7 (.bool false) rfl<|dk<|o7<|sr<|l7 (.str D) rfl<|a1i (b3i rfl) fun hl2 => l7 (.I 0) rfl<|dk<|?_
 obtain ⟨p50,hb1,hf⟩:=ob hf
 refine a2c (X:={q:Unit // p50 = .go q}) (fun q => ([(0,(.str D))],[])) ?_ ?_
 ·refine a1v (X:={q:Nat // a6l (D.drop q) q = some p50}) (fun q => ([(0,(.str D)),(7,(.I (D.length:Int))),(8,(.I (q.1:Int)))],[])) (fun q => D.length - q.1) ⟨0,hb1⟩ ⟨[],[],_,_,rfl,rfl,⟨.r,⟨.r,⟨.r,tr⟩⟩⟩,.r⟩ ?_
  rintro ⟨B,hc1⟩
  have hc1:a6l (D.drop B) B = some p50:=hc1
  refine (show awp Tryz.prog false 0 _ (ofL [(0,(.str D)),(7,(.I (D.length:Int))),(8,(.I (B:Int)))]) [] _ from ?_)
  rcases a6c D B with ⟨hie53,hd56⟩ | ⟨hlt51,A,hx52,hd56⟩
  ·rw [hd56,a6l.eq_1] at hc1
   have hq55:=dlf hie53
   refine sr<|o8 (.bool (decide ((B:Int) < (D.length:Int)))) rfl rfl rfl<|dk<|o7<|y9 rfl hq55<|a3i<|a3h<|a2e<|a3g<|?_;obtain rfl:=os hc1;exact a4b ⟨_,rfl⟩ ⟨[],[],_,_,rfl,rfl,⟨.r,tr⟩,.r⟩
  ·rw [hd56,a6l.eq_2] at hc1
   have hq55:=dlt hlt51
   refine sr<|o8 (.bool (decide ((B:Int) < (D.length:Int)))) rfl rfl rfl<|dk<|o7<|y8 rfl hq55<|a0k<|a0m<|o7<|a3y<|sr<|l7 (.I (B:Int)) rfl<|l7 (.I (B:Int)) rfl<|dk<|sr<|l7 (.str D) rfl<|l7 (.I (B:Int)) rfl<|x8 (b3m rfl rfl hx52)<|l7 (.int .u8 (A.toNat:Int)) rfl<|dk<|o7<|?_
   obtain ⟨p58,hb2,hc1⟩:=ob hc1
   refine a1k ([(0,(.str D)),(3,(.I (B:Int))),(4,(.int .u8 (A.toNat:Int))),(5,(.bool (bif (bif (bif (decide ((A.toNat:Int) ≥ 97)) then (decide ((A.toNat:Int) ≤ 122)) else false) then true else (bif (decide ((A.toNat:Int) ≥ 65)) then (decide ((A.toNat:Int) ≤ 90)) else false)) then true else ((A.toNat:Int) == 95)))),(7,(.I (D.length:Int))),(8,(.I (B:Int)))],[]) ?_ ?_
   ·refine a0r<|l7 (.int .u8 (A.toNat:Int)) rfl<|o8 (.bool (decide ((A.toNat:Int) ≥ 97))) rfl rfl rfl<|l7 (.bool (decide ((A.toNat:Int) ≥ 97))) rfl<|?_;refine s_g (v:=(decide ((A.toNat:Int) ≥ 97))) (.int .u8 (A.toNat:Int)) rfl (fun hv => by (try simp only [o9 hv]);exact ⟨rfl,tr,rfl⟩) ?_;refine s_g (v:=(decide ((A.toNat:Int) ≥ 97))) (.bool (decide ((A.toNat:Int) ≤ 122))) rfl (fun hv => by (try simp only [o9 hv]);exact ⟨rfl,rfl,rfl⟩) ?_;refine a2a (x:=(decide ((A.toNat:Int) ≤ 122))) (y:=false) rfl (fun hv => by (try simp only [o9 hv]);rfl) (fun hv => by (try simp only [o9 hv]);rfl) ?_;refine l7 (.bool (bif (decide ((A.toNat:Int) ≥ 97)) then (decide ((A.toNat:Int) ≤ 122)) else false)) rfl ?_
    refine s_g (v:=(bif (decide ((A.toNat:Int) ≥ 97)) then (decide ((A.toNat:Int) ≤ 122)) else false)) (.int .u8 (A.toNat:Int)) rfl (fun hv => by (try simp only [o9 hv]);exact ⟨rfl,tr,rfl⟩) ?_;refine s_g (v:=(bif (decide ((A.toNat:Int) ≥ 97)) then (decide ((A.toNat:Int) ≤ 122)) else false)) (.bool (decide ((A.toNat:Int) ≥ 65))) rfl (fun hv => by (try simp only [o9 hv]);exact ⟨rfl,rfl,rfl⟩) ?_;refine s_g (v:=(bif (decide ((A.toNat:Int) ≥ 97)) then (decide ((A.toNat:Int) ≤ 122)) else false)) (.bool (decide ((A.toNat:Int) ≥ 65))) rfl (fun hv => by (try simp only [o9 hv]);exact ⟨rfl,tr,rfl⟩) ?_;refine a7t (v1:=(bif (decide ((A.toNat:Int) ≥ 97)) then (decide ((A.toNat:Int) ≤ 122)) else false)) (b1:=false) (v2:=(decide ((A.toNat:Int) ≥ 65))) (.int .u8 (A.toNat:Int)) rfl (fun hv hw => by (try simp only [o9 hv,o9 hw]);exact ⟨rfl,tr,rfl⟩) ?_
    refine a7t (v1:=(bif (decide ((A.toNat:Int) ≥ 97)) then (decide ((A.toNat:Int) ≤ 122)) else false)) (b1:=false) (v2:=(decide ((A.toNat:Int) ≥ 65))) (.bool (decide ((A.toNat:Int) ≤ 90))) rfl (fun hv hw => by (try simp only [o9 hv,o9 hw]);exact ⟨rfl,rfl,rfl⟩) ?_;refine c0q (v1:=(bif (decide ((A.toNat:Int) ≥ 97)) then (decide ((A.toNat:Int) ≤ 122)) else false)) (b1:=false) (v2:=(decide ((A.toNat:Int) ≥ 65))) (x:=(decide ((A.toNat:Int) ≤ 90))) (y:=false) rfl (fun hv => by (try simp only [o9 hv]);rfl) (fun hv hw => by (try simp only [o9 hv,o9 hw]);rfl) (fun hv hw => by (try simp only [o9 hv,o9 hw]);rfl) ?_;refine a2a (x:=true) (y:=(bif (decide ((A.toNat:Int) ≥ 65)) then (decide ((A.toNat:Int) ≤ 90)) else false)) rfl (fun hv => by (try simp only [o9 hv]);rfl) (fun hv => by (try simp only [o9 hv]);rfl) ?_
    refine l7 (.bool (bif (bif (decide ((A.toNat:Int) ≥ 97)) then (decide ((A.toNat:Int) ≤ 122)) else false) then true else (bif (decide ((A.toNat:Int) ≥ 65)) then (decide ((A.toNat:Int) ≤ 90)) else false))) rfl ?_;refine s_g (v:=(bif (bif (decide ((A.toNat:Int) ≥ 97)) then (decide ((A.toNat:Int) ≤ 122)) else false) then true else (bif (decide ((A.toNat:Int) ≥ 65)) then (decide ((A.toNat:Int) ≤ 90)) else false))) (.int .u8 (A.toNat:Int)) rfl (fun hv => by (try simp only [o9 hv]);exact ⟨rfl,tr,rfl⟩) ?_;refine s_g (v:=(bif (bif (decide ((A.toNat:Int) ≥ 97)) then (decide ((A.toNat:Int) ≤ 122)) else false) then true else (bif (decide ((A.toNat:Int) ≥ 65)) then (decide ((A.toNat:Int) ≤ 90)) else false))) (.bool ((A.toNat:Int) == 95)) rfl (fun hv => by (try simp only [o9 hv]);exact ⟨rfl,rfl,rfl⟩) ?_
    refine a2a (x:=true) (y:=((A.toNat:Int) == 95)) rfl (fun hv => by (try simp only [o9 hv]);rfl) (fun hv => by (try simp only [o9 hv]);rfl) ?_;refine l7 (.bool (bif (bif (bif (decide ((A.toNat:Int) ≥ 97)) then (decide ((A.toNat:Int) ≤ 122)) else false) then true else (bif (decide ((A.toNat:Int) ≥ 65)) then (decide ((A.toNat:Int) ≤ 90)) else false)) then true else ((A.toNat:Int) == 95))) rfl<|y5<|?_;obtain rfl:=os hb2;exact ⟨[],[],_,_,rfl,rfl,⟨.r,⟨.r,⟨.r,⟨.r,⟨.r,⟨.r,tr⟩⟩⟩⟩⟩⟩,.r⟩
   ·refine o7 ?_
    obtain ⟨F,hb2,hc1⟩:=ob hc1
    refine a1k ([(0,(.str D)),(7,(.I (D.length:Int))),(8,(.I (B:Int))),(42,(.bool F))],[]) ?_ ?_
    ·refine a0r ?_
     rcases oi hb2 with ⟨c65,hb2⟩ | ⟨c65,hb2⟩
     ·rcases oi hb2 with ⟨c66,hb2⟩ | ⟨c66,hb2⟩
      ·refine l7 (.bool (bif (bif (bif (decide ((A.toNat:Int) ≥ 97)) then (decide ((A.toNat:Int) ≤ 122)) else false) then true else (bif (decide ((A.toNat:Int) ≥ 65)) then (decide ((A.toNat:Int) ≤ 90)) else false)) then true else ((A.toNat:Int) == 95))) rfl<|o8 (.bool (!(bif (bif (bif (decide ((A.toNat:Int) ≥ 97)) then (decide ((A.toNat:Int) ≤ 122)) else false) then true else (bif (decide ((A.toNat:Int) ≥ 65)) then (decide ((A.toNat:Int) ≤ 90)) else false)) then true else ((A.toNat:Int) == 95)))) rfl tr rfl<|l7 (.bool (!(bif (bif (bif (decide ((A.toNat:Int) ≥ 97)) then (decide ((A.toNat:Int) ≤ 122)) else false) then true else (bif (decide ((A.toNat:Int) ≥ 65)) then (decide ((A.toNat:Int) ≤ 90)) else false)) then true else ((A.toNat:Int) == 95)))) rfl<|?_
       refine a0i (s:=34) (b:=true) rfl c65<|s_on rfl<|l7 (.I (B:Int)) rfl<|s_on rfl<|o8 (.bool ((B:Int) == 0)) rfl rfl rfl<|s_on rfl<|l7 (.bool ((B:Int) == 0)) rfl<|a0i (s:=37) (b:=true) rfl c66<|o6 rfl rfl<|o6 rfl rfl<|o6 rfl rfl<|s_on rfl<|o8 (.bool true) rfl tr rfl<|o8 (.bool true) rfl tr rfl<|y5<|?_;obtain rfl:=os hb2;exact ⟨[],[],_,_,rfl,rfl,⟨.r,⟨.r,⟨.r,⟨.r,tr⟩⟩⟩⟩,.r⟩
      ·obtain ⟨E,er68,hb2⟩:=ob hb2
       refine l7 (.bool (bif (bif (bif (decide ((A.toNat:Int) ≥ 97)) then (decide ((A.toNat:Int) ≤ 122)) else false) then true else (bif (decide ((A.toNat:Int) ≥ 65)) then (decide ((A.toNat:Int) ≤ 90)) else false)) then true else ((A.toNat:Int) == 95))) rfl<|o8 (.bool (!(bif (bif (bif (decide ((A.toNat:Int) ≥ 97)) then (decide ((A.toNat:Int) ≤ 122)) else false) then true else (bif (decide ((A.toNat:Int) ≥ 65)) then (decide ((A.toNat:Int) ≤ 90)) else false)) then true else ((A.toNat:Int) == 95)))) rfl tr rfl<|l7 (.bool (!(bif (bif (bif (decide ((A.toNat:Int) ≥ 97)) then (decide ((A.toNat:Int) ≤ 122)) else false) then true else (bif (decide ((A.toNat:Int) ≥ 65)) then (decide ((A.toNat:Int) ≤ 90)) else false)) then true else ((A.toNat:Int) == 95)))) rfl<|?_
       refine a0i (s:=34) (b:=true) rfl c65<|s_on rfl<|l7 (.I (B:Int)) rfl<|s_on rfl<|o8 (.bool ((B:Int) == 0)) rfl rfl rfl<|s_on rfl<|l7 (.bool ((B:Int) == 0)) rfl<|a0i (s:=37) (b:=false) rfl (bf c66)<|s_on rfl<|l7 (.int .u8 (A.toNat:Int)) rfl<|s_on rfl<|x8 (a0j (c4y _ _ er68) rfl .r rfl)<|s_on rfl<|o8 (.bool (!E)) rfl tr rfl<|s_on rfl<|o8 (.bool (!E)) rfl tr rfl<|o8 (.bool (!E)) rfl tr rfl<|y5<|?_;obtain rfl:=os hb2;exact ⟨[],[],_,_,rfl,rfl,⟨.r,⟨.r,⟨.r,⟨.r,tr⟩⟩⟩⟩,.r⟩
     ·refine l7 (.bool (bif (bif (bif (decide ((A.toNat:Int) ≥ 97)) then (decide ((A.toNat:Int) ≤ 122)) else false) then true else (bif (decide ((A.toNat:Int) ≥ 65)) then (decide ((A.toNat:Int) ≤ 90)) else false)) then true else ((A.toNat:Int) == 95))) rfl<|o8 (.bool (!(bif (bif (bif (decide ((A.toNat:Int) ≥ 97)) then (decide ((A.toNat:Int) ≤ 122)) else false) then true else (bif (decide ((A.toNat:Int) ≥ 65)) then (decide ((A.toNat:Int) ≤ 90)) else false)) then true else ((A.toNat:Int) == 95)))) rfl tr rfl<|l7 (.bool (!(bif (bif (bif (decide ((A.toNat:Int) ≥ 97)) then (decide ((A.toNat:Int) ≤ 122)) else false) then true else (bif (decide ((A.toNat:Int) ≥ 65)) then (decide ((A.toNat:Int) ≤ 90)) else false)) then true else ((A.toNat:Int) == 95)))) rfl<|?_
      refine a0i (s:=34) (b:=false) rfl (bf c65)<|o6 rfl rfl<|o6 rfl rfl<|o6 rfl rfl<|a0x rfl<|a0x rfl<|a0x rfl<|o6 rfl rfl<|o8 (.bool false) rfl tr rfl<|y5<|?_;obtain rfl:=os hb2;exact ⟨[],[],_,_,rfl,rfl,⟨.r,⟨.r,⟨.r,⟨.r,tr⟩⟩⟩⟩,.r⟩
    ·rcases oi hc1 with ⟨c69,hc1⟩ | ⟨c69,hc1⟩
     ·refine y8 rfl c69<|sr<|l7 (.bool false) rfl<|dk<|a0b<|?_;obtain rfl:=os hc1;obtain rfl:=os hf;exact y7 ⟨tr,tr⟩ rfl .r
     ·refine y9 rfl (bf c69)<|a0k<|a2y<|a0m<|a0r<|o8 (.I (w64 ((B:Int) + 1))) rfl rfl rfl<|l7 (.I (w64 ((B:Int) + 1))) rfl<|y5<|?_;exact a1z ⟨(B + 1),hc1⟩ (mul hlt51) ⟨[],[],_,_,rfl,rfl,⟨.r,⟨.r,⟨.of_eq (congrArg (AV.int _) (a1x hlt51 hl2)),tr⟩⟩⟩,.r⟩
 ·rintro ⟨_,rfl⟩
  refine sr<|?_
  obtain ⟨G,er72,hf⟩:=ob hf
  refine l7 (.str D) rfl<|a1i (b3i rfl) fun hl70 => x8 (a0j (a3x _ _ _ _ er72) rfl .r rfl)<|l7 (.bool G) rfl<|dk<|a0b<|?_;obtain rfl:=os hf;exact y7 ⟨tr,tr⟩ rfl .r

/- impl.isNumber -/
def e2u:a0s :=
 (.seq (.reg (tm 2 (.c (.bool false)) .done))
 (.seq (.reg (tm 3 (.t 0) (tq 4 (.call 114 [(.t 3),(.c (.int .i64 (-1000000000))),(.c (.int .i64 1000000000))]) (tm 2 (.t 4) .done))))
 .ret))
theorem e2v:a1e Tryz.prog Tryz.f252 = some (e2u.erase,[.mov (.t 2)],5):=by kernel_rfl
def a8u (A:Int):Option Bool :=
    (a3t A (-1000000000) 1000000000).bind fun B =>
    some B
theorem b1r (A:Int) (r:Bool) (hf:a8u A = some r):a0a Tryz.prog 252 .flat [(.I A)] (.bool r):=by
  refine a0a.of_awp mixed Tryz.func252 e2v nle ?_
  rw [a0n]
  unfold a8u at hf
  unfold e2u
  refine (show awp Tryz.prog false 0 _ (ofL [(0,(.I A))]) [] _ from ?_)
  refine o7 ?_
  refine a0r ?_
  refine x8 (a2w (.bool false) rfl) ?_
  refine y5 ?_
  refine a0m ?_
  refine o7 ?_
  refine a0r ?_
  obtain ⟨B,er3,hf⟩:=ob hf
  refine x8 (a2w (.I A) rfl) ?_
  refine x8 (a0j (a3x _ _ _ _ er3) rfl .r rfl) ?_
  refine x8 (a2w (.bool B) rfl) ?_
  refine y5 ?_
  refine a0m ?_
  refine a0b ?_
  obtain rfl:=os hf
  exact y7 ⟨tr,tr⟩ rfl .r

/- impl.ColumnOK -/
def d4z:a0s :=
 (.seq (.reg (tq 1 (.box 8 (.t 0)) (tm 2 (.c (.bool false)) .done)))
 (.seq (.seq (.reg (tq 3 (.faddr 0 (.t 1)) (tq 4 (.load 1 false (.t 3)) (tq 5 (.call 117 [(.t 4)]) (tq 6 (.not (.t 5)) (tm 7 (.t 6) (tg 8 7 false (.faddr 2 (.t 1)) (tg 9 7 false (.load 1 false (.t 8)) (tg 10 7 false (.call 114 [(.t 9),(.c (.int .i64 0)),(.c (.int .i64 1))]) (tg 11 7 false (.not (.t 10)) (tq 12 (.pick (.t 7) (.c (.bool true)) (.t 11)) (tm 13 (.t 12) (tg 14 13 false (.faddr 3 (.t 1)) (tg 15 13 false (.load 1 false (.t 14)) (tg 16 13 false (.call 114 [(.t 15),(.c (.int .i64 1)),(.c (.int .i64 8))]) (tg 17 13 false (.not (.t 16)) (tq 18 (.pick (.t 13) (.c (.bool true)) (.t 17)) .done)))))))))))))))))
 (.cut (.cond (.t 18) (.seq (.reg (tm 2 (.c (.bool false)) .done))
 .ret)
 .skip)))
 (.seq (.seq (.reg (tq 19 (.faddr 1 (.t 1)) (tq 20 (.load 1 false (.t 19)) .done)))
 (.block 0 (.seq (.reg (tq 22 (.bin .eql (.t 20) (.c (.int .i64 1))) (tm 21 (.t 22) .done)))
 (.cond (.t 21) (.seq (.reg (tq 23 (.faddr 4 (.t 1)) (tq 24 (.load 1 false (.t 23)) (tq 25 (.call 252 [(.t 24)]) (tm 26 (.t 25) (tg 27 26 true (.faddr 5 (.t 1)) (tg 28 26 true (.load 1 false (.t 27)) (tg 29 26 true (.call 252 [(.t 28)]) (tq 30 (.pick (.t 26) (.t 29) (.c (.bool false))) (tm 31 (.t 30) (tg 32 31 true (.faddr 4 (.t 1)) (tg 33 31 true (.load 1 false (.t 32)) (tg 34 31 true (.faddr 5 (.t 1)) (tg 35 31 true (.load 1 false (.t 34)) (tg 36 31 true (.bin .leq (.t 33) (.t 35)) (tq 37 (.pick (.t 31) (.t 36) (.c (.bool false))) (tm 38 (.t 37) (tg 39 38 true (.faddr 6 (.t 1)) (tg 40 38 true (.load 1 false (.t 39)) (tg 41 38 true (.bin .eql (.t 40) (.c (.str []))) (tq 42 (.pick (.t 38) (.t 41) (.c (.bool false))) (tm 43 (.t 42) (tg 44 43 true (.faddr 7 (.t 1)) (tg 45 43 true (.load 1 false (.t 44)) (tg 46 43 true (.not (.t 45)) (tq 47 (.pick (.t 43) (.t 46) (.c (.bool false))) (tm 2 (.t 47) .done)))))))))))))))))))))))))))
 .ret)
 (.seq (.seq (.reg (tq 49 (.bin .eql (.t 20) (.c (.int .i64 2))) (tm 48 (.t 49) .done)))
 (.cond (.t 48) .skip
 (.reg (tq 50 (.bin .eql (.t 20) (.c (.int .i64 3))) (tm 48 (.t 50) .done)))))
 (.cut (.cond (.t 48) (.seq (.reg (tq 51 (.faddr 4 (.t 1)) (tq 52 (.load 1 false (.t 51)) (tq 53 (.bin .eql (.t 52) (.c (.int .i64 0))) (tm 54 (.t 53) (tg 55 54 true (.faddr 5 (.t 1)) (tg 56 54 true (.load 1 false (.t 55)) (tg 57 54 true (.bin .eql (.t 56) (.c (.int .i64 0))) (tq 58 (.pick (.t 54) (.t 57) (.c (.bool false))) (tm 59 (.t 58) (tg 60 59 true (.faddr 6 (.t 1)) (tg 61 59 true (.load 1 false (.t 60)) (tg 62 59 true (.bin .eql (.t 61) (.c (.str []))) (tq 63 (.pick (.t 59) (.t 62) (.c (.bool false))) (tm 64 (.t 63) (tg 65 64 true (.faddr 7 (.t 1)) (tg 66 64 true (.load 1 false (.t 65)) (tg 67 64 true (.not (.t 66)) (tq 68 (.pick (.t 64) (.t 67) (.c (.bool false))) (tm 2 (.t 68) .done))))))))))))))))))))
 .ret)
 (.seq (.reg (tq 70 (.bin .eql (.t 20) (.c (.int .i64 4))) (tm 69 (.t 70) .done)))
 (.cond (.t 69) (.seq (.reg (tq 71 (.faddr 4 (.t 1)) (tq 72 (.load 1 false (.t 71)) (tq 73 (.bin .eql (.t 72) (.c (.int .i64 0))) (tm 74 (.t 73) (tg 75 74 true (.faddr 5 (.t 1)) (tg 76 74 true (.load 1 false (.t 75)) (tg 77 74 true (.bin .eql (.t 76) (.c (.int .i64 0))) (tq 78 (.pick (.t 74) (.t 77) (.c (.bool false))) (tm 79 (.t 78) (tg 80 79 true (.faddr 6 (.t 1)) (tg 81 79 true (.load 1 false (.t 80)) (tg 82 79 true (.call 117 [(.t 81)]) (tq 83 (.pick (.t 79) (.t 82) (.c (.bool false))) (tm 84 (.t 83) (tg 85 84 true (.faddr 2 (.t 1)) (tg 86 84 true (.load 1 false (.t 85)) (tg 87 84 true (.bin .eql (.t 86) (.c (.int .i64 0))) (tq 88 (.pick (.t 84) (.t 87) (.c (.bool false))) (tm 2 (.t 88) .done))))))))))))))))))))
 .ret)
 .skip)))))))))
 (.seq (.reg (tm 2 (.c (.bool false)) .done))
 .ret))))
theorem e2w:a1e Tryz.prog Tryz.f121 = some (d4z.erase,[.mov (.t 2)],89):=by kernel_rfl
def b1f (A:a0v):Option Bool :=
    (((a7i A.Name).bind fun H =>
    if (!H) then
    some true
    else
    (a3t A.Min 0 1).bind fun E =>
    if (!E) then
    some true
    else
    (a3t A.Max 1 8).bind fun J =>
    some (!J):Option Bool)).bind fun F =>
    if F then
    some false
    else
    if (A.Kind == 1) then
    (a8u A.Low).bind fun K =>
    if K then
    (a8u A.High).bind fun B =>
    some (bif (bif (bif B then (decide (A.Low ≤ A.High)) else false) then (A.Ref == []) else false) then (!A.Strong) else false)
    else
    some false
    else
    ((if (A.Kind == 2) then
    some true
    else
    some (A.Kind == 3):Option Bool)).bind fun G =>
    if G then
    some (bif (bif (bif (A.Low == 0) then (A.High == 0) else false) then (A.Ref == []) else false) then (!A.Strong) else false)
    else
    if (A.Kind == 4) then
    if (bif (A.Low == 0) then (A.High == 0) else false) then
    (a7i A.Ref).bind fun D =>
    some (bif D then (A.Min == 0) else false)
    else
    some false
    else
    some false
theorem b7d (A:a0v) (r:Bool) (hf:b1f A = some r):a0a Tryz.prog 121 .flat [(o5 A)] (.bool r):=by
 refine a0a.of_awp mixed Tryz.func121 e2w nle ?_;rw [a0n];unfold b1f at hf;unfold d4z;refine (show awp Tryz.prog false 0 _ (ofL [(0,(o5 A))]) [] _ from ?_);refine sr<|x8 (a1j (j:=0) (c:=(.agg [(.str A.Name),(.I A.Kind),(.I A.Min),(.I A.Max),(.I A.Low),(.I A.High),(.str A.Ref),(.bool A.Strong)])) rfl tr rfl rfl)<|l7 (.bool false) rfl<|dk<|o7<|o7<|?_
 obtain ⟨F,hb1,hf⟩:=ob hf
 refine a1k ([(1,(.ptr 0 0 0)),(18,(.bool F))],[.box 8 (.agg [(.str A.Name),(.I A.Kind),(.I A.Min),(.I A.Max),(.I A.Low),(.I A.High),(.str A.Ref),(.bool A.Strong)])]) ?_ ?_
 ·refine a0r<|o8 (.ptr 0 0 0) rfl tr rfl<|o8 (.str A.Name) rfl nle rfl<|?_
  obtain ⟨H,er13,hb1⟩:=ob hb1
  refine x8 (a0j (a8t _ _ er13) rfl .r rfl)<|o8 (.bool (!H)) rfl tr rfl<|l7 (.bool (!H)) rfl<|?_
  rcases oi hb1 with ⟨c14,hb1⟩ | ⟨c14,hb1⟩
  ·refine a0i (s:=7) (b:=true) rfl c14<|o6 rfl rfl<|o6 rfl rfl<|o6 rfl rfl<|o6 rfl rfl<|o8 (.bool true) rfl tr rfl<|l7 (.bool true) rfl<|o6 rfl rfl<|o6 rfl rfl<|o6 rfl rfl<|o6 rfl rfl<|o8 (.bool true) rfl tr rfl<|y5<|?_;obtain rfl:=os hb1;exact ⟨[],[0],_,_,rfl,rfl,⟨.r,⟨.r,tr⟩⟩,.r⟩
  ·refine a0i (s:=7) (b:=false) rfl (bf c14)<|s_on rfl<|o8 (.ptr 0 0 2) rfl tr rfl<|s_on rfl<|o8 (.I A.Min) rfl nle rfl<|s_on rfl<|?_
   obtain ⟨E,er16,hb1⟩:=ob hb1
   refine x8 (a0j (a3x _ _ _ _ er16) rfl .r rfl)<|s_on rfl<|o8 (.bool (!E)) rfl tr rfl<|o8 (.bool (!E)) rfl tr rfl<|l7 (.bool (!E)) rfl<|?_
   rcases oi hb1 with ⟨c17,hb1⟩ | ⟨c17,hb1⟩
   ·refine a0i (s:=13) (b:=true) rfl c17<|o6 rfl rfl<|o6 rfl rfl<|o6 rfl rfl<|o6 rfl rfl<|o8 (.bool true) rfl tr rfl<|y5<|?_;obtain rfl:=os hb1;exact ⟨[],[0],_,_,rfl,rfl,⟨.r,⟨.r,tr⟩⟩,.r⟩
   ·refine a0i (s:=13) (b:=false) rfl (bf c17)<|s_on rfl<|o8 (.ptr 0 0 3) rfl tr rfl<|s_on rfl<|o8 (.I A.Max) rfl nle rfl<|s_on rfl<|?_
    obtain ⟨J,er19,hb1⟩:=ob hb1
    refine x8 (a0j (a3x _ _ _ _ er19) rfl .r rfl)<|s_on rfl<|o8 (.bool (!J)) rfl tr rfl<|o8 (.bool (!J)) rfl tr rfl<|y5<|?_;obtain rfl:=os hb1;exact ⟨[],[0],_,_,rfl,rfl,⟨.r,⟨.r,tr⟩⟩,.r⟩
 ·rcases oi hf with ⟨c20,hf⟩ | ⟨c20,hf⟩
  ·refine y8 rfl c20<|sr<|l7 (.bool false) rfl<|dk<|a0b<|?_;obtain rfl:=os hf;exact y7 ⟨tr,tr⟩ rfl .r
  ·refine y9 rfl (bf c20)<|a0k<|a0m<|o7<|sr<|o8 (.ptr 0 0 1) rfl tr rfl<|o8 (.I A.Kind) rfl nle rfl<|dk<|a3y<|sr<|o8 (.bool (A.Kind == 1)) rfl rfl rfl<|l7 (.bool (A.Kind == 1)) rfl<|dk<|?_
   rcases oi hf with ⟨c21,hf⟩ | ⟨c21,hf⟩
   ·refine y8 rfl c21<|sr<|o8 (.ptr 0 0 4) rfl tr rfl<|o8 (.I A.Low) rfl nle rfl<|?_
    obtain ⟨K,er23,hf⟩:=ob hf
    refine x8 (a0j (b1r _ _ er23) rfl .r rfl)<|l7 (.bool K) rfl<|?_
    rcases oi hf with ⟨c24,hf⟩ | ⟨c24,hf⟩
    ·refine a0i (s:=26) (b:=true) rfl c24<|s_on rfl<|o8 (.ptr 0 0 5) rfl tr rfl<|s_on rfl<|o8 (.I A.High) rfl nle rfl<|s_on rfl<|?_
     obtain ⟨B,er26,hf⟩:=ob hf
     refine x8 (a0j (b1r _ _ er26) rfl .r rfl)<|o8 (.bool B) rfl tr rfl<|l7 (.bool B) rfl<|?_;refine s_g (v:=B) (.ptr 0 0 4) rfl (fun hv => by (try simp only [o9 hv]);exact ⟨rfl,tr,rfl⟩) ?_;refine s_g (v:=B) (.I A.Low) rfl (fun hv => by (try simp only [o9 hv]);exact ⟨rfl,nle,rfl⟩) ?_;refine s_g (v:=B) (.ptr 0 0 5) rfl (fun hv => by (try simp only [o9 hv]);exact ⟨rfl,tr,rfl⟩) ?_;refine s_g (v:=B) (.I A.High) rfl (fun hv => by (try simp only [o9 hv]);exact ⟨rfl,nle,rfl⟩) ?_;refine s_g (v:=B) (.bool (decide (A.Low ≤ A.High))) rfl (fun hv => by (try simp only [o9 hv]);exact ⟨rfl,rfl,rfl⟩) ?_
     refine a2a (x:=(decide (A.Low ≤ A.High))) (y:=false) rfl (fun hv => by (try simp only [o9 hv]);rfl) (fun hv => by (try simp only [o9 hv]);rfl) ?_;refine l7 (.bool (bif B then (decide (A.Low ≤ A.High)) else false)) rfl ?_;refine s_g (v:=(bif B then (decide (A.Low ≤ A.High)) else false)) (.ptr 0 0 6) rfl (fun hv => by (try simp only [o9 hv]);exact ⟨rfl,tr,rfl⟩) ?_;refine s_g (v:=(bif B then (decide (A.Low ≤ A.High)) else false)) (.str A.Ref) rfl (fun hv => by (try simp only [o9 hv]);exact ⟨rfl,nle,rfl⟩) ?_;refine s_g (v:=(bif B then (decide (A.Low ≤ A.High)) else false)) (.bool (A.Ref == [])) rfl (fun hv => by (try simp only [o9 hv]);exact ⟨rfl,tr,rfl⟩) ?_
     refine a2a (x:=(A.Ref == [])) (y:=false) rfl (fun hv => by (try simp only [o9 hv]);rfl) (fun hv => by (try simp only [o9 hv]);rfl) ?_;refine l7 (.bool (bif (bif B then (decide (A.Low ≤ A.High)) else false) then (A.Ref == []) else false)) rfl ?_;refine s_g (v:=(bif (bif B then (decide (A.Low ≤ A.High)) else false) then (A.Ref == []) else false)) (.ptr 0 0 7) rfl (fun hv => by (try simp only [o9 hv]);exact ⟨rfl,tr,rfl⟩) ?_;refine s_g (v:=(bif (bif B then (decide (A.Low ≤ A.High)) else false) then (A.Ref == []) else false)) (.bool A.Strong) rfl (fun hv => by (try simp only [o9 hv]);exact ⟨rfl,nle,rfl⟩) ?_;refine s_g (v:=(bif (bif B then (decide (A.Low ≤ A.High)) else false) then (A.Ref == []) else false)) (.bool (!A.Strong)) rfl (fun hv => by (try simp only [o9 hv]);exact ⟨rfl,tr,rfl⟩) ?_
     refine a2a (x:=(!A.Strong)) (y:=false) rfl (fun hv => by (try simp only [o9 hv]);rfl) (fun hv => by (try simp only [o9 hv]);rfl) ?_;refine l7 (.bool (bif (bif (bif B then (decide (A.Low ≤ A.High)) else false) then (A.Ref == []) else false) then (!A.Strong) else false)) rfl<|dk<|a0b<|?_;obtain rfl:=os hf;exact y7 ⟨tr,tr⟩ rfl .r
    ·refine a0i (s:=26) (b:=false) rfl (bf c24)<|o6 rfl rfl<|o6 rfl rfl<|o6 rfl rfl<|o8 (.bool false) rfl tr rfl<|l7 (.bool false) rfl<|o6 rfl rfl<|o6 rfl rfl<|o6 rfl rfl<|o6 rfl rfl<|o6 rfl rfl<|o8 (.bool false) rfl tr rfl<|l7 (.bool false) rfl<|o6 rfl rfl<|o6 rfl rfl<|o6 rfl rfl<|o8 (.bool false) rfl tr rfl<|l7 (.bool false) rfl<|o6 rfl rfl<|o6 rfl rfl<|o6 rfl rfl<|o8 (.bool false) rfl tr rfl<|l7 (.bool false) rfl<|dk<|a0b<|?_;obtain rfl:=os hf;exact y7 ⟨tr,tr⟩ rfl .r
   ·refine y9 rfl (bf c21)<|o7<|?_
    obtain ⟨G,hb1,hf⟩:=ob hf
    refine a1k ([(1,(.ptr 0 0 0)),(20,(.I A.Kind)),(48,(.bool G))],[.box 8 (.agg [(.str A.Name),(.I A.Kind),(.I A.Min),(.I A.Max),(.I A.Low),(.I A.High),(.str A.Ref),(.bool A.Strong)])]) ?_ ?_
    ·refine sr<|o8 (.bool (A.Kind == 2)) rfl rfl rfl<|l7 (.bool (A.Kind == 2)) rfl<|dk<|?_
     rcases oi hb1 with ⟨c30,hb1⟩ | ⟨c30,hb1⟩
     ·refine y8 rfl c30<|a0k<|?_;obtain rfl:=os hb1;exact ⟨[],[0],_,_,rfl,rfl,⟨.r,⟨.r,⟨.r,tr⟩⟩⟩,.r⟩
     ·refine y9 rfl (bf c30)<|a0r<|o8 (.bool (A.Kind == 3)) rfl rfl rfl<|l7 (.bool (A.Kind == 3)) rfl<|y5<|?_;obtain rfl:=os hb1;exact ⟨[],[0],_,_,rfl,rfl,⟨.r,⟨.r,⟨.r,tr⟩⟩⟩,.r⟩
    ·rcases oi hf with ⟨c31,hf⟩ | ⟨c31,hf⟩
     ·refine y8 rfl c31<|sr<|o8 (.ptr 0 0 4) rfl tr rfl<|o8 (.I A.Low) rfl nle rfl<|o8 (.bool (A.Low == 0)) rfl rfl rfl<|l7 (.bool (A.Low == 0)) rfl<|?_;refine s_g (v:=(A.Low == 0)) (.ptr 0 0 5) rfl (fun hv => by (try simp only [o9 hv]);exact ⟨rfl,tr,rfl⟩) ?_;refine s_g (v:=(A.Low == 0)) (.I A.High) rfl (fun hv => by (try simp only [o9 hv]);exact ⟨rfl,nle,rfl⟩) ?_;refine s_g (v:=(A.Low == 0)) (.bool (A.High == 0)) rfl (fun hv => by (try simp only [o9 hv]);exact ⟨rfl,rfl,rfl⟩) ?_;refine a2a (x:=(A.High == 0)) (y:=false) rfl (fun hv => by (try simp only [o9 hv]);rfl) (fun hv => by (try simp only [o9 hv]);rfl) ?_
      refine l7 (.bool (bif (A.Low == 0) then (A.High == 0) else false)) rfl ?_;refine s_g (v:=(bif (A.Low == 0) then (A.High == 0) else false)) (.ptr 0 0 6) rfl (fun hv => by (try simp only [o9 hv]);exact ⟨rfl,tr,rfl⟩) ?_;refine s_g (v:=(bif (A.Low == 0) then (A.High == 0) else false)) (.str A.Ref) rfl (fun hv => by (try simp only [o9 hv]);exact ⟨rfl,nle,rfl⟩) ?_;refine s_g (v:=(bif (A.Low == 0) then (A.High == 0) else false)) (.bool (A.Ref == [])) rfl (fun hv => by (try simp only [o9 hv]);exact ⟨rfl,tr,rfl⟩) ?_;refine a2a (x:=(A.Ref == [])) (y:=false) rfl (fun hv => by (try simp only [o9 hv]);rfl) (fun hv => by (try simp only [o9 hv]);rfl) ?_
      refine l7 (.bool (bif (bif (A.Low == 0) then (A.High == 0) else false) then (A.Ref == []) else false)) rfl ?_;refine s_g (v:=(bif (bif (A.Low == 0) then (A.High == 0) else false) then (A.Ref == []) else false)) (.ptr 0 0 7) rfl (fun hv => by (try simp only [o9 hv]);exact ⟨rfl,tr,rfl⟩) ?_;refine s_g (v:=(bif (bif (A.Low == 0) then (A.High == 0) else false) then (A.Ref == []) else false)) (.bool A.Strong) rfl (fun hv => by (try simp only [o9 hv]);exact ⟨rfl,nle,rfl⟩) ?_;refine s_g (v:=(bif (bif (A.Low == 0) then (A.High == 0) else false) then (A.Ref == []) else false)) (.bool (!A.Strong)) rfl (fun hv => by (try simp only [o9 hv]);exact ⟨rfl,tr,rfl⟩) ?_
      refine a2a (x:=(!A.Strong)) (y:=false) rfl (fun hv => by (try simp only [o9 hv]);rfl) (fun hv => by (try simp only [o9 hv]);rfl) ?_;refine l7 (.bool (bif (bif (bif (A.Low == 0) then (A.High == 0) else false) then (A.Ref == []) else false) then (!A.Strong) else false)) rfl<|dk<|a0b<|?_;obtain rfl:=os hf;exact y7 ⟨tr,tr⟩ rfl .r
     ·refine y9 rfl (bf c31)<|sr<|o8 (.bool (A.Kind == 4)) rfl rfl rfl<|l7 (.bool (A.Kind == 4)) rfl<|dk<|?_
      rcases oi hf with ⟨c32,hf⟩ | ⟨c32,hf⟩
      ·refine y8 rfl c32<|sr<|o8 (.ptr 0 0 4) rfl tr rfl<|o8 (.I A.Low) rfl nle rfl<|o8 (.bool (A.Low == 0)) rfl rfl rfl<|l7 (.bool (A.Low == 0)) rfl<|?_;refine s_g (v:=(A.Low == 0)) (.ptr 0 0 5) rfl (fun hv => by (try simp only [o9 hv]);exact ⟨rfl,tr,rfl⟩) ?_;refine s_g (v:=(A.Low == 0)) (.I A.High) rfl (fun hv => by (try simp only [o9 hv]);exact ⟨rfl,nle,rfl⟩) ?_;refine s_g (v:=(A.Low == 0)) (.bool (A.High == 0)) rfl (fun hv => by (try simp only [o9 hv]);exact ⟨rfl,rfl,rfl⟩) ?_;refine a2a (x:=(A.High == 0)) (y:=false) rfl (fun hv => by (try simp only [o9 hv]);rfl) (fun hv => by (try simp only [o9 hv]);rfl) ?_
       refine l7 (.bool (bif (A.Low == 0) then (A.High == 0) else false)) rfl ?_
       rcases oi hf with ⟨c33,hf⟩ | ⟨c33,hf⟩
       ·refine a0i (s:=79) (b:=true) rfl c33<|s_on rfl<|o8 (.ptr 0 0 6) rfl tr rfl<|s_on rfl<|o8 (.str A.Ref) rfl nle rfl<|s_on rfl<|?_
        obtain ⟨D,er35,hf⟩:=ob hf
        refine x8 (a0j (a8t _ _ er35) rfl .r rfl)<|o8 (.bool D) rfl tr rfl<|l7 (.bool D) rfl<|?_;refine s_g (v:=D) (.ptr 0 0 2) rfl (fun hv => by (try simp only [o9 hv]);exact ⟨rfl,tr,rfl⟩) ?_;refine s_g (v:=D) (.I A.Min) rfl (fun hv => by (try simp only [o9 hv]);exact ⟨rfl,nle,rfl⟩) ?_;refine s_g (v:=D) (.bool (A.Min == 0)) rfl (fun hv => by (try simp only [o9 hv]);exact ⟨rfl,rfl,rfl⟩) ?_;refine a2a (x:=(A.Min == 0)) (y:=false) rfl (fun hv => by (try simp only [o9 hv]);rfl) (fun hv => by (try simp only [o9 hv]);rfl) ?_;refine l7 (.bool (bif D then (A.Min == 0) else false)) rfl<|dk<|a0b<|?_;obtain rfl:=os hf
        exact y7 ⟨tr,tr⟩ rfl .r
       ·refine a0i (s:=79) (b:=false) rfl (bf c33)<|o6 rfl rfl<|o6 rfl rfl<|o6 rfl rfl<|o8 (.bool false) rfl tr rfl<|l7 (.bool false) rfl<|o6 rfl rfl<|o6 rfl rfl<|o6 rfl rfl<|o8 (.bool false) rfl tr rfl<|l7 (.bool false) rfl<|dk<|a0b<|?_;obtain rfl:=os hf;exact y7 ⟨tr,tr⟩ rfl .r
      ·refine y9 rfl (bf c32)<|a0k<|a2y<|a0m<|sr<|l7 (.bool false) rfl<|dk<|a0b<|?_;obtain rfl:=os hf;exact y7 ⟨tr,tr⟩ rfl .r

/- slices.IndexFunc[[]impl.Column,impl.Column] -/
def d5a:a0s :=
 (.seq (.reg (tm 4 (.c (.int .i64 0)) .done))
 (.seq (.seq (.reg (tm 6 (.t 0) (tq 7 (.len (.t 6)) (tm 8 (.c (.int .i64 0)) .done))))
 (.block 0 (.loop (.seq (.reg (tq 9 (.bin .lss (.t 8) (.t 7)) .done))
 (.seq (.cond (.t 9) .skip
 (.exit 0))
 (.seq (.block 1 (.seq (.reg (tm 10 (.t 8) (tm 5 (.t 10) .done)))
 (.seq (.reg (tm 11 (.t 1) (tm 12 (.t 0) (tm 13 (.t 5) (tq 14 (.iaddr 8 (.t 12) (.t 13)) (tq 15 (.load 8 true (.t 14)) (tq 16 (.calv (.t 11) [(.t 15)]) .done)))))))
 (.cond (.t 16) (.seq (.reg (tm 17 (.t 5) (tm 4 (.t 17) .done)))
 .ret)
 .skip))))
 (.reg (tq 18 (.bin .add (.t 8) (.c (.int .i64 1))) (tm 8 (.t 18) .done)))))))))
 (.cut (.seq (.reg (tq 4 (.mov (.c (.int .i64 (-1)))) .done))
 .ret))))
theorem e2x:a1e Tryz.prog Tryz.f338 = some (d5a.erase,[.mov (.t 4)],19):=by kernel_rfl
def a1b (D:(a0v → Option Bool)):List a0v → Nat → Option (Fl Int Unit)
  | [],A =>
    some (.go ())
  | E :: xs,A =>
    (D E).bind fun F =>
    if F then
    some (.ret (A:Int))
    else
    a1b D xs (A + 1)

def a1y (B:(List a0v)) (D:(a0v → Option Bool)):Option Int :=
    (a1b D B 0).bind fun q => (match q with
    | .ret r => some r
    | .go _ =>
    some (-1))
theorem a6m (B:(List a0v)) (D:(a0v → Option Bool)) (r:Int) (hf:a1y B D = some r) (kf_f_2:Nat) (cf_f_2:List AV) (okf_f_2:b6u Tryz.prog kf_f_2 = true) (hcf_f_2:∀ h p,a3k h p cf_f_2 = some cf_f_2) (hrf_f_2:∀ f,a8a f cf_f_2 = cf_f_2) (hpf_f_2:∀ a0 r,D a0 = some r → a0a Tryz.prog kf_f_2 .flat ([(o5 a0)] ++ cf_f_2) (.bool r)):a0a Tryz.prog 338 .flat [(.lst 8 (B.map o5)),(.fn kf_f_2 cf_f_2)] (.I r):=by
 refine a0a.of_awp mixed Tryz.func338 e2x nle ?_;rw [a0n];unfold a1y at hf;unfold d5a;refine (show awp Tryz.prog false 0 _ (ofL [(0,(.lst 8 (B.map o5))),(1,(.fn kf_f_2 cf_f_2))]) [] _ from ?_);refine sr<|l7 (.I 0) rfl<|dk<|o7<|sr<|l7 (.lst 8 (B.map o5)) rfl<|a1i (a1p (enc:=o5) rfl) fun hl3 => l7 (.I 0) rfl<|dk<|?_
 obtain ⟨p24,hb1,hf⟩:=ob hf
 refine a2c (X:={q:Unit // p24 = .go q}) (fun q => ([],[])) ?_ ?_
 ·refine a1v (X:={q:Nat // a1b D (B.drop q) q = some p24}) (fun q => ([(0,(.lst 8 (B.map o5))),(1,(.fn kf_f_2 cf_f_2)),(7,(.I (B.length:Int))),(8,(.I (q.1:Int)))],[])) (fun q => B.length - q.1) ⟨0,hb1⟩ ⟨[],[],_,_,rfl,rfl,⟨.r,⟨.of_eq (congrArg (AV.fn _) (hrf_f_2 _)),⟨.r,⟨.r,tr⟩⟩⟩⟩,.r⟩ ?_
  rintro ⟨A,hc1⟩
  have hc1:a1b D (B.drop A) A = some p24:=hc1
  refine (show awp Tryz.prog false 0 _ (ofL [(0,(.lst 8 (B.map o5))),(1,(.fn kf_f_2 cf_f_2)),(7,(.I (B.length:Int))),(8,(.I (A:Int)))]) [] _ from ?_)
  rcases a6c B A with ⟨hie27,hd30⟩ | ⟨hlt25,E,hx26,hd30⟩
  ·rw [hd30,a1b.eq_1] at hc1
   have hq29:=dlf hie27
   refine sr<|o8 (.bool (decide ((A:Int) < (B.length:Int)))) rfl rfl rfl<|dk<|o7<|y9 rfl hq29<|a3i<|a3h<|a2e<|a3g<|?_;obtain rfl:=os hc1;exact a4b ⟨_,rfl⟩ ⟨[],[],_,_,rfl,rfl,tr,.r⟩
  ·rw [hd30,a1b.eq_2] at hc1
   have hq29:=dlt hlt25
   refine sr<|o8 (.bool (decide ((A:Int) < (B.length:Int)))) rfl rfl rfl<|dk<|o7<|y8 rfl hq29<|a0k<|a0m<|o7<|a3y<|sr<|l7 (.I (A:Int)) rfl<|l7 (.I (A:Int)) rfl<|dk<|sr<|?_
   obtain ⟨F,er33,hc1⟩:=ob hc1
   refine l7 (.fn kf_f_2 cf_f_2) rfl<|l7 (.lst 8 (B.map o5)) rfl<|l7 (.I (A:Int)) rfl<|x8 (a1o (enc:=o5) rfl rfl hx26)<|o8 (o5 E) rfl nle rfl<|x8 (b5p (v:=(.bool F)) rfl okf_f_2 hcf_f_2 (hpf_f_2 _ _ er33) rfl .r rfl)<|dk<|?_
   rcases oi hc1 with ⟨c34,hc1⟩ | ⟨c34,hc1⟩
   ·refine y8 rfl c34<|sr<|l7 (.I (A:Int)) rfl<|l7 (.I (A:Int)) rfl<|dk<|a0b<|?_;obtain rfl:=os hc1;obtain rfl:=os hf;exact y7 ⟨tr,tr⟩ rfl .r
   ·refine y9 rfl (bf c34)<|a0k<|a2y<|a0m<|a0r<|o8 (.I (w64 ((A:Int) + 1))) rfl rfl rfl<|l7 (.I (w64 ((A:Int) + 1))) rfl<|y5<|?_;exact a1z ⟨(A + 1),hc1⟩ (mul hlt25) ⟨[],[],_,_,rfl,rfl,⟨.r,⟨.of_eq (congrArg (AV.fn _) (hrf_f_2 _)),⟨.r,⟨.of_eq (congrArg (AV.int _) (a1x hlt25 hl3)),tr⟩⟩⟩⟩,.r⟩
 ·rintro ⟨_,rfl⟩
  refine sr<|l7 (.I (-1)) rfl<|dk<|a0b<|?_;obtain rfl:=os hf;exact y7 ⟨tr,tr⟩ rfl .r

/- (impl.Table).columnAt$1 -/
def e2y:a0s :=
 (.seq (.reg (tq 2 (.box 8 (.t 0)) (tm 3 (.c (.bool false)) .done)))
 (.seq (.reg (tq 4 (.faddr 0 (.t 2)) (tq 5 (.load 1 false (.t 4)) (tq 6 (.load 1 false (.t 1)) (tq 7 (.bin .eql (.t 5) (.t 6)) (tm 3 (.t 7) .done))))))
 .ret))
theorem e2z:a1e Tryz.prog Tryz.f351 = some (e2y.erase,[.mov (.t 3)],8):=by kernel_rfl
def a8g (A:a0v) (B:Str):Option Bool :=
    some (A.Name == B)
theorem b6k (A:a0v) (B:Str) (r:Bool) (hf:a8g A B = some r):a0a Tryz.prog 351 .flat [(o5 A),(.iptr (.str B) 0)] (.bool r):=by
  refine a0a.of_awp mixed Tryz.func351 e2z nle ?_
  rw [a0n]
  unfold a8g at hf
  unfold e2y
  refine (show awp Tryz.prog false 0 _ (ofL [(0,(o5 A)),(1,(.iptr (.str B) 0))]) [] _ from ?_)
  refine o7 ?_
  refine a0r ?_
  refine x8 (a1j (j:=0) (c:=(.agg [(.str A.Name),(.I A.Kind),(.I A.Min),(.I A.Max),(.I A.Low),(.I A.High),(.str A.Ref),(.bool A.Strong)])) rfl tr rfl rfl) ?_
  refine x8 (a2w (.bool false) rfl) ?_
  refine y5 ?_
  refine a0m ?_
  refine o7 ?_
  refine a0r ?_
  refine x8 (o_q (.ptr 0 0 0) rfl tr rfl) ?_
  refine x8 (o_q (.str A.Name) rfl nle rfl) ?_
  refine x8 (o_q (.str B) rfl ⟨rfl,rfl⟩ rfl) ?_
  refine x8 (o_q (.bool (A.Name == B)) rfl tr rfl) ?_
  refine x8 (a2w (.bool (A.Name == B)) rfl) ?_
  refine y5 ?_
  refine a0m ?_
  refine a0b ?_
  obtain rfl:=os hf
  exact y7 ⟨tr,tr⟩ rfl .r

/- (impl.Table).columnAt -/
def e3a:a0s :=
 (.seq (.reg (tq 2 (.box 4 (.t 0)) (tq 3 (.box 1 (.t 1)) (tm 4 (.c (.int .i64 0)) .done))))
 (.seq (.reg (tq 5 (.faddr 1 (.t 2)) (tq 6 (.load 1 false (.t 5)) (tq 7 (.mkfn 351 [(.t 3)]) (tq 8 (.call 338 [(.t 6),(.t 7)]) (tm 4 (.t 8) .done))))))
 .ret))
theorem e3c:a1e Tryz.prog Tryz.f254 = some (e3a.erase,[.mov (.t 4)],9):=by kernel_rfl
def a4o (B:a0q) (A:Str):Option Int :=
    (a1y B.Columns (fun a0 => a8g a0 A)).bind fun D =>
    some D
theorem a8h (B:a0q) (A:Str) (r:Int) (hf:a4o B A = some r):a0a Tryz.prog 254 .flat [(x9 B),(.str A)] (.I r):=by
  refine a0a.of_awp mixed Tryz.func254 e3c nle ?_
  rw [a0n]
  unfold a4o at hf
  unfold e3a
  refine (show awp Tryz.prog false 0 _ (ofL [(0,(x9 B)),(1,(.str A))]) [] _ from ?_)
  refine o7 ?_
  refine a0r ?_
  refine x8 (a1j (j:=0) (c:=(.agg [(.str B.Name),(.lst 8 (B.Columns.map o5)),(.lst 1 (B.Unique.map encI)),(.bool B.Root)])) rfl tr rfl rfl) ?_
  refine x8 (a1j (j:=1) (c:=(.str A)) rfl tr rfl rfl) ?_
  refine x8 (a2w (.I 0) rfl) ?_
  refine y5 ?_
  refine a0m ?_
  refine o7 ?_
  refine a0r ?_
  obtain ⟨D,er4,hf⟩:=ob hf
  refine x8 (o_q (.ptr 0 0 1) rfl tr rfl) ?_
  refine x8 (o_q (.lst 8 (B.Columns.map o5)) rfl nle rfl) ?_
  refine x8 (o_q (.fn 351 [(.ptr 1 0 0)]) rfl tr rfl) ?_
  refine x8 (a0j (a6m _ _ _ er4 351 [(.iptr (.str A) 0)] (by kernel_rfl) (fun _ _ => rfl) (fun _ => rfl) (fun a0 r h => b6k a0 A r h)) rfl .r rfl) ?_
  refine x8 (a2w (.I D) rfl) ?_
  refine y5 ?_
  refine a0m ?_
  refine a0b ?_
  obtain rfl:=os hf
  exact y7 ⟨tr,tr⟩ rfl .r

/- impl.isTable -/
def e3d:a0s :=
 (.seq (.reg (tq 1 (.box 4 (.t 0)) (tm 2 (.c (.bool false)) .done)))
 (.seq (.seq (.reg (tq 7 (.faddr 0 (.t 1)) (tq 8 (.load 1 false (.t 7)) (tq 9 (.call 117 [(.t 8)]) (tq 10 (.not (.t 9)) (tm 11 (.t 10) (tg 12 11 false (.faddr 1 (.t 1)) (tg 13 11 false (.load 1 false (.t 12)) (tg 14 11 false (.len (.t 13)) (tg 15 11 false (.call 114 [(.t 14),(.c (.int .i64 1)),(.c (.int .i64 6))]) (tg 16 11 false (.not (.t 15)) (tq 17 (.pick (.t 11) (.c (.bool true)) (.t 16)) (tm 18 (.t 17) (tg 19 18 false (.faddr 2 (.t 1)) (tg 20 18 false (.load 1 false (.t 19)) (tg 21 18 false (.len (.t 20)) (tg 22 18 false (.faddr 1 (.t 1)) (tg 23 18 false (.load 1 false (.t 22)) (tg 24 18 false (.len (.t 23)) (tg 25 18 false (.bin .gtr (.t 21) (.t 24)) (tq 26 (.pick (.t 18) (.c (.bool true)) (.t 25)) .done)))))))))))))))))))))
 (.cut (.cond (.t 26) (.seq (.reg (tm 2 (.c (.bool false)) .done))
 .ret)
 .skip)))
 (.seq (.seq (.reg (tq 27 (.faddr 1 (.t 1)) (tq 28 (.load 1 false (.t 27)) (tq 29 (.len (.t 28)) (tm 30 (.c (.int .i64 0)) .done)))))
 (.block 0 (.loop (.seq (.reg (tq 31 (.bin .lss (.t 30) (.t 29)) .done))
 (.seq (.cond (.t 31) .skip
 (.exit 0))
 (.seq (.block 1 (.seq (.reg (tm 32 (.t 30) (tq 33 (.iaddr 8 (.t 28) (.t 30)) (tq 34 (.load 8 true (.t 33)) (tq 4 (.box 8 (.c (.agg [(.str []),(.int .i64 0),(.int .i64 0),(.int .i64 0),(.int .i64 0),(.int .i64 0),(.str []),(.bool false)]))) (tm 3 (.t 32) (.q ⟨none,none,.store 8 (.t 4) (.t 34)⟩
 .done)))))))
 (.seq (.reg (tq 35 (.load 8 true (.t 4)) (tq 36 (.call 121 [(.t 35)]) (tq 37 (.not (.t 36)) (tm 38 (.t 37) (tg 39 38 false (.load 4 true (.t 1)) (tg 40 38 false (.faddr 0 (.t 4)) (tg 41 38 false (.load 1 false (.t 40)) (tg 42 38 false (.call 254 [(.t 39),(.t 41)]) (tg 43 38 false (.mov (.t 3)) (tg 44 38 false (.bin .neq (.t 42) (.t 43)) (tq 45 (.pick (.t 38) (.c (.bool true)) (.t 44)) .done))))))))))))
 (.cut (.cond (.t 45) (.seq (.reg (tm 2 (.c (.bool false)) .done))
 .ret)
 .skip)))))
 (.reg (tq 46 (.bin .add (.t 30) (.c (.int .i64 1))) (tm 30 (.t 46) .done)))))))))
 (.cut (.seq (.seq (.reg (tq 47 (.faddr 2 (.t 1)) (tq 48 (.load 1 false (.t 47)) (tq 49 (.len (.t 48)) (tm 50 (.c (.int .i64 0)) .done)))))
 (.block 2 (.loop (.seq (.reg (tq 51 (.bin .lss (.t 50) (.t 49)) .done))
 (.seq (.cond (.t 51) .skip
 (.exit 2))
 (.seq (.block 3 (.seq (.reg (tm 52 (.t 50) (tq 53 (.iaddr 1 (.t 48) (.t 50)) (tq 54 (.load 1 false (.t 53)) (tm 5 (.t 52) (tm 6 (.t 54) .done))))))
 (.seq (.reg (tm 55 (.t 6) (tq 56 (.faddr 1 (.t 1)) (tq 57 (.load 1 false (.t 56)) (tq 58 (.len (.t 57)) (tq 59 (.bin .sub (.t 58) (.c (.int .i64 1))) (tq 60 (.call 114 [(.t 55),(.c (.int .i64 0)),(.t 59)]) (tq 61 (.not (.t 60)) (tm 62 (.t 61) (tg 63 62 false (.mov (.t 5)) (tg 64 62 false (.bin .gtr (.t 63) (.c (.int .i64 0))) (tg 65 62 false (.mov (.t 64)) (tg 66 65 true (.faddr 2 (.t 1)) (tg 67 65 true (.load 1 false (.t 66)) (tg 68 65 true (.mov (.t 5)) (tg 69 65 true (.bin .sub (.t 68) (.c (.int .i64 1))) (tg 70 65 true (.iaddr 1 (.t 67) (.t 69)) (tg 71 65 true (.load 1 false (.t 70)) (tg 72 65 true (.mov (.t 6)) (tg 73 65 true (.bin .geq (.t 71) (.t 72)) (tg 74 62 false (.pick (.t 65) (.t 73) (.c (.bool false))) (tq 75 (.pick (.t 62) (.c (.bool true)) (.t 74)) .done))))))))))))))))))))))
 (.cut (.cond (.t 75) (.seq (.reg (tm 2 (.c (.bool false)) .done))
 .ret)
 .skip)))))
 (.reg (tq 76 (.bin .add (.t 50) (.c (.int .i64 1))) (tm 50 (.t 76) .done)))))))))
 (.cut (.seq (.reg (tm 2 (.c (.bool true)) .done))
 .ret)))))))
theorem e3e:a1e Tryz.prog Tryz.f132 = some (e3d.erase,[.mov (.t 2)],77):=by kernel_rfl
def a5q (A:a0q):List a0v → Nat → Option (Fl Bool Unit)
  | [],E =>
    some (.go ())
  | D :: xs,E =>
    (((b1f D).bind fun J =>
    if (!J) then
    some true
    else
    (a4o A D.Name).bind fun O =>
    some (O != (E:Int)):Option Bool)).bind fun M =>
    if M then
    some (.ret false)
    else
    a5q A xs (E + 1)

def a5r (A:a0q):List Int → Nat → Option (Fl Bool Unit)
  | [],B =>
    some (.go ())
  | F :: xs,B =>
    (((a3t F 0 (w64 ((A.Columns.length:Int) - 1))).bind fun L =>
    if (!L) then
    some true
    else
    if (decide ((B:Int) > 0)) then
    (idx A.Unique (w64 ((B:Int) - 1))).bind fun H =>
    some (decide (H ≥ F))
    else
    some false:Option Bool)).bind fun K =>
    if K then
    some (.ret false)
    else
    a5r A xs (B + 1)

def b0s (A:a0q):Option Bool :=
    (((a7i A.Name).bind fun P =>
    if (!P) then
    some true
    else
    (a3t (A.Columns.length:Int) 1 6).bind fun G =>
    some (bif (!G) then true else (decide ((A.Unique.length:Int) > (A.Columns.length:Int)))):Option Bool)).bind fun N =>
    if N then
    some false
    else
    (a5q A A.Columns 0).bind fun q => (match q with
    | .ret r => some r
    | .go _ =>
    (a5r A A.Unique 0).bind fun q => (match q with
    | .ret r => some r
    | .go _ =>
    some true))
theorem c4z (A:a0q) (r:Bool) (hf:b0s A = some r):a0a Tryz.prog 132 .flat [(x9 A)] (.bool r):=by
 refine a0a.of_awp mixed Tryz.func132 e3e nle ?_;rw [a0n];unfold b0s at hf;unfold e3d;refine (show awp Tryz.prog false 0 _ (ofL [(0,(x9 A))]) [] _ from ?_);refine sr<|x8 (a1j (j:=0) (c:=(.agg [(.str A.Name),(.lst 8 (A.Columns.map o5)),(.lst 1 (A.Unique.map encI)),(.bool A.Root)])) rfl tr rfl rfl)<|l7 (.bool false) rfl<|dk<|o7<|o7<|?_
 obtain ⟨N,hb1,hf⟩:=ob hf
 refine a1k ([(1,(.ptr 0 0 0)),(26,(.bool N))],[.box 4 (.agg [(.str A.Name),(.lst 8 (A.Columns.map o5)),(.lst 1 (A.Unique.map encI)),(.bool A.Root)])]) ?_ ?_
 ·refine a0r<|o8 (.ptr 0 0 0) rfl tr rfl<|o8 (.str A.Name) rfl nle rfl<|?_
  obtain ⟨P,er14,hb1⟩:=ob hb1
  refine x8 (a0j (a8t _ _ er14) rfl .r rfl)<|o8 (.bool (!P)) rfl tr rfl<|l7 (.bool (!P)) rfl<|?_
  rcases oi hb1 with ⟨c16,hb1⟩ | ⟨c16,hb1⟩
  ·refine a0i (s:=11) (b:=true) rfl c16<|o6 rfl rfl<|o6 rfl rfl<|o6 rfl rfl<|o6 rfl rfl<|o6 rfl rfl<|o8 (.bool true) rfl tr rfl<|l7 (.bool true) rfl<|o6 rfl rfl<|o6 rfl rfl<|o6 rfl rfl<|o6 rfl rfl<|o6 rfl rfl<|o6 rfl rfl<|o6 rfl rfl<|o8 (.bool true) rfl tr rfl<|y5<|?_;obtain rfl:=os hb1;exact ⟨[],[0],_,_,rfl,rfl,⟨.r,⟨.r,tr⟩⟩,.r⟩
  ·refine a0i (s:=11) (b:=false) rfl (bf c16)<|s_on rfl<|o8 (.ptr 0 0 1) rfl tr rfl<|s_on rfl<|o8 (.lst 8 (A.Columns.map o5)) rfl nle rfl<|s_on rfl<|a1i (a1p (enc:=o5) rfl) fun hl17 => s_on rfl<|?_
   obtain ⟨G,er19,hb1⟩:=ob hb1
   refine x8 (a0j (a3x _ _ _ _ er19) rfl .r rfl)<|s_on rfl<|o8 (.bool (!G)) rfl tr rfl<|o8 (.bool (!G)) rfl tr rfl<|l7 (.bool (!G)) rfl<|?_;refine s_g (v:=(!G)) (.ptr 0 0 2) rfl (fun hv => by (try simp only [o9 hv]);exact ⟨rfl,tr,rfl⟩) ?_;refine s_g (v:=(!G)) (.lst 1 (A.Unique.map encI)) rfl (fun hv => by (try simp only [o9 hv]);exact ⟨rfl,nle,rfl⟩) ?_;refine s_g (v:=(!G)) (.I (A.Unique.length:Int)) rfl (fun hv => by (try simp only [o9 hv]);exact ⟨rfl,tr,lenV _ _⟩) ?_;refine s_g (v:=(!G)) (.ptr 0 0 1) rfl (fun hv => by (try simp only [o9 hv]);exact ⟨rfl,tr,rfl⟩) ?_;refine s_g (v:=(!G)) (.lst 8 (A.Columns.map o5)) rfl (fun hv => by (try simp only [o9 hv]);exact ⟨rfl,nle,rfl⟩) ?_
   refine s_g (v:=(!G)) (.I (A.Columns.length:Int)) rfl (fun hv => by (try simp only [o9 hv]);exact ⟨rfl,tr,lenV _ _⟩) ?_;refine s_g (v:=(!G)) (.bool (decide ((A.Unique.length:Int) > (A.Columns.length:Int)))) rfl (fun hv => by (try simp only [o9 hv]);exact ⟨rfl,rfl,rfl⟩) ?_;refine a2a (x:=true) (y:=(decide ((A.Unique.length:Int) > (A.Columns.length:Int)))) rfl (fun hv => by (try simp only [o9 hv]);rfl) (fun hv => by (try simp only [o9 hv]);rfl) ?_;refine y5 ?_;obtain rfl:=os hb1;exact ⟨[],[0],_,_,rfl,rfl,⟨.r,⟨.r,tr⟩⟩,.r⟩
 ·rcases oi hf with ⟨c22,hf⟩ | ⟨c22,hf⟩
  ·refine y8 rfl c22<|sr<|l7 (.bool false) rfl<|dk<|a0b<|?_;obtain rfl:=os hf;exact y7 ⟨tr,tr⟩ rfl .r
  ·refine y9 rfl (bf c22)<|a0k<|a0m<|o7<|sr<|o8 (.ptr 0 0 1) rfl tr rfl<|o8 (.lst 8 (A.Columns.map o5)) rfl nle rfl<|a1i (a1p (enc:=o5) rfl) fun hl23 => l7 (.I 0) rfl<|dk<|?_
   obtain ⟨p74,hb1,hf⟩:=ob hf
   refine a2c (X:={q:Unit // p74 = .go q}) (fun q => ([(1,(.ptr 0 0 0))],[.box 4 (.agg [(.str A.Name),(.lst 8 (A.Columns.map o5)),(.lst 1 (A.Unique.map encI)),(.bool A.Root)])])) ?_ ?_
   ·refine a1v (X:={q:Nat // a5q A (A.Columns.drop q) q = some p74}) (fun q => ([(1,(.ptr 0 0 0)),(28,(.lst 8 (A.Columns.map o5))),(29,(.I (A.Columns.length:Int))),(30,(.I (q.1:Int)))],[.box 4 (.agg [(.str A.Name),(.lst 8 (A.Columns.map o5)),(.lst 1 (A.Unique.map encI)),(.bool A.Root)])])) (fun q => A.Columns.length - q.1) ⟨0,hb1⟩ ⟨[],[0],_,_,rfl,rfl,⟨.r,⟨.r,⟨.r,⟨.r,tr⟩⟩⟩⟩,.r⟩ ?_
    rintro ⟨E,hc1⟩
    have hc1:a5q A (A.Columns.drop E) E = some p74:=hc1
    refine (show awp Tryz.prog false 0 _ (ofL [(1,(.ptr 0 0 0)),(28,(.lst 8 (A.Columns.map o5))),(29,(.I (A.Columns.length:Int))),(30,(.I (E:Int)))]) [.box 4 (.agg [(.str A.Name),(.lst 8 (A.Columns.map o5)),(.lst 1 (A.Unique.map encI)),(.bool A.Root)])] _ from ?_)
    rcases a6c A.Columns E with ⟨hie77,hd80⟩ | ⟨hlt75,D,hx76,hd80⟩
    ·rw [hd80,a5q.eq_1] at hc1
     have hq79:=dlf hie77
     refine sr<|o8 (.bool (decide ((E:Int) < (A.Columns.length:Int)))) rfl rfl rfl<|dk<|o7<|y9 rfl hq79<|a3i<|a3h<|a2e<|a3g<|?_;obtain rfl:=os hc1;exact a4b ⟨_,rfl⟩ ⟨[],[0],_,_,rfl,rfl,⟨.r,tr⟩,.r⟩
    ·rw [hd80,a5q.eq_2] at hc1
     have hq79:=dlt hlt75
     refine sr<|o8 (.bool (decide ((E:Int) < (A.Columns.length:Int)))) rfl rfl rfl<|dk<|o7<|y8 rfl hq79<|a0k<|a0m<|o7<|a3y<|sr<|l7 (.I (E:Int)) rfl<|x8 (a1o (enc:=o5) rfl rfl hx76)<|o8 (o5 D) rfl nle rfl<|x8 (a1j (j:=1) (c:=(.agg [(.str []),(.I 0),(.I 0),(.I 0),(.I 0),(.I 0),(.str []),(.bool false)])) rfl tr rfl rfl)<|l7 (.I (E:Int)) rfl<|a3o (a0e (v:=(.agg [(.str D.Name),(.I D.Kind),(.I D.Min),(.I D.Max),(.I D.Low),(.I D.High),(.str D.Ref),(.bool D.Strong)])) (y':=(.agg [(.str D.Name),(.I D.Kind),(.I D.Min),(.I D.Max),(.I D.Low),(.I D.High),(.str D.Ref),(.bool D.Strong)])) rfl rfl rfl tr ⟨rfl,nle⟩ ⟨⟨rfl,tr⟩,⟨⟨rfl,tr⟩,⟨⟨rfl,tr⟩,⟨⟨rfl,tr⟩,⟨⟨rfl,tr⟩,⟨⟨rfl,tr⟩,⟨⟨rfl,tr⟩,⟨⟨rfl,tr⟩,tr⟩⟩⟩⟩⟩⟩⟩⟩ rfl)<|?_
     refine dk<|o7<|?_
     obtain ⟨M,hb2,hc1⟩:=ob hc1
     refine a1k ([(1,(.ptr 0 0 0)),(28,(.lst 8 (A.Columns.map o5))),(29,(.I (A.Columns.length:Int))),(30,(.I (E:Int))),(45,(.bool M))],[.box 4 (.agg [(.str A.Name),(.lst 8 (A.Columns.map o5)),(.lst 1 (A.Unique.map encI)),(.bool A.Root)])]) ?_ ?_
     ·refine a0r ?_
      obtain ⟨J,er90,hb2⟩:=ob hb2
      rcases oi hb2 with ⟨c91,hb2⟩ | ⟨c91,hb2⟩
      ·refine o8 (.agg [(.str D.Name),(.I D.Kind),(.I D.Min),(.I D.Max),(.I D.Low),(.I D.High),(.str D.Ref),(.bool D.Strong)]) rfl nle rfl<|x8 (a0j (b7d _ _ er90) rfl .r rfl)<|o8 (.bool (!J)) rfl tr rfl<|l7 (.bool (!J)) rfl<|a0i (s:=38) (b:=true) rfl c91<|o6 rfl rfl<|o6 rfl rfl<|o6 rfl rfl<|o6 rfl rfl<|o6 rfl rfl<|o6 rfl rfl<|o8 (.bool true) rfl tr rfl<|y5<|?_;obtain rfl:=os hb2;exact ⟨[],[0],_,_,rfl,rfl,⟨.r,⟨.r,⟨.r,⟨.r,⟨.r,tr⟩⟩⟩⟩⟩,.r⟩
      ·obtain ⟨O,er93,hb2⟩:=ob hb2
       refine o8 (.agg [(.str D.Name),(.I D.Kind),(.I D.Min),(.I D.Max),(.I D.Low),(.I D.High),(.str D.Ref),(.bool D.Strong)]) rfl nle rfl<|x8 (a0j (b7d _ _ er90) rfl .r rfl)<|o8 (.bool (!J)) rfl tr rfl<|l7 (.bool (!J)) rfl<|a0i (s:=38) (b:=false) rfl (bf c91)<|s_on rfl<|o8 (.agg [(.str A.Name),(.lst 8 (A.Columns.map o5)),(.lst 1 (A.Unique.map encI)),(.bool A.Root)]) rfl nle rfl<|s_on rfl<|o8 (.ptr 1 0 0) rfl tr rfl<|s_on rfl<|o8 (.str D.Name) rfl nle rfl<|s_on rfl<|x8 (a0j (a8h _ _ _ er93) rfl .r rfl)<|s_on rfl<|?_
       refine l7 (.I (E:Int)) rfl<|s_on rfl<|o8 (.bool (O != (E:Int))) rfl rfl rfl<|o8 (.bool (O != (E:Int))) rfl tr rfl<|y5<|?_;obtain rfl:=os hb2;exact ⟨[],[0],_,_,rfl,rfl,⟨.r,⟨.r,⟨.r,⟨.r,⟨.r,tr⟩⟩⟩⟩⟩,.r⟩
     ·rcases oi hc1 with ⟨c94,hc1⟩ | ⟨c94,hc1⟩
      ·refine y8 rfl c94<|sr<|l7 (.bool false) rfl<|dk<|a0b<|?_;obtain rfl:=os hc1;obtain rfl:=os hf;exact y7 ⟨tr,tr⟩ rfl .r
      ·refine y9 rfl (bf c94)<|a0k<|a2y<|a0m<|a0r<|o8 (.I (w64 ((E:Int) + 1))) rfl rfl rfl<|l7 (.I (w64 ((E:Int) + 1))) rfl<|y5<|?_;exact a1z ⟨(E + 1),hc1⟩ (mul hlt75) ⟨[],[0],_,_,rfl,rfl,⟨.r,⟨.r,⟨.r,⟨.of_eq (congrArg (AV.int _) (a1x hlt75 hl23)),tr⟩⟩⟩⟩,.r⟩
   ·rintro ⟨_,rfl⟩
    refine o7<|sr<|o8 (.ptr 0 0 2) rfl tr rfl<|o8 (.lst 1 (A.Unique.map encI)) rfl nle rfl<|a1i (a1p (enc:=encI) rfl) fun hl95 => l7 (.I 0) rfl<|dk<|?_
    obtain ⟨p158,hb1,hf⟩:=ob hf
    refine a2c (X:={q:Unit // p158 = .go q}) (fun q => ([],[])) ?_ ?_
    ·refine a1v (X:={q:Nat // a5r A (A.Unique.drop q) q = some p158}) (fun q => ([(1,(.ptr 0 0 0)),(48,(.lst 1 (A.Unique.map encI))),(49,(.I (A.Unique.length:Int))),(50,(.I (q.1:Int)))],[.box 4 (.agg [(.str A.Name),(.lst 8 (A.Columns.map o5)),(.lst 1 (A.Unique.map encI)),(.bool A.Root)])])) (fun q => A.Unique.length - q.1) ⟨0,hb1⟩ ⟨[],[0],_,_,rfl,rfl,⟨.r,⟨.r,⟨.r,⟨.r,tr⟩⟩⟩⟩,.r⟩ ?_
     rintro ⟨B,hc1⟩
     have hc1:a5r A (A.Unique.drop B) B = some p158:=hc1
     refine (show awp Tryz.prog false 0 _ (ofL [(1,(.ptr 0 0 0)),(48,(.lst 1 (A.Unique.map encI))),(49,(.I (A.Unique.length:Int))),(50,(.I (B:Int)))]) [.box 4 (.agg [(.str A.Name),(.lst 8 (A.Columns.map o5)),(.lst 1 (A.Unique.map encI)),(.bool A.Root)])] _ from ?_)
     rcases a6c A.Unique B with ⟨hie161,hd164⟩ | ⟨hlt159,F,hx160,hd164⟩
     ·rw [hd164,a5r.eq_1] at hc1
      have hq163:=dlf hie161
      refine sr<|o8 (.bool (decide ((B:Int) < (A.Unique.length:Int)))) rfl rfl rfl<|dk<|o7<|y9 rfl hq163<|a3i<|a3h<|a2e<|a3g<|?_;obtain rfl:=os hc1;exact a4b ⟨_,rfl⟩ ⟨[],[],_,_,rfl,rfl,tr,.r⟩
     ·rw [hd164,a5r.eq_2] at hc1
      have hq163:=dlt hlt159
      refine sr<|o8 (.bool (decide ((B:Int) < (A.Unique.length:Int)))) rfl rfl rfl<|dk<|o7<|y8 rfl hq163<|a0k<|a0m<|o7<|a3y<|sr<|l7 (.I (B:Int)) rfl<|x8 (a1o (enc:=encI) rfl rfl hx160)<|o8 (.I F) rfl ⟨rfl,rfl⟩ rfl<|l7 (.I (B:Int)) rfl<|l7 (.I F) rfl<|dk<|o7<|?_
      obtain ⟨K,hb2,hc1⟩:=ob hc1
      refine a1k ([(1,(.ptr 0 0 0)),(48,(.lst 1 (A.Unique.map encI))),(49,(.I (A.Unique.length:Int))),(50,(.I (B:Int))),(75,(.bool K))],[.box 4 (.agg [(.str A.Name),(.lst 8 (A.Columns.map o5)),(.lst 1 (A.Unique.map encI)),(.bool A.Root)])]) ?_ ?_
      ·refine a0r<|l7 (.I F) rfl<|o8 (.ptr 0 0 1) rfl tr rfl<|o8 (.lst 8 (A.Columns.map o5)) rfl nle rfl<|a1i (a1p (enc:=o5) rfl) fun hl175 => o8 (.I (w64 ((A.Columns.length:Int) - 1))) rfl rfl rfl<|?_
       obtain ⟨L,er177,hb2⟩:=ob hb2
       refine x8 (a0j (a3x _ _ _ _ er177) rfl .r rfl)<|o8 (.bool (!L)) rfl tr rfl<|l7 (.bool (!L)) rfl<|?_
       rcases oi hb2 with ⟨c178,hb2⟩ | ⟨c178,hb2⟩
       ·refine a0i (s:=62) (b:=true) rfl c178<|o6 rfl rfl<|o6 rfl rfl<|o6 rfl rfl<|a0x rfl<|a0x rfl<|a0x rfl<|a0x rfl<|a0x rfl<|a0x rfl<|a0x rfl<|a0x rfl<|o6 rfl rfl<|o8 (.bool true) rfl tr rfl<|y5<|?_;obtain rfl:=os hb2;exact ⟨[],[0],_,_,rfl,rfl,⟨.r,⟨.r,⟨.r,⟨.r,⟨.r,tr⟩⟩⟩⟩⟩,.r⟩
       ·refine a0i (s:=62) (b:=false) rfl (bf c178)<|s_on rfl<|l7 (.I (B:Int)) rfl<|s_on rfl<|o8 (.bool (decide ((B:Int) > 0))) rfl rfl rfl<|s_on rfl<|l7 (.bool (decide ((B:Int) > 0))) rfl<|?_
        rcases oi hb2 with ⟨c179,hb2⟩ | ⟨c179,hb2⟩
        ·refine a0i (s:=65) (b:=true) rfl c179<|s_on rfl<|o8 (.ptr 0 0 2) rfl tr rfl<|s_on rfl<|o8 (.lst 1 (A.Unique.map encI)) rfl nle rfl<|s_on rfl<|l7 (.I (B:Int)) rfl<|s_on rfl<|o8 (.I (w64 ((B:Int) - 1))) rfl rfl rfl<|s_on rfl<|?_
         obtain ⟨H,ex181,hb2⟩:=ob hb2
         refine x8 (a2t (enc:=encI) rfl rfl (a8n ex181) (a8o ex181))<|s_on rfl<|o8 (.I H) rfl ⟨rfl,rfl⟩ rfl<|s_on rfl<|l7 (.I F) rfl<|s_on rfl<|o8 (.bool (decide (H ≥ F))) rfl rfl rfl<|s_on rfl<|o8 (.bool (decide (H ≥ F))) rfl tr rfl<|o8 (.bool (decide (H ≥ F))) rfl tr rfl<|y5<|?_;obtain rfl:=os hb2;exact ⟨[],[0],_,_,rfl,rfl,⟨.r,⟨.r,⟨.r,⟨.r,⟨.r,tr⟩⟩⟩⟩⟩,.r⟩
        ·refine a0i (s:=65) (b:=false) rfl (bf c179)<|o6 rfl rfl<|o6 rfl rfl<|o6 rfl rfl<|o6 rfl rfl<|o6 rfl rfl<|o6 rfl rfl<|o6 rfl rfl<|o6 rfl rfl<|s_on rfl<|o8 (.bool false) rfl tr rfl<|o8 (.bool false) rfl tr rfl<|y5<|?_;obtain rfl:=os hb2;exact ⟨[],[0],_,_,rfl,rfl,⟨.r,⟨.r,⟨.r,⟨.r,⟨.r,tr⟩⟩⟩⟩⟩,.r⟩
      ·rcases oi hc1 with ⟨c182,hc1⟩ | ⟨c182,hc1⟩
       ·refine y8 rfl c182<|sr<|l7 (.bool false) rfl<|dk<|a0b<|?_;obtain rfl:=os hc1;obtain rfl:=os hf;exact y7 ⟨tr,tr⟩ rfl .r
       ·refine y9 rfl (bf c182)<|a0k<|a2y<|a0m<|a0r<|o8 (.I (w64 ((B:Int) + 1))) rfl rfl rfl<|l7 (.I (w64 ((B:Int) + 1))) rfl<|y5<|?_;exact a1z ⟨(B + 1),hc1⟩ (mul hlt159) ⟨[],[0],_,_,rfl,rfl,⟨.r,⟨.r,⟨.r,⟨.of_eq (congrArg (AV.int _) (a1x hlt159 hl95)),tr⟩⟩⟩⟩,.r⟩
    ·rintro ⟨_,rfl⟩
     refine sr<|l7 (.bool true) rfl<|dk<|a0b<|?_;obtain rfl:=os hf;exact y7 ⟨tr,tr⟩ rfl .r

/- slices.IndexFunc[[]impl.Table,impl.Table] -/
def e3f:a0s :=
 (.seq (.reg (tm 4 (.c (.int .i64 0)) .done))
 (.seq (.seq (.reg (tm 6 (.t 0) (tq 7 (.len (.t 6)) (tm 8 (.c (.int .i64 0)) .done))))
 (.block 0 (.loop (.seq (.reg (tq 9 (.bin .lss (.t 8) (.t 7)) .done))
 (.seq (.cond (.t 9) .skip
 (.exit 0))
 (.seq (.block 1 (.seq (.reg (tm 10 (.t 8) (tm 5 (.t 10) .done)))
 (.seq (.reg (tm 11 (.t 1) (tm 12 (.t 0) (tm 13 (.t 5) (tq 14 (.iaddr 4 (.t 12) (.t 13)) (tq 15 (.load 4 true (.t 14)) (tq 16 (.calv (.t 11) [(.t 15)]) .done)))))))
 (.cond (.t 16) (.seq (.reg (tm 17 (.t 5) (tm 4 (.t 17) .done)))
 .ret)
 .skip))))
 (.reg (tq 18 (.bin .add (.t 8) (.c (.int .i64 1))) (tm 8 (.t 18) .done)))))))))
 (.cut (.seq (.reg (tq 4 (.mov (.c (.int .i64 (-1)))) .done))
 .ret))))
theorem e3g:a1e Tryz.prog Tryz.f337 = some (e3f.erase,[.mov (.t 4)],19):=by kernel_rfl
def a1d (D:(a0q → Option Bool)):List a0q → Nat → Option (Fl Int Unit)
  | [],A =>
    some (.go ())
  | E :: xs,A =>
    (D E).bind fun F =>
    if F then
    some (.ret (A:Int))
    else
    a1d D xs (A + 1)

def a2d (B:(List a0q)) (D:(a0q → Option Bool)):Option Int :=
    (a1d D B 0).bind fun q => (match q with
    | .ret r => some r
    | .go _ =>
    some (-1))
theorem a6v (B:(List a0q)) (D:(a0q → Option Bool)) (r:Int) (hf:a2d B D = some r) (kf_f_2:Nat) (cf_f_2:List AV) (okf_f_2:b6u Tryz.prog kf_f_2 = true) (hcf_f_2:∀ h p,a3k h p cf_f_2 = some cf_f_2) (hrf_f_2:∀ f,a8a f cf_f_2 = cf_f_2) (hpf_f_2:∀ a0 r,D a0 = some r → a0a Tryz.prog kf_f_2 .flat ([(x9 a0)] ++ cf_f_2) (.bool r)):a0a Tryz.prog 337 .flat [(.lst 4 (B.map x9)),(.fn kf_f_2 cf_f_2)] (.I r):=by
 refine a0a.of_awp mixed Tryz.func337 e3g nle ?_;rw [a0n];unfold a2d at hf;unfold e3f;refine (show awp Tryz.prog false 0 _ (ofL [(0,(.lst 4 (B.map x9))),(1,(.fn kf_f_2 cf_f_2))]) [] _ from ?_);refine sr<|l7 (.I 0) rfl<|dk<|o7<|sr<|l7 (.lst 4 (B.map x9)) rfl<|a1i (a1p (enc:=x9) rfl) fun hl3 => l7 (.I 0) rfl<|dk<|?_
 obtain ⟨p24,hb1,hf⟩:=ob hf
 refine a2c (X:={q:Unit // p24 = .go q}) (fun q => ([],[])) ?_ ?_
 ·refine a1v (X:={q:Nat // a1d D (B.drop q) q = some p24}) (fun q => ([(0,(.lst 4 (B.map x9))),(1,(.fn kf_f_2 cf_f_2)),(7,(.I (B.length:Int))),(8,(.I (q.1:Int)))],[])) (fun q => B.length - q.1) ⟨0,hb1⟩ ⟨[],[],_,_,rfl,rfl,⟨.r,⟨.of_eq (congrArg (AV.fn _) (hrf_f_2 _)),⟨.r,⟨.r,tr⟩⟩⟩⟩,.r⟩ ?_
  rintro ⟨A,hc1⟩
  have hc1:a1d D (B.drop A) A = some p24:=hc1
  refine (show awp Tryz.prog false 0 _ (ofL [(0,(.lst 4 (B.map x9))),(1,(.fn kf_f_2 cf_f_2)),(7,(.I (B.length:Int))),(8,(.I (A:Int)))]) [] _ from ?_)
  rcases a6c B A with ⟨hie27,hd30⟩ | ⟨hlt25,E,hx26,hd30⟩
  ·rw [hd30,a1d.eq_1] at hc1
   have hq29:=dlf hie27
   refine sr<|o8 (.bool (decide ((A:Int) < (B.length:Int)))) rfl rfl rfl<|dk<|o7<|y9 rfl hq29<|a3i<|a3h<|a2e<|a3g<|?_;obtain rfl:=os hc1;exact a4b ⟨_,rfl⟩ ⟨[],[],_,_,rfl,rfl,tr,.r⟩
  ·rw [hd30,a1d.eq_2] at hc1
   have hq29:=dlt hlt25
   refine sr<|o8 (.bool (decide ((A:Int) < (B.length:Int)))) rfl rfl rfl<|dk<|o7<|y8 rfl hq29<|a0k<|a0m<|o7<|a3y<|sr<|l7 (.I (A:Int)) rfl<|l7 (.I (A:Int)) rfl<|dk<|sr<|?_
   obtain ⟨F,er33,hc1⟩:=ob hc1
   refine l7 (.fn kf_f_2 cf_f_2) rfl<|l7 (.lst 4 (B.map x9)) rfl<|l7 (.I (A:Int)) rfl<|x8 (a1o (enc:=x9) rfl rfl hx26)<|o8 (x9 E) rfl nle rfl<|x8 (b5p (v:=(.bool F)) rfl okf_f_2 hcf_f_2 (hpf_f_2 _ _ er33) rfl .r rfl)<|dk<|?_
   rcases oi hc1 with ⟨c34,hc1⟩ | ⟨c34,hc1⟩
   ·refine y8 rfl c34<|sr<|l7 (.I (A:Int)) rfl<|l7 (.I (A:Int)) rfl<|dk<|a0b<|?_;obtain rfl:=os hc1;obtain rfl:=os hf;exact y7 ⟨tr,tr⟩ rfl .r
   ·refine y9 rfl (bf c34)<|a0k<|a2y<|a0m<|a0r<|o8 (.I (w64 ((A:Int) + 1))) rfl rfl rfl<|l7 (.I (w64 ((A:Int) + 1))) rfl<|y5<|?_;exact a1z ⟨(A + 1),hc1⟩ (mul hlt25) ⟨[],[],_,_,rfl,rfl,⟨.r,⟨.of_eq (congrArg (AV.fn _) (hrf_f_2 _)),⟨.r,⟨.of_eq (congrArg (AV.int _) (a1x hlt25 hl3)),tr⟩⟩⟩⟩,.r⟩
 ·rintro ⟨_,rfl⟩
  refine sr<|l7 (.I (-1)) rfl<|dk<|a0b<|?_;obtain rfl:=os hf;exact y7 ⟨tr,tr⟩ rfl .r

/- slices.ContainsFunc[[]impl.Table,impl.Table] -/
def e3h:a0s :=
 (.seq (.reg (tm 4 (.c (.bool false)) .done))
 (.seq (.reg (tm 5 (.t 0) (tm 6 (.t 1) (tq 7 (.call 337 [(.t 5),(.t 6)]) (tq 8 (.bin .geq (.t 7) (.c (.int .i64 0))) (tm 4 (.t 8) .done))))))
 .ret))
theorem e3i:a1e Tryz.prog Tryz.f223 = some (e3h.erase,[.mov (.t 4)],9):=by kernel_rfl
def a2l (A:(List a0q)) (B:(a0q → Option Bool)):Option Bool :=
    (a2d A B).bind fun D =>
    some (decide (D ≥ 0))
theorem a9g (A:(List a0q)) (B:(a0q → Option Bool)) (r:Bool) (hf:a2l A B = some r) (kf_f_2:Nat) (cf_f_2:List AV) (okf_f_2:b6u Tryz.prog kf_f_2 = true) (hcf_f_2:∀ h p,a3k h p cf_f_2 = some cf_f_2) (hrf_f_2:∀ f,a8a f cf_f_2 = cf_f_2) (hpf_f_2:∀ a0 r,B a0 = some r → a0a Tryz.prog kf_f_2 .flat ([(x9 a0)] ++ cf_f_2) (.bool r)):a0a Tryz.prog 223 .flat [(.lst 4 (A.map x9)),(.fn kf_f_2 cf_f_2)] (.bool r):=by
 refine a0a.of_awp mixed Tryz.func223 e3i nle ?_;rw [a0n];unfold a2l at hf;unfold e3h;refine (show awp Tryz.prog false 0 _ (ofL [(0,(.lst 4 (A.map x9))),(1,(.fn kf_f_2 cf_f_2))]) [] _ from ?_);refine sr<|l7 (.bool false) rfl<|dk<|sr<|?_
 obtain ⟨D,er4,hf⟩:=ob hf
 refine l7 (.lst 4 (A.map x9)) rfl<|l7 (.fn kf_f_2 cf_f_2) rfl<|x8 (a0j (a6v _ _ _ er4 kf_f_2 cf_f_2 okf_f_2 hcf_f_2 hrf_f_2 hpf_f_2) (a7r rfl (a7r (b7n hcf_f_2) rfl)) .r rfl)<|o8 (.bool (decide (D ≥ 0))) rfl rfl rfl<|l7 (.bool (decide (D ≥ 0))) rfl<|dk<|a0b<|?_;obtain rfl:=os hf;exact y7 ⟨tr,tr⟩ rfl .r

/- slices.ContainsFunc[[]impl.Column,impl.Column] -/
def e3j:a0s :=
 (.seq (.reg (tm 4 (.c (.bool false)) .done))
 (.seq (.reg (tm 5 (.t 0) (tm 6 (.t 1) (tq 7 (.call 338 [(.t 5),(.t 6)]) (tq 8 (.bin .geq (.t 7) (.c (.int .i64 0))) (tm 4 (.t 8) .done))))))
 .ret))
theorem e3k:a1e Tryz.prog Tryz.f225 = some (e3j.erase,[.mov (.t 4)],9):=by kernel_rfl
def a2h (A:(List a0v)) (B:(a0v → Option Bool)):Option Bool :=
    (a1y A B).bind fun D =>
    some (decide (D ≥ 0))
theorem a8y (A:(List a0v)) (B:(a0v → Option Bool)) (r:Bool) (hf:a2h A B = some r) (kf_f_2:Nat) (cf_f_2:List AV) (okf_f_2:b6u Tryz.prog kf_f_2 = true) (hcf_f_2:∀ h p,a3k h p cf_f_2 = some cf_f_2) (hrf_f_2:∀ f,a8a f cf_f_2 = cf_f_2) (hpf_f_2:∀ a0 r,B a0 = some r → a0a Tryz.prog kf_f_2 .flat ([(o5 a0)] ++ cf_f_2) (.bool r)):a0a Tryz.prog 225 .flat [(.lst 8 (A.map o5)),(.fn kf_f_2 cf_f_2)] (.bool r):=by
 refine a0a.of_awp mixed Tryz.func225 e3k nle ?_;rw [a0n];unfold a2h at hf;unfold e3j;refine (show awp Tryz.prog false 0 _ (ofL [(0,(.lst 8 (A.map o5))),(1,(.fn kf_f_2 cf_f_2))]) [] _ from ?_);refine sr<|l7 (.bool false) rfl<|dk<|sr<|?_
 obtain ⟨D,er4,hf⟩:=ob hf
 refine l7 (.lst 8 (A.map o5)) rfl<|l7 (.fn kf_f_2 cf_f_2) rfl<|x8 (a0j (a6m _ _ _ er4 kf_f_2 cf_f_2 okf_f_2 hcf_f_2 hrf_f_2 hpf_f_2) (a7r rfl (a7r (b7n hcf_f_2) rfl)) .r rfl)<|o8 (.bool (decide (D ≥ 0))) rfl rfl rfl<|l7 (.bool (decide (D ≥ 0))) rfl<|dk<|a0b<|?_;obtain rfl:=os hf;exact y7 ⟨tr,tr⟩ rfl .r

/- (impl.Schema).tableAt$1 -/
def d5b:a0s :=
 (.seq (.reg (tq 2 (.box 4 (.t 0)) (tm 3 (.c (.bool false)) .done)))
 (.seq (.reg (tq 4 (.faddr 0 (.t 2)) (tq 5 (.load 1 false (.t 4)) (tq 6 (.load 1 false (.t 1)) (tq 7 (.bin .eql (.t 5) (.t 6)) (tm 3 (.t 7) .done))))))
 .ret))
theorem e3l:a1e Tryz.prog Tryz.f339 = some (d5b.erase,[.mov (.t 3)],8):=by kernel_rfl
def a8i (B:a0q) (A:Str):Option Bool :=
    some (B.Name == A)
theorem b6l (B:a0q) (A:Str) (r:Bool) (hf:a8i B A = some r):a0a Tryz.prog 339 .flat [(x9 B),(.iptr (.str A) 0)] (.bool r):=by
  refine a0a.of_awp mixed Tryz.func339 e3l nle ?_
  rw [a0n]
  unfold a8i at hf
  unfold d5b
  refine (show awp Tryz.prog false 0 _ (ofL [(0,(x9 B)),(1,(.iptr (.str A) 0))]) [] _ from ?_)
  refine o7 ?_
  refine a0r ?_
  refine x8 (a1j (j:=0) (c:=(.agg [(.str B.Name),(.lst 8 (B.Columns.map o5)),(.lst 1 (B.Unique.map encI)),(.bool B.Root)])) rfl tr rfl rfl) ?_
  refine x8 (a2w (.bool false) rfl) ?_
  refine y5 ?_
  refine a0m ?_
  refine o7 ?_
  refine a0r ?_
  refine x8 (o_q (.ptr 0 0 0) rfl tr rfl) ?_
  refine x8 (o_q (.str B.Name) rfl nle rfl) ?_
  refine x8 (o_q (.str A) rfl ⟨rfl,rfl⟩ rfl) ?_
  refine x8 (o_q (.bool (B.Name == A)) rfl tr rfl) ?_
  refine x8 (a2w (.bool (B.Name == A)) rfl) ?_
  refine y5 ?_
  refine a0m ?_
  refine a0b ?_
  obtain rfl:=os hf
  exact y7 ⟨tr,tr⟩ rfl .r

/- (impl.Schema).tableAt -/
def c227:a0s :=
 (.seq (.reg (tq 2 (.box 1 (.t 0)) (tq 3 (.box 1 (.t 1)) (tm 4 (.c (.int .i64 0)) .done))))
 (.seq (.reg (tq 5 (.faddr 0 (.t 2)) (tq 6 (.load 1 false (.t 5)) (tq 7 (.mkfn 339 [(.t 3)]) (tq 8 (.call 337 [(.t 6),(.t 7)]) (tm 4 (.t 8) .done))))))
 .ret))
theorem e3m:a1e Tryz.prog Tryz.f227 = some (c227.erase,[.mov (.t 4)],9):=by kernel_rfl
def a6q (B:a2q) (A:Str):Option Int :=
    (a2d B.Tables (fun a0 => a8i a0 A)).bind fun D =>
    some D
theorem b3f (B:a2q) (A:Str) (r:Int) (hf:a6q B A = some r):a0a Tryz.prog 227 .flat [(a2x B),(.str A)] (.I r):=by
  refine a0a.of_awp mixed Tryz.func227 e3m nle ?_
  rw [a0n]
  unfold a6q at hf
  unfold c227
  refine (show awp Tryz.prog false 0 _ (ofL [(0,(a2x B)),(1,(.str A))]) [] _ from ?_)
  refine o7 ?_
  refine a0r ?_
  refine x8 (a1j (j:=0) (c:=(.agg [(.lst 4 (B.Tables.map x9))])) rfl tr rfl rfl) ?_
  refine x8 (a1j (j:=1) (c:=(.str A)) rfl tr rfl rfl) ?_
  refine x8 (a2w (.I 0) rfl) ?_
  refine y5 ?_
  refine a0m ?_
  refine o7 ?_
  refine a0r ?_
  obtain ⟨D,er4,hf⟩:=ob hf
  refine x8 (o_q (.ptr 0 0 0) rfl tr rfl) ?_
  refine x8 (o_q (.lst 4 (B.Tables.map x9)) rfl nle rfl) ?_
  refine x8 (o_q (.fn 339 [(.ptr 1 0 0)]) rfl tr rfl) ?_
  refine x8 (a0j (a6v _ _ _ er4 339 [(.iptr (.str A) 0)] (by kernel_rfl) (fun _ _ => rfl) (fun _ => rfl) (fun a0 r h => b6l a0 A r h)) rfl .r rfl) ?_
  refine x8 (a2w (.I D) rfl) ?_
  refine y5 ?_
  refine a0m ?_
  refine a0b ?_
  obtain rfl:=os hf
  exact y7 ⟨tr,tr⟩ rfl .r

/- impl.SchemaOK$1$1 -/
def c226:a0s :=
 (.seq (.reg (tq 2 (.box 8 (.t 0)) (tm 3 (.c (.bool false)) .done)))
 (.seq (.reg (tq 4 (.faddr 1 (.t 2)) (tq 5 (.load 1 false (.t 4)) (tq 6 (.bin .eql (.t 5) (.c (.int .i64 4))) (tm 7 (.t 6) (tg 8 7 true (.load 1 true (.t 1)) (tg 9 7 true (.faddr 6 (.t 2)) (tg 10 7 true (.load 1 false (.t 9)) (tg 11 7 true (.call 227 [(.t 8),(.t 10)]) (tg 12 7 true (.bin .lss (.t 11) (.c (.int .i64 0))) (tq 13 (.pick (.t 7) (.t 12) (.c (.bool false))) (tm 3 (.t 13) .done))))))))))))
 .ret))
theorem e3n:a1e Tryz.prog Tryz.f226 = some (c226.erase,[.mov (.t 3)],14):=by kernel_rfl
def a8p (A:a0v) (B:a2q):Option Bool :=
    if (A.Kind == 4) then
    (a6q B A.Ref).bind fun D =>
    some (decide (D < 0))
    else
    some false
theorem b8p (A:a0v) (B:a2q) (r:Bool) (hf:a8p A B = some r):a0a Tryz.prog 226 .flat [(o5 A),(.iptr (a2x B) 0)] (.bool r):=by
 refine a0a.of_awp mixed Tryz.func226 e3n nle ?_;rw [a0n];unfold a8p at hf;unfold c226;refine (show awp Tryz.prog false 0 _ (ofL [(0,(o5 A)),(1,(.iptr (a2x B) 0))]) [] _ from ?_);refine sr<|x8 (a1j (j:=0) (c:=(.agg [(.str A.Name),(.I A.Kind),(.I A.Min),(.I A.Max),(.I A.Low),(.I A.High),(.str A.Ref),(.bool A.Strong)])) rfl tr rfl rfl)<|l7 (.bool false) rfl<|dk<|sr<|?_
 rcases oi hf with ⟨c3,hf⟩ | ⟨c3,hf⟩
 ·obtain ⟨D,er5,hf⟩:=ob hf
  refine o8 (.ptr 0 0 1) rfl tr rfl<|o8 (.I A.Kind) rfl nle rfl<|o8 (.bool (A.Kind == 4)) rfl rfl rfl<|l7 (.bool (A.Kind == 4)) rfl<|a0i (s:=7) (b:=true) rfl c3<|s_on rfl<|o8 (a2x B) rfl nle rfl<|s_on rfl<|o8 (.ptr 0 0 6) rfl tr rfl<|s_on rfl<|o8 (.str A.Ref) rfl nle rfl<|s_on rfl<|x8 (a0j (b3f _ _ _ er5) rfl .r rfl)<|s_on rfl<|o8 (.bool (decide (D < 0))) rfl rfl rfl<|o8 (.bool (decide (D < 0))) rfl tr rfl<|l7 (.bool (decide (D < 0))) rfl<|dk<|a0b<|?_;obtain rfl:=os hf;exact y7 ⟨tr,tr⟩ rfl .r
 ·refine o8 (.ptr 0 0 1) rfl tr rfl<|o8 (.I A.Kind) rfl nle rfl<|o8 (.bool (A.Kind == 4)) rfl rfl rfl<|l7 (.bool (A.Kind == 4)) rfl<|a0i (s:=7) (b:=false) rfl (bf c3)<|o6 rfl rfl<|o6 rfl rfl<|o6 rfl rfl<|o6 rfl rfl<|o6 rfl rfl<|o8 (.bool false) rfl tr rfl<|l7 (.bool false) rfl<|dk<|a0b<|?_;obtain rfl:=os hf;exact y7 ⟨tr,tr⟩ rfl .r

/- impl.SchemaOK$1 -/
def e3o:a0s :=
 (.seq (.reg (tq 2 (.box 4 (.t 0)) (tm 3 (.c (.bool false)) .done)))
 (.seq (.reg (tq 4 (.faddr 1 (.t 2)) (tq 5 (.load 1 false (.t 4)) (tq 6 (.mkfn 226 [(.t 1)]) (tq 7 (.call 225 [(.t 5),(.t 6)]) (tm 3 (.t 7) .done))))))
 .ret))
theorem e3p:a1e Tryz.prog Tryz.f224 = some (e3o.erase,[.mov (.t 3)],8):=by kernel_rfl
def a9s (B:a0q) (A:a2q):Option Bool :=
    (a2h B.Columns (fun a0 => a8p a0 A)).bind fun D =>
    some D
theorem c0s (B:a0q) (A:a2q) (r:Bool) (hf:a9s B A = some r):a0a Tryz.prog 224 .flat [(x9 B),(.iptr (a2x A) 0)] (.bool r):=by
  refine a0a.of_awp mixed Tryz.func224 e3p nle ?_
  rw [a0n]
  unfold a9s at hf
  unfold e3o
  refine (show awp Tryz.prog false 0 _ (ofL [(0,(x9 B)),(1,(.iptr (a2x A) 0))]) [] _ from ?_)
  refine o7 ?_
  refine a0r ?_
  refine x8 (a1j (j:=0) (c:=(.agg [(.str B.Name),(.lst 8 (B.Columns.map o5)),(.lst 1 (B.Unique.map encI)),(.bool B.Root)])) rfl tr rfl rfl) ?_
  refine x8 (a2w (.bool false) rfl) ?_
  refine y5 ?_
  refine a0m ?_
  refine o7 ?_
  refine a0r ?_
  obtain ⟨D,er4,hf⟩:=ob hf
  refine x8 (o_q (.ptr 0 0 1) rfl tr rfl) ?_
  refine x8 (o_q (.lst 8 (B.Columns.map o5)) rfl nle rfl) ?_
  refine x8 (o_q (.fn 226 [(.iptr (a2x A) 0)]) rfl tr rfl) ?_
  refine x8 (a0j (a8y _ _ _ er4 226 [(.iptr (a2x A) 0)] (by kernel_rfl) (fun _ _ => rfl) (fun _ => rfl) (fun a0 r h => b8p a0 A r h)) rfl .r rfl) ?_
  refine x8 (a2w (.bool D) rfl) ?_
  refine y5 ?_
  refine a0m ?_
  refine a0b ?_
  obtain rfl:=os hf
  exact y7 ⟨tr,tr⟩ rfl .r

/- impl.SchemaOK -/
def d5c:a0s :=
 (.seq (.reg (tq 1 (.box 1 (.t 0)) (tm 2 (.c (.bool false)) .done)))
 (.seq (.seq (.reg (tq 5 (.faddr 0 (.t 1)) (tq 6 (.load 1 false (.t 5)) (tq 7 (.len (.t 6)) (tq 8 (.call 114 [(.t 7),(.c (.int .i64 1)),(.c (.int .i64 4))]) (tq 9 (.not (.t 8)) .done))))))
 (.cond (.t 9) (.seq (.reg (tm 2 (.c (.bool false)) .done))
 .ret)
 .skip))
 (.seq (.seq (.reg (tq 10 (.faddr 0 (.t 1)) (tq 11 (.load 1 false (.t 10)) (tq 12 (.len (.t 11)) (tm 13 (.c (.int .i64 0)) .done)))))
 (.block 0 (.loop (.seq (.reg (tq 14 (.bin .lss (.t 13) (.t 12)) .done))
 (.seq (.cond (.t 14) .skip
 (.exit 0))
 (.seq (.block 1 (.seq (.reg (tm 15 (.t 13) (tq 16 (.iaddr 4 (.t 11) (.t 13)) (tq 17 (.load 4 true (.t 16)) (tq 4 (.box 4 (.c (.agg [(.str []),.nil,.nil,(.bool false)]))) (tm 3 (.t 15) (.q ⟨none,none,.store 4 (.t 4) (.t 17)⟩
 .done)))))))
 (.seq (.reg (tq 18 (.load 4 true (.t 4)) (.l ⟨(some 19),none,.call 132 [(.t 18)]⟩ []
 (tq 20 (.not (.t 19)) (tm 21 (.t 20) (tg 22 21 false (.mov (.t 3)) (tg 23 21 false (.bin .gtr (.t 22) (.c (.int .i64 0))) (tg 24 21 false (.mov (.t 23)) (tg 25 24 true (.faddr 0 (.t 1)) (tg 26 24 true (.load 1 false (.t 25)) (tg 27 24 true (.mov (.t 3)) (tg 28 24 true (.bin .sub (.t 27) (.c (.int .i64 1))) (tg 29 24 true (.iaddr 4 (.t 26) (.t 28)) (tg 30 24 true (.faddr 0 (.t 29)) (tg 31 24 true (.load 1 false (.t 30)) (tg 32 24 true (.faddr 0 (.t 4)) (tg 33 24 true (.load 1 false (.t 32)) (tg 34 24 true (.bin .geq (.t 31) (.t 33)) (tg 35 21 false (.pick (.t 24) (.t 34) (.c (.bool false))) (tq 36 (.pick (.t 21) (.c (.bool true)) (.t 35)) .done))))))))))))))))) .non)))
 (.cut (.cond (.t 36) (.seq (.reg (tm 2 (.c (.bool false)) .done))
 .ret)
 .skip)))))
 (.reg (tq 37 (.bin .add (.t 13) (.c (.int .i64 1))) (tm 13 (.t 37) .done)))))))))
 (.cut (.seq (.reg (tq 38 (.faddr 0 (.t 1)) (tq 39 (.load 1 false (.t 38)) (tq 40 (.mkfn 224 [(.t 1)]) (tq 41 (.call 223 [(.t 39),(.t 40)]) (tq 42 (.not (.t 41)) (tm 2 (.t 42) .done)))))))
 .ret)))))
theorem e3q:a1e Tryz.prog Tryz.f104 = some (d5c.erase,[.mov (.t 2)],43):=by kernel_rfl
def a4x (B:a2q):List a0q → Nat → Option (Fl Bool Unit)
  | [],A =>
    some (.go ())
  | D :: xs,A =>
    (((b0s D).bind fun G =>
    if (!G) then
    some true
    else
    if (decide ((A:Int) > 0)) then
    (idx B.Tables (w64 ((A:Int) - 1))).bind fun E =>
    some (!Op.bytesLess E.Name D.Name)
    else
    some false:Option Bool)).bind fun F =>
    if F then
    some (.ret false)
    else
    a4x B xs (A + 1)

def b1g (B:a2q):Option Bool :=
    (a3t (B.Tables.length:Int) 1 4).bind fun J =>
    if (!J) then
    some false
    else
    (a4x B B.Tables 0).bind fun q => (match q with
    | .ret r => some r
    | .go _ =>
    (a2l B.Tables (fun a0 => a9s a0 B)).bind fun H =>
    some (!H))
theorem b7e (B:a2q) (r:Bool) (hf:b1g B = some r):a0a Tryz.prog 104 .flat [(a2x B)] (.bool r):=by
 refine a0a.of_awp mixed Tryz.func104 e3q nle ?_;rw [a0n];unfold b1g at hf;unfold d5c;refine (show awp Tryz.prog false 0 _ (ofL [(0,(a2x B))]) [] _ from ?_);refine sr<|x8 (a1j (j:=0) (c:=(.agg [(.lst 4 (B.Tables.map x9))])) rfl tr rfl rfl)<|l7 (.bool false) rfl<|dk<|o7<|sr<|?_
 obtain ⟨J,er4,hf⟩:=ob hf
 refine o8 (.ptr 0 0 0) rfl tr rfl<|o8 (.lst 4 (B.Tables.map x9)) rfl nle rfl<|a1i (a1p (enc:=x9) rfl) fun hl2 => x8 (a0j (a3x _ _ _ _ er4) rfl .r rfl)<|o8 (.bool (!J)) rfl tr rfl<|dk<|?_
 rcases oi hf with ⟨c5,hf⟩ | ⟨c5,hf⟩
 ·refine y8 rfl c5<|sr<|l7 (.bool false) rfl<|dk<|a0b<|?_;obtain rfl:=os hf;exact y7 ⟨tr,tr⟩ rfl .r
 ·refine y9 rfl (bf c5)<|a0k<|a0m<|o7<|sr<|o8 (.ptr 0 0 0) rfl tr rfl<|o8 (.lst 4 (B.Tables.map x9)) rfl nle rfl<|a1i (a1p (enc:=x9) rfl) fun hl6 => l7 (.I 0) rfl<|dk<|?_
  obtain ⟨p63,hb1,hf⟩:=ob hf
  refine a2c (X:={q:Unit // p63 = .go q}) (fun q => ([(1,(.ptr 0 0 0))],[.box 1 (.agg [(.lst 4 (B.Tables.map x9))])])) ?_ ?_
  ·refine a1v (X:={q:Nat // a4x B (B.Tables.drop q) q = some p63}) (fun q => ([(1,(.ptr 0 0 0)),(11,(.lst 4 (B.Tables.map x9))),(12,(.I (B.Tables.length:Int))),(13,(.I (q.1:Int)))],[.box 1 (.agg [(.lst 4 (B.Tables.map x9))])])) (fun q => B.Tables.length - q.1) ⟨0,hb1⟩ ⟨[],[0],_,_,rfl,rfl,⟨.r,⟨.r,⟨.r,⟨.r,tr⟩⟩⟩⟩,.r⟩ ?_
   rintro ⟨A,hc1⟩
   have hc1:a4x B (B.Tables.drop A) A = some p63:=hc1
   refine (show awp Tryz.prog false 0 _ (ofL [(1,(.ptr 0 0 0)),(11,(.lst 4 (B.Tables.map x9))),(12,(.I (B.Tables.length:Int))),(13,(.I (A:Int)))]) [.box 1 (.agg [(.lst 4 (B.Tables.map x9))])] _ from ?_)
   rcases a6c B.Tables A with ⟨hie66,hd69⟩ | ⟨hlt64,D,hx65,hd69⟩
   ·rw [hd69,a4x.eq_1] at hc1
    have hq68:=dlf hie66
    refine sr<|o8 (.bool (decide ((A:Int) < (B.Tables.length:Int)))) rfl rfl rfl<|dk<|o7<|y9 rfl hq68<|a3i<|a3h<|a2e<|a3g<|?_;obtain rfl:=os hc1;exact a4b ⟨_,rfl⟩ ⟨[],[0],_,_,rfl,rfl,⟨.r,tr⟩,.r⟩
   ·rw [hd69,a4x.eq_2] at hc1
    have hq68:=dlt hlt64
    refine sr<|o8 (.bool (decide ((A:Int) < (B.Tables.length:Int)))) rfl rfl rfl<|dk<|o7<|y8 rfl hq68<|a0k<|a0m<|o7<|a3y<|sr<|l7 (.I (A:Int)) rfl<|x8 (a1o (enc:=x9) rfl rfl hx65)<|o8 (x9 D) rfl nle rfl<|x8 (a1j (j:=1) (c:=(.agg [(.str []),.nil,.nil,(.bool false)])) rfl tr rfl rfl)<|l7 (.I (A:Int)) rfl<|a3o (a0e (v:=(.agg [(.str D.Name),(.lst 8 (D.Columns.map o5)),(.lst 1 (D.Unique.map encI)),(.bool D.Root)])) (y':=(.agg [(.str D.Name),(.lst 8 (D.Columns.map o5)),(.lst 1 (D.Unique.map encI)),(.bool D.Root)])) rfl rfl rfl tr ⟨rfl,nle⟩ ⟨⟨rfl,tr⟩,⟨⟨rfl,tr⟩,⟨⟨rfl,tr⟩,⟨⟨rfl,tr⟩,tr⟩⟩⟩⟩ rfl)<|?_
    refine dk<|o7<|?_
    obtain ⟨F,hb2,hc1⟩:=ob hc1
    refine a1k ([(1,(.ptr 0 0 0)),(11,(.lst 4 (B.Tables.map x9))),(12,(.I (B.Tables.length:Int))),(13,(.I (A:Int))),(36,(.bool F))],[.box 1 (.agg [(.lst 4 (B.Tables.map x9))])]) ?_ ?_
    ·refine a0r<|o8 (.agg [(.str D.Name),(.lst 8 (D.Columns.map o5)),(.lst 1 (D.Unique.map encI)),(.bool D.Root)]) rfl nle rfl<|?_
     obtain ⟨G,er80,hb2⟩:=ob hb2
     refine a1a (a0j (c4z _ _ er80) rfl .r rfl) a7h tr<|o8 (.bool (!G)) rfl tr rfl<|l7 (.bool (!G)) rfl<|?_
     rcases oi hb2 with ⟨c81,hb2⟩ | ⟨c81,hb2⟩
     ·refine a0i (s:=21) (b:=true) rfl c81<|o6 rfl rfl<|o6 rfl rfl<|o6 rfl rfl<|a0x rfl<|a0x rfl<|a0x rfl<|a0x rfl<|a0x rfl<|a0x rfl<|a0x rfl<|a0x rfl<|a0x rfl<|a0x rfl<|o6 rfl rfl<|o8 (.bool true) rfl tr rfl<|y5<|?_;obtain rfl:=os hb2;exact ⟨[],[0],_,_,rfl,rfl,⟨.r,⟨.r,⟨.r,⟨.r,⟨.r,tr⟩⟩⟩⟩⟩,.r⟩
     ·refine a0i (s:=21) (b:=false) rfl (bf c81)<|s_on rfl<|l7 (.I (A:Int)) rfl<|s_on rfl<|o8 (.bool (decide ((A:Int) > 0))) rfl rfl rfl<|s_on rfl<|l7 (.bool (decide ((A:Int) > 0))) rfl<|?_
      rcases oi hb2 with ⟨c82,hb2⟩ | ⟨c82,hb2⟩
      ·refine a0i (s:=24) (b:=true) rfl c82<|s_on rfl<|o8 (.ptr 0 0 0) rfl tr rfl<|s_on rfl<|o8 (.lst 4 (B.Tables.map x9)) rfl nle rfl<|s_on rfl<|l7 (.I (A:Int)) rfl<|s_on rfl<|o8 (.I (w64 ((A:Int) - 1))) rfl rfl rfl<|s_on rfl<|?_
       obtain ⟨E,ex84,hb2⟩:=ob hb2
       refine x8 (a2t (enc:=x9) rfl rfl (a8n ex84) (a8o ex84))<|s_on rfl<|o8 (.iptr (x9 E) 0) rfl tr rfl<|s_on rfl<|o8 (.str E.Name) rfl nle rfl<|s_on rfl<|o8 (.ptr 1 0 0) rfl tr rfl<|s_on rfl<|o8 (.str D.Name) rfl nle rfl<|s_on rfl<|o8 (.bool (!Op.bytesLess E.Name D.Name)) rfl tr rfl<|s_on rfl<|o8 (.bool (!Op.bytesLess E.Name D.Name)) rfl tr rfl<|o8 (.bool (!Op.bytesLess E.Name D.Name)) rfl tr rfl<|y5<|?_;obtain rfl:=os hb2;exact ⟨[],[0],_,_,rfl,rfl,⟨.r,⟨.r,⟨.r,⟨.r,⟨.r,tr⟩⟩⟩⟩⟩,.r⟩
      ·refine a0i (s:=24) (b:=false) rfl (bf c82)<|o6 rfl rfl<|o6 rfl rfl<|o6 rfl rfl<|o6 rfl rfl<|o6 rfl rfl<|o6 rfl rfl<|o6 rfl rfl<|o6 rfl rfl<|o6 rfl rfl<|o6 rfl rfl<|s_on rfl<|o8 (.bool false) rfl tr rfl<|o8 (.bool false) rfl tr rfl<|y5<|?_;obtain rfl:=os hb2;exact ⟨[],[0],_,_,rfl,rfl,⟨.r,⟨.r,⟨.r,⟨.r,⟨.r,tr⟩⟩⟩⟩⟩,.r⟩
    ·rcases oi hc1 with ⟨c85,hc1⟩ | ⟨c85,hc1⟩
     ·refine y8 rfl c85<|sr<|l7 (.bool false) rfl<|dk<|a0b<|?_;obtain rfl:=os hc1;obtain rfl:=os hf;exact y7 ⟨tr,tr⟩ rfl .r
     ·refine y9 rfl (bf c85)<|a0k<|a2y<|a0m<|a0r<|o8 (.I (w64 ((A:Int) + 1))) rfl rfl rfl<|l7 (.I (w64 ((A:Int) + 1))) rfl<|y5<|?_;exact a1z ⟨(A + 1),hc1⟩ (mul hlt64) ⟨[],[0],_,_,rfl,rfl,⟨.r,⟨.r,⟨.r,⟨.of_eq (congrArg (AV.int _) (a1x hlt64 hl6)),tr⟩⟩⟩⟩,.r⟩
  ·rintro ⟨_,rfl⟩
   refine sr<|?_
   obtain ⟨H,er87,hf⟩:=ob hf
   refine o8 (.ptr 0 0 0) rfl tr rfl<|o8 (.lst 4 (B.Tables.map x9)) rfl nle rfl<|o8 (.fn 224 [(.ptr 0 0 0)]) rfl tr rfl<|?_;refine x8 (a0j (a9g _ _ _ er87 224 [(.iptr (a2x B) 0)] (by kernel_rfl) (fun _ _ => rfl) (fun _ => rfl) (fun a0 r h => c0s a0 B r h)) rfl .r rfl) ?_;refine o8 (.bool (!H)) rfl tr rfl<|l7 (.bool (!H)) rfl<|dk<|a0b<|?_;obtain rfl:=os hf;exact y7 ⟨tr,tr⟩ rfl .r

/- (impl.Op).isUnused -/
def c109:a0s :=
 (.seq (.reg (tq 1 (.box 8 (.t 0)) (tm 2 (.c (.bool false)) .done)))
 (.seq (.reg (tq 10 (.faddr 1 (.t 1)) (tq 11 (.load 1 false (.t 10)) (tq 12 (.bin .eql (.t 11) (.c (.str []))) (tq 13 (.faddr 2 (.t 1)) (tq 14 (.load 1 false (.t 13)) (tq 15 (.bin .eql (.t 14) (.c (.str []))) (tq 16 (.faddr 3 (.t 1)) (tq 17 (.load 1 false (.t 16)) (tq 18 (.len (.t 17)) (tq 19 (.bin .eql (.t 18) (.c (.int .i64 0))) (tq 20 (.faddr 4 (.t 1)) (tq 21 (.load 1 false (.t 20)) (tq 22 (.len (.t 21)) (tq 23 (.bin .eql (.t 22) (.c (.int .i64 0))) (tm 3 (.t 12) (tm 4 (.t 15) (tm 5 (.t 19) (tm 6 (.t 23) .done)))))))))))))))))))
 (.seq (.reg (tq 24 (.faddr 5 (.t 1)) (tq 25 (.load 1 false (.t 24)) (tq 26 (.len (.t 25)) (tq 27 (.bin .eql (.t 26) (.c (.int .i64 0))) (tq 28 (.faddr 6 (.t 1)) (tq 29 (.load 1 false (.t 28)) (tq 30 (.len (.t 29)) (tq 31 (.bin .eql (.t 30) (.c (.int .i64 0))) (tq 32 (.faddr 7 (.t 1)) (tq 33 (.load 1 false (.t 32)) (tq 34 (.not (.t 33)) (tm 7 (.t 27) (tm 8 (.t 31) (tm 9 (.t 34) .done)))))))))))))))
 (.seq (.seq (.reg (tq 35 (.faddr 0 (.t 1)) (tq 36 (.load 1 false (.t 35)) .done)))
 (.block 0 (.seq (.reg (tq 38 (.bin .eql (.t 36) (.c (.int .i64 1))) (tm 37 (.t 38) .done)))
 (.cond (.t 37) (.seq (.reg (tm 39 (.t 5) (tm 40 (.t 39) (tg 41 40 true (.mov (.t 7)) (tq 42 (.pick (.t 40) (.t 41) (.c (.bool false))) (tm 43 (.t 42) (tg 44 43 true (.mov (.t 8)) (tq 45 (.pick (.t 43) (.t 44) (.c (.bool false))) (tm 46 (.t 45) (tg 47 46 true (.mov (.t 9)) (tq 48 (.pick (.t 46) (.t 47) (.c (.bool false))) (tm 2 (.t 48) .done))))))))))))
 .ret)
 (.seq (.reg (tq 50 (.bin .eql (.t 36) (.c (.int .i64 2))) (tm 49 (.t 50) .done)))
 (.cond (.t 49) (.seq (.reg (tm 51 (.t 4) (tm 52 (.t 51) (tg 53 52 true (.mov (.t 6)) (tq 54 (.pick (.t 52) (.t 53) (.c (.bool false))) (tm 55 (.t 54) (tg 56 55 true (.mov (.t 7)) (tq 57 (.pick (.t 55) (.t 56) (.c (.bool false))) (tm 58 (.t 57) (tg 59 58 true (.mov (.t 9)) (tq 60 (.pick (.t 58) (.t 59) (.c (.bool false))) (tm 2 (.t 60) .done))))))))))))
 .ret)
 (.seq (.reg (tq 62 (.bin .eql (.t 36) (.c (.int .i64 3))) (tm 61 (.t 62) .done)))
 (.cond (.t 61) (.seq (.reg (tm 63 (.t 4) (tm 64 (.t 63) (tg 65 64 true (.mov (.t 7)) (tq 66 (.pick (.t 64) (.t 65) (.c (.bool false))) (tm 67 (.t 66) (tg 68 67 true (.mov (.t 8)) (tq 69 (.pick (.t 67) (.t 68) (.c (.bool false))) (tm 70 (.t 69) (tg 71 70 true (.mov (.t 9)) (tq 72 (.pick (.t 70) (.t 71) (.c (.bool false))) (tm 2 (.t 72) .done))))))))))))
 .ret)
 (.seq (.reg (tq 74 (.bin .eql (.t 36) (.c (.int .i64 4))) (tm 73 (.t 74) .done)))
 (.cond (.t 73) (.seq (.reg (tm 75 (.t 4) (tm 76 (.t 75) (tg 77 76 true (.mov (.t 6)) (tq 78 (.pick (.t 76) (.t 77) (.c (.bool false))) (tm 79 (.t 78) (tg 80 79 true (.mov (.t 8)) (tq 81 (.pick (.t 79) (.t 80) (.c (.bool false))) (tm 82 (.t 81) (tg 83 82 true (.mov (.t 9)) (tq 84 (.pick (.t 82) (.t 83) (.c (.bool false))) (tm 2 (.t 84) .done))))))))))))
 .ret)
 (.seq (.reg (tq 86 (.bin .eql (.t 36) (.c (.int .i64 5))) (tm 85 (.t 86) .done)))
 (.cond (.t 85) (.seq (.reg (tm 87 (.t 4) (tm 88 (.t 87) (tg 89 88 true (.mov (.t 6)) (tq 90 (.pick (.t 88) (.t 89) (.c (.bool false))) (tm 91 (.t 90) (tg 92 91 true (.mov (.t 7)) (tq 93 (.pick (.t 91) (.t 92) (.c (.bool false))) (tm 94 (.t 93) (tg 95 94 true (.mov (.t 8)) (tq 96 (.pick (.t 94) (.t 95) (.c (.bool false))) (tm 97 (.t 96) (tg 98 97 true (.mov (.t 9)) (tq 99 (.pick (.t 97) (.t 98) (.c (.bool false))) (tm 2 (.t 99) .done)))))))))))))))
 .ret)
 (.seq (.reg (tq 101 (.bin .eql (.t 36) (.c (.int .i64 6))) (tm 100 (.t 101) .done)))
 (.cond (.t 100) (.seq (.reg (tm 102 (.t 4) (tm 103 (.t 102) (tg 104 103 true (.mov (.t 7)) (tq 105 (.pick (.t 103) (.t 104) (.c (.bool false))) (tm 106 (.t 105) (tg 107 106 true (.mov (.t 8)) (tq 108 (.pick (.t 106) (.t 107) (.c (.bool false))) (tm 2 (.t 108) .done)))))))))
 .ret)
 (.seq (.seq (.reg (tq 110 (.bin .eql (.t 36) (.c (.int .i64 7))) (tm 109 (.t 110) .done)))
 (.cond (.t 109) .skip
 (.reg (tq 111 (.bin .eql (.t 36) (.c (.int .i64 8))) (tm 109 (.t 111) .done)))))
 (.cut (.cond (.t 109) (.seq (.reg (tm 112 (.t 3) (tm 113 (.t 112) (tg 114 113 true (.mov (.t 4)) (tq 115 (.pick (.t 113) (.t 114) (.c (.bool false))) (tm 116 (.t 115) (tg 117 116 true (.mov (.t 5)) (tq 118 (.pick (.t 116) (.t 117) (.c (.bool false))) (tm 119 (.t 118) (tg 120 119 true (.mov (.t 6)) (tq 121 (.pick (.t 119) (.t 120) (.c (.bool false))) (tm 122 (.t 121) (tg 123 122 true (.mov (.t 7)) (tq 124 (.pick (.t 122) (.t 123) (.c (.bool false))) (tm 125 (.t 124) (tg 126 125 true (.mov (.t 8)) (tq 127 (.pick (.t 125) (.t 126) (.c (.bool false))) (tm 128 (.t 127) (tg 129 128 true (.mov (.t 9)) (tq 130 (.pick (.t 128) (.t 129) (.c (.bool false))) (tm 2 (.t 130) .done)))))))))))))))))))))
 .ret)
 (.seq (.seq (.reg (tq 132 (.bin .eql (.t 36) (.c (.int .i64 9))) (tm 131 (.t 132) .done)))
 (.cond (.t 131) .skip
 (.reg (tq 133 (.bin .eql (.t 36) (.c (.int .i64 10))) (tm 131 (.t 133) .done)))))
 (.cut (.cond (.t 131) (.seq (.reg (tm 134 (.t 3) (tm 135 (.t 134) (tg 136 135 true (.mov (.t 5)) (tq 137 (.pick (.t 135) (.t 136) (.c (.bool false))) (tm 138 (.t 137) (tg 139 138 true (.mov (.t 6)) (tq 140 (.pick (.t 138) (.t 139) (.c (.bool false))) (tm 141 (.t 140) (tg 142 141 true (.mov (.t 7)) (tq 143 (.pick (.t 141) (.t 142) (.c (.bool false))) (tm 144 (.t 143) (tg 145 144 true (.mov (.t 8)) (tq 146 (.pick (.t 144) (.t 145) (.c (.bool false))) (tm 147 (.t 146) (tg 148 147 true (.mov (.t 9)) (tq 149 (.pick (.t 147) (.t 148) (.c (.bool false))) (tm 2 (.t 149) .done))))))))))))))))))
 .ret)
 .skip))))))))))))))))))))
 (.seq (.reg (tm 2 (.c (.bool false)) .done))
 .ret)))))
theorem e3r:a1e Tryz.prog Tryz.f109 = some (c109.erase,[.mov (.t 2)],150):=by kernel_rfl
def a9c (A:GOp):Option Bool :=
    if (A.Kind == 1) then
    if ((A.Where.length:Int) == 0) then
    if ((A.Muts.length:Int) == 0) then
    if ((A.Columns.length:Int) == 0) then
    some (!A.Until)
    else
    some false
    else
    some false
    else
    some false
    else
    if (A.Kind == 2) then
    if (A.Name == []) then
    if ((A.Row.length:Int) == 0) then
    if ((A.Muts.length:Int) == 0) then
    some (!A.Until)
    else
    some false
    else
    some false
    else
    some false
    else
    if (A.Kind == 3) then
    if (A.Name == []) then
    if ((A.Muts.length:Int) == 0) then
    if ((A.Columns.length:Int) == 0) then
    some (!A.Until)
    else
    some false
    else
    some false
    else
    some false
    else
    if (A.Kind == 4) then
    if (A.Name == []) then
    if ((A.Row.length:Int) == 0) then
    if ((A.Columns.length:Int) == 0) then
    some (!A.Until)
    else
    some false
    else
    some false
    else
    some false
    else
    if (A.Kind == 5) then
    some (bif (bif (bif (bif (A.Name == []) then ((A.Row.length:Int) == 0) else false) then ((A.Muts.length:Int) == 0) else false) then ((A.Columns.length:Int) == 0) else false) then (!A.Until) else false)
    else
    if (A.Kind == 6) then
    if (A.Name == []) then
    if ((A.Muts.length:Int) == 0) then
    some ((A.Columns.length:Int) == 0)
    else
    some false
    else
    some false
    else
    ((if (A.Kind == 7) then
    some true
    else
    some (A.Kind == 8):Option Bool)).bind fun B =>
    if B then
    some (bif (bif (bif (bif (bif (bif (A.Table == []) then (A.Name == []) else false) then ((A.Where.length:Int) == 0) else false) then ((A.Row.length:Int) == 0) else false) then ((A.Muts.length:Int) == 0) else false) then ((A.Columns.length:Int) == 0) else false) then (!A.Until) else false)
    else
    ((if (A.Kind == 9) then
    some true
    else
    some (A.Kind == 10):Option Bool)).bind fun D =>
    if D then
    some (bif (bif (bif (bif (bif (A.Table == []) then ((A.Where.length:Int) == 0) else false) then ((A.Row.length:Int) == 0) else false) then ((A.Muts.length:Int) == 0) else false) then ((A.Columns.length:Int) == 0) else false) then (!A.Until) else false)
    else
    some false
theorem b9v (A:GOp) (r:Bool) (hf:a9c A = some r):a0a Tryz.prog 109 .flat [(a2u A)] (.bool r):=by
 refine a0a.of_awp mixed Tryz.func109 e3r nle ?_;rw [a0n];unfold a9c at hf;unfold c109;refine (show awp Tryz.prog false 0 _ (ofL [(0,(a2u A))]) [] _ from ?_);refine sr<|x8 (a1j (j:=0) (c:=(.agg [(.I A.Kind),(.str A.Table),(.str A.Name),(.lst 3 (A.Where.map a0d)),(.lst 3 (A.Row.map a0f)),(.lst 3 (A.Muts.map a0o)),(.lst 1 (A.Columns.map AV.str)),(.bool A.Until)])) rfl tr rfl rfl)<|l7 (.bool false) rfl<|dk<|sr<|o8 (.ptr 0 0 1) rfl tr rfl<|o8 (.str A.Table) rfl nle rfl<|o8 (.bool (A.Table == [])) rfl tr rfl<|o8 (.ptr 0 0 2) rfl tr rfl<|o8 (.str A.Name) rfl nle rfl<|?_
 refine o8 (.bool (A.Name == [])) rfl tr rfl<|o8 (.ptr 0 0 3) rfl tr rfl<|o8 (.lst 3 (A.Where.map a0d)) rfl nle rfl<|a1i (a1p (enc:=a0d) rfl) fun hl2 => o8 (.bool ((A.Where.length:Int) == 0)) rfl rfl rfl<|o8 (.ptr 0 0 4) rfl tr rfl<|o8 (.lst 3 (A.Row.map a0f)) rfl nle rfl<|a1i (a1p (enc:=a0f) rfl) fun hl3 => o8 (.bool ((A.Row.length:Int) == 0)) rfl rfl rfl<|l7 (.bool (A.Table == [])) rfl<|l7 (.bool (A.Name == [])) rfl<|l7 (.bool ((A.Where.length:Int) == 0)) rfl<|l7 (.bool ((A.Row.length:Int) == 0)) rfl<|dk<|sr<|o8 (.ptr 0 0 5) rfl tr rfl<|o8 (.lst 3 (A.Muts.map a0o)) rfl nle rfl<|?_
 refine a1i (a1p (enc:=a0o) rfl) fun hl4 => o8 (.bool ((A.Muts.length:Int) == 0)) rfl rfl rfl<|o8 (.ptr 0 0 6) rfl tr rfl<|o8 (.lst 1 (A.Columns.map AV.str)) rfl nle rfl<|a1i (a1p (enc:=AV.str) rfl) fun hl5 => o8 (.bool ((A.Columns.length:Int) == 0)) rfl rfl rfl<|o8 (.ptr 0 0 7) rfl tr rfl<|o8 (.bool A.Until) rfl nle rfl<|o8 (.bool (!A.Until)) rfl tr rfl<|l7 (.bool ((A.Muts.length:Int) == 0)) rfl<|l7 (.bool ((A.Columns.length:Int) == 0)) rfl<|l7 (.bool (!A.Until)) rfl<|dk<|o7<|sr<|o8 (.ptr 0 0 0) rfl tr rfl<|o8 (.I A.Kind) rfl nle rfl<|dk<|?_
 refine a3y<|sr<|o8 (.bool (A.Kind == 1)) rfl rfl rfl<|l7 (.bool (A.Kind == 1)) rfl<|dk<|?_
 rcases oi hf with ⟨c6,hf⟩ | ⟨c6,hf⟩
 ·refine y8 rfl c6<|sr<|?_
  rcases oi hf with ⟨c7,hf⟩ | ⟨c7,hf⟩
  ·rcases oi hf with ⟨c8,hf⟩ | ⟨c8,hf⟩
   ·rcases oi hf with ⟨c9,hf⟩ | ⟨c9,hf⟩
    ·refine l7 (.bool ((A.Where.length:Int) == 0)) rfl<|l7 (.bool ((A.Where.length:Int) == 0)) rfl<|a0i (s:=40) (b:=true) rfl c7<|s_on rfl<|l7 (.bool ((A.Muts.length:Int) == 0)) rfl<|o8 (.bool ((A.Muts.length:Int) == 0)) rfl tr rfl<|l7 (.bool ((A.Muts.length:Int) == 0)) rfl<|a0i (s:=43) (b:=true) rfl c8<|s_on rfl<|l7 (.bool ((A.Columns.length:Int) == 0)) rfl<|o8 (.bool ((A.Columns.length:Int) == 0)) rfl tr rfl<|l7 (.bool ((A.Columns.length:Int) == 0)) rfl<|a0i (s:=46) (b:=true) rfl c9<|s_on rfl<|l7 (.bool (!A.Until)) rfl<|o8 (.bool (!A.Until)) rfl tr rfl<|l7 (.bool (!A.Until)) rfl<|?_
     refine dk<|a0b<|?_;obtain rfl:=os hf;exact y7 ⟨tr,tr⟩ rfl .r
    ·refine l7 (.bool ((A.Where.length:Int) == 0)) rfl<|l7 (.bool ((A.Where.length:Int) == 0)) rfl<|a0i (s:=40) (b:=true) rfl c7<|s_on rfl<|l7 (.bool ((A.Muts.length:Int) == 0)) rfl<|o8 (.bool ((A.Muts.length:Int) == 0)) rfl tr rfl<|l7 (.bool ((A.Muts.length:Int) == 0)) rfl<|a0i (s:=43) (b:=true) rfl c8<|s_on rfl<|l7 (.bool ((A.Columns.length:Int) == 0)) rfl<|o8 (.bool ((A.Columns.length:Int) == 0)) rfl tr rfl<|l7 (.bool ((A.Columns.length:Int) == 0)) rfl<|a0i (s:=46) (b:=false) rfl (bf c9)<|o6 rfl rfl<|o8 (.bool false) rfl tr rfl<|l7 (.bool false) rfl<|dk<|a0b<|?_;obtain rfl:=os hf
     exact y7 ⟨tr,tr⟩ rfl .r
   ·refine l7 (.bool ((A.Where.length:Int) == 0)) rfl<|l7 (.bool ((A.Where.length:Int) == 0)) rfl<|a0i (s:=40) (b:=true) rfl c7<|s_on rfl<|l7 (.bool ((A.Muts.length:Int) == 0)) rfl<|o8 (.bool ((A.Muts.length:Int) == 0)) rfl tr rfl<|l7 (.bool ((A.Muts.length:Int) == 0)) rfl<|a0i (s:=43) (b:=false) rfl (bf c8)<|o6 rfl rfl<|o8 (.bool false) rfl tr rfl<|l7 (.bool false) rfl<|o6 rfl rfl<|o8 (.bool false) rfl tr rfl<|l7 (.bool false) rfl<|dk<|a0b<|?_;obtain rfl:=os hf;exact y7 ⟨tr,tr⟩ rfl .r
  ·refine l7 (.bool ((A.Where.length:Int) == 0)) rfl<|l7 (.bool ((A.Where.length:Int) == 0)) rfl<|a0i (s:=40) (b:=false) rfl (bf c7)<|o6 rfl rfl<|o8 (.bool false) rfl tr rfl<|l7 (.bool false) rfl<|o6 rfl rfl<|o8 (.bool false) rfl tr rfl<|l7 (.bool false) rfl<|o6 rfl rfl<|o8 (.bool false) rfl tr rfl<|l7 (.bool false) rfl<|dk<|a0b<|?_;obtain rfl:=os hf;exact y7 ⟨tr,tr⟩ rfl .r
 ·refine y9 rfl (bf c6)<|sr<|o8 (.bool (A.Kind == 2)) rfl rfl rfl<|l7 (.bool (A.Kind == 2)) rfl<|dk<|?_
  rcases oi hf with ⟨c10,hf⟩ | ⟨c10,hf⟩
  ·refine y8 rfl c10<|sr<|?_
   rcases oi hf with ⟨c11,hf⟩ | ⟨c11,hf⟩
   ·rcases oi hf with ⟨c12,hf⟩ | ⟨c12,hf⟩
    ·rcases oi hf with ⟨c13,hf⟩ | ⟨c13,hf⟩
     ·refine l7 (.bool (A.Name == [])) rfl<|l7 (.bool (A.Name == [])) rfl<|a0i (s:=52) (b:=true) rfl c11<|s_on rfl<|l7 (.bool ((A.Row.length:Int) == 0)) rfl<|o8 (.bool ((A.Row.length:Int) == 0)) rfl tr rfl<|l7 (.bool ((A.Row.length:Int) == 0)) rfl<|a0i (s:=55) (b:=true) rfl c12<|s_on rfl<|l7 (.bool ((A.Muts.length:Int) == 0)) rfl<|o8 (.bool ((A.Muts.length:Int) == 0)) rfl tr rfl<|l7 (.bool ((A.Muts.length:Int) == 0)) rfl<|a0i (s:=58) (b:=true) rfl c13<|s_on rfl<|l7 (.bool (!A.Until)) rfl<|o8 (.bool (!A.Until)) rfl tr rfl<|l7 (.bool (!A.Until)) rfl<|dk<|a0b<|?_;obtain rfl:=os hf
      exact y7 ⟨tr,tr⟩ rfl .r
     ·refine l7 (.bool (A.Name == [])) rfl<|l7 (.bool (A.Name == [])) rfl<|a0i (s:=52) (b:=true) rfl c11<|s_on rfl<|l7 (.bool ((A.Row.length:Int) == 0)) rfl<|o8 (.bool ((A.Row.length:Int) == 0)) rfl tr rfl<|l7 (.bool ((A.Row.length:Int) == 0)) rfl<|a0i (s:=55) (b:=true) rfl c12<|s_on rfl<|l7 (.bool ((A.Muts.length:Int) == 0)) rfl<|o8 (.bool ((A.Muts.length:Int) == 0)) rfl tr rfl<|l7 (.bool ((A.Muts.length:Int) == 0)) rfl<|a0i (s:=58) (b:=false) rfl (bf c13)<|o6 rfl rfl<|o8 (.bool false) rfl tr rfl<|l7 (.bool false) rfl<|dk<|a0b<|?_;obtain rfl:=os hf;exact y7 ⟨tr,tr⟩ rfl .r
    ·refine l7 (.bool (A.Name == [])) rfl<|l7 (.bool (A.Name == [])) rfl<|a0i (s:=52) (b:=true) rfl c11<|s_on rfl<|l7 (.bool ((A.Row.length:Int) == 0)) rfl<|o8 (.bool ((A.Row.length:Int) == 0)) rfl tr rfl<|l7 (.bool ((A.Row.length:Int) == 0)) rfl<|a0i (s:=55) (b:=false) rfl (bf c12)<|o6 rfl rfl<|o8 (.bool false) rfl tr rfl<|l7 (.bool false) rfl<|o6 rfl rfl<|o8 (.bool false) rfl tr rfl<|l7 (.bool false) rfl<|dk<|a0b<|?_;obtain rfl:=os hf;exact y7 ⟨tr,tr⟩ rfl .r
   ·refine l7 (.bool (A.Name == [])) rfl<|l7 (.bool (A.Name == [])) rfl<|a0i (s:=52) (b:=false) rfl (bf c11)<|o6 rfl rfl<|o8 (.bool false) rfl tr rfl<|l7 (.bool false) rfl<|o6 rfl rfl<|o8 (.bool false) rfl tr rfl<|l7 (.bool false) rfl<|o6 rfl rfl<|o8 (.bool false) rfl tr rfl<|l7 (.bool false) rfl<|dk<|a0b<|?_;obtain rfl:=os hf;exact y7 ⟨tr,tr⟩ rfl .r
  ·refine y9 rfl (bf c10)<|sr<|o8 (.bool (A.Kind == 3)) rfl rfl rfl<|l7 (.bool (A.Kind == 3)) rfl<|dk<|?_
   rcases oi hf with ⟨c14,hf⟩ | ⟨c14,hf⟩
   ·refine y8 rfl c14<|sr<|?_
    rcases oi hf with ⟨c15,hf⟩ | ⟨c15,hf⟩
    ·rcases oi hf with ⟨c16,hf⟩ | ⟨c16,hf⟩
     ·rcases oi hf with ⟨c17,hf⟩ | ⟨c17,hf⟩
      ·refine l7 (.bool (A.Name == [])) rfl<|l7 (.bool (A.Name == [])) rfl<|a0i (s:=64) (b:=true) rfl c15<|s_on rfl<|l7 (.bool ((A.Muts.length:Int) == 0)) rfl<|o8 (.bool ((A.Muts.length:Int) == 0)) rfl tr rfl<|l7 (.bool ((A.Muts.length:Int) == 0)) rfl<|a0i (s:=67) (b:=true) rfl c16<|s_on rfl<|l7 (.bool ((A.Columns.length:Int) == 0)) rfl<|o8 (.bool ((A.Columns.length:Int) == 0)) rfl tr rfl<|l7 (.bool ((A.Columns.length:Int) == 0)) rfl<|a0i (s:=70) (b:=true) rfl c17<|s_on rfl<|l7 (.bool (!A.Until)) rfl<|o8 (.bool (!A.Until)) rfl tr rfl<|l7 (.bool (!A.Until)) rfl<|dk<|a0b<|?_
       obtain rfl:=os hf;exact y7 ⟨tr,tr⟩ rfl .r
      ·refine l7 (.bool (A.Name == [])) rfl<|l7 (.bool (A.Name == [])) rfl<|a0i (s:=64) (b:=true) rfl c15<|s_on rfl<|l7 (.bool ((A.Muts.length:Int) == 0)) rfl<|o8 (.bool ((A.Muts.length:Int) == 0)) rfl tr rfl<|l7 (.bool ((A.Muts.length:Int) == 0)) rfl<|a0i (s:=67) (b:=true) rfl c16<|s_on rfl<|l7 (.bool ((A.Columns.length:Int) == 0)) rfl<|o8 (.bool ((A.Columns.length:Int) == 0)) rfl tr rfl<|l7 (.bool ((A.Columns.length:Int) == 0)) rfl<|a0i (s:=70) (b:=false) rfl (bf c17)<|o6 rfl rfl<|o8 (.bool false) rfl tr rfl<|l7 (.bool false) rfl<|dk<|a0b<|?_;obtain rfl:=os hf;exact y7 ⟨tr,tr⟩ rfl .r
     ·refine l7 (.bool (A.Name == [])) rfl<|l7 (.bool (A.Name == [])) rfl<|a0i (s:=64) (b:=true) rfl c15<|s_on rfl<|l7 (.bool ((A.Muts.length:Int) == 0)) rfl<|o8 (.bool ((A.Muts.length:Int) == 0)) rfl tr rfl<|l7 (.bool ((A.Muts.length:Int) == 0)) rfl<|a0i (s:=67) (b:=false) rfl (bf c16)<|o6 rfl rfl<|o8 (.bool false) rfl tr rfl<|l7 (.bool false) rfl<|o6 rfl rfl<|o8 (.bool false) rfl tr rfl<|l7 (.bool false) rfl<|dk<|a0b<|?_;obtain rfl:=os hf;exact y7 ⟨tr,tr⟩ rfl .r
    ·refine l7 (.bool (A.Name == [])) rfl<|l7 (.bool (A.Name == [])) rfl<|a0i (s:=64) (b:=false) rfl (bf c15)<|o6 rfl rfl<|o8 (.bool false) rfl tr rfl<|l7 (.bool false) rfl<|o6 rfl rfl<|o8 (.bool false) rfl tr rfl<|l7 (.bool false) rfl<|o6 rfl rfl<|o8 (.bool false) rfl tr rfl<|l7 (.bool false) rfl<|dk<|a0b<|?_;obtain rfl:=os hf;exact y7 ⟨tr,tr⟩ rfl .r
   ·refine y9 rfl (bf c14)<|sr<|o8 (.bool (A.Kind == 4)) rfl rfl rfl<|l7 (.bool (A.Kind == 4)) rfl<|dk<|?_
    rcases oi hf with ⟨c18,hf⟩ | ⟨c18,hf⟩
    ·refine y8 rfl c18<|sr<|?_
     rcases oi hf with ⟨c19,hf⟩ | ⟨c19,hf⟩
     ·rcases oi hf with ⟨c20,hf⟩ | ⟨c20,hf⟩
      ·rcases oi hf with ⟨c21,hf⟩ | ⟨c21,hf⟩
       ·refine l7 (.bool (A.Name == [])) rfl<|l7 (.bool (A.Name == [])) rfl<|a0i (s:=76) (b:=true) rfl c19<|s_on rfl<|l7 (.bool ((A.Row.length:Int) == 0)) rfl<|o8 (.bool ((A.Row.length:Int) == 0)) rfl tr rfl<|l7 (.bool ((A.Row.length:Int) == 0)) rfl<|a0i (s:=79) (b:=true) rfl c20<|s_on rfl<|l7 (.bool ((A.Columns.length:Int) == 0)) rfl<|o8 (.bool ((A.Columns.length:Int) == 0)) rfl tr rfl<|l7 (.bool ((A.Columns.length:Int) == 0)) rfl<|a0i (s:=82) (b:=true) rfl c21<|s_on rfl<|l7 (.bool (!A.Until)) rfl<|o8 (.bool (!A.Until)) rfl tr rfl<|l7 (.bool (!A.Until)) rfl<|dk<|a0b<|?_
        obtain rfl:=os hf;exact y7 ⟨tr,tr⟩ rfl .r
       ·refine l7 (.bool (A.Name == [])) rfl<|l7 (.bool (A.Name == [])) rfl<|a0i (s:=76) (b:=true) rfl c19<|s_on rfl<|l7 (.bool ((A.Row.length:Int) == 0)) rfl<|o8 (.bool ((A.Row.length:Int) == 0)) rfl tr rfl<|l7 (.bool ((A.Row.length:Int) == 0)) rfl<|a0i (s:=79) (b:=true) rfl c20<|s_on rfl<|l7 (.bool ((A.Columns.length:Int) == 0)) rfl<|o8 (.bool ((A.Columns.length:Int) == 0)) rfl tr rfl<|l7 (.bool ((A.Columns.length:Int) == 0)) rfl<|a0i (s:=82) (b:=false) rfl (bf c21)<|o6 rfl rfl<|o8 (.bool false) rfl tr rfl<|l7 (.bool false) rfl<|dk<|a0b<|?_;obtain rfl:=os hf;exact y7 ⟨tr,tr⟩ rfl .r
      ·refine l7 (.bool (A.Name == [])) rfl<|l7 (.bool (A.Name == [])) rfl<|a0i (s:=76) (b:=true) rfl c19<|s_on rfl<|l7 (.bool ((A.Row.length:Int) == 0)) rfl<|o8 (.bool ((A.Row.length:Int) == 0)) rfl tr rfl<|l7 (.bool ((A.Row.length:Int) == 0)) rfl<|a0i (s:=79) (b:=false) rfl (bf c20)<|o6 rfl rfl<|o8 (.bool false) rfl tr rfl<|l7 (.bool false) rfl<|o6 rfl rfl<|o8 (.bool false) rfl tr rfl<|l7 (.bool false) rfl<|dk<|a0b<|?_;obtain rfl:=os hf;exact y7 ⟨tr,tr⟩ rfl .r
     ·refine l7 (.bool (A.Name == [])) rfl<|l7 (.bool (A.Name == [])) rfl<|a0i (s:=76) (b:=false) rfl (bf c19)<|o6 rfl rfl<|o8 (.bool false) rfl tr rfl<|l7 (.bool false) rfl<|o6 rfl rfl<|o8 (.bool false) rfl tr rfl<|l7 (.bool false) rfl<|o6 rfl rfl<|o8 (.bool false) rfl tr rfl<|l7 (.bool false) rfl<|dk<|a0b<|?_;obtain rfl:=os hf;exact y7 ⟨tr,tr⟩ rfl .r
    ·refine y9 rfl (bf c18)<|sr<|o8 (.bool (A.Kind == 5)) rfl rfl rfl<|l7 (.bool (A.Kind == 5)) rfl<|dk<|?_
     rcases oi hf with ⟨c22,hf⟩ | ⟨c22,hf⟩
     ·refine y8 rfl c22<|sr<|l7 (.bool (A.Name == [])) rfl<|l7 (.bool (A.Name == [])) rfl<|?_;refine s_g (v:=(A.Name == [])) (.bool ((A.Row.length:Int) == 0)) rfl (fun hv => by (try simp only [o9 hv]);exact ⟨rfl,tr,rfl⟩) ?_;refine a2a (x:=((A.Row.length:Int) == 0)) (y:=false) rfl (fun hv => by (try simp only [o9 hv]);rfl) (fun hv => by (try simp only [o9 hv]);rfl) ?_;refine l7 (.bool (bif (A.Name == []) then ((A.Row.length:Int) == 0) else false)) rfl ?_;refine s_g (v:=(bif (A.Name == []) then ((A.Row.length:Int) == 0) else false)) (.bool ((A.Muts.length:Int) == 0)) rfl (fun hv => by (try simp only [o9 hv]);exact ⟨rfl,tr,rfl⟩) ?_
      refine a2a (x:=((A.Muts.length:Int) == 0)) (y:=false) rfl (fun hv => by (try simp only [o9 hv]);rfl) (fun hv => by (try simp only [o9 hv]);rfl) ?_;refine l7 (.bool (bif (bif (A.Name == []) then ((A.Row.length:Int) == 0) else false) then ((A.Muts.length:Int) == 0) else false)) rfl ?_;refine s_g (v:=(bif (bif (A.Name == []) then ((A.Row.length:Int) == 0) else false) then ((A.Muts.length:Int) == 0) else false)) (.bool ((A.Columns.length:Int) == 0)) rfl (fun hv => by (try simp only [o9 hv]);exact ⟨rfl,tr,rfl⟩) ?_;refine a2a (x:=((A.Columns.length:Int) == 0)) (y:=false) rfl (fun hv => by (try simp only [o9 hv]);rfl) (fun hv => by (try simp only [o9 hv]);rfl) ?_
      refine l7 (.bool (bif (bif (bif (A.Name == []) then ((A.Row.length:Int) == 0) else false) then ((A.Muts.length:Int) == 0) else false) then ((A.Columns.length:Int) == 0) else false)) rfl ?_;refine s_g (v:=(bif (bif (bif (A.Name == []) then ((A.Row.length:Int) == 0) else false) then ((A.Muts.length:Int) == 0) else false) then ((A.Columns.length:Int) == 0) else false)) (.bool (!A.Until)) rfl (fun hv => by (try simp only [o9 hv]);exact ⟨rfl,tr,rfl⟩) ?_;refine a2a (x:=(!A.Until)) (y:=false) rfl (fun hv => by (try simp only [o9 hv]);rfl) (fun hv => by (try simp only [o9 hv]);rfl) ?_;refine l7 (.bool (bif (bif (bif (bif (A.Name == []) then ((A.Row.length:Int) == 0) else false) then ((A.Muts.length:Int) == 0) else false) then ((A.Columns.length:Int) == 0) else false) then (!A.Until) else false)) rfl ?_
      refine dk<|a0b<|?_;obtain rfl:=os hf;exact y7 ⟨tr,tr⟩ rfl .r
     ·refine y9 rfl (bf c22)<|sr<|o8 (.bool (A.Kind == 6)) rfl rfl rfl<|l7 (.bool (A.Kind == 6)) rfl<|dk<|?_
      rcases oi hf with ⟨c23,hf⟩ | ⟨c23,hf⟩
      ·refine y8 rfl c23<|sr<|?_
       rcases oi hf with ⟨c24,hf⟩ | ⟨c24,hf⟩
       ·rcases oi hf with ⟨c25,hf⟩ | ⟨c25,hf⟩
        ·refine l7 (.bool (A.Name == [])) rfl<|l7 (.bool (A.Name == [])) rfl<|a0i (s:=103) (b:=true) rfl c24<|s_on rfl<|l7 (.bool ((A.Muts.length:Int) == 0)) rfl<|o8 (.bool ((A.Muts.length:Int) == 0)) rfl tr rfl<|l7 (.bool ((A.Muts.length:Int) == 0)) rfl<|a0i (s:=106) (b:=true) rfl c25<|s_on rfl<|l7 (.bool ((A.Columns.length:Int) == 0)) rfl<|o8 (.bool ((A.Columns.length:Int) == 0)) rfl tr rfl<|l7 (.bool ((A.Columns.length:Int) == 0)) rfl<|dk<|a0b<|?_;obtain rfl:=os hf;exact y7 ⟨tr,tr⟩ rfl .r
        ·refine l7 (.bool (A.Name == [])) rfl<|l7 (.bool (A.Name == [])) rfl<|a0i (s:=103) (b:=true) rfl c24<|s_on rfl<|l7 (.bool ((A.Muts.length:Int) == 0)) rfl<|o8 (.bool ((A.Muts.length:Int) == 0)) rfl tr rfl<|l7 (.bool ((A.Muts.length:Int) == 0)) rfl<|a0i (s:=106) (b:=false) rfl (bf c25)<|o6 rfl rfl<|o8 (.bool false) rfl tr rfl<|l7 (.bool false) rfl<|dk<|a0b<|?_;obtain rfl:=os hf;exact y7 ⟨tr,tr⟩ rfl .r
       ·refine l7 (.bool (A.Name == [])) rfl<|l7 (.bool (A.Name == [])) rfl<|a0i (s:=103) (b:=false) rfl (bf c24)<|o6 rfl rfl<|o8 (.bool false) rfl tr rfl<|l7 (.bool false) rfl<|o6 rfl rfl<|o8 (.bool false) rfl tr rfl<|l7 (.bool false) rfl<|dk<|a0b<|?_;obtain rfl:=os hf;exact y7 ⟨tr,tr⟩ rfl .r
      ·refine y9 rfl (bf c23)<|o7<|?_
       obtain ⟨B,hb1,hf⟩:=ob hf
       refine a1k ([(3,(.bool (A.Table == []))),(4,(.bool (A.Name == []))),(5,(.bool ((A.Where.length:Int) == 0))),(6,(.bool ((A.Row.length:Int) == 0))),(7,(.bool ((A.Muts.length:Int) == 0))),(8,(.bool ((A.Columns.length:Int) == 0))),(9,(.bool (!A.Until))),(36,(.I A.Kind)),(109,(.bool B))],[]) ?_ ?_
       ·refine sr<|o8 (.bool (A.Kind == 7)) rfl rfl rfl<|l7 (.bool (A.Kind == 7)) rfl<|dk<|?_
        rcases oi hb1 with ⟨c29,hb1⟩ | ⟨c29,hb1⟩
        ·refine y8 rfl c29<|a0k<|?_;obtain rfl:=os hb1;exact ⟨[],[],_,_,rfl,rfl,⟨.r,⟨.r,⟨.r,⟨.r,⟨.r,⟨.r,⟨.r,⟨.r,⟨.r,tr⟩⟩⟩⟩⟩⟩⟩⟩⟩,.r⟩
        ·refine y9 rfl (bf c29)<|a0r<|o8 (.bool (A.Kind == 8)) rfl rfl rfl<|l7 (.bool (A.Kind == 8)) rfl<|y5<|?_;obtain rfl:=os hb1;exact ⟨[],[],_,_,rfl,rfl,⟨.r,⟨.r,⟨.r,⟨.r,⟨.r,⟨.r,⟨.r,⟨.r,⟨.r,tr⟩⟩⟩⟩⟩⟩⟩⟩⟩,.r⟩
       ·rcases oi hf with ⟨c30,hf⟩ | ⟨c30,hf⟩
        ·refine y8 rfl c30<|sr<|l7 (.bool (A.Table == [])) rfl<|l7 (.bool (A.Table == [])) rfl<|?_;refine s_g (v:=(A.Table == [])) (.bool (A.Name == [])) rfl (fun hv => by (try simp only [o9 hv]);exact ⟨rfl,tr,rfl⟩) ?_;refine a2a (x:=(A.Name == [])) (y:=false) rfl (fun hv => by (try simp only [o9 hv]);rfl) (fun hv => by (try simp only [o9 hv]);rfl) ?_;refine l7 (.bool (bif (A.Table == []) then (A.Name == []) else false)) rfl ?_;refine s_g (v:=(bif (A.Table == []) then (A.Name == []) else false)) (.bool ((A.Where.length:Int) == 0)) rfl (fun hv => by (try simp only [o9 hv]);exact ⟨rfl,tr,rfl⟩) ?_;refine a2a (x:=((A.Where.length:Int) == 0)) (y:=false) rfl (fun hv => by (try simp only [o9 hv]);rfl) (fun hv => by (try simp only [o9 hv]);rfl) ?_
         refine l7 (.bool (bif (bif (A.Table == []) then (A.Name == []) else false) then ((A.Where.length:Int) == 0) else false)) rfl ?_;refine s_g (v:=(bif (bif (A.Table == []) then (A.Name == []) else false) then ((A.Where.length:Int) == 0) else false)) (.bool ((A.Row.length:Int) == 0)) rfl (fun hv => by (try simp only [o9 hv]);exact ⟨rfl,tr,rfl⟩) ?_;refine a2a (x:=((A.Row.length:Int) == 0)) (y:=false) rfl (fun hv => by (try simp only [o9 hv]);rfl) (fun hv => by (try simp only [o9 hv]);rfl) ?_;refine l7 (.bool (bif (bif (bif (A.Table == []) then (A.Name == []) else false) then ((A.Where.length:Int) == 0) else false) then ((A.Row.length:Int) == 0) else false)) rfl ?_
         refine s_g (v:=(bif (bif (bif (A.Table == []) then (A.Name == []) else false) then ((A.Where.length:Int) == 0) else false) then ((A.Row.length:Int) == 0) else false)) (.bool ((A.Muts.length:Int) == 0)) rfl (fun hv => by (try simp only [o9 hv]);exact ⟨rfl,tr,rfl⟩) ?_;refine a2a (x:=((A.Muts.length:Int) == 0)) (y:=false) rfl (fun hv => by (try simp only [o9 hv]);rfl) (fun hv => by (try simp only [o9 hv]);rfl) ?_;refine l7 (.bool (bif (bif (bif (bif (A.Table == []) then (A.Name == []) else false) then ((A.Where.length:Int) == 0) else false) then ((A.Row.length:Int) == 0) else false) then ((A.Muts.length:Int) == 0) else false)) rfl ?_;refine s_g (v:=(bif (bif (bif (bif (A.Table == []) then (A.Name == []) else false) then ((A.Where.length:Int) == 0) else false) then ((A.Row.length:Int) == 0) else false) then ((A.Muts.length:Int) == 0) else false)) (.bool ((A.Columns.length:Int) == 0)) rfl (fun hv => by (try simp only [o9 hv]);exact ⟨rfl,tr,rfl⟩) ?_
         refine a2a (x:=((A.Columns.length:Int) == 0)) (y:=false) rfl (fun hv => by (try simp only [o9 hv]);rfl) (fun hv => by (try simp only [o9 hv]);rfl) ?_;refine l7 (.bool (bif (bif (bif (bif (bif (A.Table == []) then (A.Name == []) else false) then ((A.Where.length:Int) == 0) else false) then ((A.Row.length:Int) == 0) else false) then ((A.Muts.length:Int) == 0) else false) then ((A.Columns.length:Int) == 0) else false)) rfl ?_;refine s_g (v:=(bif (bif (bif (bif (bif (A.Table == []) then (A.Name == []) else false) then ((A.Where.length:Int) == 0) else false) then ((A.Row.length:Int) == 0) else false) then ((A.Muts.length:Int) == 0) else false) then ((A.Columns.length:Int) == 0) else false)) (.bool (!A.Until)) rfl (fun hv => by (try simp only [o9 hv]);exact ⟨rfl,tr,rfl⟩) ?_
         refine a2a (x:=(!A.Until)) (y:=false) rfl (fun hv => by (try simp only [o9 hv]);rfl) (fun hv => by (try simp only [o9 hv]);rfl) ?_;refine l7 (.bool (bif (bif (bif (bif (bif (bif (A.Table == []) then (A.Name == []) else false) then ((A.Where.length:Int) == 0) else false) then ((A.Row.length:Int) == 0) else false) then ((A.Muts.length:Int) == 0) else false) then ((A.Columns.length:Int) == 0) else false) then (!A.Until) else false)) rfl<|dk<|a0b<|?_;obtain rfl:=os hf;exact y7 ⟨tr,tr⟩ rfl .r
        ·refine y9 rfl (bf c30)<|o7<|?_
         obtain ⟨D,hb1,hf⟩:=ob hf
         refine a1k ([(3,(.bool (A.Table == []))),(5,(.bool ((A.Where.length:Int) == 0))),(6,(.bool ((A.Row.length:Int) == 0))),(7,(.bool ((A.Muts.length:Int) == 0))),(8,(.bool ((A.Columns.length:Int) == 0))),(9,(.bool (!A.Until))),(131,(.bool D))],[]) ?_ ?_
         ·refine sr<|o8 (.bool (A.Kind == 9)) rfl rfl rfl<|l7 (.bool (A.Kind == 9)) rfl<|dk<|?_
          rcases oi hb1 with ⟨c34,hb1⟩ | ⟨c34,hb1⟩
          ·refine y8 rfl c34<|a0k<|?_;obtain rfl:=os hb1;exact ⟨[],[],_,_,rfl,rfl,⟨.r,⟨.r,⟨.r,⟨.r,⟨.r,⟨.r,⟨.r,tr⟩⟩⟩⟩⟩⟩⟩,.r⟩
          ·refine y9 rfl (bf c34)<|a0r<|o8 (.bool (A.Kind == 10)) rfl rfl rfl<|l7 (.bool (A.Kind == 10)) rfl<|y5<|?_;obtain rfl:=os hb1;exact ⟨[],[],_,_,rfl,rfl,⟨.r,⟨.r,⟨.r,⟨.r,⟨.r,⟨.r,⟨.r,tr⟩⟩⟩⟩⟩⟩⟩,.r⟩
         ·rcases oi hf with ⟨c35,hf⟩ | ⟨c35,hf⟩
          ·refine y8 rfl c35<|sr<|l7 (.bool (A.Table == [])) rfl<|l7 (.bool (A.Table == [])) rfl<|?_;refine s_g (v:=(A.Table == [])) (.bool ((A.Where.length:Int) == 0)) rfl (fun hv => by (try simp only [o9 hv]);exact ⟨rfl,tr,rfl⟩) ?_;refine a2a (x:=((A.Where.length:Int) == 0)) (y:=false) rfl (fun hv => by (try simp only [o9 hv]);rfl) (fun hv => by (try simp only [o9 hv]);rfl) ?_;refine l7 (.bool (bif (A.Table == []) then ((A.Where.length:Int) == 0) else false)) rfl ?_;refine s_g (v:=(bif (A.Table == []) then ((A.Where.length:Int) == 0) else false)) (.bool ((A.Row.length:Int) == 0)) rfl (fun hv => by (try simp only [o9 hv]);exact ⟨rfl,tr,rfl⟩) ?_
           refine a2a (x:=((A.Row.length:Int) == 0)) (y:=false) rfl (fun hv => by (try simp only [o9 hv]);rfl) (fun hv => by (try simp only [o9 hv]);rfl) ?_;refine l7 (.bool (bif (bif (A.Table == []) then ((A.Where.length:Int) == 0) else false) then ((A.Row.length:Int) == 0) else false)) rfl ?_;refine s_g (v:=(bif (bif (A.Table == []) then ((A.Where.length:Int) == 0) else false) then ((A.Row.length:Int) == 0) else false)) (.bool ((A.Muts.length:Int) == 0)) rfl (fun hv => by (try simp only [o9 hv]);exact ⟨rfl,tr,rfl⟩) ?_;refine a2a (x:=((A.Muts.length:Int) == 0)) (y:=false) rfl (fun hv => by (try simp only [o9 hv]);rfl) (fun hv => by (try simp only [o9 hv]);rfl) ?_
           refine l7 (.bool (bif (bif (bif (A.Table == []) then ((A.Where.length:Int) == 0) else false) then ((A.Row.length:Int) == 0) else false) then ((A.Muts.length:Int) == 0) else false)) rfl ?_;refine s_g (v:=(bif (bif (bif (A.Table == []) then ((A.Where.length:Int) == 0) else false) then ((A.Row.length:Int) == 0) else false) then ((A.Muts.length:Int) == 0) else false)) (.bool ((A.Columns.length:Int) == 0)) rfl (fun hv => by (try simp only [o9 hv]);exact ⟨rfl,tr,rfl⟩) ?_;refine a2a (x:=((A.Columns.length:Int) == 0)) (y:=false) rfl (fun hv => by (try simp only [o9 hv]);rfl) (fun hv => by (try simp only [o9 hv]);rfl) ?_;refine l7 (.bool (bif (bif (bif (bif (A.Table == []) then ((A.Where.length:Int) == 0) else false) then ((A.Row.length:Int) == 0) else false) then ((A.Muts.length:Int) == 0) else false) then ((A.Columns.length:Int) == 0) else false)) rfl ?_
           refine s_g (v:=(bif (bif (bif (bif (A.Table == []) then ((A.Where.length:Int) == 0) else false) then ((A.Row.length:Int) == 0) else false) then ((A.Muts.length:Int) == 0) else false) then ((A.Columns.length:Int) == 0) else false)) (.bool (!A.Until)) rfl (fun hv => by (try simp only [o9 hv]);exact ⟨rfl,tr,rfl⟩) ?_;refine a2a (x:=(!A.Until)) (y:=false) rfl (fun hv => by (try simp only [o9 hv]);rfl) (fun hv => by (try simp only [o9 hv]);rfl) ?_;refine l7 (.bool (bif (bif (bif (bif (bif (A.Table == []) then ((A.Where.length:Int) == 0) else false) then ((A.Row.length:Int) == 0) else false) then ((A.Muts.length:Int) == 0) else false) then ((A.Columns.length:Int) == 0) else false) then (!A.Until) else false)) rfl ?_
           refine dk<|a0b<|?_;obtain rfl:=os hf;exact y7 ⟨tr,tr⟩ rfl .r
          ·refine y9 rfl (bf c35)<|a0k<|a2y<|a0m<|sr<|l7 (.bool false) rfl<|dk<|a0b<|?_;obtain rfl:=os hf;exact y7 ⟨tr,tr⟩ rfl .r

/- slices.IndexFunc[[]string,string] -/
def e3s:a0s :=
 (.seq (.reg (tm 4 (.c (.int .i64 0)) .done))
 (.seq (.seq (.reg (tm 6 (.t 0) (tq 7 (.len (.t 6)) (tm 8 (.c (.int .i64 0)) .done))))
 (.block 0 (.loop (.seq (.reg (tq 9 (.bin .lss (.t 8) (.t 7)) .done))
 (.seq (.cond (.t 9) .skip
 (.exit 0))
 (.seq (.block 1 (.seq (.reg (tm 10 (.t 8) (tm 5 (.t 10) .done)))
 (.seq (.reg (tm 11 (.t 1) (tm 12 (.t 0) (tm 13 (.t 5) (tq 14 (.iaddr 1 (.t 12) (.t 13)) (tq 15 (.load 1 false (.t 14)) (tq 16 (.calv (.t 11) [(.t 15)]) .done)))))))
 (.cond (.t 16) (.seq (.reg (tm 17 (.t 5) (tm 4 (.t 17) .done)))
 .ret)
 .skip))))
 (.reg (tq 18 (.bin .add (.t 8) (.c (.int .i64 1))) (tm 8 (.t 18) .done)))))))))
 (.cut (.seq (.reg (tq 4 (.mov (.c (.int .i64 (-1)))) .done))
 .ret))))
theorem e3t:a1e Tryz.prog Tryz.f247 = some (e3s.erase,[.mov (.t 4)],19):=by kernel_rfl
def a1t (D:(Str → Option Bool)):List Str → Nat → Option (Fl Int Unit)
  | [],A =>
    some (.go ())
  | E :: xs,A =>
    (D E).bind fun F =>
    if F then
    some (.ret (A:Int))
    else
    a1t D xs (A + 1)

def a4f (B:(List Str)) (D:(Str → Option Bool)):Option Int :=
    (a1t D B 0).bind fun q => (match q with
    | .ret r => some r
    | .go _ =>
    some (-1))
theorem b2l (B:(List Str)) (D:(Str → Option Bool)) (r:Int) (hf:a4f B D = some r) (kf_f_2:Nat) (cf_f_2:List AV) (okf_f_2:b6u Tryz.prog kf_f_2 = true) (hcf_f_2:∀ h p,a3k h p cf_f_2 = some cf_f_2) (hrf_f_2:∀ f,a8a f cf_f_2 = cf_f_2) (hpf_f_2:∀ a0 r,D a0 = some r → a0a Tryz.prog kf_f_2 .flat ([(.str a0)] ++ cf_f_2) (.bool r)):a0a Tryz.prog 247 .flat [(.lst 1 (B.map AV.str)),(.fn kf_f_2 cf_f_2)] (.I r):=by
 refine a0a.of_awp mixed Tryz.func247 e3t nle ?_;rw [a0n];unfold a4f at hf;unfold e3s;refine (show awp Tryz.prog false 0 _ (ofL [(0,(.lst 1 (B.map AV.str))),(1,(.fn kf_f_2 cf_f_2))]) [] _ from ?_);refine sr<|l7 (.I 0) rfl<|dk<|o7<|sr<|l7 (.lst 1 (B.map AV.str)) rfl<|a1i (a1p (enc:=AV.str) rfl) fun hl3 => l7 (.I 0) rfl<|dk<|?_
 obtain ⟨p24,hb1,hf⟩:=ob hf
 refine a2c (X:={q:Unit // p24 = .go q}) (fun q => ([],[])) ?_ ?_
 ·refine a1v (X:={q:Nat // a1t D (B.drop q) q = some p24}) (fun q => ([(0,(.lst 1 (B.map AV.str))),(1,(.fn kf_f_2 cf_f_2)),(7,(.I (B.length:Int))),(8,(.I (q.1:Int)))],[])) (fun q => B.length - q.1) ⟨0,hb1⟩ ⟨[],[],_,_,rfl,rfl,⟨.r,⟨.of_eq (congrArg (AV.fn _) (hrf_f_2 _)),⟨.r,⟨.r,tr⟩⟩⟩⟩,.r⟩ ?_
  rintro ⟨A,hc1⟩
  have hc1:a1t D (B.drop A) A = some p24:=hc1
  refine (show awp Tryz.prog false 0 _ (ofL [(0,(.lst 1 (B.map AV.str))),(1,(.fn kf_f_2 cf_f_2)),(7,(.I (B.length:Int))),(8,(.I (A:Int)))]) [] _ from ?_)
  rcases a6c B A with ⟨hie27,hd30⟩ | ⟨hlt25,E,hx26,hd30⟩
  ·rw [hd30,a1t.eq_1] at hc1
   have hq29:=dlf hie27
   refine sr<|o8 (.bool (decide ((A:Int) < (B.length:Int)))) rfl rfl rfl<|dk<|o7<|y9 rfl hq29<|a3i<|a3h<|a2e<|a3g<|?_;obtain rfl:=os hc1;exact a4b ⟨_,rfl⟩ ⟨[],[],_,_,rfl,rfl,tr,.r⟩
  ·rw [hd30,a1t.eq_2] at hc1
   have hq29:=dlt hlt25
   refine sr<|o8 (.bool (decide ((A:Int) < (B.length:Int)))) rfl rfl rfl<|dk<|o7<|y8 rfl hq29<|a0k<|a0m<|o7<|a3y<|sr<|l7 (.I (A:Int)) rfl<|l7 (.I (A:Int)) rfl<|dk<|sr<|?_
   obtain ⟨F,er33,hc1⟩:=ob hc1
   refine l7 (.fn kf_f_2 cf_f_2) rfl<|l7 (.lst 1 (B.map AV.str)) rfl<|l7 (.I (A:Int)) rfl<|x8 (a1o (enc:=AV.str) rfl rfl hx26)<|o8 (.str E) rfl ⟨rfl,rfl⟩ rfl<|x8 (b5p (v:=(.bool F)) rfl okf_f_2 hcf_f_2 (hpf_f_2 _ _ er33) rfl .r rfl)<|dk<|?_
   rcases oi hc1 with ⟨c34,hc1⟩ | ⟨c34,hc1⟩
   ·refine y8 rfl c34<|sr<|l7 (.I (A:Int)) rfl<|l7 (.I (A:Int)) rfl<|dk<|a0b<|?_;obtain rfl:=os hc1;obtain rfl:=os hf;exact y7 ⟨tr,tr⟩ rfl .r
   ·refine y9 rfl (bf c34)<|a0k<|a2y<|a0m<|a0r<|o8 (.I (w64 ((A:Int) + 1))) rfl rfl rfl<|l7 (.I (w64 ((A:Int) + 1))) rfl<|y5<|?_;exact a1z ⟨(A + 1),hc1⟩ (mul hlt25) ⟨[],[],_,_,rfl,rfl,⟨.r,⟨.of_eq (congrArg (AV.fn _) (hrf_f_2 _)),⟨.r,⟨.of_eq (congrArg (AV.int _) (a1x hlt25 hl3)),tr⟩⟩⟩⟩,.r⟩
 ·rintro ⟨_,rfl⟩
  refine sr<|l7 (.I (-1)) rfl<|dk<|a0b<|?_;obtain rfl:=os hf;exact y7 ⟨tr,tr⟩ rfl .r

/- slices.ContainsFunc[[]string,string] -/
def c6j:a0s :=
 (.seq (.reg (tm 4 (.c (.bool false)) .done))
 (.seq (.reg (tm 5 (.t 0) (tm 6 (.t 1) (tq 7 (.call 247 [(.t 5),(.t 6)]) (tq 8 (.bin .geq (.t 7) (.c (.int .i64 0))) (tm 4 (.t 8) .done))))))
 .ret))
theorem e3u:a1e Tryz.prog Tryz.f115 = some (c6j.erase,[.mov (.t 4)],9):=by kernel_rfl
def a2g (A:(List Str)) (B:(Str → Option Bool)):Option Bool :=
    (a4f A B).bind fun D =>
    some (decide (D ≥ 0))
theorem a5n (A:(List Str)) (B:(Str → Option Bool)) (r:Bool) (hf:a2g A B = some r) (kf_f_2:Nat) (cf_f_2:List AV) (okf_f_2:b6u Tryz.prog kf_f_2 = true) (hcf_f_2:∀ h p,a3k h p cf_f_2 = some cf_f_2) (hrf_f_2:∀ f,a8a f cf_f_2 = cf_f_2) (hpf_f_2:∀ a0 r,B a0 = some r → a0a Tryz.prog kf_f_2 .flat ([(.str a0)] ++ cf_f_2) (.bool r)):a0a Tryz.prog 115 .flat [(.lst 1 (A.map AV.str)),(.fn kf_f_2 cf_f_2)] (.bool r):=by
  refine a0a.of_awp mixed Tryz.func115 e3u nle ?_
  rw [a0n]
  unfold a2g at hf
  unfold c6j
  refine (show awp Tryz.prog false 0 _ (ofL [(0,(.lst 1 (A.map AV.str))),(1,(.fn kf_f_2 cf_f_2))]) [] _ from ?_)
  refine o7 ?_
  refine a0r ?_
  refine x8 (a2w (.bool false) rfl) ?_
  refine y5 ?_
  refine a0m ?_
  refine o7 ?_
  refine a0r ?_
  obtain ⟨D,er4,hf⟩:=ob hf
  refine x8 (a2w (.lst 1 (A.map AV.str)) rfl) ?_
  refine x8 (a2w (.fn kf_f_2 cf_f_2) rfl) ?_
  refine x8 (a0j (b2l _ _ _ er4 kf_f_2 cf_f_2 okf_f_2 hcf_f_2 hrf_f_2 hpf_f_2) (a7r rfl (a7r (b7n hcf_f_2) rfl)) .r rfl) ?_
  refine x8 (o_q (.bool (decide (D ≥ 0))) rfl rfl rfl) ?_
  refine x8 (a2w (.bool (decide (D ≥ 0))) rfl) ?_
  refine y5 ?_
  refine a0m ?_
  refine a0b ?_
  obtain rfl:=os hf
  exact y7 ⟨tr,tr⟩ rfl .r

/- impl.areShort$1 -/
def e3v:a0s :=
 (.seq (.reg (tm 2 (.c (.bool false)) .done))
 (.seq (.reg (tm 3 (.t 0) (tq 4 (.lenS (.t 3)) (tq 5 (.bin .gtr (.t 4) (.c (.int .i64 40))) (tm 2 (.t 5) .done)))))
 .ret))
theorem e3w:a1e Tryz.prog Tryz.f238 = some (e3v.erase,[.mov (.t 2)],6):=by kernel_rfl
def b1s (A:Str):Option Bool :=
    some (decide ((A.length:Int) > 40))
theorem c0t (A:Str) (r:Bool) (hf:b1s A = some r):a0a Tryz.prog 238 .flat [(.str A)] (.bool r):=by
  refine a0a.of_awp mixed Tryz.func238 e3w nle ?_
  rw [a0n]
  unfold b1s at hf
  unfold e3v
  refine (show awp Tryz.prog false 0 _ (ofL [(0,(.str A))]) [] _ from ?_)
  refine o7 ?_
  refine a0r ?_
  refine x8 (a2w (.bool false) rfl) ?_
  refine y5 ?_
  refine a0m ?_
  refine o7 ?_
  refine a0r ?_
  refine x8 (a2w (.str A) rfl) ?_
  refine a1i (b3i rfl) fun hl2 => ?_
  refine x8 (o_q (.bool (decide ((A.length:Int) > 40))) rfl rfl rfl) ?_
  refine x8 (a2w (.bool (decide ((A.length:Int) > 40))) rfl) ?_
  refine y5 ?_
  refine a0m ?_
  refine a0b ?_
  obtain rfl:=os hf
  exact y7 ⟨tr,tr⟩ rfl .r

/- impl.areShort -/
def d5d:a0s :=
 (.seq (.reg (tm 2 (.c (.bool false)) .done))
 (.seq (.reg (tm 3 (.t 0) (tq 4 (.call 115 [(.t 3),(.c (.fn 238 []))]) (tq 5 (.not (.t 4)) (tm 2 (.t 5) .done)))))
 .ret))
theorem e3x:a1e Tryz.prog Tryz.f110 = some (d5d.erase,[.mov (.t 2)],6):=by kernel_rfl
def a7e (A:(List Str)):Option Bool :=
    (a2g A b1s).bind fun B =>
    some (!B)
theorem a9t (A:(List Str)) (r:Bool) (hf:a7e A = some r):a0a Tryz.prog 110 .flat [(.lst 1 (A.map AV.str))] (.bool r):=by
  refine a0a.of_awp mixed Tryz.func110 e3x nle ?_
  rw [a0n]
  unfold a7e at hf
  unfold d5d
  refine (show awp Tryz.prog false 0 _ (ofL [(0,(.lst 1 (A.map AV.str)))]) [] _ from ?_)
  refine o7 ?_
  refine a0r ?_
  refine x8 (a2w (.bool false) rfl) ?_
  refine y5 ?_
  refine a0m ?_
  refine o7 ?_
  refine a0r ?_
  obtain ⟨B,er3,hf⟩:=ob hf
  refine x8 (a2w (.lst 1 (A.map AV.str)) rfl) ?_
  refine x8 (a0j (a5n _ _ _ er3 238 [] (by kernel_rfl) (fun _ _ => rfl) (fun _ => rfl) (fun a0 r h => c0t a0 r h)) rfl .r rfl) ?_
  refine x8 (o_q (.bool (!B)) rfl tr rfl) ?_
  refine x8 (a2w (.bool (!B)) rfl) ?_
  refine y5 ?_
  refine a0m ?_
  refine a0b ?_
  obtain rfl:=os hf
  exact y7 ⟨tr,tr⟩ rfl .r

/- slices.IndexFunc[[]impl.Cond,impl.Cond] -/
def e3y:a0s :=
 (.seq (.reg (tm 4 (.c (.int .i64 0)) .done))
 (.seq (.seq (.reg (tm 6 (.t 0) (tq 7 (.len (.t 6)) (tm 8 (.c (.int .i64 0)) .done))))
 (.block 0 (.loop (.seq (.reg (tq 9 (.bin .lss (.t 8) (.t 7)) .done))
 (.seq (.cond (.t 9) .skip
 (.exit 0))
 (.seq (.block 1 (.seq (.reg (tm 10 (.t 8) (tm 5 (.t 10) .done)))
 (.seq (.reg (tm 11 (.t 1) (tm 12 (.t 0) (tm 13 (.t 5) (tq 14 (.iaddr 3 (.t 12) (.t 13)) (tq 15 (.load 3 true (.t 14)) (tq 16 (.calv (.t 11) [(.t 15)]) .done)))))))
 (.cond (.t 16) (.seq (.reg (tm 17 (.t 5) (tm 4 (.t 17) .done)))
 .ret)
 .skip))))
 (.reg (tq 18 (.bin .add (.t 8) (.c (.int .i64 1))) (tm 8 (.t 18) .done)))))))))
 (.cut (.seq (.reg (tq 4 (.mov (.c (.int .i64 (-1)))) .done))
 .ret))))
theorem e3z:a1e Tryz.prog Tryz.f346 = some (e3y.erase,[.mov (.t 4)],19):=by kernel_rfl
def a1h (D:(a2v → Option Bool)):List a2v → Nat → Option (Fl Int Unit)
  | [],A =>
    some (.go ())
  | E :: xs,A =>
    (D E).bind fun F =>
    if F then
    some (.ret (A:Int))
    else
    a1h D xs (A + 1)

def a3j (B:(List a2v)) (D:(a2v → Option Bool)):Option Int :=
    (a1h D B 0).bind fun q => (match q with
    | .ret r => some r
    | .go _ =>
    some (-1))
theorem b0n (B:(List a2v)) (D:(a2v → Option Bool)) (r:Int) (hf:a3j B D = some r) (kf_f_2:Nat) (cf_f_2:List AV) (okf_f_2:b6u Tryz.prog kf_f_2 = true) (hcf_f_2:∀ h p,a3k h p cf_f_2 = some cf_f_2) (hrf_f_2:∀ f,a8a f cf_f_2 = cf_f_2) (hpf_f_2:∀ a0 r,D a0 = some r → a0a Tryz.prog kf_f_2 .flat ([(a0d a0)] ++ cf_f_2) (.bool r)):a0a Tryz.prog 346 .flat [(.lst 3 (B.map a0d)),(.fn kf_f_2 cf_f_2)] (.I r):=by
 refine a0a.of_awp mixed Tryz.func346 e3z nle ?_;rw [a0n];unfold a3j at hf;unfold e3y;refine (show awp Tryz.prog false 0 _ (ofL [(0,(.lst 3 (B.map a0d))),(1,(.fn kf_f_2 cf_f_2))]) [] _ from ?_);refine sr<|l7 (.I 0) rfl<|dk<|o7<|sr<|l7 (.lst 3 (B.map a0d)) rfl<|a1i (a1p (enc:=a0d) rfl) fun hl3 => l7 (.I 0) rfl<|dk<|?_
 obtain ⟨p24,hb1,hf⟩:=ob hf
 refine a2c (X:={q:Unit // p24 = .go q}) (fun q => ([],[])) ?_ ?_
 ·refine a1v (X:={q:Nat // a1h D (B.drop q) q = some p24}) (fun q => ([(0,(.lst 3 (B.map a0d))),(1,(.fn kf_f_2 cf_f_2)),(7,(.I (B.length:Int))),(8,(.I (q.1:Int)))],[])) (fun q => B.length - q.1) ⟨0,hb1⟩ ⟨[],[],_,_,rfl,rfl,⟨.r,⟨.of_eq (congrArg (AV.fn _) (hrf_f_2 _)),⟨.r,⟨.r,tr⟩⟩⟩⟩,.r⟩ ?_
  rintro ⟨A,hc1⟩
  have hc1:a1h D (B.drop A) A = some p24:=hc1
  refine (show awp Tryz.prog false 0 _ (ofL [(0,(.lst 3 (B.map a0d))),(1,(.fn kf_f_2 cf_f_2)),(7,(.I (B.length:Int))),(8,(.I (A:Int)))]) [] _ from ?_)
  rcases a6c B A with ⟨hie27,hd30⟩ | ⟨hlt25,E,hx26,hd30⟩
  ·rw [hd30,a1h.eq_1] at hc1
   have hq29:=dlf hie27
   refine sr<|o8 (.bool (decide ((A:Int) < (B.length:Int)))) rfl rfl rfl<|dk<|o7<|y9 rfl hq29<|a3i<|a3h<|a2e<|a3g<|?_;obtain rfl:=os hc1;exact a4b ⟨_,rfl⟩ ⟨[],[],_,_,rfl,rfl,tr,.r⟩
  ·rw [hd30,a1h.eq_2] at hc1
   have hq29:=dlt hlt25
   refine sr<|o8 (.bool (decide ((A:Int) < (B.length:Int)))) rfl rfl rfl<|dk<|o7<|y8 rfl hq29<|a0k<|a0m<|o7<|a3y<|sr<|l7 (.I (A:Int)) rfl<|l7 (.I (A:Int)) rfl<|dk<|sr<|?_
   obtain ⟨F,er33,hc1⟩:=ob hc1
   refine l7 (.fn kf_f_2 cf_f_2) rfl<|l7 (.lst 3 (B.map a0d)) rfl<|l7 (.I (A:Int)) rfl<|x8 (a1o (enc:=a0d) rfl rfl hx26)<|o8 (a0d E) rfl nle rfl<|x8 (b5p (v:=(.bool F)) rfl okf_f_2 hcf_f_2 (hpf_f_2 _ _ er33) rfl .r rfl)<|dk<|?_
   rcases oi hc1 with ⟨c34,hc1⟩ | ⟨c34,hc1⟩
   ·refine y8 rfl c34<|sr<|l7 (.I (A:Int)) rfl<|l7 (.I (A:Int)) rfl<|dk<|a0b<|?_;obtain rfl:=os hc1;obtain rfl:=os hf;exact y7 ⟨tr,tr⟩ rfl .r
   ·refine y9 rfl (bf c34)<|a0k<|a2y<|a0m<|a0r<|o8 (.I (w64 ((A:Int) + 1))) rfl rfl rfl<|l7 (.I (w64 ((A:Int) + 1))) rfl<|y5<|?_;exact a1z ⟨(A + 1),hc1⟩ (mul hlt25) ⟨[],[],_,_,rfl,rfl,⟨.r,⟨.of_eq (congrArg (AV.fn _) (hrf_f_2 _)),⟨.r,⟨.of_eq (congrArg (AV.int _) (a1x hlt25 hl3)),tr⟩⟩⟩⟩,.r⟩
 ·rintro ⟨_,rfl⟩
  refine sr<|l7 (.I (-1)) rfl<|dk<|a0b<|?_;obtain rfl:=os hf;exact y7 ⟨tr,tr⟩ rfl .r

/- slices.ContainsFunc[[]impl.Cond,impl.Cond] -/
def e4a:a0s :=
 (.seq (.reg (tm 4 (.c (.bool false)) .done))
 (.seq (.reg (tm 5 (.t 0) (tm 6 (.t 1) (tq 7 (.call 346 [(.t 5),(.t 6)]) (tq 8 (.bin .geq (.t 7) (.c (.int .i64 0))) (tm 4 (.t 8) .done))))))
 .ret))
theorem e4c:a1e Tryz.prog Tryz.f239 = some (e4a.erase,[.mov (.t 4)],9):=by kernel_rfl
def a2r (A:(List a2v)) (B:(a2v → Option Bool)):Option Bool :=
    (a3j A B).bind fun D =>
    some (decide (D ≥ 0))
theorem a9u (A:(List a2v)) (B:(a2v → Option Bool)) (r:Bool) (hf:a2r A B = some r) (kf_f_2:Nat) (cf_f_2:List AV) (okf_f_2:b6u Tryz.prog kf_f_2 = true) (hcf_f_2:∀ h p,a3k h p cf_f_2 = some cf_f_2) (hrf_f_2:∀ f,a8a f cf_f_2 = cf_f_2) (hpf_f_2:∀ a0 r,B a0 = some r → a0a Tryz.prog kf_f_2 .flat ([(a0d a0)] ++ cf_f_2) (.bool r)):a0a Tryz.prog 239 .flat [(.lst 3 (A.map a0d)),(.fn kf_f_2 cf_f_2)] (.bool r):=by
 refine a0a.of_awp mixed Tryz.func239 e4c nle ?_;rw [a0n];unfold a2r at hf;unfold e4a;refine (show awp Tryz.prog false 0 _ (ofL [(0,(.lst 3 (A.map a0d))),(1,(.fn kf_f_2 cf_f_2))]) [] _ from ?_);refine sr<|l7 (.bool false) rfl<|dk<|sr<|?_
 obtain ⟨D,er4,hf⟩:=ob hf
 refine l7 (.lst 3 (A.map a0d)) rfl<|l7 (.fn kf_f_2 cf_f_2) rfl<|x8 (a0j (b0n _ _ _ er4 kf_f_2 cf_f_2 okf_f_2 hcf_f_2 hrf_f_2 hpf_f_2) (a7r rfl (a7r (b7n hcf_f_2) rfl)) .r rfl)<|o8 (.bool (decide (D ≥ 0))) rfl rfl rfl<|l7 (.bool (decide (D ≥ 0))) rfl<|dk<|a0b<|?_;obtain rfl:=os hf;exact y7 ⟨tr,tr⟩ rfl .r

/- impl.isPlain -/
def e4d:a0s :=
 (.seq (.reg (tm 2 (.c (.bool false)) .done))
 (.seq (.seq (.reg (tm 4 (.t 0) (tq 5 (.lenS (.t 4)) (tm 6 (.c (.int .i64 0)) .done))))
 (.block 0 (.loop (.seq (.reg (tq 7 (.bin .lss (.t 6) (.t 5)) .done))
 (.seq (.cond (.t 7) .skip
 (.exit 0))
 (.seq (.block 1 (.seq (.reg (tm 8 (.t 6) (tm 3 (.t 8) .done)))
 (.seq (.reg (tm 9 (.t 0) (tm 10 (.t 3) (tq 11 (.idxs (.t 9) (.t 10)) (tq 12 (.bin .lss (.t 11) (.c (.int .u8 32))) (tm 13 (.t 12) (tg 14 13 false (.mov (.t 0)) (tg 15 13 false (.mov (.t 3)) (tg 16 13 false (.idxs (.t 14) (.t 15)) (tg 17 13 false (.bin .gtr (.t 16) (.c (.int .u8 126))) (tq 18 (.pick (.t 13) (.c (.bool true)) (.t 17)) .done)))))))))))
 (.cut (.cond (.t 18) (.seq (.reg (tm 2 (.c (.bool false)) .done))
 .ret)
 .skip)))))
 (.reg (tq 19 (.bin .add (.t 6) (.c (.int .i64 1))) (tm 6 (.t 19) .done)))))))))
 (.cut (.seq (.reg (tm 20 (.t 0) (tq 21 (.lenS (.t 20)) (tq 22 (.bin .leq (.t 21) (.c (.int .i64 200))) (tm 2 (.t 22) .done)))))
 .ret))))
theorem e4e:a1e Tryz.prog Tryz.f292 = some (e4d.erase,[.mov (.t 2)],23):=by kernel_rfl
def a5s :List UInt8 → Option (Fl Bool Unit)
  | [] =>
    some (.go ())
  | D :: xs =>
    ((if (decide ((D.toNat:Int) < 32)) then
    some true
    else
    some (decide ((D.toNat:Int) > 126)):Option Bool)).bind fun E =>
    if E then
    some (.ret false)
    else
    a5s xs 

def b2m (A:Str):Option Bool :=
    (a5s A ).bind fun q => (match q with
    | .ret r => some r
    | .go _ =>
    some (decide ((A.length:Int) ≤ 200)))
theorem c5a (A:Str) (r:Bool) (hf:b2m A = some r):a0a Tryz.prog 292 .flat [(.str A)] (.bool r):=by
 refine a0a.of_awp mixed Tryz.func292 e4e nle ?_;rw [a0n];unfold b2m at hf;unfold e4d;refine (show awp Tryz.prog false 0 _ (ofL [(0,(.str A))]) [] _ from ?_);refine sr<|l7 (.bool false) rfl<|dk<|o7<|sr<|l7 (.str A) rfl<|a1i (b3i rfl) fun hl2 => l7 (.I 0) rfl<|dk<|?_
 obtain ⟨p47,hb1,hf⟩:=ob hf
 refine a2c (X:={q:Unit // p47 = .go q}) (fun q => ([(0,(.str A))],[])) ?_ ?_
 ·refine a1v (X:={q:Nat // a5s (A.drop q)  = some p47}) (fun q => ([(0,(.str A)),(5,(.I (A.length:Int))),(6,(.I (q.1:Int)))],[])) (fun q => A.length - q.1) ⟨0,hb1⟩ ⟨[],[],_,_,rfl,rfl,⟨.r,⟨.r,⟨.r,tr⟩⟩⟩,.r⟩ ?_
  rintro ⟨B,hc1⟩
  have hc1:a5s (A.drop B)  = some p47:=hc1
  refine (show awp Tryz.prog false 0 _ (ofL [(0,(.str A)),(5,(.I (A.length:Int))),(6,(.I (B:Int)))]) [] _ from ?_)
  rcases a6c A B with ⟨hie50,hd53⟩ | ⟨hlt48,D,hx49,hd53⟩
  ·rw [hd53,a5s.eq_1] at hc1
   have hq52:=dlf hie50
   refine sr<|o8 (.bool (decide ((B:Int) < (A.length:Int)))) rfl rfl rfl<|dk<|o7<|y9 rfl hq52<|a3i<|a3h<|a2e<|a3g<|?_;obtain rfl:=os hc1;exact a4b ⟨_,rfl⟩ ⟨[],[],_,_,rfl,rfl,⟨.r,tr⟩,.r⟩
  ·rw [hd53,a5s.eq_2] at hc1
   have hq52:=dlt hlt48
   refine sr<|o8 (.bool (decide ((B:Int) < (A.length:Int)))) rfl rfl rfl<|dk<|o7<|y8 rfl hq52<|a0k<|a0m<|o7<|a3y<|sr<|l7 (.I (B:Int)) rfl<|l7 (.I (B:Int)) rfl<|dk<|o7<|?_
   obtain ⟨E,hb2,hc1⟩:=ob hc1
   refine a1k ([(0,(.str A)),(5,(.I (A.length:Int))),(6,(.I (B:Int))),(18,(.bool E))],[]) ?_ ?_
   ·refine a0r ?_
    rcases oi hb2 with ⟨c58,hb2⟩ | ⟨c58,hb2⟩
    ·refine l7 (.str A) rfl<|l7 (.I (B:Int)) rfl<|x8 (b3m rfl rfl hx49)<|o8 (.bool (decide ((D.toNat:Int) < 32))) rfl rfl rfl<|l7 (.bool (decide ((D.toNat:Int) < 32))) rfl<|a0i (s:=13) (b:=true) rfl c58<|o6 rfl rfl<|o6 rfl rfl<|o6 rfl rfl<|o6 rfl rfl<|o8 (.bool true) rfl tr rfl<|y5<|?_;obtain rfl:=os hb2;exact ⟨[],[],_,_,rfl,rfl,⟨.r,⟨.r,⟨.r,⟨.r,tr⟩⟩⟩⟩,.r⟩
    ·refine l7 (.str A) rfl<|l7 (.I (B:Int)) rfl<|x8 (b3m rfl rfl hx49)<|o8 (.bool (decide ((D.toNat:Int) < 32))) rfl rfl rfl<|l7 (.bool (decide ((D.toNat:Int) < 32))) rfl<|a0i (s:=13) (b:=false) rfl (bf c58)<|s_on rfl<|l7 (.str A) rfl<|s_on rfl<|l7 (.I (B:Int)) rfl<|s_on rfl<|x8 (b3m rfl rfl hx49)<|s_on rfl<|o8 (.bool (decide ((D.toNat:Int) > 126))) rfl rfl rfl<|o8 (.bool (decide ((D.toNat:Int) > 126))) rfl tr rfl<|y5<|?_;obtain rfl:=os hb2;exact ⟨[],[],_,_,rfl,rfl,⟨.r,⟨.r,⟨.r,⟨.r,tr⟩⟩⟩⟩,.r⟩
   ·rcases oi hc1 with ⟨c59,hc1⟩ | ⟨c59,hc1⟩
    ·refine y8 rfl c59<|sr<|l7 (.bool false) rfl<|dk<|a0b<|?_;obtain rfl:=os hc1;obtain rfl:=os hf;exact y7 ⟨tr,tr⟩ rfl .r
    ·refine y9 rfl (bf c59)<|a0k<|a2y<|a0m<|a0r<|o8 (.I (w64 ((B:Int) + 1))) rfl rfl rfl<|l7 (.I (w64 ((B:Int) + 1))) rfl<|y5<|?_;exact a1z ⟨(B + 1),hc1⟩ (mul hlt48) ⟨[],[],_,_,rfl,rfl,⟨.r,⟨.r,⟨.of_eq (congrArg (AV.int _) (a1x hlt48 hl2)),tr⟩⟩⟩,.r⟩
 ·rintro ⟨_,rfl⟩
  refine sr<|l7 (.str A) rfl<|a1i (b3i rfl) fun hl60 => o8 (.bool (decide ((A.length:Int) ≤ 200))) rfl rfl rfl<|l7 (.bool (decide ((A.length:Int) ≤ 200))) rfl<|dk<|a0b<|?_;obtain rfl:=os hf;exact y7 ⟨tr,tr⟩ rfl .r

/- impl.isId -/
def e4f:a0s :=
 (.seq (.reg (tm 2 (.c (.bool false)) .done))
 (.seq (.reg (tm 3 (.t 0) (tq 4 (.call 114 [(.t 3),(.c (.int .i64 1)),(.c (.int .i64 1000000))]) (tm 2 (.t 4) .done))))
 .ret))
theorem e4g:a1e Tryz.prog Tryz.f133 = some (e4f.erase,[.mov (.t 2)],5):=by kernel_rfl
def b8g (A:Int):Option Bool :=
    (a3t A 1 1000000).bind fun B =>
    some B
theorem c2n (A:Int) (r:Bool) (hf:b8g A = some r):a0a Tryz.prog 133 .flat [(.I A)] (.bool r):=by
  refine a0a.of_awp mixed Tryz.func133 e4g nle ?_
  rw [a0n]
  unfold b8g at hf
  unfold e4f
  refine (show awp Tryz.prog false 0 _ (ofL [(0,(.I A))]) [] _ from ?_)
  refine o7 ?_
  refine a0r ?_
  refine x8 (a2w (.bool false) rfl) ?_
  refine y5 ?_
  refine a0m ?_
  refine o7 ?_
  refine a0r ?_
  obtain ⟨B,er3,hf⟩:=ob hf
  refine x8 (a2w (.I A) rfl) ?_
  refine x8 (a0j (a3x _ _ _ _ er3) rfl .r rfl) ?_
  refine x8 (a2w (.bool B) rfl) ?_
  refine y5 ?_
  refine a0m ?_
  refine a0b ?_
  obtain rfl:=os hf
  exact y7 ⟨tr,tr⟩ rfl .r

/- impl.AtomOK -/
def e4h:a0s :=
 (.seq (.reg (tq 1 (.box 3 (.t 0)) (tm 2 (.c (.bool false)) .done)))
 (.seq (.seq (.reg (tq 3 (.faddr 0 (.t 1)) (tq 4 (.load 1 false (.t 3)) .done)))
 (.block 0 (.seq (.reg (tq 6 (.bin .eql (.t 4) (.c (.int .i64 1))) (tm 5 (.t 6) .done)))
 (.cond (.t 5) (.seq (.reg (tq 7 (.faddr 1 (.t 1)) (tq 8 (.load 1 false (.t 7)) (tq 9 (.call 252 [(.t 8)]) (tm 10 (.t 9) (tg 11 10 true (.faddr 2 (.t 1)) (tg 12 10 true (.load 1 false (.t 11)) (tg 13 10 true (.bin .eql (.t 12) (.c (.str []))) (tq 14 (.pick (.t 10) (.t 13) (.c (.bool false))) (tm 2 (.t 14) .done))))))))))
 .ret)
 (.seq (.reg (tq 16 (.bin .eql (.t 4) (.c (.int .i64 2))) (tm 15 (.t 16) .done)))
 (.cond (.t 15) (.seq (.reg (tq 17 (.faddr 1 (.t 1)) (tq 18 (.load 1 false (.t 17)) (tq 19 (.bin .eql (.t 18) (.c (.int .i64 0))) (tm 20 (.t 19) (tg 21 20 true (.faddr 2 (.t 1)) (tg 22 20 true (.load 1 false (.t 21)) (tg 23 20 true (.call 292 [(.t 22)]) (tq 24 (.pick (.t 20) (.t 23) (.c (.bool false))) (tm 2 (.t 24) .done))))))))))
 .ret)
 (.seq (.reg (tq 26 (.bin .eql (.t 4) (.c (.int .i64 3))) (tm 25 (.t 26) .done)))
 (.cond (.t 25) (.seq (.reg (tq 27 (.faddr 1 (.t 1)) (tq 28 (.load 1 false (.t 27)) (tq 29 (.call 114 [(.t 28),(.c (.int .i64 0)),(.c (.int .i64 1))]) (tm 30 (.t 29) (tg 31 30 true (.faddr 2 (.t 1)) (tg 32 30 true (.load 1 false (.t 31)) (tg 33 30 true (.bin .eql (.t 32) (.c (.str []))) (tq 34 (.pick (.t 30) (.t 33) (.c (.bool false))) (tm 2 (.t 34) .done))))))))))
 .ret)
 (.seq (.reg (tq 36 (.bin .eql (.t 4) (.c (.int .i64 4))) (tm 35 (.t 36) .done)))
 (.cond (.t 35) (.seq (.reg (tq 37 (.faddr 1 (.t 1)) (tq 38 (.load 1 false (.t 37)) (tq 39 (.call 133 [(.t 38)]) (tm 40 (.t 39) (tg 41 40 true (.faddr 2 (.t 1)) (tg 42 40 true (.load 1 false (.t 41)) (tg 43 40 true (.bin .eql (.t 42) (.c (.str []))) (tq 44 (.pick (.t 40) (.t 43) (.c (.bool false))) (tm 2 (.t 44) .done))))))))))
 .ret)
 .skip))))))))))
 (.seq (.reg (tm 2 (.c (.bool false)) .done))
 .ret)))
theorem e4i:a1e Tryz.prog Tryz.f174 = some (e4h.erase,[.mov (.t 2)],45):=by kernel_rfl
def b2d (A:a1c):Option Bool :=
    if (A.Kind == 1) then
    (a8u A.N).bind fun E =>
    if E then
    some (A.T == [])
    else
    some false
    else
    if (A.Kind == 2) then
    if (A.N == 0) then
    (b2m A.T).bind fun F =>
    some F
    else
    some false
    else
    if (A.Kind == 3) then
    (a3t A.N 0 1).bind fun B =>
    if B then
    some (A.T == [])
    else
    some false
    else
    if (A.Kind == 4) then
    (b8g A.N).bind fun D =>
    if D then
    some (A.T == [])
    else
    some false
    else
    some false
theorem c6k (A:a1c) (r:Bool) (hf:b2d A = some r):a0a Tryz.prog 174 .flat [(l9 A)] (.bool r):=by
 refine a0a.of_awp mixed Tryz.func174 e4i nle ?_;rw [a0n];unfold b2d at hf;unfold e4h;refine (show awp Tryz.prog false 0 _ (ofL [(0,(l9 A))]) [] _ from ?_);refine sr<|x8 (a1j (j:=0) (c:=(.agg [(.I A.Kind),(.I A.N),(.str A.T)])) rfl tr rfl rfl)<|l7 (.bool false) rfl<|dk<|o7<|sr<|o8 (.ptr 0 0 0) rfl tr rfl<|o8 (.I A.Kind) rfl nle rfl<|dk<|a3y<|sr<|o8 (.bool (A.Kind == 1)) rfl rfl rfl<|l7 (.bool (A.Kind == 1)) rfl<|dk<|?_
 rcases oi hf with ⟨c2,hf⟩ | ⟨c2,hf⟩
 ·refine y8 rfl c2<|sr<|?_
  obtain ⟨E,er4,hf⟩:=ob hf
  rcases oi hf with ⟨c5,hf⟩ | ⟨c5,hf⟩
  ·refine o8 (.ptr 0 0 1) rfl tr rfl<|o8 (.I A.N) rfl nle rfl<|x8 (a0j (b1r _ _ er4) rfl .r rfl)<|l7 (.bool E) rfl<|a0i (s:=10) (b:=true) rfl c5<|s_on rfl<|o8 (.ptr 0 0 2) rfl tr rfl<|s_on rfl<|o8 (.str A.T) rfl nle rfl<|s_on rfl<|o8 (.bool (A.T == [])) rfl tr rfl<|o8 (.bool (A.T == [])) rfl tr rfl<|l7 (.bool (A.T == [])) rfl<|dk<|a0b<|?_;obtain rfl:=os hf;exact y7 ⟨tr,tr⟩ rfl .r
  ·refine o8 (.ptr 0 0 1) rfl tr rfl<|o8 (.I A.N) rfl nle rfl<|x8 (a0j (b1r _ _ er4) rfl .r rfl)<|l7 (.bool E) rfl<|a0i (s:=10) (b:=false) rfl (bf c5)<|o6 rfl rfl<|o6 rfl rfl<|o6 rfl rfl<|o8 (.bool false) rfl tr rfl<|l7 (.bool false) rfl<|dk<|a0b<|?_;obtain rfl:=os hf;exact y7 ⟨tr,tr⟩ rfl .r
 ·refine y9 rfl (bf c2)<|sr<|o8 (.bool (A.Kind == 2)) rfl rfl rfl<|l7 (.bool (A.Kind == 2)) rfl<|dk<|?_
  rcases oi hf with ⟨c6,hf⟩ | ⟨c6,hf⟩
  ·refine y8 rfl c6<|sr<|?_
   rcases oi hf with ⟨c7,hf⟩ | ⟨c7,hf⟩
   ·obtain ⟨F,er9,hf⟩:=ob hf
    refine o8 (.ptr 0 0 1) rfl tr rfl<|o8 (.I A.N) rfl nle rfl<|o8 (.bool (A.N == 0)) rfl rfl rfl<|l7 (.bool (A.N == 0)) rfl<|a0i (s:=20) (b:=true) rfl c7<|s_on rfl<|o8 (.ptr 0 0 2) rfl tr rfl<|s_on rfl<|o8 (.str A.T) rfl nle rfl<|s_on rfl<|x8 (a0j (c5a _ _ er9) rfl .r rfl)<|o8 (.bool F) rfl tr rfl<|l7 (.bool F) rfl<|dk<|a0b<|?_;obtain rfl:=os hf;exact y7 ⟨tr,tr⟩ rfl .r
   ·refine o8 (.ptr 0 0 1) rfl tr rfl<|o8 (.I A.N) rfl nle rfl<|o8 (.bool (A.N == 0)) rfl rfl rfl<|l7 (.bool (A.N == 0)) rfl<|a0i (s:=20) (b:=false) rfl (bf c7)<|o6 rfl rfl<|o6 rfl rfl<|o6 rfl rfl<|o8 (.bool false) rfl tr rfl<|l7 (.bool false) rfl<|dk<|a0b<|?_;obtain rfl:=os hf;exact y7 ⟨tr,tr⟩ rfl .r
  ·refine y9 rfl (bf c6)<|sr<|o8 (.bool (A.Kind == 3)) rfl rfl rfl<|l7 (.bool (A.Kind == 3)) rfl<|dk<|?_
   rcases oi hf with ⟨c10,hf⟩ | ⟨c10,hf⟩
   ·refine y8 rfl c10<|sr<|?_
    obtain ⟨B,er12,hf⟩:=ob hf
    rcases oi hf with ⟨c13,hf⟩ | ⟨c13,hf⟩
    ·refine o8 (.ptr 0 0 1) rfl tr rfl<|o8 (.I A.N) rfl nle rfl<|x8 (a0j (a3x _ _ _ _ er12) rfl .r rfl)<|l7 (.bool B) rfl<|a0i (s:=30) (b:=true) rfl c13<|s_on rfl<|o8 (.ptr 0 0 2) rfl tr rfl<|s_on rfl<|o8 (.str A.T) rfl nle rfl<|s_on rfl<|o8 (.bool (A.T == [])) rfl tr rfl<|o8 (.bool (A.T == [])) rfl tr rfl<|l7 (.bool (A.T == [])) rfl<|dk<|a0b<|?_;obtain rfl:=os hf;exact y7 ⟨tr,tr⟩ rfl .r
    ·refine o8 (.ptr 0 0 1) rfl tr rfl<|o8 (.I A.N) rfl nle rfl<|x8 (a0j (a3x _ _ _ _ er12) rfl .r rfl)<|l7 (.bool B) rfl<|a0i (s:=30) (b:=false) rfl (bf c13)<|o6 rfl rfl<|o6 rfl rfl<|o6 rfl rfl<|o8 (.bool false) rfl tr rfl<|l7 (.bool false) rfl<|dk<|a0b<|?_;obtain rfl:=os hf;exact y7 ⟨tr,tr⟩ rfl .r
   ·refine y9 rfl (bf c10)<|sr<|o8 (.bool (A.Kind == 4)) rfl rfl rfl<|l7 (.bool (A.Kind == 4)) rfl<|dk<|?_
    rcases oi hf with ⟨c14,hf⟩ | ⟨c14,hf⟩
    ·refine y8 rfl c14<|sr<|?_
     obtain ⟨D,er16,hf⟩:=ob hf
     rcases oi hf with ⟨c17,hf⟩ | ⟨c17,hf⟩
     ·refine o8 (.ptr 0 0 1) rfl tr rfl<|o8 (.I A.N) rfl nle rfl<|x8 (a0j (c2n _ _ er16) rfl .r rfl)<|l7 (.bool D) rfl<|a0i (s:=40) (b:=true) rfl c17<|s_on rfl<|o8 (.ptr 0 0 2) rfl tr rfl<|s_on rfl<|o8 (.str A.T) rfl nle rfl<|s_on rfl<|o8 (.bool (A.T == [])) rfl tr rfl<|o8 (.bool (A.T == [])) rfl tr rfl<|l7 (.bool (A.T == [])) rfl<|dk<|a0b<|?_;obtain rfl:=os hf;exact y7 ⟨tr,tr⟩ rfl .r
     ·refine o8 (.ptr 0 0 1) rfl tr rfl<|o8 (.I A.N) rfl nle rfl<|x8 (a0j (c2n _ _ er16) rfl .r rfl)<|l7 (.bool D) rfl<|a0i (s:=40) (b:=false) rfl (bf c17)<|o6 rfl rfl<|o6 rfl rfl<|o6 rfl rfl<|o8 (.bool false) rfl tr rfl<|l7 (.bool false) rfl<|dk<|a0b<|?_;obtain rfl:=os hf;exact y7 ⟨tr,tr⟩ rfl .r
    ·refine y9 rfl (bf c14)<|a0k<|a2y<|a0m<|sr<|l7 (.bool false) rfl<|dk<|a0b<|?_;obtain rfl:=os hf;exact y7 ⟨tr,tr⟩ rfl .r

/- cmp.isNaN[int] -/
def e4j:a0s :=
 (.seq (.reg (tm 2 (.c (.bool false)) .done))
 (.seq (.reg (tm 3 (.t 0) (tm 4 (.t 0) (tq 5 (.bin .neq (.t 3) (.t 4)) (tm 2 (.t 5) .done)))))
 .ret))
theorem e4k:a1e Tryz.prog Tryz.f384 = some (e4j.erase,[.mov (.t 2)],6):=by kernel_rfl
def cmp_isNaN_int (A:Int):Option Bool :=
    some (A != A)
theorem b7f (A:Int) (r:Bool) (hf:cmp_isNaN_int A = some r):a0a Tryz.prog 384 .flat [(.I A)] (.bool r):=by
  refine a0a.of_awp mixed Tryz.func384 e4k nle ?_
  rw [a0n]
  unfold cmp_isNaN_int at hf
  unfold e4j
  refine (show awp Tryz.prog false 0 _ (ofL [(0,(.I A))]) [] _ from ?_)
  refine o7 ?_
  refine a0r ?_
  refine x8 (a2w (.bool false) rfl) ?_
  refine y5 ?_
  refine a0m ?_
  refine o7 ?_
  refine a0r ?_
  refine x8 (a2w (.I A) rfl) ?_
  refine x8 (a2w (.I A) rfl) ?_
  refine x8 (o_q (.bool (A != A)) rfl rfl rfl) ?_
  refine x8 (a2w (.bool (A != A)) rfl) ?_
  refine y5 ?_
  refine a0m ?_
  refine a0b ?_
  obtain rfl:=os hf
  exact y7 ⟨tr,tr⟩ rfl .r

/- cmp.Compare[int] -/
def e4l:a0s :=
 (.seq (.reg (tm 4 (.c (.int .i64 0)) .done))
 (.seq (.reg (tm 7 (.t 0) (tq 8 (.call 384 [(.t 7)]) (tm 5 (.t 8) .done))))
 (.seq (.reg (tm 9 (.t 1) (tq 10 (.call 384 [(.t 9)]) (tm 6 (.t 10) .done))))
 (.seq (.seq (.reg (tm 11 (.t 5) .done))
 (.cond (.t 11) (.seq (.seq (.reg (tm 12 (.t 6) .done))
 (.cond (.t 12) (.seq (.reg (tm 4 (.c (.int .i64 0)) .done))
 .ret)
 .skip))
 (.seq (.reg (tq 4 (.mov (.c (.int .i64 (-1)))) .done))
 .ret))
 .skip))
 (.seq (.seq (.reg (tm 13 (.t 6) .done))
 (.cond (.t 13) (.seq (.reg (tm 4 (.c (.int .i64 1)) .done))
 .ret)
 .skip))
 (.seq (.seq (.reg (tm 14 (.t 0) (tm 15 (.t 1) (tq 16 (.bin .lss (.t 14) (.t 15)) .done))))
 (.cond (.t 16) (.seq (.reg (tq 4 (.mov (.c (.int .i64 (-1)))) .done))
 .ret)
 .skip))
 (.seq (.seq (.reg (tm 17 (.t 0) (tm 18 (.t 1) (tq 19 (.bin .gtr (.t 17) (.t 18)) .done))))
 (.cond (.t 19) (.seq (.reg (tm 4 (.c (.int .i64 1)) .done))
 .ret)
 .skip))
 (.seq (.reg (tm 4 (.c (.int .i64 0)) .done))
 .ret))))))))
theorem e4m:a1e Tryz.prog Tryz.f307 = some (e4l.erase,[.mov (.t 4)],20):=by kernel_rfl
def cmp_Compare_int (A:Int) (B:Int):Option Int :=
    (cmp_isNaN_int A).bind fun E =>
    (cmp_isNaN_int B).bind fun D =>
    if E then
    if D then
    some 0
    else
    some (-1)
    else
    if D then
    some 1
    else
    if (decide (A < B)) then
    some (-1)
    else
    if (decide (A > B)) then
    some 1
    else
    some 0
theorem b5q (A:Int) (B:Int) (r:Int) (hf:cmp_Compare_int A B = some r):a0a Tryz.prog 307 .flat [(.I A),(.I B)] (.I r):=by
 refine a0a.of_awp mixed Tryz.func307 e4m nle ?_;rw [a0n];unfold cmp_Compare_int at hf;unfold e4l;refine (show awp Tryz.prog false 0 _ (ofL [(0,(.I A)),(1,(.I B))]) [] _ from ?_);refine sr<|l7 (.I 0) rfl<|dk<|sr<|?_
 obtain ⟨E,er4,hf⟩:=ob hf
 refine l7 (.I A) rfl<|x8 (a0j (b7f _ _ er4) rfl .r rfl)<|l7 (.bool E) rfl<|dk<|sr<|?_
 obtain ⟨D,er6,hf⟩:=ob hf
 refine l7 (.I B) rfl<|x8 (a0j (b7f _ _ er6) rfl .r rfl)<|l7 (.bool D) rfl<|dk<|o7<|sr<|l7 (.bool E) rfl<|dk<|?_
 rcases oi hf with ⟨c7,hf⟩ | ⟨c7,hf⟩
 ·refine y8 rfl c7<|o7<|sr<|l7 (.bool D) rfl<|dk<|?_
  rcases oi hf with ⟨c8,hf⟩ | ⟨c8,hf⟩
  ·refine y8 rfl c8<|sr<|l7 (.I 0) rfl<|dk<|a0b<|?_;obtain rfl:=os hf;exact y7 ⟨tr,tr⟩ rfl .r
  ·refine y9 rfl (bf c8)<|a0k<|a0m<|sr<|l7 (.I (-1)) rfl<|dk<|a0b<|?_;obtain rfl:=os hf;exact y7 ⟨tr,tr⟩ rfl .r
 ·refine y9 rfl (bf c7)<|a0k<|a0m<|o7<|sr<|l7 (.bool D) rfl<|dk<|?_
  rcases oi hf with ⟨c9,hf⟩ | ⟨c9,hf⟩
  ·refine y8 rfl c9<|sr<|l7 (.I 1) rfl<|dk<|a0b<|?_;obtain rfl:=os hf;exact y7 ⟨tr,tr⟩ rfl .r
  ·refine y9 rfl (bf c9)<|a0k<|a0m<|o7<|sr<|l7 (.I A) rfl<|l7 (.I B) rfl<|o8 (.bool (decide (A < B))) rfl rfl rfl<|dk<|?_
   rcases oi hf with ⟨c10,hf⟩ | ⟨c10,hf⟩
   ·refine y8 rfl c10<|sr<|l7 (.I (-1)) rfl<|dk<|a0b<|?_;obtain rfl:=os hf;exact y7 ⟨tr,tr⟩ rfl .r
   ·refine y9 rfl (bf c10)<|a0k<|a0m<|o7<|sr<|l7 (.I A) rfl<|l7 (.I B) rfl<|o8 (.bool (decide (A > B))) rfl rfl rfl<|dk<|?_
    rcases oi hf with ⟨c11,hf⟩ | ⟨c11,hf⟩
    ·refine y8 rfl c11<|sr<|l7 (.I 1) rfl<|dk<|a0b<|?_;obtain rfl:=os hf;exact y7 ⟨tr,tr⟩ rfl .r
    ·refine y9 rfl (bf c11)<|a0k<|a0m<|sr<|l7 (.I 0) rfl<|dk<|a0b<|?_;obtain rfl:=os hf;exact y7 ⟨tr,tr⟩ rfl .r

/- internal/bytealg.CompareString -/
def a4y (a b:Str):Option Int:=some (Lib.compareBytes a b)
set_option maxRecDepth 100000 in
open Go.RowKit in
theorem d8m (a b:ByteArray) (w:World):Calls Tryz.prog 418 #[.string a,.string b] w fun e w' => e = .returned (.int .i64 (Lib.compareBytes a.data.toList b.data.toList)) ∧ w' = w:=by
  go_enter Tryz.func418,(show Tryz.f418.ntmps = _ from rfl)
  go_wp2
  rw [run_callFunc_extern Tryz.func440 (by kernel_rfl) (by kernel_rfl) (by kernel_rfl) (e:=Extern.BytealgCompare.compare) (by kernel_rfl),Lib.run_compareString]
  simp only [Result.andThen]
  rw [Oper.upon_value]
  go_wp2
  go_ret
  exact ⟨rfl,rfl⟩
open Go.RowKit in
theorem b2n (a b:Str) (r:Int) (hf:a4y a b = some r):a0a Tryz.prog 418 .flat [(.str a),(.str b)] (.int .i64 r):=by
  intro w vals fps hr
  simp only [a2p,Rep] at hr
  obtain ⟨v1,vs1,f1,f2,rfl,⟨rfl,h1,rfl⟩,⟨v2,vs2,f3,f4,rfl,⟨rfl,h2,rfl⟩,⟨rfl,rfl⟩,rfl⟩,rfl⟩:=hr
  unfold a4y at hf
  obtain rfl:=os hf
  refine (d8m ⟨a.toArray⟩ ⟨b.toArray⟩ w).mono ?_
  rintro e w' ⟨rfl,rfl⟩
  refine ⟨Below.refl _ _,?_⟩
  exact ⟨[.int .i64 (Lib.compareBytes a b)],rfl,by simp [Rep]⟩

/- strings.Compare -/
def e4n:a0s :=
 (.seq (.reg (tm 4 (.c (.int .i64 0)) .done))
 (.seq (.reg (tm 5 (.t 0) (tm 6 (.t 1) (tq 7 (.call 418 [(.t 5),(.t 6)]) (tm 4 (.t 7) .done)))))
 .ret))
theorem e4o:a1e Tryz.prog Tryz.f376 = some (e4n.erase,[.mov (.t 4)],8):=by kernel_rfl
def strings_Compare (A:Str) (B:Str):Option Int :=
    (a4y A B).bind fun D =>
    some D
theorem c0u (A:Str) (B:Str) (r:Int) (hf:strings_Compare A B = some r):a0a Tryz.prog 376 .flat [(.str A),(.str B)] (.I r):=by
  refine a0a.of_awp mixed Tryz.func376 e4o nle ?_
  rw [a0n]
  unfold strings_Compare at hf
  unfold e4n
  refine (show awp Tryz.prog false 0 _ (ofL [(0,(.str A)),(1,(.str B))]) [] _ from ?_)
  refine o7 ?_
  refine a0r ?_
  refine x8 (a2w (.I 0) rfl) ?_
  refine y5 ?_
  refine a0m ?_
  refine o7 ?_
  refine a0r ?_
  obtain ⟨D,er4,hf⟩:=ob hf
  refine x8 (a2w (.str A) rfl) ?_
  refine x8 (a2w (.str B) rfl) ?_
  refine x8 (a0j (b2n _ _ _ er4) rfl .r rfl) ?_
  refine x8 (a2w (.I D) rfl) ?_
  refine y5 ?_
  refine a0m ?_
  refine a0b ?_
  obtain rfl:=os hf
  exact y7 ⟨tr,tr⟩ rfl .r

/- cmp.Or[int] -/
def e4p:a0s :=
 (.seq (.reg (tm 2 (.c (.int .i64 0)) .done))
 (.seq (.reg (tm 3 (.c (.int .i64 0)) .done))
 (.seq (.seq (.reg (tm 6 (.t 0) (tq 7 (.len (.t 6)) (tm 8 (.c (.int .i64 0)) .done))))
 (.block 0 (.loop (.seq (.reg (tq 9 (.bin .lss (.t 8) (.t 7)) .done))
 (.seq (.cond (.t 9) .skip
 (.exit 0))
 (.seq (.block 1 (.seq (.reg (tq 10 (.iaddr 1 (.t 6) (.t 8)) (tq 11 (.load 1 false (.t 10)) (tm 5 (.t 11) .done))))
 (.seq (.reg (tm 12 (.t 5) (tm 13 (.t 3) (tq 14 (.bin .neq (.t 12) (.t 13)) .done))))
 (.cond (.t 14) (.seq (.reg (tm 15 (.t 5) (tm 2 (.t 15) .done)))
 .ret)
 .skip))))
 (.reg (tq 16 (.bin .add (.t 8) (.c (.int .i64 1))) (tm 8 (.t 16) .done)))))))))
 (.cut (.seq (.reg (tm 17 (.t 3) (tm 2 (.t 17) .done)))
 .ret)))))
theorem e4q:a1e Tryz.prog Tryz.f375 = some (e4p.erase,[.mov (.t 2)],18):=by kernel_rfl
def a5o :List Int → Option (Fl Int Unit)
  | [] =>
    some (.go ())
  | D :: xs =>
    if (D != 0) then
    some (.ret D)
    else
    a5o xs 

def b6w (A:(List Int)):Option Int :=
    (a5o A ).bind fun q => (match q with
    | .ret r => some r
    | .go _ =>
    some 0)
theorem c9f (A:(List Int)) (r:Int) (hf:b6w A = some r):a0a Tryz.prog 375 .flat [(.lst 1 (A.map encI))] (.I r):=by
 refine a0a.of_awp mixed Tryz.func375 e4q nle ?_;rw [a0n];unfold b6w at hf;unfold e4p;refine (show awp Tryz.prog false 0 _ (ofL [(0,(.lst 1 (A.map encI)))]) [] _ from ?_);refine sr<|l7 (.I 0) rfl<|dk<|sr<|l7 (.I 0) rfl<|dk<|o7<|sr<|l7 (.lst 1 (A.map encI)) rfl<|a1i (a1p (enc:=encI) rfl) fun hl2 => l7 (.I 0) rfl<|dk<|?_
 obtain ⟨p17,hb1,hf⟩:=ob hf
 refine a2c (X:={q:Unit // p17 = .go q}) (fun q => ([(3,(.I 0))],[])) ?_ ?_
 ·refine a1v (X:={q:Nat // a5o (A.drop q)  = some p17}) (fun q => ([(3,(.I 0)),(6,(.lst 1 (A.map encI))),(7,(.I (A.length:Int))),(8,(.I (q.1:Int)))],[])) (fun q => A.length - q.1) ⟨0,hb1⟩ ⟨[],[],_,_,rfl,rfl,⟨.r,⟨.r,⟨.r,⟨.r,tr⟩⟩⟩⟩,.r⟩ ?_
  rintro ⟨B,hc1⟩
  have hc1:a5o (A.drop B)  = some p17:=hc1
  refine (show awp Tryz.prog false 0 _ (ofL [(3,(.I 0)),(6,(.lst 1 (A.map encI))),(7,(.I (A.length:Int))),(8,(.I (B:Int)))]) [] _ from ?_)
  rcases a6c A B with ⟨hie20,hd23⟩ | ⟨hlt18,D,hx19,hd23⟩
  ·rw [hd23,a5o.eq_1] at hc1
   have hq22:=dlf hie20
   refine sr<|o8 (.bool (decide ((B:Int) < (A.length:Int)))) rfl rfl rfl<|dk<|o7<|y9 rfl hq22<|a3i<|a3h<|a2e<|a3g<|?_;obtain rfl:=os hc1;exact a4b ⟨_,rfl⟩ ⟨[],[],_,_,rfl,rfl,⟨.r,tr⟩,.r⟩
  ·rw [hd23,a5o.eq_2] at hc1
   have hq22:=dlt hlt18
   refine sr<|o8 (.bool (decide ((B:Int) < (A.length:Int)))) rfl rfl rfl<|dk<|o7<|y8 rfl hq22<|a0k<|a0m<|o7<|a3y<|sr<|x8 (a1o (enc:=encI) rfl rfl hx19)<|o8 (.I D) rfl ⟨rfl,rfl⟩ rfl<|l7 (.I D) rfl<|dk<|sr<|l7 (.I D) rfl<|l7 (.I 0) rfl<|o8 (.bool (D != 0)) rfl rfl rfl<|dk<|?_
   rcases oi hc1 with ⟨c25,hc1⟩ | ⟨c25,hc1⟩
   ·refine y8 rfl c25<|sr<|l7 (.I D) rfl<|l7 (.I D) rfl<|dk<|a0b<|?_;obtain rfl:=os hc1;obtain rfl:=os hf;exact y7 ⟨tr,tr⟩ rfl .r
   ·refine y9 rfl (bf c25)<|a0k<|a2y<|a0m<|a0r<|o8 (.I (w64 ((B:Int) + 1))) rfl rfl rfl<|l7 (.I (w64 ((B:Int) + 1))) rfl<|y5<|?_;exact a1z ⟨(B + 1),hc1⟩ (mul hlt18) ⟨[],[],_,_,rfl,rfl,⟨.r,⟨.r,⟨.r,⟨.of_eq (congrArg (AV.int _) (a1x hlt18 hl2)),tr⟩⟩⟩⟩,.r⟩
 ·rintro ⟨_,rfl⟩
  refine sr<|l7 (.I 0) rfl<|l7 (.I 0) rfl<|dk<|a0b<|?_;obtain rfl:=os hf;exact y7 ⟨tr,tr⟩ rfl .r

/- impl.compareAtoms -/
def e4r:a0s :=
 (.seq (.reg (tq 2 (.box 3 (.t 0)) (tq 3 (.box 3 (.t 1)) (tm 4 (.c (.int .i64 0)) .done))))
 (.seq (.reg (tq 5 (.faddr 0 (.t 2)) (tq 6 (.load 1 false (.t 5)) (tq 7 (.faddr 0 (.t 3)) (tq 8 (.load 1 false (.t 7)) (tq 10 (.faddr 1 (.t 2)) (tq 11 (.load 1 false (.t 10)) (tq 12 (.faddr 1 (.t 3)) (tq 13 (.load 1 false (.t 12)) (tq 15 (.faddr 2 (.t 2)) (tq 16 (.load 1 false (.t 15)) (tq 17 (.faddr 2 (.t 3)) (tq 18 (.load 1 false (.t 17)) (.l ⟨(some 9),none,.call 307 [(.t 6),(.t 8)]⟩ [⟨(some 18),none,.load 1 false (.t 17)⟩,⟨(some 17),none,.faddr 2 (.t 3)⟩,⟨(some 16),none,.load 1 false (.t 15)⟩,⟨(some 15),none,.faddr 2 (.t 2)⟩,⟨(some 13),none,.load 1 false (.t 12)⟩,⟨(some 12),none,.faddr 1 (.t 3)⟩,⟨(some 11),none,.load 1 false (.t 10)⟩,⟨(some 10),none,.faddr 1 (.t 2)⟩]
 (.l ⟨(some 14),none,.call 307 [(.t 11),(.t 13)]⟩ [⟨(some 18),none,.load 1 false (.t 17)⟩,⟨(some 17),none,.faddr 2 (.t 3)⟩,⟨(some 16),none,.load 1 false (.t 15)⟩,⟨(some 15),none,.faddr 2 (.t 2)⟩]
 (.l ⟨(some 19),none,.call 376 [(.t 16),(.t 18)]⟩ []
 (.l ⟨(some 20),none,.bslice 1 [(.t 9),(.t 14),(.t 19)]⟩ []
 (.l ⟨(some 21),none,.call 375 [(.t 20)]⟩ []
 (tm 4 (.t 21) .done) .non) .non) .non) .non) .non))))))))))))))
 .ret))
theorem e4s:a1e Tryz.prog Tryz.f286 = some (e4r.erase,[.mov (.t 4)],22):=by kernel_rfl
def a7m (A:a1c) (B:a1c):Option Int :=
    (cmp_Compare_int A.Kind B.Kind).bind fun D =>
    (cmp_Compare_int A.N B.N).bind fun E =>
    (strings_Compare A.T B.T).bind fun F =>
    (b6w [D,E,F]).bind fun G =>
    some G
theorem b8q (A:a1c) (B:a1c) (r:Int) (hf:a7m A B = some r):a0a Tryz.prog 286 .flat [(l9 A),(l9 B)] (.I r):=by
 refine a0a.of_awp mixed Tryz.func286 e4s nle ?_;rw [a0n];unfold a7m at hf;unfold e4r;refine (show awp Tryz.prog false 0 _ (ofL [(0,(l9 A)),(1,(l9 B))]) [] _ from ?_);refine sr<|x8 (a1j (j:=0) (c:=(.agg [(.I A.Kind),(.I A.N),(.str A.T)])) rfl tr rfl rfl)<|x8 (a1j (j:=1) (c:=(.agg [(.I B.Kind),(.I B.N),(.str B.T)])) rfl tr rfl rfl)<|l7 (.I 0) rfl<|dk<|sr<|o8 (.ptr 0 0 0) rfl tr rfl<|o8 (.I A.Kind) rfl nle rfl<|o8 (.ptr 1 0 0) rfl tr rfl<|o8 (.I B.Kind) rfl nle rfl<|o8 (.ptr 0 0 1) rfl tr rfl<|o8 (.I A.N) rfl nle rfl<|?_
 refine o8 (.ptr 1 0 1) rfl tr rfl<|o8 (.I B.N) rfl nle rfl<|o8 (.ptr 0 0 2) rfl tr rfl<|o8 (.str A.T) rfl nle rfl<|o8 (.ptr 1 0 2) rfl tr rfl<|o8 (.str B.T) rfl nle rfl<|?_
 obtain ⟨D,er4,hf⟩:=ob hf
 refine a1a (a0j (b5q _ _ _ er4) rfl .r rfl) a7h tr ?_
 obtain ⟨E,er6,hf⟩:=ob hf
 refine a1a (a0j (b5q _ _ _ er6) rfl .r rfl) a7h tr ?_
 obtain ⟨F,er8,hf⟩:=ob hf
 refine a1a (a0j (c0u _ _ _ er8) rfl .r rfl) a7h tr ?_;refine a1a (a0t (j:=2) (as':=[(.I D),(.I E),(.I F)]) rfl (fun _ => by decide) ⟨rfl,⟨rfl,⟨rfl,tr⟩⟩⟩ .r rfl rfl rfl) tr tr ?_
 obtain ⟨G,er10,hf⟩:=ob hf
 refine a1a (a0j (c9f _ _ er10) rfl (.cons (.of_eq (congrArg (AV.lst _) (by rfl))) .nil) rfl) a7h tr<|l7 (.I G) rfl<|dk<|a0b<|?_;obtain rfl:=os hf;exact y7 ⟨tr,tr⟩ rfl .r

/- impl.DatumOK -/
def c168:a0s :=
 (.seq (.reg (tm 2 (.c (.bool false)) .done))
 (.seq (.seq (.reg (tm 5 (.t 0) (tq 6 (.len (.t 5)) (tm 7 (.c (.int .i64 0)) .done))))
 (.block 0 (.loop (.seq (.reg (tq 8 (.bin .lss (.t 7) (.t 6)) .done))
 (.seq (.cond (.t 8) .skip
 (.exit 0))
 (.seq (.block 1 (.seq (.reg (tm 9 (.t 7) (tq 10 (.iaddr 3 (.t 5) (.t 7)) (tq 11 (.load 3 true (.t 10)) (tq 4 (.box 3 (.c (.agg [(.int .i64 0),(.int .i64 0),(.str [])]))) (tm 3 (.t 9) (.q ⟨none,none,.store 3 (.t 4) (.t 11)⟩
 .done)))))))
 (.seq (.reg (tq 12 (.load 3 true (.t 4)) (.l ⟨(some 13),none,.call 174 [(.t 12)]⟩ []
 (tq 14 (.not (.t 13)) (tm 15 (.t 14) (tg 16 15 false (.faddr 0 (.t 4)) (tg 17 15 false (.load 1 false (.t 16)) (tg 18 15 false (.mov (.t 0)) (tg 19 15 false (.iaddr 3 (.t 18) (.c (.int .i64 0))) (tg 20 15 false (.faddr 0 (.t 19)) (tg 21 15 false (.load 1 false (.t 20)) (tg 22 15 false (.bin .neq (.t 17) (.t 21)) (tq 23 (.pick (.t 15) (.c (.bool true)) (.t 22)) (tm 24 (.t 23) (tg 25 24 false (.mov (.t 3)) (tg 26 24 false (.bin .gtr (.t 25) (.c (.int .i64 0))) (tg 27 24 false (.mov (.t 26)) (tg 28 27 true (.mov (.t 0)) (tg 29 27 true (.mov (.t 3)) (tg 30 27 true (.bin .sub (.t 29) (.c (.int .i64 1))) (tg 31 27 true (.iaddr 3 (.t 28) (.t 30)) (tg 32 27 true (.load 3 true (.t 31)) (tg 33 27 true (.load 3 true (.t 4)) (.l ⟨(some 34),(some (27,true)),.call 286 [(.t 32),(.t 33)]⟩ []
 (tg 35 27 true (.bin .geq (.t 34) (.c (.int .i64 0))) (tg 36 24 false (.pick (.t 27) (.t 35) (.c (.bool false))) (tq 37 (.pick (.t 24) (.c (.bool true)) (.t 36)) .done))) .non))))))))))))))))))))) .non)))
 (.cut (.cond (.t 37) (.seq (.reg (tm 2 (.c (.bool false)) .done))
 .ret)
 .skip)))))
 (.reg (tq 38 (.bin .add (.t 7) (.c (.int .i64 1))) (tm 7 (.t 38) .done)))))))))
 (.cut (.seq (.reg (tm 39 (.t 0) (tq 40 (.len (.t 39)) (tq 41 (.bin .leq (.t 40) (.c (.int .i64 8))) (tm 2 (.t 41) .done)))))
 .ret))))
theorem e4t:a1e Tryz.prog Tryz.f168 = some (c168.erase,[.mov (.t 2)],42):=by kernel_rfl
def a5t (B:(List a1c)):List a1c → Nat → Option (Fl Bool Unit)
  | [],A =>
    some (.go ())
  | D :: xs,A =>
    (((b2d D).bind fun H =>
    if (!H) then
    some true
    else
    (idx B 0).bind fun E =>
    if (D.Kind != E.Kind) then
    some true
    else
    if (decide ((A:Int) > 0)) then
    (idx B (w64 ((A:Int) - 1))).bind fun J =>
    (a7m J D).bind fun F =>
    some (decide (F ≥ 0))
    else
    some false:Option Bool)).bind fun G =>
    if G then
    some (.ret false)
    else
    a5t B xs (A + 1)

def a8q (B:(List a1c)):Option Bool :=
    (a5t B B 0).bind fun q => (match q with
    | .ret r => some r
    | .go _ =>
    some (decide ((B.length:Int) ≤ 8)))
theorem b2o (B:(List a1c)) (r:Bool) (hf:a8q B = some r):a0a Tryz.prog 168 .flat [(.lst 3 (B.map l9))] (.bool r):=by
 refine a0a.of_awp mixed Tryz.func168 e4t nle ?_;rw [a0n];unfold a8q at hf;unfold c168;refine (show awp Tryz.prog false 0 _ (ofL [(0,(.lst 3 (B.map l9)))]) [] _ from ?_);refine sr<|l7 (.bool false) rfl<|dk<|o7<|sr<|l7 (.lst 3 (B.map l9)) rfl<|a1i (a1p (enc:=l9) rfl) fun hl2 => l7 (.I 0) rfl<|dk<|?_
 obtain ⟨p89,hb1,hf⟩:=ob hf
 refine a2c (X:={q:Unit // p89 = .go q}) (fun q => ([(0,(.lst 3 (B.map l9)))],[])) ?_ ?_
 ·refine a1v (X:={q:Nat // a5t B (B.drop q) q = some p89}) (fun q => ([(0,(.lst 3 (B.map l9))),(5,(.lst 3 (B.map l9))),(6,(.I (B.length:Int))),(7,(.I (q.1:Int)))],[])) (fun q => B.length - q.1) ⟨0,hb1⟩ ⟨[],[],_,_,rfl,rfl,⟨.r,⟨.r,⟨.r,⟨.r,tr⟩⟩⟩⟩,.r⟩ ?_
  rintro ⟨A,hc1⟩
  have hc1:a5t B (B.drop A) A = some p89:=hc1
  refine (show awp Tryz.prog false 0 _ (ofL [(0,(.lst 3 (B.map l9))),(5,(.lst 3 (B.map l9))),(6,(.I (B.length:Int))),(7,(.I (A:Int)))]) [] _ from ?_)
  rcases a6c B A with ⟨hie92,hd95⟩ | ⟨hlt90,D,hx91,hd95⟩
  ·rw [hd95,a5t.eq_1] at hc1
   have hq94:=dlf hie92
   refine sr<|o8 (.bool (decide ((A:Int) < (B.length:Int)))) rfl rfl rfl<|dk<|o7<|y9 rfl hq94<|a3i<|a3h<|a2e<|a3g<|?_;obtain rfl:=os hc1;exact a4b ⟨_,rfl⟩ ⟨[],[],_,_,rfl,rfl,⟨.r,tr⟩,.r⟩
  ·rw [hd95,a5t.eq_2] at hc1
   have hq94:=dlt hlt90
   refine sr<|o8 (.bool (decide ((A:Int) < (B.length:Int)))) rfl rfl rfl<|dk<|o7<|y8 rfl hq94<|a0k<|a0m<|o7<|a3y<|sr<|l7 (.I (A:Int)) rfl<|x8 (a1o (enc:=l9) rfl rfl hx91)<|o8 (l9 D) rfl nle rfl<|x8 (a1j (j:=0) (c:=(.agg [(.I 0),(.I 0),(.str [])])) rfl tr rfl rfl)<|l7 (.I (A:Int)) rfl<|a3o (a0e (v:=(.agg [(.I D.Kind),(.I D.N),(.str D.T)])) (y':=(.agg [(.I D.Kind),(.I D.N),(.str D.T)])) rfl rfl rfl tr ⟨rfl,nle⟩ ⟨⟨rfl,tr⟩,⟨⟨rfl,tr⟩,⟨⟨rfl,tr⟩,tr⟩⟩⟩ rfl)<|?_
   refine dk<|o7<|?_
   obtain ⟨G,hb2,hc1⟩:=ob hc1
   refine a1k ([(0,(.lst 3 (B.map l9))),(5,(.lst 3 (B.map l9))),(6,(.I (B.length:Int))),(7,(.I (A:Int))),(37,(.bool G))],[]) ?_ ?_
   ·refine a0r<|o8 (.agg [(.I D.Kind),(.I D.N),(.str D.T)]) rfl nle rfl<|?_
    obtain ⟨H,er111,hb2⟩:=ob hb2
    refine a1a (a0j (c6k _ _ er111) rfl .r rfl) a7h tr<|o8 (.bool (!H)) rfl tr rfl<|l7 (.bool (!H)) rfl<|?_
    rcases oi hb2 with ⟨d5f,hb2⟩ | ⟨d5f,hb2⟩
    ·refine a0i (s:=15) (b:=true) rfl d5f<|o6 rfl rfl<|o6 rfl rfl<|o6 rfl rfl<|o6 rfl rfl<|o6 rfl rfl<|o6 rfl rfl<|o6 rfl rfl<|o8 (.bool true) rfl tr rfl<|l7 (.bool true) rfl<|o6 rfl rfl<|o6 rfl rfl<|o6 rfl rfl<|a0x rfl<|a0x rfl<|a0x rfl<|a0x rfl<|a0x rfl<|a0x rfl<|c3o rfl tr<|a0x rfl<|o6 rfl rfl<|o8 (.bool true) rfl tr rfl<|y5<|?_;obtain rfl:=os hb2;exact ⟨[],[],_,_,rfl,rfl,⟨.r,⟨.r,⟨.r,⟨.r,⟨.r,tr⟩⟩⟩⟩⟩,.r⟩
    ·refine a0i (s:=15) (b:=false) rfl (bf d5f)<|s_on rfl<|o8 (.ptr 0 0 0) rfl tr rfl<|s_on rfl<|o8 (.I D.Kind) rfl nle rfl<|s_on rfl<|l7 (.lst 3 (B.map l9)) rfl<|s_on rfl<|?_
     obtain ⟨E,ex114,hb2⟩:=ob hb2
     refine x8 (a2t (enc:=l9) rfl rfl (a8n ex114) (a8o ex114))<|s_on rfl<|o8 (.iptr (l9 E) 0) rfl tr rfl<|s_on rfl<|o8 (.I E.Kind) rfl nle rfl<|s_on rfl<|o8 (.bool (D.Kind != E.Kind)) rfl rfl rfl<|o8 (.bool (D.Kind != E.Kind)) rfl tr rfl<|l7 (.bool (D.Kind != E.Kind)) rfl<|?_
     rcases oi hb2 with ⟨c6j,hb2⟩ | ⟨c6j,hb2⟩
     ·refine a0i (s:=24) (b:=true) rfl c6j<|o6 rfl rfl<|o6 rfl rfl<|o6 rfl rfl<|a0x rfl<|a0x rfl<|a0x rfl<|a0x rfl<|a0x rfl<|a0x rfl<|c3o rfl tr<|a0x rfl<|o6 rfl rfl<|o8 (.bool true) rfl tr rfl<|y5<|?_;obtain rfl:=os hb2;exact ⟨[],[],_,_,rfl,rfl,⟨.r,⟨.r,⟨.r,⟨.r,⟨.r,tr⟩⟩⟩⟩⟩,.r⟩
     ·refine a0i (s:=24) (b:=false) rfl (bf c6j)<|s_on rfl<|l7 (.I (A:Int)) rfl<|s_on rfl<|o8 (.bool (decide ((A:Int) > 0))) rfl rfl rfl<|s_on rfl<|l7 (.bool (decide ((A:Int) > 0))) rfl<|?_
      rcases oi hb2 with ⟨c116,hb2⟩ | ⟨c116,hb2⟩
      ·refine a0i (s:=27) (b:=true) rfl c116<|s_on rfl<|l7 (.lst 3 (B.map l9)) rfl<|s_on rfl<|l7 (.I (A:Int)) rfl<|s_on rfl<|o8 (.I (w64 ((A:Int) - 1))) rfl rfl rfl<|s_on rfl<|?_
       obtain ⟨J,ex118,hb2⟩:=ob hb2
       refine x8 (a2t (enc:=l9) rfl rfl (a8n ex118) (a8o ex118))<|s_on rfl<|o8 (l9 J) rfl nle rfl<|s_on rfl<|o8 (.agg [(.I D.Kind),(.I D.N),(.str D.T)]) rfl nle rfl<|d3d rfl<|?_
       obtain ⟨F,er120,hb2⟩:=ob hb2
       refine a1a (a0j (b8q _ _ _ er120) rfl .r rfl) a7h tr<|s_on rfl<|o8 (.bool (decide (F ≥ 0))) rfl rfl rfl<|s_on rfl<|o8 (.bool (decide (F ≥ 0))) rfl tr rfl<|o8 (.bool (decide (F ≥ 0))) rfl tr rfl<|y5<|?_;obtain rfl:=os hb2;exact ⟨[],[],_,_,rfl,rfl,⟨.r,⟨.r,⟨.r,⟨.r,⟨.r,tr⟩⟩⟩⟩⟩,.r⟩
      ·refine a0i (s:=27) (b:=false) rfl (bf c116)<|o6 rfl rfl<|o6 rfl rfl<|o6 rfl rfl<|o6 rfl rfl<|o6 rfl rfl<|o6 rfl rfl<|c9c rfl rfl tr<|o6 rfl rfl<|s_on rfl<|o8 (.bool false) rfl tr rfl<|o8 (.bool false) rfl tr rfl<|y5<|?_;obtain rfl:=os hb2;exact ⟨[],[],_,_,rfl,rfl,⟨.r,⟨.r,⟨.r,⟨.r,⟨.r,tr⟩⟩⟩⟩⟩,.r⟩
   ·rcases oi hc1 with ⟨d4z,hc1⟩ | ⟨d4z,hc1⟩
    ·refine y8 rfl d4z<|sr<|l7 (.bool false) rfl<|dk<|a0b<|?_;obtain rfl:=os hc1;obtain rfl:=os hf;exact y7 ⟨tr,tr⟩ rfl .r
    ·refine y9 rfl (bf d4z)<|a0k<|a2y<|a0m<|a0r<|o8 (.I (w64 ((A:Int) + 1))) rfl rfl rfl<|l7 (.I (w64 ((A:Int) + 1))) rfl<|y5<|?_;exact a1z ⟨(A + 1),hc1⟩ (mul hlt90) ⟨[],[],_,_,rfl,rfl,⟨.r,⟨.r,⟨.r,⟨.of_eq (congrArg (AV.int _) (a1x hlt90 hl2)),tr⟩⟩⟩⟩,.r⟩
 ·rintro ⟨_,rfl⟩
  refine sr<|l7 (.lst 3 (B.map l9)) rfl<|a1i (a1p (enc:=l9) rfl) fun hl122 => o8 (.bool (decide ((B.length:Int) ≤ 8))) rfl rfl rfl<|l7 (.bool (decide ((B.length:Int) ≤ 8))) rfl<|dk<|a0b<|?_;obtain rfl:=os hf;exact y7 ⟨tr,tr⟩ rfl .r

/- impl.condOK -/
def d5e:a0s :=
 (.seq (.reg (tq 1 (.box 3 (.t 0)) (tm 2 (.c (.bool false)) .done)))
 (.seq (.reg (tq 3 (.faddr 1 (.t 1)) (tq 4 (.load 1 false (.t 3)) (tq 5 (.call 114 [(.t 4),(.c (.int .i64 1)),(.c (.int .i64 8))]) (tm 6 (.t 5) (tg 7 6 true (.faddr 2 (.t 1)) (tg 8 6 true (.load 1 false (.t 7)) (tg 9 6 true (.call 168 [(.t 8)]) (tq 10 (.pick (.t 6) (.t 9) (.c (.bool false))) (tm 11 (.t 10) (tg 12 11 true (.faddr 0 (.t 1)) (tg 13 11 true (.load 1 false (.t 12)) (tg 14 11 true (.bslice 1 [(.t 13)]) (tg 15 11 true (.call 110 [(.t 14)]) (tq 16 (.pick (.t 11) (.t 15) (.c (.bool false))) (tm 2 (.t 16) .done))))))))))))))))
 .ret))
theorem e4u:a1e Tryz.prog Tryz.f241 = some (d5e.erase,[.mov (.t 2)],17):=by kernel_rfl
def b3w (A:a2v):Option Bool :=
    (a3t A.Func 1 8).bind fun E =>
    if E then
    (a8q A.Value).bind fun B =>
    if B then
    (a7e [A.Column]).bind fun D =>
    some D
    else
    some false
    else
    some false
theorem c6l (A:a2v) (r:Bool) (hf:b3w A = some r):a0a Tryz.prog 241 .flat [(a0d A)] (.bool r):=by
 refine a0a.of_awp mixed Tryz.func241 e4u nle ?_;rw [a0n];unfold b3w at hf;unfold d5e;refine (show awp Tryz.prog false 0 _ (ofL [(0,(a0d A))]) [] _ from ?_);refine sr<|x8 (a1j (j:=0) (c:=(.agg [(.str A.Column),(.I A.Func),(.lst 3 (A.Value.map l9))])) rfl tr rfl rfl)<|l7 (.bool false) rfl<|dk<|sr<|o8 (.ptr 0 0 1) rfl tr rfl<|o8 (.I A.Func) rfl nle rfl<|?_
 obtain ⟨E,er3,hf⟩:=ob hf
 refine x8 (a0j (a3x _ _ _ _ er3) rfl .r rfl)<|l7 (.bool E) rfl<|?_
 rcases oi hf with ⟨c4,hf⟩ | ⟨c4,hf⟩
 ·refine a0i (s:=6) (b:=true) rfl c4<|s_on rfl<|o8 (.ptr 0 0 2) rfl tr rfl<|s_on rfl<|o8 (.lst 3 (A.Value.map l9)) rfl nle rfl<|s_on rfl<|?_
  obtain ⟨B,er6,hf⟩:=ob hf
  refine x8 (a0j (b2o _ _ er6) rfl .r rfl)<|o8 (.bool B) rfl tr rfl<|l7 (.bool B) rfl<|?_
  rcases oi hf with ⟨c7,hf⟩ | ⟨c7,hf⟩
  ·refine a0i (s:=11) (b:=true) rfl c7<|s_on rfl<|o8 (.ptr 0 0 0) rfl tr rfl<|s_on rfl<|o8 (.str A.Column) rfl nle rfl<|s_on rfl<|?_;refine x8 (a0t (j:=1) (as':=[(.str A.Column)]) rfl (fun _ => by decide) ⟨rfl,tr⟩ .r rfl rfl rfl) ?_;refine s_on rfl ?_
   obtain ⟨D,er9,hf⟩:=ob hf
   refine x8 (a0j (a9t _ _ er9) rfl (.cons (.of_eq (congrArg (AV.lst _) (by rfl))) .nil) rfl)<|o8 (.bool D) rfl tr rfl<|l7 (.bool D) rfl<|dk<|a0b<|?_;obtain rfl:=os hf;exact y7 ⟨tr,tr⟩ rfl .r
  ·refine a0i (s:=11) (b:=false) rfl (bf c7)<|o6 rfl rfl<|o6 rfl rfl<|o6 rfl rfl<|o6 rfl rfl<|o8 (.bool false) rfl tr rfl<|l7 (.bool false) rfl<|dk<|a0b<|?_;obtain rfl:=os hf;exact y7 ⟨tr,tr⟩ rfl .r
 ·refine a0i (s:=6) (b:=false) rfl (bf c4)<|o6 rfl rfl<|o6 rfl rfl<|o6 rfl rfl<|o8 (.bool false) rfl tr rfl<|l7 (.bool false) rfl<|o6 rfl rfl<|o6 rfl rfl<|o6 rfl rfl<|o6 rfl rfl<|o8 (.bool false) rfl tr rfl<|l7 (.bool false) rfl<|dk<|a0b<|?_;obtain rfl:=os hf;exact y7 ⟨tr,tr⟩ rfl .r

end Go.R
