/- Walks. -/
import Derived.Test.YtgdkfnndbknjpaaGreatOP3
set_option linter.all false
namespace Go.R
open Go Go.Proofs
set_option linter.unusedVariables false
set_option linter.unusedSimpArgs false
set_option maxHeartbeats 8000000
/- impl.condsOK$1 -/
def e4v:a0s :=
 (.seq (.reg (tq 1 (.box 3 (.t 0)) (tm 2 (.c (.bool false)) .done)))
 (.seq (.reg (tq 3 (.load 3 true (.t 1)) (tq 4 (.call 241 [(.t 3)]) (tq 5 (.not (.t 4)) (tm 2 (.t 5) .done)))))
 .ret))
theorem e4w:a1e Tryz.prog Tryz.f240 = some (e4v.erase,[.mov (.t 2)],6):=by kernel_rfl
def b2p (A:a2v):Option Bool :=
    (b3w A).bind fun B =>
    some (!B)
theorem c1x (A:a2v) (r:Bool) (hf:b2p A = some r):a0a Tryz.prog 240 .flat [(a0d A)] (.bool r):=by
  refine a0a.of_awp mixed Tryz.func240 e4w nle ?_
  rw [a0n]
  unfold b2p at hf
  unfold e4v
  refine (show awp Tryz.prog false 0 _ (ofL [(0,(a0d A))]) [] _ from ?_)
  refine o7 ?_
  refine a0r ?_
  refine x8 (a1j (j:=0) (c:=(.agg [(.str A.Column),(.I A.Func),(.lst 3 (A.Value.map l9))])) rfl tr rfl rfl) ?_
  refine x8 (a2w (.bool false) rfl) ?_
  refine y5 ?_
  refine a0m ?_
  refine o7 ?_
  refine a0r ?_
  obtain ⟨B,er3,hf⟩:=ob hf
  refine x8 (o_q (.agg [(.str A.Column),(.I A.Func),(.lst 3 (A.Value.map l9))]) rfl nle rfl) ?_
  refine x8 (a0j (c6l _ _ er3) rfl .r rfl) ?_
  refine x8 (o_q (.bool (!B)) rfl tr rfl) ?_
  refine x8 (a2w (.bool (!B)) rfl) ?_
  refine y5 ?_
  refine a0m ?_
  refine a0b ?_
  obtain rfl:=os hf
  exact y7 ⟨tr,tr⟩ rfl .r

/- impl.condsOK -/
def c6m:a0s :=
 (.seq (.reg (tm 2 (.c (.bool false)) .done))
 (.seq (.reg (tm 3 (.t 0) (tq 4 (.len (.t 3)) (tq 5 (.bin .leq (.t 4) (.c (.int .i64 8))) (tm 6 (.t 5) (tg 7 6 true (.mov (.t 0)) (tg 8 6 true (.call 239 [(.t 7),(.c (.fn 240 []))]) (tg 9 6 true (.not (.t 8)) (tq 10 (.pick (.t 6) (.t 9) (.c (.bool false))) (tm 2 (.t 10) .done))))))))))
 .ret))
theorem e4x:a1e Tryz.prog Tryz.f111 = some (c6m.erase,[.mov (.t 2)],11):=by kernel_rfl
def b2q (A:(List a2v)):Option Bool :=
    if (decide ((A.length:Int) ≤ 8)) then
    (a2r A b2p).bind fun B =>
    some (!B)
    else
    some false
theorem c5b (A:(List a2v)) (r:Bool) (hf:b2q A = some r):a0a Tryz.prog 111 .flat [(.lst 3 (A.map a0d))] (.bool r):=by
 refine a0a.of_awp mixed Tryz.func111 e4x nle ?_;rw [a0n];unfold b2q at hf;unfold c6m;refine (show awp Tryz.prog false 0 _ (ofL [(0,(.lst 3 (A.map a0d)))]) [] _ from ?_);refine sr<|l7 (.bool false) rfl<|dk<|sr<|?_
 rcases oi hf with ⟨c3,hf⟩ | ⟨c3,hf⟩
 ·obtain ⟨B,er5,hf⟩:=ob hf
  refine l7 (.lst 3 (A.map a0d)) rfl<|a1i (a1p (enc:=a0d) rfl) fun hl2 => o8 (.bool (decide ((A.length:Int) ≤ 8))) rfl rfl rfl<|l7 (.bool (decide ((A.length:Int) ≤ 8))) rfl<|a0i (s:=6) (b:=true) rfl c3<|s_on rfl<|l7 (.lst 3 (A.map a0d)) rfl<|s_on rfl<|?_;refine x8 (a0j (a9u _ _ _ er5 240 [] (by kernel_rfl) (fun _ _ => rfl) (fun _ => rfl) (fun a0 r h => c1x a0 r h)) rfl .r rfl) ?_;refine s_on rfl<|o8 (.bool (!B)) rfl tr rfl<|o8 (.bool (!B)) rfl tr rfl<|l7 (.bool (!B)) rfl<|dk<|a0b<|?_;obtain rfl:=os hf;exact y7 ⟨tr,tr⟩ rfl .r
 ·refine l7 (.lst 3 (A.map a0d)) rfl<|a1i (a1p (enc:=a0d) rfl) fun hl2 => o8 (.bool (decide ((A.length:Int) ≤ 8))) rfl rfl rfl<|l7 (.bool (decide ((A.length:Int) ≤ 8))) rfl<|a0i (s:=6) (b:=false) rfl (bf c3)<|o6 rfl rfl<|o6 rfl rfl<|o6 rfl rfl<|o8 (.bool false) rfl tr rfl<|l7 (.bool false) rfl<|dk<|a0b<|?_;obtain rfl:=os hf;exact y7 ⟨tr,tr⟩ rfl .r

/- slices.IndexFunc[[]impl.Mut,impl.Mut] -/
def e4y:a0s :=
 (.seq (.reg (tm 4 (.c (.int .i64 0)) .done))
 (.seq (.seq (.reg (tm 6 (.t 0) (tq 7 (.len (.t 6)) (tm 8 (.c (.int .i64 0)) .done))))
 (.block 0 (.loop (.seq (.reg (tq 9 (.bin .lss (.t 8) (.t 7)) .done))
 (.seq (.cond (.t 9) .skip
 (.exit 0))
 (.seq (.block 1 (.seq (.reg (tm 10 (.t 8) (tm 5 (.t 10) .done)))
 (.seq (.reg (tm 11 (.t 1) (tm 12 (.t 0) (tm 13 (.t 5) (tq 14 (.iaddr 3 (.t 12) (.t 13)) (tq 15 (.load 3 true (.t 14)) (tq 16 (.calv (.t 11) [(.t 15)]) .done)))))))
 (.cond (.t 16) (.seq (.reg (tm 17 (.t 5) (tm 4 (.t 17) .done)))
 .ret)
 .skip))))
 (.reg (tq 18 (.bin .add (.t 8) (.c (.int .i64 1))) (tm 8 (.t 18) .done)))))))))
 (.cut (.seq (.reg (tq 4 (.mov (.c (.int .i64 (-1)))) .done))
 .ret))))
theorem e4z:a1e Tryz.prog Tryz.f347 = some (e4y.erase,[.mov (.t 4)],19):=by kernel_rfl
def a1l (D:(a5i → Option Bool)):List a5i → Nat → Option (Fl Int Unit)
  | [],A =>
    some (.go ())
  | E :: xs,A =>
    (D E).bind fun F =>
    if F then
    some (.ret (A:Int))
    else
    a1l D xs (A + 1)

def a3p (B:(List a5i)) (D:(a5i → Option Bool)):Option Int :=
    (a1l D B 0).bind fun q => (match q with
    | .ret r => some r
    | .go _ =>
    some (-1))
theorem b0z (B:(List a5i)) (D:(a5i → Option Bool)) (r:Int) (hf:a3p B D = some r) (kf_f_2:Nat) (cf_f_2:List AV) (okf_f_2:b6u Tryz.prog kf_f_2 = true) (hcf_f_2:∀ h p,a3k h p cf_f_2 = some cf_f_2) (hrf_f_2:∀ f,a8a f cf_f_2 = cf_f_2) (hpf_f_2:∀ a0 r,D a0 = some r → a0a Tryz.prog kf_f_2 .flat ([(a0o a0)] ++ cf_f_2) (.bool r)):a0a Tryz.prog 347 .flat [(.lst 3 (B.map a0o)),(.fn kf_f_2 cf_f_2)] (.I r):=by
 refine a0a.of_awp mixed Tryz.func347 e4z nle ?_;rw [a0n];unfold a3p at hf;unfold e4y;refine (show awp Tryz.prog false 0 _ (ofL [(0,(.lst 3 (B.map a0o))),(1,(.fn kf_f_2 cf_f_2))]) [] _ from ?_);refine sr<|l7 (.I 0) rfl<|dk<|o7<|sr<|l7 (.lst 3 (B.map a0o)) rfl<|a1i (a1p (enc:=a0o) rfl) fun hl3 => l7 (.I 0) rfl<|dk<|?_
 obtain ⟨p24,hb1,hf⟩:=ob hf
 refine a2c (X:={q:Unit // p24 = .go q}) (fun q => ([],[])) ?_ ?_
 ·refine a1v (X:={q:Nat // a1l D (B.drop q) q = some p24}) (fun q => ([(0,(.lst 3 (B.map a0o))),(1,(.fn kf_f_2 cf_f_2)),(7,(.I (B.length:Int))),(8,(.I (q.1:Int)))],[])) (fun q => B.length - q.1) ⟨0,hb1⟩ ⟨[],[],_,_,rfl,rfl,⟨.r,⟨.of_eq (congrArg (AV.fn _) (hrf_f_2 _)),⟨.r,⟨.r,tr⟩⟩⟩⟩,.r⟩ ?_
  rintro ⟨A,hc1⟩
  have hc1:a1l D (B.drop A) A = some p24:=hc1
  refine (show awp Tryz.prog false 0 _ (ofL [(0,(.lst 3 (B.map a0o))),(1,(.fn kf_f_2 cf_f_2)),(7,(.I (B.length:Int))),(8,(.I (A:Int)))]) [] _ from ?_)
  rcases a6c B A with ⟨hie27,hd30⟩ | ⟨hlt25,E,hx26,hd30⟩
  ·rw [hd30,a1l.eq_1] at hc1
   have hq29:=dlf hie27
   refine sr<|o8 (.bool (decide ((A:Int) < (B.length:Int)))) rfl rfl rfl<|dk<|o7<|y9 rfl hq29<|a3i<|a3h<|a2e<|a3g<|?_;obtain rfl:=os hc1;exact a4b ⟨_,rfl⟩ ⟨[],[],_,_,rfl,rfl,tr,.r⟩
  ·rw [hd30,a1l.eq_2] at hc1
   have hq29:=dlt hlt25
   refine sr<|o8 (.bool (decide ((A:Int) < (B.length:Int)))) rfl rfl rfl<|dk<|o7<|y8 rfl hq29<|a0k<|a0m<|o7<|a3y<|sr<|l7 (.I (A:Int)) rfl<|l7 (.I (A:Int)) rfl<|dk<|sr<|?_
   obtain ⟨F,er33,hc1⟩:=ob hc1
   refine l7 (.fn kf_f_2 cf_f_2) rfl<|l7 (.lst 3 (B.map a0o)) rfl<|l7 (.I (A:Int)) rfl<|x8 (a1o (enc:=a0o) rfl rfl hx26)<|o8 (a0o E) rfl nle rfl<|x8 (b5p (v:=(.bool F)) rfl okf_f_2 hcf_f_2 (hpf_f_2 _ _ er33) rfl .r rfl)<|dk<|?_
   rcases oi hc1 with ⟨c34,hc1⟩ | ⟨c34,hc1⟩
   ·refine y8 rfl c34<|sr<|l7 (.I (A:Int)) rfl<|l7 (.I (A:Int)) rfl<|dk<|a0b<|?_;obtain rfl:=os hc1;obtain rfl:=os hf;exact y7 ⟨tr,tr⟩ rfl .r
   ·refine y9 rfl (bf c34)<|a0k<|a2y<|a0m<|a0r<|o8 (.I (w64 ((A:Int) + 1))) rfl rfl rfl<|l7 (.I (w64 ((A:Int) + 1))) rfl<|y5<|?_;exact a1z ⟨(A + 1),hc1⟩ (mul hlt25) ⟨[],[],_,_,rfl,rfl,⟨.r,⟨.of_eq (congrArg (AV.fn _) (hrf_f_2 _)),⟨.r,⟨.of_eq (congrArg (AV.int _) (a1x hlt25 hl3)),tr⟩⟩⟩⟩,.r⟩
 ·rintro ⟨_,rfl⟩
  refine sr<|l7 (.I (-1)) rfl<|dk<|a0b<|?_;obtain rfl:=os hf;exact y7 ⟨tr,tr⟩ rfl .r

/- slices.ContainsFunc[[]impl.Mut,impl.Mut] -/
def e5a:a0s :=
 (.seq (.reg (tm 4 (.c (.bool false)) .done))
 (.seq (.reg (tm 5 (.t 0) (tm 6 (.t 1) (tq 7 (.call 347 [(.t 5),(.t 6)]) (tq 8 (.bin .geq (.t 7) (.c (.int .i64 0))) (tm 4 (.t 8) .done))))))
 .ret))
theorem e5b:a1e Tryz.prog Tryz.f242 = some (e5a.erase,[.mov (.t 4)],9):=by kernel_rfl
def a3a (A:(List a5i)) (B:(a5i → Option Bool)):Option Bool :=
    (a3p A B).bind fun D =>
    some (decide (D ≥ 0))
theorem b0d (A:(List a5i)) (B:(a5i → Option Bool)) (r:Bool) (hf:a3a A B = some r) (kf_f_2:Nat) (cf_f_2:List AV) (okf_f_2:b6u Tryz.prog kf_f_2 = true) (hcf_f_2:∀ h p,a3k h p cf_f_2 = some cf_f_2) (hrf_f_2:∀ f,a8a f cf_f_2 = cf_f_2) (hpf_f_2:∀ a0 r,B a0 = some r → a0a Tryz.prog kf_f_2 .flat ([(a0o a0)] ++ cf_f_2) (.bool r)):a0a Tryz.prog 242 .flat [(.lst 3 (A.map a0o)),(.fn kf_f_2 cf_f_2)] (.bool r):=by
 refine a0a.of_awp mixed Tryz.func242 e5b nle ?_;rw [a0n];unfold a3a at hf;unfold e5a;refine (show awp Tryz.prog false 0 _ (ofL [(0,(.lst 3 (A.map a0o))),(1,(.fn kf_f_2 cf_f_2))]) [] _ from ?_);refine sr<|l7 (.bool false) rfl<|dk<|sr<|?_
 obtain ⟨D,er4,hf⟩:=ob hf
 refine l7 (.lst 3 (A.map a0o)) rfl<|l7 (.fn kf_f_2 cf_f_2) rfl<|x8 (a0j (b0z _ _ _ er4 kf_f_2 cf_f_2 okf_f_2 hcf_f_2 hrf_f_2 hpf_f_2) (a7r rfl (a7r (b7n hcf_f_2) rfl)) .r rfl)<|o8 (.bool (decide (D ≥ 0))) rfl rfl rfl<|l7 (.bool (decide (D ≥ 0))) rfl<|dk<|a0b<|?_;obtain rfl:=os hf;exact y7 ⟨tr,tr⟩ rfl .r

/- impl.mutOK -/
def e5c:a0s :=
 (.seq (.reg (tq 1 (.box 3 (.t 0)) (tm 2 (.c (.bool false)) .done)))
 (.seq (.reg (tq 3 (.faddr 1 (.t 1)) (tq 4 (.load 1 false (.t 3)) (tq 5 (.call 114 [(.t 4),(.c (.int .i64 1)),(.c (.int .i64 7))]) (tm 6 (.t 5) (tg 7 6 true (.faddr 2 (.t 1)) (tg 8 6 true (.load 1 false (.t 7)) (tg 9 6 true (.call 168 [(.t 8)]) (tq 10 (.pick (.t 6) (.t 9) (.c (.bool false))) (tm 11 (.t 10) (tg 12 11 true (.faddr 0 (.t 1)) (tg 13 11 true (.load 1 false (.t 12)) (tg 14 11 true (.bslice 1 [(.t 13)]) (tg 15 11 true (.call 110 [(.t 14)]) (tq 16 (.pick (.t 11) (.t 15) (.c (.bool false))) (tm 2 (.t 16) .done))))))))))))))))
 .ret))
theorem e5d:a1e Tryz.prog Tryz.f135 = some (e5c.erase,[.mov (.t 2)],17):=by kernel_rfl
def b4x (A:a5i):Option Bool :=
    (a3t A.Func 1 7).bind fun E =>
    if E then
    (a8q A.Value).bind fun B =>
    if B then
    (a7e [A.Column]).bind fun D =>
    some D
    else
    some false
    else
    some false
theorem c9g (A:a5i) (r:Bool) (hf:b4x A = some r):a0a Tryz.prog 135 .flat [(a0o A)] (.bool r):=by
 refine a0a.of_awp mixed Tryz.func135 e5d nle ?_;rw [a0n];unfold b4x at hf;unfold e5c;refine (show awp Tryz.prog false 0 _ (ofL [(0,(a0o A))]) [] _ from ?_);refine sr<|x8 (a1j (j:=0) (c:=(.agg [(.str A.Column),(.I A.Func),(.lst 3 (A.Value.map l9))])) rfl tr rfl rfl)<|l7 (.bool false) rfl<|dk<|sr<|o8 (.ptr 0 0 1) rfl tr rfl<|o8 (.I A.Func) rfl nle rfl<|?_
 obtain ⟨E,er3,hf⟩:=ob hf
 refine x8 (a0j (a3x _ _ _ _ er3) rfl .r rfl)<|l7 (.bool E) rfl<|?_
 rcases oi hf with ⟨c4,hf⟩ | ⟨c4,hf⟩
 ·refine a0i (s:=6) (b:=true) rfl c4<|s_on rfl<|o8 (.ptr 0 0 2) rfl tr rfl<|s_on rfl<|o8 (.lst 3 (A.Value.map l9)) rfl nle rfl<|s_on rfl<|?_
  obtain ⟨B,er6,hf⟩:=ob hf
  refine x8 (a0j (b2o _ _ er6) rfl .r rfl)<|o8 (.bool B) rfl tr rfl<|l7 (.bool B) rfl<|?_
  rcases oi hf with ⟨c7,hf⟩ | ⟨c7,hf⟩
  ·refine a0i (s:=11) (b:=true) rfl c7<|s_on rfl<|o8 (.ptr 0 0 0) rfl tr rfl<|s_on rfl<|o8 (.str A.Column) rfl nle rfl<|s_on rfl<|?_;refine x8 (a0t (j:=1) (as':=[(.str A.Column)]) rfl (fun _ => by decide) ⟨rfl,tr⟩ .r rfl rfl rfl) ?_;refine s_on rfl ?_
   obtain ⟨D,er9,hf⟩:=ob hf
   refine x8 (a0j (a9t _ _ er9) rfl (.cons (.of_eq (congrArg (AV.lst _) (by rfl))) .nil) rfl)<|o8 (.bool D) rfl tr rfl<|l7 (.bool D) rfl<|dk<|a0b<|?_;obtain rfl:=os hf;exact y7 ⟨tr,tr⟩ rfl .r
  ·refine a0i (s:=11) (b:=false) rfl (bf c7)<|o6 rfl rfl<|o6 rfl rfl<|o6 rfl rfl<|o6 rfl rfl<|o8 (.bool false) rfl tr rfl<|l7 (.bool false) rfl<|dk<|a0b<|?_;obtain rfl:=os hf;exact y7 ⟨tr,tr⟩ rfl .r
 ·refine a0i (s:=6) (b:=false) rfl (bf c4)<|o6 rfl rfl<|o6 rfl rfl<|o6 rfl rfl<|o8 (.bool false) rfl tr rfl<|l7 (.bool false) rfl<|o6 rfl rfl<|o6 rfl rfl<|o6 rfl rfl<|o6 rfl rfl<|o8 (.bool false) rfl tr rfl<|l7 (.bool false) rfl<|dk<|a0b<|?_;obtain rfl:=os hf;exact y7 ⟨tr,tr⟩ rfl .r

/- impl.mutsOK$1 -/
def e5e:a0s :=
 (.seq (.reg (tq 1 (.box 3 (.t 0)) (tm 2 (.c (.bool false)) .done)))
 (.seq (.reg (tq 3 (.load 3 true (.t 1)) (tq 4 (.call 135 [(.t 3)]) (tq 5 (.not (.t 4)) (tm 2 (.t 5) .done)))))
 .ret))
theorem e5f:a1e Tryz.prog Tryz.f243 = some (e5e.erase,[.mov (.t 2)],6):=by kernel_rfl
def b3o (A:a5i):Option Bool :=
    (b4x A).bind fun B =>
    some (!B)
theorem c2x (A:a5i) (r:Bool) (hf:b3o A = some r):a0a Tryz.prog 243 .flat [(a0o A)] (.bool r):=by
  refine a0a.of_awp mixed Tryz.func243 e5f nle ?_
  rw [a0n]
  unfold b3o at hf
  unfold e5e
  refine (show awp Tryz.prog false 0 _ (ofL [(0,(a0o A))]) [] _ from ?_)
  refine o7 ?_
  refine a0r ?_
  refine x8 (a1j (j:=0) (c:=(.agg [(.str A.Column),(.I A.Func),(.lst 3 (A.Value.map l9))])) rfl tr rfl rfl) ?_
  refine x8 (a2w (.bool false) rfl) ?_
  refine y5 ?_
  refine a0m ?_
  refine o7 ?_
  refine a0r ?_
  obtain ⟨B,er3,hf⟩:=ob hf
  refine x8 (o_q (.agg [(.str A.Column),(.I A.Func),(.lst 3 (A.Value.map l9))]) rfl nle rfl) ?_
  refine x8 (a0j (c9g _ _ er3) rfl .r rfl) ?_
  refine x8 (o_q (.bool (!B)) rfl tr rfl) ?_
  refine x8 (a2w (.bool (!B)) rfl) ?_
  refine y5 ?_
  refine a0m ?_
  refine a0b ?_
  obtain rfl:=os hf
  exact y7 ⟨tr,tr⟩ rfl .r

/- impl.mutsOK -/
def d5f:a0s :=
 (.seq (.reg (tm 2 (.c (.bool false)) .done))
 (.seq (.reg (tm 3 (.t 0) (tq 4 (.len (.t 3)) (tq 5 (.bin .leq (.t 4) (.c (.int .i64 8))) (tm 6 (.t 5) (tg 7 6 true (.mov (.t 0)) (tg 8 6 true (.call 242 [(.t 7),(.c (.fn 243 []))]) (tg 9 6 true (.not (.t 8)) (tq 10 (.pick (.t 6) (.t 9) (.c (.bool false))) (tm 2 (.t 10) .done))))))))))
 .ret))
theorem e5g:a1e Tryz.prog Tryz.f112 = some (d5f.erase,[.mov (.t 2)],11):=by kernel_rfl
def b3x (A:(List a5i)):Option Bool :=
    if (decide ((A.length:Int) ≤ 8)) then
    (a3a A b3o).bind fun B =>
    some (!B)
    else
    some false
theorem c6n (A:(List a5i)) (r:Bool) (hf:b3x A = some r):a0a Tryz.prog 112 .flat [(.lst 3 (A.map a0o))] (.bool r):=by
 refine a0a.of_awp mixed Tryz.func112 e5g nle ?_;rw [a0n];unfold b3x at hf;unfold d5f;refine (show awp Tryz.prog false 0 _ (ofL [(0,(.lst 3 (A.map a0o)))]) [] _ from ?_);refine sr<|l7 (.bool false) rfl<|dk<|sr<|?_
 rcases oi hf with ⟨c3,hf⟩ | ⟨c3,hf⟩
 ·obtain ⟨B,er5,hf⟩:=ob hf
  refine l7 (.lst 3 (A.map a0o)) rfl<|a1i (a1p (enc:=a0o) rfl) fun hl2 => o8 (.bool (decide ((A.length:Int) ≤ 8))) rfl rfl rfl<|l7 (.bool (decide ((A.length:Int) ≤ 8))) rfl<|a0i (s:=6) (b:=true) rfl c3<|s_on rfl<|l7 (.lst 3 (A.map a0o)) rfl<|s_on rfl<|?_;refine x8 (a0j (b0d _ _ _ er5 243 [] (by kernel_rfl) (fun _ _ => rfl) (fun _ => rfl) (fun a0 r h => c2x a0 r h)) rfl .r rfl) ?_;refine s_on rfl<|o8 (.bool (!B)) rfl tr rfl<|o8 (.bool (!B)) rfl tr rfl<|l7 (.bool (!B)) rfl<|dk<|a0b<|?_;obtain rfl:=os hf;exact y7 ⟨tr,tr⟩ rfl .r
 ·refine l7 (.lst 3 (A.map a0o)) rfl<|a1i (a1p (enc:=a0o) rfl) fun hl2 => o8 (.bool (decide ((A.length:Int) ≤ 8))) rfl rfl rfl<|l7 (.bool (decide ((A.length:Int) ≤ 8))) rfl<|a0i (s:=6) (b:=false) rfl (bf c3)<|o6 rfl rfl<|o6 rfl rfl<|o6 rfl rfl<|o8 (.bool false) rfl tr rfl<|l7 (.bool false) rfl<|dk<|a0b<|?_;obtain rfl:=os hf;exact y7 ⟨tr,tr⟩ rfl .r

/- slices.IndexFunc[[]impl.Set,impl.Set] -/
def d5g:a0s :=
 (.seq (.reg (tm 4 (.c (.int .i64 0)) .done))
 (.seq (.seq (.reg (tm 6 (.t 0) (tq 7 (.len (.t 6)) (tm 8 (.c (.int .i64 0)) .done))))
 (.block 0 (.loop (.seq (.reg (tq 9 (.bin .lss (.t 8) (.t 7)) .done))
 (.seq (.cond (.t 9) .skip
 (.exit 0))
 (.seq (.block 1 (.seq (.reg (tm 10 (.t 8) (tm 5 (.t 10) .done)))
 (.seq (.reg (tm 11 (.t 1) (tm 12 (.t 0) (tm 13 (.t 5) (tq 14 (.iaddr 3 (.t 12) (.t 13)) (tq 15 (.load 3 true (.t 14)) (tq 16 (.calv (.t 11) [(.t 15)]) .done)))))))
 (.cond (.t 16) (.seq (.reg (tm 17 (.t 5) (tm 4 (.t 17) .done)))
 .ret)
 .skip))))
 (.reg (tq 18 (.bin .add (.t 8) (.c (.int .i64 1))) (tm 8 (.t 18) .done)))))))))
 (.cut (.seq (.reg (tq 4 (.mov (.c (.int .i64 (-1)))) .done))
 .ret))))
theorem e5h:a1e Tryz.prog Tryz.f348 = some (d5g.erase,[.mov (.t 4)],19):=by kernel_rfl
def a1m (D:(a3l → Option Bool)):List a3l → Nat → Option (Fl Int Unit)
  | [],A =>
    some (.go ())
  | E :: xs,A =>
    (D E).bind fun F =>
    if F then
    some (.ret (A:Int))
    else
    a1m D xs (A + 1)

def a3q (B:(List a3l)) (D:(a3l → Option Bool)):Option Int :=
    (a1m D B 0).bind fun q => (match q with
    | .ret r => some r
    | .go _ =>
    some (-1))
theorem b1a (B:(List a3l)) (D:(a3l → Option Bool)) (r:Int) (hf:a3q B D = some r) (kf_f_2:Nat) (cf_f_2:List AV) (okf_f_2:b6u Tryz.prog kf_f_2 = true) (hcf_f_2:∀ h p,a3k h p cf_f_2 = some cf_f_2) (hrf_f_2:∀ f,a8a f cf_f_2 = cf_f_2) (hpf_f_2:∀ a0 r,D a0 = some r → a0a Tryz.prog kf_f_2 .flat ([(a0f a0)] ++ cf_f_2) (.bool r)):a0a Tryz.prog 348 .flat [(.lst 3 (B.map a0f)),(.fn kf_f_2 cf_f_2)] (.I r):=by
 refine a0a.of_awp mixed Tryz.func348 e5h nle ?_;rw [a0n];unfold a3q at hf;unfold d5g;refine (show awp Tryz.prog false 0 _ (ofL [(0,(.lst 3 (B.map a0f))),(1,(.fn kf_f_2 cf_f_2))]) [] _ from ?_);refine sr<|l7 (.I 0) rfl<|dk<|o7<|sr<|l7 (.lst 3 (B.map a0f)) rfl<|a1i (a1p (enc:=a0f) rfl) fun hl3 => l7 (.I 0) rfl<|dk<|?_
 obtain ⟨p24,hb1,hf⟩:=ob hf
 refine a2c (X:={q:Unit // p24 = .go q}) (fun q => ([],[])) ?_ ?_
 ·refine a1v (X:={q:Nat // a1m D (B.drop q) q = some p24}) (fun q => ([(0,(.lst 3 (B.map a0f))),(1,(.fn kf_f_2 cf_f_2)),(7,(.I (B.length:Int))),(8,(.I (q.1:Int)))],[])) (fun q => B.length - q.1) ⟨0,hb1⟩ ⟨[],[],_,_,rfl,rfl,⟨.r,⟨.of_eq (congrArg (AV.fn _) (hrf_f_2 _)),⟨.r,⟨.r,tr⟩⟩⟩⟩,.r⟩ ?_
  rintro ⟨A,hc1⟩
  have hc1:a1m D (B.drop A) A = some p24:=hc1
  refine (show awp Tryz.prog false 0 _ (ofL [(0,(.lst 3 (B.map a0f))),(1,(.fn kf_f_2 cf_f_2)),(7,(.I (B.length:Int))),(8,(.I (A:Int)))]) [] _ from ?_)
  rcases a6c B A with ⟨hie27,hd30⟩ | ⟨hlt25,E,hx26,hd30⟩
  ·rw [hd30,a1m.eq_1] at hc1
   have hq29:=dlf hie27
   refine sr<|o8 (.bool (decide ((A:Int) < (B.length:Int)))) rfl rfl rfl<|dk<|o7<|y9 rfl hq29<|a3i<|a3h<|a2e<|a3g<|?_;obtain rfl:=os hc1;exact a4b ⟨_,rfl⟩ ⟨[],[],_,_,rfl,rfl,tr,.r⟩
  ·rw [hd30,a1m.eq_2] at hc1
   have hq29:=dlt hlt25
   refine sr<|o8 (.bool (decide ((A:Int) < (B.length:Int)))) rfl rfl rfl<|dk<|o7<|y8 rfl hq29<|a0k<|a0m<|o7<|a3y<|sr<|l7 (.I (A:Int)) rfl<|l7 (.I (A:Int)) rfl<|dk<|sr<|?_
   obtain ⟨F,er33,hc1⟩:=ob hc1
   refine l7 (.fn kf_f_2 cf_f_2) rfl<|l7 (.lst 3 (B.map a0f)) rfl<|l7 (.I (A:Int)) rfl<|x8 (a1o (enc:=a0f) rfl rfl hx26)<|o8 (a0f E) rfl nle rfl<|x8 (b5p (v:=(.bool F)) rfl okf_f_2 hcf_f_2 (hpf_f_2 _ _ er33) rfl .r rfl)<|dk<|?_
   rcases oi hc1 with ⟨c34,hc1⟩ | ⟨c34,hc1⟩
   ·refine y8 rfl c34<|sr<|l7 (.I (A:Int)) rfl<|l7 (.I (A:Int)) rfl<|dk<|a0b<|?_;obtain rfl:=os hc1;obtain rfl:=os hf;exact y7 ⟨tr,tr⟩ rfl .r
   ·refine y9 rfl (bf c34)<|a0k<|a2y<|a0m<|a0r<|o8 (.I (w64 ((A:Int) + 1))) rfl rfl rfl<|l7 (.I (w64 ((A:Int) + 1))) rfl<|y5<|?_;exact a1z ⟨(A + 1),hc1⟩ (mul hlt25) ⟨[],[],_,_,rfl,rfl,⟨.r,⟨.of_eq (congrArg (AV.fn _) (hrf_f_2 _)),⟨.r,⟨.of_eq (congrArg (AV.int _) (a1x hlt25 hl3)),tr⟩⟩⟩⟩,.r⟩
 ·rintro ⟨_,rfl⟩
  refine sr<|l7 (.I (-1)) rfl<|dk<|a0b<|?_;obtain rfl:=os hf;exact y7 ⟨tr,tr⟩ rfl .r

/- slices.ContainsFunc[[]impl.Set,impl.Set] -/
def e5i:a0s :=
 (.seq (.reg (tm 4 (.c (.bool false)) .done))
 (.seq (.reg (tm 5 (.t 0) (tm 6 (.t 1) (tq 7 (.call 348 [(.t 5),(.t 6)]) (tq 8 (.bin .geq (.t 7) (.c (.int .i64 0))) (tm 4 (.t 8) .done))))))
 .ret))
theorem e5j:a1e Tryz.prog Tryz.f244 = some (e5i.erase,[.mov (.t 4)],9):=by kernel_rfl
def a2i (A:(List a3l)) (B:(a3l → Option Bool)):Option Bool :=
    (a3q A B).bind fun D =>
    some (decide (D ≥ 0))
theorem a6z (A:(List a3l)) (B:(a3l → Option Bool)) (r:Bool) (hf:a2i A B = some r) (kf_f_2:Nat) (cf_f_2:List AV) (okf_f_2:b6u Tryz.prog kf_f_2 = true) (hcf_f_2:∀ h p,a3k h p cf_f_2 = some cf_f_2) (hrf_f_2:∀ f,a8a f cf_f_2 = cf_f_2) (hpf_f_2:∀ a0 r,B a0 = some r → a0a Tryz.prog kf_f_2 .flat ([(a0f a0)] ++ cf_f_2) (.bool r)):a0a Tryz.prog 244 .flat [(.lst 3 (A.map a0f)),(.fn kf_f_2 cf_f_2)] (.bool r):=by
 refine a0a.of_awp mixed Tryz.func244 e5j nle ?_;rw [a0n];unfold a2i at hf;unfold e5i;refine (show awp Tryz.prog false 0 _ (ofL [(0,(.lst 3 (A.map a0f))),(1,(.fn kf_f_2 cf_f_2))]) [] _ from ?_);refine sr<|l7 (.bool false) rfl<|dk<|sr<|?_
 obtain ⟨D,er4,hf⟩:=ob hf
 refine l7 (.lst 3 (A.map a0f)) rfl<|l7 (.fn kf_f_2 cf_f_2) rfl<|x8 (a0j (b1a _ _ _ er4 kf_f_2 cf_f_2 okf_f_2 hcf_f_2 hrf_f_2 hpf_f_2) (a7r rfl (a7r (b7n hcf_f_2) rfl)) .r rfl)<|o8 (.bool (decide (D ≥ 0))) rfl rfl rfl<|l7 (.bool (decide (D ≥ 0))) rfl<|dk<|a0b<|?_;obtain rfl:=os hf;exact y7 ⟨tr,tr⟩ rfl .r

/- impl.setOK$1 -/
def e5k:a0s :=
 (.seq (.reg (tm 2 (.c (.bool false)) .done))
 (.seq (.reg (tm 3 (.t 0) (tq 4 (.call 117 [(.t 3)]) (tq 5 (.not (.t 4)) (tm 2 (.t 5) .done)))))
 .ret))
theorem e5l:a1e Tryz.prog Tryz.f349 = some (e5k.erase,[.mov (.t 2)],6):=by kernel_rfl
def b4m (A:Str):Option Bool :=
    (a7i A).bind fun B =>
    some (!B)
theorem c5c (A:Str) (r:Bool) (hf:b4m A = some r):a0a Tryz.prog 349 .flat [(.str A)] (.bool r):=by
  refine a0a.of_awp mixed Tryz.func349 e5l nle ?_
  rw [a0n]
  unfold b4m at hf
  unfold e5k
  refine (show awp Tryz.prog false 0 _ (ofL [(0,(.str A))]) [] _ from ?_)
  refine o7 ?_
  refine a0r ?_
  refine x8 (a2w (.bool false) rfl) ?_
  refine y5 ?_
  refine a0m ?_
  refine o7 ?_
  refine a0r ?_
  obtain ⟨B,er3,hf⟩:=ob hf
  refine x8 (a2w (.str A) rfl) ?_
  refine x8 (a0j (a8t _ _ er3) rfl .r rfl) ?_
  refine x8 (o_q (.bool (!B)) rfl tr rfl) ?_
  refine x8 (a2w (.bool (!B)) rfl) ?_
  refine y5 ?_
  refine a0m ?_
  refine a0b ?_
  obtain rfl:=os hf
  exact y7 ⟨tr,tr⟩ rfl .r

/- impl.setOK -/
def e5m:a0s :=
 (.seq (.reg (tq 1 (.box 3 (.t 0)) (tm 2 (.c (.bool false)) .done)))
 (.seq (.seq (.reg (tq 3 (.faddr 0 (.t 1)) (tq 4 (.load 1 false (.t 3)) (tq 5 (.bslice 1 [(.t 4)]) (tq 6 (.call 110 [(.t 5)]) (tq 7 (.not (.t 6)) (tm 8 (.t 7) (tg 9 8 false (.faddr 1 (.t 1)) (tg 10 8 false (.load 1 false (.t 9)) (tg 11 8 false (.call 168 [(.t 10)]) (tg 12 8 false (.not (.t 11)) (tq 13 (.pick (.t 8) (.c (.bool true)) (.t 12)) (tm 14 (.t 13) (tg 15 14 false (.faddr 1 (.t 1)) (tg 16 14 false (.load 1 false (.t 15)) (tg 17 14 false (.len (.t 16)) (tg 18 14 false (.bin .gtr (.t 17) (.c (.int .i64 0))) (tg 19 14 false (.mov (.t 18)) (tg 20 19 true (.faddr 2 (.t 1)) (tg 21 19 true (.load 1 false (.t 20)) (tg 22 19 true (.len (.t 21)) (tg 23 19 true (.bin .gtr (.t 22) (.c (.int .i64 0))) (tg 24 14 false (.pick (.t 19) (.t 23) (.c (.bool false))) (tq 25 (.pick (.t 14) (.c (.bool true)) (.t 24)) (tm 26 (.t 25) (tg 27 26 false (.faddr 2 (.t 1)) (tg 28 26 false (.load 1 false (.t 27)) (tg 29 26 false (.len (.t 28)) (tg 30 26 false (.bin .gtr (.t 29) (.c (.int .i64 8))) (tq 31 (.pick (.t 26) (.c (.bool true)) (.t 30)) .done))))))))))))))))))))))))))))))
 (.cut (.cond (.t 31) (.seq (.reg (tm 2 (.c (.bool false)) .done))
 .ret)
 .skip)))
 (.seq (.reg (tq 32 (.faddr 2 (.t 1)) (tq 33 (.load 1 false (.t 32)) (tq 34 (.call 115 [(.t 33),(.c (.fn 349 []))]) (tq 35 (.not (.t 34)) (tm 2 (.t 35) .done))))))
 .ret)))
theorem e5n:a1e Tryz.prog Tryz.f246 = some (e5m.erase,[.mov (.t 2)],36):=by kernel_rfl
def b4y (A:a3l):Option Bool :=
    (((a7e [A.Column]).bind fun E =>
    if (!E) then
    some true
    else
    (a8q A.Value).bind fun B =>
    some (bif (bif (!B) then true else (bif (decide ((A.Value.length:Int) > 0)) then (decide ((A.Names.length:Int) > 0)) else false)) then true else (decide ((A.Names.length:Int) > 8))):Option Bool)).bind fun D =>
    if D then
    some false
    else
    (a2g A.Names b4m).bind fun F =>
    some (!F)
theorem c9h (A:a3l) (r:Bool) (hf:b4y A = some r):a0a Tryz.prog 246 .flat [(a0f A)] (.bool r):=by
 refine a0a.of_awp mixed Tryz.func246 e5n nle ?_;rw [a0n];unfold b4y at hf;unfold e5m;refine (show awp Tryz.prog false 0 _ (ofL [(0,(a0f A))]) [] _ from ?_);refine sr<|x8 (a1j (j:=0) (c:=(.agg [(.str A.Column),(.lst 3 (A.Value.map l9)),(.lst 1 (A.Names.map AV.str))])) rfl tr rfl rfl)<|l7 (.bool false) rfl<|dk<|o7<|o7<|?_
 obtain ⟨D,hb1,hf⟩:=ob hf
 refine a1k ([(1,(.ptr 0 0 0)),(31,(.bool D))],[.box 3 (.agg [(.str A.Column),(.lst 3 (A.Value.map l9)),(.lst 1 (A.Names.map AV.str))])]) ?_ ?_
 ·refine a0r<|o8 (.ptr 0 0 0) rfl tr rfl<|o8 (.str A.Column) rfl nle rfl<|?_;refine x8 (a0t (j:=1) (as':=[(.str A.Column)]) rfl (fun _ => by decide) ⟨rfl,tr⟩ .r rfl rfl rfl) ?_
  obtain ⟨E,er13,hb1⟩:=ob hb1
  refine x8 (a0j (a9t _ _ er13) rfl (.cons (.of_eq (congrArg (AV.lst _) (by rfl))) .nil) rfl)<|o8 (.bool (!E)) rfl tr rfl<|l7 (.bool (!E)) rfl<|?_
  rcases oi hb1 with ⟨c14,hb1⟩ | ⟨c14,hb1⟩
  ·refine a0i (s:=8) (b:=true) rfl c14<|o6 rfl rfl<|o6 rfl rfl<|o6 rfl rfl<|o6 rfl rfl<|o8 (.bool true) rfl tr rfl<|l7 (.bool true) rfl<|o6 rfl rfl<|o6 rfl rfl<|o6 rfl rfl<|o6 rfl rfl<|o6 rfl rfl<|a0x rfl<|a0x rfl<|a0x rfl<|a0x rfl<|o6 rfl rfl<|o8 (.bool true) rfl tr rfl<|l7 (.bool true) rfl<|o6 rfl rfl<|o6 rfl rfl<|o6 rfl rfl<|o6 rfl rfl<|o8 (.bool true) rfl tr rfl<|y5<|?_;obtain rfl:=os hb1;exact ⟨[],[0],_,_,rfl,rfl,⟨.r,⟨.r,tr⟩⟩,.r⟩
  ·refine a0i (s:=8) (b:=false) rfl (bf c14)<|s_on rfl<|o8 (.ptr 0 0 1) rfl tr rfl<|s_on rfl<|o8 (.lst 3 (A.Value.map l9)) rfl nle rfl<|s_on rfl<|?_
   obtain ⟨B,er16,hb1⟩:=ob hb1
   refine x8 (a0j (b2o _ _ er16) rfl .r rfl)<|s_on rfl<|o8 (.bool (!B)) rfl tr rfl<|o8 (.bool (!B)) rfl tr rfl<|l7 (.bool (!B)) rfl<|?_;refine s_g (v:=(!B)) (.ptr 0 0 1) rfl (fun hv => by (try simp only [o9 hv]);exact ⟨rfl,tr,rfl⟩) ?_;refine s_g (v:=(!B)) (.lst 3 (A.Value.map l9)) rfl (fun hv => by (try simp only [o9 hv]);exact ⟨rfl,nle,rfl⟩) ?_;refine s_g (v:=(!B)) (.I (A.Value.length:Int)) rfl (fun hv => by (try simp only [o9 hv]);exact ⟨rfl,tr,lenV _ _⟩) ?_;refine s_g (v:=(!B)) (.bool (decide ((A.Value.length:Int) > 0))) rfl (fun hv => by (try simp only [o9 hv]);exact ⟨rfl,rfl,rfl⟩) ?_
   refine s_g (v:=(!B)) (.bool (decide ((A.Value.length:Int) > 0))) rfl (fun hv => by (try simp only [o9 hv]);exact ⟨rfl,tr,rfl⟩) ?_;refine a7t (v1:=(!B)) (b1:=false) (v2:=(decide ((A.Value.length:Int) > 0))) (.ptr 0 0 2) rfl (fun hv hw => by (try simp only [o9 hv,o9 hw]);exact ⟨rfl,tr,rfl⟩) ?_;refine a7t (v1:=(!B)) (b1:=false) (v2:=(decide ((A.Value.length:Int) > 0))) (.lst 1 (A.Names.map AV.str)) rfl (fun hv hw => by (try simp only [o9 hv,o9 hw]);exact ⟨rfl,nle,rfl⟩) ?_;refine a7t (v1:=(!B)) (b1:=false) (v2:=(decide ((A.Value.length:Int) > 0))) (.I (A.Names.length:Int)) rfl (fun hv hw => by (try simp only [o9 hv,o9 hw]);exact ⟨rfl,tr,lenV _ _⟩) ?_
   refine a7t (v1:=(!B)) (b1:=false) (v2:=(decide ((A.Value.length:Int) > 0))) (.bool (decide ((A.Names.length:Int) > 0))) rfl (fun hv hw => by (try simp only [o9 hv,o9 hw]);exact ⟨rfl,rfl,rfl⟩) ?_;refine c0q (v1:=(!B)) (b1:=false) (v2:=(decide ((A.Value.length:Int) > 0))) (x:=(decide ((A.Names.length:Int) > 0))) (y:=false) rfl (fun hv => by (try simp only [o9 hv]);rfl) (fun hv hw => by (try simp only [o9 hv,o9 hw]);rfl) (fun hv hw => by (try simp only [o9 hv,o9 hw]);rfl) ?_;refine a2a (x:=true) (y:=(bif (decide ((A.Value.length:Int) > 0)) then (decide ((A.Names.length:Int) > 0)) else false)) rfl (fun hv => by (try simp only [o9 hv]);rfl) (fun hv => by (try simp only [o9 hv]);rfl) ?_
   refine l7 (.bool (bif (!B) then true else (bif (decide ((A.Value.length:Int) > 0)) then (decide ((A.Names.length:Int) > 0)) else false))) rfl ?_;refine s_g (v:=(bif (!B) then true else (bif (decide ((A.Value.length:Int) > 0)) then (decide ((A.Names.length:Int) > 0)) else false))) (.ptr 0 0 2) rfl (fun hv => by (try simp only [o9 hv]);exact ⟨rfl,tr,rfl⟩) ?_;refine s_g (v:=(bif (!B) then true else (bif (decide ((A.Value.length:Int) > 0)) then (decide ((A.Names.length:Int) > 0)) else false))) (.lst 1 (A.Names.map AV.str)) rfl (fun hv => by (try simp only [o9 hv]);exact ⟨rfl,nle,rfl⟩) ?_;refine s_g (v:=(bif (!B) then true else (bif (decide ((A.Value.length:Int) > 0)) then (decide ((A.Names.length:Int) > 0)) else false))) (.I (A.Names.length:Int)) rfl (fun hv => by (try simp only [o9 hv]);exact ⟨rfl,tr,lenV _ _⟩) ?_
   refine s_g (v:=(bif (!B) then true else (bif (decide ((A.Value.length:Int) > 0)) then (decide ((A.Names.length:Int) > 0)) else false))) (.bool (decide ((A.Names.length:Int) > 8))) rfl (fun hv => by (try simp only [o9 hv]);exact ⟨rfl,rfl,rfl⟩) ?_;refine a2a (x:=true) (y:=(decide ((A.Names.length:Int) > 8))) rfl (fun hv => by (try simp only [o9 hv]);rfl) (fun hv => by (try simp only [o9 hv]);rfl) ?_;refine y5 ?_;obtain rfl:=os hb1;exact ⟨[],[0],_,_,rfl,rfl,⟨.r,⟨.r,tr⟩⟩,.r⟩
 ·rcases oi hf with ⟨c20,hf⟩ | ⟨c20,hf⟩
  ·refine y8 rfl c20<|sr<|l7 (.bool false) rfl<|dk<|a0b<|?_;obtain rfl:=os hf;exact y7 ⟨tr,tr⟩ rfl .r
  ·refine y9 rfl (bf c20)<|a0k<|a0m<|sr<|?_
   obtain ⟨F,er22,hf⟩:=ob hf
   refine o8 (.ptr 0 0 2) rfl tr rfl<|o8 (.lst 1 (A.Names.map AV.str)) rfl nle rfl<|?_;refine x8 (a0j (a5n _ _ _ er22 349 [] (by kernel_rfl) (fun _ _ => rfl) (fun _ => rfl) (fun a0 r h => c5c a0 r h)) rfl .r rfl) ?_;refine o8 (.bool (!F)) rfl tr rfl<|l7 (.bool (!F)) rfl<|dk<|a0b<|?_;obtain rfl:=os hf;exact y7 ⟨tr,tr⟩ rfl .r

/- impl.setsOK$1 -/
def e5o:a0s :=
 (.seq (.reg (tq 1 (.box 3 (.t 0)) (tm 2 (.c (.bool false)) .done)))
 (.seq (.reg (tq 3 (.load 3 true (.t 1)) (tq 4 (.call 246 [(.t 3)]) (tq 5 (.not (.t 4)) (tm 2 (.t 5) .done)))))
 .ret))
theorem e5p:a1e Tryz.prog Tryz.f245 = some (e5o.erase,[.mov (.t 2)],6):=by kernel_rfl
def b3p (A:a3l):Option Bool :=
    (b4y A).bind fun B =>
    some (!B)
theorem c2y (A:a3l) (r:Bool) (hf:b3p A = some r):a0a Tryz.prog 245 .flat [(a0f A)] (.bool r):=by
  refine a0a.of_awp mixed Tryz.func245 e5p nle ?_
  rw [a0n]
  unfold b3p at hf
  unfold e5o
  refine (show awp Tryz.prog false 0 _ (ofL [(0,(a0f A))]) [] _ from ?_)
  refine o7 ?_
  refine a0r ?_
  refine x8 (a1j (j:=0) (c:=(.agg [(.str A.Column),(.lst 3 (A.Value.map l9)),(.lst 1 (A.Names.map AV.str))])) rfl tr rfl rfl) ?_
  refine x8 (a2w (.bool false) rfl) ?_
  refine y5 ?_
  refine a0m ?_
  refine o7 ?_
  refine a0r ?_
  obtain ⟨B,er3,hf⟩:=ob hf
  refine x8 (o_q (.agg [(.str A.Column),(.lst 3 (A.Value.map l9)),(.lst 1 (A.Names.map AV.str))]) rfl nle rfl) ?_
  refine x8 (a0j (c9h _ _ er3) rfl .r rfl) ?_
  refine x8 (o_q (.bool (!B)) rfl tr rfl) ?_
  refine x8 (a2w (.bool (!B)) rfl) ?_
  refine y5 ?_
  refine a0m ?_
  refine a0b ?_
  obtain rfl:=os hf
  exact y7 ⟨tr,tr⟩ rfl .r

/- impl.setsOK -/
def d5h:a0s :=
 (.seq (.reg (tm 2 (.c (.bool false)) .done))
 (.seq (.reg (tm 3 (.t 0) (tq 4 (.len (.t 3)) (tq 5 (.bin .leq (.t 4) (.c (.int .i64 6))) (tm 6 (.t 5) (tg 7 6 true (.mov (.t 0)) (tg 8 6 true (.call 244 [(.t 7),(.c (.fn 245 []))]) (tg 9 6 true (.not (.t 8)) (tq 10 (.pick (.t 6) (.t 9) (.c (.bool false))) (tm 2 (.t 10) .done))))))))))
 .ret))
theorem e5q:a1e Tryz.prog Tryz.f113 = some (d5h.erase,[.mov (.t 2)],11):=by kernel_rfl
def b3y (A:(List a3l)):Option Bool :=
    if (decide ((A.length:Int) ≤ 6)) then
    (a2i A b3p).bind fun B =>
    some (!B)
    else
    some false
theorem c6o (A:(List a3l)) (r:Bool) (hf:b3y A = some r):a0a Tryz.prog 113 .flat [(.lst 3 (A.map a0f))] (.bool r):=by
 refine a0a.of_awp mixed Tryz.func113 e5q nle ?_;rw [a0n];unfold b3y at hf;unfold d5h;refine (show awp Tryz.prog false 0 _ (ofL [(0,(.lst 3 (A.map a0f)))]) [] _ from ?_);refine sr<|l7 (.bool false) rfl<|dk<|sr<|?_
 rcases oi hf with ⟨c3,hf⟩ | ⟨c3,hf⟩
 ·obtain ⟨B,er5,hf⟩:=ob hf
  refine l7 (.lst 3 (A.map a0f)) rfl<|a1i (a1p (enc:=a0f) rfl) fun hl2 => o8 (.bool (decide ((A.length:Int) ≤ 6))) rfl rfl rfl<|l7 (.bool (decide ((A.length:Int) ≤ 6))) rfl<|a0i (s:=6) (b:=true) rfl c3<|s_on rfl<|l7 (.lst 3 (A.map a0f)) rfl<|s_on rfl<|?_;refine x8 (a0j (a6z _ _ _ er5 245 [] (by kernel_rfl) (fun _ _ => rfl) (fun _ => rfl) (fun a0 r h => c2y a0 r h)) rfl .r rfl) ?_;refine s_on rfl<|o8 (.bool (!B)) rfl tr rfl<|o8 (.bool (!B)) rfl tr rfl<|l7 (.bool (!B)) rfl<|dk<|a0b<|?_;obtain rfl:=os hf;exact y7 ⟨tr,tr⟩ rfl .r
 ·refine l7 (.lst 3 (A.map a0f)) rfl<|a1i (a1p (enc:=a0f) rfl) fun hl2 => o8 (.bool (decide ((A.length:Int) ≤ 6))) rfl rfl rfl<|l7 (.bool (decide ((A.length:Int) ≤ 6))) rfl<|a0i (s:=6) (b:=false) rfl (bf c3)<|o6 rfl rfl<|o6 rfl rfl<|o6 rfl rfl<|o8 (.bool false) rfl tr rfl<|l7 (.bool false) rfl<|dk<|a0b<|?_;obtain rfl:=os hf;exact y7 ⟨tr,tr⟩ rfl .r

/- impl.OpOK -/
def c29:a0s :=
 (.seq (.reg (tq 1 (.box 8 (.t 0)) (tm 2 (.c (.bool false)) .done)))
 (.seq (.reg (tq 3 (.load 8 true (.t 1)) (tq 4 (.call 109 [(.t 3)]) (tm 5 (.t 4) (tg 6 5 true (.faddr 1 (.t 1)) (tg 7 5 true (.load 1 false (.t 6)) (tg 8 5 true (.faddr 2 (.t 1)) (tg 9 5 true (.load 1 false (.t 8)) (tg 10 5 true (.bslice 1 [(.t 7),(.t 9)]) (tg 11 5 true (.call 110 [(.t 10)]) (tq 12 (.pick (.t 5) (.t 11) (.c (.bool false))) (tm 13 (.t 12) (tg 14 13 true (.faddr 6 (.t 1)) (tg 15 13 true (.load 1 false (.t 14)) (tg 16 13 true (.len (.t 15)) (tg 17 13 true (.bin .leq (.t 16) (.c (.int .i64 6))) (tq 18 (.pick (.t 13) (.t 17) (.c (.bool false))) (tm 19 (.t 18) (tg 20 19 true (.faddr 6 (.t 1)) (tg 21 19 true (.load 1 false (.t 20)) (tg 22 19 true (.call 110 [(.t 21)]) (tq 23 (.pick (.t 19) (.t 22) (.c (.bool false))) (tm 24 (.t 23) (tg 25 24 true (.faddr 3 (.t 1)) (tg 26 24 true (.load 1 false (.t 25)) (tg 27 24 true (.call 111 [(.t 26)]) (tq 28 (.pick (.t 24) (.t 27) (.c (.bool false))) (tm 29 (.t 28) (tg 30 29 true (.faddr 5 (.t 1)) (tg 31 29 true (.load 1 false (.t 30)) (tg 32 29 true (.call 112 [(.t 31)]) (tq 33 (.pick (.t 29) (.t 32) (.c (.bool false))) (tm 34 (.t 33) (tg 35 34 true (.faddr 4 (.t 1)) (tg 36 34 true (.load 1 false (.t 35)) (tg 37 34 true (.call 113 [(.t 36)]) (tq 38 (.pick (.t 34) (.t 37) (.c (.bool false))) (tm 2 (.t 38) .done))))))))))))))))))))))))))))))))))))))
 .ret))
theorem e8u:a1e Tryz.prog Tryz.f29 = some (c29.erase,[.mov (.t 2)],39):=by kernel_rfl
def b2e (A:GOp):Option Bool :=
    (a9c A).bind fun H =>
    if H then
    (a7e [A.Table,A.Name]).bind fun B =>
    if (bif B then (decide ((A.Columns.length:Int) ≤ 6)) else false) then
    (a7e A.Columns).bind fun G =>
    if G then
    (b2q A.Where).bind fun D =>
    if D then
    (b3x A.Muts).bind fun E =>
    if E then
    (b3y A.Row).bind fun F =>
    some F
    else
    some false
    else
    some false
    else
    some false
    else
    some false
    else
    some false
theorem b5r (A:GOp) (r:Bool) (hf:b2e A = some r):a0a Tryz.prog 29 .flat [(a2u A)] (.bool r):=by
 refine a0a.of_awp mixed Tryz.func29 e8u nle ?_;rw [a0n];unfold b2e at hf;unfold c29;refine (show awp Tryz.prog false 0 _ (ofL [(0,(a2u A))]) [] _ from ?_);refine sr<|x8 (a1j (j:=0) (c:=(.agg [(.I A.Kind),(.str A.Table),(.str A.Name),(.lst 3 (A.Where.map a0d)),(.lst 3 (A.Row.map a0f)),(.lst 3 (A.Muts.map a0o)),(.lst 1 (A.Columns.map AV.str)),(.bool A.Until)])) rfl tr rfl rfl)<|l7 (.bool false) rfl<|dk<|sr<|o8 (.agg [(.I A.Kind),(.str A.Table),(.str A.Name),(.lst 3 (A.Where.map a0d)),(.lst 3 (A.Row.map a0f)),(.lst 3 (A.Muts.map a0o)),(.lst 1 (A.Columns.map AV.str)),(.bool A.Until)]) rfl nle rfl<|?_
 obtain ⟨H,er3,hf⟩:=ob hf
 refine x8 (a0j (b9v _ _ er3) rfl .r rfl)<|l7 (.bool H) rfl<|?_
 rcases oi hf with ⟨c4,hf⟩ | ⟨c4,hf⟩
 ·refine a0i (s:=5) (b:=true) rfl c4<|s_on rfl<|o8 (.ptr 0 0 1) rfl tr rfl<|s_on rfl<|o8 (.str A.Table) rfl nle rfl<|s_on rfl<|o8 (.ptr 0 0 2) rfl tr rfl<|s_on rfl<|o8 (.str A.Name) rfl nle rfl<|s_on rfl<|?_;refine x8 (a0t (j:=1) (as':=[(.str A.Table),(.str A.Name)]) rfl (fun _ => by decide) ⟨rfl,⟨rfl,tr⟩⟩ .r rfl rfl rfl) ?_;refine s_on rfl ?_
  obtain ⟨B,er6,hf⟩:=ob hf
  refine x8 (a0j (a9t _ _ er6) rfl (.cons (.of_eq (congrArg (AV.lst _) (by rfl))) .nil) rfl)<|o8 (.bool B) rfl tr rfl<|l7 (.bool B) rfl<|?_;refine s_g (v:=B) (.ptr 0 0 6) rfl (fun hv => by (try simp only [o9 hv]);exact ⟨rfl,tr,rfl⟩) ?_;refine s_g (v:=B) (.lst 1 (A.Columns.map AV.str)) rfl (fun hv => by (try simp only [o9 hv]);exact ⟨rfl,nle,rfl⟩) ?_;refine s_g (v:=B) (.I (A.Columns.length:Int)) rfl (fun hv => by (try simp only [o9 hv]);exact ⟨rfl,tr,lenV _ _⟩) ?_;refine s_g (v:=B) (.bool (decide ((A.Columns.length:Int) ≤ 6))) rfl (fun hv => by (try simp only [o9 hv]);exact ⟨rfl,rfl,rfl⟩) ?_;refine a2a (x:=(decide ((A.Columns.length:Int) ≤ 6))) (y:=false) rfl (fun hv => by (try simp only [o9 hv]);rfl) (fun hv => by (try simp only [o9 hv]);rfl) ?_
  refine l7 (.bool (bif B then (decide ((A.Columns.length:Int) ≤ 6)) else false)) rfl ?_
  rcases oi hf with ⟨c8,hf⟩ | ⟨c8,hf⟩
  ·refine a0i (s:=19) (b:=true) rfl c8<|s_on rfl<|o8 (.ptr 0 0 6) rfl tr rfl<|s_on rfl<|o8 (.lst 1 (A.Columns.map AV.str)) rfl nle rfl<|s_on rfl<|?_
   obtain ⟨G,er10,hf⟩:=ob hf
   refine x8 (a0j (a9t _ _ er10) rfl .r rfl)<|o8 (.bool G) rfl tr rfl<|l7 (.bool G) rfl<|?_
   rcases oi hf with ⟨c11,hf⟩ | ⟨c11,hf⟩
   ·refine a0i (s:=24) (b:=true) rfl c11<|s_on rfl<|o8 (.ptr 0 0 3) rfl tr rfl<|s_on rfl<|o8 (.lst 3 (A.Where.map a0d)) rfl nle rfl<|s_on rfl<|?_
    obtain ⟨D,er13,hf⟩:=ob hf
    refine x8 (a0j (c5b _ _ er13) rfl .r rfl)<|o8 (.bool D) rfl tr rfl<|l7 (.bool D) rfl<|?_
    rcases oi hf with ⟨c14,hf⟩ | ⟨c14,hf⟩
    ·refine a0i (s:=29) (b:=true) rfl c14<|s_on rfl<|o8 (.ptr 0 0 5) rfl tr rfl<|s_on rfl<|o8 (.lst 3 (A.Muts.map a0o)) rfl nle rfl<|s_on rfl<|?_
     obtain ⟨E,er16,hf⟩:=ob hf
     refine x8 (a0j (c6n _ _ er16) rfl .r rfl)<|o8 (.bool E) rfl tr rfl<|l7 (.bool E) rfl<|?_
     rcases oi hf with ⟨c17,hf⟩ | ⟨c17,hf⟩
     ·refine a0i (s:=34) (b:=true) rfl c17<|s_on rfl<|o8 (.ptr 0 0 4) rfl tr rfl<|s_on rfl<|o8 (.lst 3 (A.Row.map a0f)) rfl nle rfl<|s_on rfl<|?_
      obtain ⟨F,er19,hf⟩:=ob hf
      refine x8 (a0j (c6o _ _ er19) rfl .r rfl)<|o8 (.bool F) rfl tr rfl<|l7 (.bool F) rfl<|dk<|a0b<|?_;obtain rfl:=os hf;exact y7 ⟨tr,tr⟩ rfl .r
     ·refine a0i (s:=34) (b:=false) rfl (bf c17)<|o6 rfl rfl<|o6 rfl rfl<|o6 rfl rfl<|o8 (.bool false) rfl tr rfl<|l7 (.bool false) rfl<|dk<|a0b<|?_;obtain rfl:=os hf;exact y7 ⟨tr,tr⟩ rfl .r
    ·refine a0i (s:=29) (b:=false) rfl (bf c14)<|o6 rfl rfl<|o6 rfl rfl<|o6 rfl rfl<|o8 (.bool false) rfl tr rfl<|l7 (.bool false) rfl<|o6 rfl rfl<|o6 rfl rfl<|o6 rfl rfl<|o8 (.bool false) rfl tr rfl<|l7 (.bool false) rfl<|dk<|a0b<|?_;obtain rfl:=os hf;exact y7 ⟨tr,tr⟩ rfl .r
   ·refine a0i (s:=24) (b:=false) rfl (bf c11)<|o6 rfl rfl<|o6 rfl rfl<|o6 rfl rfl<|o8 (.bool false) rfl tr rfl<|l7 (.bool false) rfl<|o6 rfl rfl<|o6 rfl rfl<|o6 rfl rfl<|o8 (.bool false) rfl tr rfl<|l7 (.bool false) rfl<|o6 rfl rfl<|o6 rfl rfl<|o6 rfl rfl<|o8 (.bool false) rfl tr rfl<|l7 (.bool false) rfl<|dk<|a0b<|?_;obtain rfl:=os hf;exact y7 ⟨tr,tr⟩ rfl .r
  ·refine a0i (s:=19) (b:=false) rfl (bf c8)<|o6 rfl rfl<|o6 rfl rfl<|o6 rfl rfl<|o8 (.bool false) rfl tr rfl<|l7 (.bool false) rfl<|o6 rfl rfl<|o6 rfl rfl<|o6 rfl rfl<|o8 (.bool false) rfl tr rfl<|l7 (.bool false) rfl<|o6 rfl rfl<|o6 rfl rfl<|o6 rfl rfl<|o8 (.bool false) rfl tr rfl<|l7 (.bool false) rfl<|o6 rfl rfl<|o6 rfl rfl<|o6 rfl rfl<|o8 (.bool false) rfl tr rfl<|l7 (.bool false) rfl<|dk<|a0b<|?_;obtain rfl:=os hf;exact y7 ⟨tr,tr⟩ rfl .r
 ·refine a0i (s:=5) (b:=false) rfl (bf c4)<|o6 rfl rfl<|o6 rfl rfl<|o6 rfl rfl<|o6 rfl rfl<|o6 rfl rfl<|o6 rfl rfl<|o8 (.bool false) rfl tr rfl<|l7 (.bool false) rfl<|o6 rfl rfl<|o6 rfl rfl<|o6 rfl rfl<|o6 rfl rfl<|o8 (.bool false) rfl tr rfl<|l7 (.bool false) rfl<|o6 rfl rfl<|o6 rfl rfl<|o6 rfl rfl<|o8 (.bool false) rfl tr rfl<|l7 (.bool false) rfl<|o6 rfl rfl<|o6 rfl rfl<|o6 rfl rfl<|o8 (.bool false) rfl tr rfl<|l7 (.bool false) rfl<|o6 rfl rfl<|o6 rfl rfl<|o6 rfl rfl<|o8 (.bool false) rfl tr rfl<|l7 (.bool false) rfl<|o6 rfl rfl<|o6 rfl rfl<|?_
  refine o6 rfl rfl<|o8 (.bool false) rfl tr rfl<|l7 (.bool false) rfl<|dk<|a0b<|?_;obtain rfl:=os hf;exact y7 ⟨tr,tr⟩ rfl .r

/- (impl.Table).named -/
def e5r:a0s :=
 (.seq (.reg (tq 2 (.box 4 (.t 0)) (tq 4 (.box 8 (.c (.agg [(.str []),(.int .i64 0),(.int .i64 0),(.int .i64 0),(.int .i64 0),(.int .i64 0),(.str []),(.bool false)]))) (tm 5 (.c (.bool false)) .done))))
 (.seq (.reg (tq 7 (.load 4 true (.t 2)) (tm 8 (.t 1) (tq 9 (.call 254 [(.t 7),(.t 8)]) (tm 6 (.t 9) .done)))))
 (.seq (.block 0 (.seq (.reg (tm 11 (.t 6) (tq 12 (.bin .geq (.t 11) (.c (.int .i64 0))) (tm 10 (.t 12) .done))))
 (.cond (.t 10) (.seq (.reg (tq 13 (.faddr 1 (.t 2)) (tq 14 (.load 1 false (.t 13)) (tm 15 (.t 6) (tq 16 (.iaddr 8 (.t 14) (.t 15)) (tq 17 (.load 8 true (.t 16)) (.q ⟨none,none,.store 8 (.t 4) (.t 17)⟩
 (tm 5 (.c (.bool true)) .done))))))))
 .ret)
 (.seq (.reg (tm 19 (.t 1) (tq 20 (.bin .eql (.t 19) (.c (.str [95,117,117,105,100]))) (tm 18 (.t 20) .done))))
 (.cond (.t 18) (.seq (.reg (tq 21 (.build [(.str []),(.int .i64 0),(.int .i64 0),(.int .i64 0),(.int .i64 0),(.int .i64 0),(.str []),(.bool false)] [(0,1,(.c (.str [95,117,117,105,100]))),(1,1,(.c (.int .i64 4))),(3,1,(.c (.int .i64 1)))]) (.q ⟨none,none,.store 8 (.t 4) (.t 21)⟩
 (tm 5 (.c (.bool true)) .done))))
 .ret)
 .skip)))))
 (.seq (.reg (tq 22 (.build [(.str []),(.int .i64 0),(.int .i64 0),(.int .i64 0),(.int .i64 0),(.int .i64 0),(.str []),(.bool false)] []) (.q ⟨none,none,.store 8 (.t 4) (.t 22)⟩
 (tm 5 (.c (.bool false)) .done))))
 .ret))))
theorem e5s:a1e Tryz.prog Tryz.f340 = some (e5r.erase,[.load 8 true (.t 4),.mov (.t 5)],23):=by kernel_rfl
def a7z (D:a0q) (A:Str):Option (a0v × Bool) :=
    (a4o D A).bind fun E =>
    if (decide (E ≥ 0)) then
    (idx D.Columns E).bind fun B =>
    some (B,true)
    else
    if (A == [95,117,117,105,100]) then
    some ((⟨[95,117,117,105,100],4,0,1,0,0,[],false⟩:a0v),true)
    else
    some ((⟨[],0,0,0,0,0,[],false⟩:a0v),false)
theorem b4z (D:a0q) (A:Str) (r:(a0v × Bool)) (hf:a7z D A = some r):a0a Tryz.prog 340 .flat [(x9 D),(.str A)] (.tup [(o5 r.1),(.bool r.2)]):=by
 refine a0a.of_awp mixed Tryz.func340 e5s nle ?_;rw [a0n];unfold a7z at hf;unfold e5r;refine (show awp Tryz.prog false 0 _ (ofL [(0,(x9 D)),(1,(.str A))]) [] _ from ?_);refine sr<|x8 (a1j (j:=0) (c:=(.agg [(.str D.Name),(.lst 8 (D.Columns.map o5)),(.lst 1 (D.Unique.map encI)),(.bool D.Root)])) rfl tr rfl rfl)<|x8 (a1j (j:=1) (c:=(.agg [(.str []),(.I 0),(.I 0),(.I 0),(.I 0),(.I 0),(.str []),(.bool false)])) rfl tr rfl rfl)<|l7 (.bool false) rfl<|dk<|sr<|?_
 obtain ⟨E,er4,hf⟩:=ob hf
 refine o8 (.agg [(.str D.Name),(.lst 8 (D.Columns.map o5)),(.lst 1 (D.Unique.map encI)),(.bool D.Root)]) rfl nle rfl<|l7 (.str A) rfl<|x8 (a0j (a8h _ _ _ er4) rfl .r rfl)<|l7 (.I E) rfl<|dk<|o7<|a3y<|sr<|l7 (.I E) rfl<|o8 (.bool (decide (E ≥ 0))) rfl rfl rfl<|l7 (.bool (decide (E ≥ 0))) rfl<|dk<|?_
 rcases oi hf with ⟨c5,hf⟩ | ⟨c5,hf⟩
 ·refine y8 rfl c5<|sr<|?_
  obtain ⟨B,ex7,hf⟩:=ob hf
  refine o8 (.ptr 0 0 1) rfl tr rfl<|o8 (.lst 8 (D.Columns.map o5)) rfl nle rfl<|l7 (.I E) rfl<|x8 (a2t (enc:=o5) rfl rfl (a8n ex7) (a8o ex7))<|o8 (o5 B) rfl nle rfl<|a3o (a0e (v:=(.agg [(.str B.Name),(.I B.Kind),(.I B.Min),(.I B.Max),(.I B.Low),(.I B.High),(.str B.Ref),(.bool B.Strong)])) (y':=(.agg [(.str B.Name),(.I B.Kind),(.I B.Min),(.I B.Max),(.I B.Low),(.I B.High),(.str B.Ref),(.bool B.Strong)])) rfl rfl rfl tr ⟨rfl,nle⟩ ⟨⟨rfl,tr⟩,⟨⟨rfl,tr⟩,⟨⟨rfl,tr⟩,⟨⟨rfl,tr⟩,⟨⟨rfl,tr⟩,⟨⟨rfl,tr⟩,⟨⟨rfl,tr⟩,⟨⟨rfl,tr⟩,tr⟩⟩⟩⟩⟩⟩⟩⟩ rfl)<|?_
  refine l7 (.bool true) rfl<|dk<|a0b<|?_;obtain rfl:=os hf;exact y7 ⟨nle,⟨tr,tr⟩⟩ rfl .r
 ·refine y9 rfl (bf c5)<|sr<|l7 (.str A) rfl<|o8 (.bool (A == [95,117,117,105,100])) rfl tr rfl<|l7 (.bool (A == [95,117,117,105,100])) rfl<|dk<|?_
  rcases oi hf with ⟨c8,hf⟩ | ⟨c8,hf⟩
  ·refine y8 rfl c8<|sr<|o8 (.agg [(.str [95,117,117,105,100]),(.I 4),(.I 0),(.I 1),(.I 0),(.I 0),(.str []),(.bool false)]) rfl ⟨⟨rfl,nle,tr⟩,⟨⟨rfl,nle,tr⟩,⟨⟨rfl,nle,tr⟩,tr⟩⟩⟩ rfl<|a3o (a0e (v:=(.agg [(.str [95,117,117,105,100]),(.I 4),(.I 0),(.I 1),(.I 0),(.I 0),(.str []),(.bool false)])) (y':=(.agg [(.str [95,117,117,105,100]),(.I 4),(.I 0),(.I 1),(.I 0),(.I 0),(.str []),(.bool false)])) rfl rfl rfl tr ⟨rfl,nle⟩ ⟨⟨rfl,tr⟩,⟨⟨rfl,tr⟩,⟨⟨rfl,tr⟩,⟨⟨rfl,tr⟩,⟨⟨rfl,tr⟩,⟨⟨rfl,tr⟩,⟨⟨rfl,tr⟩,⟨⟨rfl,tr⟩,tr⟩⟩⟩⟩⟩⟩⟩⟩ rfl)<|?_
   refine l7 (.bool true) rfl<|dk<|a0b<|?_;obtain rfl:=os hf;exact y7 ⟨nle,⟨tr,tr⟩⟩ rfl .r
  ·refine y9 rfl (bf c8)<|a0k<|a2y<|a0m<|sr<|o8 (.agg [(.str []),(.I 0),(.I 0),(.I 0),(.I 0),(.I 0),(.str []),(.bool false)]) rfl tr rfl<|a3o (a0e (v:=(.agg [(.str []),(.I 0),(.I 0),(.I 0),(.I 0),(.I 0),(.str []),(.bool false)])) (y':=(.agg [(.str []),(.I 0),(.I 0),(.I 0),(.I 0),(.I 0),(.str []),(.bool false)])) rfl rfl rfl tr ⟨rfl,nle⟩ ⟨⟨rfl,tr⟩,⟨⟨rfl,tr⟩,⟨⟨rfl,tr⟩,⟨⟨rfl,tr⟩,⟨⟨rfl,tr⟩,⟨⟨rfl,tr⟩,⟨⟨rfl,tr⟩,⟨⟨rfl,tr⟩,tr⟩⟩⟩⟩⟩⟩⟩⟩ rfl)<|l7 (.bool false) rfl<|?_
   refine dk<|a0b<|?_;obtain rfl:=os hf;exact y7 ⟨nle,⟨tr,tr⟩⟩ rfl .r

/- impl.columnsCode -/
def c229:a0s :=
 (.seq (.reg (tq 2 (.box 4 (.t 0)) (tm 4 (.c (.int .i64 0)) .done)))
 (.seq (.seq (.reg (tm 9 (.t 1) (tq 10 (.len (.t 9)) (tm 11 (.c (.int .i64 0)) .done))))
 (.block 0 (.loop (.seq (.reg (tq 12 (.bin .lss (.t 11) (.t 10)) .done))
 (.seq (.cond (.t 12) .skip
 (.exit 0))
 (.seq (.block 1 (.seq (.reg (tq 13 (.iaddr 1 (.t 9) (.t 11)) (tq 14 (.load 1 false (.t 13)) (tm 6 (.t 14) .done))))
 (.seq (.reg (tq 16 (.load 4 true (.t 2)) (tm 17 (.t 6) (tq 18 (.call 340 [(.t 16),(.t 17)]) (tm 15 (.t 18) (tq 19 (.extract 0 (.t 15)) (tq 20 (.extract 1 (.t 15)) (tq 7 (.box 8 (.c (.agg [(.str []),(.int .i64 0),(.int .i64 0),(.int .i64 0),(.int .i64 0),(.int .i64 0),(.str []),(.bool false)]))) (.q ⟨none,none,.store 8 (.t 7) (.t 19)⟩
 (tm 8 (.t 20) .done))))))))))
 (.seq (.reg (tm 21 (.t 8) (tq 22 (.not (.t 21)) .done)))
 (.cond (.t 22) (.seq (.reg (tm 4 (.c (.int .i64 11)) .done))
 .ret)
 .skip)))))
 (.reg (tq 23 (.bin .add (.t 11) (.c (.int .i64 1))) (tm 11 (.t 23) .done)))))))))
 (.cut (.seq (.reg (tm 4 (.c (.int .i64 0)) .done))
 .ret))))
theorem e5t:a1e Tryz.prog Tryz.f229 = some (c229.erase,[.mov (.t 4)],24):=by kernel_rfl
def a4e (D:a0q):List Str → Option (Fl Int Unit)
  | [] =>
    some (.go ())
  | F :: xs =>
    (a7z D F).bind fun B =>
    if (!B.2) then
    some (.ret 11)
    else
    a4e D xs 

def a9d (D:a0q) (A:(List Str)):Option Int :=
    (a4e D A ).bind fun q => (match q with
    | .ret r => some r
    | .go _ =>
    some 0)
theorem b9w (D:a0q) (A:(List Str)) (r:Int) (hf:a9d D A = some r):a0a Tryz.prog 229 .flat [(x9 D),(.lst 1 (A.map AV.str))] (.I r):=by
 refine a0a.of_awp mixed Tryz.func229 e5t nle ?_;rw [a0n];unfold a9d at hf;unfold c229;refine (show awp Tryz.prog false 0 _ (ofL [(0,(x9 D)),(1,(.lst 1 (A.map AV.str)))]) [] _ from ?_);refine sr<|x8 (a1j (j:=0) (c:=(.agg [(.str D.Name),(.lst 8 (D.Columns.map o5)),(.lst 1 (D.Unique.map encI)),(.bool D.Root)])) rfl tr rfl rfl)<|l7 (.I 0) rfl<|dk<|o7<|sr<|l7 (.lst 1 (A.map AV.str)) rfl<|a1i (a1p (enc:=AV.str) rfl) fun hl3 => l7 (.I 0) rfl<|dk<|?_
 obtain ⟨p24,hb1,hf⟩:=ob hf
 refine a2c (X:={q:Unit // p24 = .go q}) (fun q => ([],[])) ?_ ?_
 ·refine a1v (X:={q:Nat // a4e D (A.drop q)  = some p24}) (fun q => ([(2,(.ptr 0 0 0)),(9,(.lst 1 (A.map AV.str))),(10,(.I (A.length:Int))),(11,(.I (q.1:Int)))],[.box 4 (.agg [(.str D.Name),(.lst 8 (D.Columns.map o5)),(.lst 1 (D.Unique.map encI)),(.bool D.Root)])])) (fun q => A.length - q.1) ⟨0,hb1⟩ ⟨[],[0],_,_,rfl,rfl,⟨.r,⟨.r,⟨.r,⟨.r,tr⟩⟩⟩⟩,.r⟩ ?_
  rintro ⟨E,hc1⟩
  have hc1:a4e D (A.drop E)  = some p24:=hc1
  refine (show awp Tryz.prog false 0 _ (ofL [(2,(.ptr 0 0 0)),(9,(.lst 1 (A.map AV.str))),(10,(.I (A.length:Int))),(11,(.I (E:Int)))]) [.box 4 (.agg [(.str D.Name),(.lst 8 (D.Columns.map o5)),(.lst 1 (D.Unique.map encI)),(.bool D.Root)])] _ from ?_)
  rcases a6c A E with ⟨hie27,hd30⟩ | ⟨hlt25,F,hx26,hd30⟩
  ·rw [hd30,a4e.eq_1] at hc1
   have hq29:=dlf hie27
   refine sr<|o8 (.bool (decide ((E:Int) < (A.length:Int)))) rfl rfl rfl<|dk<|o7<|y9 rfl hq29<|a3i<|a3h<|a2e<|a3g<|?_;obtain rfl:=os hc1;exact a4b ⟨_,rfl⟩ ⟨[],[],_,_,rfl,rfl,tr,.r⟩
  ·rw [hd30,a4e.eq_2] at hc1
   have hq29:=dlt hlt25
   refine sr<|o8 (.bool (decide ((E:Int) < (A.length:Int)))) rfl rfl rfl<|dk<|o7<|y8 rfl hq29<|a0k<|a0m<|o7<|a3y<|sr<|x8 (a1o (enc:=AV.str) rfl rfl hx26)<|o8 (.str F) rfl ⟨rfl,rfl⟩ rfl<|l7 (.str F) rfl<|dk<|sr<|?_
   obtain ⟨B,er33,hc1⟩:=ob hc1
   refine o8 (.agg [(.str D.Name),(.lst 8 (D.Columns.map o5)),(.lst 1 (D.Unique.map encI)),(.bool D.Root)]) rfl nle rfl<|l7 (.str F) rfl<|x8 (a0j (b4z _ _ _ er33) rfl .r rfl)<|l7 (.tup [(o5 B.1),(.bool B.2)]) rfl<|o8 (o5 B.1) rfl nle rfl<|o8 (.bool B.2) rfl nle rfl<|x8 (a1j (j:=1) (c:=(.agg [(.str []),(.I 0),(.I 0),(.I 0),(.I 0),(.I 0),(.str []),(.bool false)])) rfl tr rfl rfl)<|a3o (a0e (v:=(.agg [(.str B.1.Name),(.I B.1.Kind),(.I B.1.Min),(.I B.1.Max),(.I B.1.Low),(.I B.1.High),(.str B.1.Ref),(.bool B.1.Strong)])) (y':=(.agg [(.str B.1.Name),(.I B.1.Kind),(.I B.1.Min),(.I B.1.Max),(.I B.1.Low),(.I B.1.High),(.str B.1.Ref),(.bool B.1.Strong)])) rfl rfl rfl tr ⟨rfl,nle⟩ ⟨⟨rfl,tr⟩,⟨⟨rfl,tr⟩,⟨⟨rfl,tr⟩,⟨⟨rfl,tr⟩,⟨⟨rfl,tr⟩,⟨⟨rfl,tr⟩,⟨⟨rfl,tr⟩,⟨⟨rfl,tr⟩,tr⟩⟩⟩⟩⟩⟩⟩⟩ rfl)<|?_
   refine l7 (.bool B.2) rfl<|dk<|sr<|l7 (.bool B.2) rfl<|o8 (.bool (!B.2)) rfl tr rfl<|dk<|?_
   rcases oi hc1 with ⟨c34,hc1⟩ | ⟨c34,hc1⟩
   ·refine y8 rfl c34<|sr<|l7 (.I 11) rfl<|dk<|a0b<|?_;obtain rfl:=os hc1;obtain rfl:=os hf;exact y7 ⟨tr,tr⟩ rfl .r
   ·refine y9 rfl (bf c34)<|a0k<|a2y<|a0m<|a0r<|o8 (.I (w64 ((E:Int) + 1))) rfl rfl rfl<|l7 (.I (w64 ((E:Int) + 1))) rfl<|y5<|?_;exact a1z ⟨(E + 1),hc1⟩ (mul hlt25) ⟨[],[0],_,_,rfl,rfl,⟨.r,⟨.r,⟨.r,⟨.of_eq (congrArg (AV.int _) (a1x hlt25 hl3)),tr⟩⟩⟩⟩,.r⟩
 ·rintro ⟨_,rfl⟩
  refine sr<|l7 (.I 0) rfl<|dk<|a0b<|?_;obtain rfl:=os hf;exact y7 ⟨tr,tr⟩ rfl .r

/- impl.condCode -/
def e5u:a0s :=
 (.seq (.reg (tq 2 (.box 4 (.t 0)) (tq 3 (.box 3 (.t 1)) (tm 4 (.c (.int .i64 0)) .done))))
 (.seq (.reg (tq 8 (.load 4 true (.t 2)) (tq 9 (.faddr 0 (.t 3)) (tq 10 (.load 1 false (.t 9)) (tq 11 (.call 340 [(.t 8),(.t 10)]) (tm 7 (.t 11) (tq 12 (.extract 0 (.t 7)) (tq 13 (.extract 1 (.t 7)) (tq 5 (.box 8 (.c (.agg [(.str []),(.int .i64 0),(.int .i64 0),(.int .i64 0),(.int .i64 0),(.int .i64 0),(.str []),(.bool false)]))) (.q ⟨none,none,.store 8 (.t 5) (.t 12)⟩
 (tm 6 (.t 13) .done)))))))))))
 (.seq (.block 0 (.seq (.reg (tm 15 (.t 6) (tq 16 (.not (.t 15)) (tm 14 (.t 16) .done))))
 (.cond (.t 14) (.seq (.reg (tm 4 (.c (.int .i64 11)) .done))
 .ret)
 (.seq (.reg (tq 18 (.faddr 2 (.t 3)) (tq 19 (.load 1 false (.t 18)) (tq 20 (.len (.t 19)) (tq 21 (.bin .gtr (.t 20) (.c (.int .i64 0))) (tm 22 (.t 21) (tg 23 22 true (.faddr 2 (.t 3)) (tg 24 22 true (.load 1 false (.t 23)) (tg 25 22 true (.iaddr 3 (.t 24) (.c (.int .i64 0))) (tg 26 22 true (.faddr 0 (.t 25)) (tg 27 22 true (.load 1 false (.t 26)) (tg 28 22 true (.faddr 1 (.t 5)) (tg 29 22 true (.load 1 false (.t 28)) (tg 30 22 true (.bin .neq (.t 27) (.t 29)) (tq 31 (.pick (.t 22) (.t 30) (.c (.bool false))) (tm 17 (.t 31) .done))))))))))))))))
 (.cut (.cond (.t 17) (.seq (.reg (tm 4 (.c (.int .i64 9)) .done))
 .ret)
 (.seq (.reg (tq 33 (.faddr 1 (.t 3)) (tq 34 (.load 1 false (.t 33)) (tq 35 (.call 114 [(.t 34),(.c (.int .i64 3)),(.c (.int .i64 6))]) (tm 36 (.t 35) (tg 37 36 true (.faddr 1 (.t 5)) (tg 38 36 true (.load 1 false (.t 37)) (tg 39 36 true (.bin .neq (.t 38) (.c (.int .i64 1))) (tg 40 36 true (.mov (.t 39)) (tg 41 40 false (.faddr 3 (.t 5)) (tg 42 40 false (.load 1 false (.t 41)) (tg 43 40 false (.bin .neq (.t 42) (.c (.int .i64 1))) (tg 44 36 true (.pick (.t 40) (.c (.bool true)) (.t 43)) (tg 45 36 true (.mov (.t 44)) (tg 46 45 false (.faddr 2 (.t 3)) (tg 47 45 false (.load 1 false (.t 46)) (tg 48 45 false (.len (.t 47)) (tg 49 45 false (.bin .neq (.t 48) (.c (.int .i64 1))) (tg 50 36 true (.pick (.t 45) (.c (.bool true)) (.t 49)) (tq 51 (.pick (.t 36) (.t 50) (.c (.bool false))) (tm 32 (.t 51) .done)))))))))))))))))))))
 (.cut (.cond (.t 32) (.seq (.reg (tm 4 (.c (.int .i64 9)) .done))
 .ret)
 .skip)))))))))
 (.seq (.reg (tm 4 (.c (.int .i64 0)) .done))
 .ret))))
theorem e5v:a1e Tryz.prog Tryz.f341 = some (e5u.erase,[.mov (.t 4)],52):=by kernel_rfl
def b1h (E:a0q) (B:a2v):Option Int :=
    (a7z E B.Column).bind fun A =>
    if (!A.2) then
    some 11
    else
    ((if (decide ((B.Value.length:Int) > 0)) then
    (idx B.Value 0).bind fun F =>
    some (F.Kind != A.1.Kind)
    else
    some false:Option Bool)).bind fun G =>
    if G then
    some 9
    else
    (((a3t B.Func 3 6).bind fun D =>
    some (bif D then (bif (bif (A.1.Kind != 1) then true else (A.1.Max != 1)) then true else ((B.Value.length:Int) != 1)) else false):Option Bool)).bind fun H =>
    if H then
    some 9
    else
    some 0
theorem c2z (E:a0q) (B:a2v) (r:Int) (hf:b1h E B = some r):a0a Tryz.prog 341 .flat [(x9 E),(a0d B)] (.I r):=by
 refine a0a.of_awp mixed Tryz.func341 e5v nle ?_;rw [a0n];unfold b1h at hf;unfold e5u;refine (show awp Tryz.prog false 0 _ (ofL [(0,(x9 E)),(1,(a0d B))]) [] _ from ?_);refine sr<|x8 (a1j (j:=0) (c:=(.agg [(.str E.Name),(.lst 8 (E.Columns.map o5)),(.lst 1 (E.Unique.map encI)),(.bool E.Root)])) rfl tr rfl rfl)<|x8 (a1j (j:=1) (c:=(.agg [(.str B.Column),(.I B.Func),(.lst 3 (B.Value.map l9))])) rfl tr rfl rfl)<|l7 (.I 0) rfl<|dk<|sr<|?_
 obtain ⟨A,er4,hf⟩:=ob hf
 refine o8 (.agg [(.str E.Name),(.lst 8 (E.Columns.map o5)),(.lst 1 (E.Unique.map encI)),(.bool E.Root)]) rfl nle rfl<|o8 (.ptr 1 0 0) rfl tr rfl<|o8 (.str B.Column) rfl nle rfl<|x8 (a0j (b4z _ _ _ er4) rfl .r rfl)<|l7 (.tup [(o5 A.1),(.bool A.2)]) rfl<|o8 (o5 A.1) rfl nle rfl<|o8 (.bool A.2) rfl nle rfl<|x8 (a1j (j:=2) (c:=(.agg [(.str []),(.I 0),(.I 0),(.I 0),(.I 0),(.I 0),(.str []),(.bool false)])) rfl tr rfl rfl)<|a3o (a0e (v:=(.agg [(.str A.1.Name),(.I A.1.Kind),(.I A.1.Min),(.I A.1.Max),(.I A.1.Low),(.I A.1.High),(.str A.1.Ref),(.bool A.1.Strong)])) (y':=(.agg [(.str A.1.Name),(.I A.1.Kind),(.I A.1.Min),(.I A.1.Max),(.I A.1.Low),(.I A.1.High),(.str A.1.Ref),(.bool A.1.Strong)])) rfl rfl rfl tr ⟨rfl,nle⟩ ⟨⟨rfl,tr⟩,⟨⟨rfl,tr⟩,⟨⟨rfl,tr⟩,⟨⟨rfl,tr⟩,⟨⟨rfl,tr⟩,⟨⟨rfl,tr⟩,⟨⟨rfl,tr⟩,⟨⟨rfl,tr⟩,tr⟩⟩⟩⟩⟩⟩⟩⟩ rfl)<|?_
 refine l7 (.bool A.2) rfl<|dk<|o7<|a3y<|sr<|l7 (.bool A.2) rfl<|o8 (.bool (!A.2)) rfl tr rfl<|l7 (.bool (!A.2)) rfl<|dk<|?_
 rcases oi hf with ⟨c5,hf⟩ | ⟨c5,hf⟩
 ·refine y8 rfl c5<|sr<|l7 (.I 11) rfl<|dk<|a0b<|?_;obtain rfl:=os hf;exact y7 ⟨tr,tr⟩ rfl .r
 ·refine y9 rfl (bf c5)<|o7<|?_
  obtain ⟨G,hb1,hf⟩:=ob hf
  refine a1k ([(3,(.ptr 0 0 0)),(5,(.ptr 1 0 0)),(17,(.bool G))],[.box 3 (.agg [(.str B.Column),(.I B.Func),(.lst 3 (B.Value.map l9))]),.box 8 (.agg [(.str A.1.Name),(.I A.1.Kind),(.I A.1.Min),(.I A.1.Max),(.I A.1.Low),(.I A.1.High),(.str A.1.Ref),(.bool A.1.Strong)])]) ?_ ?_
  ·refine a0r<|o8 (.ptr 1 0 2) rfl tr rfl<|o8 (.lst 3 (B.Value.map l9)) rfl nle rfl<|a1i (a1p (enc:=l9) rfl) fun hl12 => o8 (.bool (decide ((B.Value.length:Int) > 0))) rfl rfl rfl<|l7 (.bool (decide ((B.Value.length:Int) > 0))) rfl<|?_
   rcases oi hb1 with ⟨c13,hb1⟩ | ⟨c13,hb1⟩
   ·refine a0i (s:=22) (b:=true) rfl c13<|s_on rfl<|o8 (.ptr 1 0 2) rfl tr rfl<|s_on rfl<|o8 (.lst 3 (B.Value.map l9)) rfl nle rfl<|s_on rfl<|?_
    obtain ⟨F,ex15,hb1⟩:=ob hb1
    refine x8 (a2t (enc:=l9) rfl rfl (a8n ex15) (a8o ex15))<|s_on rfl<|o8 (.iptr (l9 F) 0) rfl tr rfl<|s_on rfl<|o8 (.I F.Kind) rfl nle rfl<|s_on rfl<|o8 (.ptr 2 0 1) rfl tr rfl<|s_on rfl<|o8 (.I A.1.Kind) rfl nle rfl<|s_on rfl<|o8 (.bool (F.Kind != A.1.Kind)) rfl rfl rfl<|o8 (.bool (F.Kind != A.1.Kind)) rfl tr rfl<|l7 (.bool (F.Kind != A.1.Kind)) rfl<|y5<|?_;obtain rfl:=os hb1;exact ⟨[],[1,2],_,_,rfl,rfl,⟨.r,⟨.r,⟨.r,tr⟩⟩⟩,.r⟩
   ·refine a0i (s:=22) (b:=false) rfl (bf c13)<|o6 rfl rfl<|o6 rfl rfl<|o6 rfl rfl<|o6 rfl rfl<|o6 rfl rfl<|o6 rfl rfl<|o6 rfl rfl<|o6 rfl rfl<|o8 (.bool false) rfl tr rfl<|l7 (.bool false) rfl<|y5<|?_;obtain rfl:=os hb1;exact ⟨[],[1,2],_,_,rfl,rfl,⟨.r,⟨.r,⟨.r,tr⟩⟩⟩,.r⟩
  ·rcases oi hf with ⟨c16,hf⟩ | ⟨c16,hf⟩
   ·refine y8 rfl c16<|sr<|l7 (.I 9) rfl<|dk<|a0b<|?_;obtain rfl:=os hf;exact y7 ⟨tr,tr⟩ rfl .r
   ·refine y9 rfl (bf c16)<|o7<|?_
    obtain ⟨H,hb1,hf⟩:=ob hf
    refine a1k ([(32,(.bool H))],[]) ?_ ?_
    ·refine a0r<|o8 (.ptr 0 0 1) rfl tr rfl<|o8 (.I B.Func) rfl nle rfl<|?_
     obtain ⟨D,er23,hb1⟩:=ob hb1
     refine x8 (a0j (a3x _ _ _ _ er23) rfl .r rfl)<|l7 (.bool D) rfl<|?_;refine s_g (v:=D) (.ptr 1 0 1) rfl (fun hv => by (try simp only [o9 hv]);exact ⟨rfl,tr,rfl⟩) ?_;refine s_g (v:=D) (.I A.1.Kind) rfl (fun hv => by (try simp only [o9 hv]);exact ⟨rfl,nle,rfl⟩) ?_;refine s_g (v:=D) (.bool (A.1.Kind != 1)) rfl (fun hv => by (try simp only [o9 hv]);exact ⟨rfl,rfl,rfl⟩) ?_;refine s_g (v:=D) (.bool (A.1.Kind != 1)) rfl (fun hv => by (try simp only [o9 hv]);exact ⟨rfl,tr,rfl⟩) ?_;refine a7t (v1:=D) (b1:=true) (v2:=(A.1.Kind != 1)) (.ptr 1 0 3) rfl (fun hv hw => by (try simp only [o9 hv,o9 hw]);exact ⟨rfl,tr,rfl⟩) ?_
     refine a7t (v1:=D) (b1:=true) (v2:=(A.1.Kind != 1)) (.I A.1.Max) rfl (fun hv hw => by (try simp only [o9 hv,o9 hw]);exact ⟨rfl,nle,rfl⟩) ?_;refine a7t (v1:=D) (b1:=true) (v2:=(A.1.Kind != 1)) (.bool (A.1.Max != 1)) rfl (fun hv hw => by (try simp only [o9 hv,o9 hw]);exact ⟨rfl,rfl,rfl⟩) ?_;refine c0q (v1:=D) (b1:=true) (v2:=(A.1.Kind != 1)) (x:=true) (y:=(A.1.Max != 1)) rfl (fun hv => by (try simp only [o9 hv]);rfl) (fun hv hw => by (try simp only [o9 hv,o9 hw]);rfl) (fun hv hw => by (try simp only [o9 hv,o9 hw]);rfl) ?_;refine s_g (v:=D) (.bool (bif (A.1.Kind != 1) then true else (A.1.Max != 1))) rfl (fun hv => by (try simp only [o9 hv]);exact ⟨rfl,tr,rfl⟩) ?_
     refine a7t (v1:=D) (b1:=true) (v2:=(bif (A.1.Kind != 1) then true else (A.1.Max != 1))) (.ptr 0 0 2) rfl (fun hv hw => by (try simp only [o9 hv,o9 hw]);exact ⟨rfl,tr,rfl⟩) ?_;refine a7t (v1:=D) (b1:=true) (v2:=(bif (A.1.Kind != 1) then true else (A.1.Max != 1))) (.lst 3 (B.Value.map l9)) rfl (fun hv hw => by (try simp only [o9 hv,o9 hw]);exact ⟨rfl,nle,rfl⟩) ?_;refine a7t (v1:=D) (b1:=true) (v2:=(bif (A.1.Kind != 1) then true else (A.1.Max != 1))) (.I (B.Value.length:Int)) rfl (fun hv hw => by (try simp only [o9 hv,o9 hw]);exact ⟨rfl,tr,lenV _ _⟩) ?_;refine a7t (v1:=D) (b1:=true) (v2:=(bif (A.1.Kind != 1) then true else (A.1.Max != 1))) (.bool ((B.Value.length:Int) != 1)) rfl (fun hv hw => by (try simp only [o9 hv,o9 hw]);exact ⟨rfl,rfl,rfl⟩) ?_
     refine c0q (v1:=D) (b1:=true) (v2:=(bif (A.1.Kind != 1) then true else (A.1.Max != 1))) (x:=true) (y:=((B.Value.length:Int) != 1)) rfl (fun hv => by (try simp only [o9 hv]);rfl) (fun hv hw => by (try simp only [o9 hv,o9 hw]);rfl) (fun hv hw => by (try simp only [o9 hv,o9 hw]);rfl) ?_;refine a2a (x:=(bif (bif (A.1.Kind != 1) then true else (A.1.Max != 1)) then true else ((B.Value.length:Int) != 1))) (y:=false) rfl (fun hv => by (try simp only [o9 hv]);rfl) (fun hv => by (try simp only [o9 hv]);rfl) ?_;refine l7 (.bool (bif D then (bif (bif (A.1.Kind != 1) then true else (A.1.Max != 1)) then true else ((B.Value.length:Int) != 1)) else false)) rfl ?_
     refine y5 ?_;obtain rfl:=os hb1;exact ⟨[],[],_,_,rfl,rfl,⟨.r,tr⟩,.r⟩
    ·rcases oi hf with ⟨c25,hf⟩ | ⟨c25,hf⟩
     ·refine y8 rfl c25<|sr<|l7 (.I 9) rfl<|dk<|a0b<|?_;obtain rfl:=os hf;exact y7 ⟨tr,tr⟩ rfl .r
     ·refine y9 rfl (bf c25)<|a0k<|a2y<|a0m<|sr<|l7 (.I 0) rfl<|dk<|a0b<|?_;obtain rfl:=os hf;exact y7 ⟨tr,tr⟩ rfl .r

/- impl.condsCode -/
def e5w:a0s :=
 (.seq (.reg (tq 2 (.box 4 (.t 0)) (tm 4 (.c (.int .i64 0)) .done)))
 (.seq (.seq (.reg (tm 8 (.t 1) (tq 9 (.len (.t 8)) (tm 10 (.c (.int .i64 0)) .done))))
 (.block 0 (.loop (.seq (.reg (tq 11 (.bin .lss (.t 10) (.t 9)) .done))
 (.seq (.cond (.t 11) .skip
 (.exit 0))
 (.seq (.block 1 (.seq (.reg (tq 12 (.iaddr 3 (.t 8) (.t 10)) (tq 13 (.load 3 true (.t 12)) (tq 6 (.box 3 (.c (.agg [(.str []),(.int .i64 0),.nil]))) (.q ⟨none,none,.store 3 (.t 6) (.t 13)⟩
 .done)))))
 (.seq (.reg (tq 14 (.load 4 true (.t 2)) (tq 15 (.load 3 true (.t 6)) (tq 16 (.call 341 [(.t 14),(.t 15)]) (tm 7 (.t 16) .done)))))
 (.seq (.reg (tm 17 (.t 7) (tq 18 (.bin .neq (.t 17) (.c (.int .i64 0))) .done)))
 (.cond (.t 18) (.seq (.reg (tm 19 (.t 7) (tm 4 (.t 19) .done)))
 .ret)
 .skip)))))
 (.reg (tq 20 (.bin .add (.t 10) (.c (.int .i64 1))) (tm 10 (.t 20) .done)))))))))
 (.cut (.seq (.reg (tm 4 (.c (.int .i64 0)) .done))
 .ret))))
theorem e5x:a1e Tryz.prog Tryz.f230 = some (e5w.erase,[.mov (.t 4)],21):=by kernel_rfl
def a4r (B:a0q):List a2v → Option (Fl Int Unit)
  | [] =>
    some (.go ())
  | E :: xs =>
    (b1h B E).bind fun F =>
    if (F != 0) then
    some (.ret F)
    else
    a4r B xs 

def b0o (B:a0q) (A:(List a2v)):Option Int :=
    (a4r B A ).bind fun q => (match q with
    | .ret r => some r
    | .go _ =>
    some 0)
theorem c1y (B:a0q) (A:(List a2v)) (r:Int) (hf:b0o B A = some r):a0a Tryz.prog 230 .flat [(x9 B),(.lst 3 (A.map a0d))] (.I r):=by
 refine a0a.of_awp mixed Tryz.func230 e5x nle ?_;rw [a0n];unfold b0o at hf;unfold e5w;refine (show awp Tryz.prog false 0 _ (ofL [(0,(x9 B)),(1,(.lst 3 (A.map a0d)))]) [] _ from ?_);refine sr<|x8 (a1j (j:=0) (c:=(.agg [(.str B.Name),(.lst 8 (B.Columns.map o5)),(.lst 1 (B.Unique.map encI)),(.bool B.Root)])) rfl tr rfl rfl)<|l7 (.I 0) rfl<|dk<|o7<|sr<|l7 (.lst 3 (A.map a0d)) rfl<|a1i (a1p (enc:=a0d) rfl) fun hl3 => l7 (.I 0) rfl<|dk<|?_
 obtain ⟨p24,hb1,hf⟩:=ob hf
 refine a2c (X:={q:Unit // p24 = .go q}) (fun q => ([],[])) ?_ ?_
 ·refine a1v (X:={q:Nat // a4r B (A.drop q)  = some p24}) (fun q => ([(2,(.ptr 0 0 0)),(8,(.lst 3 (A.map a0d))),(9,(.I (A.length:Int))),(10,(.I (q.1:Int)))],[.box 4 (.agg [(.str B.Name),(.lst 8 (B.Columns.map o5)),(.lst 1 (B.Unique.map encI)),(.bool B.Root)])])) (fun q => A.length - q.1) ⟨0,hb1⟩ ⟨[],[0],_,_,rfl,rfl,⟨.r,⟨.r,⟨.r,⟨.r,tr⟩⟩⟩⟩,.r⟩ ?_
  rintro ⟨D,hc1⟩
  have hc1:a4r B (A.drop D)  = some p24:=hc1
  refine (show awp Tryz.prog false 0 _ (ofL [(2,(.ptr 0 0 0)),(8,(.lst 3 (A.map a0d))),(9,(.I (A.length:Int))),(10,(.I (D:Int)))]) [.box 4 (.agg [(.str B.Name),(.lst 8 (B.Columns.map o5)),(.lst 1 (B.Unique.map encI)),(.bool B.Root)])] _ from ?_)
  rcases a6c A D with ⟨hie27,hd30⟩ | ⟨hlt25,E,hx26,hd30⟩
  ·rw [hd30,a4r.eq_1] at hc1
   have hq29:=dlf hie27
   refine sr<|o8 (.bool (decide ((D:Int) < (A.length:Int)))) rfl rfl rfl<|dk<|o7<|y9 rfl hq29<|a3i<|a3h<|a2e<|a3g<|?_;obtain rfl:=os hc1;exact a4b ⟨_,rfl⟩ ⟨[],[],_,_,rfl,rfl,tr,.r⟩
  ·rw [hd30,a4r.eq_2] at hc1
   have hq29:=dlt hlt25
   refine sr<|o8 (.bool (decide ((D:Int) < (A.length:Int)))) rfl rfl rfl<|dk<|o7<|y8 rfl hq29<|a0k<|a0m<|o7<|a3y<|sr<|x8 (a1o (enc:=a0d) rfl rfl hx26)<|o8 (a0d E) rfl nle rfl<|x8 (a1j (j:=1) (c:=(.agg [(.str []),(.I 0),.nil])) rfl tr rfl rfl)<|a3o (a0e (v:=(.agg [(.str E.Column),(.I E.Func),(.lst 3 (E.Value.map l9))])) (y':=(.agg [(.str E.Column),(.I E.Func),(.lst 3 (E.Value.map l9))])) rfl rfl rfl tr ⟨rfl,nle⟩ ⟨⟨rfl,tr⟩,⟨⟨rfl,tr⟩,⟨⟨rfl,tr⟩,tr⟩⟩⟩ rfl)<|dk<|?_
   refine sr<|?_
   obtain ⟨F,er33,hc1⟩:=ob hc1
   refine o8 (.agg [(.str B.Name),(.lst 8 (B.Columns.map o5)),(.lst 1 (B.Unique.map encI)),(.bool B.Root)]) rfl nle rfl<|o8 (.agg [(.str E.Column),(.I E.Func),(.lst 3 (E.Value.map l9))]) rfl nle rfl<|x8 (a0j (c2z _ _ _ er33) rfl .r rfl)<|l7 (.I F) rfl<|dk<|sr<|l7 (.I F) rfl<|o8 (.bool (F != 0)) rfl rfl rfl<|dk<|?_
   rcases oi hc1 with ⟨c34,hc1⟩ | ⟨c34,hc1⟩
   ·refine y8 rfl c34<|sr<|l7 (.I F) rfl<|l7 (.I F) rfl<|dk<|a0b<|?_;obtain rfl:=os hc1;obtain rfl:=os hf;exact y7 ⟨tr,tr⟩ rfl .r
   ·refine y9 rfl (bf c34)<|a0k<|a2y<|a0m<|a0r<|o8 (.I (w64 ((D:Int) + 1))) rfl rfl rfl<|l7 (.I (w64 ((D:Int) + 1))) rfl<|y5<|?_;exact a1z ⟨(D + 1),hc1⟩ (mul hlt25) ⟨[],[0],_,_,rfl,rfl,⟨.r,⟨.r,⟨.r,⟨.of_eq (congrArg (AV.int _) (a1x hlt25 hl3)),tr⟩⟩⟩⟩,.r⟩
 ·rintro ⟨_,rfl⟩
  refine sr<|l7 (.I 0) rfl<|dk<|a0b<|?_;obtain rfl:=os hf;exact y7 ⟨tr,tr⟩ rfl .r

/- impl.setsCode$1 -/
def d5i:a0s :=
 (.seq (.reg (tq 2 (.box 3 (.t 0)) (tm 3 (.c (.bool false)) .done)))
 (.seq (.reg (tq 4 (.faddr 0 (.t 2)) (tq 5 (.load 1 false (.t 4)) (tq 6 (.faddr 0 (.t 1)) (tq 7 (.load 1 false (.t 6)) (tq 8 (.bin .eql (.t 5) (.t 7)) (tm 3 (.t 8) .done)))))))
 .ret))
theorem e5y:a1e Tryz.prog Tryz.f342 = some (d5i.erase,[.mov (.t 3)],9):=by kernel_rfl
def b1t (A:a3l) (B:a3l):Option Bool :=
    some (A.Column == B.Column)
theorem c0w (A:a3l) (B:a3l) (r:Bool) (hf:b1t A B = some r):a0a Tryz.prog 342 .flat [(a0f A),(.iptr (a0f B) 0)] (.bool r):=by
  refine a0a.of_awp mixed Tryz.func342 e5y nle ?_
  rw [a0n]
  unfold b1t at hf
  unfold d5i
  refine (show awp Tryz.prog false 0 _ (ofL [(0,(a0f A)),(1,(.iptr (a0f B) 0))]) [] _ from ?_)
  refine o7 ?_
  refine a0r ?_
  refine x8 (a1j (j:=0) (c:=(.agg [(.str A.Column),(.lst 3 (A.Value.map l9)),(.lst 1 (A.Names.map AV.str))])) rfl tr rfl rfl) ?_
  refine x8 (a2w (.bool false) rfl) ?_
  refine y5 ?_
  refine a0m ?_
  refine o7 ?_
  refine a0r ?_
  refine x8 (o_q (.ptr 0 0 0) rfl tr rfl) ?_
  refine x8 (o_q (.str A.Column) rfl nle rfl) ?_
  refine x8 (o_q (.iptr (a0f B) 0) rfl tr rfl) ?_
  refine x8 (o_q (.str B.Column) rfl nle rfl) ?_
  refine x8 (o_q (.bool (A.Column == B.Column)) rfl tr rfl) ?_
  refine x8 (a2w (.bool (A.Column == B.Column)) rfl) ?_
  refine y5 ?_
  refine a0m ?_
  refine a0b ?_
  obtain rfl:=os hf
  exact y7 ⟨tr,tr⟩ rfl .r

/- impl.setsCode -/
def d5j:a0s :=
 (.seq (.reg (tq 2 (.box 4 (.t 0)) (tm 4 (.c (.int .i64 0)) .done)))
 (.seq (.seq (.reg (tm 8 (.t 1) (tq 9 (.len (.t 8)) (tm 10 (.c (.int .i64 0)) .done))))
 (.block 0 (.loop (.seq (.reg (tq 11 (.bin .lss (.t 10) (.t 9)) .done))
 (.seq (.cond (.t 11) .skip
 (.exit 0))
 (.seq (.block 1 (.seq (.reg (tm 12 (.t 10) (tq 13 (.iaddr 3 (.t 8) (.t 10)) (tq 14 (.load 3 true (.t 13)) (tq 6 (.box 3 (.c (.agg [(.str []),.nil,.nil]))) (tm 5 (.t 12) (.q ⟨none,none,.store 3 (.t 6) (.t 14)⟩
 .done)))))))
 (.seq (.reg (tq 15 (.load 4 true (.t 2)) (tq 16 (.faddr 0 (.t 6)) (tq 17 (.load 1 false (.t 16)) (tq 18 (.call 254 [(.t 15),(.t 17)]) (tm 7 (.t 18) .done))))))
 (.block 2 (.seq (.reg (tm 20 (.t 7) (tq 21 (.bin .lss (.t 20) (.c (.int .i64 0))) (tm 19 (.t 21) .done))))
 (.cond (.t 19) (.seq (.reg (tm 4 (.c (.int .i64 11)) .done))
 .ret)
 (.seq (.reg (tm 23 (.t 1) (tm 24 (.t 5) (tq 25 (.slice 3 (.t 23) none (some (.t 24))) (tq 26 (.mkfn 342 [(.t 6)]) (tq 27 (.call 244 [(.t 25),(.t 26)]) (tm 22 (.t 27) .done)))))))
 (.cond (.t 22) (.seq (.reg (tm 4 (.c (.int .i64 8)) .done))
 .ret)
 (.seq (.reg (tq 29 (.faddr 1 (.t 6)) (tq 30 (.load 1 false (.t 29)) (tq 31 (.len (.t 30)) (tq 32 (.bin .gtr (.t 31) (.c (.int .i64 0))) (tm 33 (.t 32) (tg 34 33 true (.faddr 1 (.t 6)) (tg 35 33 true (.load 1 false (.t 34)) (tg 36 33 true (.iaddr 3 (.t 35) (.c (.int .i64 0))) (tg 37 33 true (.faddr 0 (.t 36)) (tg 38 33 true (.load 1 false (.t 37)) (tg 39 33 true (.faddr 1 (.t 2)) (tg 40 33 true (.load 1 false (.t 39)) (tg 41 33 true (.mov (.t 7)) (tg 42 33 true (.iaddr 8 (.t 40) (.t 41)) (tg 43 33 true (.faddr 1 (.t 42)) (tg 44 33 true (.load 1 false (.t 43)) (tg 45 33 true (.bin .neq (.t 38) (.t 44)) (tq 46 (.pick (.t 33) (.t 45) (.c (.bool false))) (tm 47 (.t 46) (tg 48 47 false (.faddr 2 (.t 6)) (tg 49 47 false (.load 1 false (.t 48)) (tg 50 47 false (.len (.t 49)) (tg 51 47 false (.bin .gtr (.t 50) (.c (.int .i64 0))) (tg 52 47 false (.mov (.t 51)) (tg 53 52 true (.faddr 1 (.t 2)) (tg 54 52 true (.load 1 false (.t 53)) (tg 55 52 true (.mov (.t 7)) (tg 56 52 true (.iaddr 8 (.t 54) (.t 55)) (tg 57 52 true (.faddr 1 (.t 56)) (tg 58 52 true (.load 1 false (.t 57)) (tg 59 52 true (.bin .neq (.t 58) (.c (.int .i64 4))) (tg 60 47 false (.pick (.t 52) (.t 59) (.c (.bool false))) (tq 61 (.pick (.t 47) (.c (.bool true)) (.t 60)) (tm 28 (.t 61) .done)))))))))))))))))))))))))))))))))))
 (.cut (.cond (.t 28) (.seq (.reg (tm 4 (.c (.int .i64 9)) .done))
 .ret)
 .skip)))))))))))
 (.reg (tq 62 (.bin .add (.t 10) (.c (.int .i64 1))) (tm 10 (.t 62) .done)))))))))
 (.cut (.seq (.reg (tm 4 (.c (.int .i64 0)) .done))
 .ret))))
theorem e5z:a1e Tryz.prog Tryz.f231 = some (d5j.erase,[.mov (.t 4)],63):=by kernel_rfl
def a4z (E:a0q) (A:(List a3l)):List a3l → Nat → Option (Fl Int Unit)
  | [],D =>
    some (.go ())
  | B :: xs,D =>
    (a4o E B.Column).bind fun F =>
    if (decide (F < 0)) then
    some (.ret 11)
    else
    if (0:Int) ≤ (D:Int) ∧ (D:Int) ≤ (A.length:Int) then
    (a2i (A.take D) (fun a0 => b1t a0 B)).bind fun M =>
    if M then
    some (.ret 8)
    else
    ((if (decide ((B.Value.length:Int) > 0)) then
    (idx B.Value 0).bind fun J =>
    (idx E.Columns F).bind fun K =>
    if (J.Kind != K.Kind) then
    some true
    else
    if (decide ((B.Names.length:Int) > 0)) then
    (idx E.Columns F).bind fun G =>
    some (G.Kind != 4)
    else
    some false
    else
    if (decide ((B.Names.length:Int) > 0)) then
    (idx E.Columns F).bind fun H =>
    some (H.Kind != 4)
    else
    some false:Option Bool)).bind fun L =>
    if L then
    some (.ret 9)
    else
    a4z E A xs (D + 1)
    else none

def b1i (E:a0q) (A:(List a3l)):Option Int :=
    (a4z E A A 0).bind fun q => (match q with
    | .ret r => some r
    | .go _ =>
    some 0)
theorem c3a (E:a0q) (A:(List a3l)) (r:Int) (hf:b1i E A = some r):a0a Tryz.prog 231 .flat [(x9 E),(.lst 3 (A.map a0f))] (.I r):=by
 refine a0a.of_awp mixed Tryz.func231 e5z nle ?_;rw [a0n];unfold b1i at hf;unfold d5j;refine (show awp Tryz.prog false 0 _ (ofL [(0,(x9 E)),(1,(.lst 3 (A.map a0f)))]) [] _ from ?_);refine sr<|x8 (a1j (j:=0) (c:=(.agg [(.str E.Name),(.lst 8 (E.Columns.map o5)),(.lst 1 (E.Unique.map encI)),(.bool E.Root)])) rfl tr rfl rfl)<|l7 (.I 0) rfl<|dk<|o7<|sr<|l7 (.lst 3 (A.map a0f)) rfl<|a1i (a1p (enc:=a0f) rfl) fun hl3 => l7 (.I 0) rfl<|dk<|?_
 obtain ⟨p141,hb1,hf⟩:=ob hf
 refine a2c (X:={q:Unit // p141 = .go q}) (fun q => ([],[])) ?_ ?_
 ·refine a1v (X:={q:Nat // a4z E A (A.drop q) q = some p141}) (fun q => ([(1,(.lst 3 (A.map a0f))),(2,(.ptr 0 0 0)),(8,(.lst 3 (A.map a0f))),(9,(.I (A.length:Int))),(10,(.I (q.1:Int)))],[.box 4 (.agg [(.str E.Name),(.lst 8 (E.Columns.map o5)),(.lst 1 (E.Unique.map encI)),(.bool E.Root)])])) (fun q => A.length - q.1) ⟨0,hb1⟩ ⟨[],[0],_,_,rfl,rfl,⟨.r,⟨.r,⟨.r,⟨.r,⟨.r,tr⟩⟩⟩⟩⟩,.r⟩ ?_
  rintro ⟨D,hc1⟩
  have hc1:a4z E A (A.drop D) D = some p141:=hc1
  refine (show awp Tryz.prog false 0 _ (ofL [(1,(.lst 3 (A.map a0f))),(2,(.ptr 0 0 0)),(8,(.lst 3 (A.map a0f))),(9,(.I (A.length:Int))),(10,(.I (D:Int)))]) [.box 4 (.agg [(.str E.Name),(.lst 8 (E.Columns.map o5)),(.lst 1 (E.Unique.map encI)),(.bool E.Root)])] _ from ?_)
  rcases a6c A D with ⟨hie144,hd147⟩ | ⟨hlt142,B,hx143,hd147⟩
  ·rw [hd147,a4z.eq_1] at hc1
   have hq146:=dlf hie144
   refine sr<|o8 (.bool (decide ((D:Int) < (A.length:Int)))) rfl rfl rfl<|dk<|o7<|y9 rfl hq146<|a3i<|a3h<|a2e<|a3g<|?_;obtain rfl:=os hc1;exact a4b ⟨_,rfl⟩ ⟨[],[],_,_,rfl,rfl,tr,.r⟩
  ·rw [hd147,a4z.eq_2] at hc1
   have hq146:=dlt hlt142
   refine sr<|o8 (.bool (decide ((D:Int) < (A.length:Int)))) rfl rfl rfl<|dk<|o7<|y8 rfl hq146<|a0k<|a0m<|o7<|a3y<|sr<|l7 (.I (D:Int)) rfl<|x8 (a1o (enc:=a0f) rfl rfl hx143)<|o8 (a0f B) rfl nle rfl<|x8 (a1j (j:=1) (c:=(.agg [(.str []),.nil,.nil])) rfl tr rfl rfl)<|l7 (.I (D:Int)) rfl<|a3o (a0e (v:=(.agg [(.str B.Column),(.lst 3 (B.Value.map l9)),(.lst 1 (B.Names.map AV.str))])) (y':=(.agg [(.str B.Column),(.lst 3 (B.Value.map l9)),(.lst 1 (B.Names.map AV.str))])) rfl rfl rfl tr ⟨rfl,nle⟩ ⟨⟨rfl,tr⟩,⟨⟨rfl,tr⟩,⟨⟨rfl,tr⟩,tr⟩⟩⟩ rfl)<|?_
   refine dk<|sr<|?_
   obtain ⟨F,er150,hc1⟩:=ob hc1
   refine o8 (.agg [(.str E.Name),(.lst 8 (E.Columns.map o5)),(.lst 1 (E.Unique.map encI)),(.bool E.Root)]) rfl nle rfl<|o8 (.ptr 1 0 0) rfl tr rfl<|o8 (.str B.Column) rfl nle rfl<|x8 (a0j (a8h _ _ _ er150) rfl .r rfl)<|l7 (.I F) rfl<|dk<|a3y<|sr<|l7 (.I F) rfl<|o8 (.bool (decide (F < 0))) rfl rfl rfl<|l7 (.bool (decide (F < 0))) rfl<|dk<|?_
   rcases oi hc1 with ⟨c151,hc1⟩ | ⟨c151,hc1⟩
   ·refine y8 rfl c151<|sr<|l7 (.I 11) rfl<|dk<|a0b<|?_;obtain rfl:=os hc1;obtain rfl:=os hf;exact y7 ⟨tr,tr⟩ rfl .r
   ·refine y9 rfl (bf c151)<|sr<|?_
    obtain ⟨g152,hc1⟩:=og hc1
    obtain ⟨M,er154,hc1⟩:=ob hc1
    refine l7 (.lst 3 (A.map a0f)) rfl<|l7 (.I (D:Int)) rfl<|x8 (d7r (enc:=a0f) rfl rfl g152.1 g152.2)<|o8 (.fn 342 [(.ptr 1 0 0)]) rfl tr rfl<|?_;refine x8 (a0j (a6z _ _ _ er154 342 [(.iptr (a0f B) 0)] (by kernel_rfl) (fun _ _ => rfl) (fun _ => rfl) (fun a0 r h => c0w a0 B r h)) rfl .r rfl) ?_;refine l7 (.bool M) rfl<|dk<|?_
    rcases oi hc1 with ⟨c155,hc1⟩ | ⟨c155,hc1⟩
    ·refine y8 rfl c155<|sr<|l7 (.I 8) rfl<|dk<|a0b<|?_;obtain rfl:=os hc1;obtain rfl:=os hf;exact y7 ⟨tr,tr⟩ rfl .r
    ·refine y9 rfl (bf c155)<|o7<|?_
     obtain ⟨L,hb2,hc1⟩:=ob hc1
     refine a1k ([(1,(.lst 3 (A.map a0f))),(2,(.ptr 0 0 0)),(8,(.lst 3 (A.map a0f))),(9,(.I (A.length:Int))),(10,(.I (D:Int))),(28,(.bool L))],[.box 4 (.agg [(.str E.Name),(.lst 8 (E.Columns.map o5)),(.lst 1 (E.Unique.map encI)),(.bool E.Root)])]) ?_ ?_
     ·refine a0r<|o8 (.ptr 1 0 1) rfl tr rfl<|o8 (.lst 3 (B.Value.map l9)) rfl nle rfl<|a1i (a1p (enc:=l9) rfl) fun hl174 => o8 (.bool (decide ((B.Value.length:Int) > 0))) rfl rfl rfl<|l7 (.bool (decide ((B.Value.length:Int) > 0))) rfl<|?_
      rcases oi hb2 with ⟨c175,hb2⟩ | ⟨c175,hb2⟩
      ·refine a0i (s:=33) (b:=true) rfl c175<|s_on rfl<|o8 (.ptr 1 0 1) rfl tr rfl<|s_on rfl<|o8 (.lst 3 (B.Value.map l9)) rfl nle rfl<|s_on rfl<|?_
       obtain ⟨J,ex177,hb2⟩:=ob hb2
       refine x8 (a2t (enc:=l9) rfl rfl (a8n ex177) (a8o ex177))<|s_on rfl<|o8 (.iptr (l9 J) 0) rfl tr rfl<|s_on rfl<|o8 (.I J.Kind) rfl nle rfl<|s_on rfl<|o8 (.ptr 0 0 1) rfl tr rfl<|s_on rfl<|o8 (.lst 8 (E.Columns.map o5)) rfl nle rfl<|s_on rfl<|l7 (.I F) rfl<|s_on rfl<|?_
       obtain ⟨K,ex179,hb2⟩:=ob hb2
       refine x8 (a2t (enc:=o5) rfl rfl (a8n ex179) (a8o ex179))<|s_on rfl<|o8 (.iptr (o5 K) 1) rfl tr rfl<|s_on rfl<|o8 (.I K.Kind) rfl nle rfl<|s_on rfl<|o8 (.bool (J.Kind != K.Kind)) rfl rfl rfl<|o8 (.bool (J.Kind != K.Kind)) rfl tr rfl<|l7 (.bool (J.Kind != K.Kind)) rfl<|?_
       rcases oi hb2 with ⟨c181,hb2⟩ | ⟨c181,hb2⟩
       ·refine a0i (s:=47) (b:=true) rfl c181<|o6 rfl rfl<|o6 rfl rfl<|o6 rfl rfl<|o6 rfl rfl<|o6 rfl rfl<|a0x rfl<|a0x rfl<|a0x rfl<|a0x rfl<|a0x rfl<|a0x rfl<|a0x rfl<|o6 rfl rfl<|o8 (.bool true) rfl tr rfl<|l7 (.bool true) rfl<|y5<|?_;obtain rfl:=os hb2;exact ⟨[],[0],_,_,rfl,rfl,⟨.r,⟨.r,⟨.r,⟨.r,⟨.r,⟨.r,tr⟩⟩⟩⟩⟩⟩,.r⟩
       ·refine a0i (s:=47) (b:=false) rfl (bf c181)<|s_on rfl<|o8 (.ptr 1 0 2) rfl tr rfl<|s_on rfl<|o8 (.lst 1 (B.Names.map AV.str)) rfl nle rfl<|s_on rfl<|a1i (a1p (enc:=AV.str) rfl) fun hl182 => s_on rfl<|o8 (.bool (decide ((B.Names.length:Int) > 0))) rfl rfl rfl<|s_on rfl<|l7 (.bool (decide ((B.Names.length:Int) > 0))) rfl<|?_
        rcases oi hb2 with ⟨c183,hb2⟩ | ⟨c183,hb2⟩
        ·refine a0i (s:=52) (b:=true) rfl c183<|s_on rfl<|o8 (.ptr 0 0 1) rfl tr rfl<|s_on rfl<|o8 (.lst 8 (E.Columns.map o5)) rfl nle rfl<|s_on rfl<|l7 (.I F) rfl<|s_on rfl<|?_
         obtain ⟨G,ex185,hb2⟩:=ob hb2
         refine x8 (a2t (enc:=o5) rfl rfl (a8n ex185) (a8o ex185))<|s_on rfl<|o8 (.iptr (o5 G) 1) rfl tr rfl<|s_on rfl<|o8 (.I G.Kind) rfl nle rfl<|s_on rfl<|o8 (.bool (G.Kind != 4)) rfl rfl rfl<|s_on rfl<|o8 (.bool (G.Kind != 4)) rfl tr rfl<|o8 (.bool (G.Kind != 4)) rfl tr rfl<|l7 (.bool (G.Kind != 4)) rfl<|y5<|?_;obtain rfl:=os hb2;exact ⟨[],[0],_,_,rfl,rfl,⟨.r,⟨.r,⟨.r,⟨.r,⟨.r,⟨.r,tr⟩⟩⟩⟩⟩⟩,.r⟩
        ·refine a0i (s:=52) (b:=false) rfl (bf c183)<|o6 rfl rfl<|o6 rfl rfl<|o6 rfl rfl<|o6 rfl rfl<|o6 rfl rfl<|o6 rfl rfl<|o6 rfl rfl<|s_on rfl<|o8 (.bool false) rfl tr rfl<|o8 (.bool false) rfl tr rfl<|l7 (.bool false) rfl<|y5<|?_;obtain rfl:=os hb2;exact ⟨[],[0],_,_,rfl,rfl,⟨.r,⟨.r,⟨.r,⟨.r,⟨.r,⟨.r,tr⟩⟩⟩⟩⟩⟩,.r⟩
      ·refine a0i (s:=33) (b:=false) rfl (bf c175)<|o6 rfl rfl<|o6 rfl rfl<|o6 rfl rfl<|o6 rfl rfl<|o6 rfl rfl<|o6 rfl rfl<|o6 rfl rfl<|o6 rfl rfl<|o6 rfl rfl<|o6 rfl rfl<|o6 rfl rfl<|o6 rfl rfl<|o8 (.bool false) rfl tr rfl<|l7 (.bool false) rfl<|s_on rfl<|o8 (.ptr 1 0 2) rfl tr rfl<|s_on rfl<|o8 (.lst 1 (B.Names.map AV.str)) rfl nle rfl<|s_on rfl<|a1i (a1p (enc:=AV.str) rfl) fun hl186 => s_on rfl<|o8 (.bool (decide ((B.Names.length:Int) > 0))) rfl rfl rfl<|s_on rfl<|l7 (.bool (decide ((B.Names.length:Int) > 0))) rfl<|?_
       rcases oi hb2 with ⟨c187,hb2⟩ | ⟨c187,hb2⟩
       ·refine a0i (s:=52) (b:=true) rfl c187<|s_on rfl<|o8 (.ptr 0 0 1) rfl tr rfl<|s_on rfl<|o8 (.lst 8 (E.Columns.map o5)) rfl nle rfl<|s_on rfl<|l7 (.I F) rfl<|s_on rfl<|?_
        obtain ⟨H,ex189,hb2⟩:=ob hb2
        refine x8 (a2t (enc:=o5) rfl rfl (a8n ex189) (a8o ex189))<|s_on rfl<|o8 (.iptr (o5 H) 1) rfl tr rfl<|s_on rfl<|o8 (.I H.Kind) rfl nle rfl<|s_on rfl<|o8 (.bool (H.Kind != 4)) rfl rfl rfl<|s_on rfl<|o8 (.bool (H.Kind != 4)) rfl tr rfl<|o8 (.bool (H.Kind != 4)) rfl tr rfl<|l7 (.bool (H.Kind != 4)) rfl<|y5<|?_;obtain rfl:=os hb2;exact ⟨[],[0],_,_,rfl,rfl,⟨.r,⟨.r,⟨.r,⟨.r,⟨.r,⟨.r,tr⟩⟩⟩⟩⟩⟩,.r⟩
       ·refine a0i (s:=52) (b:=false) rfl (bf c187)<|o6 rfl rfl<|o6 rfl rfl<|o6 rfl rfl<|o6 rfl rfl<|o6 rfl rfl<|o6 rfl rfl<|o6 rfl rfl<|s_on rfl<|o8 (.bool false) rfl tr rfl<|o8 (.bool false) rfl tr rfl<|l7 (.bool false) rfl<|y5<|?_;obtain rfl:=os hb2;exact ⟨[],[0],_,_,rfl,rfl,⟨.r,⟨.r,⟨.r,⟨.r,⟨.r,⟨.r,tr⟩⟩⟩⟩⟩⟩,.r⟩
     ·rcases oi hc1 with ⟨c190,hc1⟩ | ⟨c190,hc1⟩
      ·refine y8 rfl c190<|sr<|l7 (.I 9) rfl<|dk<|a0b<|?_;obtain rfl:=os hc1;obtain rfl:=os hf;exact y7 ⟨tr,tr⟩ rfl .r
      ·refine y9 rfl (bf c190)<|a0k<|a2y<|a2y<|a0m<|a0r<|o8 (.I (w64 ((D:Int) + 1))) rfl rfl rfl<|l7 (.I (w64 ((D:Int) + 1))) rfl<|y5<|?_;exact a1z ⟨(D + 1),hc1⟩ (mul hlt142) ⟨[],[0],_,_,rfl,rfl,⟨.r,⟨.r,⟨.r,⟨.r,⟨.of_eq (congrArg (AV.int _) (a1x hlt142 hl3)),tr⟩⟩⟩⟩⟩,.r⟩
 ·rintro ⟨_,rfl⟩
  refine sr<|l7 (.I 0) rfl<|dk<|a0b<|?_;obtain rfl:=os hf;exact y7 ⟨tr,tr⟩ rfl .r

/- (impl.Mut).typeCode -/
def e6a:a0s :=
 (.seq (.reg (tq 2 (.box 3 (.t 0)) (tq 3 (.box 8 (.t 1)) (tm 4 (.c (.int .i64 0)) .done))))
 (.seq (.block 0 (.seq (.reg (tq 6 (.faddr 2 (.t 2)) (tq 7 (.load 1 false (.t 6)) (tq 8 (.len (.t 7)) (tq 9 (.bin .gtr (.t 8) (.c (.int .i64 0))) (tm 10 (.t 9) (tg 11 10 true (.faddr 2 (.t 2)) (tg 12 10 true (.load 1 false (.t 11)) (tg 13 10 true (.iaddr 3 (.t 12) (.c (.int .i64 0))) (tg 14 10 true (.faddr 0 (.t 13)) (tg 15 10 true (.load 1 false (.t 14)) (tg 16 10 true (.faddr 1 (.t 3)) (tg 17 10 true (.load 1 false (.t 16)) (tg 18 10 true (.bin .neq (.t 15) (.t 17)) (tq 19 (.pick (.t 10) (.t 18) (.c (.bool false))) (tm 5 (.t 19) .done))))))))))))))))
 (.cut (.cond (.t 5) (.seq (.reg (tm 4 (.c (.int .i64 9)) .done))
 .ret)
 (.seq (.reg (tq 21 (.faddr 1 (.t 2)) (tq 22 (.load 1 false (.t 21)) (tq 23 (.bin .leq (.t 22) (.c (.int .i64 5))) (tm 24 (.t 23) (tg 25 24 true (.faddr 1 (.t 3)) (tg 26 24 true (.load 1 false (.t 25)) (tg 27 24 true (.bin .neq (.t 26) (.c (.int .i64 1))) (tg 28 24 true (.mov (.t 27)) (tg 29 28 false (.faddr 2 (.t 2)) (tg 30 28 false (.load 1 false (.t 29)) (tg 31 28 false (.len (.t 30)) (tg 32 28 false (.bin .neq (.t 31) (.c (.int .i64 1))) (tg 33 24 true (.pick (.t 28) (.c (.bool true)) (.t 32)) (tq 34 (.pick (.t 24) (.t 33) (.c (.bool false))) (tm 20 (.t 34) .done))))))))))))))))
 (.cut (.cond (.t 20) (.seq (.reg (tm 4 (.c (.int .i64 9)) .done))
 .ret)
 .skip)))))))
 (.seq (.reg (tm 4 (.c (.int .i64 0)) .done))
 .ret)))
theorem e6b:a1e Tryz.prog Tryz.f260 = some (e6a.erase,[.mov (.t 4)],35):=by kernel_rfl
def b0c (A:a5i) (B:a0v):Option Int :=
    ((if (decide ((A.Value.length:Int) > 0)) then
    (idx A.Value 0).bind fun D =>
    some (D.Kind != B.Kind)
    else
    some false:Option Bool)).bind fun E =>
    if E then
    some 9
    else
    ((some ():Option Unit)).bind fun _ =>
    if (bif (decide (A.Func ≤ 5)) then (bif (B.Kind != 1) then true else ((A.Value.length:Int) != 1)) else false) then
    some 9
    else
    some 0
theorem b8r (A:a5i) (B:a0v) (r:Int) (hf:b0c A B = some r):a0a Tryz.prog 260 .flat [(a0o A),(o5 B)] (.I r):=by
 refine a0a.of_awp mixed Tryz.func260 e6b nle ?_;rw [a0n];unfold b0c at hf;unfold e6a;refine (show awp Tryz.prog false 0 _ (ofL [(0,(a0o A)),(1,(o5 B))]) [] _ from ?_);refine sr<|x8 (a1j (j:=0) (c:=(.agg [(.str A.Column),(.I A.Func),(.lst 3 (A.Value.map l9))])) rfl tr rfl rfl)<|x8 (a1j (j:=1) (c:=(.agg [(.str B.Name),(.I B.Kind),(.I B.Min),(.I B.Max),(.I B.Low),(.I B.High),(.str B.Ref),(.bool B.Strong)])) rfl tr rfl rfl)<|l7 (.I 0) rfl<|dk<|o7<|a3y<|o7<|?_
 obtain ⟨E,hb1,hf⟩:=ob hf
 refine a1k ([(2,(.ptr 0 0 0)),(3,(.ptr 1 0 0)),(5,(.bool E))],[.box 3 (.agg [(.str A.Column),(.I A.Func),(.lst 3 (A.Value.map l9))]),.box 8 (.agg [(.str B.Name),(.I B.Kind),(.I B.Min),(.I B.Max),(.I B.Low),(.I B.High),(.str B.Ref),(.bool B.Strong)])]) ?_ ?_
 ·refine a0r<|o8 (.ptr 0 0 2) rfl tr rfl<|o8 (.lst 3 (A.Value.map l9)) rfl nle rfl<|a1i (a1p (enc:=l9) rfl) fun hl9 => o8 (.bool (decide ((A.Value.length:Int) > 0))) rfl rfl rfl<|l7 (.bool (decide ((A.Value.length:Int) > 0))) rfl<|?_
  rcases oi hb1 with ⟨c10,hb1⟩ | ⟨c10,hb1⟩
  ·refine a0i (s:=10) (b:=true) rfl c10<|s_on rfl<|o8 (.ptr 0 0 2) rfl tr rfl<|s_on rfl<|o8 (.lst 3 (A.Value.map l9)) rfl nle rfl<|s_on rfl<|?_
   obtain ⟨D,ex12,hb1⟩:=ob hb1
   refine x8 (a2t (enc:=l9) rfl rfl (a8n ex12) (a8o ex12))<|s_on rfl<|o8 (.iptr (l9 D) 0) rfl tr rfl<|s_on rfl<|o8 (.I D.Kind) rfl nle rfl<|s_on rfl<|o8 (.ptr 1 0 1) rfl tr rfl<|s_on rfl<|o8 (.I B.Kind) rfl nle rfl<|s_on rfl<|o8 (.bool (D.Kind != B.Kind)) rfl rfl rfl<|o8 (.bool (D.Kind != B.Kind)) rfl tr rfl<|l7 (.bool (D.Kind != B.Kind)) rfl<|y5<|?_;obtain rfl:=os hb1;exact ⟨[],[0,1],_,_,rfl,rfl,⟨.r,⟨.r,⟨.r,tr⟩⟩⟩,.r⟩
  ·refine a0i (s:=10) (b:=false) rfl (bf c10)<|o6 rfl rfl<|o6 rfl rfl<|o6 rfl rfl<|o6 rfl rfl<|o6 rfl rfl<|o6 rfl rfl<|o6 rfl rfl<|o6 rfl rfl<|o8 (.bool false) rfl tr rfl<|l7 (.bool false) rfl<|y5<|?_;obtain rfl:=os hb1;exact ⟨[],[0,1],_,_,rfl,rfl,⟨.r,⟨.r,⟨.r,tr⟩⟩⟩,.r⟩
 ·rcases oi hf with ⟨c13,hf⟩ | ⟨c13,hf⟩
  ·refine y8 rfl c13<|sr<|l7 (.I 9) rfl<|dk<|a0b<|?_;obtain rfl:=os hf;exact y7 ⟨tr,tr⟩ rfl .r
  ·refine y9 rfl (bf c13)<|o7<|?_
   obtain ⟨p15,hb1,hf⟩:=ob hf
   refine a1k ([(20,(.bool (bif (decide (A.Func ≤ 5)) then (bif (B.Kind != 1) then true else ((A.Value.length:Int) != 1)) else false)))],[]) ?_ ?_
   ·refine a0r<|o8 (.ptr 0 0 1) rfl tr rfl<|o8 (.I A.Func) rfl nle rfl<|o8 (.bool (decide (A.Func ≤ 5))) rfl rfl rfl<|l7 (.bool (decide (A.Func ≤ 5))) rfl<|?_;refine s_g (v:=(decide (A.Func ≤ 5))) (.ptr 1 0 1) rfl (fun hv => by (try simp only [o9 hv]);exact ⟨rfl,tr,rfl⟩) ?_;refine s_g (v:=(decide (A.Func ≤ 5))) (.I B.Kind) rfl (fun hv => by (try simp only [o9 hv]);exact ⟨rfl,nle,rfl⟩) ?_;refine s_g (v:=(decide (A.Func ≤ 5))) (.bool (B.Kind != 1)) rfl (fun hv => by (try simp only [o9 hv]);exact ⟨rfl,rfl,rfl⟩) ?_;refine s_g (v:=(decide (A.Func ≤ 5))) (.bool (B.Kind != 1)) rfl (fun hv => by (try simp only [o9 hv]);exact ⟨rfl,tr,rfl⟩) ?_
    refine a7t (v1:=(decide (A.Func ≤ 5))) (b1:=true) (v2:=(B.Kind != 1)) (.ptr 0 0 2) rfl (fun hv hw => by (try simp only [o9 hv,o9 hw]);exact ⟨rfl,tr,rfl⟩) ?_;refine a7t (v1:=(decide (A.Func ≤ 5))) (b1:=true) (v2:=(B.Kind != 1)) (.lst 3 (A.Value.map l9)) rfl (fun hv hw => by (try simp only [o9 hv,o9 hw]);exact ⟨rfl,nle,rfl⟩) ?_;refine a7t (v1:=(decide (A.Func ≤ 5))) (b1:=true) (v2:=(B.Kind != 1)) (.I (A.Value.length:Int)) rfl (fun hv hw => by (try simp only [o9 hv,o9 hw]);exact ⟨rfl,tr,lenV _ _⟩) ?_;refine a7t (v1:=(decide (A.Func ≤ 5))) (b1:=true) (v2:=(B.Kind != 1)) (.bool ((A.Value.length:Int) != 1)) rfl (fun hv hw => by (try simp only [o9 hv,o9 hw]);exact ⟨rfl,rfl,rfl⟩) ?_
    refine c0q (v1:=(decide (A.Func ≤ 5))) (b1:=true) (v2:=(B.Kind != 1)) (x:=true) (y:=((A.Value.length:Int) != 1)) rfl (fun hv => by (try simp only [o9 hv]);rfl) (fun hv hw => by (try simp only [o9 hv,o9 hw]);rfl) (fun hv hw => by (try simp only [o9 hv,o9 hw]);rfl) ?_;refine a2a (x:=(bif (B.Kind != 1) then true else ((A.Value.length:Int) != 1))) (y:=false) rfl (fun hv => by (try simp only [o9 hv]);rfl) (fun hv => by (try simp only [o9 hv]);rfl) ?_;refine l7 (.bool (bif (decide (A.Func ≤ 5)) then (bif (B.Kind != 1) then true else ((A.Value.length:Int) != 1)) else false)) rfl<|y5<|?_;obtain rfl:=os hb1;exact ⟨[],[],_,_,rfl,rfl,⟨.r,tr⟩,.r⟩
   ·rcases oi hf with ⟨c17,hf⟩ | ⟨c17,hf⟩
    ·refine y8 rfl c17<|sr<|l7 (.I 9) rfl<|dk<|a0b<|?_;obtain rfl:=os hf;exact y7 ⟨tr,tr⟩ rfl .r
    ·refine y9 rfl (bf c17)<|a0k<|a2y<|a0m<|sr<|l7 (.I 0) rfl<|dk<|a0b<|?_;obtain rfl:=os hf;exact y7 ⟨tr,tr⟩ rfl .r

/- impl.mutCode -/
def e6c:a0s :=
 (.seq (.reg (tq 2 (.box 4 (.t 0)) (tq 3 (.box 3 (.t 1)) (tm 4 (.c (.int .i64 0)) .done))))
 (.seq (.reg (tq 6 (.load 4 true (.t 2)) (tq 7 (.faddr 0 (.t 3)) (tq 8 (.load 1 false (.t 7)) (tq 9 (.call 254 [(.t 6),(.t 8)]) (tm 5 (.t 9) .done))))))
 (.seq (.seq (.reg (tm 10 (.t 5) (tq 11 (.bin .lss (.t 10) (.c (.int .i64 0))) .done)))
 (.cond (.t 11) (.seq (.reg (tm 4 (.c (.int .i64 11)) .done))
 .ret)
 .skip))
 (.seq (.reg (tq 12 (.load 3 true (.t 3)) (tq 13 (.faddr 1 (.t 2)) (tq 14 (.load 1 false (.t 13)) (tm 15 (.t 5) (tq 16 (.iaddr 8 (.t 14) (.t 15)) (tq 17 (.load 8 true (.t 16)) (.l ⟨(some 18),none,.call 260 [(.t 12),(.t 17)]⟩ []
 (tm 4 (.t 18) .done) .non))))))))
 .ret))))
theorem e6d:a1e Tryz.prog Tryz.f136 = some (e6c.erase,[.mov (.t 4)],19):=by kernel_rfl
def b2r (A:a0q) (B:a5i):Option Int :=
    (a4o A B.Column).bind fun D =>
    if (decide (D < 0)) then
    some 11
    else
    (idx A.Columns D).bind fun E =>
    (b0c B E).bind fun F =>
    some F
theorem c5d (A:a0q) (B:a5i) (r:Int) (hf:b2r A B = some r):a0a Tryz.prog 136 .flat [(x9 A),(a0o B)] (.I r):=by
 refine a0a.of_awp mixed Tryz.func136 e6d nle ?_;rw [a0n];unfold b2r at hf;unfold e6c;refine (show awp Tryz.prog false 0 _ (ofL [(0,(x9 A)),(1,(a0o B))]) [] _ from ?_);refine sr<|x8 (a1j (j:=0) (c:=(.agg [(.str A.Name),(.lst 8 (A.Columns.map o5)),(.lst 1 (A.Unique.map encI)),(.bool A.Root)])) rfl tr rfl rfl)<|x8 (a1j (j:=1) (c:=(.agg [(.str B.Column),(.I B.Func),(.lst 3 (B.Value.map l9))])) rfl tr rfl rfl)<|l7 (.I 0) rfl<|dk<|sr<|?_
 obtain ⟨D,er4,hf⟩:=ob hf
 refine o8 (.agg [(.str A.Name),(.lst 8 (A.Columns.map o5)),(.lst 1 (A.Unique.map encI)),(.bool A.Root)]) rfl nle rfl<|o8 (.ptr 1 0 0) rfl tr rfl<|o8 (.str B.Column) rfl nle rfl<|x8 (a0j (a8h _ _ _ er4) rfl .r rfl)<|l7 (.I D) rfl<|dk<|o7<|sr<|l7 (.I D) rfl<|o8 (.bool (decide (D < 0))) rfl rfl rfl<|dk<|?_
 rcases oi hf with ⟨c5,hf⟩ | ⟨c5,hf⟩
 ·refine y8 rfl c5<|sr<|l7 (.I 11) rfl<|dk<|a0b<|?_;obtain rfl:=os hf;exact y7 ⟨tr,tr⟩ rfl .r
 ·refine y9 rfl (bf c5)<|a0k<|a0m<|sr<|?_
  obtain ⟨E,ex7,hf⟩:=ob hf
  obtain ⟨F,er9,hf⟩:=ob hf
  refine o8 (.agg [(.str B.Column),(.I B.Func),(.lst 3 (B.Value.map l9))]) rfl nle rfl<|o8 (.ptr 0 0 1) rfl tr rfl<|o8 (.lst 8 (A.Columns.map o5)) rfl nle rfl<|l7 (.I D) rfl<|x8 (a2t (enc:=o5) rfl rfl (a8n ex7) (a8o ex7))<|o8 (o5 E) rfl nle rfl<|a1a (a0j (b8r _ _ _ er9) rfl .r rfl) a7h tr<|l7 (.I F) rfl<|dk<|a0b<|?_;obtain rfl:=os hf;exact y7 ⟨tr,tr⟩ rfl .r

/- impl.mutsCode -/
def e6e:a0s :=
 (.seq (.reg (tq 2 (.box 4 (.t 0)) (tm 4 (.c (.int .i64 0)) .done)))
 (.seq (.seq (.reg (tm 8 (.t 1) (tq 9 (.len (.t 8)) (tm 10 (.c (.int .i64 0)) .done))))
 (.block 0 (.loop (.seq (.reg (tq 11 (.bin .lss (.t 10) (.t 9)) .done))
 (.seq (.cond (.t 11) .skip
 (.exit 0))
 (.seq (.block 1 (.seq (.reg (tq 12 (.iaddr 3 (.t 8) (.t 10)) (tq 13 (.load 3 true (.t 12)) (tq 6 (.box 3 (.c (.agg [(.str []),(.int .i64 0),.nil]))) (.q ⟨none,none,.store 3 (.t 6) (.t 13)⟩
 .done)))))
 (.seq (.reg (tq 14 (.load 4 true (.t 2)) (tq 15 (.load 3 true (.t 6)) (tq 16 (.call 136 [(.t 14),(.t 15)]) (tm 7 (.t 16) .done)))))
 (.seq (.reg (tm 17 (.t 7) (tq 18 (.bin .neq (.t 17) (.c (.int .i64 0))) .done)))
 (.cond (.t 18) (.seq (.reg (tm 19 (.t 7) (tm 4 (.t 19) .done)))
 .ret)
 .skip)))))
 (.reg (tq 20 (.bin .add (.t 10) (.c (.int .i64 1))) (tm 10 (.t 20) .done)))))))))
 (.cut (.seq (.reg (tm 4 (.c (.int .i64 0)) .done))
 .ret))))
theorem e6f:a1e Tryz.prog Tryz.f126 = some (e6e.erase,[.mov (.t 4)],21):=by kernel_rfl
def a5a (B:a0q):List a5i → Option (Fl Int Unit)
  | [] =>
    some (.go ())
  | E :: xs =>
    (b2r B E).bind fun F =>
    if (F != 0) then
    some (.ret F)
    else
    a5a B xs 

def b1j (B:a0q) (A:(List a5i)):Option Int :=
    (a5a B A ).bind fun q => (match q with
    | .ret r => some r
    | .go _ =>
    some 0)
theorem c3b (B:a0q) (A:(List a5i)) (r:Int) (hf:b1j B A = some r):a0a Tryz.prog 126 .flat [(x9 B),(.lst 3 (A.map a0o))] (.I r):=by
 refine a0a.of_awp mixed Tryz.func126 e6f nle ?_;rw [a0n];unfold b1j at hf;unfold e6e;refine (show awp Tryz.prog false 0 _ (ofL [(0,(x9 B)),(1,(.lst 3 (A.map a0o)))]) [] _ from ?_);refine sr<|x8 (a1j (j:=0) (c:=(.agg [(.str B.Name),(.lst 8 (B.Columns.map o5)),(.lst 1 (B.Unique.map encI)),(.bool B.Root)])) rfl tr rfl rfl)<|l7 (.I 0) rfl<|dk<|o7<|sr<|l7 (.lst 3 (A.map a0o)) rfl<|a1i (a1p (enc:=a0o) rfl) fun hl3 => l7 (.I 0) rfl<|dk<|?_
 obtain ⟨p24,hb1,hf⟩:=ob hf
 refine a2c (X:={q:Unit // p24 = .go q}) (fun q => ([],[])) ?_ ?_
 ·refine a1v (X:={q:Nat // a5a B (A.drop q)  = some p24}) (fun q => ([(2,(.ptr 0 0 0)),(8,(.lst 3 (A.map a0o))),(9,(.I (A.length:Int))),(10,(.I (q.1:Int)))],[.box 4 (.agg [(.str B.Name),(.lst 8 (B.Columns.map o5)),(.lst 1 (B.Unique.map encI)),(.bool B.Root)])])) (fun q => A.length - q.1) ⟨0,hb1⟩ ⟨[],[0],_,_,rfl,rfl,⟨.r,⟨.r,⟨.r,⟨.r,tr⟩⟩⟩⟩,.r⟩ ?_
  rintro ⟨D,hc1⟩
  have hc1:a5a B (A.drop D)  = some p24:=hc1
  refine (show awp Tryz.prog false 0 _ (ofL [(2,(.ptr 0 0 0)),(8,(.lst 3 (A.map a0o))),(9,(.I (A.length:Int))),(10,(.I (D:Int)))]) [.box 4 (.agg [(.str B.Name),(.lst 8 (B.Columns.map o5)),(.lst 1 (B.Unique.map encI)),(.bool B.Root)])] _ from ?_)
  rcases a6c A D with ⟨hie27,hd30⟩ | ⟨hlt25,E,hx26,hd30⟩
  ·rw [hd30,a5a.eq_1] at hc1
   have hq29:=dlf hie27
   refine sr<|o8 (.bool (decide ((D:Int) < (A.length:Int)))) rfl rfl rfl<|dk<|o7<|y9 rfl hq29<|a3i<|a3h<|a2e<|a3g<|?_;obtain rfl:=os hc1;exact a4b ⟨_,rfl⟩ ⟨[],[],_,_,rfl,rfl,tr,.r⟩
  ·rw [hd30,a5a.eq_2] at hc1
   have hq29:=dlt hlt25
   refine sr<|o8 (.bool (decide ((D:Int) < (A.length:Int)))) rfl rfl rfl<|dk<|o7<|y8 rfl hq29<|a0k<|a0m<|o7<|a3y<|sr<|x8 (a1o (enc:=a0o) rfl rfl hx26)<|o8 (a0o E) rfl nle rfl<|x8 (a1j (j:=1) (c:=(.agg [(.str []),(.I 0),.nil])) rfl tr rfl rfl)<|a3o (a0e (v:=(.agg [(.str E.Column),(.I E.Func),(.lst 3 (E.Value.map l9))])) (y':=(.agg [(.str E.Column),(.I E.Func),(.lst 3 (E.Value.map l9))])) rfl rfl rfl tr ⟨rfl,nle⟩ ⟨⟨rfl,tr⟩,⟨⟨rfl,tr⟩,⟨⟨rfl,tr⟩,tr⟩⟩⟩ rfl)<|dk<|?_
   refine sr<|?_
   obtain ⟨F,er33,hc1⟩:=ob hc1
   refine o8 (.agg [(.str B.Name),(.lst 8 (B.Columns.map o5)),(.lst 1 (B.Unique.map encI)),(.bool B.Root)]) rfl nle rfl<|o8 (.agg [(.str E.Column),(.I E.Func),(.lst 3 (E.Value.map l9))]) rfl nle rfl<|x8 (a0j (c5d _ _ _ er33) rfl .r rfl)<|l7 (.I F) rfl<|dk<|sr<|l7 (.I F) rfl<|o8 (.bool (F != 0)) rfl rfl rfl<|dk<|?_
   rcases oi hc1 with ⟨c34,hc1⟩ | ⟨c34,hc1⟩
   ·refine y8 rfl c34<|sr<|l7 (.I F) rfl<|l7 (.I F) rfl<|dk<|a0b<|?_;obtain rfl:=os hc1;obtain rfl:=os hf;exact y7 ⟨tr,tr⟩ rfl .r
   ·refine y9 rfl (bf c34)<|a0k<|a2y<|a0m<|a0r<|o8 (.I (w64 ((D:Int) + 1))) rfl rfl rfl<|l7 (.I (w64 ((D:Int) + 1))) rfl<|y5<|?_;exact a1z ⟨(D + 1),hc1⟩ (mul hlt25) ⟨[],[0],_,_,rfl,rfl,⟨.r,⟨.r,⟨.r,⟨.of_eq (congrArg (AV.int _) (a1x hlt25 hl3)),tr⟩⟩⟩⟩,.r⟩
 ·rintro ⟨_,rfl⟩
  refine sr<|l7 (.I 0) rfl<|dk<|a0b<|?_;obtain rfl:=os hf;exact y7 ⟨tr,tr⟩ rfl .r

/- impl.firstOf -/
def c228:a0s :=
 (.seq (.reg (tm 2 (.c (.int .i64 0)) .done))
 (.seq (.seq (.reg (tm 5 (.t 0) (tq 6 (.len (.t 5)) (tm 7 (.c (.int .i64 0)) .done))))
 (.block 0 (.loop (.seq (.reg (tq 8 (.bin .lss (.t 7) (.t 6)) .done))
 (.seq (.cond (.t 8) .skip
 (.exit 0))
 (.seq (.block 1 (.seq (.reg (tq 9 (.iaddr 1 (.t 5) (.t 7)) (tq 10 (.load 1 false (.t 9)) (tm 4 (.t 10) .done))))
 (.seq (.reg (tm 11 (.t 4) (tq 12 (.bin .neq (.t 11) (.c (.int .i64 0))) .done)))
 (.cond (.t 12) (.seq (.reg (tm 13 (.t 4) (tm 2 (.t 13) .done)))
 .ret)
 .skip))))
 (.reg (tq 14 (.bin .add (.t 7) (.c (.int .i64 1))) (tm 7 (.t 14) .done)))))))))
 (.cut (.seq (.reg (tm 2 (.c (.int .i64 0)) .done))
 .ret))))
theorem e6g:a1e Tryz.prog Tryz.f228 = some (c228.erase,[.mov (.t 2)],15):=by kernel_rfl
def a7p :List Int → Option (Fl Int Unit)
  | [] =>
    some (.go ())
  | D :: xs =>
    if (D != 0) then
    some (.ret D)
    else
    a7p xs 

def b2s (A:(List Int)):Option Int :=
    (a7p A ).bind fun q => (match q with
    | .ret r => some r
    | .go _ =>
    some 0)
theorem c5e (A:(List Int)) (r:Int) (hf:b2s A = some r):a0a Tryz.prog 228 .flat [(.lst 1 (A.map encI))] (.I r):=by
 refine a0a.of_awp mixed Tryz.func228 e6g nle ?_;rw [a0n];unfold b2s at hf;unfold c228;refine (show awp Tryz.prog false 0 _ (ofL [(0,(.lst 1 (A.map encI)))]) [] _ from ?_);refine sr<|l7 (.I 0) rfl<|dk<|o7<|sr<|l7 (.lst 1 (A.map encI)) rfl<|a1i (a1p (enc:=encI) rfl) fun hl2 => l7 (.I 0) rfl<|dk<|?_
 obtain ⟨p17,hb1,hf⟩:=ob hf
 refine a2c (X:={q:Unit // p17 = .go q}) (fun q => ([],[])) ?_ ?_
 ·refine a1v (X:={q:Nat // a7p (A.drop q)  = some p17}) (fun q => ([(5,(.lst 1 (A.map encI))),(6,(.I (A.length:Int))),(7,(.I (q.1:Int)))],[])) (fun q => A.length - q.1) ⟨0,hb1⟩ ⟨[],[],_,_,rfl,rfl,⟨.r,⟨.r,⟨.r,tr⟩⟩⟩,.r⟩ ?_
  rintro ⟨B,hc1⟩
  have hc1:a7p (A.drop B)  = some p17:=hc1
  refine (show awp Tryz.prog false 0 _ (ofL [(5,(.lst 1 (A.map encI))),(6,(.I (A.length:Int))),(7,(.I (B:Int)))]) [] _ from ?_)
  rcases a6c A B with ⟨hie20,hd23⟩ | ⟨hlt18,D,hx19,hd23⟩
  ·rw [hd23,a7p.eq_1] at hc1
   have hq22:=dlf hie20
   refine sr<|o8 (.bool (decide ((B:Int) < (A.length:Int)))) rfl rfl rfl<|dk<|o7<|y9 rfl hq22<|a3i<|a3h<|a2e<|a3g<|?_;obtain rfl:=os hc1;exact a4b ⟨_,rfl⟩ ⟨[],[],_,_,rfl,rfl,tr,.r⟩
  ·rw [hd23,a7p.eq_2] at hc1
   have hq22:=dlt hlt18
   refine sr<|o8 (.bool (decide ((B:Int) < (A.length:Int)))) rfl rfl rfl<|dk<|o7<|y8 rfl hq22<|a0k<|a0m<|o7<|a3y<|sr<|x8 (a1o (enc:=encI) rfl rfl hx19)<|o8 (.I D) rfl ⟨rfl,rfl⟩ rfl<|l7 (.I D) rfl<|dk<|sr<|l7 (.I D) rfl<|o8 (.bool (D != 0)) rfl rfl rfl<|dk<|?_
   rcases oi hc1 with ⟨c25,hc1⟩ | ⟨c25,hc1⟩
   ·refine y8 rfl c25<|sr<|l7 (.I D) rfl<|l7 (.I D) rfl<|dk<|a0b<|?_;obtain rfl:=os hc1;obtain rfl:=os hf;exact y7 ⟨tr,tr⟩ rfl .r
   ·refine y9 rfl (bf c25)<|a0k<|a2y<|a0m<|a0r<|o8 (.I (w64 ((B:Int) + 1))) rfl rfl rfl<|l7 (.I (w64 ((B:Int) + 1))) rfl<|y5<|?_;exact a1z ⟨(B + 1),hc1⟩ (mul hlt18) ⟨[],[],_,_,rfl,rfl,⟨.r,⟨.r,⟨.of_eq (congrArg (AV.int _) (a1x hlt18 hl2)),tr⟩⟩⟩,.r⟩
 ·rintro ⟨_,rfl⟩
  refine sr<|l7 (.I 0) rfl<|dk<|a0b<|?_;obtain rfl:=os hf;exact y7 ⟨tr,tr⟩ rfl .r

/- impl.opCode -/
def c105:a0s :=
 (.seq (.reg (tq 2 (.box 1 (.t 0)) (tq 3 (.box 8 (.t 1)) (tm 4 (.c (.int .i64 0)) .done))))
 (.seq (.seq (.reg (tq 7 (.faddr 0 (.t 3)) (tq 8 (.load 1 false (.t 7)) (tq 9 (.bin .gtr (.t 8) (.c (.int .i64 6))) .done))))
 (.cond (.t 9) (.seq (.seq (.reg (tq 10 (.faddr 0 (.t 3)) (tq 11 (.load 1 false (.t 10)) (tq 12 (.bin .eql (.t 11) (.c (.int .i64 10))) (tm 13 (.t 12) (tg 14 13 true (.faddr 2 (.t 3)) (tg 15 13 true (.load 1 false (.t 14)) (tg 16 13 true (.call 117 [(.t 15)]) (tg 17 13 true (.not (.t 16)) (tq 18 (.pick (.t 13) (.t 17) (.c (.bool false))) .done))))))))))
 (.cut (.cond (.t 18) (.seq (.reg (tm 4 (.c (.int .i64 3)) .done))
 .ret)
 .skip)))
 (.seq (.reg (tm 4 (.c (.int .i64 0)) .done))
 .ret))
 .skip))
 (.seq (.reg (tq 19 (.load 1 true (.t 2)) (tq 20 (.faddr 1 (.t 3)) (tq 21 (.load 1 false (.t 20)) (tq 22 (.call 227 [(.t 19),(.t 21)]) (tm 5 (.t 22) .done))))))
 (.seq (.block 0 (.seq (.reg (tm 24 (.t 5) (tq 25 (.bin .lss (.t 24) (.c (.int .i64 0))) (tm 23 (.t 25) .done))))
 (.cond (.t 23) (.seq (.reg (tm 4 (.c (.int .i64 10)) .done))
 .ret)
 (.seq (.reg (tq 27 (.faddr 2 (.t 3)) (tq 28 (.load 1 false (.t 27)) (tq 29 (.bin .neq (.t 28) (.c (.str []))) (tm 30 (.t 29) (tg 31 30 true (.faddr 2 (.t 3)) (tg 32 30 true (.load 1 false (.t 31)) (tg 33 30 true (.call 117 [(.t 32)]) (tg 34 30 true (.not (.t 33)) (tq 35 (.pick (.t 30) (.t 34) (.c (.bool false))) (tm 26 (.t 35) .done)))))))))))
 (.cut (.cond (.t 26) (.seq (.reg (tm 4 (.c (.int .i64 3)) .done))
 .ret)
 .skip))))))
 (.seq (.reg (tq 36 (.faddr 0 (.t 2)) (tq 37 (.load 1 false (.t 36)) (tm 38 (.t 5) (tq 39 (.iaddr 4 (.t 37) (.t 38)) (tq 40 (.load 4 true (.t 39)) (tq 6 (.box 4 (.c (.agg [(.str []),.nil,.nil,(.bool false)]))) (.q ⟨none,none,.store 4 (.t 6) (.t 40)⟩
 .done))))))))
 (.seq (.reg (tq 41 (.load 4 true (.t 6)) (tq 42 (.faddr 6 (.t 3)) (tq 43 (.load 1 false (.t 42)) (tq 45 (.load 4 true (.t 6)) (tq 46 (.faddr 3 (.t 3)) (tq 47 (.load 1 false (.t 46)) (tq 49 (.load 4 true (.t 6)) (tq 50 (.faddr 4 (.t 3)) (tq 51 (.load 1 false (.t 50)) (tq 53 (.load 4 true (.t 6)) (tq 54 (.faddr 5 (.t 3)) (tq 55 (.load 1 false (.t 54)) (.l ⟨(some 44),none,.call 229 [(.t 41),(.t 43)]⟩ [⟨(some 55),none,.load 1 false (.t 54)⟩,⟨(some 54),none,.faddr 5 (.t 3)⟩,⟨(some 53),none,.load 4 true (.t 6)⟩,⟨(some 51),none,.load 1 false (.t 50)⟩,⟨(some 50),none,.faddr 4 (.t 3)⟩,⟨(some 49),none,.load 4 true (.t 6)⟩,⟨(some 47),none,.load 1 false (.t 46)⟩,⟨(some 46),none,.faddr 3 (.t 3)⟩,⟨(some 45),none,.load 4 true (.t 6)⟩]
 (.l ⟨(some 48),none,.call 230 [(.t 45),(.t 47)]⟩ [⟨(some 55),none,.load 1 false (.t 54)⟩,⟨(some 54),none,.faddr 5 (.t 3)⟩,⟨(some 53),none,.load 4 true (.t 6)⟩,⟨(some 51),none,.load 1 false (.t 50)⟩,⟨(some 50),none,.faddr 4 (.t 3)⟩,⟨(some 49),none,.load 4 true (.t 6)⟩]
 (.l ⟨(some 52),none,.call 231 [(.t 49),(.t 51)]⟩ [⟨(some 55),none,.load 1 false (.t 54)⟩,⟨(some 54),none,.faddr 5 (.t 3)⟩,⟨(some 53),none,.load 4 true (.t 6)⟩]
 (.l ⟨(some 56),none,.call 126 [(.t 53),(.t 55)]⟩ []
 (.l ⟨(some 57),none,.bslice 1 [(.t 44),(.t 48),(.t 52),(.t 56)]⟩ []
 (.l ⟨(some 58),none,.call 228 [(.t 57)]⟩ []
 (tm 4 (.t 58) .done) .non) .non) .non) .non) .non) .non))))))))))))))
 .ret))))))
theorem e6h:a1e Tryz.prog Tryz.f105 = some (c105.erase,[.mov (.t 4)],59):=by kernel_rfl
def b3z (E:a2q) (A:GOp):Option Int :=
    if (decide (A.Kind > 6)) then
    ((if (A.Kind == 10) then
    (a7i A.Name).bind fun H =>
    some (!H)
    else
    some false:Option Bool)).bind fun J =>
    if J then
    some 3
    else
    some 0
    else
    (a6q E A.Table).bind fun D =>
    if (decide (D < 0)) then
    some 10
    else
    ((if (!(A.Name == [])) then
    (a7i A.Name).bind fun F =>
    some (!F)
    else
    some false:Option Bool)).bind fun G =>
    if G then
    some 3
    else
    (idx E.Tables D).bind fun B =>
    (a9d B A.Columns).bind fun K =>
    (b0o B A.Where).bind fun L =>
    (b1i B A.Row).bind fun M =>
    (b1j B A.Muts).bind fun N =>
    (b2s [K,L,M,N]).bind fun O =>
    some O
theorem c6p (E:a2q) (A:GOp) (r:Int) (hf:b3z E A = some r):a0a Tryz.prog 105 .flat [(a2x E),(a2u A)] (.I r):=by
 refine a0a.of_awp mixed Tryz.func105 e6h nle ?_;rw [a0n];unfold b3z at hf;unfold c105;refine (show awp Tryz.prog false 0 _ (ofL [(0,(a2x E)),(1,(a2u A))]) [] _ from ?_);refine sr<|x8 (a1j (j:=0) (c:=(.agg [(.lst 4 (E.Tables.map x9))])) rfl tr rfl rfl)<|x8 (a1j (j:=1) (c:=(.agg [(.I A.Kind),(.str A.Table),(.str A.Name),(.lst 3 (A.Where.map a0d)),(.lst 3 (A.Row.map a0f)),(.lst 3 (A.Muts.map a0o)),(.lst 1 (A.Columns.map AV.str)),(.bool A.Until)])) rfl tr rfl rfl)<|l7 (.I 0) rfl<|dk<|o7<|sr<|o8 (.ptr 1 0 0) rfl tr rfl<|o8 (.I A.Kind) rfl nle rfl<|?_
 refine o8 (.bool (decide (A.Kind > 6))) rfl rfl rfl<|dk<|?_
 rcases oi hf with ⟨c3,hf⟩ | ⟨c3,hf⟩
 ·refine y8 rfl c3<|o7<|o7<|?_
  obtain ⟨J,hb1,hf⟩:=ob hf
  refine a1k ([(18,(.bool J))],[]) ?_ ?_
  ·refine a0r ?_
   rcases oi hb1 with ⟨c9,hb1⟩ | ⟨c9,hb1⟩
   ·obtain ⟨H,er11,hb1⟩:=ob hb1
    refine o8 (.ptr 1 0 0) rfl tr rfl<|o8 (.I A.Kind) rfl nle rfl<|o8 (.bool (A.Kind == 10)) rfl rfl rfl<|l7 (.bool (A.Kind == 10)) rfl<|a0i (s:=13) (b:=true) rfl c9<|s_on rfl<|o8 (.ptr 1 0 2) rfl tr rfl<|s_on rfl<|o8 (.str A.Name) rfl nle rfl<|s_on rfl<|x8 (a0j (a8t _ _ er11) rfl .r rfl)<|s_on rfl<|o8 (.bool (!H)) rfl tr rfl<|o8 (.bool (!H)) rfl tr rfl<|y5<|?_;obtain rfl:=os hb1;exact ⟨[],[],_,_,rfl,rfl,⟨.r,tr⟩,.r⟩
   ·refine o8 (.ptr 1 0 0) rfl tr rfl<|o8 (.I A.Kind) rfl nle rfl<|o8 (.bool (A.Kind == 10)) rfl rfl rfl<|l7 (.bool (A.Kind == 10)) rfl<|a0i (s:=13) (b:=false) rfl (bf c9)<|o6 rfl rfl<|o6 rfl rfl<|o6 rfl rfl<|o6 rfl rfl<|o8 (.bool false) rfl tr rfl<|y5<|?_;obtain rfl:=os hb1;exact ⟨[],[],_,_,rfl,rfl,⟨.r,tr⟩,.r⟩
  ·rcases oi hf with ⟨c12,hf⟩ | ⟨c12,hf⟩
   ·refine y8 rfl c12<|sr<|l7 (.I 3) rfl<|dk<|a0b<|?_;obtain rfl:=os hf;exact y7 ⟨tr,tr⟩ rfl .r
   ·refine y9 rfl (bf c12)<|a0k<|a0m<|sr<|l7 (.I 0) rfl<|dk<|a0b<|?_;obtain rfl:=os hf;exact y7 ⟨tr,tr⟩ rfl .r
 ·refine y9 rfl (bf c3)<|a0k<|a0m<|sr<|?_
  obtain ⟨D,er14,hf⟩:=ob hf
  refine o8 (.agg [(.lst 4 (E.Tables.map x9))]) rfl nle rfl<|o8 (.ptr 1 0 1) rfl tr rfl<|o8 (.str A.Table) rfl nle rfl<|x8 (a0j (b3f _ _ _ er14) rfl .r rfl)<|l7 (.I D) rfl<|dk<|o7<|a3y<|sr<|l7 (.I D) rfl<|o8 (.bool (decide (D < 0))) rfl rfl rfl<|l7 (.bool (decide (D < 0))) rfl<|dk<|?_
  rcases oi hf with ⟨c15,hf⟩ | ⟨c15,hf⟩
  ·refine y8 rfl c15<|sr<|l7 (.I 10) rfl<|dk<|a0b<|?_;obtain rfl:=os hf;exact y7 ⟨tr,tr⟩ rfl .r
  ·refine y9 rfl (bf c15)<|o7<|?_
   obtain ⟨G,hb1,hf⟩:=ob hf
   refine a1k ([(2,(.ptr 0 0 0)),(3,(.ptr 1 0 0)),(5,(.I D)),(26,(.bool G))],[.box 1 (.agg [(.lst 4 (E.Tables.map x9))]),.box 8 (.agg [(.I A.Kind),(.str A.Table),(.str A.Name),(.lst 3 (A.Where.map a0d)),(.lst 3 (A.Row.map a0f)),(.lst 3 (A.Muts.map a0o)),(.lst 1 (A.Columns.map AV.str)),(.bool A.Until)])]) ?_ ?_
   ·refine a0r ?_
    rcases oi hb1 with ⟨c21,hb1⟩ | ⟨c21,hb1⟩
    ·obtain ⟨F,er23,hb1⟩:=ob hb1
     refine o8 (.ptr 1 0 2) rfl tr rfl<|o8 (.str A.Name) rfl nle rfl<|o8 (.bool (!(A.Name == []))) rfl tr rfl<|l7 (.bool (!(A.Name == []))) rfl<|a0i (s:=30) (b:=true) rfl c21<|s_on rfl<|o8 (.ptr 1 0 2) rfl tr rfl<|s_on rfl<|o8 (.str A.Name) rfl nle rfl<|s_on rfl<|x8 (a0j (a8t _ _ er23) rfl .r rfl)<|s_on rfl<|o8 (.bool (!F)) rfl tr rfl<|o8 (.bool (!F)) rfl tr rfl<|l7 (.bool (!F)) rfl<|y5<|?_;obtain rfl:=os hb1;exact ⟨[],[0,1],_,_,rfl,rfl,⟨.r,⟨.r,⟨.r,⟨.r,tr⟩⟩⟩⟩,.r⟩
    ·refine o8 (.ptr 1 0 2) rfl tr rfl<|o8 (.str A.Name) rfl nle rfl<|o8 (.bool (!(A.Name == []))) rfl tr rfl<|l7 (.bool (!(A.Name == []))) rfl<|a0i (s:=30) (b:=false) rfl (bf c21)<|o6 rfl rfl<|o6 rfl rfl<|o6 rfl rfl<|o6 rfl rfl<|o8 (.bool false) rfl tr rfl<|l7 (.bool false) rfl<|y5<|?_;obtain rfl:=os hb1;exact ⟨[],[0,1],_,_,rfl,rfl,⟨.r,⟨.r,⟨.r,⟨.r,tr⟩⟩⟩⟩,.r⟩
   ·rcases oi hf with ⟨c24,hf⟩ | ⟨c24,hf⟩
    ·refine y8 rfl c24<|sr<|l7 (.I 3) rfl<|dk<|a0b<|?_;obtain rfl:=os hf;exact y7 ⟨tr,tr⟩ rfl .r
    ·refine y9 rfl (bf c24)<|a0k<|a2y<|a0m<|sr<|?_
     obtain ⟨B,ex26,hf⟩:=ob hf
     refine o8 (.ptr 0 0 0) rfl tr rfl<|o8 (.lst 4 (E.Tables.map x9)) rfl nle rfl<|l7 (.I D) rfl<|x8 (a2t (enc:=x9) rfl rfl (a8n ex26) (a8o ex26))<|o8 (x9 B) rfl nle rfl<|x8 (a1j (j:=2) (c:=(.agg [(.str []),.nil,.nil,(.bool false)])) rfl tr rfl rfl)<|a3o (a0e (v:=(.agg [(.str B.Name),(.lst 8 (B.Columns.map o5)),(.lst 1 (B.Unique.map encI)),(.bool B.Root)])) (y':=(.agg [(.str B.Name),(.lst 8 (B.Columns.map o5)),(.lst 1 (B.Unique.map encI)),(.bool B.Root)])) rfl rfl rfl tr ⟨rfl,nle⟩ ⟨⟨rfl,tr⟩,⟨⟨rfl,tr⟩,⟨⟨rfl,tr⟩,⟨⟨rfl,tr⟩,tr⟩⟩⟩⟩ rfl)<|?_
     refine dk<|sr<|o8 (.agg [(.str B.Name),(.lst 8 (B.Columns.map o5)),(.lst 1 (B.Unique.map encI)),(.bool B.Root)]) rfl nle rfl<|o8 (.ptr 1 0 6) rfl tr rfl<|o8 (.lst 1 (A.Columns.map AV.str)) rfl nle rfl<|o8 (.agg [(.str B.Name),(.lst 8 (B.Columns.map o5)),(.lst 1 (B.Unique.map encI)),(.bool B.Root)]) rfl nle rfl<|o8 (.ptr 1 0 3) rfl tr rfl<|o8 (.lst 3 (A.Where.map a0d)) rfl nle rfl<|o8 (.agg [(.str B.Name),(.lst 8 (B.Columns.map o5)),(.lst 1 (B.Unique.map encI)),(.bool B.Root)]) rfl nle rfl<|o8 (.ptr 1 0 4) rfl tr rfl<|o8 (.lst 3 (A.Row.map a0f)) rfl nle rfl<|?_
     refine o8 (.agg [(.str B.Name),(.lst 8 (B.Columns.map o5)),(.lst 1 (B.Unique.map encI)),(.bool B.Root)]) rfl nle rfl<|o8 (.ptr 1 0 5) rfl tr rfl<|o8 (.lst 3 (A.Muts.map a0o)) rfl nle rfl<|?_
     obtain ⟨K,er28,hf⟩:=ob hf
     refine a1a (a0j (b9w _ _ _ er28) rfl .r rfl) a7h tr ?_
     obtain ⟨L,er30,hf⟩:=ob hf
     refine a1a (a0j (c1y _ _ _ er30) rfl .r rfl) a7h tr ?_
     obtain ⟨M,er32,hf⟩:=ob hf
     refine a1a (a0j (c3a _ _ _ er32) rfl .r rfl) a7h tr ?_
     obtain ⟨N,er34,hf⟩:=ob hf
     refine a1a (a0j (c3b _ _ _ er34) rfl .r rfl) a7h tr ?_;refine a1a (a0t (j:=3) (as':=[(.I K),(.I L),(.I M),(.I N)]) rfl (fun _ => by decide) ⟨rfl,⟨rfl,⟨rfl,⟨rfl,tr⟩⟩⟩⟩ .r rfl rfl rfl) tr tr ?_
     obtain ⟨O,er36,hf⟩:=ob hf
     refine a1a (a0j (c5e _ _ er36) rfl (.cons (.of_eq (congrArg (AV.lst _) (by rfl))) .nil) rfl) a7h tr<|l7 (.I O) rfl<|dk<|a0b<|?_;obtain rfl:=os hf;exact y7 ⟨tr,tr⟩ rfl .r

/- impl.OpCode -/
def c27:a0s :=
 (.seq (.reg (tq 2 (.box 1 (.t 0)) (tq 3 (.box 8 (.t 1)) (tm 4 (.c (.int .i64 0)) (tm 5 (.c (.int .i64 0)) .done)))))
 (.seq (.seq (.reg (tq 6 (.load 1 true (.t 2)) (tq 7 (.call 104 [(.t 6)]) (tq 8 (.not (.t 7)) (tm 9 (.t 8) (tg 10 9 false (.load 8 true (.t 3)) (tg 11 9 false (.call 29 [(.t 10)]) (tg 12 9 false (.not (.t 11)) (tq 13 (.pick (.t 9) (.c (.bool true)) (.t 12)) .done)))))))))
 (.cut (.cond (.t 13) (.seq (.reg (tm 4 (.c (.int .i64 0)) (tm 5 (.c (.int .i64 1)) .done)))
 .ret)
 .skip)))
 (.seq (.reg (tq 14 (.load 1 true (.t 2)) (tq 15 (.load 8 true (.t 3)) (tq 16 (.call 105 [(.t 14),(.t 15)]) (tm 4 (.t 16) (tm 5 (.c (.int .i64 0)) .done))))))
 .ret)))
theorem e8v:a1e Tryz.prog Tryz.f27 = some (c27.erase,[.mov (.t 4),.mov (.t 5)],17):=by kernel_rfl
def b4a (B:a2q) (A:GOp):Option (Int × Int) :=
    (((b1g B).bind fun D =>
    if (!D) then
    some true
    else
    (b2e A).bind fun E =>
    some (!E):Option Bool)).bind fun F =>
    if F then
    some (0,1)
    else
    (b3z B A).bind fun G =>
    some (G,0)
theorem c6q (B:a2q) (A:GOp) (r:(Int × Int)) (hf:b4a B A = some r):a0a Tryz.prog 27 .flat [(a2x B),(a2u A)] (.tup [(.I r.1),(.I r.2)]):=by
 refine a0a.of_awp mixed Tryz.func27 e8v nle ?_;rw [a0n];unfold b4a at hf;unfold c27;refine (show awp Tryz.prog false 0 _ (ofL [(0,(a2x B)),(1,(a2u A))]) [] _ from ?_);refine sr<|x8 (a1j (j:=0) (c:=(.agg [(.lst 4 (B.Tables.map x9))])) rfl tr rfl rfl)<|x8 (a1j (j:=1) (c:=(.agg [(.I A.Kind),(.str A.Table),(.str A.Name),(.lst 3 (A.Where.map a0d)),(.lst 3 (A.Row.map a0f)),(.lst 3 (A.Muts.map a0o)),(.lst 1 (A.Columns.map AV.str)),(.bool A.Until)])) rfl tr rfl rfl)<|l7 (.I 0) rfl<|l7 (.I 0) rfl<|dk<|o7<|o7<|?_
 obtain ⟨F,hb1,hf⟩:=ob hf
 refine a1k ([(2,(.ptr 0 0 0)),(3,(.ptr 1 0 0)),(13,(.bool F))],[.box 1 (.agg [(.lst 4 (B.Tables.map x9))]),.box 8 (.agg [(.I A.Kind),(.str A.Table),(.str A.Name),(.lst 3 (A.Where.map a0d)),(.lst 3 (A.Row.map a0f)),(.lst 3 (A.Muts.map a0o)),(.lst 1 (A.Columns.map AV.str)),(.bool A.Until)])]) ?_ ?_
 ·refine a0r ?_
  obtain ⟨D,er11,hb1⟩:=ob hb1
  rcases oi hb1 with ⟨c12,hb1⟩ | ⟨c12,hb1⟩
  ·refine o8 (.agg [(.lst 4 (B.Tables.map x9))]) rfl nle rfl<|x8 (a0j (b7e _ _ er11) rfl .r rfl)<|o8 (.bool (!D)) rfl tr rfl<|l7 (.bool (!D)) rfl<|a0i (s:=9) (b:=true) rfl c12<|o6 rfl rfl<|o6 rfl rfl<|o6 rfl rfl<|o8 (.bool true) rfl tr rfl<|y5<|?_;obtain rfl:=os hb1;exact ⟨[],[0,1],_,_,rfl,rfl,⟨.r,⟨.r,⟨.r,tr⟩⟩⟩,.r⟩
  ·obtain ⟨E,er14,hb1⟩:=ob hb1
   refine o8 (.agg [(.lst 4 (B.Tables.map x9))]) rfl nle rfl<|x8 (a0j (b7e _ _ er11) rfl .r rfl)<|o8 (.bool (!D)) rfl tr rfl<|l7 (.bool (!D)) rfl<|a0i (s:=9) (b:=false) rfl (bf c12)<|s_on rfl<|o8 (.agg [(.I A.Kind),(.str A.Table),(.str A.Name),(.lst 3 (A.Where.map a0d)),(.lst 3 (A.Row.map a0f)),(.lst 3 (A.Muts.map a0o)),(.lst 1 (A.Columns.map AV.str)),(.bool A.Until)]) rfl nle rfl<|s_on rfl<|x8 (a0j (b5r _ _ er14) rfl .r rfl)<|s_on rfl<|o8 (.bool (!E)) rfl tr rfl<|o8 (.bool (!E)) rfl tr rfl<|y5<|?_;obtain rfl:=os hb1;exact ⟨[],[0,1],_,_,rfl,rfl,⟨.r,⟨.r,⟨.r,tr⟩⟩⟩,.r⟩
 ·rcases oi hf with ⟨c15,hf⟩ | ⟨c15,hf⟩
  ·refine y8 rfl c15<|sr<|l7 (.I 0) rfl<|l7 (.I 1) rfl<|dk<|a0b<|?_;obtain rfl:=os hf;exact y7 ⟨tr,⟨tr,tr⟩⟩ rfl .r
  ·refine y9 rfl (bf c15)<|a0k<|a0m<|sr<|?_
   obtain ⟨G,er17,hf⟩:=ob hf
   refine o8 (.agg [(.lst 4 (B.Tables.map x9))]) rfl nle rfl<|o8 (.agg [(.I A.Kind),(.str A.Table),(.str A.Name),(.lst 3 (A.Where.map a0d)),(.lst 3 (A.Row.map a0f)),(.lst 3 (A.Muts.map a0o)),(.lst 1 (A.Columns.map AV.str)),(.bool A.Until)]) rfl nle rfl<|x8 (a0j (c6p _ _ _ er17) rfl .r rfl)<|l7 (.I G) rfl<|l7 (.I 0) rfl<|dk<|a0b<|?_;obtain rfl:=os hf;exact y7 ⟨tr,⟨tr,tr⟩⟩ rfl .r

/- spec.l00Letter -/
def e6i:a0s :=
 (.seq (.reg (tm 2 (.c (.bool false)) .done))
 (.seq (.reg (tm 3 (.t 0) (tq 4 (.bin .geq (.t 3) (.c (.int .u8 97))) (tm 5 (.t 4) (tg 6 5 true (.mov (.t 0)) (tg 7 5 true (.bin .leq (.t 6) (.c (.int .u8 122))) (tq 8 (.pick (.t 5) (.t 7) (.c (.bool false))) (tm 9 (.t 8) (tg 10 9 false (.mov (.t 0)) (tg 11 9 false (.bin .geq (.t 10) (.c (.int .u8 65))) (tg 12 9 false (.mov (.t 11)) (tg 13 12 true (.mov (.t 0)) (tg 14 12 true (.bin .leq (.t 13) (.c (.int .u8 90))) (tg 15 9 false (.pick (.t 12) (.t 14) (.c (.bool false))) (tq 16 (.pick (.t 9) (.c (.bool true)) (.t 15)) (tm 17 (.t 16) (tg 18 17 false (.mov (.t 0)) (tg 19 17 false (.bin .eql (.t 18) (.c (.int .u8 95))) (tq 20 (.pick (.t 17) (.c (.bool true)) (.t 19)) (tm 2 (.t 20) .done))))))))))))))))))))
 .ret))
theorem e6j:a1e Tryz.prog Tryz.f395 = some (e6i.erase,[.mov (.t 2)],21):=by kernel_rfl
def a9e (A:Int):Option Bool :=
    some (bif (bif (bif (decide (A ≥ 97)) then (decide (A ≤ 122)) else false) then true else (bif (decide (A ≥ 65)) then (decide (A ≤ 90)) else false)) then true else (A == 95))
theorem b3j (A:Int) (r:Bool) (hf:a9e A = some r):a0a Tryz.prog 395 .flat [(.int .u8 A)] (.bool r):=by
 refine a0a.of_awp mixed Tryz.func395 e6j nle ?_;rw [a0n];unfold a9e at hf;unfold e6i;refine (show awp Tryz.prog false 0 _ (ofL [(0,(.int .u8 A))]) [] _ from ?_);refine sr<|l7 (.bool false) rfl<|dk<|sr<|l7 (.int .u8 A) rfl<|o8 (.bool (decide (A ≥ 97))) rfl rfl rfl<|l7 (.bool (decide (A ≥ 97))) rfl<|?_;refine s_g (v:=(decide (A ≥ 97))) (.int .u8 A) rfl (fun hv => by (try simp only [o9 hv]);exact ⟨rfl,tr,rfl⟩) ?_;refine s_g (v:=(decide (A ≥ 97))) (.bool (decide (A ≤ 122))) rfl (fun hv => by (try simp only [o9 hv]);exact ⟨rfl,rfl,rfl⟩) ?_;refine a2a (x:=(decide (A ≤ 122))) (y:=false) rfl (fun hv => by (try simp only [o9 hv]);rfl) (fun hv => by (try simp only [o9 hv]);rfl) ?_
 refine l7 (.bool (bif (decide (A ≥ 97)) then (decide (A ≤ 122)) else false)) rfl ?_;refine s_g (v:=(bif (decide (A ≥ 97)) then (decide (A ≤ 122)) else false)) (.int .u8 A) rfl (fun hv => by (try simp only [o9 hv]);exact ⟨rfl,tr,rfl⟩) ?_;refine s_g (v:=(bif (decide (A ≥ 97)) then (decide (A ≤ 122)) else false)) (.bool (decide (A ≥ 65))) rfl (fun hv => by (try simp only [o9 hv]);exact ⟨rfl,rfl,rfl⟩) ?_;refine s_g (v:=(bif (decide (A ≥ 97)) then (decide (A ≤ 122)) else false)) (.bool (decide (A ≥ 65))) rfl (fun hv => by (try simp only [o9 hv]);exact ⟨rfl,tr,rfl⟩) ?_;refine a7t (v1:=(bif (decide (A ≥ 97)) then (decide (A ≤ 122)) else false)) (b1:=false) (v2:=(decide (A ≥ 65))) (.int .u8 A) rfl (fun hv hw => by (try simp only [o9 hv,o9 hw]);exact ⟨rfl,tr,rfl⟩) ?_
 refine a7t (v1:=(bif (decide (A ≥ 97)) then (decide (A ≤ 122)) else false)) (b1:=false) (v2:=(decide (A ≥ 65))) (.bool (decide (A ≤ 90))) rfl (fun hv hw => by (try simp only [o9 hv,o9 hw]);exact ⟨rfl,rfl,rfl⟩) ?_;refine c0q (v1:=(bif (decide (A ≥ 97)) then (decide (A ≤ 122)) else false)) (b1:=false) (v2:=(decide (A ≥ 65))) (x:=(decide (A ≤ 90))) (y:=false) rfl (fun hv => by (try simp only [o9 hv]);rfl) (fun hv hw => by (try simp only [o9 hv,o9 hw]);rfl) (fun hv hw => by (try simp only [o9 hv,o9 hw]);rfl) ?_;refine a2a (x:=true) (y:=(bif (decide (A ≥ 65)) then (decide (A ≤ 90)) else false)) rfl (fun hv => by (try simp only [o9 hv]);rfl) (fun hv => by (try simp only [o9 hv]);rfl) ?_
 refine l7 (.bool (bif (bif (decide (A ≥ 97)) then (decide (A ≤ 122)) else false) then true else (bif (decide (A ≥ 65)) then (decide (A ≤ 90)) else false))) rfl ?_;refine s_g (v:=(bif (bif (decide (A ≥ 97)) then (decide (A ≤ 122)) else false) then true else (bif (decide (A ≥ 65)) then (decide (A ≤ 90)) else false))) (.int .u8 A) rfl (fun hv => by (try simp only [o9 hv]);exact ⟨rfl,tr,rfl⟩) ?_;refine s_g (v:=(bif (bif (decide (A ≥ 97)) then (decide (A ≤ 122)) else false) then true else (bif (decide (A ≥ 65)) then (decide (A ≤ 90)) else false))) (.bool (A == 95)) rfl (fun hv => by (try simp only [o9 hv]);exact ⟨rfl,rfl,rfl⟩) ?_;refine a2a (x:=true) (y:=(A == 95)) rfl (fun hv => by (try simp only [o9 hv]);rfl) (fun hv => by (try simp only [o9 hv]);rfl) ?_
 refine l7 (.bool (bif (bif (bif (decide (A ≥ 97)) then (decide (A ≤ 122)) else false) then true else (bif (decide (A ≥ 65)) then (decide (A ≤ 90)) else false)) then true else (A == 95))) rfl<|dk<|a0b<|?_;obtain rfl:=os hf;exact y7 ⟨tr,tr⟩ rfl .r

/- spec.l00Digit -/
def e6k:a0s :=
 (.seq (.reg (tm 2 (.c (.bool false)) .done))
 (.seq (.reg (tm 3 (.t 0) (tq 4 (.bin .geq (.t 3) (.c (.int .u8 48))) (tm 5 (.t 4) (tg 6 5 true (.mov (.t 0)) (tg 7 5 true (.bin .leq (.t 6) (.c (.int .u8 57))) (tq 8 (.pick (.t 5) (.t 7) (.c (.bool false))) (tm 2 (.t 8) .done))))))))
 .ret))
theorem e6l:a1e Tryz.prog Tryz.f396 = some (e6k.erase,[.mov (.t 2)],9):=by kernel_rfl
def b1k (A:Int):Option Bool :=
    if (decide (A ≥ 48)) then
    some (decide (A ≤ 57))
    else
    some false
theorem c3c (A:Int) (r:Bool) (hf:b1k A = some r):a0a Tryz.prog 396 .flat [(.int .u8 A)] (.bool r):=by
 refine a0a.of_awp mixed Tryz.func396 e6l nle ?_;rw [a0n];unfold b1k at hf;unfold e6k;refine (show awp Tryz.prog false 0 _ (ofL [(0,(.int .u8 A))]) [] _ from ?_);refine sr<|l7 (.bool false) rfl<|dk<|sr<|?_
 rcases oi hf with ⟨c2,hf⟩ | ⟨c2,hf⟩
 ·refine l7 (.int .u8 A) rfl<|o8 (.bool (decide (A ≥ 48))) rfl rfl rfl<|l7 (.bool (decide (A ≥ 48))) rfl<|a0i (s:=5) (b:=true) rfl c2<|s_on rfl<|l7 (.int .u8 A) rfl<|s_on rfl<|o8 (.bool (decide (A ≤ 57))) rfl rfl rfl<|o8 (.bool (decide (A ≤ 57))) rfl tr rfl<|l7 (.bool (decide (A ≤ 57))) rfl<|dk<|a0b<|?_;obtain rfl:=os hf;exact y7 ⟨tr,tr⟩ rfl .r
 ·refine l7 (.int .u8 A) rfl<|o8 (.bool (decide (A ≥ 48))) rfl rfl rfl<|l7 (.bool (decide (A ≥ 48))) rfl<|a0i (s:=5) (b:=false) rfl (bf c2)<|o6 rfl rfl<|o6 rfl rfl<|o8 (.bool false) rfl tr rfl<|l7 (.bool false) rfl<|dk<|a0b<|?_;obtain rfl:=os hf;exact y7 ⟨tr,tr⟩ rfl .r

/- spec.l00Word -/
def e6m:a0s :=
 (.seq (.reg (tm 2 (.c (.bool false)) .done))
 (.seq (.seq (.reg (tm 4 (.t 0) (tq 5 (.lenS (.t 4)) (tq 6 (.bin .lss (.t 5) (.c (.int .i64 1))) (tm 7 (.t 6) (tg 8 7 false (.mov (.t 0)) (tg 9 7 false (.lenS (.t 8)) (tg 10 7 false (.bin .gtr (.t 9) (.c (.int .i64 40))) (tq 11 (.pick (.t 7) (.c (.bool true)) (.t 10)) (tm 12 (.t 11) (tg 13 12 false (.mov (.t 0)) (tg 14 12 false (.idxs (.t 13) (.c (.int .i64 0))) (tg 15 12 false (.call 395 [(.t 14)]) (tg 16 12 false (.not (.t 15)) (tq 17 (.pick (.t 12) (.c (.bool true)) (.t 16)) .done)))))))))))))))
 (.cut (.cond (.t 17) (.seq (.reg (tm 2 (.c (.bool false)) .done))
 .ret)
 .skip)))
 (.seq (.seq (.reg (tm 3 (.c (.int .i64 1)) .done))
 (.block 0 (.loop (.seq (.seq (.reg (tm 18 (.t 3) (tm 19 (.t 0) (tq 20 (.lenS (.t 19)) (tq 21 (.bin .lss (.t 18) (.t 20)) .done)))))
 (.cond (.t 21) .skip
 (.exit 0)))
 (.seq (.block 1 (.seq (.reg (tm 24 (.t 0) (tm 25 (.t 3) (tq 26 (.idxs (.t 24) (.t 25)) (tq 27 (.call 395 [(.t 26)]) (tq 28 (.not (.t 27)) (tm 29 (.t 28) (tg 30 29 true (.mov (.t 0)) (tg 31 29 true (.mov (.t 3)) (tg 32 29 true (.idxs (.t 30) (.t 31)) (tg 33 29 true (.call 396 [(.t 32)]) (tg 34 29 true (.not (.t 33)) (tq 35 (.pick (.t 29) (.t 34) (.c (.bool false))) .done)))))))))))))
 (.cut (.cond (.t 35) (.seq (.reg (tm 2 (.c (.bool false)) .done))
 .ret)
 .skip))))
 (.reg (tm 22 (.t 3) (tq 23 (.bin .add (.t 22) (.c (.int .i64 1))) (tm 3 (.t 23) .done)))))))))
 (.cut (.seq (.reg (tm 2 (.c (.bool true)) .done))
 .ret)))))
theorem e6n:a1e Tryz.prog Tryz.f329 = some (e6m.erase,[.mov (.t 2)],36):=by kernel_rfl
def a5u :List UInt8 → Option (Fl Bool Unit)
  | [] =>
    some (.go ())
  | J :: xs =>
    (((a9e (J.toNat:Int)).bind fun D =>
    if (!D) then
    (b1k (J.toNat:Int)).bind fun F =>
    some (!F)
    else
    some false:Option Bool)).bind fun E =>
    if E then
    some (.ret false)
    else
    a5u xs 

def b2t (A:Str):Option Bool :=
    ((if (bif (decide ((A.length:Int) < 1)) then true else (decide ((A.length:Int) > 40))) then
    some true
    else
    (idx A 0).bind fun K =>
    (a9e (K.toNat:Int)).bind fun G =>
    some (!G):Option Bool)).bind fun H =>
    if H then
    some false
    else
    (a5u (A.drop 1) ).bind fun q => (match q with
    | .ret r => some r
    | .go _ =>
    some true)
theorem c5f (A:Str) (r:Bool) (hf:b2t A = some r):a0a Tryz.prog 329 .flat [(.str A)] (.bool r):=by
 refine a0a.of_awp mixed Tryz.func329 e6n nle ?_;rw [a0n];unfold b2t at hf;unfold e6m;refine (show awp Tryz.prog false 0 _ (ofL [(0,(.str A))]) [] _ from ?_);refine sr<|l7 (.bool false) rfl<|dk<|o7<|o7<|?_
 obtain ⟨H,hb1,hf⟩:=ob hf
 refine a1k ([(0,(.str A)),(17,(.bool H))],[]) ?_ ?_
 ·refine a0r<|l7 (.str A) rfl<|a1i (b3i rfl) fun hl11 => o8 (.bool (decide ((A.length:Int) < 1))) rfl rfl rfl<|l7 (.bool (decide ((A.length:Int) < 1))) rfl<|?_;refine s_g (v:=(decide ((A.length:Int) < 1))) (.str A) rfl (fun hv => by (try simp only [o9 hv]);exact ⟨rfl,tr,rfl⟩) ?_;refine s_g (v:=(decide ((A.length:Int) < 1))) (.I (A.length:Int)) rfl (fun hv => by (try simp only [o9 hv]);exact ⟨rfl,tr,rfl⟩) ?_;refine s_g (v:=(decide ((A.length:Int) < 1))) (.bool (decide ((A.length:Int) > 40))) rfl (fun hv => by (try simp only [o9 hv]);exact ⟨rfl,rfl,rfl⟩) ?_;refine a2a (x:=true) (y:=(decide ((A.length:Int) > 40))) rfl (fun hv => by (try simp only [o9 hv]);rfl) (fun hv => by (try simp only [o9 hv]);rfl) ?_
  refine l7 (.bool (bif (decide ((A.length:Int) < 1)) then true else (decide ((A.length:Int) > 40)))) rfl ?_
  rcases oi hb1 with ⟨c13,hb1⟩ | ⟨c13,hb1⟩
  ·refine a0i (s:=12) (b:=true) rfl c13<|o6 rfl rfl<|o6 rfl rfl<|o6 rfl rfl<|o6 rfl rfl<|o8 (.bool true) rfl tr rfl<|y5<|?_;obtain rfl:=os hb1;exact ⟨[],[],_,_,rfl,rfl,⟨.r,⟨.r,tr⟩⟩,.r⟩
  ·refine a0i (s:=12) (b:=false) rfl (bf c13)<|s_on rfl<|l7 (.str A) rfl<|s_on rfl<|?_
   obtain ⟨K,eb15,hb1⟩:=ob hb1
   refine x8 (d7q rfl rfl (a8n eb15) (a8o eb15))<|s_on rfl<|?_
   obtain ⟨G,er17,hb1⟩:=ob hb1
   refine x8 (a0j (b3j _ _ er17) rfl .r rfl)<|s_on rfl<|o8 (.bool (!G)) rfl tr rfl<|o8 (.bool (!G)) rfl tr rfl<|y5<|?_;obtain rfl:=os hb1;exact ⟨[],[],_,_,rfl,rfl,⟨.r,⟨.r,tr⟩⟩,.r⟩
 ·rcases oi hf with ⟨c18,hf⟩ | ⟨c18,hf⟩
  ·refine y8 rfl c18<|sr<|l7 (.bool false) rfl<|dk<|a0b<|?_;obtain rfl:=os hf;exact y7 ⟨tr,tr⟩ rfl .r
  ·refine y9 rfl (bf c18)<|a0k<|a0m<|o7<|sr<|l7 (.I 1) rfl<|dk<|?_
   obtain ⟨p91,hb1,hf⟩:=ob hf
   refine a2c (X:={q:Unit // p91 = .go q}) (fun q => ([],[])) ?_ ?_
   ·refine a1v (X:={q:Nat // a5u (A.drop q)  = some p91}) (fun q => ([(0,(.str A)),(3,(.I (q.1:Int)))],[])) (fun q => A.length - q.1) ⟨1,hb1⟩ ⟨[],[],_,_,rfl,rfl,⟨.r,⟨.r,tr⟩⟩,.r⟩ ?_
    rintro ⟨B,hc1⟩
    have hc1:a5u (A.drop B)  = some p91:=hc1
    refine (show awp Tryz.prog false 0 _ (ofL [(0,(.str A)),(3,(.I (B:Int)))]) [] _ from ?_)
    rcases a6c A B with ⟨hie94,hd97⟩ | ⟨hlt92,J,hx93,hd97⟩
    ·rw [hd97,a5u.eq_1] at hc1
     have hq96:=dlf hie94
     refine o7<|sr<|l7 (.I (B:Int)) rfl<|l7 (.str A) rfl<|a1i (b3i rfl) fun hl99 => o8 (.bool (decide ((B:Int) < (A.length:Int)))) rfl rfl rfl<|dk<|y9 rfl hq96<|a3i<|a3h<|a2e<|a3g<|?_;obtain rfl:=os hc1;exact a4b ⟨_,rfl⟩ ⟨[],[],_,_,rfl,rfl,tr,.r⟩
    ·rw [hd97,a5u.eq_2] at hc1
     have hq96:=dlt hlt92
     refine o7<|sr<|l7 (.I (B:Int)) rfl<|l7 (.str A) rfl<|a1i (b3i rfl) fun hl100 => o8 (.bool (decide ((B:Int) < (A.length:Int)))) rfl rfl rfl<|dk<|y8 rfl hq96<|a0k<|a0m<|o7<|a3y<|o7<|?_
     obtain ⟨E,hb2,hc1⟩:=ob hc1
     refine a1k ([(0,(.str A)),(3,(.I (B:Int))),(35,(.bool E))],[]) ?_ ?_
     ·refine a0r ?_
      obtain ⟨D,er109,hb2⟩:=ob hb2
      rcases oi hb2 with ⟨d5d,hb2⟩ | ⟨d5d,hb2⟩
      ·obtain ⟨F,er112,hb2⟩:=ob hb2
       refine l7 (.str A) rfl<|l7 (.I (B:Int)) rfl<|x8 (b3m rfl rfl hx93)<|x8 (a0j (b3j _ _ er109) rfl .r rfl)<|o8 (.bool (!D)) rfl tr rfl<|l7 (.bool (!D)) rfl<|a0i (s:=29) (b:=true) rfl d5d<|s_on rfl<|l7 (.str A) rfl<|s_on rfl<|l7 (.I (B:Int)) rfl<|s_on rfl<|x8 (b3m rfl rfl hx93)<|s_on rfl<|x8 (a0j (c3c _ _ er112) rfl .r rfl)<|s_on rfl<|o8 (.bool (!F)) rfl tr rfl<|o8 (.bool (!F)) rfl tr rfl<|y5<|?_;obtain rfl:=os hb2;exact ⟨[],[],_,_,rfl,rfl,⟨.r,⟨.r,⟨.r,tr⟩⟩⟩,.r⟩
      ·refine l7 (.str A) rfl<|l7 (.I (B:Int)) rfl<|x8 (b3m rfl rfl hx93)<|x8 (a0j (b3j _ _ er109) rfl .r rfl)<|o8 (.bool (!D)) rfl tr rfl<|l7 (.bool (!D)) rfl<|a0i (s:=29) (b:=false) rfl (bf d5d)<|o6 rfl rfl<|o6 rfl rfl<|o6 rfl rfl<|o6 rfl rfl<|o6 rfl rfl<|o8 (.bool false) rfl tr rfl<|y5<|?_;obtain rfl:=os hb2;exact ⟨[],[],_,_,rfl,rfl,⟨.r,⟨.r,⟨.r,tr⟩⟩⟩,.r⟩
     ·rcases oi hc1 with ⟨d5h,hc1⟩ | ⟨d5h,hc1⟩
      ·refine y8 rfl d5h<|sr<|l7 (.bool false) rfl<|dk<|a0b<|?_;obtain rfl:=os hc1;obtain rfl:=os hf;exact y7 ⟨tr,tr⟩ rfl .r
      ·refine y9 rfl (bf d5h)<|a0k<|a2y<|a0m<|a0r<|l7 (.I (B:Int)) rfl<|o8 (.I (w64 ((B:Int) + 1))) rfl rfl rfl<|l7 (.I (w64 ((B:Int) + 1))) rfl<|y5<|?_;exact a1z ⟨(B + 1),hc1⟩ (mul hlt92) ⟨[],[],_,_,rfl,rfl,⟨.r,⟨.of_eq (congrArg (AV.int _) (a1x hlt92 hl100)),tr⟩⟩,.r⟩
   ·rintro ⟨_,rfl⟩
    refine sr<|l7 (.bool true) rfl<|dk<|a0b<|?_;obtain rfl:=os hf;exact y7 ⟨tr,tr⟩ rfl .r

/- spec.NameOK -/
def c210:a0s :=
 (.seq (.reg (tm 2 (.c (.bool false)) .done))
 (.seq (.reg (tm 3 (.t 0) (tq 4 (.call 329 [(.t 3)]) (tm 2 (.t 4) .done))))
 .ret))
theorem e6o:a1e Tryz.prog Tryz.f210 = some (c210.erase,[.mov (.t 2)],5):=by kernel_rfl
def a7x (A:Str):Option Bool :=
    (b2t A).bind fun B =>
    some B
theorem a8v (A:Str) (r:Bool) (hf:a7x A = some r):a0a Tryz.prog 210 .flat [(.str A)] (.bool r):=by
  refine a0a.of_awp mixed Tryz.func210 e6o nle ?_
  rw [a0n]
  unfold a7x at hf
  unfold c210
  refine (show awp Tryz.prog false 0 _ (ofL [(0,(.str A))]) [] _ from ?_)
  refine o7 ?_
  refine a0r ?_
  refine x8 (a2w (.bool false) rfl) ?_
  refine y5 ?_
  refine a0m ?_
  refine o7 ?_
  refine a0r ?_
  obtain ⟨B,er3,hf⟩:=ob hf
  refine x8 (a2w (.str A) rfl) ?_
  refine x8 (a0j (c5f _ _ er3) rfl .r rfl) ?_
  refine x8 (a2w (.bool B) rfl) ?_
  refine y5 ?_
  refine a0m ?_
  refine a0b ?_
  obtain rfl:=os hf
  exact y7 ⟨tr,tr⟩ rfl .r

/- spec.ColumnOK -/
def e6p:a0s :=
 (.seq (.reg (tq 1 (.box 8 (.t 0)) (tm 2 (.c (.bool false)) .done)))
 (.seq (.seq (.reg (tq 3 (.faddr 0 (.t 1)) (tq 4 (.load 1 false (.t 3)) (tq 5 (.call 210 [(.t 4)]) (tq 6 (.not (.t 5)) (tm 7 (.t 6) (tg 8 7 false (.faddr 1 (.t 1)) (tg 9 7 false (.load 1 false (.t 8)) (tg 10 7 false (.call 158 [(.t 9),(.c (.int .i64 1)),(.c (.int .i64 4))]) (tg 11 7 false (.not (.t 10)) (tq 12 (.pick (.t 7) (.c (.bool true)) (.t 11)) (tm 13 (.t 12) (tg 14 13 false (.faddr 2 (.t 1)) (tg 15 13 false (.load 1 false (.t 14)) (tg 16 13 false (.call 158 [(.t 15),(.c (.int .i64 0)),(.c (.int .i64 1))]) (tg 17 13 false (.not (.t 16)) (tq 18 (.pick (.t 13) (.c (.bool true)) (.t 17)) (tm 19 (.t 18) (tg 20 19 false (.faddr 3 (.t 1)) (tg 21 19 false (.load 1 false (.t 20)) (tg 22 19 false (.call 158 [(.t 21),(.c (.int .i64 1)),(.c (.int .i64 8))]) (tg 23 19 false (.not (.t 22)) (tq 24 (.pick (.t 19) (.c (.bool true)) (.t 23)) .done)))))))))))))))))))))))
 (.cut (.cond (.t 24) (.seq (.reg (tm 2 (.c (.bool false)) .done))
 .ret)
 .skip)))
 (.seq (.seq (.reg (tq 25 (.faddr 1 (.t 1)) (tq 26 (.load 1 false (.t 25)) (tq 27 (.bin .eql (.t 26) (.c (.int .i64 1))) .done))))
 (.cond (.t 27) (.seq (.reg (tq 28 (.faddr 4 (.t 1)) (tq 29 (.load 1 false (.t 28)) (tq 30 (.faddr 5 (.t 1)) (tq 31 (.load 1 false (.t 30)) (tq 32 (.call 158 [(.t 29),(.c (.int .i64 (-1000000000))),(.t 31)]) (tm 33 (.t 32) (tg 34 33 true (.faddr 5 (.t 1)) (tg 35 33 true (.load 1 false (.t 34)) (tg 36 33 true (.faddr 4 (.t 1)) (tg 37 33 true (.load 1 false (.t 36)) (tg 38 33 true (.call 158 [(.t 35),(.t 37),(.c (.int .i64 1000000000))]) (tq 39 (.pick (.t 33) (.t 38) (.c (.bool false))) (tm 40 (.t 39) (tg 41 40 true (.faddr 6 (.t 1)) (tg 42 40 true (.load 1 false (.t 41)) (tg 43 40 true (.bin .eql (.t 42) (.c (.str []))) (tq 44 (.pick (.t 40) (.t 43) (.c (.bool false))) (tm 45 (.t 44) (tg 46 45 true (.faddr 7 (.t 1)) (tg 47 45 true (.load 1 false (.t 46)) (tg 48 45 true (.not (.t 47)) (tq 49 (.pick (.t 45) (.t 48) (.c (.bool false))) (tm 2 (.t 49) .done))))))))))))))))))))))))
 .ret)
 .skip))
 (.seq (.seq (.reg (tq 50 (.faddr 4 (.t 1)) (tq 51 (.load 1 false (.t 50)) (tq 52 (.bin .neq (.t 51) (.c (.int .i64 0))) (tm 53 (.t 52) (tg 54 53 false (.faddr 5 (.t 1)) (tg 55 53 false (.load 1 false (.t 54)) (tg 56 53 false (.bin .neq (.t 55) (.c (.int .i64 0))) (tq 57 (.pick (.t 53) (.c (.bool true)) (.t 56)) .done)))))))))
 (.cut (.cond (.t 57) (.seq (.reg (tm 2 (.c (.bool false)) .done))
 .ret)
 .skip)))
 (.seq (.seq (.reg (tq 58 (.faddr 1 (.t 1)) (tq 59 (.load 1 false (.t 58)) (tq 60 (.bin .eql (.t 59) (.c (.int .i64 4))) .done))))
 (.cond (.t 60) (.seq (.reg (tq 61 (.faddr 6 (.t 1)) (tq 62 (.load 1 false (.t 61)) (tq 63 (.call 210 [(.t 62)]) (tm 64 (.t 63) (tg 65 64 true (.faddr 2 (.t 1)) (tg 66 64 true (.load 1 false (.t 65)) (tg 67 64 true (.bin .eql (.t 66) (.c (.int .i64 0))) (tq 68 (.pick (.t 64) (.t 67) (.c (.bool false))) (tm 2 (.t 68) .done))))))))))
 .ret)
 .skip))
 (.seq (.reg (tq 69 (.faddr 6 (.t 1)) (tq 70 (.load 1 false (.t 69)) (tq 71 (.bin .eql (.t 70) (.c (.str []))) (tm 72 (.t 71) (tg 73 72 true (.faddr 7 (.t 1)) (tg 74 72 true (.load 1 false (.t 73)) (tg 75 72 true (.not (.t 74)) (tq 76 (.pick (.t 72) (.t 75) (.c (.bool false))) (tm 2 (.t 76) .done))))))))))
 .ret))))))
theorem e6q:a1e Tryz.prog Tryz.f261 = some (e6p.erase,[.mov (.t 2)],77):=by kernel_rfl
def b1l (A:a0v):Option Bool :=
    (((a7x A.Name).bind fun H =>
    if (!H) then
    some true
    else
    (a3f A.Kind 1 4).bind fun D =>
    if (!D) then
    some true
    else
    (a3f A.Min 0 1).bind fun E =>
    if (!E) then
    some true
    else
    (a3f A.Max 1 8).bind fun J =>
    some (!J):Option Bool)).bind fun F =>
    if F then
    some false
    else
    if (A.Kind == 1) then
    (a3f A.Low (-1000000000) A.High).bind fun L =>
    if L then
    (a3f A.High A.Low 1000000000).bind fun B =>
    some (bif (bif B then (A.Ref == []) else false) then (!A.Strong) else false)
    else
    some false
    else
    ((if (A.Low != 0) then
    some true
    else
    some (A.High != 0):Option Bool)).bind fun G =>
    if G then
    some false
    else
    if (A.Kind == 4) then
    (a7x A.Ref).bind fun K =>
    if K then
    some (A.Min == 0)
    else
    some false
    else
    if (A.Ref == []) then
    some (!A.Strong)
    else
    some false
theorem c3d (A:a0v) (r:Bool) (hf:b1l A = some r):a0a Tryz.prog 261 .flat [(o5 A)] (.bool r):=by
 refine a0a.of_awp mixed Tryz.func261 e6q nle ?_;rw [a0n];unfold b1l at hf;unfold e6p;refine (show awp Tryz.prog false 0 _ (ofL [(0,(o5 A))]) [] _ from ?_);refine sr<|x8 (a1j (j:=0) (c:=(.agg [(.str A.Name),(.I A.Kind),(.I A.Min),(.I A.Max),(.I A.Low),(.I A.High),(.str A.Ref),(.bool A.Strong)])) rfl tr rfl rfl)<|l7 (.bool false) rfl<|dk<|o7<|o7<|?_
 obtain ⟨F,hb1,hf⟩:=ob hf
 refine a1k ([(1,(.ptr 0 0 0)),(24,(.bool F))],[.box 8 (.agg [(.str A.Name),(.I A.Kind),(.I A.Min),(.I A.Max),(.I A.Low),(.I A.High),(.str A.Ref),(.bool A.Strong)])]) ?_ ?_
 ·refine a0r<|o8 (.ptr 0 0 0) rfl tr rfl<|o8 (.str A.Name) rfl nle rfl<|?_
  obtain ⟨H,er16,hb1⟩:=ob hb1
  refine x8 (a0j (a8v _ _ er16) rfl .r rfl)<|o8 (.bool (!H)) rfl tr rfl<|l7 (.bool (!H)) rfl<|?_
  rcases oi hb1 with ⟨c17,hb1⟩ | ⟨c17,hb1⟩
  ·refine a0i (s:=7) (b:=true) rfl c17<|o6 rfl rfl<|o6 rfl rfl<|o6 rfl rfl<|o6 rfl rfl<|o8 (.bool true) rfl tr rfl<|l7 (.bool true) rfl<|o6 rfl rfl<|o6 rfl rfl<|o6 rfl rfl<|o6 rfl rfl<|o8 (.bool true) rfl tr rfl<|l7 (.bool true) rfl<|o6 rfl rfl<|o6 rfl rfl<|o6 rfl rfl<|o6 rfl rfl<|o8 (.bool true) rfl tr rfl<|y5<|?_;obtain rfl:=os hb1;exact ⟨[],[0],_,_,rfl,rfl,⟨.r,⟨.r,tr⟩⟩,.r⟩
  ·refine a0i (s:=7) (b:=false) rfl (bf c17)<|s_on rfl<|o8 (.ptr 0 0 1) rfl tr rfl<|s_on rfl<|o8 (.I A.Kind) rfl nle rfl<|s_on rfl<|?_
   obtain ⟨D,er19,hb1⟩:=ob hb1
   refine x8 (a0j (a2f _ _ _ _ er19) rfl .r rfl)<|s_on rfl<|o8 (.bool (!D)) rfl tr rfl<|o8 (.bool (!D)) rfl tr rfl<|l7 (.bool (!D)) rfl<|?_
   rcases oi hb1 with ⟨c20,hb1⟩ | ⟨c20,hb1⟩
   ·refine a0i (s:=13) (b:=true) rfl c20<|o6 rfl rfl<|o6 rfl rfl<|o6 rfl rfl<|o6 rfl rfl<|o8 (.bool true) rfl tr rfl<|l7 (.bool true) rfl<|o6 rfl rfl<|o6 rfl rfl<|o6 rfl rfl<|o6 rfl rfl<|o8 (.bool true) rfl tr rfl<|y5<|?_;obtain rfl:=os hb1;exact ⟨[],[0],_,_,rfl,rfl,⟨.r,⟨.r,tr⟩⟩,.r⟩
   ·refine a0i (s:=13) (b:=false) rfl (bf c20)<|s_on rfl<|o8 (.ptr 0 0 2) rfl tr rfl<|s_on rfl<|o8 (.I A.Min) rfl nle rfl<|s_on rfl<|?_
    obtain ⟨E,er22,hb1⟩:=ob hb1
    refine x8 (a0j (a2f _ _ _ _ er22) rfl .r rfl)<|s_on rfl<|o8 (.bool (!E)) rfl tr rfl<|o8 (.bool (!E)) rfl tr rfl<|l7 (.bool (!E)) rfl<|?_
    rcases oi hb1 with ⟨c23,hb1⟩ | ⟨c23,hb1⟩
    ·refine a0i (s:=19) (b:=true) rfl c23<|o6 rfl rfl<|o6 rfl rfl<|o6 rfl rfl<|o6 rfl rfl<|o8 (.bool true) rfl tr rfl<|y5<|?_;obtain rfl:=os hb1;exact ⟨[],[0],_,_,rfl,rfl,⟨.r,⟨.r,tr⟩⟩,.r⟩
    ·refine a0i (s:=19) (b:=false) rfl (bf c23)<|s_on rfl<|o8 (.ptr 0 0 3) rfl tr rfl<|s_on rfl<|o8 (.I A.Max) rfl nle rfl<|s_on rfl<|?_
     obtain ⟨J,er25,hb1⟩:=ob hb1
     refine x8 (a0j (a2f _ _ _ _ er25) rfl .r rfl)<|s_on rfl<|o8 (.bool (!J)) rfl tr rfl<|o8 (.bool (!J)) rfl tr rfl<|y5<|?_;obtain rfl:=os hb1;exact ⟨[],[0],_,_,rfl,rfl,⟨.r,⟨.r,tr⟩⟩,.r⟩
 ·rcases oi hf with ⟨c26,hf⟩ | ⟨c26,hf⟩
  ·refine y8 rfl c26<|sr<|l7 (.bool false) rfl<|dk<|a0b<|?_;obtain rfl:=os hf;exact y7 ⟨tr,tr⟩ rfl .r
  ·refine y9 rfl (bf c26)<|a0k<|a0m<|o7<|sr<|o8 (.ptr 0 0 1) rfl tr rfl<|o8 (.I A.Kind) rfl nle rfl<|o8 (.bool (A.Kind == 1)) rfl rfl rfl<|dk<|?_
   rcases oi hf with ⟨c27,hf⟩ | ⟨c27,hf⟩
   ·refine y8 rfl c27<|sr<|o8 (.ptr 0 0 4) rfl tr rfl<|o8 (.I A.Low) rfl nle rfl<|o8 (.ptr 0 0 5) rfl tr rfl<|o8 (.I A.High) rfl nle rfl<|?_
    obtain ⟨L,er29,hf⟩:=ob hf
    refine x8 (a0j (a2f _ _ _ _ er29) rfl .r rfl)<|l7 (.bool L) rfl<|?_
    rcases oi hf with ⟨c30,hf⟩ | ⟨c30,hf⟩
    ·refine a0i (s:=33) (b:=true) rfl c30<|s_on rfl<|o8 (.ptr 0 0 5) rfl tr rfl<|s_on rfl<|o8 (.I A.High) rfl nle rfl<|s_on rfl<|o8 (.ptr 0 0 4) rfl tr rfl<|s_on rfl<|o8 (.I A.Low) rfl nle rfl<|s_on rfl<|?_
     obtain ⟨B,er32,hf⟩:=ob hf
     refine x8 (a0j (a2f _ _ _ _ er32) rfl .r rfl)<|o8 (.bool B) rfl tr rfl<|l7 (.bool B) rfl<|?_;refine s_g (v:=B) (.ptr 0 0 6) rfl (fun hv => by (try simp only [o9 hv]);exact ⟨rfl,tr,rfl⟩) ?_;refine s_g (v:=B) (.str A.Ref) rfl (fun hv => by (try simp only [o9 hv]);exact ⟨rfl,nle,rfl⟩) ?_;refine s_g (v:=B) (.bool (A.Ref == [])) rfl (fun hv => by (try simp only [o9 hv]);exact ⟨rfl,tr,rfl⟩) ?_;refine a2a (x:=(A.Ref == [])) (y:=false) rfl (fun hv => by (try simp only [o9 hv]);rfl) (fun hv => by (try simp only [o9 hv]);rfl) ?_;refine l7 (.bool (bif B then (A.Ref == []) else false)) rfl ?_;refine s_g (v:=(bif B then (A.Ref == []) else false)) (.ptr 0 0 7) rfl (fun hv => by (try simp only [o9 hv]);exact ⟨rfl,tr,rfl⟩) ?_
     refine s_g (v:=(bif B then (A.Ref == []) else false)) (.bool A.Strong) rfl (fun hv => by (try simp only [o9 hv]);exact ⟨rfl,nle,rfl⟩) ?_;refine s_g (v:=(bif B then (A.Ref == []) else false)) (.bool (!A.Strong)) rfl (fun hv => by (try simp only [o9 hv]);exact ⟨rfl,tr,rfl⟩) ?_;refine a2a (x:=(!A.Strong)) (y:=false) rfl (fun hv => by (try simp only [o9 hv]);rfl) (fun hv => by (try simp only [o9 hv]);rfl) ?_;refine l7 (.bool (bif (bif B then (A.Ref == []) else false) then (!A.Strong) else false)) rfl<|dk<|a0b<|?_;obtain rfl:=os hf;exact y7 ⟨tr,tr⟩ rfl .r
    ·refine a0i (s:=33) (b:=false) rfl (bf c30)<|o6 rfl rfl<|o6 rfl rfl<|o6 rfl rfl<|o6 rfl rfl<|o6 rfl rfl<|o8 (.bool false) rfl tr rfl<|l7 (.bool false) rfl<|o6 rfl rfl<|o6 rfl rfl<|o6 rfl rfl<|o8 (.bool false) rfl tr rfl<|l7 (.bool false) rfl<|o6 rfl rfl<|o6 rfl rfl<|o6 rfl rfl<|o8 (.bool false) rfl tr rfl<|l7 (.bool false) rfl<|dk<|a0b<|?_;obtain rfl:=os hf;exact y7 ⟨tr,tr⟩ rfl .r
   ·refine y9 rfl (bf c27)<|a0k<|a0m<|o7<|o7<|?_
    obtain ⟨G,hb1,hf⟩:=ob hf
    refine a1k ([(1,(.ptr 0 0 0)),(57,(.bool G))],[.box 8 (.agg [(.str A.Name),(.I A.Kind),(.I A.Min),(.I A.Max),(.I A.Low),(.I A.High),(.str A.Ref),(.bool A.Strong)])]) ?_ ?_
    ·refine a0r ?_
     rcases oi hb1 with ⟨c36,hb1⟩ | ⟨c36,hb1⟩
     ·refine o8 (.ptr 0 0 4) rfl tr rfl<|o8 (.I A.Low) rfl nle rfl<|o8 (.bool (A.Low != 0)) rfl rfl rfl<|l7 (.bool (A.Low != 0)) rfl<|a0i (s:=53) (b:=true) rfl c36<|o6 rfl rfl<|o6 rfl rfl<|o6 rfl rfl<|o8 (.bool true) rfl tr rfl<|y5<|?_;obtain rfl:=os hb1;exact ⟨[],[0],_,_,rfl,rfl,⟨.r,⟨.r,tr⟩⟩,.r⟩
     ·refine o8 (.ptr 0 0 4) rfl tr rfl<|o8 (.I A.Low) rfl nle rfl<|o8 (.bool (A.Low != 0)) rfl rfl rfl<|l7 (.bool (A.Low != 0)) rfl<|a0i (s:=53) (b:=false) rfl (bf c36)<|s_on rfl<|o8 (.ptr 0 0 5) rfl tr rfl<|s_on rfl<|o8 (.I A.High) rfl nle rfl<|s_on rfl<|o8 (.bool (A.High != 0)) rfl rfl rfl<|o8 (.bool (A.High != 0)) rfl tr rfl<|y5<|?_;obtain rfl:=os hb1;exact ⟨[],[0],_,_,rfl,rfl,⟨.r,⟨.r,tr⟩⟩,.r⟩
    ·rcases oi hf with ⟨c37,hf⟩ | ⟨c37,hf⟩
     ·refine y8 rfl c37<|sr<|l7 (.bool false) rfl<|dk<|a0b<|?_;obtain rfl:=os hf;exact y7 ⟨tr,tr⟩ rfl .r
     ·refine y9 rfl (bf c37)<|a0k<|a0m<|o7<|sr<|o8 (.ptr 0 0 1) rfl tr rfl<|o8 (.I A.Kind) rfl nle rfl<|o8 (.bool (A.Kind == 4)) rfl rfl rfl<|dk<|?_
      rcases oi hf with ⟨c38,hf⟩ | ⟨c38,hf⟩
      ·refine y8 rfl c38<|sr<|?_
       obtain ⟨K,er40,hf⟩:=ob hf
       rcases oi hf with ⟨c41,hf⟩ | ⟨c41,hf⟩
       ·refine o8 (.ptr 0 0 6) rfl tr rfl<|o8 (.str A.Ref) rfl nle rfl<|x8 (a0j (a8v _ _ er40) rfl .r rfl)<|l7 (.bool K) rfl<|a0i (s:=64) (b:=true) rfl c41<|s_on rfl<|o8 (.ptr 0 0 2) rfl tr rfl<|s_on rfl<|o8 (.I A.Min) rfl nle rfl<|s_on rfl<|o8 (.bool (A.Min == 0)) rfl rfl rfl<|o8 (.bool (A.Min == 0)) rfl tr rfl<|l7 (.bool (A.Min == 0)) rfl<|dk<|a0b<|?_;obtain rfl:=os hf;exact y7 ⟨tr,tr⟩ rfl .r
       ·refine o8 (.ptr 0 0 6) rfl tr rfl<|o8 (.str A.Ref) rfl nle rfl<|x8 (a0j (a8v _ _ er40) rfl .r rfl)<|l7 (.bool K) rfl<|a0i (s:=64) (b:=false) rfl (bf c41)<|o6 rfl rfl<|o6 rfl rfl<|o6 rfl rfl<|o8 (.bool false) rfl tr rfl<|l7 (.bool false) rfl<|dk<|a0b<|?_;obtain rfl:=os hf;exact y7 ⟨tr,tr⟩ rfl .r
      ·refine y9 rfl (bf c38)<|a0k<|a0m<|sr<|?_
       rcases oi hf with ⟨c42,hf⟩ | ⟨c42,hf⟩
       ·refine o8 (.ptr 0 0 6) rfl tr rfl<|o8 (.str A.Ref) rfl nle rfl<|o8 (.bool (A.Ref == [])) rfl tr rfl<|l7 (.bool (A.Ref == [])) rfl<|a0i (s:=72) (b:=true) rfl c42<|s_on rfl<|o8 (.ptr 0 0 7) rfl tr rfl<|s_on rfl<|o8 (.bool A.Strong) rfl nle rfl<|s_on rfl<|o8 (.bool (!A.Strong)) rfl tr rfl<|o8 (.bool (!A.Strong)) rfl tr rfl<|l7 (.bool (!A.Strong)) rfl<|dk<|a0b<|?_;obtain rfl:=os hf;exact y7 ⟨tr,tr⟩ rfl .r
       ·refine o8 (.ptr 0 0 6) rfl tr rfl<|o8 (.str A.Ref) rfl nle rfl<|o8 (.bool (A.Ref == [])) rfl tr rfl<|l7 (.bool (A.Ref == [])) rfl<|a0i (s:=72) (b:=false) rfl (bf c42)<|o6 rfl rfl<|o6 rfl rfl<|o6 rfl rfl<|o8 (.bool false) rfl tr rfl<|l7 (.bool false) rfl<|dk<|a0b<|?_;obtain rfl:=os hf;exact y7 ⟨tr,tr⟩ rfl .r

/- spec.l04Table -/
def e6r:a0s :=
 (.seq (.reg (tq 1 (.box 4 (.t 0)) (tm 2 (.c (.bool false)) .done)))
 (.seq (.seq (.reg (tq 6 (.faddr 0 (.t 1)) (tq 7 (.load 1 false (.t 6)) (tq 8 (.call 210 [(.t 7)]) (tq 9 (.not (.t 8)) (tm 10 (.t 9) (tg 11 10 false (.faddr 1 (.t 1)) (tg 12 10 false (.load 1 false (.t 11)) (tg 13 10 false (.len (.t 12)) (tg 14 10 false (.call 158 [(.t 13),(.c (.int .i64 1)),(.c (.int .i64 6))]) (tg 15 10 false (.not (.t 14)) (tq 16 (.pick (.t 10) (.c (.bool true)) (.t 15)) (tm 17 (.t 16) (tg 18 17 false (.faddr 2 (.t 1)) (tg 19 17 false (.load 1 false (.t 18)) (tg 20 17 false (.len (.t 19)) (tg 21 17 false (.bin .gtr (.t 20) (.c (.int .i64 6))) (tq 22 (.pick (.t 17) (.c (.bool true)) (.t 21)) .done))))))))))))))))))
 (.cut (.cond (.t 22) (.seq (.reg (tm 2 (.c (.bool false)) .done))
 .ret)
 .skip)))
 (.seq (.seq (.reg (tm 3 (.c (.int .i64 0)) .done))
 (.block 0 (.loop (.seq (.seq (.reg (tm 23 (.t 3) (tq 24 (.faddr 1 (.t 1)) (tq 25 (.load 1 false (.t 24)) (tq 26 (.len (.t 25)) (tq 27 (.bin .lss (.t 23) (.t 26)) .done))))))
 (.cond (.t 27) .skip
 (.exit 0)))
 (.seq (.block 1 (.seq (.seq (.reg (tq 30 (.faddr 1 (.t 1)) (tq 31 (.load 1 false (.t 30)) (tm 32 (.t 3) (tq 33 (.iaddr 8 (.t 31) (.t 32)) (tq 34 (.load 8 true (.t 33)) (tq 35 (.call 261 [(.t 34)]) (tq 36 (.not (.t 35)) .done))))))))
 (.cond (.t 36) (.seq (.reg (tm 2 (.c (.bool false)) .done))
 .ret)
 .skip))
 (.seq (.reg (tm 4 (.c (.int .i64 0)) .done))
 (.block 2 (.loop (.seq (.seq (.reg (tm 37 (.t 4) (tm 38 (.t 3) (tq 39 (.bin .lss (.t 37) (.t 38)) .done))))
 (.cond (.t 39) .skip
 (.exit 2)))
 (.seq (.block 3 (.seq (.reg (tq 42 (.faddr 1 (.t 1)) (tq 43 (.load 1 false (.t 42)) (tm 44 (.t 4) (tq 45 (.iaddr 8 (.t 43) (.t 44)) (tq 46 (.faddr 0 (.t 45)) (tq 47 (.load 1 false (.t 46)) (tq 48 (.faddr 1 (.t 1)) (tq 49 (.load 1 false (.t 48)) (tm 50 (.t 3) (tq 51 (.iaddr 8 (.t 49) (.t 50)) (tq 52 (.faddr 0 (.t 51)) (tq 53 (.load 1 false (.t 52)) (tq 54 (.bin .eql (.t 47) (.t 53)) .done))))))))))))))
 (.cond (.t 54) (.seq (.reg (tm 2 (.c (.bool false)) .done))
 .ret)
 .skip)))
 (.reg (tm 40 (.t 4) (tq 41 (.bin .add (.t 40) (.c (.int .i64 1))) (tm 4 (.t 41) .done)))))))))))
 (.cut (.reg (tm 28 (.t 3) (tq 29 (.bin .add (.t 28) (.c (.int .i64 1))) (tm 3 (.t 29) .done))))))))))
 (.cut (.seq (.seq (.reg (tm 5 (.c (.int .i64 0)) .done))
 (.block 4 (.loop (.seq (.seq (.reg (tm 55 (.t 5) (tq 56 (.faddr 2 (.t 1)) (tq 57 (.load 1 false (.t 56)) (tq 58 (.len (.t 57)) (tq 59 (.bin .lss (.t 55) (.t 58)) .done))))))
 (.cond (.t 59) .skip
 (.exit 4)))
 (.seq (.block 5 (.seq (.reg (tq 62 (.faddr 2 (.t 1)) (tq 63 (.load 1 false (.t 62)) (tm 64 (.t 5) (tq 65 (.iaddr 1 (.t 63) (.t 64)) (tq 66 (.load 1 false (.t 65)) (tq 67 (.faddr 1 (.t 1)) (tq 68 (.load 1 false (.t 67)) (tq 69 (.len (.t 68)) (tq 70 (.bin .sub (.t 69) (.c (.int .i64 1))) (.l ⟨(some 71),none,.call 158 [(.t 66),(.c (.int .i64 0)),(.t 70)]⟩ []
 (tq 72 (.not (.t 71)) (tm 73 (.t 72) (tg 74 73 false (.mov (.t 5)) (tg 75 73 false (.bin .gtr (.t 74) (.c (.int .i64 0))) (tg 76 73 false (.mov (.t 75)) (tg 77 76 true (.faddr 2 (.t 1)) (tg 78 76 true (.load 1 false (.t 77)) (tg 79 76 true (.mov (.t 5)) (tg 80 76 true (.bin .sub (.t 79) (.c (.int .i64 1))) (tg 81 76 true (.iaddr 1 (.t 78) (.t 80)) (tg 82 76 true (.load 1 false (.t 81)) (tg 83 76 true (.faddr 2 (.t 1)) (tg 84 76 true (.load 1 false (.t 83)) (tg 85 76 true (.mov (.t 5)) (tg 86 76 true (.iaddr 1 (.t 84) (.t 85)) (tg 87 76 true (.load 1 false (.t 86)) (tg 88 76 true (.bin .geq (.t 82) (.t 87)) (tg 89 73 false (.pick (.t 76) (.t 88) (.c (.bool false))) (tq 90 (.pick (.t 73) (.c (.bool true)) (.t 89)) .done))))))))))))))))))) .non)))))))))))
 (.cut (.cond (.t 90) (.seq (.reg (tm 2 (.c (.bool false)) .done))
 .ret)
 .skip))))
 (.reg (tm 60 (.t 5) (tq 61 (.bin .add (.t 60) (.c (.int .i64 1))) (tm 5 (.t 61) .done)))))))))
 (.cut (.seq (.reg (tm 2 (.c (.bool true)) .done))
 .ret)))))))
theorem e6s:a1e Tryz.prog Tryz.f137 = some (e6r.erase,[.mov (.t 2)],91):=by kernel_rfl
def a4l (B:Nat) (A:a0q) (F:a0v):Nat → Int → Option (Fl Bool Unit)
  | 0,_ => none
  | k + 1,E =>
    if (decide (E < (B:Int))) then
    (idx A.Columns E).bind fun K =>
    if (K.Name == F.Name) then
    some (.ret false)
    else
    a4l B A F k (w64 (E + 1))
    else
    some (.go ())

def a5b (A:a0q):List a0v → Nat → Option (Fl Bool Unit)
  | [],B =>
    some (.go ())
  | F :: xs,B =>
    (b1l F).bind fun O =>
    if (!O) then
    some (.ret false)
    else
    (a4l B A F FUEL 0).bind fun q => (match q with
    | .ret r => some (.ret r)
    | .go _ =>
    a5b A xs (B + 1))

def a5c (A:a0q):List Int → Nat → Option (Fl Bool Unit)
  | [],D =>
    some (.go ())
  | G :: xs,D =>
    (((a3f G 0 (w64 ((A.Columns.length:Int) - 1))).bind fun M =>
    if (!M) then
    some true
    else
    if (decide ((D:Int) > 0)) then
    (idx A.Unique (w64 ((D:Int) - 1))).bind fun J =>
    some (decide (J ≥ G))
    else
    some false:Option Bool)).bind fun L =>
    if L then
    some (.ret false)
    else
    a5c A xs (D + 1)

def a9z (A:a0q):Option Bool :=
    (((a7x A.Name).bind fun P =>
    if (!P) then
    some true
    else
    (a3f (A.Columns.length:Int) 1 6).bind fun H =>
    some (bif (!H) then true else (decide ((A.Unique.length:Int) > 6))):Option Bool)).bind fun N =>
    if N then
    some false
    else
    (a5b A A.Columns 0).bind fun q => (match q with
    | .ret r => some r
    | .go _ =>
    (a5c A A.Unique 0).bind fun q => (match q with
    | .ret r => some r
    | .go _ =>
    some true))
theorem c3e (A:a0q) (r:Bool) (hf:a9z A = some r):a0a Tryz.prog 137 .flat [(x9 A)] (.bool r):=by
 refine a0a.of_awp mixed Tryz.func137 e6s nle ?_;rw [a0n];unfold a9z at hf;unfold e6r;refine (show awp Tryz.prog false 0 _ (ofL [(0,(x9 A))]) [] _ from ?_);refine sr<|x8 (a1j (j:=0) (c:=(.agg [(.str A.Name),(.lst 8 (A.Columns.map o5)),(.lst 1 (A.Unique.map encI)),(.bool A.Root)])) rfl tr rfl rfl)<|l7 (.bool false) rfl<|dk<|o7<|o7<|?_
 obtain ⟨N,hb1,hf⟩:=ob hf
 refine a1k ([(1,(.ptr 0 0 0)),(22,(.bool N))],[.box 4 (.agg [(.str A.Name),(.lst 8 (A.Columns.map o5)),(.lst 1 (A.Unique.map encI)),(.bool A.Root)])]) ?_ ?_
 ·refine a0r<|o8 (.ptr 0 0 0) rfl tr rfl<|o8 (.str A.Name) rfl nle rfl<|?_
  obtain ⟨P,er13,hb1⟩:=ob hb1
  refine x8 (a0j (a8v _ _ er13) rfl .r rfl)<|o8 (.bool (!P)) rfl tr rfl<|l7 (.bool (!P)) rfl<|?_
  rcases oi hb1 with ⟨c15,hb1⟩ | ⟨c15,hb1⟩
  ·refine a0i (s:=10) (b:=true) rfl c15<|o6 rfl rfl<|o6 rfl rfl<|o6 rfl rfl<|o6 rfl rfl<|o6 rfl rfl<|o8 (.bool true) rfl tr rfl<|l7 (.bool true) rfl<|o6 rfl rfl<|o6 rfl rfl<|o6 rfl rfl<|o6 rfl rfl<|o8 (.bool true) rfl tr rfl<|y5<|?_;obtain rfl:=os hb1;exact ⟨[],[0],_,_,rfl,rfl,⟨.r,⟨.r,tr⟩⟩,.r⟩
  ·refine a0i (s:=10) (b:=false) rfl (bf c15)<|s_on rfl<|o8 (.ptr 0 0 1) rfl tr rfl<|s_on rfl<|o8 (.lst 8 (A.Columns.map o5)) rfl nle rfl<|s_on rfl<|a1i (a1p (enc:=o5) rfl) fun hl16 => s_on rfl<|?_
   obtain ⟨H,er18,hb1⟩:=ob hb1
   refine x8 (a0j (a2f _ _ _ _ er18) rfl .r rfl)<|s_on rfl<|o8 (.bool (!H)) rfl tr rfl<|o8 (.bool (!H)) rfl tr rfl<|l7 (.bool (!H)) rfl<|?_;refine s_g (v:=(!H)) (.ptr 0 0 2) rfl (fun hv => by (try simp only [o9 hv]);exact ⟨rfl,tr,rfl⟩) ?_;refine s_g (v:=(!H)) (.lst 1 (A.Unique.map encI)) rfl (fun hv => by (try simp only [o9 hv]);exact ⟨rfl,nle,rfl⟩) ?_;refine s_g (v:=(!H)) (.I (A.Unique.length:Int)) rfl (fun hv => by (try simp only [o9 hv]);exact ⟨rfl,tr,lenV _ _⟩) ?_;refine s_g (v:=(!H)) (.bool (decide ((A.Unique.length:Int) > 6))) rfl (fun hv => by (try simp only [o9 hv]);exact ⟨rfl,rfl,rfl⟩) ?_
   refine a2a (x:=true) (y:=(decide ((A.Unique.length:Int) > 6))) rfl (fun hv => by (try simp only [o9 hv]);rfl) (fun hv => by (try simp only [o9 hv]);rfl) ?_;refine y5 ?_;obtain rfl:=os hb1;exact ⟨[],[0],_,_,rfl,rfl,⟨.r,⟨.r,tr⟩⟩,.r⟩
 ·rcases oi hf with ⟨c20,hf⟩ | ⟨c20,hf⟩
  ·refine y8 rfl c20<|sr<|l7 (.bool false) rfl<|dk<|a0b<|?_;obtain rfl:=os hf;exact y7 ⟨tr,tr⟩ rfl .r
  ·refine y9 rfl (bf c20)<|a0k<|a0m<|o7<|sr<|l7 (.I 0) rfl<|dk<|?_
   obtain ⟨p186,hb1,hf⟩:=ob hf
   refine a2c (X:={q:Unit // p186 = .go q}) (fun q => ([(1,(.ptr 0 0 0))],[.box 4 (.agg [(.str A.Name),(.lst 8 (A.Columns.map o5)),(.lst 1 (A.Unique.map encI)),(.bool A.Root)])])) ?_ ?_
   ·refine a1v (X:={q:Nat // a5b A (A.Columns.drop q) q = some p186}) (fun q => ([(1,(.ptr 0 0 0)),(3,(.I (q.1:Int)))],[.box 4 (.agg [(.str A.Name),(.lst 8 (A.Columns.map o5)),(.lst 1 (A.Unique.map encI)),(.bool A.Root)])])) (fun q => A.Columns.length - q.1) ⟨0,hb1⟩ ⟨[],[0],_,_,rfl,rfl,⟨.r,⟨.r,tr⟩⟩,.r⟩ ?_
    rintro ⟨B,hc1⟩
    have hc1:a5b A (A.Columns.drop B) B = some p186:=hc1
    refine (show awp Tryz.prog false 0 _ (ofL [(1,(.ptr 0 0 0)),(3,(.I (B:Int)))]) [.box 4 (.agg [(.str A.Name),(.lst 8 (A.Columns.map o5)),(.lst 1 (A.Unique.map encI)),(.bool A.Root)])] _ from ?_)
    rcases a6c A.Columns B with ⟨hie189,hd192⟩ | ⟨hlt187,F,hx188,hd192⟩
    ·rw [hd192,a5b.eq_1] at hc1
     have hq191:=dlf hie189
     refine o7<|sr<|l7 (.I (B:Int)) rfl<|o8 (.ptr 0 0 1) rfl tr rfl<|o8 (.lst 8 (A.Columns.map o5)) rfl nle rfl<|a1i (a1p (enc:=o5) rfl) fun hl194 => o8 (.bool (decide ((B:Int) < (A.Columns.length:Int)))) rfl rfl rfl<|dk<|y9 rfl hq191<|a3i<|a3h<|a2e<|a3g<|?_;obtain rfl:=os hc1;exact a4b ⟨_,rfl⟩ ⟨[],[0],_,_,rfl,rfl,⟨.r,tr⟩,.r⟩
    ·rw [hd192,a5b.eq_2] at hc1
     have hq191:=dlt hlt187
     refine o7<|sr<|l7 (.I (B:Int)) rfl<|o8 (.ptr 0 0 1) rfl tr rfl<|o8 (.lst 8 (A.Columns.map o5)) rfl nle rfl<|a1i (a1p (enc:=o5) rfl) fun hl195 => o8 (.bool (decide ((B:Int) < (A.Columns.length:Int)))) rfl rfl rfl<|dk<|y8 rfl hq191<|a0k<|a0m<|o7<|a3y<|o7<|sr<|?_
     obtain ⟨O,er197,hc1⟩:=ob hc1
     refine o8 (.ptr 0 0 1) rfl tr rfl<|o8 (.lst 8 (A.Columns.map o5)) rfl nle rfl<|l7 (.I (B:Int)) rfl<|x8 (a1o (enc:=o5) rfl rfl hx188)<|o8 (o5 F) rfl nle rfl<|x8 (a0j (c3d _ _ er197) rfl .r rfl)<|o8 (.bool (!O)) rfl tr rfl<|dk<|?_
     rcases oi hc1 with ⟨c198,hc1⟩ | ⟨c198,hc1⟩
     ·refine y8 rfl c198<|sr<|l7 (.bool false) rfl<|dk<|a0b<|?_;obtain rfl:=os hc1;obtain rfl:=os hf;exact y7 ⟨tr,tr⟩ rfl .r
     ·refine y9 rfl (bf c198)<|a0k<|a0m<|sr<|l7 (.I 0) rfl<|dk<|?_
      obtain ⟨p227,hb2,hc1⟩:=ob hc1
      refine c7u (X:={q:Unit // p227 = .go q}) (fun q => ([(1,(.ptr 0 0 0)),(3,(.I (B:Int)))],[.box 4 (.agg [(.str A.Name),(.lst 8 (A.Columns.map o5)),(.lst 1 (A.Unique.map encI)),(.bool A.Root)])])) ?_ ?_
      ·refine a1v (X:={q:(Nat × Int) // a4l B A F q.1 q.2 = some p227}) (fun q => ([(1,(.ptr 0 0 0)),(3,(.I (B:Int))),(4,(.I q.1.2))],[.box 4 (.agg [(.str A.Name),(.lst 8 (A.Columns.map o5)),(.lst 1 (A.Unique.map encI)),(.bool A.Root)])])) (fun q => q.1.1) ⟨(FUEL,0),hb2⟩ ⟨[],[0],_,_,rfl,rfl,⟨.r,⟨.r,⟨.r,tr⟩⟩⟩,.r⟩ ?_
       rintro ⟨⟨k,E⟩,hc2⟩
       have hc2:a4l B A F k E = some p227:=hc2
       refine (show awp Tryz.prog false 0 _ (ofL [(1,(.ptr 0 0 0)),(3,(.I (B:Int))),(4,(.I E))]) [.box 4 (.agg [(.str A.Name),(.lst 8 (A.Columns.map o5)),(.lst 1 (A.Unique.map encI)),(.bool A.Root)])] _ from ?_)
       rcases k with _ | k
       ·rw [a4l.eq_1] at hc2
        cases hc2
       ·rw [a4l.eq_2] at hc2;refine o7<|sr<|l7 (.I E) rfl<|l7 (.I (B:Int)) rfl<|o8 (.bool (decide (E < (B:Int)))) rfl rfl rfl<|dk<|?_
        rcases oi hc2 with ⟨c228,hc2⟩ | ⟨c228,hc2⟩
        ·refine y8 rfl c228<|a0k<|a0m<|o7<|a3y<|sr<|o8 (.ptr 0 0 1) rfl tr rfl<|o8 (.lst 8 (A.Columns.map o5)) rfl nle rfl<|l7 (.I E) rfl<|?_
         obtain ⟨K,ex230,hc2⟩:=ob hc2
         refine x8 (a2t (enc:=o5) rfl rfl (a8n ex230) (a8o ex230))<|o8 (.iptr (o5 K) 0) rfl tr rfl<|o8 (.str K.Name) rfl nle rfl<|o8 (.ptr 0 0 1) rfl tr rfl<|o8 (.lst 8 (A.Columns.map o5)) rfl nle rfl<|l7 (.I (B:Int)) rfl<|x8 (a1o (enc:=o5) rfl rfl hx188)<|o8 (.iptr (o5 F) 0) rfl tr rfl<|o8 (.str F.Name) rfl nle rfl<|o8 (.bool (K.Name == F.Name)) rfl tr rfl<|dk<|?_
         rcases oi hc2 with ⟨d5j,hc2⟩ | ⟨d5j,hc2⟩
         ·refine y8 rfl d5j<|sr<|l7 (.bool false) rfl<|dk<|a0b<|?_;obtain rfl:=os hc2;obtain rfl:=os hc1;obtain rfl:=os hf;exact y7 ⟨tr,tr⟩ rfl .r
         ·refine y9 rfl (bf d5j)<|a0k<|a2y<|a0m<|a0r<|l7 (.I E) rfl<|o8 (.I (w64 (E + 1))) rfl rfl rfl<|l7 (.I (w64 (E + 1))) rfl<|y5<|?_;exact a1z ⟨(k,w64 (E + 1)),hc2⟩ (Nat.lt_succ_self _) ⟨[],[0],_,_,rfl,rfl,⟨.r,⟨.r,⟨.r,tr⟩⟩⟩,.r⟩
        ·refine y9 rfl (bf c228)<|a3i<|a3h<|a2e<|a3g<|?_;refine a2y ?_;obtain rfl:=os hc2;exact a4b ⟨_,rfl⟩ ⟨[],[0],_,_,rfl,rfl,⟨.r,⟨.r,tr⟩⟩,.r⟩
      ·rintro ⟨_,rfl⟩
       refine a0r<|l7 (.I (B:Int)) rfl<|o8 (.I (w64 ((B:Int) + 1))) rfl rfl rfl<|l7 (.I (w64 ((B:Int) + 1))) rfl<|y5<|?_;exact a1z ⟨(B + 1),hc1⟩ (mul hlt187) ⟨[],[0],_,_,rfl,rfl,⟨.r,⟨.of_eq (congrArg (AV.int _) (a1x hlt187 hl195)),tr⟩⟩,.r⟩
   ·rintro ⟨_,rfl⟩
    refine o7<|sr<|l7 (.I 0) rfl<|dk<|?_
    obtain ⟨p316,hb1,hf⟩:=ob hf
    refine a2c (X:={q:Unit // p316 = .go q}) (fun q => ([],[])) ?_ ?_
    ·refine a1v (X:={q:Nat // a5c A (A.Unique.drop q) q = some p316}) (fun q => ([(1,(.ptr 0 0 0)),(5,(.I (q.1:Int)))],[.box 4 (.agg [(.str A.Name),(.lst 8 (A.Columns.map o5)),(.lst 1 (A.Unique.map encI)),(.bool A.Root)])])) (fun q => A.Unique.length - q.1) ⟨0,hb1⟩ ⟨[],[0],_,_,rfl,rfl,⟨.r,⟨.r,tr⟩⟩,.r⟩ ?_
     rintro ⟨D,hc1⟩
     have hc1:a5c A (A.Unique.drop D) D = some p316:=hc1
     refine (show awp Tryz.prog false 0 _ (ofL [(1,(.ptr 0 0 0)),(5,(.I (D:Int)))]) [.box 4 (.agg [(.str A.Name),(.lst 8 (A.Columns.map o5)),(.lst 1 (A.Unique.map encI)),(.bool A.Root)])] _ from ?_)
     rcases a6c A.Unique D with ⟨hie319,hd322⟩ | ⟨hlt317,G,hx318,hd322⟩
     ·rw [hd322,a5c.eq_1] at hc1
      have hq321:=dlf hie319
      refine o7<|sr<|l7 (.I (D:Int)) rfl<|o8 (.ptr 0 0 2) rfl tr rfl<|o8 (.lst 1 (A.Unique.map encI)) rfl nle rfl<|a1i (a1p (enc:=encI) rfl) fun hl324 => o8 (.bool (decide ((D:Int) < (A.Unique.length:Int)))) rfl rfl rfl<|dk<|y9 rfl hq321<|a3i<|a3h<|a2e<|a3g<|?_;obtain rfl:=os hc1;exact a4b ⟨_,rfl⟩ ⟨[],[],_,_,rfl,rfl,tr,.r⟩
     ·rw [hd322,a5c.eq_2] at hc1
      have hq321:=dlt hlt317
      refine o7<|sr<|l7 (.I (D:Int)) rfl<|o8 (.ptr 0 0 2) rfl tr rfl<|o8 (.lst 1 (A.Unique.map encI)) rfl nle rfl<|a1i (a1p (enc:=encI) rfl) fun hl325 => o8 (.bool (decide ((D:Int) < (A.Unique.length:Int)))) rfl rfl rfl<|dk<|y8 rfl hq321<|a0k<|a0m<|o7<|a3y<|o7<|?_
      obtain ⟨L,hb2,hc1⟩:=ob hc1
      refine a1k ([(1,(.ptr 0 0 0)),(5,(.I (D:Int))),(90,(.bool L))],[.box 4 (.agg [(.str A.Name),(.lst 8 (A.Columns.map o5)),(.lst 1 (A.Unique.map encI)),(.bool A.Root)])]) ?_ ?_
      ·refine a0r<|o8 (.ptr 0 0 2) rfl tr rfl<|o8 (.lst 1 (A.Unique.map encI)) rfl nle rfl<|l7 (.I (D:Int)) rfl<|x8 (a1o (enc:=encI) rfl rfl hx318)<|o8 (.I G) rfl ⟨rfl,rfl⟩ rfl<|o8 (.ptr 0 0 1) rfl tr rfl<|o8 (.lst 8 (A.Columns.map o5)) rfl nle rfl<|a1i (a1p (enc:=o5) rfl) fun hl335 => o8 (.I (w64 ((A.Columns.length:Int) - 1))) rfl rfl rfl<|?_
       obtain ⟨M,er337,hb2⟩:=ob hb2
       refine a1a (a0j (a2f _ _ _ _ er337) rfl .r rfl) a7h tr<|o8 (.bool (!M)) rfl tr rfl<|l7 (.bool (!M)) rfl<|?_
       rcases oi hb2 with ⟨d5a,hb2⟩ | ⟨d5a,hb2⟩
       ·refine a0i (s:=73) (b:=true) rfl d5a<|o6 rfl rfl<|o6 rfl rfl<|o6 rfl rfl<|a0x rfl<|a0x rfl<|a0x rfl<|a0x rfl<|a0x rfl<|a0x rfl<|a0x rfl<|a0x rfl<|a0x rfl<|a0x rfl<|a0x rfl<|a0x rfl<|o6 rfl rfl<|o8 (.bool true) rfl tr rfl<|y5<|?_;obtain rfl:=os hb2;exact ⟨[],[0],_,_,rfl,rfl,⟨.r,⟨.r,⟨.r,tr⟩⟩⟩,.r⟩
       ·refine a0i (s:=73) (b:=false) rfl (bf d5a)<|s_on rfl<|l7 (.I (D:Int)) rfl<|s_on rfl<|o8 (.bool (decide ((D:Int) > 0))) rfl rfl rfl<|s_on rfl<|l7 (.bool (decide ((D:Int) > 0))) rfl<|?_
        rcases oi hb2 with ⟨d5b,hb2⟩ | ⟨d5b,hb2⟩
        ·refine a0i (s:=76) (b:=true) rfl d5b<|s_on rfl<|o8 (.ptr 0 0 2) rfl tr rfl<|s_on rfl<|o8 (.lst 1 (A.Unique.map encI)) rfl nle rfl<|s_on rfl<|l7 (.I (D:Int)) rfl<|s_on rfl<|o8 (.I (w64 ((D:Int) - 1))) rfl rfl rfl<|s_on rfl<|?_
         obtain ⟨J,ex341,hb2⟩:=ob hb2
         refine x8 (a2t (enc:=encI) rfl rfl (a8n ex341) (a8o ex341))<|s_on rfl<|o8 (.I J) rfl ⟨rfl,rfl⟩ rfl<|s_on rfl<|o8 (.ptr 0 0 2) rfl tr rfl<|s_on rfl<|o8 (.lst 1 (A.Unique.map encI)) rfl nle rfl<|s_on rfl<|l7 (.I (D:Int)) rfl<|s_on rfl<|x8 (a1o (enc:=encI) rfl rfl hx318)<|s_on rfl<|o8 (.I G) rfl ⟨rfl,rfl⟩ rfl<|s_on rfl<|o8 (.bool (decide (J ≥ G))) rfl rfl rfl<|s_on rfl<|o8 (.bool (decide (J ≥ G))) rfl tr rfl<|o8 (.bool (decide (J ≥ G))) rfl tr rfl<|y5<|?_;obtain rfl:=os hb2;exact ⟨[],[0],_,_,rfl,rfl,⟨.r,⟨.r,⟨.r,tr⟩⟩⟩,.r⟩
        ·refine a0i (s:=76) (b:=false) rfl (bf d5b)<|o6 rfl rfl<|o6 rfl rfl<|o6 rfl rfl<|o6 rfl rfl<|o6 rfl rfl<|o6 rfl rfl<|o6 rfl rfl<|o6 rfl rfl<|o6 rfl rfl<|o6 rfl rfl<|o6 rfl rfl<|o6 rfl rfl<|s_on rfl<|o8 (.bool false) rfl tr rfl<|o8 (.bool false) rfl tr rfl<|y5<|?_;obtain rfl:=os hb2;exact ⟨[],[0],_,_,rfl,rfl,⟨.r,⟨.r,⟨.r,tr⟩⟩⟩,.r⟩
      ·rcases oi hc1 with ⟨d5i,hc1⟩ | ⟨d5i,hc1⟩
       ·refine y8 rfl d5i<|sr<|l7 (.bool false) rfl<|dk<|a0b<|?_;obtain rfl:=os hc1;obtain rfl:=os hf;exact y7 ⟨tr,tr⟩ rfl .r
       ·refine y9 rfl (bf d5i)<|a0k<|a2y<|a0m<|a0r<|l7 (.I (D:Int)) rfl<|o8 (.I (w64 ((D:Int) + 1))) rfl rfl rfl<|l7 (.I (w64 ((D:Int) + 1))) rfl<|y5<|?_;exact a1z ⟨(D + 1),hc1⟩ (mul hlt317) ⟨[],[0],_,_,rfl,rfl,⟨.r,⟨.of_eq (congrArg (AV.int _) (a1x hlt317 hl325)),tr⟩⟩,.r⟩
    ·rintro ⟨_,rfl⟩
     refine sr<|l7 (.bool true) rfl<|dk<|a0b<|?_;obtain rfl:=os hf;exact y7 ⟨tr,tr⟩ rfl .r

/- spec.l04Find -/
def c232:a0s :=
 (.seq (.reg (tq 2 (.box 1 (.t 0)) (tm 4 (.c (.int .i64 0)) .done)))
 (.seq (.seq (.reg (tm 5 (.c (.int .i64 0)) .done))
 (.block 0 (.loop (.seq (.seq (.reg (tm 6 (.t 5) (tq 7 (.faddr 0 (.t 2)) (tq 8 (.load 1 false (.t 7)) (tq 9 (.len (.t 8)) (tq 10 (.bin .lss (.t 6) (.t 9)) .done))))))
 (.cond (.t 10) .skip
 (.exit 0)))
 (.seq (.block 1 (.seq (.reg (tq 13 (.faddr 0 (.t 2)) (tq 14 (.load 1 false (.t 13)) (tm 15 (.t 5) (tq 16 (.iaddr 4 (.t 14) (.t 15)) (tq 17 (.faddr 0 (.t 16)) (tq 18 (.load 1 false (.t 17)) (tm 19 (.t 1) (tq 20 (.bin .eql (.t 18) (.t 19)) .done)))))))))
 (.cond (.t 20) (.seq (.reg (tm 21 (.t 5) (tm 4 (.t 21) .done)))
 .ret)
 .skip)))
 (.reg (tm 11 (.t 5) (tq 12 (.bin .add (.t 11) (.c (.int .i64 1))) (tm 5 (.t 12) .done)))))))))
 (.cut (.seq (.reg (tq 4 (.mov (.c (.int .i64 (-1)))) .done))
 .ret))))
theorem e6t:a1e Tryz.prog Tryz.f232 = some (c232.erase,[.mov (.t 4)],22):=by kernel_rfl
def a5v (A:Str):List a0q → Nat → Option (Fl Int Unit)
  | [],B =>
    some (.go ())
  | E :: xs,B =>
    if (E.Name == A) then
    some (.ret (B:Int))
    else
    a5v A xs (B + 1)

def b0t (D:a2q) (A:Str):Option Int :=
    (a5v A D.Tables 0).bind fun q => (match q with
    | .ret r => some r
    | .go _ =>
    some (-1))
theorem b7q (D:a2q) (A:Str) (r:Int) (hf:b0t D A = some r):a0a Tryz.prog 232 .flat [(a2x D),(.str A)] (.I r):=by
 refine a0a.of_awp mixed Tryz.func232 e6t nle ?_;rw [a0n];unfold b0t at hf;unfold c232;refine (show awp Tryz.prog false 0 _ (ofL [(0,(a2x D)),(1,(.str A))]) [] _ from ?_);refine sr<|x8 (a1j (j:=0) (c:=(.agg [(.lst 4 (D.Tables.map x9))])) rfl tr rfl rfl)<|l7 (.I 0) rfl<|dk<|o7<|sr<|l7 (.I 0) rfl<|dk<|?_
 obtain ⟨p21,hb1,hf⟩:=ob hf
 refine a2c (X:={q:Unit // p21 = .go q}) (fun q => ([],[])) ?_ ?_
 ·refine a1v (X:={q:Nat // a5v A (D.Tables.drop q) q = some p21}) (fun q => ([(1,(.str A)),(2,(.ptr 0 0 0)),(5,(.I (q.1:Int)))],[.box 1 (.agg [(.lst 4 (D.Tables.map x9))])])) (fun q => D.Tables.length - q.1) ⟨0,hb1⟩ ⟨[],[0],_,_,rfl,rfl,⟨.r,⟨.r,⟨.r,tr⟩⟩⟩,.r⟩ ?_
  rintro ⟨B,hc1⟩
  have hc1:a5v A (D.Tables.drop B) B = some p21:=hc1
  refine (show awp Tryz.prog false 0 _ (ofL [(1,(.str A)),(2,(.ptr 0 0 0)),(5,(.I (B:Int)))]) [.box 1 (.agg [(.lst 4 (D.Tables.map x9))])] _ from ?_)
  rcases a6c D.Tables B with ⟨hie24,hd27⟩ | ⟨hlt22,E,hx23,hd27⟩
  ·rw [hd27,a5v.eq_1] at hc1
   have hq26:=dlf hie24
   refine o7<|sr<|l7 (.I (B:Int)) rfl<|o8 (.ptr 0 0 0) rfl tr rfl<|o8 (.lst 4 (D.Tables.map x9)) rfl nle rfl<|a1i (a1p (enc:=x9) rfl) fun hl29 => o8 (.bool (decide ((B:Int) < (D.Tables.length:Int)))) rfl rfl rfl<|dk<|y9 rfl hq26<|a3i<|a3h<|a2e<|a3g<|?_;obtain rfl:=os hc1;exact a4b ⟨_,rfl⟩ ⟨[],[],_,_,rfl,rfl,tr,.r⟩
  ·rw [hd27,a5v.eq_2] at hc1
   have hq26:=dlt hlt22
   refine o7<|sr<|l7 (.I (B:Int)) rfl<|o8 (.ptr 0 0 0) rfl tr rfl<|o8 (.lst 4 (D.Tables.map x9)) rfl nle rfl<|a1i (a1p (enc:=x9) rfl) fun hl30 => o8 (.bool (decide ((B:Int) < (D.Tables.length:Int)))) rfl rfl rfl<|dk<|y8 rfl hq26<|a0k<|a0m<|o7<|a3y<|sr<|o8 (.ptr 0 0 0) rfl tr rfl<|o8 (.lst 4 (D.Tables.map x9)) rfl nle rfl<|l7 (.I (B:Int)) rfl<|x8 (a1o (enc:=x9) rfl rfl hx23)<|o8 (.iptr (x9 E) 0) rfl tr rfl<|o8 (.str E.Name) rfl nle rfl<|l7 (.str A) rfl<|o8 (.bool (E.Name == A)) rfl tr rfl<|?_
   refine dk<|?_
   rcases oi hc1 with ⟨c31,hc1⟩ | ⟨c31,hc1⟩
   ·refine y8 rfl c31<|sr<|l7 (.I (B:Int)) rfl<|l7 (.I (B:Int)) rfl<|dk<|a0b<|?_;obtain rfl:=os hc1;obtain rfl:=os hf;exact y7 ⟨tr,tr⟩ rfl .r
   ·refine y9 rfl (bf c31)<|a0k<|a2y<|a0m<|a0r<|l7 (.I (B:Int)) rfl<|o8 (.I (w64 ((B:Int) + 1))) rfl rfl rfl<|l7 (.I (w64 ((B:Int) + 1))) rfl<|y5<|?_;exact a1z ⟨(B + 1),hc1⟩ (mul hlt22) ⟨[],[0],_,_,rfl,rfl,⟨.r,⟨.r,⟨.of_eq (congrArg (AV.int _) (a1x hlt22 hl30)),tr⟩⟩⟩,.r⟩
 ·rintro ⟨_,rfl⟩
  refine sr<|l7 (.I (-1)) rfl<|dk<|a0b<|?_;obtain rfl:=os hf;exact y7 ⟨tr,tr⟩ rfl .r

end Go.R
