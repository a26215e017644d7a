import Derived.Test.YtldahjcikmpifaaGreatJMO1
set_option linter.all false
namespace Go.R
open Go Go.Proofs
set_option maxHeartbeats 8000000
def e6x:a0q :=
 (.seq (.reg (tq 1 (.box 5 (.t 0)) (tm 2 (.c (.str [])) (tm 3 (.c (.str [])) (tm 4 (.c .nil) (tm 5 (.c (.bool false)) .done))))))
 (.seq (.seq (.reg (tq 8 (.faddr 0 (.t 1)) (tq 9 (.load 1 false (.t 8)) (tq 10 (.bin .neq (.t 9) (.c (.int .i64 4))) (tm 11 (.t 10) (tg 12 11 false (.faddr 4 (.t 1)) (tg 13 11 false (.load 1 false (.t 12)) (tg 14 11 false (.len (.t 13)) (tg 15 11 false (.bin .neq (.t 14) (.c (.int .i64 3))) (tq 16 (.pick (.t 11) (.c (.bool true)) (.t 15)) (tm 17 (.t 16) (tg 18 17 false (.faddr 4 (.t 1)) (tg 19 17 false (.load 1 false (.t 18)) (tg 20 17 false (.iaddr 5 (.t 19) (.c (.int .i64 0))) (tg 21 17 false (.faddr 0 (.t 20)) (tg 22 17 false (.load 1 false (.t 21)) (tg 23 17 false (.bin .neq (.t 22) (.c (.int .i64 3))) (tq 24 (.pick (.t 17) (.c (.bool true)) (.t 23)) (tm 25 (.t 24) (tg 26 25 false (.faddr 4 (.t 1)) (tg 27 25 false (.load 1 false (.t 26)) (tg 28 25 false (.iaddr 5 (.t 27) (.c (.int .i64 1))) (tg 29 25 false (.faddr 0 (.t 28)) (tg 30 25 false (.load 1 false (.t 29)) (tg 31 25 false (.bin .neq (.t 30) (.c (.int .i64 3))) (tq 32 (.pick (.t 25) (.c (.bool true)) (.t 31)) .done))))))))))))))))))))))))))
 (.cut (.cond (.t 32) (.seq (.reg (tq 33 (.bslice 3 []) (tm 2 (.c (.str [])) (tm 3 (.c (.str [])) (tm 4 (.t 33) (tm 5 (.c (.bool false)) .done))))))
 .ret)
 .skip)))
 (.seq (.reg (tq 35 (.faddr 4 (.t 1)) (tq 36 (.load 1 false (.t 35)) (tq 37 (.iaddr 5 (.t 36) (.c (.int .i64 2))) (tq 38 (.load 5 true (.t 37)) (tq 39 (.call 355 [(.t 38)]) (tm 34 (.t 39) (tq 40 (.extract 0 (.t 34)) (tq 41 (.extract 1 (.t 34)) (tm 6 (.t 40) (tm 7 (.t 41) .done)))))))))))
 (.seq (.reg (tq 42 (.faddr 4 (.t 1)) (tq 43 (.load 1 false (.t 42)) (tq 44 (.iaddr 5 (.t 43) (.c (.int .i64 0))) (tq 45 (.faddr 2 (.t 44)) (tq 46 (.load 1 false (.t 45)) (tq 47 (.faddr 4 (.t 1)) (tq 48 (.load 1 false (.t 47)) (tq 49 (.iaddr 5 (.t 48) (.c (.int .i64 1))) (tq 50 (.faddr 2 (.t 49)) (tq 51 (.load 1 false (.t 50)) (tm 52 (.t 6) (tm 53 (.t 7) (tm 2 (.t 46) (tm 3 (.t 51) (tm 4 (.t 52) (tm 5 (.t 53) .done)))))))))))))))))
 .ret))))
theorem e6y:a1b Tryz.prog Tryz.f313 = some (e6x.erase,[.mov (.t 2),.mov (.t 3),.mov (.t 4),.mov (.t 5)],54):=by kernel_rfl
def b1j (A:y8):Option (Str × Str × (List a0g) × Bool) :=
    ((if (bif (A.Kind != 4) then true else ((A.Items.length:Int) != 3)) then
    some true
    else
    (idx A.Items 0).bind fun E =>
    if (E.Kind != 3) then
    some true
    else
    (idx A.Items 1).bind fun F =>
    some (F.Kind != 3):Option Bool)).bind fun J =>
    if J then
    some ([],[],[],false)
    else
    (idx A.Items 2).bind fun D =>
    (a8q D).bind fun B =>
    (idx A.Items 0).bind fun G =>
    (idx A.Items 1).bind fun H =>
    some (G.T,H.T,B.1,B.2)
theorem c3k (A:y8) (r:(Str × Str × (List a0g) × Bool)) (hf:b1j A = some r):a0a Tryz.prog 313 .fresh [(l9 A)] (.tup [(.str r.1),(.str r.2.1),(.lst 3 (r.2.2.1.map o5)),(.bool r.2.2.2)]):=by
 refine a0a.of_awp mixed Tryz.func313 e6y nle ?_;rw [a0l];rw [o9 A];unfold b1j at hf;unfold e6x;refine (show awp Tryz.prog true 0 _ (ofL [(0,(.agg [(.I A.Kind),(.I A.N),(.str A.T),(.lst 1 (A.Keys.map AV.str)),(.lst 5 (A.Items.map l9))]))]) [] _ from ?_);refine sr<|y7 (a1i (j:=0) (c:=(.agg [(.I A.Kind),(.I A.N),(.str A.T),(.lst 1 (A.Keys.map AV.str)),(.lst 5 (A.Items.map l9))])) rfl tr rfl rfl)<|l7 (.str []) rfl<|l7 (.str []) rfl<|l7 .nil rfl<|l7 (.bool false) rfl<|dk<|o6<|o6<|?_
 obtain ⟨J,hb1,hf⟩:=ob hf
 refine a2d ([(1,(.ptr 0 0 0)),(32,(.bool J))],[.box 5 (.agg [(.I A.Kind),(.I A.N),(.str A.T),(.lst 1 (A.Keys.map AV.str)),(.lst 5 (A.Items.map l9))])]) ?_ ?_
 ·refine a0t<|o7 (.ptr 0 0 0) rfl tr rfl<|o7 (.I A.Kind) rfl nle rfl<|o7 (.bool (A.Kind != 4)) rfl rfl rfl<|l7 (.bool (A.Kind != 4)) rfl<|?_;refine s_g (v:=(A.Kind != 4)) (.ptr 0 0 4) rfl (fun hv => by (try simp only [a0c hv]);exact ⟨rfl,tr,rfl⟩) ?_;refine s_g (v:=(A.Kind != 4)) (.lst 5 (A.Items.map l9)) rfl (fun hv => by (try simp only [a0c hv]);exact ⟨rfl,nle,rfl⟩) ?_;refine s_g (v:=(A.Kind != 4)) (.I (A.Items.length:Int)) rfl (fun hv => by (try simp only [a0c hv]);exact ⟨rfl,tr,lenV _ _⟩) ?_;refine s_g (v:=(A.Kind != 4)) (.bool ((A.Items.length:Int) != 3)) rfl (fun hv => by (try simp only [a0c hv]);exact ⟨rfl,rfl,rfl⟩) ?_
  refine a3a (x:=true) (y:=((A.Items.length:Int) != 3)) rfl (fun hv => by (try simp only [a0c hv]);rfl) (fun hv => by (try simp only [a0c hv]);rfl) ?_;refine l7 (.bool (bif (A.Kind != 4) then true else ((A.Items.length:Int) != 3))) rfl ?_
  rcases oi hb1 with ⟨c12,hb1⟩ | ⟨c12,hb1⟩
  ·refine a0x (s:=17) (b:=true) rfl c12<|y5 rfl rfl<|y5 rfl rfl<|y5 rfl rfl<|y5 rfl rfl<|y5 rfl rfl<|y5 rfl rfl<|o7 (.bool true) rfl tr rfl<|l7 (.bool true) rfl<|y5 rfl rfl<|y5 rfl rfl<|y5 rfl rfl<|y5 rfl rfl<|y5 rfl rfl<|y5 rfl rfl<|o7 (.bool true) rfl tr rfl<|a0e<|?_;obtain rfl:=os hb1;exact ⟨[],[0],_,_,rfl,rfl,⟨.r,⟨.r,tr⟩⟩,.r⟩
  ·refine a0x (s:=17) (b:=false) rfl (bf c12)<|s_on rfl<|o7 (.ptr 0 0 4) rfl tr rfl<|s_on rfl<|o7 (.lst 5 (A.Items.map l9)) rfl nle rfl<|s_on rfl<|?_
   obtain ⟨E,ex14,hb1⟩:=ob hb1
   refine y7 (a3d (enc:=l9) rfl rfl (b0a ex14) (b0b ex14))<|s_on rfl<|o7 (.iptr (l9 E) 0) rfl tr rfl<|s_on rfl<|y7 (a2l (v:=(.I E.Kind)) rfl (o9 _) nle rfl)<|s_on rfl<|o7 (.bool (E.Kind != 3)) rfl rfl rfl<|o7 (.bool (E.Kind != 3)) rfl tr rfl<|l7 (.bool (E.Kind != 3)) rfl<|?_
   rcases oi hb1 with ⟨c15,hb1⟩ | ⟨c15,hb1⟩
   ·refine a0x (s:=25) (b:=true) rfl c15<|y5 rfl rfl<|y5 rfl rfl<|y5 rfl rfl<|y5 rfl rfl<|y5 rfl rfl<|y5 rfl rfl<|o7 (.bool true) rfl tr rfl<|a0e<|?_;obtain rfl:=os hb1;exact ⟨[],[0],_,_,rfl,rfl,⟨.r,⟨.r,tr⟩⟩,.r⟩
   ·refine a0x (s:=25) (b:=false) rfl (bf c15)<|s_on rfl<|o7 (.ptr 0 0 4) rfl tr rfl<|s_on rfl<|o7 (.lst 5 (A.Items.map l9)) rfl nle rfl<|s_on rfl<|?_
    obtain ⟨F,ex17,hb1⟩:=ob hb1
    refine y7 (a3d (enc:=l9) rfl rfl (b0a ex17) (b0b ex17))<|s_on rfl<|o7 (.iptr (l9 F) 0) rfl tr rfl<|s_on rfl<|y7 (a2l (v:=(.I F.Kind)) rfl (o9 _) nle rfl)<|s_on rfl<|o7 (.bool (F.Kind != 3)) rfl rfl rfl<|o7 (.bool (F.Kind != 3)) rfl tr rfl<|a0e<|?_;obtain rfl:=os hb1;exact ⟨[],[0],_,_,rfl,rfl,⟨.r,⟨.r,tr⟩⟩,.r⟩
 ·rcases oi hf with ⟨c18,hf⟩ | ⟨c18,hf⟩
  ·refine x9 rfl c18<|sr<|?_;refine y7 (a1o (j:=1) (as':=[]) rfl (fun _ => by decide) tr .r rfl rfl rfl) ?_;refine l7 (.str []) rfl<|l7 (.str []) rfl<|l7 (.own 1 0 0) rfl<|l7 (.bool false) rfl<|dk<|a0d<|?_;obtain rfl:=os hf;exact a1x ⟨tr,⟨tr,⟨tr,⟨tr,tr⟩⟩⟩⟩ rfl (by decide) .r
  ·refine x8 rfl (bf c18)<|a0h<|a0j<|sr<|?_
   obtain ⟨D,ex20,hf⟩:=ob hf
   obtain ⟨B,er22,hf⟩:=ob hf
   refine o7 (.ptr 0 0 4) rfl tr rfl<|o7 (.lst 5 (A.Items.map l9)) rfl nle rfl<|y7 (a3d (enc:=l9) rfl rfl (b0a ex20) (b0b ex20))<|y7 (a2l (v:=(.agg [(.I D.Kind),(.I D.N),(.str D.T),(.lst 1 (D.Keys.map AV.str)),(.lst 5 (D.Items.map l9))])) rfl (o9 _) nle rfl)<|y7 (a5i (v:=(.tup [(.own 1 0 B.1.length),(.bool B.2)])) (h':=[.row 3 (B.1.map o5)]) (c1r _ _ er22) rfl (.cons (.of_eq (o9 D).symm) .nil) (by simp only [a2r,a2z,List.length_map,List.nil_append,List.append_nil,List.cons_append];rfl))<|l7 (.tup [(.own 1 0 B.1.length),(.bool B.2)]) rfl<|?_
   refine o7 (.own 1 0 B.1.length) rfl nle rfl<|o7 (.bool B.2) rfl nle rfl<|l7 (.own 1 0 B.1.length) rfl<|l7 (.bool B.2) rfl<|dk<|sr<|o7 (.ptr 0 0 4) rfl tr rfl<|o7 (.lst 5 (A.Items.map l9)) rfl nle rfl<|?_
   obtain ⟨G,ex24,hf⟩:=ob hf
   refine y7 (a3d (enc:=l9) rfl rfl (b0a ex24) (b0b ex24))<|o7 (.iptr (l9 G) 2) rfl tr rfl<|y7 (a2l (v:=(.str G.T)) rfl (o9 _) nle rfl)<|o7 (.ptr 0 0 4) rfl tr rfl<|o7 (.lst 5 (A.Items.map l9)) rfl nle rfl<|?_
   obtain ⟨H,ex26,hf⟩:=ob hf
   refine y7 (a3d (enc:=l9) rfl rfl (b0a ex26) (b0b ex26))<|o7 (.iptr (l9 H) 2) rfl tr rfl<|y7 (a2l (v:=(.str H.T)) rfl (o9 _) nle rfl)<|l7 (.own 1 0 B.1.length) rfl<|l7 (.bool B.2) rfl<|l7 (.str G.T) rfl<|l7 (.str H.T) rfl<|l7 (.own 1 0 B.1.length) rfl<|l7 (.bool B.2) rfl<|dk<|a0d<|?_;obtain rfl:=os hf;exact a1x ⟨tr,⟨tr,⟨tr,⟨tr,tr⟩⟩⟩⟩ rfl (by decide) (.tup (.cons .r (.cons .r (.cons (.of_eq (congrArg (AV.lst _) (tk (enc:=o5) B.1))) (.cons .r .nil)))))
def e6z:a0q :=
 (.seq (.reg (tm 0 (.c .nil) .done))
 (.seq (.reg (tq 1 (.bslice 1 [(.c (.str [])),(.c (.str [61,61])),(.c (.str [33,61])),(.c (.str [60])),(.c (.str [60,61])),(.c (.str [62])),(.c (.str [62,61])),(.c (.str [105,110,99,108,117,100,101,115])),(.c (.str [101,120,99,108,117,100,101,115]))]) (tm 0 (.t 1) .done)))
 .ret))
theorem e7a:a1b Tryz.prog Tryz.f356 = some (e6z.erase,[.mov (.t 0)],2):=by kernel_rfl
def b2m :Option (List Str) :=
    some [[],[61,61],[33,61],[60],[60,61],[62],[62,61],[105,110,99,108,117,100,101,115],[101,120,99,108,117,100,101,115]]
theorem c5c  (r:(List Str)) (hf:b2m = some r):a0a Tryz.prog 356 .fresh [] (.lst 1 (r.map AV.str)):=by
  refine a0a.of_awp mixed Tryz.func356 e7a nle ?_
  rw [a0l]
  unfold b2m at hf
  unfold e6z
  refine (show awp Tryz.prog true 0 _ (ofL []) [] _ from ?_)
  refine o6 ?_
  refine a0t ?_
  refine y7 (a4c .nil rfl) ?_
  refine a0e ?_
  refine a0j ?_
  refine o6 ?_
  refine a0t ?_
  refine y7 (a1o (j:=0) (as':=[(.str []),(.str [61,61]),(.str [33,61]),(.str [60]),(.str [60,61]),(.str [62]),(.str [62,61]),(.str [105,110,99,108,117,100,101,115]),(.str [101,120,99,108,117,100,101,115])]) rfl (fun _ => by decide) ⟨rfl,⟨rfl,⟨rfl,⟨rfl,⟨rfl,⟨rfl,⟨rfl,⟨rfl,⟨rfl,tr⟩⟩⟩⟩⟩⟩⟩⟩⟩ .r rfl rfl rfl) ?_
  refine y7 (a4c (.own 0 0 9) rfl) ?_
  refine a0e ?_
  refine a0j ?_
  refine a0d ?_
  obtain rfl:=os hf
  exact a1x ⟨tr,tr⟩ rfl (by decide) .r
def e7b:a0q :=
 (.seq (.reg (tm 2 (.c (.int .i64 0)) .done))
 (.seq (.reg (tq 5 (.call 356 []) (tm 3 (.t 5) .done)))
 (.seq (.seq (.reg (tm 4 (.c (.int .i64 1)) .done))
 (.block 0 (.loop (.seq (.seq (.reg (tm 6 (.t 4) (tm 7 (.t 3) (tq 8 (.len (.t 7)) (tq 9 (.bin .lss (.t 6) (.t 8)) .done)))))
 (.cond (.t 9) .skip
 (.exit 0)))
 (.seq (.block 1 (.seq (.reg (tm 12 (.t 3) (tm 13 (.t 4) (tq 14 (.iaddr 1 (.t 12) (.t 13)) (tq 15 (.load 1 false (.t 14)) (tm 16 (.t 0) (tq 17 (.bin .eql (.t 15) (.t 16)) .done)))))))
 (.cond (.t 17) (.seq (.reg (tm 18 (.t 4) (tm 2 (.t 18) .done)))
 .ret)
 .skip)))
 (.reg (tm 10 (.t 4) (tq 11 (.bin .add (.t 10) (.c (.int .i64 1))) (tm 4 (.t 11) .done)))))))))
 (.cut (.seq (.reg (tm 2 (.c (.int .i64 0)) .done))
 .ret)))))
theorem e7c:a1b Tryz.prog Tryz.f314 = some (e7b.erase,[.mov (.t 2)],19):=by kernel_rfl
def a6j (A:Str):List Str → Nat → Option (Fl Int Unit)
  | [],B =>
    some (.go ())
  | E :: xs,B =>
    if (E == A) then
    some (.ret (B:Int))
    else
    a6j A xs (B + 1)
def b1k (A:Str):Option Int :=
    (b2m).bind fun D =>
    (a6j A (D.drop 1) 1).bind fun q => (match q with
    | .ret r => some r
    | .go _ =>
    some 0)
theorem c7a (A:Str) (r:Int) (hf:b1k A = some r):a0a Tryz.prog 314 .flat [(.str A)] (.I r):=by
 refine a0a.of_awp mixed Tryz.func314 e7c nle ?_;rw [a0l];unfold b1k at hf;unfold e7b;refine (show awp Tryz.prog false 0 _ (ofL [(0,(.str A))]) [] _ from ?_);refine sr<|l7 (.I 0) rfl<|dk<|sr<|?_
 obtain ⟨D,er3,hf⟩:=ob hf
 refine y7 (d6y rfl (c5c _ er3) rfl .r rfl)<|l7 (.lst 1 (D.map AV.str)) rfl<|dk<|o6<|sr<|l7 (.I 1) rfl<|dk<|?_
 obtain ⟨p22,hb1,hf⟩:=ob hf
 refine a1u (X:={q:Unit // p22 = .go q}) (fun q => ([],[])) ?_ ?_
 ·refine a1h (X:={q:Nat // a6j A (D.drop q) q = some p22}) (fun q => ([(0,(.str A)),(3,(.lst 1 (D.map AV.str))),(4,(.I (q.1:Int)))],[])) (fun q => D.length - q.1) ⟨1,hb1⟩ ⟨[],[],_,_,rfl,rfl,⟨.r,⟨.r,⟨.r,tr⟩⟩⟩,.r⟩ ?_
  rintro ⟨B,hc1⟩
  have hc1:a6j A (D.drop B) B = some p22:=hc1
  refine (show awp Tryz.prog false 0 _ (ofL [(0,(.str A)),(3,(.lst 1 (D.map AV.str))),(4,(.I (B:Int)))]) [] _ from ?_)
  rcases a5j D B with ⟨hie25,hd28⟩ | ⟨hlt23,E,hx24,hd28⟩
  ·rw [hd28,a6j.eq_1] at hc1
   have hq27:=dlf hie25
   refine o6<|sr<|l7 (.I (B:Int)) rfl<|l7 (.lst 1 (D.map AV.str)) rfl<|a1a (a1t (enc:=AV.str) rfl) fun hl30 => o7 (.bool (decide ((B:Int) < (D.length:Int)))) rfl rfl rfl<|dk<|x8 rfl hq27<|a2o<|a2n<|a1s<|a2m<|?_;obtain rfl:=os hc1;exact a2s ⟨_,rfl⟩ ⟨[],[],_,_,rfl,rfl,tr,.r⟩
  ·rw [hd28,a6j.eq_2] at hc1
   have hq27:=dlt hlt23
   refine o6<|sr<|l7 (.I (B:Int)) rfl<|l7 (.lst 1 (D.map AV.str)) rfl<|a1a (a1t (enc:=AV.str) rfl) fun hl31 => o7 (.bool (decide ((B:Int) < (D.length:Int)))) rfl rfl rfl<|dk<|x9 rfl hq27<|a0h<|a0j<|o6<|a2y<|sr<|l7 (.lst 1 (D.map AV.str)) rfl<|l7 (.I (B:Int)) rfl<|y7 (a1m (enc:=AV.str) rfl rfl hx24)<|o7 (.str E) rfl ⟨rfl,rfl⟩ rfl<|l7 (.str A) rfl<|o7 (.bool (E == A)) rfl tr rfl<|dk<|?_
   rcases oi hc1 with ⟨c32,hc1⟩ | ⟨c32,hc1⟩
   ·refine x9 rfl c32<|sr<|l7 (.I (B:Int)) rfl<|l7 (.I (B:Int)) rfl<|dk<|a0d<|?_;obtain rfl:=os hc1;obtain rfl:=os hf;exact a0f ⟨tr,tr⟩ rfl .r
   ·refine x8 rfl (bf c32)<|a0h<|a1v<|a0j<|a0t<|l7 (.I (B:Int)) rfl<|o7 (.I (w64 ((B:Int) + 1))) rfl rfl rfl<|l7 (.I (w64 ((B:Int) + 1))) rfl<|a0e<|?_;exact a1p ⟨(B + 1),hc1⟩ (mul hlt23) ⟨[],[],_,_,rfl,rfl,⟨.r,⟨.r,⟨.of_eq (congrArg (AV.int _) (a1r hlt23 hl31)),tr⟩⟩⟩,.r⟩
 ·rintro ⟨_,rfl⟩
  refine sr<|l7 (.I 0) rfl<|dk<|a0d<|?_;obtain rfl:=os hf;exact a0f ⟨tr,tr⟩ rfl .r
def e7d:a0q :=
 (.seq (.reg (tq 1 (.box 5 (.t 0)) (tm 2 (.c .nil) (tm 3 (.c (.bool false)) .done))))
 (.seq (.reg (tq 11 (.bslice 3 []) (tm 4 (.t 11) .done)))
 (.seq (.seq (.reg (tm 5 (.c (.int .i64 0)) .done))
 (.block 0 (.loop (.seq (.seq (.reg (tm 12 (.t 5) (tq 13 (.faddr 4 (.t 1)) (tq 14 (.load 1 false (.t 13)) (tq 15 (.len (.t 14)) (tq 16 (.bin .lss (.t 12) (.t 15)) .done))))))
 (.cond (.t 16) .skip
 (.exit 0)))
 (.seq (.block 1 (.seq (.reg (tq 20 (.faddr 4 (.t 1)) (tq 21 (.load 1 false (.t 20)) (tm 22 (.t 5) (tq 23 (.iaddr 5 (.t 21) (.t 22)) (tq 24 (.load 5 true (.t 23)) (tq 25 (.call 313 [(.t 24)]) (tm 19 (.t 25) (tq 26 (.extract 0 (.t 19)) (tq 27 (.extract 1 (.t 19)) (tq 28 (.extract 2 (.t 19)) (tq 29 (.extract 3 (.t 19)) (tm 6 (.t 26) (tm 7 (.t 27) (tm 8 (.t 28) (tm 9 (.t 29) .done))))))))))))))))
 (.seq (.reg (tm 30 (.t 6) (tm 31 (.t 7) (tq 32 (.call 314 [(.t 31)]) (tm 33 (.t 8) (tq 34 (.build [(.str []),(.int .i64 0),.nil] [(0,1,(.t 30)),(1,1,(.t 32)),(2,1,(.t 33))]) (tq 10 (.box 3 (.c (.agg [(.str []),(.int .i64 0),.nil]))) (.q ⟨none,none,.store 3 (.t 10) (.t 34)⟩
 .done))))))))
 (.seq (.seq (.reg (tm 35 (.t 9) (tq 36 (.not (.t 35)) (tm 37 (.t 36) (tg 38 37 false (.faddr 1 (.t 10)) (tg 39 37 false (.load 1 false (.t 38)) (tg 40 37 false (.bin .eql (.t 39) (.c (.int .i64 0))) (tq 41 (.pick (.t 37) (.c (.bool true)) (.t 40)) .done))))))))
 (.cut (.cond (.t 41) (.seq (.reg (tq 42 (.bslice 3 []) (tm 2 (.t 42) (tm 3 (.c (.bool false)) .done))))
 .ret)
 .skip)))
 (.reg (tm 43 (.t 4) (tq 44 (.load 3 true (.t 10)) (tq 45 (.bslice 3 [(.t 44)]) (tq 46 (.append 3 48 (.t 43) (.t 45)) (tm 4 (.t 46) .done))))))))))
 (.reg (tm 17 (.t 5) (tq 18 (.bin .add (.t 17) (.c (.int .i64 1))) (tm 5 (.t 18) .done)))))))))
 (.cut (.seq (.reg (tm 47 (.t 4) (tq 48 (.faddr 0 (.t 1)) (tq 49 (.load 1 false (.t 48)) (tq 50 (.bin .eql (.t 49) (.c (.int .i64 4))) (tm 2 (.t 47) (tm 3 (.t 50) .done)))))))
 .ret)))))
theorem e7e:a1b Tryz.prog Tryz.f255 = some (e7d.erase,[.mov (.t 2),.mov (.t 3)],51):=by kernel_rfl
def a3j :List y8 → (List a0m) → Option (Fl ((List a0m) × Bool) (List a0m))
  | [],D =>
    some (.go D)
  | G :: xs,D =>
    (b1j G).bind fun A =>
    (b1k A.2.1).bind fun E =>
    ((if (!A.2.2.2) then
    some true
    else
    some (E == 0):Option Bool)).bind fun J =>
    if J then
    some (.ret ([],false))
    else
    if (D ++ [(⟨A.1,E,A.2.2.1⟩:a0m)]).length ≤ 2 ^ 30 then
    a3j xs  (D ++ [(⟨A.1,E,A.2.2.1⟩:a0m)])
    else none
def a8z (B:y8):Option ((List a0m) × Bool) :=
    (a3j B.Items []).bind fun q => (match q with
    | .ret r => some r
    | .go H =>
    some (H,(B.Kind == 4)))
theorem c5d (B:y8) (r:((List a0m) × Bool)) (hf:a8z B = some r):a0a Tryz.prog 255 .fresh [(l9 B)] (.tup [(.lst 3 (r.1.map o8)),(.bool r.2)]):=by
 refine a0a.of_awp mixed Tryz.func255 e7e nle ?_;rw [a0l];rw [o9 B];unfold a8z at hf;unfold e7d;refine (show awp Tryz.prog true 0 _ (ofL [(0,(.agg [(.I B.Kind),(.I B.N),(.str B.T),(.lst 1 (B.Keys.map AV.str)),(.lst 5 (B.Items.map l9))]))]) [] _ from ?_);refine sr<|y7 (a1i (j:=0) (c:=(.agg [(.I B.Kind),(.I B.N),(.str B.T),(.lst 1 (B.Keys.map AV.str)),(.lst 5 (B.Items.map l9))])) rfl tr rfl rfl)<|l7 .nil rfl<|l7 (.bool false) rfl<|dk<|sr<|?_;refine y7 (a1o (j:=1) (as':=[]) rfl (fun _ => by decide) tr .r rfl rfl rfl) ?_;refine l7 (.own 1 0 0) rfl ?_
 refine dk<|o6<|sr<|l7 (.I 0) rfl<|dk<|?_
 obtain ⟨p50,hb1,hf⟩:=ob hf
 refine a1u (X:={q:(List a0m) // p50 = .go q}) (fun q => ([(1,(.ptr 0 0 0)),(4,(.own 1 0 q.1.length))],[.box 5 (.agg [(.I B.Kind),(.I B.N),(.str B.T),(.lst 1 (B.Keys.map AV.str)),(.lst 5 (B.Items.map l9))]),.row 3 (q.1.map o8)])) ?_ ?_
 ·refine a1h (X:={q:(Nat × (List a0m)) // a3j (B.Items.drop q.1) q.2 = some p50}) (fun q => ([(1,(.ptr 0 0 0)),(4,(.own 1 0 q.1.2.length)),(5,(.I (q.1.1:Int)))],[.box 5 (.agg [(.I B.Kind),(.I B.N),(.str B.T),(.lst 1 (B.Keys.map AV.str)),(.lst 5 (B.Items.map l9))]),.row 3 (q.1.2.map o8)])) (fun q => B.Items.length - q.1.1) ⟨(0,[]),hb1⟩ ⟨[],[0,1],_,_,rfl,rfl,⟨.r,⟨.of_eq (congrArg (AV.own _ 0) (by simp)),⟨.r,tr⟩⟩⟩,.r⟩ ?_
  rintro ⟨⟨F,D⟩,hc1⟩
  have hc1:a3j (B.Items.drop F) D = some p50:=hc1
  refine (show awp Tryz.prog true 0 _ (ofL [(1,(.ptr 0 0 0)),(4,(.own 1 0 D.length)),(5,(.I (F:Int)))]) [.box 5 (.agg [(.I B.Kind),(.I B.N),(.str B.T),(.lst 1 (B.Keys.map AV.str)),(.lst 5 (B.Items.map l9))]),.row 3 (D.map o8)] _ from ?_)
  rcases a5j B.Items F with ⟨hie53,hd56⟩ | ⟨hlt51,G,hx52,hd56⟩
  ·rw [hd56,a3j.eq_1] at hc1
   have hq55:=dlf hie53
   refine o6<|sr<|l7 (.I (F:Int)) rfl<|o7 (.ptr 0 0 4) rfl tr rfl<|o7 (.lst 5 (B.Items.map l9)) rfl nle rfl<|a1a (a1t (enc:=l9) rfl) fun hl58 => o7 (.bool (decide ((F:Int) < (B.Items.length:Int)))) rfl rfl rfl<|dk<|x8 rfl hq55<|a2o<|a2n<|a1s<|a2m<|?_;obtain rfl:=os hc1;exact a2s ⟨_,rfl⟩ ⟨[],[0,1],_,_,rfl,rfl,⟨.r,⟨.r,tr⟩⟩,.r⟩
  ·rw [hd56,a3j.eq_2] at hc1
   have hq55:=dlt hlt51
   refine o6<|sr<|l7 (.I (F:Int)) rfl<|o7 (.ptr 0 0 4) rfl tr rfl<|o7 (.lst 5 (B.Items.map l9)) rfl nle rfl<|a1a (a1t (enc:=l9) rfl) fun hl59 => o7 (.bool (decide ((F:Int) < (B.Items.length:Int)))) rfl rfl rfl<|dk<|x9 rfl hq55<|a0h<|a0j<|o6<|a2y<|sr<|o7 (.ptr 0 0 4) rfl tr rfl<|o7 (.lst 5 (B.Items.map l9)) rfl nle rfl<|l7 (.I (F:Int)) rfl<|y7 (a1m (enc:=l9) rfl rfl hx52)<|y7 (a2l (v:=(.agg [(.I G.Kind),(.I G.N),(.str G.T),(.lst 1 (G.Keys.map AV.str)),(.lst 5 (G.Items.map l9))])) rfl (o9 _) nle rfl)<|?_
   obtain ⟨A,er61,hc1⟩:=ob hc1
   refine y7 (a5i (v:=(.tup [(.str A.1),(.str A.2.1),(.own 2 0 A.2.2.1.length),(.bool A.2.2.2)])) (h':=[.row 3 (A.2.2.1.map o5)]) (c3k _ _ er61) rfl (.cons (.of_eq (o9 G).symm) .nil) (by simp only [a2r,a2z,List.length_map,List.nil_append,List.append_nil,List.cons_append];rfl))<|l7 (.tup [(.str A.1),(.str A.2.1),(.own 2 0 A.2.2.1.length),(.bool A.2.2.2)]) rfl<|o7 (.str A.1) rfl nle rfl<|o7 (.str A.2.1) rfl nle rfl<|o7 (.own 2 0 A.2.2.1.length) rfl nle rfl<|o7 (.bool A.2.2.2) rfl nle rfl<|l7 (.str A.1) rfl<|l7 (.str A.2.1) rfl<|l7 (.own 2 0 A.2.2.1.length) rfl<|l7 (.bool A.2.2.2) rfl<|?_
   refine dk<|sr<|?_
   obtain ⟨E,er63,hc1⟩:=ob hc1
   refine l7 (.str A.1) rfl<|l7 (.str A.2.1) rfl<|y7 (a0p (c7a _ _ er63) rfl .r rfl)<|l7 (.own 2 0 A.2.2.1.length) rfl<|o7 (.agg [(.str A.1),(.I E),(.own 2 0 A.2.2.1.length)]) rfl ⟨⟨rfl,nle,tr⟩,⟨⟨rfl,nle,tr⟩,⟨⟨rfl,nle,tr⟩,tr⟩⟩⟩ rfl<|y7 (a1i (j:=3) (c:=(.agg [(.str []),(.I 0),.nil])) rfl tr rfl rfl)<|a1k (a0i (v:=(.agg [(.str A.1),(.I E),(.own 2 0 A.2.2.1.length)])) (y':=(.agg [(.str A.1),(.I E),(.own 2 0 A.2.2.1.length)])) rfl rfl rfl tr ⟨rfl,nle⟩ ⟨⟨rfl,tr⟩,⟨⟨rfl,tr⟩,⟨⟨rfl,tr⟩,tr⟩⟩⟩ rfl)<|dk<|?_
   refine o6<|o6<|?_
   obtain ⟨J,hb2,hc1⟩:=ob hc1
   refine a2d ([(1,(.ptr 0 0 0)),(4,(.own 1 0 D.length)),(5,(.I (F:Int))),(10,(.ptr 2 0 0)),(41,(.bool J))],[.box 5 (.agg [(.I B.Kind),(.I B.N),(.str B.T),(.lst 1 (B.Keys.map AV.str)),(.lst 5 (B.Items.map l9))]),.row 3 (D.map o8),.box 3 (.agg [(.str A.1),(.I E),(.own 3 0 A.2.2.1.length)]),.row 3 (A.2.2.1.map o5)]) ?_ ?_
   ·refine a0t ?_
    rcases oi hb2 with ⟨c67,hb2⟩ | ⟨c67,hb2⟩
    ·refine l7 (.bool A.2.2.2) rfl<|o7 (.bool (!A.2.2.2)) rfl tr rfl<|l7 (.bool (!A.2.2.2)) rfl<|a0x (s:=37) (b:=true) rfl c67<|y5 rfl rfl<|y5 rfl rfl<|y5 rfl rfl<|o7 (.bool true) rfl tr rfl<|a0e<|?_;obtain rfl:=os hb2;exact ⟨[],[0,1,3,2],_,_,rfl,rfl,⟨.r,⟨.r,⟨.r,⟨.r,⟨.r,tr⟩⟩⟩⟩⟩,.r⟩
    ·refine l7 (.bool A.2.2.2) rfl<|o7 (.bool (!A.2.2.2)) rfl tr rfl<|l7 (.bool (!A.2.2.2)) rfl<|a0x (s:=37) (b:=false) rfl (bf c67)<|s_on rfl<|o7 (.ptr 3 0 1) rfl tr rfl<|s_on rfl<|o7 (.I E) rfl nle rfl<|s_on rfl<|o7 (.bool (E == 0)) rfl rfl rfl<|o7 (.bool (E == 0)) rfl tr rfl<|a0e<|?_;obtain rfl:=os hb2;exact ⟨[],[0,1,3,2],_,_,rfl,rfl,⟨.r,⟨.r,⟨.r,⟨.r,⟨.r,tr⟩⟩⟩⟩⟩,.r⟩
   ·rcases oi hc1 with ⟨c68,hc1⟩ | ⟨c68,hc1⟩
    ·refine x9 rfl c68<|sr<|?_;refine y7 (a1o (j:=4) (as':=[]) rfl (fun _ => by decide) tr .r rfl rfl rfl) ?_;refine l7 (.own 4 0 0) rfl<|l7 (.bool false) rfl<|dk<|a0d<|?_;obtain rfl:=os hc1;obtain rfl:=os hf;exact a1x ⟨tr,⟨tr,tr⟩⟩ rfl (by decide) .r
    ·refine x8 rfl (bf c68)<|a0h<|a0j<|a0t<|?_
     obtain ⟨g69,hc1⟩:=og hc1
     refine l7 (.own 1 0 D.length) rfl<|o7 (.agg [(.str A.1),(.I E),(.own 3 0 A.2.2.1.length)]) rfl nle rfl<|?_;refine y7 (a1o (j:=4) (as':=[(o8 (⟨A.1,E,A.2.2.1⟩:a0m))]) rfl (fun _ => by decide) ⟨rfl,tr⟩ (.cons (.agg (.cons .r (.cons .r (.cons (.of_eq (congrArg (AV.lst _) (tk (enc:=o5) A.2.2.1))) .nil)))) .nil) rfl rfl rfl) ?_
     refine y7 (a4k (j:=5) (L:=((D ++ [(⟨A.1,E,A.2.2.1⟩:a0m)]).map o8)) (len:=(D ++ [(⟨A.1,E,A.2.2.1⟩:a0m)]).length) rfl true rfl rfl (fun h => Bool.noConfusion h) (fun _ _ h => (b8y (show AV.own _ _ _ = AV.lst _ _ from h)).elim) (by decide) (d1o (enc:=o8) D [(⟨A.1,E,A.2.2.1⟩:a0m)] _ (by rfl)) (by simp <;> omega) g69 rfl rfl) ?_
     refine l7 (.own 5 0 ((D ++ [(⟨A.1,E,A.2.2.1⟩:a0m)]).length)) rfl<|a0e<|a1v<|a0j<|a0t<|l7 (.I (F:Int)) rfl<|o7 (.I (w64 ((F:Int) + 1))) rfl rfl rfl<|l7 (.I (w64 ((F:Int) + 1))) rfl<|a0e<|?_;exact a1p ⟨((F + 1),D ++ [(⟨A.1,E,A.2.2.1⟩:a0m)]),hc1⟩ (mul hlt51) ⟨[],[0,5],_,_,rfl,rfl,⟨.r,⟨.r,⟨.of_eq (congrArg (AV.int _) (a1r hlt51 hl59)),tr⟩⟩⟩,.r⟩
 ·rintro ⟨H,rfl⟩
  refine sr<|l7 (.own 1 0 H.length) rfl<|o7 (.ptr 0 0 0) rfl tr rfl<|o7 (.I B.Kind) rfl nle rfl<|o7 (.bool (B.Kind == 4)) rfl rfl rfl<|l7 (.own 1 0 H.length) rfl<|l7 (.bool (B.Kind == 4)) rfl<|dk<|a0d<|?_;obtain rfl:=os hf;exact a1x ⟨tr,⟨tr,tr⟩⟩ rfl (by decide) (.tup (.cons (.of_eq (congrArg (AV.lst _) (tk (enc:=o8) H))) (.cons .r .nil)))
def e7f:a0q :=
 (.seq (.reg (tm 2 (.c (.bool false)) .done))
 (.seq (.reg (tm 3 (.t 0) (tq 4 (.bin .geq (.t 3) (.c (.int .u8 97))) (tm 5 (.t 4) (tg 6 5 true (.mov (.t 0)) (tg 7 5 true (.bin .leq (.t 6) (.c (.int .u8 122))) (tq 8 (.pick (.t 5) (.t 7) (.c (.bool false))) (tm 9 (.t 8) (tg 10 9 false (.mov (.t 0)) (tg 11 9 false (.bin .geq (.t 10) (.c (.int .u8 65))) (tg 12 9 false (.mov (.t 11)) (tg 13 12 true (.mov (.t 0)) (tg 14 12 true (.bin .leq (.t 13) (.c (.int .u8 90))) (tg 15 9 false (.pick (.t 12) (.t 14) (.c (.bool false))) (tq 16 (.pick (.t 9) (.c (.bool true)) (.t 15)) (tm 17 (.t 16) (tg 18 17 false (.mov (.t 0)) (tg 19 17 false (.bin .eql (.t 18) (.c (.int .u8 95))) (tq 20 (.pick (.t 17) (.c (.bool true)) (.t 19)) (tm 2 (.t 20) .done))))))))))))))))))))
 .ret))
theorem e7g:a1b Tryz.prog Tryz.f332 = some (e7f.erase,[.mov (.t 2)],21):=by kernel_rfl
def a7z (A:Int):Option Bool :=
    some (bif (bif (bif (decide (A ≥ 97)) then (decide (A ≤ 122)) else false) then true else (bif (decide (A ≥ 65)) then (decide (A ≤ 90)) else false)) then true else (A == 95))
theorem b2d (A:Int) (r:Bool) (hf:a7z A = some r):a0a Tryz.prog 332 .flat [(.int .u8 A)] (.bool r):=by
 refine a0a.of_awp mixed Tryz.func332 e7g nle ?_;rw [a0l];unfold a7z at hf;unfold e7f;refine (show awp Tryz.prog false 0 _ (ofL [(0,(.int .u8 A))]) [] _ from ?_);refine sr<|l7 (.bool false) rfl<|dk<|sr<|l7 (.int .u8 A) rfl<|o7 (.bool (decide (A ≥ 97))) rfl rfl rfl<|l7 (.bool (decide (A ≥ 97))) rfl<|?_;refine s_g (v:=(decide (A ≥ 97))) (.int .u8 A) rfl (fun hv => by (try simp only [a0c hv]);exact ⟨rfl,tr,rfl⟩) ?_;refine s_g (v:=(decide (A ≥ 97))) (.bool (decide (A ≤ 122))) rfl (fun hv => by (try simp only [a0c hv]);exact ⟨rfl,rfl,rfl⟩) ?_;refine a3a (x:=(decide (A ≤ 122))) (y:=false) rfl (fun hv => by (try simp only [a0c hv]);rfl) (fun hv => by (try simp only [a0c hv]);rfl) ?_
 refine l7 (.bool (bif (decide (A ≥ 97)) then (decide (A ≤ 122)) else false)) rfl ?_;refine s_g (v:=(bif (decide (A ≥ 97)) then (decide (A ≤ 122)) else false)) (.int .u8 A) rfl (fun hv => by (try simp only [a0c hv]);exact ⟨rfl,tr,rfl⟩) ?_;refine s_g (v:=(bif (decide (A ≥ 97)) then (decide (A ≤ 122)) else false)) (.bool (decide (A ≥ 65))) rfl (fun hv => by (try simp only [a0c hv]);exact ⟨rfl,rfl,rfl⟩) ?_;refine s_g (v:=(bif (decide (A ≥ 97)) then (decide (A ≤ 122)) else false)) (.bool (decide (A ≥ 65))) rfl (fun hv => by (try simp only [a0c hv]);exact ⟨rfl,tr,rfl⟩) ?_;refine c0e (v1:=(bif (decide (A ≥ 97)) then (decide (A ≤ 122)) else false)) (b1:=false) (v2:=(decide (A ≥ 65))) (.int .u8 A) rfl (fun hv hw => by (try simp only [a0c hv,a0c hw]);exact ⟨rfl,tr,rfl⟩) ?_
 refine c0e (v1:=(bif (decide (A ≥ 97)) then (decide (A ≤ 122)) else false)) (b1:=false) (v2:=(decide (A ≥ 65))) (.bool (decide (A ≤ 90))) rfl (fun hv hw => by (try simp only [a0c hv,a0c hw]);exact ⟨rfl,rfl,rfl⟩) ?_;refine e3d (v1:=(bif (decide (A ≥ 97)) then (decide (A ≤ 122)) else false)) (b1:=false) (v2:=(decide (A ≥ 65))) (x:=(decide (A ≤ 90))) (y:=false) rfl (fun hv => by (try simp only [a0c hv]);rfl) (fun hv hw => by (try simp only [a0c hv,a0c hw]);rfl) (fun hv hw => by (try simp only [a0c hv,a0c hw]);rfl) ?_;refine a3a (x:=true) (y:=(bif (decide (A ≥ 65)) then (decide (A ≤ 90)) else false)) rfl (fun hv => by (try simp only [a0c hv]);rfl) (fun hv => by (try simp only [a0c hv]);rfl) ?_
 refine l7 (.bool (bif (bif (decide (A ≥ 97)) then (decide (A ≤ 122)) else false) then true else (bif (decide (A ≥ 65)) then (decide (A ≤ 90)) else false))) rfl ?_;refine s_g (v:=(bif (bif (decide (A ≥ 97)) then (decide (A ≤ 122)) else false) then true else (bif (decide (A ≥ 65)) then (decide (A ≤ 90)) else false))) (.int .u8 A) rfl (fun hv => by (try simp only [a0c hv]);exact ⟨rfl,tr,rfl⟩) ?_;refine s_g (v:=(bif (bif (decide (A ≥ 97)) then (decide (A ≤ 122)) else false) then true else (bif (decide (A ≥ 65)) then (decide (A ≤ 90)) else false))) (.bool (A == 95)) rfl (fun hv => by (try simp only [a0c hv]);exact ⟨rfl,rfl,rfl⟩) ?_;refine a3a (x:=true) (y:=(A == 95)) rfl (fun hv => by (try simp only [a0c hv]);rfl) (fun hv => by (try simp only [a0c hv]);rfl) ?_
 refine l7 (.bool (bif (bif (bif (decide (A ≥ 97)) then (decide (A ≤ 122)) else false) then true else (bif (decide (A ≥ 65)) then (decide (A ≤ 90)) else false)) then true else (A == 95))) rfl<|dk<|a0d<|?_;obtain rfl:=os hf;exact a0f ⟨tr,tr⟩ rfl .r
def e7h:a0q :=
 (.seq (.reg (tm 2 (.c (.bool false)) .done))
 (.seq (.reg (tm 3 (.t 0) (tq 4 (.bin .geq (.t 3) (.c (.int .u8 48))) (tm 5 (.t 4) (tg 6 5 true (.mov (.t 0)) (tg 7 5 true (.bin .leq (.t 6) (.c (.int .u8 57))) (tq 8 (.pick (.t 5) (.t 7) (.c (.bool false))) (tm 2 (.t 8) .done))))))))
 .ret))
theorem e7i:a1b Tryz.prog Tryz.f333 = some (e7h.erase,[.mov (.t 2)],9):=by kernel_rfl
def b0j (A:Int):Option Bool :=
    if (decide (A ≥ 48)) then
    some (decide (A ≤ 57))
    else
    some false
theorem c5e (A:Int) (r:Bool) (hf:b0j A = some r):a0a Tryz.prog 333 .flat [(.int .u8 A)] (.bool r):=by
 refine a0a.of_awp mixed Tryz.func333 e7i nle ?_;rw [a0l];unfold b0j at hf;unfold e7h;refine (show awp Tryz.prog false 0 _ (ofL [(0,(.int .u8 A))]) [] _ from ?_);refine sr<|l7 (.bool false) rfl<|dk<|sr<|?_
 rcases oi hf with ⟨c2,hf⟩ | ⟨c2,hf⟩
 ·refine l7 (.int .u8 A) rfl<|o7 (.bool (decide (A ≥ 48))) rfl rfl rfl<|l7 (.bool (decide (A ≥ 48))) rfl<|a0x (s:=5) (b:=true) rfl c2<|s_on rfl<|l7 (.int .u8 A) rfl<|s_on rfl<|o7 (.bool (decide (A ≤ 57))) rfl rfl rfl<|o7 (.bool (decide (A ≤ 57))) rfl tr rfl<|l7 (.bool (decide (A ≤ 57))) rfl<|dk<|a0d<|?_;obtain rfl:=os hf;exact a0f ⟨tr,tr⟩ rfl .r
 ·refine l7 (.int .u8 A) rfl<|o7 (.bool (decide (A ≥ 48))) rfl rfl rfl<|l7 (.bool (decide (A ≥ 48))) rfl<|a0x (s:=5) (b:=false) rfl (bf c2)<|y5 rfl rfl<|y5 rfl rfl<|o7 (.bool false) rfl tr rfl<|l7 (.bool false) rfl<|dk<|a0d<|?_;obtain rfl:=os hf;exact a0f ⟨tr,tr⟩ rfl .r
def e7j:a0q :=
 (.seq (.reg (tm 2 (.c (.bool false)) .done))
 (.seq (.seq (.reg (tm 4 (.t 0) (tq 5 (.lenS (.t 4)) (tq 6 (.bin .lss (.t 5) (.c (.int .i64 1))) (tm 7 (.t 6) (tg 8 7 false (.mov (.t 0)) (tg 9 7 false (.lenS (.t 8)) (tg 10 7 false (.bin .gtr (.t 9) (.c (.int .i64 40))) (tq 11 (.pick (.t 7) (.c (.bool true)) (.t 10)) (tm 12 (.t 11) (tg 13 12 false (.mov (.t 0)) (tg 14 12 false (.idxs (.t 13) (.c (.int .i64 0))) (tg 15 12 false (.call 332 [(.t 14)]) (tg 16 12 false (.not (.t 15)) (tq 17 (.pick (.t 12) (.c (.bool true)) (.t 16)) .done)))))))))))))))
 (.cut (.cond (.t 17) (.seq (.reg (tm 2 (.c (.bool false)) .done))
 .ret)
 .skip)))
 (.seq (.seq (.reg (tm 3 (.c (.int .i64 1)) .done))
 (.block 0 (.loop (.seq (.seq (.reg (tm 18 (.t 3) (tm 19 (.t 0) (tq 20 (.lenS (.t 19)) (tq 21 (.bin .lss (.t 18) (.t 20)) .done)))))
 (.cond (.t 21) .skip
 (.exit 0)))
 (.seq (.block 1 (.seq (.reg (tm 24 (.t 0) (tm 25 (.t 3) (tq 26 (.idxs (.t 24) (.t 25)) (tq 27 (.call 332 [(.t 26)]) (tq 28 (.not (.t 27)) (tm 29 (.t 28) (tg 30 29 true (.mov (.t 0)) (tg 31 29 true (.mov (.t 3)) (tg 32 29 true (.idxs (.t 30) (.t 31)) (tg 33 29 true (.call 333 [(.t 32)]) (tg 34 29 true (.not (.t 33)) (tq 35 (.pick (.t 29) (.t 34) (.c (.bool false))) .done)))))))))))))
 (.cut (.cond (.t 35) (.seq (.reg (tm 2 (.c (.bool false)) .done))
 .ret)
 .skip))))
 (.reg (tm 22 (.t 3) (tq 23 (.bin .add (.t 22) (.c (.int .i64 1))) (tm 3 (.t 23) .done)))))))))
 (.cut (.seq (.reg (tm 2 (.c (.bool true)) .done))
 .ret)))))
theorem e7k:a1b Tryz.prog Tryz.f282 = some (e7j.erase,[.mov (.t 2)],36):=by kernel_rfl
def a4x :List UInt8 → Option (Fl Bool Unit)
  | [] =>
    some (.go ())
  | J :: xs =>
    (((a7z (J.toNat:Int)).bind fun D =>
    if (!D) then
    (b0j (J.toNat:Int)).bind fun F =>
    some (!F)
    else
    some false:Option Bool)).bind fun E =>
    if E then
    some (.ret false)
    else
    a4x xs 
def b1l (A:Str):Option Bool :=
    ((if (bif (decide ((A.length:Int) < 1)) then true else (decide ((A.length:Int) > 40))) then
    some true
    else
    (idx A 0).bind fun K =>
    (a7z (K.toNat:Int)).bind fun G =>
    some (!G):Option Bool)).bind fun H =>
    if H then
    some false
    else
    (a4x (A.drop 1) ).bind fun q => (match q with
    | .ret r => some r
    | .go _ =>
    some true)
theorem c7b (A:Str) (r:Bool) (hf:b1l A = some r):a0a Tryz.prog 282 .flat [(.str A)] (.bool r):=by
 refine a0a.of_awp mixed Tryz.func282 e7k nle ?_;rw [a0l];unfold b1l at hf;unfold e7j;refine (show awp Tryz.prog false 0 _ (ofL [(0,(.str A))]) [] _ from ?_);refine sr<|l7 (.bool false) rfl<|dk<|o6<|o6<|?_
 obtain ⟨H,hb1,hf⟩:=ob hf
 refine a2d ([(0,(.str A)),(17,(.bool H))],[]) ?_ ?_
 ·refine a0t<|l7 (.str A) rfl<|a1a (a9m rfl) fun hl11 => o7 (.bool (decide ((A.length:Int) < 1))) rfl rfl rfl<|l7 (.bool (decide ((A.length:Int) < 1))) rfl<|?_;refine s_g (v:=(decide ((A.length:Int) < 1))) (.str A) rfl (fun hv => by (try simp only [a0c hv]);exact ⟨rfl,tr,rfl⟩) ?_;refine s_g (v:=(decide ((A.length:Int) < 1))) (.I (A.length:Int)) rfl (fun hv => by (try simp only [a0c hv]);exact ⟨rfl,tr,rfl⟩) ?_;refine s_g (v:=(decide ((A.length:Int) < 1))) (.bool (decide ((A.length:Int) > 40))) rfl (fun hv => by (try simp only [a0c hv]);exact ⟨rfl,rfl,rfl⟩) ?_;refine a3a (x:=true) (y:=(decide ((A.length:Int) > 40))) rfl (fun hv => by (try simp only [a0c hv]);rfl) (fun hv => by (try simp only [a0c hv]);rfl) ?_
  refine l7 (.bool (bif (decide ((A.length:Int) < 1)) then true else (decide ((A.length:Int) > 40)))) rfl ?_
  rcases oi hb1 with ⟨c13,hb1⟩ | ⟨c13,hb1⟩
  ·refine a0x (s:=12) (b:=true) rfl c13<|y5 rfl rfl<|y5 rfl rfl<|y5 rfl rfl<|y5 rfl rfl<|o7 (.bool true) rfl tr rfl<|a0e<|?_;obtain rfl:=os hb1;exact ⟨[],[],_,_,rfl,rfl,⟨.r,⟨.r,tr⟩⟩,.r⟩
  ·refine a0x (s:=12) (b:=false) rfl (bf c13)<|s_on rfl<|l7 (.str A) rfl<|s_on rfl<|?_
   obtain ⟨K,eb15,hb1⟩:=ob hb1
   refine y7 (e0n rfl rfl (b0a eb15) (b0b eb15))<|s_on rfl<|?_
   obtain ⟨G,er17,hb1⟩:=ob hb1
   refine y7 (a0p (b2d _ _ er17) rfl .r rfl)<|s_on rfl<|o7 (.bool (!G)) rfl tr rfl<|o7 (.bool (!G)) rfl tr rfl<|a0e<|?_;obtain rfl:=os hb1;exact ⟨[],[],_,_,rfl,rfl,⟨.r,⟨.r,tr⟩⟩,.r⟩
 ·rcases oi hf with ⟨c18,hf⟩ | ⟨c18,hf⟩
  ·refine x9 rfl c18<|sr<|l7 (.bool false) rfl<|dk<|a0d<|?_;obtain rfl:=os hf;exact a0f ⟨tr,tr⟩ rfl .r
  ·refine x8 rfl (bf c18)<|a0h<|a0j<|o6<|sr<|l7 (.I 1) rfl<|dk<|?_
   obtain ⟨p91,hb1,hf⟩:=ob hf
   refine a1u (X:={q:Unit // p91 = .go q}) (fun q => ([],[])) ?_ ?_
   ·refine a1h (X:={q:Nat // a4x (A.drop q)  = some p91}) (fun q => ([(0,(.str A)),(3,(.I (q.1:Int)))],[])) (fun q => A.length - q.1) ⟨1,hb1⟩ ⟨[],[],_,_,rfl,rfl,⟨.r,⟨.r,tr⟩⟩,.r⟩ ?_
    rintro ⟨B,hc1⟩
    have hc1:a4x (A.drop B)  = some p91:=hc1
    refine (show awp Tryz.prog false 0 _ (ofL [(0,(.str A)),(3,(.I (B:Int)))]) [] _ from ?_)
    rcases a5j A B with ⟨hie94,hd97⟩ | ⟨hlt92,J,hx93,hd97⟩
    ·rw [hd97,a4x.eq_1] at hc1
     have hq96:=dlf hie94
     refine o6<|sr<|l7 (.I (B:Int)) rfl<|l7 (.str A) rfl<|a1a (a9m rfl) fun hl99 => o7 (.bool (decide ((B:Int) < (A.length:Int)))) rfl rfl rfl<|dk<|x8 rfl hq96<|a2o<|a2n<|a1s<|a2m<|?_;obtain rfl:=os hc1;exact a2s ⟨_,rfl⟩ ⟨[],[],_,_,rfl,rfl,tr,.r⟩
    ·rw [hd97,a4x.eq_2] at hc1
     have hq96:=dlt hlt92
     refine o6<|sr<|l7 (.I (B:Int)) rfl<|l7 (.str A) rfl<|a1a (a9m rfl) fun hl100 => o7 (.bool (decide ((B:Int) < (A.length:Int)))) rfl rfl rfl<|dk<|x9 rfl hq96<|a0h<|a0j<|o6<|a2y<|o6<|?_
     obtain ⟨E,hb2,hc1⟩:=ob hc1
     refine a2d ([(0,(.str A)),(3,(.I (B:Int))),(35,(.bool E))],[]) ?_ ?_
     ·refine a0t ?_
      obtain ⟨D,er109,hb2⟩:=ob hb2
      rcases oi hb2 with ⟨c110,hb2⟩ | ⟨c110,hb2⟩
      ·obtain ⟨F,er112,hb2⟩:=ob hb2
       refine l7 (.str A) rfl<|l7 (.I (B:Int)) rfl<|y7 (b2j rfl rfl hx93)<|y7 (a0p (b2d _ _ er109) rfl .r rfl)<|o7 (.bool (!D)) rfl tr rfl<|l7 (.bool (!D)) rfl<|a0x (s:=29) (b:=true) rfl c110<|s_on rfl<|l7 (.str A) rfl<|s_on rfl<|l7 (.I (B:Int)) rfl<|s_on rfl<|y7 (b2j rfl rfl hx93)<|s_on rfl<|y7 (a0p (c5e _ _ er112) rfl .r rfl)<|s_on rfl<|o7 (.bool (!F)) rfl tr rfl<|o7 (.bool (!F)) rfl tr rfl<|a0e<|?_;obtain rfl:=os hb2;exact ⟨[],[],_,_,rfl,rfl,⟨.r,⟨.r,⟨.r,tr⟩⟩⟩,.r⟩
      ·refine l7 (.str A) rfl<|l7 (.I (B:Int)) rfl<|y7 (b2j rfl rfl hx93)<|y7 (a0p (b2d _ _ er109) rfl .r rfl)<|o7 (.bool (!D)) rfl tr rfl<|l7 (.bool (!D)) rfl<|a0x (s:=29) (b:=false) rfl (bf c110)<|y5 rfl rfl<|y5 rfl rfl<|y5 rfl rfl<|y5 rfl rfl<|y5 rfl rfl<|o7 (.bool false) rfl tr rfl<|a0e<|?_;obtain rfl:=os hb2;exact ⟨[],[],_,_,rfl,rfl,⟨.r,⟨.r,⟨.r,tr⟩⟩⟩,.r⟩
     ·rcases oi hc1 with ⟨c113,hc1⟩ | ⟨c113,hc1⟩
      ·refine x9 rfl c113<|sr<|l7 (.bool false) rfl<|dk<|a0d<|?_;obtain rfl:=os hc1;obtain rfl:=os hf;exact a0f ⟨tr,tr⟩ rfl .r
      ·refine x8 rfl (bf c113)<|a0h<|a1v<|a0j<|a0t<|l7 (.I (B:Int)) rfl<|o7 (.I (w64 ((B:Int) + 1))) rfl rfl rfl<|l7 (.I (w64 ((B:Int) + 1))) rfl<|a0e<|?_;exact a1p ⟨(B + 1),hc1⟩ (mul hlt92) ⟨[],[],_,_,rfl,rfl,⟨.r,⟨.of_eq (congrArg (AV.int _) (a1r hlt92 hl100)),tr⟩⟩,.r⟩
   ·rintro ⟨_,rfl⟩
    refine sr<|l7 (.bool true) rfl<|dk<|a0d<|?_;obtain rfl:=os hf;exact a0f ⟨tr,tr⟩ rfl .r
def d8w:a0q :=
 (.seq (.reg (tm 2 (.c (.bool false)) .done))
 (.seq (.reg (tm 3 (.t 0) (tq 4 (.call 282 [(.t 3)]) (tm 2 (.t 4) .done))))
 .ret))
theorem e7l:a1b Tryz.prog Tryz.f191 = some (d8w.erase,[.mov (.t 2)],5):=by kernel_rfl
def b2w (A:Str):Option Bool :=
    (b1l A).bind fun B =>
    some B
theorem c8q (A:Str) (r:Bool) (hf:b2w A = some r):a0a Tryz.prog 191 .flat [(.str A)] (.bool r):=by
  refine a0a.of_awp mixed Tryz.func191 e7l nle ?_
  rw [a0l]
  unfold b2w at hf
  unfold d8w
  refine (show awp Tryz.prog false 0 _ (ofL [(0,(.str A))]) [] _ from ?_)
  refine o6 ?_
  refine a0t ?_
  refine y7 (a4c (.bool false) rfl) ?_
  refine a0e ?_
  refine a0j ?_
  refine o6 ?_
  refine a0t ?_
  obtain ⟨B,er3,hf⟩:=ob hf
  refine y7 (a4c (.str A) rfl) ?_
  refine y7 (a0p (c7b _ _ er3) rfl .r rfl) ?_
  refine y7 (a4c (.bool B) rfl) ?_
  refine a0e ?_
  refine a0j ?_
  refine a0d ?_
  obtain rfl:=os hf
  exact a0f ⟨tr,tr⟩ rfl .r
def c131:a0q :=
 (.seq (.reg (tm 2 (.c (.bool false)) .done))
 (.seq (.seq (.reg (tm 4 (.t 0) (tq 5 (.len (.t 4)) (tq 6 (.bin .gtr (.t 5) (.c (.int .i64 4096))) .done))))
 (.cond (.t 6) (.seq (.reg (tm 2 (.c (.bool false)) .done))
 .ret)
 .skip))
 (.seq (.seq (.reg (tm 3 (.c (.int .i64 0)) .done))
 (.block 0 (.loop (.seq (.seq (.reg (tm 7 (.t 3) (tm 8 (.t 0) (tq 9 (.len (.t 8)) (tq 10 (.bin .lss (.t 7) (.t 9)) .done)))))
 (.cond (.t 10) .skip
 (.exit 0)))
 (.seq (.block 1 (.seq (.reg (tm 13 (.t 0) (tm 14 (.t 3) (tq 15 (.iaddr 3 (.t 13) (.t 14)) (tq 16 (.load 3 true (.t 15)) (.l ⟨(some 17),none,.call 228 [(.t 16)]⟩ []
 (tq 18 (.not (.t 17)) (tm 19 (.t 18) (tg 20 19 false (.mov (.t 0)) (tg 21 19 false (.mov (.t 3)) (tg 22 19 false (.iaddr 3 (.t 20) (.t 21)) (tg 23 19 false (.faddr 0 (.t 22)) (tg 24 19 false (.load 1 false (.t 23)) (tg 25 19 false (.mov (.t 0)) (tg 26 19 false (.iaddr 3 (.t 25) (.c (.int .i64 0))) (tg 27 19 false (.faddr 0 (.t 26)) (tg 28 19 false (.load 1 false (.t 27)) (tg 29 19 false (.bin .neq (.t 24) (.t 28)) (tq 30 (.pick (.t 19) (.c (.bool true)) (.t 29)) (tm 31 (.t 30) (tg 32 31 false (.mov (.t 3)) (tg 33 31 false (.bin .gtr (.t 32) (.c (.int .i64 0))) (tg 34 31 false (.mov (.t 33)) (tg 35 34 true (.mov (.t 0)) (tg 36 34 true (.mov (.t 3)) (tg 37 34 true (.bin .sub (.t 36) (.c (.int .i64 1))) (tg 38 34 true (.iaddr 3 (.t 35) (.t 37)) (tg 39 34 true (.load 3 true (.t 38)) (tg 40 34 true (.mov (.t 0)) (tg 41 34 true (.mov (.t 3)) (tg 42 34 true (.iaddr 3 (.t 40) (.t 41)) (tg 43 34 true (.load 3 true (.t 42)) (.l ⟨(some 44),(some (34,true)),.call 229 [(.t 39),(.t 43)]⟩ []
 (tg 45 34 true (.bin .geq (.t 44) (.c (.int .i64 0))) (tg 46 31 false (.pick (.t 34) (.t 45) (.c (.bool false))) (tq 47 (.pick (.t 31) (.c (.bool true)) (.t 46)) .done))) .non))))))))))))))))))))))))))) .non))))))
 (.cut (.cond (.t 47) (.seq (.reg (tm 2 (.c (.bool false)) .done))
 .ret)
 .skip))))
 (.reg (tm 11 (.t 3) (tq 12 (.bin .add (.t 11) (.c (.int .i64 1))) (tm 3 (.t 12) .done)))))))))
 (.cut (.seq (.reg (tm 48 (.t 0) (tq 49 (.len (.t 48)) (tq 50 (.bin .leq (.t 49) (.c (.int .i64 8))) (tm 2 (.t 50) .done)))))
 .ret)))))
theorem e7m:a1b Tryz.prog Tryz.f131 = some (c131.erase,[.mov (.t 2)],51):=by kernel_rfl
def a4y (A:(List a0g)):List a0g → Nat → Option (Fl Bool Unit)
  | [],B =>
    some (.go ())
  | D :: xs,B =>
    (((a7j D).bind fun H =>
    if (!H) then
    some true
    else
    (idx A 0).bind fun E =>
    if (D.Kind != E.Kind) then
    some true
    else
    if (decide ((B:Int) > 0)) then
    (idx A (w64 ((B:Int) - 1))).bind fun J =>
    (a7q J D).bind fun F =>
    some (decide (F ≥ 0))
    else
    some false:Option Bool)).bind fun G =>
    if G then
    some (.ret false)
    else
    a4y A xs (B + 1)
def b1m (A:(List a0g)):Option Bool :=
    if (decide ((A.length:Int) > 4096)) then
    some false
    else
    (a4y A A 0).bind fun q => (match q with
    | .ret r => some r
    | .go _ =>
    some (decide ((A.length:Int) ≤ 8)))
theorem c7c (A:(List a0g)) (r:Bool) (hf:b1m A = some r):a0a Tryz.prog 131 .flat [(.lst 3 (A.map o5))] (.bool r):=by
 refine a0a.of_awp mixed Tryz.func131 e7m nle ?_;rw [a0l];unfold b1m at hf;unfold c131;refine (show awp Tryz.prog false 0 _ (ofL [(0,(.lst 3 (A.map o5)))]) [] _ from ?_);refine sr<|l7 (.bool false) rfl<|dk<|o6<|sr<|l7 (.lst 3 (A.map o5)) rfl<|a1a (a1t (enc:=o5) rfl) fun hl2 => o7 (.bool (decide ((A.length:Int) > 4096))) rfl rfl rfl<|dk<|?_
 rcases oi hf with ⟨c3,hf⟩ | ⟨c3,hf⟩
 ·refine x9 rfl c3<|sr<|l7 (.bool false) rfl<|dk<|a0d<|?_;obtain rfl:=os hf;exact a0f ⟨tr,tr⟩ rfl .r
 ·refine x8 rfl (bf c3)<|a0h<|a0j<|o6<|sr<|l7 (.I 0) rfl<|dk<|?_
  obtain ⟨p110,hb1,hf⟩:=ob hf
  refine a1u (X:={q:Unit // p110 = .go q}) (fun q => ([(0,(.lst 3 (A.map o5)))],[])) ?_ ?_
  ·refine a1h (X:={q:Nat // a4y A (A.drop q) q = some p110}) (fun q => ([(0,(.lst 3 (A.map o5))),(3,(.I (q.1:Int)))],[])) (fun q => A.length - q.1) ⟨0,hb1⟩ ⟨[],[],_,_,rfl,rfl,⟨.r,⟨.r,tr⟩⟩,.r⟩ ?_
   rintro ⟨B,hc1⟩
   have hc1:a4y A (A.drop B) B = some p110:=hc1
   refine (show awp Tryz.prog false 0 _ (ofL [(0,(.lst 3 (A.map o5))),(3,(.I (B:Int)))]) [] _ from ?_)
   rcases a5j A B with ⟨hie113,hd116⟩ | ⟨hlt111,D,hx112,hd116⟩
   ·rw [hd116,a4y.eq_1] at hc1
    have hq115:=dlf hie113
    refine o6<|sr<|l7 (.I (B:Int)) rfl<|l7 (.lst 3 (A.map o5)) rfl<|a1a (a1t (enc:=o5) rfl) fun hl118 => o7 (.bool (decide ((B:Int) < (A.length:Int)))) rfl rfl rfl<|dk<|x8 rfl hq115<|a2o<|a2n<|a1s<|a2m<|?_;obtain rfl:=os hc1;exact a2s ⟨_,rfl⟩ ⟨[],[],_,_,rfl,rfl,⟨.r,tr⟩,.r⟩
   ·rw [hd116,a4y.eq_2] at hc1
    have hq115:=dlt hlt111
    refine o6<|sr<|l7 (.I (B:Int)) rfl<|l7 (.lst 3 (A.map o5)) rfl<|a1a (a1t (enc:=o5) rfl) fun hl119 => o7 (.bool (decide ((B:Int) < (A.length:Int)))) rfl rfl rfl<|dk<|x9 rfl hq115<|a0h<|a0j<|o6<|a2y<|o6<|?_
    obtain ⟨G,hb2,hc1⟩:=ob hc1
    refine a2d ([(0,(.lst 3 (A.map o5))),(3,(.I (B:Int))),(47,(.bool G))],[]) ?_ ?_
    ·refine a0t<|l7 (.lst 3 (A.map o5)) rfl<|l7 (.I (B:Int)) rfl<|y7 (a1m (enc:=o5) rfl rfl hx112)<|o7 (o5 D) rfl nle rfl<|?_
     obtain ⟨H,er134,hb2⟩:=ob hb2
     refine a2e (a0p (b5b _ _ er134) rfl .r rfl) a2j tr<|o7 (.bool (!H)) rfl tr rfl<|l7 (.bool (!H)) rfl<|?_
     rcases oi hb2 with ⟨d8x,hb2⟩ | ⟨d8x,hb2⟩
     ·refine a0x (s:=19) (b:=true) rfl d8x<|y5 rfl rfl<|y5 rfl rfl<|y5 rfl rfl<|y5 rfl rfl<|y5 rfl rfl<|y5 rfl rfl<|y5 rfl rfl<|y5 rfl rfl<|y5 rfl rfl<|y5 rfl rfl<|o7 (.bool true) rfl tr rfl<|l7 (.bool true) rfl<|y5 rfl rfl<|y5 rfl rfl<|y5 rfl rfl<|a1g rfl<|a1g rfl<|a1g rfl<|a1g rfl<|a1g rfl<|a1g rfl<|a1g rfl<|a1g rfl<|a1g rfl<|c5n rfl tr<|a1g rfl<|y5 rfl rfl<|o7 (.bool true) rfl tr rfl<|a0e<|?_;obtain rfl:=os hb2;exact ⟨[],[],_,_,rfl,rfl,⟨.r,⟨.r,⟨.r,tr⟩⟩⟩,.r⟩
     ·refine a0x (s:=19) (b:=false) rfl (bf d8x)<|s_on rfl<|l7 (.lst 3 (A.map o5)) rfl<|s_on rfl<|l7 (.I (B:Int)) rfl<|s_on rfl<|y7 (a1m (enc:=o5) rfl rfl hx112)<|s_on rfl<|o7 (.iptr (o5 D) 0) rfl tr rfl<|s_on rfl<|o7 (.I D.Kind) rfl nle rfl<|s_on rfl<|l7 (.lst 3 (A.map o5)) rfl<|s_on rfl<|?_
      obtain ⟨E,ex137,hb2⟩:=ob hb2
      refine y7 (a3d (enc:=o5) rfl rfl (b0a ex137) (b0b ex137))<|s_on rfl<|o7 (.iptr (o5 E) 0) rfl tr rfl<|s_on rfl<|o7 (.I E.Kind) rfl nle rfl<|s_on rfl<|o7 (.bool (D.Kind != E.Kind)) rfl rfl rfl<|o7 (.bool (D.Kind != E.Kind)) rfl tr rfl<|l7 (.bool (D.Kind != E.Kind)) rfl<|?_
      rcases oi hb2 with ⟨c138,hb2⟩ | ⟨c138,hb2⟩
      ·refine a0x (s:=31) (b:=true) rfl c138<|y5 rfl rfl<|y5 rfl rfl<|y5 rfl rfl<|a1g rfl<|a1g rfl<|a1g rfl<|a1g rfl<|a1g rfl<|a1g rfl<|a1g rfl<|a1g rfl<|a1g rfl<|c5n rfl tr<|a1g rfl<|y5 rfl rfl<|o7 (.bool true) rfl tr rfl<|a0e<|?_;obtain rfl:=os hb2;exact ⟨[],[],_,_,rfl,rfl,⟨.r,⟨.r,⟨.r,tr⟩⟩⟩,.r⟩
      ·refine a0x (s:=31) (b:=false) rfl (bf c138)<|s_on rfl<|l7 (.I (B:Int)) rfl<|s_on rfl<|o7 (.bool (decide ((B:Int) > 0))) rfl rfl rfl<|s_on rfl<|l7 (.bool (decide ((B:Int) > 0))) rfl<|?_
       rcases oi hb2 with ⟨c139,hb2⟩ | ⟨c139,hb2⟩
       ·refine a0x (s:=34) (b:=true) rfl c139<|s_on rfl<|l7 (.lst 3 (A.map o5)) rfl<|s_on rfl<|l7 (.I (B:Int)) rfl<|s_on rfl<|o7 (.I (w64 ((B:Int) - 1))) rfl rfl rfl<|s_on rfl<|?_
        obtain ⟨J,ex141,hb2⟩:=ob hb2
        refine y7 (a3d (enc:=o5) rfl rfl (b0a ex141) (b0b ex141))<|s_on rfl<|o7 (o5 J) rfl nle rfl<|s_on rfl<|l7 (.lst 3 (A.map o5)) rfl<|s_on rfl<|l7 (.I (B:Int)) rfl<|s_on rfl<|y7 (a1m (enc:=o5) rfl rfl hx112)<|s_on rfl<|o7 (o5 D) rfl nle rfl<|c6t rfl<|?_
        obtain ⟨F,er143,hb2⟩:=ob hb2
        refine a2e (a0p (b6t _ _ _ er143) rfl .r rfl) a2j tr<|s_on rfl<|o7 (.bool (decide (F ≥ 0))) rfl rfl rfl<|s_on rfl<|o7 (.bool (decide (F ≥ 0))) rfl tr rfl<|o7 (.bool (decide (F ≥ 0))) rfl tr rfl<|a0e<|?_;obtain rfl:=os hb2;exact ⟨[],[],_,_,rfl,rfl,⟨.r,⟨.r,⟨.r,tr⟩⟩⟩,.r⟩
       ·refine a0x (s:=34) (b:=false) rfl (bf c139)<|y5 rfl rfl<|y5 rfl rfl<|y5 rfl rfl<|y5 rfl rfl<|y5 rfl rfl<|y5 rfl rfl<|y5 rfl rfl<|y5 rfl rfl<|y5 rfl rfl<|c0d rfl rfl tr<|y5 rfl rfl<|s_on rfl<|o7 (.bool false) rfl tr rfl<|o7 (.bool false) rfl tr rfl<|a0e<|?_;obtain rfl:=os hb2;exact ⟨[],[],_,_,rfl,rfl,⟨.r,⟨.r,⟨.r,tr⟩⟩⟩,.r⟩
    ·rcases oi hc1 with ⟨c144,hc1⟩ | ⟨c144,hc1⟩
     ·refine x9 rfl c144<|sr<|l7 (.bool false) rfl<|dk<|a0d<|?_;obtain rfl:=os hc1;obtain rfl:=os hf;exact a0f ⟨tr,tr⟩ rfl .r
     ·refine x8 rfl (bf c144)<|a0h<|a1v<|a0j<|a0t<|l7 (.I (B:Int)) rfl<|o7 (.I (w64 ((B:Int) + 1))) rfl rfl rfl<|l7 (.I (w64 ((B:Int) + 1))) rfl<|a0e<|?_;exact a1p ⟨(B + 1),hc1⟩ (mul hlt111) ⟨[],[],_,_,rfl,rfl,⟨.r,⟨.of_eq (congrArg (AV.int _) (a1r hlt111 hl119)),tr⟩⟩,.r⟩
  ·rintro ⟨_,rfl⟩
   refine sr<|l7 (.lst 3 (A.map o5)) rfl<|a1a (a1t (enc:=o5) rfl) fun hl145 => o7 (.bool (decide ((A.length:Int) ≤ 8))) rfl rfl rfl<|l7 (.bool (decide ((A.length:Int) ≤ 8))) rfl<|dk<|a0d<|?_;obtain rfl:=os hf;exact a0f ⟨tr,tr⟩ rfl .r
def e7n:a0q :=
 (.seq (.reg (tq 1 (.box 3 (.t 0)) (tm 2 (.c (.bool false)) .done)))
 (.seq (.reg (tq 3 (.faddr 1 (.t 1)) (tq 4 (.load 1 false (.t 3)) (tq 5 (.call 85 [(.t 4),(.c (.int .i64 1)),(.c (.int .i64 8))]) (tm 6 (.t 5) (tg 7 6 true (.faddr 2 (.t 1)) (tg 8 6 true (.load 1 false (.t 7)) (tg 9 6 true (.call 131 [(.t 8)]) (tq 10 (.pick (.t 6) (.t 9) (.c (.bool false))) (tm 11 (.t 10) (tg 12 11 true (.faddr 0 (.t 1)) (tg 13 11 true (.load 1 false (.t 12)) (tg 14 11 true (.lenS (.t 13)) (tg 15 11 true (.bin .leq (.t 14) (.c (.int .i64 40))) (tq 16 (.pick (.t 11) (.t 15) (.c (.bool false))) (tm 2 (.t 16) .done))))))))))))))))
 .ret))
theorem e7o:a1b Tryz.prog Tryz.f357 = some (e7n.erase,[.mov (.t 2)],17):=by kernel_rfl
def b4h (A:a0m):Option Bool :=
    (a7o A.Func 1 8).bind fun D =>
    if D then
    (b1m A.Value).bind fun B =>
    some (bif B then (decide ((A.Column.length:Int) ≤ 40)) else false)
    else
    some false
theorem d1p (A:a0m) (r:Bool) (hf:b4h A = some r):a0a Tryz.prog 357 .flat [(o8 A)] (.bool r):=by
 refine a0a.of_awp mixed Tryz.func357 e7o nle ?_;rw [a0l];unfold b4h at hf;unfold e7n;refine (show awp Tryz.prog false 0 _ (ofL [(0,(o8 A))]) [] _ from ?_);refine sr<|y7 (a1i (j:=0) (c:=(.agg [(.str A.Column),(.I A.Func),(.lst 3 (A.Value.map o5))])) rfl tr rfl rfl)<|l7 (.bool false) rfl<|dk<|sr<|o7 (.ptr 0 0 1) rfl tr rfl<|o7 (.I A.Func) rfl nle rfl<|?_
 obtain ⟨D,er3,hf⟩:=ob hf
 refine y7 (a0p (a6q _ _ _ _ er3) rfl .r rfl)<|l7 (.bool D) rfl<|?_
 rcases oi hf with ⟨c4,hf⟩ | ⟨c4,hf⟩
 ·refine a0x (s:=6) (b:=true) rfl c4<|s_on rfl<|o7 (.ptr 0 0 2) rfl tr rfl<|s_on rfl<|o7 (.lst 3 (A.Value.map o5)) rfl nle rfl<|s_on rfl<|?_
  obtain ⟨B,er6,hf⟩:=ob hf
  refine y7 (a0p (c7c _ _ er6) rfl .r rfl)<|o7 (.bool B) rfl tr rfl<|l7 (.bool B) rfl<|?_;refine s_g (v:=B) (.ptr 0 0 0) rfl (fun hv => by (try simp only [a0c hv]);exact ⟨rfl,tr,rfl⟩) ?_;refine s_g (v:=B) (.str A.Column) rfl (fun hv => by (try simp only [a0c hv]);exact ⟨rfl,nle,rfl⟩) ?_;refine s_g (v:=B) (.I (A.Column.length:Int)) rfl (fun hv => by (try simp only [a0c hv]);exact ⟨rfl,tr,rfl⟩) ?_;refine s_g (v:=B) (.bool (decide ((A.Column.length:Int) ≤ 40))) rfl (fun hv => by (try simp only [a0c hv]);exact ⟨rfl,rfl,rfl⟩) ?_;refine a3a (x:=(decide ((A.Column.length:Int) ≤ 40))) (y:=false) rfl (fun hv => by (try simp only [a0c hv]);rfl) (fun hv => by (try simp only [a0c hv]);rfl) ?_
  refine l7 (.bool (bif B then (decide ((A.Column.length:Int) ≤ 40)) else false)) rfl<|dk<|a0d<|?_;obtain rfl:=os hf;exact a0f ⟨tr,tr⟩ rfl .r
 ·refine a0x (s:=6) (b:=false) rfl (bf c4)<|y5 rfl rfl<|y5 rfl rfl<|y5 rfl rfl<|o7 (.bool false) rfl tr rfl<|l7 (.bool false) rfl<|y5 rfl rfl<|y5 rfl rfl<|y5 rfl rfl<|y5 rfl rfl<|o7 (.bool false) rfl tr rfl<|l7 (.bool false) rfl<|dk<|a0d<|?_;obtain rfl:=os hf;exact a0f ⟨tr,tr⟩ rfl .r
def e7p:a0q :=
 (.seq (.reg (tm 2 (.c (.bool false)) .done))
 (.seq (.seq (.reg (tm 3 (.c (.int .i64 0)) .done))
 (.block 0 (.loop (.seq (.seq (.reg (tm 4 (.t 3) (tm 5 (.t 0) (tq 6 (.len (.t 5)) (tq 7 (.bin .lss (.t 4) (.t 6)) .done)))))
 (.cond (.t 7) .skip
 (.exit 0)))
 (.seq (.block 1 (.seq (.reg (tm 10 (.t 0) (tm 11 (.t 3) (tq 12 (.iaddr 3 (.t 10) (.t 11)) (tq 13 (.load 3 true (.t 12)) (tq 14 (.call 357 [(.t 13)]) (tq 15 (.not (.t 14)) .done)))))))
 (.cond (.t 15) (.seq (.reg (tm 2 (.c (.bool false)) .done))
 .ret)
 .skip)))
 (.reg (tm 8 (.t 3) (tq 9 (.bin .add (.t 8) (.c (.int .i64 1))) (tm 3 (.t 9) .done)))))))))
 (.cut (.seq (.reg (tm 16 (.t 0) (tq 17 (.len (.t 16)) (tq 18 (.bin .leq (.t 17) (.c (.int .i64 8))) (tm 2 (.t 18) .done)))))
 .ret))))
theorem e7q:a1b Tryz.prog Tryz.f315 = some (e7p.erase,[.mov (.t 2)],19):=by kernel_rfl
def a4z :List a0m → Option (Fl Bool Unit)
  | [] =>
    some (.go ())
  | D :: xs =>
    (b4h D).bind fun E =>
    if (!E) then
    some (.ret false)
    else
    a4z xs 
def b1n (A:(List a0m)):Option Bool :=
    (a4z A ).bind fun q => (match q with
    | .ret r => some r
    | .go _ =>
    some (decide ((A.length:Int) ≤ 8)))
theorem c7d (A:(List a0m)) (r:Bool) (hf:b1n A = some r):a0a Tryz.prog 315 .flat [(.lst 3 (A.map o8))] (.bool r):=by
 refine a0a.of_awp mixed Tryz.func315 e7q nle ?_;rw [a0l];unfold b1n at hf;unfold e7p;refine (show awp Tryz.prog false 0 _ (ofL [(0,(.lst 3 (A.map o8)))]) [] _ from ?_);refine sr<|l7 (.bool false) rfl<|dk<|o6<|sr<|l7 (.I 0) rfl<|dk<|?_
 obtain ⟨p26,hb1,hf⟩:=ob hf
 refine a1u (X:={q:Unit // p26 = .go q}) (fun q => ([(0,(.lst 3 (A.map o8)))],[])) ?_ ?_
 ·refine a1h (X:={q:Nat // a4z (A.drop q)  = some p26}) (fun q => ([(0,(.lst 3 (A.map o8))),(3,(.I (q.1:Int)))],[])) (fun q => A.length - q.1) ⟨0,hb1⟩ ⟨[],[],_,_,rfl,rfl,⟨.r,⟨.r,tr⟩⟩,.r⟩ ?_
  rintro ⟨B,hc1⟩
  have hc1:a4z (A.drop B)  = some p26:=hc1
  refine (show awp Tryz.prog false 0 _ (ofL [(0,(.lst 3 (A.map o8))),(3,(.I (B:Int)))]) [] _ from ?_)
  rcases a5j A B with ⟨hie29,hd32⟩ | ⟨hlt27,D,hx28,hd32⟩
  ·rw [hd32,a4z.eq_1] at hc1
   have hq31:=dlf hie29
   refine o6<|sr<|l7 (.I (B:Int)) rfl<|l7 (.lst 3 (A.map o8)) rfl<|a1a (a1t (enc:=o8) rfl) fun hl34 => o7 (.bool (decide ((B:Int) < (A.length:Int)))) rfl rfl rfl<|dk<|x8 rfl hq31<|a2o<|a2n<|a1s<|a2m<|?_;obtain rfl:=os hc1;exact a2s ⟨_,rfl⟩ ⟨[],[],_,_,rfl,rfl,⟨.r,tr⟩,.r⟩
  ·rw [hd32,a4z.eq_2] at hc1
   have hq31:=dlt hlt27
   refine o6<|sr<|l7 (.I (B:Int)) rfl<|l7 (.lst 3 (A.map o8)) rfl<|a1a (a1t (enc:=o8) rfl) fun hl35 => o7 (.bool (decide ((B:Int) < (A.length:Int)))) rfl rfl rfl<|dk<|x9 rfl hq31<|a0h<|a0j<|o6<|a2y<|sr<|?_
   obtain ⟨E,er37,hc1⟩:=ob hc1
   refine l7 (.lst 3 (A.map o8)) rfl<|l7 (.I (B:Int)) rfl<|y7 (a1m (enc:=o8) rfl rfl hx28)<|o7 (o8 D) rfl nle rfl<|y7 (a0p (d1p _ _ er37) rfl .r rfl)<|o7 (.bool (!E)) rfl tr rfl<|dk<|?_
   rcases oi hc1 with ⟨c38,hc1⟩ | ⟨c38,hc1⟩
   ·refine x9 rfl c38<|sr<|l7 (.bool false) rfl<|dk<|a0d<|?_;obtain rfl:=os hc1;obtain rfl:=os hf;exact a0f ⟨tr,tr⟩ rfl .r
   ·refine x8 rfl (bf c38)<|a0h<|a1v<|a0j<|a0t<|l7 (.I (B:Int)) rfl<|o7 (.I (w64 ((B:Int) + 1))) rfl rfl rfl<|l7 (.I (w64 ((B:Int) + 1))) rfl<|a0e<|?_;exact a1p ⟨(B + 1),hc1⟩ (mul hlt27) ⟨[],[],_,_,rfl,rfl,⟨.r,⟨.of_eq (congrArg (AV.int _) (a1r hlt27 hl35)),tr⟩⟩,.r⟩
 ·rintro ⟨_,rfl⟩
  refine sr<|l7 (.lst 3 (A.map o8)) rfl<|a1a (a1t (enc:=o8) rfl) fun hl39 => o7 (.bool (decide ((A.length:Int) ≤ 8))) rfl rfl rfl<|l7 (.bool (decide ((A.length:Int) ≤ 8))) rfl<|dk<|a0d<|?_;obtain rfl:=os hf;exact a0f ⟨tr,tr⟩ rfl .r
def e7r:a0q :=
 (.seq (.reg (tq 1 (.box 8 (.t 0)) (tm 2 (.c (.bool false)) .done)))
 (.seq (.seq (.reg (tq 4 (.faddr 0 (.t 1)) (tq 5 (.load 1 false (.t 4)) (tq 6 (.call 191 [(.t 5)]) (tq 7 (.not (.t 6)) (tm 8 (.t 7) (tg 9 8 false (.faddr 1 (.t 1)) (tg 10 8 false (.load 1 false (.t 9)) (tg 11 8 false (.lenS (.t 10)) (tg 12 8 false (.bin .gtr (.t 11) (.c (.int .i64 40))) (tq 13 (.pick (.t 8) (.c (.bool true)) (.t 12)) (tm 14 (.t 13) (tg 15 14 false (.faddr 2 (.t 1)) (tg 16 14 false (.load 1 false (.t 15)) (tg 17 14 false (.len (.t 16)) (tg 18 14 false (.bin .gtr (.t 17) (.c (.int .i64 6))) (tq 19 (.pick (.t 14) (.c (.bool true)) (.t 18)) (tm 20 (.t 19) (tg 21 20 false (.faddr 7 (.t 1)) (tg 22 20 false (.load 1 false (.t 21)) (tg 23 20 false (.call 315 [(.t 22)]) (tg 24 20 false (.not (.t 23)) (tq 25 (.pick (.t 20) (.c (.bool true)) (.t 24)) .done)))))))))))))))))))))))
 (.cut (.cond (.t 25) (.seq (.reg (tm 2 (.c (.bool false)) .done))
 .ret)
 .skip)))
 (.seq (.seq (.reg (tm 3 (.c (.int .i64 0)) .done))
 (.block 0 (.loop (.seq (.seq (.reg (tm 26 (.t 3) (tq 27 (.faddr 2 (.t 1)) (tq 28 (.load 1 false (.t 27)) (tq 29 (.len (.t 28)) (tq 30 (.bin .lss (.t 26) (.t 29)) .done))))))
 (.cond (.t 30) .skip
 (.exit 0)))
 (.seq (.block 1 (.seq (.reg (tq 33 (.faddr 2 (.t 1)) (tq 34 (.load 1 false (.t 33)) (tm 35 (.t 3) (tq 36 (.iaddr 1 (.t 34) (.t 35)) (tq 37 (.load 1 false (.t 36)) (tq 38 (.lenS (.t 37)) (tq 39 (.bin .gtr (.t 38) (.c (.int .i64 40))) .done))))))))
 (.cond (.t 39) (.seq (.reg (tm 2 (.c (.bool false)) .done))
 .ret)
 .skip)))
 (.reg (tm 31 (.t 3) (tq 32 (.bin .add (.t 31) (.c (.int .i64 1))) (tm 3 (.t 32) .done)))))))))
 (.cut (.seq (.reg (tm 2 (.c (.bool true)) .done))
 .ret)))))
theorem e7s:a1b Tryz.prog Tryz.f256 = some (e7r.erase,[.mov (.t 2)],40):=by kernel_rfl
def a6a :List Str → Option (Fl Bool Unit)
  | [] =>
    some (.go ())
  | E :: xs =>
    if (decide ((E.length:Int) > 40)) then
    some (.ret false)
    else
    a6a xs 
def b0r (A:a0k):Option Bool :=
    (((b2w A.Name).bind fun B =>
    if (bif (bif (!B) then true else (decide ((A.Table.length:Int) > 40))) then true else (decide ((A.Columns.length:Int) > 6))) then
    some true
    else
    (b1n A.Where).bind fun F =>
    some (!F):Option Bool)).bind fun G =>
    if G then
    some false
    else
    (a6a A.Columns ).bind fun q => (match q with
    | .ret r => some r
    | .go _ =>
    some true)
theorem d1q (A:a0k) (r:Bool) (hf:b0r A = some r):a0a Tryz.prog 256 .flat [(a4d A)] (.bool r):=by
 refine a0a.of_awp mixed Tryz.func256 e7s nle ?_;rw [a0l];unfold b0r at hf;unfold e7r;refine (show awp Tryz.prog false 0 _ (ofL [(0,(a4d A))]) [] _ from ?_);refine sr<|y7 (a1i (j:=0) (c:=(.agg [(.str A.Name),(.str A.Table),(.lst 1 (A.Columns.map AV.str)),(.bool A.Initial),(.bool A.Insert),(.bool A.Delete),(.bool A.Modify),(.lst 3 (A.Where.map o8))])) rfl tr rfl rfl)<|l7 (.bool false) rfl<|dk<|o6<|o6<|?_
 obtain ⟨G,hb1,hf⟩:=ob hf
 refine a2d ([(1,(.ptr 0 0 0)),(25,(.bool G))],[.box 8 (.agg [(.str A.Name),(.str A.Table),(.lst 1 (A.Columns.map AV.str)),(.bool A.Initial),(.bool A.Insert),(.bool A.Delete),(.bool A.Modify),(.lst 3 (A.Where.map o8))])]) ?_ ?_
 ·refine a0t<|o7 (.ptr 0 0 0) rfl tr rfl<|o7 (.str A.Name) rfl nle rfl<|?_
  obtain ⟨B,er12,hb1⟩:=ob hb1
  refine y7 (a0p (c8q _ _ er12) rfl .r rfl)<|o7 (.bool (!B)) rfl tr rfl<|l7 (.bool (!B)) rfl<|?_;refine s_g (v:=(!B)) (.ptr 0 0 1) rfl (fun hv => by (try simp only [a0c hv]);exact ⟨rfl,tr,rfl⟩) ?_;refine s_g (v:=(!B)) (.str A.Table) rfl (fun hv => by (try simp only [a0c hv]);exact ⟨rfl,nle,rfl⟩) ?_;refine s_g (v:=(!B)) (.I (A.Table.length:Int)) rfl (fun hv => by (try simp only [a0c hv]);exact ⟨rfl,tr,rfl⟩) ?_;refine s_g (v:=(!B)) (.bool (decide ((A.Table.length:Int) > 40))) rfl (fun hv => by (try simp only [a0c hv]);exact ⟨rfl,rfl,rfl⟩) ?_;refine a3a (x:=true) (y:=(decide ((A.Table.length:Int) > 40))) rfl (fun hv => by (try simp only [a0c hv]);rfl) (fun hv => by (try simp only [a0c hv]);rfl) ?_
  refine l7 (.bool (bif (!B) then true else (decide ((A.Table.length:Int) > 40)))) rfl ?_;refine s_g (v:=(bif (!B) then true else (decide ((A.Table.length:Int) > 40)))) (.ptr 0 0 2) rfl (fun hv => by (try simp only [a0c hv]);exact ⟨rfl,tr,rfl⟩) ?_;refine s_g (v:=(bif (!B) then true else (decide ((A.Table.length:Int) > 40)))) (.lst 1 (A.Columns.map AV.str)) rfl (fun hv => by (try simp only [a0c hv]);exact ⟨rfl,nle,rfl⟩) ?_;refine s_g (v:=(bif (!B) then true else (decide ((A.Table.length:Int) > 40)))) (.I (A.Columns.length:Int)) rfl (fun hv => by (try simp only [a0c hv]);exact ⟨rfl,tr,lenV _ _⟩) ?_;refine s_g (v:=(bif (!B) then true else (decide ((A.Table.length:Int) > 40)))) (.bool (decide ((A.Columns.length:Int) > 6))) rfl (fun hv => by (try simp only [a0c hv]);exact ⟨rfl,rfl,rfl⟩) ?_
  refine a3a (x:=true) (y:=(decide ((A.Columns.length:Int) > 6))) rfl (fun hv => by (try simp only [a0c hv]);rfl) (fun hv => by (try simp only [a0c hv]);rfl) ?_;refine l7 (.bool (bif (bif (!B) then true else (decide ((A.Table.length:Int) > 40))) then true else (decide ((A.Columns.length:Int) > 6)))) rfl ?_
  rcases oi hb1 with ⟨c15,hb1⟩ | ⟨c15,hb1⟩
  ·refine a0x (s:=20) (b:=true) rfl c15<|y5 rfl rfl<|y5 rfl rfl<|y5 rfl rfl<|y5 rfl rfl<|o7 (.bool true) rfl tr rfl<|a0e<|?_;obtain rfl:=os hb1;exact ⟨[],[0],_,_,rfl,rfl,⟨.r,⟨.r,tr⟩⟩,.r⟩
  ·refine a0x (s:=20) (b:=false) rfl (bf c15)<|s_on rfl<|o7 (.ptr 0 0 7) rfl tr rfl<|s_on rfl<|o7 (.lst 3 (A.Where.map o8)) rfl nle rfl<|s_on rfl<|?_
   obtain ⟨F,er17,hb1⟩:=ob hb1
   refine y7 (a0p (c7d _ _ er17) rfl .r rfl)<|s_on rfl<|o7 (.bool (!F)) rfl tr rfl<|o7 (.bool (!F)) rfl tr rfl<|a0e<|?_;obtain rfl:=os hb1;exact ⟨[],[0],_,_,rfl,rfl,⟨.r,⟨.r,tr⟩⟩,.r⟩
 ·rcases oi hf with ⟨c18,hf⟩ | ⟨c18,hf⟩
  ·refine x9 rfl c18<|sr<|l7 (.bool false) rfl<|dk<|a0d<|?_;obtain rfl:=os hf;exact a0f ⟨tr,tr⟩ rfl .r
  ·refine x8 rfl (bf c18)<|a0h<|a0j<|o6<|sr<|l7 (.I 0) rfl<|dk<|?_
   obtain ⟨p40,hb1,hf⟩:=ob hf
   refine a1u (X:={q:Unit // p40 = .go q}) (fun q => ([],[])) ?_ ?_
   ·refine a1h (X:={q:Nat // a6a (A.Columns.drop q)  = some p40}) (fun q => ([(1,(.ptr 0 0 0)),(3,(.I (q.1:Int)))],[.box 8 (.agg [(.str A.Name),(.str A.Table),(.lst 1 (A.Columns.map AV.str)),(.bool A.Initial),(.bool A.Insert),(.bool A.Delete),(.bool A.Modify),(.lst 3 (A.Where.map o8))])])) (fun q => A.Columns.length - q.1) ⟨0,hb1⟩ ⟨[],[0],_,_,rfl,rfl,⟨.r,⟨.r,tr⟩⟩,.r⟩ ?_
    rintro ⟨D,hc1⟩
    have hc1:a6a (A.Columns.drop D)  = some p40:=hc1
    refine (show awp Tryz.prog false 0 _ (ofL [(1,(.ptr 0 0 0)),(3,(.I (D:Int)))]) [.box 8 (.agg [(.str A.Name),(.str A.Table),(.lst 1 (A.Columns.map AV.str)),(.bool A.Initial),(.bool A.Insert),(.bool A.Delete),(.bool A.Modify),(.lst 3 (A.Where.map o8))])] _ from ?_)
    rcases a5j A.Columns D with ⟨hie43,hd46⟩ | ⟨hlt41,E,hx42,hd46⟩
    ·rw [hd46,a6a.eq_1] at hc1
     have hq45:=dlf hie43
     refine o6<|sr<|l7 (.I (D:Int)) rfl<|o7 (.ptr 0 0 2) rfl tr rfl<|o7 (.lst 1 (A.Columns.map AV.str)) rfl nle rfl<|a1a (a1t (enc:=AV.str) rfl) fun hl48 => o7 (.bool (decide ((D:Int) < (A.Columns.length:Int)))) rfl rfl rfl<|dk<|x8 rfl hq45<|a2o<|a2n<|a1s<|a2m<|?_;obtain rfl:=os hc1;exact a2s ⟨_,rfl⟩ ⟨[],[],_,_,rfl,rfl,tr,.r⟩
    ·rw [hd46,a6a.eq_2] at hc1
     have hq45:=dlt hlt41
     refine o6<|sr<|l7 (.I (D:Int)) rfl<|o7 (.ptr 0 0 2) rfl tr rfl<|o7 (.lst 1 (A.Columns.map AV.str)) rfl nle rfl<|a1a (a1t (enc:=AV.str) rfl) fun hl49 => o7 (.bool (decide ((D:Int) < (A.Columns.length:Int)))) rfl rfl rfl<|dk<|x9 rfl hq45<|a0h<|a0j<|o6<|a2y<|sr<|o7 (.ptr 0 0 2) rfl tr rfl<|o7 (.lst 1 (A.Columns.map AV.str)) rfl nle rfl<|l7 (.I (D:Int)) rfl<|y7 (a1m (enc:=AV.str) rfl rfl hx42)<|o7 (.str E) rfl ⟨rfl,rfl⟩ rfl<|a1a (a9m rfl) fun hl50 => o7 (.bool (decide ((E.length:Int) > 40))) rfl rfl rfl<|a0e<|?_
     refine a0j ?_
     rcases oi hc1 with ⟨c51,hc1⟩ | ⟨c51,hc1⟩
     ·refine x9 rfl c51<|sr<|l7 (.bool false) rfl<|dk<|a0d<|?_;obtain rfl:=os hc1;obtain rfl:=os hf;exact a0f ⟨tr,tr⟩ rfl .r
     ·refine x8 rfl (bf c51)<|a0h<|a1v<|a0j<|a0t<|l7 (.I (D:Int)) rfl<|o7 (.I (w64 ((D:Int) + 1))) rfl rfl rfl<|l7 (.I (w64 ((D:Int) + 1))) rfl<|a0e<|?_;exact a1p ⟨(D + 1),hc1⟩ (mul hlt41) ⟨[],[0],_,_,rfl,rfl,⟨.r,⟨.of_eq (congrArg (AV.int _) (a1r hlt41 hl49)),tr⟩⟩,.r⟩
   ·rintro ⟨_,rfl⟩
    refine sr<|l7 (.bool true) rfl<|dk<|a0d<|?_;obtain rfl:=os hf;exact a0f ⟨tr,tr⟩ rfl .r
def e7t:a0q :=
 (.seq (.reg (tq 3 (.box 5 (.t 1)) (tq 4 (.box 8 (.c (.agg [(.str []),(.str []),.nil,(.bool false),(.bool false),(.bool false),(.bool false),.nil]))) (tm 5 (.c (.bool false)) .done))))
 (.seq (.reg (tm 14 (.t 0) (tq 15 (.bslice 1 []) (tq 16 (.bslice 3 []) (tq 17 (.build [(.str []),(.str []),.nil,(.bool false),(.bool false),(.bool false),(.bool false),.nil] [(0,1,(.t 14)),(2,1,(.t 15)),(7,1,(.t 16)),(3,1,(.c (.bool true))),(4,1,(.c (.bool true))),(5,1,(.c (.bool true))),(6,1,(.c (.bool true)))]) (tq 6 (.box 8 (.c (.agg [(.str []),(.str []),.nil,(.bool false),(.bool false),(.bool false),(.bool false),.nil]))) (.q ⟨none,none,.store 8 (.t 6) (.t 17)⟩
 .done)))))))
 (.seq (.seq (.reg (tm 7 (.c (.int .i64 0)) .done))
 (.block 0 (.loop (.seq (.seq (.reg (tm 18 (.t 7) (tq 19 (.faddr 3 (.t 3)) (tq 20 (.load 1 false (.t 19)) (tq 21 (.len (.t 20)) (tq 22 (.bin .lss (.t 18) (.t 21)) .done))))))
 (.cond (.t 22) .skip
 (.exit 0)))
 (.seq (.block 1 (.seq (.reg (tq 25 (.faddr 4 (.t 3)) (tq 26 (.load 1 false (.t 25)) (tm 27 (.t 7) (tq 28 (.iaddr 5 (.t 26) (.t 27)) (tq 29 (.load 5 true (.t 28)) (tq 8 (.box 5 (.c (.agg [(.int .i64 0),(.int .i64 0),(.str []),.nil,.nil]))) (.q ⟨none,none,.store 5 (.t 8) (.t 29)⟩
 .done))))))))
 (.seq (.reg (tm 9 (.c (.bool true)) .done))
 (.seq (.seq (.reg (tq 30 (.faddr 3 (.t 3)) (tq 31 (.load 1 false (.t 30)) (tm 32 (.t 7) (tq 33 (.iaddr 1 (.t 31) (.t 32)) (tq 34 (.load 1 false (.t 33)) .done))))))
 (.block 2 (.seq (.reg (tq 68 (.bin .eql (.t 34) (.c (.str [116,97,98,108,101]))) (tm 67 (.t 68) .done)))
 (.cond (.t 67) (.seq (.reg (tq 69 (.faddr 2 (.t 8)) (tq 70 (.load 1 false (.t 69)) (tq 71 (.faddr 1 (.t 6)) (.q ⟨none,none,.store 1 (.t 71) (.t 70)⟩
 .done)))))
 (.reg (tq 72 (.faddr 0 (.t 8)) (tq 73 (.load 1 false (.t 72)) (tq 74 (.bin .eql (.t 73) (.c (.int .i64 3))) (tm 9 (.t 74) .done))))))
 (.seq (.reg (tq 76 (.bin .eql (.t 34) (.c (.str [99,111,108,117,109,110,115]))) (tm 75 (.t 76) .done)))
 (.cond (.t 75) (.seq (.reg (tq 78 (.load 5 true (.t 8)) (tq 79 (.call 254 [(.t 78)]) (tm 77 (.t 79) (tq 80 (.extract 0 (.t 77)) (tq 81 (.extract 1 (.t 77)) (tm 10 (.t 80) (tm 11 (.t 81) .done))))))))
 (.seq (.reg (tm 82 (.t 10) (tq 83 (.faddr 2 (.t 6)) (.q ⟨none,none,.store 1 (.t 83) (.t 82)⟩
 .done))))
 (.reg (tm 84 (.t 11) (tm 9 (.t 84) .done)))))
 (.seq (.reg (tq 86 (.bin .eql (.t 34) (.c (.str [119,104,101,114,101]))) (tm 85 (.t 86) .done)))
 (.cond (.t 85) (.seq (.reg (tq 88 (.load 5 true (.t 8)) (tq 89 (.call 255 [(.t 88)]) (tm 87 (.t 89) (tq 90 (.extract 0 (.t 87)) (tq 91 (.extract 1 (.t 87)) (tm 12 (.t 90) (tm 13 (.t 91) .done))))))))
 (.seq (.reg (tm 92 (.t 12) (tq 93 (.faddr 7 (.t 6)) (.q ⟨none,none,.store 1 (.t 93) (.t 92)⟩
 .done))))
 (.reg (tm 94 (.t 13) (tm 9 (.t 94) .done)))))
 (.seq (.reg (tq 35 (.faddr 0 (.t 8)) (tq 36 (.load 1 false (.t 35)) (tq 37 (.bin .eql (.t 36) (.c (.int .i64 1))) (tm 9 (.t 37) .done)))))
 (.seq (.reg (tq 38 (.faddr 3 (.t 3)) (tq 39 (.load 1 false (.t 38)) (tm 40 (.t 7) (tq 41 (.iaddr 1 (.t 39) (.t 40)) (tq 42 (.load 1 false (.t 41)) .done))))))
 (.block 3 (.seq (.reg (tq 44 (.bin .eql (.t 42) (.c (.str [105,110,105,116,105,97,108]))) (tm 43 (.t 44) .done)))
 (.cond (.t 43) (.reg (tq 45 (.faddr 1 (.t 8)) (tq 46 (.load 1 false (.t 45)) (tq 47 (.bin .eql (.t 46) (.c (.int .i64 1))) (tq 48 (.faddr 3 (.t 6)) (.q ⟨none,none,.store 1 (.t 48) (.t 47)⟩
 .done))))))
 (.seq (.reg (tq 50 (.bin .eql (.t 42) (.c (.str [105,110,115,101,114,116]))) (tm 49 (.t 50) .done)))
 (.cond (.t 49) (.reg (tq 51 (.faddr 1 (.t 8)) (tq 52 (.load 1 false (.t 51)) (tq 53 (.bin .eql (.t 52) (.c (.int .i64 1))) (tq 54 (.faddr 4 (.t 6)) (.q ⟨none,none,.store 1 (.t 54) (.t 53)⟩
 .done))))))
 (.seq (.reg (tq 56 (.bin .eql (.t 42) (.c (.str [100,101,108,101,116,101]))) (tm 55 (.t 56) .done)))
 (.cond (.t 55) (.reg (tq 57 (.faddr 1 (.t 8)) (tq 58 (.load 1 false (.t 57)) (tq 59 (.bin .eql (.t 58) (.c (.int .i64 1))) (tq 60 (.faddr 5 (.t 6)) (.q ⟨none,none,.store 1 (.t 60) (.t 59)⟩
 .done))))))
 (.seq (.reg (tq 62 (.bin .eql (.t 42) (.c (.str [109,111,100,105,102,121]))) (tm 61 (.t 62) .done)))
 (.cond (.t 61) (.reg (tq 63 (.faddr 1 (.t 8)) (tq 64 (.load 1 false (.t 63)) (tq 65 (.bin .eql (.t 64) (.c (.int .i64 1))) (tq 66 (.faddr 6 (.t 6)) (.q ⟨none,none,.store 1 (.t 66) (.t 65)⟩
 .done))))))
 (.reg (tm 9 (.c (.bool false)) .done)))))))))))))))))))))
 (.cut (.seq (.reg (tm 95 (.t 9) (tq 96 (.not (.t 95)) .done)))
 (.cond (.t 96) (.seq (.reg (tq 97 (.build [(.str []),(.str []),.nil,(.bool false),(.bool false),(.bool false),(.bool false),.nil] []) (.q ⟨none,none,.store 8 (.t 4) (.t 97)⟩
 (tm 5 (.c (.bool false)) .done))))
 .ret)
 .skip)))))))
 (.reg (tm 23 (.t 7) (tq 24 (.bin .add (.t 23) (.c (.int .i64 1))) (tm 7 (.t 24) .done)))))))))
 (.cut (.seq (.reg (tq 98 (.load 8 true (.t 6)) (tq 99 (.faddr 0 (.t 3)) (tq 100 (.load 1 false (.t 99)) (tq 101 (.bin .eql (.t 100) (.c (.int .i64 5))) (tm 102 (.t 101) (tg 103 102 true (.faddr 1 (.t 6)) (tg 104 102 true (.load 1 false (.t 103)) (tg 105 102 true (.bin .neq (.t 104) (.c (.str []))) (tq 106 (.pick (.t 102) (.t 105) (.c (.bool false))) (tm 107 (.t 106) (tg 108 107 true (.load 8 true (.t 6)) (.l ⟨(some 109),(some (107,true)),.call 256 [(.t 108)]⟩ [⟨(some 98),none,.load 8 true (.t 6)⟩]
 (tq 110 (.pick (.t 107) (.t 109) (.c (.bool false))) (.l ⟨none,none,.store 8 (.t 4) (.t 98)⟩ []
 (tm 5 (.t 110) .done) .non)) .non)))))))))))))
 .ret)))))
theorem e7u:a1b Tryz.prog Tryz.f155 = some (e7t.erase,[.load 8 true (.t 4),.mov (.t 5)],111):=by kernel_rfl
def a2q (B:y8):List Str → Nat → Str → Bool → Bool → Bool → Bool → (List Str) → (List a0m) → Option (Fl (a0k × Bool) (Str × Bool × Bool × Bool × Bool × (List Str) × (List a0m)))
  | [],R,H,J,K,L,M,F,G =>
    some (.go (H,J,K,L,M,F,G))
  | E :: xs,R,H,J,K,L,M,F,G =>
    (idx B.Items (R:Int)).bind fun A =>
    ((if (E == [116,97,98,108,101]) then
    some ((A.Kind == 3),A.T,J,K,L,M,F,G)
    else
    if (E == [99,111,108,117,109,110,115]) then
    (a8y A).bind fun O =>
    some (O.2,H,J,K,L,M,O.1,G)
    else
    if (E == [119,104,101,114,101]) then
    (a8z A).bind fun P =>
    some (P.2,H,J,K,L,M,F,P.1)
    else
    if (E == [105,110,105,116,105,97,108]) then
    some ((A.Kind == 1),H,(A.N == 1),K,L,M,F,G)
    else
    if (E == [105,110,115,101,114,116]) then
    some ((A.Kind == 1),H,J,(A.N == 1),L,M,F,G)
    else
    if (E == [100,101,108,101,116,101]) then
    some ((A.Kind == 1),H,J,K,(A.N == 1),M,F,G)
    else
    if (E == [109,111,100,105,102,121]) then
    some ((A.Kind == 1),H,J,K,L,(A.N == 1),F,G)
    else
    some (false,H,J,K,L,M,F,G):Option (Bool × Str × Bool × Bool × Bool × Bool × (List Str) × (List a0m)))).bind fun p190 =>
    (match p190 with
    | (Ab,Ad,Ae,Af,Ag,Ah,Ai,Aj) =>
    if (!Ab) then
    some (.ret ((⟨[],[],[],false,false,false,false,[]⟩:a0k),false))
    else
    a2q B xs (R + 1) Ad Ae Af Ag Ah Ai Aj)
def a6k (D:Str) (B:y8):Option (a0k × Bool) :=
    (a2q B B.Keys 0 [] true true true true [] []).bind fun q => (match q with
    | .ret r => some r
    | .go (S,W,Y,Z,Aa,U,V) =>
    if (bif (B.Kind == 5) then (!(S == [])) else false) then
    (b0r (⟨D,S,U,W,Y,Z,Aa,V⟩:a0k)).bind fun Ac =>
    some ((⟨D,S,U,W,Y,Z,Aa,V⟩:a0k),Ac)
    else
    some ((⟨D,S,U,W,Y,Z,Aa,V⟩:a0k),false))
theorem c1s (D:Str) (B:y8) (r:(a0k × Bool)) (hf:a6k D B = some r):a0a Tryz.prog 155 .fresh [(.str D),(l9 B)] (.tup [(a4d r.1),(.bool r.2)]):=by
 refine a0a.of_awp mixed Tryz.func155 e7u nle ?_;rw [a0l];rw [o9 B];unfold a6k at hf;unfold e7t;refine (show awp Tryz.prog true 0 _ (ofL [(0,(.str D)),(1,(.agg [(.I B.Kind),(.I B.N),(.str B.T),(.lst 1 (B.Keys.map AV.str)),(.lst 5 (B.Items.map l9))]))]) [] _ from ?_);refine sr<|y7 (a1i (j:=0) (c:=(.agg [(.I B.Kind),(.I B.N),(.str B.T),(.lst 1 (B.Keys.map AV.str)),(.lst 5 (B.Items.map l9))])) rfl tr rfl rfl)<|y7 (a1i (j:=1) (c:=(.agg [(.str []),(.str []),.nil,(.bool false),(.bool false),(.bool false),(.bool false),.nil])) rfl tr rfl rfl)<|l7 (.bool false) rfl<|?_
 refine dk<|sr<|l7 (.str D) rfl<|?_;refine y7 (a1o (j:=2) (as':=[]) rfl (fun _ => by decide) tr .r rfl rfl rfl) ?_;refine y7 (a1o (j:=3) (as':=[]) rfl (fun _ => by decide) tr .r rfl rfl rfl) ?_;refine o7 (.agg [(.str D),(.str []),(.own 2 0 0),(.bool true),(.bool true),(.bool true),(.bool true),(.own 3 0 0)]) rfl ⟨⟨rfl,nle,tr⟩,⟨⟨rfl,nle,tr⟩,⟨⟨rfl,nle,tr⟩,⟨⟨rfl,nle,tr⟩,⟨⟨rfl,nle,tr⟩,⟨⟨rfl,nle,tr⟩,⟨⟨rfl,nle,tr⟩,tr⟩⟩⟩⟩⟩⟩⟩ rfl<|y7 (a1i (j:=4) (c:=(.agg [(.str []),(.str []),.nil,(.bool false),(.bool false),(.bool false),(.bool false),.nil])) rfl tr rfl rfl)<|?_
 refine a1k (a0i (v:=(.agg [(.str D),(.str []),(.own 2 0 0),(.bool true),(.bool true),(.bool true),(.bool true),(.own 3 0 0)])) (y':=(.agg [(.str D),(.str []),(.own 2 0 0),(.bool true),(.bool true),(.bool true),(.bool true),(.own 3 0 0)])) rfl rfl rfl tr ⟨rfl,nle⟩ ⟨⟨rfl,tr⟩,⟨⟨rfl,tr⟩,⟨⟨rfl,tr⟩,⟨⟨rfl,tr⟩,⟨⟨rfl,tr⟩,⟨⟨rfl,tr⟩,⟨⟨rfl,tr⟩,⟨⟨rfl,tr⟩,tr⟩⟩⟩⟩⟩⟩⟩⟩ rfl)<|dk<|o6<|sr<|l7 (.I 0) rfl<|dk<|?_
 obtain ⟨p159,hb1,hf⟩:=ob hf
 refine a1u (X:={q:(Str × Bool × Bool × Bool × Bool × (List Str) × (List a0m)) // p159 = .go q}) (fun q => ([(3,(.ptr 0 0 0)),(4,(.ptr 1 0 0)),(6,(.ptr 2 0 0))],[.box 5 (.agg [(.I B.Kind),(.I B.N),(.str B.T),(.lst 1 (B.Keys.map AV.str)),(.lst 5 (B.Items.map l9))]),.box 8 (.agg [(.str []),(.str []),.nil,(.bool false),(.bool false),(.bool false),(.bool false),.nil]),.box 8 (.agg [(.str D),(.str q.1.1),(.own 3 0 q.1.2.2.2.2.2.1.length),(.bool q.1.2.1),(.bool q.1.2.2.1),(.bool q.1.2.2.2.1),(.bool q.1.2.2.2.2.1),(.own 4 0 q.1.2.2.2.2.2.2.length)]),.row 1 (q.1.2.2.2.2.2.1.map AV.str),.row 3 (q.1.2.2.2.2.2.2.map o8)])) ?_ ?_
 ·refine a1h (X:={q:(Nat × Str × Bool × Bool × Bool × Bool × (List Str) × (List a0m)) // a2q B (B.Keys.drop q.1) q.1 q.2.1 q.2.2.1 q.2.2.2.1 q.2.2.2.2.1 q.2.2.2.2.2.1 q.2.2.2.2.2.2.1 q.2.2.2.2.2.2.2 = some p159}) (fun q => ([(3,(.ptr 0 0 0)),(4,(.ptr 1 0 0)),(6,(.ptr 2 0 0)),(7,(.I (q.1.1:Int)))],[.box 5 (.agg [(.I B.Kind),(.I B.N),(.str B.T),(.lst 1 (B.Keys.map AV.str)),(.lst 5 (B.Items.map l9))]),.box 8 (.agg [(.str []),(.str []),.nil,(.bool false),(.bool false),(.bool false),(.bool false),.nil]),.box 8 (.agg [(.str D),(.str q.1.2.1),(.own 3 0 q.1.2.2.2.2.2.2.1.length),(.bool q.1.2.2.1),(.bool q.1.2.2.2.1),(.bool q.1.2.2.2.2.1),(.bool q.1.2.2.2.2.2.1),(.own 4 0 q.1.2.2.2.2.2.2.2.length)]),.row 1 (q.1.2.2.2.2.2.2.1.map AV.str),.row 3 (q.1.2.2.2.2.2.2.2.map o8)])) (fun q => B.Keys.length - q.1.1) ⟨(0,[],true,true,true,true,[],[]),hb1⟩ ⟨[],[0,1,4,2,3],_,_,rfl,rfl,⟨.r,⟨.r,⟨.r,⟨.r,tr⟩⟩⟩⟩,(.cons .r (.cons .r (.cons (.box (.agg (.cons .r (.cons .r (.cons (.of_eq (congrArg (AV.own _ 0) (by simp))) (.cons .r (.cons .r (.cons .r (.cons .r (.cons (.of_eq (congrArg (AV.own _ 0) (by simp))) .nil)))))))))) (.cons .r (.cons .r .nil)))))⟩ ?_
  rintro ⟨⟨R,H,J,K,L,M,F,G⟩,hc1⟩
  have hc1:a2q B (B.Keys.drop R) R H J K L M F G = some p159:=hc1
  refine (show awp Tryz.prog true 0 _ (ofL [(3,(.ptr 0 0 0)),(4,(.ptr 1 0 0)),(6,(.ptr 2 0 0)),(7,(.I (R:Int)))]) [.box 5 (.agg [(.I B.Kind),(.I B.N),(.str B.T),(.lst 1 (B.Keys.map AV.str)),(.lst 5 (B.Items.map l9))]),.box 8 (.agg [(.str []),(.str []),.nil,(.bool false),(.bool false),(.bool false),(.bool false),.nil]),.box 8 (.agg [(.str D),(.str H),(.own 3 0 F.length),(.bool J),(.bool K),(.bool L),(.bool M),(.own 4 0 G.length)]),.row 1 (F.map AV.str),.row 3 (G.map o8)] _ from ?_)
  rcases a5j B.Keys R with ⟨hie162,hd165⟩ | ⟨hlt160,E,hx161,hd165⟩
  ·rw [hd165,a2q.eq_1] at hc1
   have hq164:=dlf hie162
   refine o6<|sr<|l7 (.I (R:Int)) rfl<|o7 (.ptr 0 0 3) rfl tr rfl<|o7 (.lst 1 (B.Keys.map AV.str)) rfl nle rfl<|a1a (a1t (enc:=AV.str) rfl) fun hl167 => o7 (.bool (decide ((R:Int) < (B.Keys.length:Int)))) rfl rfl rfl<|dk<|x8 rfl hq164<|a2o<|a2n<|a1s<|a2m<|?_;obtain rfl:=os hc1;exact a2s ⟨_,rfl⟩ ⟨[],[0,1,2,3,4],_,_,rfl,rfl,⟨.r,⟨.r,⟨.r,tr⟩⟩⟩,.r⟩
  ·rw [hd165,a2q.eq_2] at hc1
   have hq164:=dlt hlt160
   refine o6<|sr<|l7 (.I (R:Int)) rfl<|o7 (.ptr 0 0 3) rfl tr rfl<|o7 (.lst 1 (B.Keys.map AV.str)) rfl nle rfl<|a1a (a1t (enc:=AV.str) rfl) fun hl168 => o7 (.bool (decide ((R:Int) < (B.Keys.length:Int)))) rfl rfl rfl<|dk<|x9 rfl hq164<|a0h<|a0j<|o6<|a2y<|sr<|?_
   obtain ⟨A,ex170,hc1⟩:=ob hc1
   refine o7 (.ptr 0 0 4) rfl tr rfl<|o7 (.lst 5 (B.Items.map l9)) rfl nle rfl<|l7 (.I (R:Int)) rfl<|y7 (a3d (enc:=l9) rfl rfl (b0a ex170) (b0b ex170))<|y7 (a2l (v:=(.agg [(.I A.Kind),(.I A.N),(.str A.T),(.lst 1 (A.Keys.map AV.str)),(.lst 5 (A.Items.map l9))])) rfl (o9 _) nle rfl)<|y7 (a1i (j:=5) (c:=(.agg [(.I 0),(.I 0),(.str []),.nil,.nil])) rfl tr rfl rfl)<|a1k (a0i (v:=(.agg [(.I A.Kind),(.I A.N),(.str A.T),(.lst 1 (A.Keys.map AV.str)),(.lst 5 (A.Items.map l9))])) (y':=(.agg [(.I A.Kind),(.I A.N),(.str A.T),(.lst 1 (A.Keys.map AV.str)),(.lst 5 (A.Items.map l9))])) rfl rfl rfl tr ⟨rfl,nle⟩ ⟨⟨rfl,tr⟩,⟨⟨rfl,tr⟩,⟨⟨rfl,tr⟩,⟨⟨rfl,tr⟩,⟨⟨rfl,tr⟩,tr⟩⟩⟩⟩⟩ rfl)<|?_
   refine dk<|sr<|l7 (.bool true) rfl<|dk<|o6<|?_
   obtain ⟨p190,hb2,hc1⟩:=ob hc1
   refine a2d ([(3,(.ptr 0 0 0)),(4,(.ptr 1 0 0)),(6,(.ptr 2 0 0)),(7,(.I (R:Int))),(9,(.bool p190.1))],[.box 5 (.agg [(.I B.Kind),(.I B.N),(.str B.T),(.lst 1 (B.Keys.map AV.str)),(.lst 5 (B.Items.map l9))]),.box 8 (.agg [(.str []),(.str []),.nil,(.bool false),(.bool false),(.bool false),(.bool false),.nil]),.box 8 (.agg [(.str D),(.str p190.2.1),(.own 3 0 p190.2.2.2.2.2.2.1.length),(.bool p190.2.2.1),(.bool p190.2.2.2.1),(.bool p190.2.2.2.2.1),(.bool p190.2.2.2.2.2.1),(.own 4 0 p190.2.2.2.2.2.2.2.length)]),.row 1 (p190.2.2.2.2.2.2.1.map AV.str),.row 3 (p190.2.2.2.2.2.2.2.map o8)]) ?_ ?_
   ·refine sr<|o7 (.ptr 0 0 3) rfl tr rfl<|o7 (.lst 1 (B.Keys.map AV.str)) rfl nle rfl<|l7 (.I (R:Int)) rfl<|y7 (a1m (enc:=AV.str) rfl rfl hx161)<|o7 (.str E) rfl ⟨rfl,rfl⟩ rfl<|dk<|a2y<|sr<|o7 (.bool (E == [116,97,98,108,101])) rfl tr rfl<|l7 (.bool (E == [116,97,98,108,101])) rfl<|dk<|?_
    rcases oi hb2 with ⟨d8w,hb2⟩ | ⟨d8w,hb2⟩
    ·refine x9 rfl d8w<|sr<|o7 (.ptr 5 0 2) rfl tr rfl<|o7 (.str A.T) rfl nle rfl<|o7 (.ptr 2 0 1) rfl tr rfl<|a1k (a0i (v:=(.str A.T)) (y':=(.agg [(.str D),(.str A.T),(.own 3 0 F.length),(.bool J),(.bool K),(.bool L),(.bool M),(.own 4 0 G.length)])) rfl rfl rfl tr ⟨rfl,nle⟩ ⟨⟨rfl,tr⟩,tr⟩ rfl)<|dk<|a0t<|o7 (.ptr 5 0 0) rfl tr rfl<|o7 (.I A.Kind) rfl nle rfl<|o7 (.bool (A.Kind == 3)) rfl rfl rfl<|l7 (.bool (A.Kind == 3)) rfl<|a0e<|a1v<|?_;obtain rfl:=os hb2;exact ⟨[],[0,1,2,3,4],_,_,rfl,rfl,⟨.r,⟨.r,⟨.r,⟨.r,⟨.r,tr⟩⟩⟩⟩⟩,.r⟩
    ·refine x8 rfl (bf d8w)<|sr<|o7 (.bool (E == [99,111,108,117,109,110,115])) rfl tr rfl<|l7 (.bool (E == [99,111,108,117,109,110,115])) rfl<|dk<|?_
     rcases oi hb2 with ⟨c192,hb2⟩ | ⟨c192,hb2⟩
     ·refine x9 rfl c192<|sr<|?_
      obtain ⟨O,er194,hb2⟩:=ob hb2
      refine o7 (.agg [(.I A.Kind),(.I A.N),(.str A.T),(.lst 1 (A.Keys.map AV.str)),(.lst 5 (A.Items.map l9))]) rfl nle rfl<|y7 (a5i (v:=(.tup [(.own 6 0 O.1.length),(.bool O.2)])) (h':=[.row 1 (O.1.map AV.str)]) (c5b _ _ er194) rfl (.cons (.of_eq (o9 A).symm) .nil) (by simp only [a2r,a2z,List.length_map,List.nil_append,List.append_nil,List.cons_append];rfl))<|l7 (.tup [(.own 6 0 O.1.length),(.bool O.2)]) rfl<|o7 (.own 6 0 O.1.length) rfl nle rfl<|o7 (.bool O.2) rfl nle rfl<|l7 (.own 6 0 O.1.length) rfl<|l7 (.bool O.2) rfl<|dk<|sr<|?_
      refine l7 (.own 6 0 O.1.length) rfl<|o7 (.ptr 2 0 2) rfl tr rfl<|a1k (a0i (v:=(.own 6 0 O.1.length)) (y':=(.agg [(.str D),(.str H),(.own 6 0 O.1.length),(.bool J),(.bool K),(.bool L),(.bool M),(.own 4 0 G.length)])) rfl rfl rfl tr ⟨rfl,nle⟩ ⟨⟨rfl,tr⟩,tr⟩ rfl)<|dk<|a0t<|l7 (.bool O.2) rfl<|l7 (.bool O.2) rfl<|a0e<|a1v<|?_;obtain rfl:=os hb2;exact ⟨[],[0,1,2,6,4],_,_,rfl,rfl,⟨.r,⟨.r,⟨.r,⟨.r,⟨.r,tr⟩⟩⟩⟩⟩,.r⟩
     ·refine x8 rfl (bf c192)<|sr<|o7 (.bool (E == [119,104,101,114,101])) rfl tr rfl<|l7 (.bool (E == [119,104,101,114,101])) rfl<|dk<|?_
      rcases oi hb2 with ⟨c195,hb2⟩ | ⟨c195,hb2⟩
      ·refine x9 rfl c195<|sr<|?_
       obtain ⟨P,er197,hb2⟩:=ob hb2
       refine o7 (.agg [(.I A.Kind),(.I A.N),(.str A.T),(.lst 1 (A.Keys.map AV.str)),(.lst 5 (A.Items.map l9))]) rfl nle rfl<|y7 (a5i (v:=(.tup [(.own 6 0 P.1.length),(.bool P.2)])) (h':=[.row 3 (P.1.map o8)]) (c5d _ _ er197) rfl (.cons (.of_eq (o9 A).symm) .nil) (by simp only [a2r,a2z,List.length_map,List.nil_append,List.append_nil,List.cons_append];rfl))<|l7 (.tup [(.own 6 0 P.1.length),(.bool P.2)]) rfl<|o7 (.own 6 0 P.1.length) rfl nle rfl<|o7 (.bool P.2) rfl nle rfl<|l7 (.own 6 0 P.1.length) rfl<|l7 (.bool P.2) rfl<|dk<|sr<|?_
       refine l7 (.own 6 0 P.1.length) rfl<|o7 (.ptr 2 0 7) rfl tr rfl<|a1k (a0i (v:=(.own 6 0 P.1.length)) (y':=(.agg [(.str D),(.str H),(.own 3 0 F.length),(.bool J),(.bool K),(.bool L),(.bool M),(.own 6 0 P.1.length)])) rfl rfl rfl tr ⟨rfl,nle⟩ ⟨⟨rfl,tr⟩,tr⟩ rfl)<|dk<|a0t<|l7 (.bool P.2) rfl<|l7 (.bool P.2) rfl<|a0e<|a1v<|?_;obtain rfl:=os hb2;exact ⟨[],[0,1,2,3,6],_,_,rfl,rfl,⟨.r,⟨.r,⟨.r,⟨.r,⟨.r,tr⟩⟩⟩⟩⟩,.r⟩
      ·refine x8 rfl (bf c195)<|sr<|o7 (.ptr 5 0 0) rfl tr rfl<|o7 (.I A.Kind) rfl nle rfl<|o7 (.bool (A.Kind == 1)) rfl rfl rfl<|l7 (.bool (A.Kind == 1)) rfl<|dk<|sr<|o7 (.ptr 0 0 3) rfl tr rfl<|o7 (.lst 1 (B.Keys.map AV.str)) rfl nle rfl<|l7 (.I (R:Int)) rfl<|y7 (a1m (enc:=AV.str) rfl rfl hx161)<|o7 (.str E) rfl ⟨rfl,rfl⟩ rfl<|dk<|a2y<|sr<|o7 (.bool (E == [105,110,105,116,105,97,108])) rfl tr rfl<|l7 (.bool (E == [105,110,105,116,105,97,108])) rfl<|dk<|?_
       rcases oi hb2 with ⟨c198,hb2⟩ | ⟨c198,hb2⟩
       ·refine x9 rfl c198<|a0t<|o7 (.ptr 5 0 1) rfl tr rfl<|o7 (.I A.N) rfl nle rfl<|o7 (.bool (A.N == 1)) rfl rfl rfl<|o7 (.ptr 2 0 3) rfl tr rfl<|a1k (a0i (v:=(.bool (A.N == 1))) (y':=(.agg [(.str D),(.str H),(.own 3 0 F.length),(.bool (A.N == 1)),(.bool K),(.bool L),(.bool M),(.own 4 0 G.length)])) rfl rfl rfl tr ⟨rfl,nle⟩ ⟨⟨rfl,tr⟩,tr⟩ rfl)<|a0e<|a1v<|a1v<|?_;obtain rfl:=os hb2;exact ⟨[],[0,1,2,3,4],_,_,rfl,rfl,⟨.r,⟨.r,⟨.r,⟨.r,⟨.r,tr⟩⟩⟩⟩⟩,.r⟩
       ·refine x8 rfl (bf c198)<|sr<|o7 (.bool (E == [105,110,115,101,114,116])) rfl tr rfl<|l7 (.bool (E == [105,110,115,101,114,116])) rfl<|dk<|?_
        rcases oi hb2 with ⟨c199,hb2⟩ | ⟨c199,hb2⟩
        ·refine x9 rfl c199<|a0t<|o7 (.ptr 5 0 1) rfl tr rfl<|o7 (.I A.N) rfl nle rfl<|o7 (.bool (A.N == 1)) rfl rfl rfl<|o7 (.ptr 2 0 4) rfl tr rfl<|a1k (a0i (v:=(.bool (A.N == 1))) (y':=(.agg [(.str D),(.str H),(.own 3 0 F.length),(.bool J),(.bool (A.N == 1)),(.bool L),(.bool M),(.own 4 0 G.length)])) rfl rfl rfl tr ⟨rfl,nle⟩ ⟨⟨rfl,tr⟩,tr⟩ rfl)<|a0e<|a1v<|a1v<|?_;obtain rfl:=os hb2;exact ⟨[],[0,1,2,3,4],_,_,rfl,rfl,⟨.r,⟨.r,⟨.r,⟨.r,⟨.r,tr⟩⟩⟩⟩⟩,.r⟩
        ·refine x8 rfl (bf c199)<|sr<|o7 (.bool (E == [100,101,108,101,116,101])) rfl tr rfl<|l7 (.bool (E == [100,101,108,101,116,101])) rfl<|dk<|?_
         rcases oi hb2 with ⟨c200,hb2⟩ | ⟨c200,hb2⟩
         ·refine x9 rfl c200<|a0t<|o7 (.ptr 5 0 1) rfl tr rfl<|o7 (.I A.N) rfl nle rfl<|o7 (.bool (A.N == 1)) rfl rfl rfl<|o7 (.ptr 2 0 5) rfl tr rfl<|a1k (a0i (v:=(.bool (A.N == 1))) (y':=(.agg [(.str D),(.str H),(.own 3 0 F.length),(.bool J),(.bool K),(.bool (A.N == 1)),(.bool M),(.own 4 0 G.length)])) rfl rfl rfl tr ⟨rfl,nle⟩ ⟨⟨rfl,tr⟩,tr⟩ rfl)<|a0e<|a1v<|a1v<|?_;obtain rfl:=os hb2;exact ⟨[],[0,1,2,3,4],_,_,rfl,rfl,⟨.r,⟨.r,⟨.r,⟨.r,⟨.r,tr⟩⟩⟩⟩⟩,.r⟩
         ·refine x8 rfl (bf c200)<|sr<|o7 (.bool (E == [109,111,100,105,102,121])) rfl tr rfl<|l7 (.bool (E == [109,111,100,105,102,121])) rfl<|dk<|?_
          rcases oi hb2 with ⟨c201,hb2⟩ | ⟨c201,hb2⟩
          ·refine x9 rfl c201<|a0t<|o7 (.ptr 5 0 1) rfl tr rfl<|o7 (.I A.N) rfl nle rfl<|o7 (.bool (A.N == 1)) rfl rfl rfl<|o7 (.ptr 2 0 6) rfl tr rfl<|a1k (a0i (v:=(.bool (A.N == 1))) (y':=(.agg [(.str D),(.str H),(.own 3 0 F.length),(.bool J),(.bool K),(.bool L),(.bool (A.N == 1)),(.own 4 0 G.length)])) rfl rfl rfl tr ⟨rfl,nle⟩ ⟨⟨rfl,tr⟩,tr⟩ rfl)<|a0e<|a1v<|a1v<|?_;obtain rfl:=os hb2;exact ⟨[],[0,1,2,3,4],_,_,rfl,rfl,⟨.r,⟨.r,⟨.r,⟨.r,⟨.r,tr⟩⟩⟩⟩⟩,.r⟩
          ·refine x8 rfl (bf c201)<|a0t<|l7 (.bool false) rfl<|a0e<|a1v<|a1v<|?_;obtain rfl:=os hb2;exact ⟨[],[0,1,2,3,4],_,_,rfl,rfl,⟨.r,⟨.r,⟨.r,⟨.r,⟨.r,tr⟩⟩⟩⟩⟩,.r⟩
   ·obtain ⟨Ab,Ad,Ae,Af,Ag,Ah,Ai,Aj⟩:=p190
    refine sr<|l7 (.bool Ab) rfl<|o7 (.bool (!Ab)) rfl tr rfl<|dk<|?_
    rcases oi hc1 with ⟨c202,hc1⟩ | ⟨c202,hc1⟩
    ·refine x9 rfl c202<|sr<|o7 (.agg [(.str []),(.str []),.nil,(.bool false),(.bool false),(.bool false),(.bool false),.nil]) rfl tr rfl<|a1k (a0i (v:=(.agg [(.str []),(.str []),.nil,(.bool false),(.bool false),(.bool false),(.bool false),.nil])) (y':=(.agg [(.str []),(.str []),.nil,(.bool false),(.bool false),(.bool false),(.bool false),.nil])) rfl rfl rfl tr ⟨rfl,nle⟩ ⟨⟨rfl,tr⟩,⟨⟨rfl,tr⟩,⟨⟨rfl,tr⟩,⟨⟨rfl,tr⟩,⟨⟨rfl,tr⟩,⟨⟨rfl,tr⟩,⟨⟨rfl,tr⟩,⟨⟨rfl,tr⟩,tr⟩⟩⟩⟩⟩⟩⟩⟩ rfl)<|l7 (.bool false) rfl<|dk<|a0d<|?_;obtain rfl:=os hc1;obtain rfl:=os hf;exact a1x ⟨nle,⟨tr,tr⟩⟩ rfl (by decide) (.tup (.cons (.agg (.cons .r (.cons .r (.cons (.nil _) (.cons .r (.cons .r (.cons .r (.cons .r (.cons (.nil _) .nil))))))))) (.cons .r .nil)))
    ·refine x8 rfl (bf c202)<|a0h<|a1v<|a0j<|a0t<|l7 (.I (R:Int)) rfl<|o7 (.I (w64 ((R:Int) + 1))) rfl rfl rfl<|l7 (.I (w64 ((R:Int) + 1))) rfl<|a0e<|?_;exact a1p ⟨((R + 1),Ad,Ae,Af,Ag,Ah,Ai,Aj),hc1⟩ (mul hlt160) ⟨[],[0,1,2,3,4],_,_,rfl,rfl,⟨.r,⟨.r,⟨.r,⟨.of_eq (congrArg (AV.int _) (a1r hlt160 hl168)),tr⟩⟩⟩⟩,.r⟩
 ·rintro ⟨⟨S,W,Y,Z,Aa,U,V⟩,rfl⟩
  refine sr<|o7 (.agg [(.str D),(.str S),(.own 3 0 U.length),(.bool W),(.bool Y),(.bool Z),(.bool Aa),(.own 4 0 V.length)]) rfl nle rfl<|o7 (.ptr 0 0 0) rfl tr rfl<|o7 (.I B.Kind) rfl nle rfl<|o7 (.bool (B.Kind == 5)) rfl rfl rfl<|l7 (.bool (B.Kind == 5)) rfl<|?_;refine s_g (v:=(B.Kind == 5)) (.ptr 2 0 1) rfl (fun hv => by (try simp only [a0c hv]);exact ⟨rfl,tr,rfl⟩) ?_;refine s_g (v:=(B.Kind == 5)) (.str S) rfl (fun hv => by (try simp only [a0c hv]);exact ⟨rfl,nle,rfl⟩) ?_;refine s_g (v:=(B.Kind == 5)) (.bool (!(S == []))) rfl (fun hv => by (try simp only [a0c hv]);exact ⟨rfl,tr,rfl⟩) ?_
  refine a3a (x:=(!(S == []))) (y:=false) rfl (fun hv => by (try simp only [a0c hv]);rfl) (fun hv => by (try simp only [a0c hv]);rfl) ?_;refine l7 (.bool (bif (B.Kind == 5) then (!(S == [])) else false)) rfl ?_
  rcases oi hf with ⟨c203,hf⟩ | ⟨c203,hf⟩
  ·refine a0x (s:=107) (b:=true) rfl c203<|s_on rfl<|o7 (.agg [(.str D),(.str S),(.own 3 0 U.length),(.bool W),(.bool Y),(.bool Z),(.bool Aa),(.own 4 0 V.length)]) rfl nle rfl<|c6t rfl<|?_
   obtain ⟨Ac,er205,hf⟩:=ob hf
   refine a2e (a0p (d1q _ _ er205) rfl (.cons (.agg (.cons .r (.cons .r (.cons (.of_eq (congrArg (AV.lst _) (tko (enc:=AV.str) U))) (.cons .r (.cons .r (.cons .r (.cons .r (.cons (.of_eq (congrArg (AV.lst _) (tko (enc:=o8) V))) .nil))))))))) .nil) rfl) a2j tr<|o7 (.bool Ac) rfl tr rfl<|a1j (a0i (v:=(.agg [(.str D),(.str S),(.own 3 0 U.length),(.bool W),(.bool Y),(.bool Z),(.bool Aa),(.own 4 0 V.length)])) (y':=(.agg [(.str D),(.str S),(.own 3 0 U.length),(.bool W),(.bool Y),(.bool Z),(.bool Aa),(.own 4 0 V.length)])) rfl rfl rfl tr ⟨rfl,nle⟩ ⟨⟨rfl,tr⟩,⟨⟨rfl,tr⟩,⟨⟨rfl,tr⟩,⟨⟨rfl,tr⟩,⟨⟨rfl,tr⟩,⟨⟨rfl,tr⟩,⟨⟨rfl,tr⟩,⟨⟨rfl,tr⟩,tr⟩⟩⟩⟩⟩⟩⟩⟩ rfl) tr tr<|?_
   refine l7 (.bool Ac) rfl<|dk<|a0d<|?_;obtain rfl:=os hf;exact a1x ⟨nle,⟨tr,tr⟩⟩ rfl (by decide) (.tup (.cons (.agg (.cons .r (.cons .r (.cons (.of_eq (congrArg (AV.lst _) (tk (enc:=AV.str) U))) (.cons .r (.cons .r (.cons .r (.cons .r (.cons (.of_eq (congrArg (AV.lst _) (tk (enc:=o8) V))) .nil))))))))) (.cons .r .nil)))
  ·refine a0x (s:=107) (b:=false) rfl (bf c203)<|y5 rfl rfl<|c0d rfl rfl tr<|o7 (.bool false) rfl tr rfl<|a1j (a0i (v:=(.agg [(.str D),(.str S),(.own 3 0 U.length),(.bool W),(.bool Y),(.bool Z),(.bool Aa),(.own 4 0 V.length)])) (y':=(.agg [(.str D),(.str S),(.own 3 0 U.length),(.bool W),(.bool Y),(.bool Z),(.bool Aa),(.own 4 0 V.length)])) rfl rfl rfl tr ⟨rfl,nle⟩ ⟨⟨rfl,tr⟩,⟨⟨rfl,tr⟩,⟨⟨rfl,tr⟩,⟨⟨rfl,tr⟩,⟨⟨rfl,tr⟩,⟨⟨rfl,tr⟩,⟨⟨rfl,tr⟩,⟨⟨rfl,tr⟩,tr⟩⟩⟩⟩⟩⟩⟩⟩ rfl) tr tr<|l7 (.bool false) rfl<|dk<|?_
   refine a0d ?_;obtain rfl:=os hf;exact a1x ⟨nle,⟨tr,tr⟩⟩ rfl (by decide) (.tup (.cons (.agg (.cons .r (.cons .r (.cons (.of_eq (congrArg (AV.lst _) (tk (enc:=AV.str) U))) (.cons .r (.cons .r (.cons .r (.cons .r (.cons (.of_eq (congrArg (AV.lst _) (tk (enc:=o8) V))) .nil))))))))) (.cons .r .nil)))
def d7f:a0q :=
 (.seq (.reg (tq 1 (.box 8 (.t 0)) (tq 2 (.box 8 (.c (.agg [(.str []),(.str []),.nil,(.bool false),(.bool false),(.bool false),(.bool false),.nil]))) .done)))
 (.seq (.reg (tq 4 (.bslice 1 []) (tq 5 (.faddr 2 (.t 1)) (tq 6 (.load 1 false (.t 5)) (tq 7 (.append 1 16 (.t 4) (.t 6)) (tq 8 (.faddr 2 (.t 1)) (.q ⟨none,none,.store 1 (.t 8) (.t 7)⟩
 .done)))))))
 (.seq (.reg (tq 9 (.bslice 3 []) (tq 10 (.faddr 7 (.t 1)) (tq 11 (.load 1 false (.t 10)) (tq 12 (.append 3 48 (.t 9) (.t 11)) (tq 13 (.faddr 7 (.t 1)) (.q ⟨none,none,.store 1 (.t 13) (.t 12)⟩
 .done)))))))
 (.seq (.seq (.reg (tm 3 (.c (.int .i64 0)) .done))
 (.block 0 (.loop (.seq (.seq (.reg (tm 14 (.t 3) (tq 15 (.faddr 7 (.t 1)) (tq 16 (.load 1 false (.t 15)) (tq 17 (.len (.t 16)) (tq 18 (.bin .lss (.t 14) (.t 17)) .done))))))
 (.cond (.t 18) .skip
 (.exit 0)))
 (.seq (.block 1 (.reg (tq 21 (.faddr 7 (.t 1)) (tq 22 (.load 1 false (.t 21)) (tm 23 (.t 3) (tq 25 (.faddr 7 (.t 1)) (tq 26 (.load 1 false (.t 25)) (tm 27 (.t 3) (tq 28 (.iaddr 3 (.t 26) (.t 27)) (tq 29 (.faddr 2 (.t 28)) (tq 30 (.load 1 false (.t 29)) (.l ⟨(some 24),none,.bslice 3 []⟩ [⟨(some 30),none,.load 1 false (.t 29)⟩,⟨(some 29),none,.faddr 2 (.t 28)⟩,⟨(some 28),none,.iaddr 3 (.t 26) (.t 27)⟩,⟨(some 26),none,.load 1 false (.t 25)⟩,⟨(some 25),none,.faddr 7 (.t 1)⟩,⟨(some 22),none,.load 1 false (.t 21)⟩,⟨(some 21),none,.faddr 7 (.t 1)⟩]
 (.l ⟨(some 31),none,.append 3 32 (.t 24) (.t 30)⟩ [⟨(some 22),none,.load 1 false (.t 21)⟩,⟨(some 21),none,.faddr 7 (.t 1)⟩]
 (tq 32 (.iaddr 3 (.t 22) (.t 23)) (tq 33 (.faddr 2 (.t 32)) (.l ⟨none,none,.store 1 (.t 33) (.t 31)⟩ []
 .done .non))) .non) .non))))))))))))
 (.reg (tm 19 (.t 3) (tq 20 (.bin .add (.t 19) (.c (.int .i64 1))) (tm 3 (.t 20) .done)))))))))
 (.cut (.seq (.reg (tq 34 (.load 8 true (.t 1)) (.q ⟨none,none,.store 8 (.t 2) (.t 34)⟩
 .done)))
 .ret))))))
theorem e0y:a1b Tryz.prog Tryz.f156 = some (d7f.erase,[.load 8 true (.t 2)],35):=by kernel_rfl
def a2a :Nat → Int → (List a0m) → Option (List a0m)
  | 0,_,_ => none
  | k + 1,A,E =>
    if (decide (A < (E.length:Int))) then
    if (0:Int) ≤ A ∧ A < (E.length:Int) then
    (E[(0 + A.toNat)]?).bind fun D =>
    if ([] ++ D.Value).length ≤ 2 ^ 30 then
    if (0:Int) ≤ A ∧ A < (E.length:Int) then
    a2a k (w64 (A + 1)) (E.set (0 + A.toNat) (⟨D.Column,D.Func,[] ++ D.Value⟩:a0m))
    else none
    else none
    else none
    else
    some E
def a5w (G:Str) (H:Str) (B:(List Str)) (J:Bool) (K:Bool) (M:Bool) (N:Bool) (F:(List a0m)):Option a0k :=
    if ([] ++ B).length ≤ 2 ^ 30 then
    if ([] ++ F).length ≤ 2 ^ 30 then
    (a2a FUEL 0 ([] ++ F)).bind fun O =>
    some (⟨G,H,[] ++ B,J,K,M,N,O⟩:a0k)
    else none
    else none
theorem b5k (G:Str) (H:Str) (B:(List Str)) (J:Bool) (K:Bool) (M:Bool) (N:Bool) (F:(List a0m)) (r:a0k) (hf:a5w G H B J K M N F = some r):a0z Tryz.prog true 156 [(.agg [(.str G),(.str H),(.own 0 0 B.length),(.bool J),(.bool K),(.bool M),(.bool N),(.own 1 0 F.length)])] [.row 1 (B.map AV.str),.row 3 (F.map o8)] (.agg [(.str r.Name),(.str r.Table),(.own 2 0 r.Columns.length),(.bool r.Initial),(.bool r.Insert),(.bool r.Delete),(.bool r.Modify),(.own 3 0 r.Where.length)]) [.dead,.dead,.row 1 (r.Columns.map AV.str),.row 3 (r.Where.map o8)]:=by
 refine a0z.of_awp mixed Tryz.func156 e0y nle ?_;rw [a0l];unfold a5w at hf;unfold d7f;refine (show awp Tryz.prog true 2 _ (ofL [(0,(.agg [(.str G),(.str H),(.own 0 0 B.length),(.bool J),(.bool K),(.bool M),(.bool N),(.own 1 0 F.length)]))]) [.row 1 (B.map AV.str),.row 3 (F.map o8)] _ from ?_);refine sr<|y7 (a1i (j:=2) (c:=(.agg [(.str G),(.str H),(.own 0 0 B.length),(.bool J),(.bool K),(.bool M),(.bool N),(.own 1 0 F.length)])) rfl tr rfl rfl)<|y7 (a1i (j:=3) (c:=(.agg [(.str []),(.str []),.nil,(.bool false),(.bool false),(.bool false),(.bool false),.nil])) rfl tr rfl rfl)<|a0e<|?_
 refine a0j<|sr<|?_
 obtain ⟨g9,hf⟩:=og hf
 refine y7 (a1o (j:=4) (as':=[]) rfl (fun _ => by decide) tr .r rfl rfl rfl) ?_;refine o7 (.ptr 2 0 2) rfl tr rfl<|o7 (.own 0 0 B.length) rfl nle rfl<|?_
 refine y7 (a4k (j:=5) (L:=(([] ++ B).map AV.str)) (len:=([] ++ B).length) rfl false rfl rfl (fun _ => flo (enc:=AV.str) (fun _ => rfl) B _) (fun _ _ h => (b8y (show AV.own _ _ _ = AV.lst _ _ from h)).elim) (by decide) ((by simp [← List.map_take])) (by simp <;> omega) g9 rfl rfl) ?_
 refine o7 (.ptr 2 0 2) rfl tr rfl<|a1k (a0i (v:=(.own 5 0 (([] ++ B).length))) (y':=(.agg [(.str G),(.str H),(.own 5 0 (([] ++ B).length)),(.bool J),(.bool K),(.bool M),(.bool N),(.own 1 0 F.length)])) rfl rfl rfl tr ⟨rfl,nle⟩ ⟨⟨rfl,tr⟩,tr⟩ rfl)<|dk<|sr<|?_
 obtain ⟨g10,hf⟩:=og hf
 refine y7 (a1o (j:=6) (as':=[]) rfl (fun _ => by decide) tr .r rfl rfl rfl) ?_;refine o7 (.ptr 2 0 7) rfl tr rfl<|o7 (.own 1 0 F.length) rfl nle rfl<|?_
 refine y7 (a4k (j:=7) (L:=(([] ++ F).map o8)) (len:=([] ++ F).length) rfl true rfl rfl (fun h => Bool.noConfusion h) (fun _ _ h => (b8y (show AV.own _ _ _ = AV.lst _ _ from h)).elim) (by decide) ((by simp [← List.map_take])) (by simp <;> omega) g10 rfl rfl) ?_
 refine o7 (.ptr 2 0 7) rfl tr rfl<|a1k (a0i (v:=(.own 7 0 (([] ++ F).length))) (y':=(.agg [(.str G),(.str H),(.own 5 0 (([] ++ B).length)),(.bool J),(.bool K),(.bool M),(.bool N),(.own 7 0 (([] ++ F).length))])) rfl rfl rfl tr ⟨rfl,nle⟩ ⟨⟨rfl,tr⟩,tr⟩ rfl)<|dk<|o6<|sr<|l7 (.I 0) rfl<|dk<|?_
 obtain ⟨O,hb1,hf⟩:=ob hf
 refine a2d ([(1,(.ptr 2 0 0)),(2,(.ptr 3 0 0))],[.row 1 (B.map AV.str),.dead,.box 8 (.agg [(.str G),(.str H),(.own 4 0 (([] ++ B).length)),(.bool J),(.bool K),(.bool M),(.bool N),(.own 5 0 O.length)]),.box 8 (.agg [(.str []),(.str []),.nil,(.bool false),(.bool false),(.bool false),(.bool false),.nil]),.row 1 (([] ++ B).map AV.str),.row 3 (O.map o8)]) ?_ ?_
 ·refine a1h (X:={q:(Nat × Int × (List a0m)) // a2a q.1 q.2.1 q.2.2 = some O}) (fun q => ([(1,(.ptr 2 0 0)),(2,(.ptr 3 0 0)),(3,(.I q.1.2.1))],[.row 1 (B.map AV.str),.dead,.box 8 (.agg [(.str G),(.str H),(.own 4 0 (([] ++ B).length)),(.bool J),(.bool K),(.bool M),(.bool N),(.own 5 0 q.1.2.2.length)]),.box 8 (.agg [(.str []),(.str []),.nil,(.bool false),(.bool false),(.bool false),(.bool false),.nil]),.row 1 (([] ++ B).map AV.str),.row 3 (q.1.2.2.map o8)])) (fun q => q.1.1) ⟨(FUEL,0,[] ++ F),hb1⟩ ⟨[],[0,1,2,3,5,7],_,_,rfl,rfl,⟨.r,⟨.r,⟨.r,tr⟩⟩⟩,.r⟩ ?_
  rintro ⟨⟨k,A,E⟩,hc1⟩
  have hc1:a2a k A E = some O:=hc1
  refine (show awp Tryz.prog true 2 _ (ofL [(1,(.ptr 2 0 0)),(2,(.ptr 3 0 0)),(3,(.I A))]) [.row 1 (B.map AV.str),.dead,.box 8 (.agg [(.str G),(.str H),(.own 4 0 (([] ++ B).length)),(.bool J),(.bool K),(.bool M),(.bool N),(.own 5 0 E.length)]),.box 8 (.agg [(.str []),(.str []),.nil,(.bool false),(.bool false),(.bool false),(.bool false),.nil]),.row 1 (([] ++ B).map AV.str),.row 3 (E.map o8)] _ from ?_)
  rcases k with _ | k
  ·rw [a2a.eq_1] at hc1
   cases hc1
  ·rw [a2a.eq_2] at hc1;refine o6<|sr<|l7 (.I A) rfl<|o7 (.ptr 2 0 7) rfl tr rfl<|o7 (.own 5 0 E.length) rfl nle rfl<|a1a (a8p rfl rfl) fun hl64 => o7 (.bool (decide (A < (E.length:Int)))) rfl rfl rfl<|dk<|?_
   rcases oi hc1 with ⟨c65,hc1⟩ | ⟨c65,hc1⟩
   ·refine x9 rfl c65<|a0h<|a0j<|o6<|a2y<|a0t<|o7 (.ptr 2 0 7) rfl tr rfl<|o7 (.own 5 0 E.length) rfl nle rfl<|l7 (.I A) rfl<|o7 (.ptr 2 0 7) rfl tr rfl<|o7 (.own 5 0 E.length) rfl nle rfl<|l7 (.I A) rfl<|?_
    obtain ⟨g66,hc1⟩:=og hc1
    refine y7 (a2x rfl rfl g66.1 g66.2 rfl rfl)<|o7 (.ptr 5 (0 + A.toNat) 2) rfl tr rfl<|?_
    obtain ⟨D,ex68,hc1⟩:=ob hc1
    refine y7 (b2c (enc:=o8) (v:=(.lst 3 (D.Value.map o5))) rfl rfl ex68 nle rfl) ?_;refine a2e (a1o (j:=6) (as':=[]) rfl (fun _ => by decide) tr .r rfl rfl rfl) (.inr ⟨(d5x (enc:=o8) (v:=(.lst 3 (D.Value.map o5))) rfl rfl ex68 nle rfl),⟨⟨tr,rfl⟩,⟨(d3r rfl rfl g66.1 g66.2 rfl rfl),⟨⟨nle,rfl⟩,⟨⟨tr,rfl⟩,⟨⟨nle,rfl⟩,⟨⟨tr,rfl⟩,tr⟩⟩⟩⟩⟩⟩⟩) tr ?_
    obtain ⟨g69,hc1⟩:=og hc1
    refine a2e (a4k (j:=7) (L:=(([] ++ D.Value).map o5)) (len:=([] ++ D.Value).length) rfl false rfl rfl (fun _ => flm (fun _ => rfl) _) (fun _ _ _ => flm (fun _ => rfl) _) (by decide) ((by simp)) (by simp <;> omega) g69 rfl rfl) (.inr ⟨⟨nle,rfl⟩,⟨⟨tr,rfl⟩,tr⟩⟩) tr ?_
    obtain ⟨g70,hc1⟩:=og hc1
    refine y7 (a2x rfl rfl g70.1 g70.2 rfl rfl)<|o7 (.ptr 5 (0 + A.toNat) 2) rfl tr rfl<|?_
    refine a1j (a7n (v':=(.lst 3 (([] ++ D.Value).map o5))) (e':=(⟨D.Column,D.Func,[] ++ D.Value⟩:a0m)) rfl rfl ex68 rfl rfl (by first | (simp only [tk,tko,List.take_length];done) | rfl | simp) (by decide) (fun _ => by decide) ⟨rfl,nle⟩ .r rfl) tr tr ?_
    refine a0e<|a1v<|a0j<|a0t<|l7 (.I A) rfl<|o7 (.I (w64 (A + 1))) rfl rfl rfl<|l7 (.I (w64 (A + 1))) rfl<|a0e<|?_;exact a1p ⟨(k,w64 (A + 1),E.set (0 + A.toNat) (⟨D.Column,D.Func,[] ++ D.Value⟩:a0m)),hc1⟩ (Nat.lt_succ_self _) ⟨[],[0,1,2,3,4,5],_,_,rfl,rfl,⟨.r,⟨.r,⟨.r,tr⟩⟩⟩,(.cons .r (.cons .r (.cons (.box (.agg (.cons .r (.cons .r (.cons .r (.cons .r (.cons .r (.cons .r (.cons .r (.cons (.of_eq (congrArg (AV.own _ 0) (by simp))) .nil)))))))))) (.cons .r (.cons .r (.cons .r .nil))))))⟩
   ·refine x8 rfl (bf c65)<|a2o<|a2n<|a1s<|a2m<|?_;obtain rfl:=os hc1;exact ⟨[],[0,1,2,3,4,5],_,_,rfl,rfl,⟨.r,⟨.r,tr⟩⟩,.r⟩
 ·refine sr<|o7 (.agg [(.str G),(.str H),(.own 4 0 (([] ++ B).length)),(.bool J),(.bool K),(.bool M),(.bool N),(.own 5 0 O.length)]) rfl nle rfl<|a1k (a0i (v:=(.agg [(.str G),(.str H),(.own 4 0 (([] ++ B).length)),(.bool J),(.bool K),(.bool M),(.bool N),(.own 5 0 O.length)])) (y':=(.agg [(.str G),(.str H),(.own 4 0 (([] ++ B).length)),(.bool J),(.bool K),(.bool M),(.bool N),(.own 5 0 O.length)])) rfl rfl rfl tr ⟨rfl,nle⟩ ⟨⟨rfl,tr⟩,⟨⟨rfl,tr⟩,⟨⟨rfl,tr⟩,⟨⟨rfl,tr⟩,⟨⟨rfl,tr⟩,⟨⟨rfl,tr⟩,⟨⟨rfl,tr⟩,⟨⟨rfl,tr⟩,tr⟩⟩⟩⟩⟩⟩⟩⟩ rfl)<|dk<|?_
  refine a0d ?_;obtain rfl:=os hf;exact a4p [.kill 0] [0,1,4,5] rfl ⟨nle,tr⟩ rfl .r .r
def c66:a0q :=
 (.seq (.reg (tq 3 (.box 5 (.t 1)) (tq 4 (.box 8 (.c (.agg [(.str []),(.str []),.nil,(.bool false),(.bool false),(.bool false),(.bool false),.nil]))) (tm 5 (.c (.int .i64 0)) .done))))
 (.seq (.seq (.reg (tm 8 (.t 0) (tq 9 (.lenS (.t 8)) (tq 10 (.bin .gtr (.t 9) (.c (.int .i64 65536))) .done))))
 (.cond (.t 10) (.seq (.reg (tq 11 (.build [(.str []),(.str []),.nil,(.bool false),(.bool false),(.bool false),(.bool false),.nil] []) (.q ⟨none,none,.store 8 (.t 4) (.t 11)⟩
 (tm 5 (.c (.int .i64 2)) .done))))
 .ret)
 .skip))
 (.seq (.seq (.reg (tq 12 (.load 5 true (.t 3)) (tq 13 (.call 120 [(.t 12)]) (tq 14 (.not (.t 13)) .done))))
 (.cond (.t 14) (.seq (.reg (tq 15 (.build [(.str []),(.str []),.nil,(.bool false),(.bool false),(.bool false),(.bool false),.nil] []) (.q ⟨none,none,.store 8 (.t 4) (.t 15)⟩
 (tm 5 (.c (.int .i64 1)) .done))))
 .ret)
 .skip))
 (.seq (.reg (tm 17 (.t 0) (tq 18 (.load 5 true (.t 3)) (tq 19 (.call 155 [(.t 17),(.t 18)]) (tm 16 (.t 19) (tq 20 (.extract 0 (.t 16)) (tq 21 (.extract 1 (.t 16)) (tq 6 (.box 8 (.c (.agg [(.str []),(.str []),.nil,(.bool false),(.bool false),(.bool false),(.bool false),.nil]))) (.q ⟨none,none,.store 8 (.t 6) (.t 20)⟩
 (tm 7 (.t 21) .done))))))))))
 (.seq (.seq (.reg (tm 22 (.t 7) (tq 23 (.not (.t 22)) .done)))
 (.cond (.t 23) (.seq (.reg (tq 24 (.build [(.str []),(.str []),.nil,(.bool false),(.bool false),(.bool false),(.bool false),.nil] []) (.q ⟨none,none,.store 8 (.t 4) (.t 24)⟩
 (tm 5 (.c (.int .i64 3)) .done))))
 .ret)
 .skip))
 (.seq (.reg (tq 25 (.load 8 true (.t 6)) (tq 26 (.call 156 [(.t 25)]) (.q ⟨none,none,.store 8 (.t 4) (.t 26)⟩
 (tm 5 (.c (.int .i64 0)) .done)))))
 .ret))))))
theorem f1w:a1b Tryz.prog Tryz.f66 = some (c66.erase,[.load 8 true (.t 4),.mov (.t 5)],27):=by kernel_rfl
def a8a (E:Str) (D:y8):Option (a0k × Int) :=
    if (decide ((E.length:Int) > 65536)) then
    some ((⟨[],[],[],false,false,false,false,[]⟩:a0k),2)
    else
    (b2u D).bind fun F =>
    if (!F) then
    some ((⟨[],[],[],false,false,false,false,[]⟩:a0k),1)
    else
    (a6k E D).bind fun A =>
    if (!A.2) then
    some ((⟨[],[],[],false,false,false,false,[]⟩:a0k),3)
    else
    (a5w A.1.Name A.1.Table A.1.Columns A.1.Initial A.1.Insert A.1.Delete A.1.Modify A.1.Where).bind fun B =>
    some (B,0)
theorem c0f (E:Str) (D:y8) (r:(a0k × Int)) (hf:a8a E D = some r):a0a Tryz.prog 66 .fresh [(.str E),(l9 D)] (.tup [(a4d r.1),(.I r.2)]):=by
 refine a0a.of_awp mixed Tryz.func66 f1w nle ?_;rw [a0l];rw [o9 D];unfold a8a at hf;unfold c66;refine (show awp Tryz.prog true 0 _ (ofL [(0,(.str E)),(1,(.agg [(.I D.Kind),(.I D.N),(.str D.T),(.lst 1 (D.Keys.map AV.str)),(.lst 5 (D.Items.map l9))]))]) [] _ from ?_);refine sr<|y7 (a1i (j:=0) (c:=(.agg [(.I D.Kind),(.I D.N),(.str D.T),(.lst 1 (D.Keys.map AV.str)),(.lst 5 (D.Items.map l9))])) rfl tr rfl rfl)<|y7 (a1i (j:=1) (c:=(.agg [(.str []),(.str []),.nil,(.bool false),(.bool false),(.bool false),(.bool false),.nil])) rfl tr rfl rfl)<|l7 (.I 0) rfl<|?_
 refine dk<|o6<|sr<|l7 (.str E) rfl<|a1a (a9m rfl) fun hl3 => o7 (.bool (decide ((E.length:Int) > 65536))) rfl rfl rfl<|dk<|?_
 rcases oi hf with ⟨c4,hf⟩ | ⟨c4,hf⟩
 ·refine x9 rfl c4<|sr<|o7 (.agg [(.str []),(.str []),.nil,(.bool false),(.bool false),(.bool false),(.bool false),.nil]) rfl tr rfl<|a1k (a0i (v:=(.agg [(.str []),(.str []),.nil,(.bool false),(.bool false),(.bool false),(.bool false),.nil])) (y':=(.agg [(.str []),(.str []),.nil,(.bool false),(.bool false),(.bool false),(.bool false),.nil])) rfl rfl rfl tr ⟨rfl,nle⟩ ⟨⟨rfl,tr⟩,⟨⟨rfl,tr⟩,⟨⟨rfl,tr⟩,⟨⟨rfl,tr⟩,⟨⟨rfl,tr⟩,⟨⟨rfl,tr⟩,⟨⟨rfl,tr⟩,⟨⟨rfl,tr⟩,tr⟩⟩⟩⟩⟩⟩⟩⟩ rfl)<|l7 (.I 2) rfl<|dk<|a0d<|?_;obtain rfl:=os hf;exact a1x ⟨nle,⟨tr,tr⟩⟩ rfl (by decide) (.tup (.cons (.agg (.cons .r (.cons .r (.cons (.nil _) (.cons .r (.cons .r (.cons .r (.cons .r (.cons (.nil _) .nil))))))))) (.cons .r .nil)))
 ·refine x8 rfl (bf c4)<|a0h<|a0j<|o6<|sr<|?_
  obtain ⟨F,er6,hf⟩:=ob hf
  refine o7 (.agg [(.I D.Kind),(.I D.N),(.str D.T),(.lst 1 (D.Keys.map AV.str)),(.lst 5 (D.Items.map l9))]) rfl nle rfl<|y7 (a0p (c8o _ _ er6) rfl (.cons (.of_eq (o9 D).symm) .nil) rfl)<|o7 (.bool (!F)) rfl tr rfl<|dk<|?_
  rcases oi hf with ⟨c7,hf⟩ | ⟨c7,hf⟩
  ·refine x9 rfl c7<|sr<|o7 (.agg [(.str []),(.str []),.nil,(.bool false),(.bool false),(.bool false),(.bool false),.nil]) rfl tr rfl<|a1k (a0i (v:=(.agg [(.str []),(.str []),.nil,(.bool false),(.bool false),(.bool false),(.bool false),.nil])) (y':=(.agg [(.str []),(.str []),.nil,(.bool false),(.bool false),(.bool false),(.bool false),.nil])) rfl rfl rfl tr ⟨rfl,nle⟩ ⟨⟨rfl,tr⟩,⟨⟨rfl,tr⟩,⟨⟨rfl,tr⟩,⟨⟨rfl,tr⟩,⟨⟨rfl,tr⟩,⟨⟨rfl,tr⟩,⟨⟨rfl,tr⟩,⟨⟨rfl,tr⟩,tr⟩⟩⟩⟩⟩⟩⟩⟩ rfl)<|l7 (.I 1) rfl<|dk<|a0d<|?_;obtain rfl:=os hf;exact a1x ⟨nle,⟨tr,tr⟩⟩ rfl (by decide) (.tup (.cons (.agg (.cons .r (.cons .r (.cons (.nil _) (.cons .r (.cons .r (.cons .r (.cons .r (.cons (.nil _) .nil))))))))) (.cons .r .nil)))
  ·refine x8 rfl (bf c7)<|a0h<|a0j<|sr<|?_
   obtain ⟨A,er9,hf⟩:=ob hf
   refine l7 (.str E) rfl<|o7 (.agg [(.I D.Kind),(.I D.N),(.str D.T),(.lst 1 (D.Keys.map AV.str)),(.lst 5 (D.Items.map l9))]) rfl nle rfl<|y7 (a5i (v:=(.tup [(.agg [(.str A.1.Name),(.str A.1.Table),(.own 2 0 A.1.Columns.length),(.bool A.1.Initial),(.bool A.1.Insert),(.bool A.1.Delete),(.bool A.1.Modify),(.own 3 0 A.1.Where.length)]),(.bool A.2)])) (h':=[.row 1 (A.1.Columns.map AV.str),.row 3 (A.1.Where.map o8)]) (c1s _ _ _ er9) rfl (.cons .r (.cons (.of_eq (o9 D).symm) .nil)) (by simp only [a2r,a2z,List.length_map,a9n,List.nil_append,List.append_nil,List.cons_append];rfl))<|?_
   refine l7 (.tup [(.agg [(.str A.1.Name),(.str A.1.Table),(.own 2 0 A.1.Columns.length),(.bool A.1.Initial),(.bool A.1.Insert),(.bool A.1.Delete),(.bool A.1.Modify),(.own 3 0 A.1.Where.length)]),(.bool A.2)]) rfl<|o7 (.agg [(.str A.1.Name),(.str A.1.Table),(.own 2 0 A.1.Columns.length),(.bool A.1.Initial),(.bool A.1.Insert),(.bool A.1.Delete),(.bool A.1.Modify),(.own 3 0 A.1.Where.length)]) rfl nle rfl<|o7 (.bool A.2) rfl nle rfl<|y7 (a1i (j:=4) (c:=(.agg [(.str []),(.str []),.nil,(.bool false),(.bool false),(.bool false),(.bool false),.nil])) rfl tr rfl rfl)<|a1k (a0i (v:=(.agg [(.str A.1.Name),(.str A.1.Table),(.own 2 0 A.1.Columns.length),(.bool A.1.Initial),(.bool A.1.Insert),(.bool A.1.Delete),(.bool A.1.Modify),(.own 3 0 A.1.Where.length)])) (y':=(.agg [(.str A.1.Name),(.str A.1.Table),(.own 2 0 A.1.Columns.length),(.bool A.1.Initial),(.bool A.1.Insert),(.bool A.1.Delete),(.bool A.1.Modify),(.own 3 0 A.1.Where.length)])) rfl rfl rfl tr ⟨rfl,nle⟩ ⟨⟨rfl,tr⟩,⟨⟨rfl,tr⟩,⟨⟨rfl,tr⟩,⟨⟨rfl,tr⟩,⟨⟨rfl,tr⟩,⟨⟨rfl,tr⟩,⟨⟨rfl,tr⟩,⟨⟨rfl,tr⟩,tr⟩⟩⟩⟩⟩⟩⟩⟩ rfl)<|?_
   refine l7 (.bool A.2) rfl<|dk<|o6<|sr<|l7 (.bool A.2) rfl<|o7 (.bool (!A.2)) rfl tr rfl<|dk<|?_
   rcases oi hf with ⟨c10,hf⟩ | ⟨c10,hf⟩
   ·refine x9 rfl c10<|sr<|o7 (.agg [(.str []),(.str []),.nil,(.bool false),(.bool false),(.bool false),(.bool false),.nil]) rfl tr rfl<|a1k (a0i (v:=(.agg [(.str []),(.str []),.nil,(.bool false),(.bool false),(.bool false),(.bool false),.nil])) (y':=(.agg [(.str []),(.str []),.nil,(.bool false),(.bool false),(.bool false),(.bool false),.nil])) rfl rfl rfl tr ⟨rfl,nle⟩ ⟨⟨rfl,tr⟩,⟨⟨rfl,tr⟩,⟨⟨rfl,tr⟩,⟨⟨rfl,tr⟩,⟨⟨rfl,tr⟩,⟨⟨rfl,tr⟩,⟨⟨rfl,tr⟩,⟨⟨rfl,tr⟩,tr⟩⟩⟩⟩⟩⟩⟩⟩ rfl)<|l7 (.I 3) rfl<|dk<|a0d<|?_;obtain rfl:=os hf;exact a1x ⟨nle,⟨tr,tr⟩⟩ rfl (by decide) (.tup (.cons (.agg (.cons .r (.cons .r (.cons (.nil _) (.cons .r (.cons .r (.cons .r (.cons .r (.cons (.nil _) .nil))))))))) (.cons .r .nil)))
   ·refine x8 rfl (bf c10)<|a0h<|a0j<|sr<|?_
    obtain ⟨B,er12,hf⟩:=ob hf
    refine o7 (.agg [(.str A.1.Name),(.str A.1.Table),(.own 2 0 A.1.Columns.length),(.bool A.1.Initial),(.bool A.1.Insert),(.bool A.1.Delete),(.bool A.1.Modify),(.own 3 0 A.1.Where.length)]) rfl nle rfl ?_;refine y7 (b3q (v:=(.agg [(.str B.Name),(.str B.Table),(.own 5 0 B.Columns.length),(.bool B.Initial),(.bool B.Insert),(.bool B.Delete),(.bool B.Modify),(.own 6 0 B.Where.length)])) (h2:=[.box 5 (.agg [(.I D.Kind),(.I D.N),(.str D.T),(.lst 1 (D.Keys.map AV.str)),(.lst 5 (D.Items.map l9))]),.box 8 (.agg [(.str []),(.str []),.nil,(.bool false),(.bool false),(.bool false),(.bool false),.nil]),.dead,.dead,.box 8 (.agg [(.str A.1.Name),(.str A.1.Table),(.own 2 0 A.1.Columns.length),(.bool A.1.Initial),(.bool A.1.Insert),(.bool A.1.Delete),(.bool A.1.Modify),(.own 3 0 A.1.Where.length)]),.row 1 (B.Columns.map AV.str),.row 3 (B.Where.map o8)]) [] [2,3] (fun _ => rfl) (b5k _ _ _ _ _ _ _ _ _ er12) rfl .r .r rfl rfl) ?_
    refine a1k (a0i (v:=(.agg [(.str B.Name),(.str B.Table),(.own 5 0 B.Columns.length),(.bool B.Initial),(.bool B.Insert),(.bool B.Delete),(.bool B.Modify),(.own 6 0 B.Where.length)])) (y':=(.agg [(.str B.Name),(.str B.Table),(.own 5 0 B.Columns.length),(.bool B.Initial),(.bool B.Insert),(.bool B.Delete),(.bool B.Modify),(.own 6 0 B.Where.length)])) rfl rfl rfl tr ⟨rfl,nle⟩ ⟨⟨rfl,tr⟩,⟨⟨rfl,tr⟩,⟨⟨rfl,tr⟩,⟨⟨rfl,tr⟩,⟨⟨rfl,tr⟩,⟨⟨rfl,tr⟩,⟨⟨rfl,tr⟩,⟨⟨rfl,tr⟩,tr⟩⟩⟩⟩⟩⟩⟩⟩ rfl)<|l7 (.I 0) rfl<|dk<|a0d<|?_;obtain rfl:=os hf;exact a1x ⟨nle,⟨tr,tr⟩⟩ rfl (by decide) (.tup (.cons (.agg (.cons .r (.cons .r (.cons (.of_eq (congrArg (AV.lst _) (tk (enc:=AV.str) B.Columns))) (.cons .r (.cons .r (.cons .r (.cons .r (.cons (.of_eq (congrArg (AV.lst _) (tk (enc:=o8) B.Where))) .nil))))))))) (.cons .r .nil)))
def c139:a0q :=
 (.seq (.reg (tm 2 (.c (.bool false)) .done))
 (.seq (.reg (tm 3 (.t 0) (tq 4 (.lenS (.t 3)) (tq 5 (.bin .leq (.t 4) (.c (.int .i64 65536))) (tm 2 (.t 5) .done)))))
 .ret))
theorem e7v:a1b Tryz.prog Tryz.f139 = some (c139.erase,[.mov (.t 2)],6):=by kernel_rfl
def b4s (A:Str):Option Bool :=
    some (decide ((A.length:Int) ≤ 65536))
theorem c8r (A:Str) (r:Bool) (hf:b4s A = some r):a0a Tryz.prog 139 .flat [(.str A)] (.bool r):=by
  refine a0a.of_awp mixed Tryz.func139 e7v nle ?_
  rw [a0l]
  unfold b4s at hf
  unfold c139
  refine (show awp Tryz.prog false 0 _ (ofL [(0,(.str A))]) [] _ from ?_)
  refine o6 ?_
  refine a0t ?_
  refine y7 (a4c (.bool false) rfl) ?_
  refine a0e ?_
  refine a0j ?_
  refine o6 ?_
  refine a0t ?_
  refine y7 (a4c (.str A) rfl) ?_
  refine a1a (a9m rfl) fun hl2 => ?_
  refine y7 (o_q (.bool (decide ((A.length:Int) ≤ 65536))) rfl rfl rfl) ?_
  refine y7 (a4c (.bool (decide ((A.length:Int) ≤ 65536))) rfl) ?_
  refine a0e ?_
  refine a0j ?_
  refine a0d ?_
  obtain rfl:=os hf
  exact a0f ⟨tr,tr⟩ rfl .r
def c81:a0q :=
 (.seq (.reg (tm 6 (.c (.bool false)) .done))
 (.seq (.reg (tm 7 (.t 0) (tm 8 (.t 1) (tq 9 (.bin .geq (.t 7) (.t 8)) (tm 10 (.t 9) (tg 11 10 true (.mov (.t 0)) (tg 12 10 true (.mov (.t 2)) (tg 13 10 true (.bin .leq (.t 11) (.t 12)) (tq 14 (.pick (.t 10) (.t 13) (.c (.bool false))) (tm 6 (.t 14) .done))))))))))
 .ret))
theorem f1x:a1b Tryz.prog Tryz.f81 = some (c81.erase,[.mov (.t 6)],15):=by kernel_rfl
def a6v (D:Int) (A:Int) (B:Int):Option Bool :=
    if (decide (D ≥ A)) then
    some (decide (D ≤ B))
    else
    some false
theorem a7r (D:Int) (A:Int) (B:Int) (r:Bool) (hf:a6v D A B = some r):a0a Tryz.prog 81 .flat [(.I D),(.I A),(.I B)] (.bool r):=by
 refine a0a.of_awp mixed Tryz.func81 f1x nle ?_;rw [a0l];unfold a6v at hf;unfold c81;refine (show awp Tryz.prog false 0 _ (ofL [(0,(.I D)),(1,(.I A)),(2,(.I B))]) [] _ from ?_);refine sr<|l7 (.bool false) rfl<|dk<|sr<|?_
 rcases oi hf with ⟨c4,hf⟩ | ⟨c4,hf⟩
 ·refine l7 (.I D) rfl<|l7 (.I A) rfl<|o7 (.bool (decide (D ≥ A))) rfl rfl rfl<|l7 (.bool (decide (D ≥ A))) rfl<|a0x (s:=10) (b:=true) rfl c4<|s_on rfl<|l7 (.I D) rfl<|s_on rfl<|l7 (.I B) rfl<|s_on rfl<|o7 (.bool (decide (D ≤ B))) rfl rfl rfl<|o7 (.bool (decide (D ≤ B))) rfl tr rfl<|l7 (.bool (decide (D ≤ B))) rfl<|dk<|a0d<|?_;obtain rfl:=os hf;exact a0f ⟨tr,tr⟩ rfl .r
 ·refine l7 (.I D) rfl<|l7 (.I A) rfl<|o7 (.bool (decide (D ≥ A))) rfl rfl rfl<|l7 (.bool (decide (D ≥ A))) rfl<|a0x (s:=10) (b:=false) rfl (bf c4)<|y5 rfl rfl<|y5 rfl rfl<|y5 rfl rfl<|o7 (.bool false) rfl tr rfl<|l7 (.bool false) rfl<|dk<|a0d<|?_;obtain rfl:=os hf;exact a0f ⟨tr,tr⟩ rfl .r
def c233:a0q :=
 (.seq (.reg (tm 2 (.c (.bool false)) .done))
 (.seq (.reg (tm 3 (.t 0) (tq 4 (.call 81 [(.t 3),(.c (.int .i64 (-1000000000))),(.c (.int .i64 1000000000))]) (tm 2 (.t 4) .done))))
 .ret))
theorem e7w:a1b Tryz.prog Tryz.f233 = some (c233.erase,[.mov (.t 2)],5):=by kernel_rfl
def a9a (A:Int):Option Bool :=
    (a6v A (-1000000000) 1000000000).bind fun B =>
    some B
theorem b3g (A:Int) (r:Bool) (hf:a9a A = some r):a0a Tryz.prog 233 .flat [(.I A)] (.bool r):=by
  refine a0a.of_awp mixed Tryz.func233 e7w nle ?_
  rw [a0l]
  unfold a9a at hf
  unfold c233
  refine (show awp Tryz.prog false 0 _ (ofL [(0,(.I A))]) [] _ from ?_)
  refine o6 ?_
  refine a0t ?_
  refine y7 (a4c (.bool false) rfl) ?_
  refine a0e ?_
  refine a0j ?_
  refine o6 ?_
  refine a0t ?_
  obtain ⟨B,er3,hf⟩:=ob hf
  refine y7 (a4c (.I A) rfl) ?_
  refine y7 (a0p (a7r _ _ _ _ er3) rfl .r rfl) ?_
  refine y7 (a4c (.bool B) rfl) ?_
  refine a0e ?_
  refine a0j ?_
  refine a0d ?_
  obtain rfl:=os hf
  exact a0f ⟨tr,tr⟩ rfl .r
def c234:a0q :=
 (.seq (.reg (tm 2 (.c (.bool false)) .done))
 (.seq (.seq (.reg (tm 4 (.t 0) (tq 5 (.lenS (.t 4)) (tm 6 (.c (.int .i64 0)) .done))))
 (.block 0 (.loop (.seq (.reg (tq 7 (.bin .lss (.t 6) (.t 5)) .done))
 (.seq (.cond (.t 7) .skip
 (.exit 0))
 (.seq (.block 1 (.seq (.reg (tm 8 (.t 6) (tm 3 (.t 8) .done)))
 (.seq (.reg (tm 9 (.t 0) (tm 10 (.t 3) (tq 11 (.idxs (.t 9) (.t 10)) (tq 12 (.bin .lss (.t 11) (.c (.int .u8 32))) (tm 13 (.t 12) (tg 14 13 false (.mov (.t 0)) (tg 15 13 false (.mov (.t 3)) (tg 16 13 false (.idxs (.t 14) (.t 15)) (tg 17 13 false (.bin .gtr (.t 16) (.c (.int .u8 126))) (tq 18 (.pick (.t 13) (.c (.bool true)) (.t 17)) .done)))))))))))
 (.cut (.cond (.t 18) (.seq (.reg (tm 2 (.c (.bool false)) .done))
 .ret)
 .skip)))))
 (.reg (tq 19 (.bin .add (.t 6) (.c (.int .i64 1))) (tm 6 (.t 19) .done)))))))))
 (.cut (.seq (.reg (tm 20 (.t 0) (tq 21 (.lenS (.t 20)) (tq 22 (.bin .leq (.t 21) (.c (.int .i64 200))) (tm 2 (.t 22) .done)))))
 .ret))))
theorem e7x:a1b Tryz.prog Tryz.f234 = some (c234.erase,[.mov (.t 2)],23):=by kernel_rfl
def a5a :List UInt8 → Option (Fl Bool Unit)
  | [] =>
    some (.go ())
  | D :: xs =>
    ((if (decide ((D.toNat:Int) < 32)) then
    some true
    else
    some (decide ((D.toNat:Int) > 126)):Option Bool)).bind fun E =>
    if E then
    some (.ret false)
    else
    a5a xs 
def a8l (A:Str):Option Bool :=
    (a5a A ).bind fun q => (match q with
    | .ret r => some r
    | .go _ =>
    some (decide ((A.length:Int) ≤ 200)))
theorem b4i (A:Str) (r:Bool) (hf:a8l A = some r):a0a Tryz.prog 234 .flat [(.str A)] (.bool r):=by
 refine a0a.of_awp mixed Tryz.func234 e7x nle ?_;rw [a0l];unfold a8l at hf;unfold c234;refine (show awp Tryz.prog false 0 _ (ofL [(0,(.str A))]) [] _ from ?_);refine sr<|l7 (.bool false) rfl<|dk<|o6<|sr<|l7 (.str A) rfl<|a1a (a9m rfl) fun hl2 => l7 (.I 0) rfl<|dk<|?_
 obtain ⟨p47,hb1,hf⟩:=ob hf
 refine a1u (X:={q:Unit // p47 = .go q}) (fun q => ([(0,(.str A))],[])) ?_ ?_
 ·refine a1h (X:={q:Nat // a5a (A.drop q)  = some p47}) (fun q => ([(0,(.str A)),(5,(.I (A.length:Int))),(6,(.I (q.1:Int)))],[])) (fun q => A.length - q.1) ⟨0,hb1⟩ ⟨[],[],_,_,rfl,rfl,⟨.r,⟨.r,⟨.r,tr⟩⟩⟩,.r⟩ ?_
  rintro ⟨B,hc1⟩
  have hc1:a5a (A.drop B)  = some p47:=hc1
  refine (show awp Tryz.prog false 0 _ (ofL [(0,(.str A)),(5,(.I (A.length:Int))),(6,(.I (B:Int)))]) [] _ from ?_)
  rcases a5j A B with ⟨hie50,hd53⟩ | ⟨hlt48,D,hx49,hd53⟩
  ·rw [hd53,a5a.eq_1] at hc1
   have hq52:=dlf hie50
   refine sr<|o7 (.bool (decide ((B:Int) < (A.length:Int)))) rfl rfl rfl<|dk<|o6<|x8 rfl hq52<|a2o<|a2n<|a1s<|a2m<|?_;obtain rfl:=os hc1;exact a2s ⟨_,rfl⟩ ⟨[],[],_,_,rfl,rfl,⟨.r,tr⟩,.r⟩
  ·rw [hd53,a5a.eq_2] at hc1
   have hq52:=dlt hlt48
   refine sr<|o7 (.bool (decide ((B:Int) < (A.length:Int)))) rfl rfl rfl<|dk<|o6<|x9 rfl hq52<|a0h<|a0j<|o6<|a2y<|sr<|l7 (.I (B:Int)) rfl<|l7 (.I (B:Int)) rfl<|dk<|o6<|?_
   obtain ⟨E,hb2,hc1⟩:=ob hc1
   refine a2d ([(0,(.str A)),(5,(.I (A.length:Int))),(6,(.I (B:Int))),(18,(.bool E))],[]) ?_ ?_
   ·refine a0t ?_
    rcases oi hb2 with ⟨c58,hb2⟩ | ⟨c58,hb2⟩
    ·refine l7 (.str A) rfl<|l7 (.I (B:Int)) rfl<|y7 (b2j rfl rfl hx49)<|o7 (.bool (decide ((D.toNat:Int) < 32))) rfl rfl rfl<|l7 (.bool (decide ((D.toNat:Int) < 32))) rfl<|a0x (s:=13) (b:=true) rfl c58<|y5 rfl rfl<|y5 rfl rfl<|y5 rfl rfl<|y5 rfl rfl<|o7 (.bool true) rfl tr rfl<|a0e<|?_;obtain rfl:=os hb2;exact ⟨[],[],_,_,rfl,rfl,⟨.r,⟨.r,⟨.r,⟨.r,tr⟩⟩⟩⟩,.r⟩
    ·refine l7 (.str A) rfl<|l7 (.I (B:Int)) rfl<|y7 (b2j rfl rfl hx49)<|o7 (.bool (decide ((D.toNat:Int) < 32))) rfl rfl rfl<|l7 (.bool (decide ((D.toNat:Int) < 32))) rfl<|a0x (s:=13) (b:=false) rfl (bf c58)<|s_on rfl<|l7 (.str A) rfl<|s_on rfl<|l7 (.I (B:Int)) rfl<|s_on rfl<|y7 (b2j rfl rfl hx49)<|s_on rfl<|o7 (.bool (decide ((D.toNat:Int) > 126))) rfl rfl rfl<|o7 (.bool (decide ((D.toNat:Int) > 126))) rfl tr rfl<|a0e<|?_;obtain rfl:=os hb2;exact ⟨[],[],_,_,rfl,rfl,⟨.r,⟨.r,⟨.r,⟨.r,tr⟩⟩⟩⟩,.r⟩
   ·rcases oi hc1 with ⟨c59,hc1⟩ | ⟨c59,hc1⟩
    ·refine x9 rfl c59<|sr<|l7 (.bool false) rfl<|dk<|a0d<|?_;obtain rfl:=os hc1;obtain rfl:=os hf;exact a0f ⟨tr,tr⟩ rfl .r
    ·refine x8 rfl (bf c59)<|a0h<|a1v<|a0j<|a0t<|o7 (.I (w64 ((B:Int) + 1))) rfl rfl rfl<|l7 (.I (w64 ((B:Int) + 1))) rfl<|a0e<|?_;exact a1p ⟨(B + 1),hc1⟩ (mul hlt48) ⟨[],[],_,_,rfl,rfl,⟨.r,⟨.r,⟨.of_eq (congrArg (AV.int _) (a1r hlt48 hl2)),tr⟩⟩⟩,.r⟩
 ·rintro ⟨_,rfl⟩
  refine sr<|l7 (.str A) rfl<|a1a (a9m rfl) fun hl60 => o7 (.bool (decide ((A.length:Int) ≤ 200))) rfl rfl rfl<|l7 (.bool (decide ((A.length:Int) ≤ 200))) rfl<|dk<|a0d<|?_;obtain rfl:=os hf;exact a0f ⟨tr,tr⟩ rfl .r
def e7y:a0q :=
 (.seq (.reg (tm 2 (.c (.bool false)) .done))
 (.seq (.seq (.reg (tm 5 (.t 0) (tq 6 (.len (.t 5)) (tm 7 (.c (.int .i64 0)) .done))))
 (.block 0 (.loop (.seq (.reg (tq 8 (.bin .lss (.t 7) (.t 6)) .done))
 (.seq (.cond (.t 8) .skip
 (.exit 0))
 (.seq (.block 1 (.seq (.reg (tm 9 (.t 7) (tq 10 (.iaddr 1 (.t 5) (.t 7)) (tq 11 (.load 1 false (.t 10)) (tm 3 (.t 9) (tm 4 (.t 11) .done))))))
 (.seq (.reg (tm 12 (.t 4) (tq 13 (.call 234 [(.t 12)]) (tq 14 (.not (.t 13)) (tm 15 (.t 14) (tg 16 15 false (.mov (.t 3)) (tg 17 15 false (.bin .gtr (.t 16) (.c (.int .i64 0))) (tg 18 15 false (.mov (.t 17)) (tg 19 18 true (.mov (.t 0)) (tg 20 18 true (.mov (.t 3)) (tg 21 18 true (.bin .sub (.t 20) (.c (.int .i64 1))) (tg 22 18 true (.iaddr 1 (.t 19) (.t 21)) (tg 23 18 true (.load 1 false (.t 22)) (tg 24 18 true (.mov (.t 4)) (tg 25 18 true (.bin .geq (.t 23) (.t 24)) (tg 26 15 false (.pick (.t 18) (.t 25) (.c (.bool false))) (tq 27 (.pick (.t 15) (.c (.bool true)) (.t 26)) .done)))))))))))))))))
 (.cut (.cond (.t 27) (.seq (.reg (tm 2 (.c (.bool false)) .done))
 .ret)
 .skip)))))
 (.reg (tq 28 (.bin .add (.t 7) (.c (.int .i64 1))) (tm 7 (.t 28) .done)))))))))
 (.cut (.seq (.reg (tm 2 (.c (.bool true)) .done))
 .ret))))
theorem e7z:a1b Tryz.prog Tryz.f349 = some (e7y.erase,[.mov (.t 2)],29):=by kernel_rfl
def a4i (A:(List Str)):List Str → Nat → Option (Fl Bool Unit)
  | [],B =>
    some (.go ())
  | D :: xs,B =>
    (((a8l D).bind fun G =>
    if (!G) then
    some true
    else
    if (decide ((B:Int) > 0)) then
    (idx A (w64 ((B:Int) - 1))).bind fun E =>
    some (!Op.bytesLess E D)
    else
    some false:Option Bool)).bind fun F =>
    if F then
    some (.ret false)
    else
    a4i A xs (B + 1)
def b1o (A:(List Str)):Option Bool :=
    (a4i A A 0).bind fun q => (match q with
    | .ret r => some r
    | .go _ =>
    some true)
theorem c7e (A:(List Str)) (r:Bool) (hf:b1o A = some r):a0a Tryz.prog 349 .flat [(.lst 1 (A.map AV.str))] (.bool r):=by
 refine a0a.of_awp mixed Tryz.func349 e7z nle ?_;rw [a0l];unfold b1o at hf;unfold e7y;refine (show awp Tryz.prog false 0 _ (ofL [(0,(.lst 1 (A.map AV.str)))]) [] _ from ?_);refine sr<|l7 (.bool false) rfl<|dk<|o6<|sr<|l7 (.lst 1 (A.map AV.str)) rfl<|a1a (a1t (enc:=AV.str) rfl) fun hl2 => l7 (.I 0) rfl<|dk<|?_
 obtain ⟨p53,hb1,hf⟩:=ob hf
 refine a1u (X:={q:Unit // p53 = .go q}) (fun q => ([],[])) ?_ ?_
 ·refine a1h (X:={q:Nat // a4i A (A.drop q) q = some p53}) (fun q => ([(0,(.lst 1 (A.map AV.str))),(5,(.lst 1 (A.map AV.str))),(6,(.I (A.length:Int))),(7,(.I (q.1:Int)))],[])) (fun q => A.length - q.1) ⟨0,hb1⟩ ⟨[],[],_,_,rfl,rfl,⟨.r,⟨.r,⟨.r,⟨.r,tr⟩⟩⟩⟩,.r⟩ ?_
  rintro ⟨B,hc1⟩
  have hc1:a4i A (A.drop B) B = some p53:=hc1
  refine (show awp Tryz.prog false 0 _ (ofL [(0,(.lst 1 (A.map AV.str))),(5,(.lst 1 (A.map AV.str))),(6,(.I (A.length:Int))),(7,(.I (B:Int)))]) [] _ from ?_)
  rcases a5j A B with ⟨hie56,hd59⟩ | ⟨hlt54,D,hx55,hd59⟩
  ·rw [hd59,a4i.eq_1] at hc1
   have hq58:=dlf hie56
   refine sr<|o7 (.bool (decide ((B:Int) < (A.length:Int)))) rfl rfl rfl<|dk<|o6<|x8 rfl hq58<|a2o<|a2n<|a1s<|a2m<|?_;obtain rfl:=os hc1;exact a2s ⟨_,rfl⟩ ⟨[],[],_,_,rfl,rfl,tr,.r⟩
  ·rw [hd59,a4i.eq_2] at hc1
   have hq58:=dlt hlt54
   refine sr<|o7 (.bool (decide ((B:Int) < (A.length:Int)))) rfl rfl rfl<|dk<|o6<|x9 rfl hq58<|a0h<|a0j<|o6<|a2y<|sr<|l7 (.I (B:Int)) rfl<|y7 (a1m (enc:=AV.str) rfl rfl hx55)<|o7 (.str D) rfl ⟨rfl,rfl⟩ rfl<|l7 (.I (B:Int)) rfl<|l7 (.str D) rfl<|dk<|o6<|?_
   obtain ⟨F,hb2,hc1⟩:=ob hc1
   refine a2d ([(0,(.lst 1 (A.map AV.str))),(5,(.lst 1 (A.map AV.str))),(6,(.I (A.length:Int))),(7,(.I (B:Int))),(27,(.bool F))],[]) ?_ ?_
   ·refine a0t<|l7 (.str D) rfl<|?_
    obtain ⟨G,er70,hb2⟩:=ob hb2
    refine y7 (a0p (b4i _ _ er70) rfl .r rfl)<|o7 (.bool (!G)) rfl tr rfl<|l7 (.bool (!G)) rfl<|?_
    rcases oi hb2 with ⟨c71,hb2⟩ | ⟨c71,hb2⟩
    ·refine a0x (s:=15) (b:=true) rfl c71<|y5 rfl rfl<|y5 rfl rfl<|y5 rfl rfl<|a1g rfl<|a1g rfl<|a1g rfl<|a1g rfl<|a1g rfl<|a1g rfl<|a1g rfl<|y5 rfl rfl<|o7 (.bool true) rfl tr rfl<|a0e<|?_;obtain rfl:=os hb2;exact ⟨[],[],_,_,rfl,rfl,⟨.r,⟨.r,⟨.r,⟨.r,⟨.r,tr⟩⟩⟩⟩⟩,.r⟩
    ·refine a0x (s:=15) (b:=false) rfl (bf c71)<|s_on rfl<|l7 (.I (B:Int)) rfl<|s_on rfl<|o7 (.bool (decide ((B:Int) > 0))) rfl rfl rfl<|s_on rfl<|l7 (.bool (decide ((B:Int) > 0))) rfl<|?_
     rcases oi hb2 with ⟨c72,hb2⟩ | ⟨c72,hb2⟩
     ·refine a0x (s:=18) (b:=true) rfl c72<|s_on rfl<|l7 (.lst 1 (A.map AV.str)) rfl<|s_on rfl<|l7 (.I (B:Int)) rfl<|s_on rfl<|o7 (.I (w64 ((B:Int) - 1))) rfl rfl rfl<|s_on rfl<|?_
      obtain ⟨E,ex74,hb2⟩:=ob hb2
      refine y7 (a3d (enc:=AV.str) rfl rfl (b0a ex74) (b0b ex74))<|s_on rfl<|o7 (.str E) rfl ⟨rfl,rfl⟩ rfl<|s_on rfl<|l7 (.str D) rfl<|s_on rfl<|o7 (.bool (!Op.bytesLess E D)) rfl tr rfl<|s_on rfl<|o7 (.bool (!Op.bytesLess E D)) rfl tr rfl<|o7 (.bool (!Op.bytesLess E D)) rfl tr rfl<|a0e<|?_;obtain rfl:=os hb2;exact ⟨[],[],_,_,rfl,rfl,⟨.r,⟨.r,⟨.r,⟨.r,⟨.r,tr⟩⟩⟩⟩⟩,.r⟩
     ·refine a0x (s:=18) (b:=false) rfl (bf c72)<|y5 rfl rfl<|y5 rfl rfl<|y5 rfl rfl<|y5 rfl rfl<|y5 rfl rfl<|y5 rfl rfl<|y5 rfl rfl<|s_on rfl<|o7 (.bool false) rfl tr rfl<|o7 (.bool false) rfl tr rfl<|a0e<|?_;obtain rfl:=os hb2;exact ⟨[],[],_,_,rfl,rfl,⟨.r,⟨.r,⟨.r,⟨.r,⟨.r,tr⟩⟩⟩⟩⟩,.r⟩
   ·rcases oi hc1 with ⟨c75,hc1⟩ | ⟨c75,hc1⟩
    ·refine x9 rfl c75<|sr<|l7 (.bool false) rfl<|dk<|a0d<|?_;obtain rfl:=os hc1;obtain rfl:=os hf;exact a0f ⟨tr,tr⟩ rfl .r
    ·refine x8 rfl (bf c75)<|a0h<|a1v<|a0j<|a0t<|o7 (.I (w64 ((B:Int) + 1))) rfl rfl rfl<|l7 (.I (w64 ((B:Int) + 1))) rfl<|a0e<|?_;exact a1p ⟨(B + 1),hc1⟩ (mul hlt54) ⟨[],[],_,_,rfl,rfl,⟨.r,⟨.r,⟨.r,⟨.of_eq (congrArg (AV.int _) (a1r hlt54 hl2)),tr⟩⟩⟩⟩,.r⟩
 ·rintro ⟨_,rfl⟩
  refine sr<|l7 (.bool true) rfl<|dk<|a0d<|?_;obtain rfl:=os hf;exact a0f ⟨tr,tr⟩ rfl .r
def e8a:a0q :=
 (.seq (.reg (tq 1 (.box 5 (.t 0)) (tm 2 (.c (.bool false)) .done)))
 (.seq (.seq (.reg (tq 3 (.faddr 0 (.t 1)) (tq 4 (.load 1 false (.t 3)) .done)))
 (.block 0 (.seq (.reg (tq 6 (.bin .eql (.t 4) (.c (.int .i64 0))) (tm 5 (.t 6) .done)))
 (.cond (.t 5) (.seq (.reg (tq 7 (.faddr 1 (.t 1)) (tq 8 (.load 1 false (.t 7)) (tq 9 (.bin .eql (.t 8) (.c (.int .i64 0))) (tm 10 (.t 9) (tg 11 10 true (.faddr 2 (.t 1)) (tg 12 10 true (.load 1 false (.t 11)) (tg 13 10 true (.bin .eql (.t 12) (.c (.str []))) (tq 14 (.pick (.t 10) (.t 13) (.c (.bool false))) (tm 15 (.t 14) (tg 16 15 true (.faddr 3 (.t 1)) (tg 17 15 true (.load 1 false (.t 16)) (tg 18 15 true (.len (.t 17)) (tg 19 15 true (.bin .eql (.t 18) (.c (.int .i64 0))) (tq 20 (.pick (.t 15) (.t 19) (.c (.bool false))) (tm 21 (.t 20) (tg 22 21 true (.faddr 4 (.t 1)) (tg 23 21 true (.load 1 false (.t 22)) (tg 24 21 true (.len (.t 23)) (tg 25 21 true (.bin .eql (.t 24) (.c (.int .i64 0))) (tq 26 (.pick (.t 21) (.t 25) (.c (.bool false))) (tm 2 (.t 26) .done))))))))))))))))))))))
 .ret)
 (.seq (.reg (tq 28 (.bin .eql (.t 4) (.c (.int .i64 1))) (tm 27 (.t 28) .done)))
 (.cond (.t 27) (.seq (.reg (tq 29 (.faddr 1 (.t 1)) (tq 30 (.load 1 false (.t 29)) (tq 31 (.call 81 [(.t 30),(.c (.int .i64 0)),(.c (.int .i64 1))]) (tm 32 (.t 31) (tg 33 32 true (.faddr 2 (.t 1)) (tg 34 32 true (.load 1 false (.t 33)) (tg 35 32 true (.bin .eql (.t 34) (.c (.str []))) (tq 36 (.pick (.t 32) (.t 35) (.c (.bool false))) (tm 37 (.t 36) (tg 38 37 true (.faddr 3 (.t 1)) (tg 39 37 true (.load 1 false (.t 38)) (tg 40 37 true (.len (.t 39)) (tg 41 37 true (.bin .eql (.t 40) (.c (.int .i64 0))) (tq 42 (.pick (.t 37) (.t 41) (.c (.bool false))) (tm 43 (.t 42) (tg 44 43 true (.faddr 4 (.t 1)) (tg 45 43 true (.load 1 false (.t 44)) (tg 46 43 true (.len (.t 45)) (tg 47 43 true (.bin .eql (.t 46) (.c (.int .i64 0))) (tq 48 (.pick (.t 43) (.t 47) (.c (.bool false))) (tm 2 (.t 48) .done))))))))))))))))))))))
 .ret)
 (.seq (.reg (tq 50 (.bin .eql (.t 4) (.c (.int .i64 2))) (tm 49 (.t 50) .done)))
 (.cond (.t 49) (.seq (.reg (tq 51 (.faddr 1 (.t 1)) (tq 52 (.load 1 false (.t 51)) (tq 53 (.call 233 [(.t 52)]) (tm 54 (.t 53) (tg 55 54 true (.faddr 2 (.t 1)) (tg 56 54 true (.load 1 false (.t 55)) (tg 57 54 true (.bin .eql (.t 56) (.c (.str []))) (tq 58 (.pick (.t 54) (.t 57) (.c (.bool false))) (tm 59 (.t 58) (tg 60 59 true (.faddr 3 (.t 1)) (tg 61 59 true (.load 1 false (.t 60)) (tg 62 59 true (.len (.t 61)) (tg 63 59 true (.bin .eql (.t 62) (.c (.int .i64 0))) (tq 64 (.pick (.t 59) (.t 63) (.c (.bool false))) (tm 65 (.t 64) (tg 66 65 true (.faddr 4 (.t 1)) (tg 67 65 true (.load 1 false (.t 66)) (tg 68 65 true (.len (.t 67)) (tg 69 65 true (.bin .eql (.t 68) (.c (.int .i64 0))) (tq 70 (.pick (.t 65) (.t 69) (.c (.bool false))) (tm 2 (.t 70) .done))))))))))))))))))))))
 .ret)
 (.seq (.reg (tq 72 (.bin .eql (.t 4) (.c (.int .i64 3))) (tm 71 (.t 72) .done)))
 (.cond (.t 71) (.seq (.reg (tq 73 (.faddr 1 (.t 1)) (tq 74 (.load 1 false (.t 73)) (tq 75 (.bin .eql (.t 74) (.c (.int .i64 0))) (tm 76 (.t 75) (tg 77 76 true (.faddr 2 (.t 1)) (tg 78 76 true (.load 1 false (.t 77)) (tg 79 76 true (.call 234 [(.t 78)]) (tq 80 (.pick (.t 76) (.t 79) (.c (.bool false))) (tm 81 (.t 80) (tg 82 81 true (.faddr 3 (.t 1)) (tg 83 81 true (.load 1 false (.t 82)) (tg 84 81 true (.len (.t 83)) (tg 85 81 true (.bin .eql (.t 84) (.c (.int .i64 0))) (tq 86 (.pick (.t 81) (.t 85) (.c (.bool false))) (tm 87 (.t 86) (tg 88 87 true (.faddr 4 (.t 1)) (tg 89 87 true (.load 1 false (.t 88)) (tg 90 87 true (.len (.t 89)) (tg 91 87 true (.bin .eql (.t 90) (.c (.int .i64 0))) (tq 92 (.pick (.t 87) (.t 91) (.c (.bool false))) (tm 2 (.t 92) .done))))))))))))))))))))))
 .ret)
 (.seq (.reg (tq 94 (.bin .eql (.t 4) (.c (.int .i64 4))) (tm 93 (.t 94) .done)))
 (.cond (.t 93) (.seq (.reg (tq 95 (.faddr 1 (.t 1)) (tq 96 (.load 1 false (.t 95)) (tq 97 (.bin .eql (.t 96) (.c (.int .i64 0))) (tm 98 (.t 97) (tg 99 98 true (.faddr 2 (.t 1)) (tg 100 98 true (.load 1 false (.t 99)) (tg 101 98 true (.bin .eql (.t 100) (.c (.str []))) (tq 102 (.pick (.t 98) (.t 101) (.c (.bool false))) (tm 103 (.t 102) (tg 104 103 true (.faddr 3 (.t 1)) (tg 105 103 true (.load 1 false (.t 104)) (tg 106 103 true (.len (.t 105)) (tg 107 103 true (.bin .eql (.t 106) (.c (.int .i64 0))) (tq 108 (.pick (.t 103) (.t 107) (.c (.bool false))) (tm 2 (.t 108) .done))))))))))))))))
 .ret)
 (.seq (.reg (tq 110 (.bin .eql (.t 4) (.c (.int .i64 5))) (tm 109 (.t 110) .done)))
 (.cond (.t 109) (.seq (.reg (tq 111 (.faddr 1 (.t 1)) (tq 112 (.load 1 false (.t 111)) (tq 113 (.bin .eql (.t 112) (.c (.int .i64 0))) (tm 114 (.t 113) (tg 115 114 true (.faddr 2 (.t 1)) (tg 116 114 true (.load 1 false (.t 115)) (tg 117 114 true (.bin .eql (.t 116) (.c (.str []))) (tq 118 (.pick (.t 114) (.t 117) (.c (.bool false))) (tm 119 (.t 118) (tg 120 119 true (.faddr 3 (.t 1)) (tg 121 119 true (.load 1 false (.t 120)) (tg 122 119 true (.len (.t 121)) (tg 123 119 true (.faddr 4 (.t 1)) (tg 124 119 true (.load 1 false (.t 123)) (tg 125 119 true (.len (.t 124)) (tg 126 119 true (.bin .eql (.t 122) (.t 125)) (tq 127 (.pick (.t 119) (.t 126) (.c (.bool false))) (tm 128 (.t 127) (tg 129 128 true (.faddr 3 (.t 1)) (tg 130 128 true (.load 1 false (.t 129)) (tg 131 128 true (.call 349 [(.t 130)]) (tq 132 (.pick (.t 128) (.t 131) (.c (.bool false))) (tm 2 (.t 132) .done))))))))))))))))))))))))
 .ret)
 .skip))))))))))))))
 (.seq (.reg (tm 2 (.c (.bool false)) .done))
 .ret)))
theorem e8b:a1b Tryz.prog Tryz.f300 = some (e8a.erase,[.mov (.t 2)],133):=by kernel_rfl
def a8b (A:y8):Option Bool :=
    if (A.Kind == 0) then
    some (bif (bif (bif (A.N == 0) then (A.T == []) else false) then ((A.Keys.length:Int) == 0) else false) then ((A.Items.length:Int) == 0) else false)
    else
    if (A.Kind == 1) then
    (a6v A.N 0 1).bind fun E =>
    some (bif (bif (bif E then (A.T == []) else false) then ((A.Keys.length:Int) == 0) else false) then ((A.Items.length:Int) == 0) else false)
    else
    if (A.Kind == 2) then
    (a9a A.N).bind fun B =>
    some (bif (bif (bif B then (A.T == []) else false) then ((A.Keys.length:Int) == 0) else false) then ((A.Items.length:Int) == 0) else false)
    else
    if (A.Kind == 3) then
    if (A.N == 0) then
    (a8l A.T).bind fun D =>
    some (bif (bif D then ((A.Keys.length:Int) == 0) else false) then ((A.Items.length:Int) == 0) else false)
    else
    some false
    else
    if (A.Kind == 4) then
    some (bif (bif (A.N == 0) then (A.T == []) else false) then ((A.Keys.length:Int) == 0) else false)
    else
    if (A.Kind == 5) then
    if (bif (bif (A.N == 0) then (A.T == []) else false) then ((A.Keys.length:Int) == (A.Items.length:Int)) else false) then
    (b1o A.Keys).bind fun F =>
    some F
    else
    some false
    else
    some false
theorem c0g (A:y8) (r:Bool) (hf:a8b A = some r):a0a Tryz.prog 300 .flat [(l9 A)] (.bool r):=by
 refine a0a.of_awp mixed Tryz.func300 e8b nle ?_;rw [a0l];rw [o9 A];unfold a8b at hf;unfold e8a;refine (show awp Tryz.prog false 0 _ (ofL [(0,(.agg [(.I A.Kind),(.I A.N),(.str A.T),(.lst 1 (A.Keys.map AV.str)),(.lst 5 (A.Items.map l9))]))]) [] _ from ?_);refine sr<|y7 (a1i (j:=0) (c:=(.agg [(.I A.Kind),(.I A.N),(.str A.T),(.lst 1 (A.Keys.map AV.str)),(.lst 5 (A.Items.map l9))])) rfl tr rfl rfl)<|l7 (.bool false) rfl<|dk<|o6<|sr<|o7 (.ptr 0 0 0) rfl tr rfl<|o7 (.I A.Kind) rfl nle rfl<|dk<|a2y<|sr<|?_
 refine o7 (.bool (A.Kind == 0)) rfl rfl rfl<|l7 (.bool (A.Kind == 0)) rfl<|dk<|?_
 rcases oi hf with ⟨c2,hf⟩ | ⟨c2,hf⟩
 ·refine x9 rfl c2<|sr<|o7 (.ptr 0 0 1) rfl tr rfl<|o7 (.I A.N) rfl nle rfl<|o7 (.bool (A.N == 0)) rfl rfl rfl<|l7 (.bool (A.N == 0)) rfl<|?_;refine s_g (v:=(A.N == 0)) (.ptr 0 0 2) rfl (fun hv => by (try simp only [a0c hv]);exact ⟨rfl,tr,rfl⟩) ?_;refine s_g (v:=(A.N == 0)) (.str A.T) rfl (fun hv => by (try simp only [a0c hv]);exact ⟨rfl,nle,rfl⟩) ?_;refine s_g (v:=(A.N == 0)) (.bool (A.T == [])) rfl (fun hv => by (try simp only [a0c hv]);exact ⟨rfl,tr,rfl⟩) ?_;refine a3a (x:=(A.T == [])) (y:=false) rfl (fun hv => by (try simp only [a0c hv]);rfl) (fun hv => by (try simp only [a0c hv]);rfl) ?_;refine l7 (.bool (bif (A.N == 0) then (A.T == []) else false)) rfl ?_
  refine s_g (v:=(bif (A.N == 0) then (A.T == []) else false)) (.ptr 0 0 3) rfl (fun hv => by (try simp only [a0c hv]);exact ⟨rfl,tr,rfl⟩) ?_;refine s_g (v:=(bif (A.N == 0) then (A.T == []) else false)) (.lst 1 (A.Keys.map AV.str)) rfl (fun hv => by (try simp only [a0c hv]);exact ⟨rfl,nle,rfl⟩) ?_;refine s_g (v:=(bif (A.N == 0) then (A.T == []) else false)) (.I (A.Keys.length:Int)) rfl (fun hv => by (try simp only [a0c hv]);exact ⟨rfl,tr,lenV _ _⟩) ?_;refine s_g (v:=(bif (A.N == 0) then (A.T == []) else false)) (.bool ((A.Keys.length:Int) == 0)) rfl (fun hv => by (try simp only [a0c hv]);exact ⟨rfl,rfl,rfl⟩) ?_;refine a3a (x:=((A.Keys.length:Int) == 0)) (y:=false) rfl (fun hv => by (try simp only [a0c hv]);rfl) (fun hv => by (try simp only [a0c hv]);rfl) ?_
  refine l7 (.bool (bif (bif (A.N == 0) then (A.T == []) else false) then ((A.Keys.length:Int) == 0) else false)) rfl ?_;refine s_g (v:=(bif (bif (A.N == 0) then (A.T == []) else false) then ((A.Keys.length:Int) == 0) else false)) (.ptr 0 0 4) rfl (fun hv => by (try simp only [a0c hv]);exact ⟨rfl,tr,rfl⟩) ?_;refine s_g (v:=(bif (bif (A.N == 0) then (A.T == []) else false) then ((A.Keys.length:Int) == 0) else false)) (.lst 5 (A.Items.map l9)) rfl (fun hv => by (try simp only [a0c hv]);exact ⟨rfl,nle,rfl⟩) ?_;refine s_g (v:=(bif (bif (A.N == 0) then (A.T == []) else false) then ((A.Keys.length:Int) == 0) else false)) (.I (A.Items.length:Int)) rfl (fun hv => by (try simp only [a0c hv]);exact ⟨rfl,tr,lenV _ _⟩) ?_
  refine s_g (v:=(bif (bif (A.N == 0) then (A.T == []) else false) then ((A.Keys.length:Int) == 0) else false)) (.bool ((A.Items.length:Int) == 0)) rfl (fun hv => by (try simp only [a0c hv]);exact ⟨rfl,rfl,rfl⟩) ?_;refine a3a (x:=((A.Items.length:Int) == 0)) (y:=false) rfl (fun hv => by (try simp only [a0c hv]);rfl) (fun hv => by (try simp only [a0c hv]);rfl) ?_;refine l7 (.bool (bif (bif (bif (A.N == 0) then (A.T == []) else false) then ((A.Keys.length:Int) == 0) else false) then ((A.Items.length:Int) == 0) else false)) rfl<|dk<|a0d<|?_;obtain rfl:=os hf;exact a0f ⟨tr,tr⟩ rfl .r
 ·refine x8 rfl (bf c2)<|sr<|o7 (.bool (A.Kind == 1)) rfl rfl rfl<|l7 (.bool (A.Kind == 1)) rfl<|dk<|?_
  rcases oi hf with ⟨c5,hf⟩ | ⟨c5,hf⟩
  ·refine x9 rfl c5<|sr<|o7 (.ptr 0 0 1) rfl tr rfl<|o7 (.I A.N) rfl nle rfl<|?_
   obtain ⟨E,er7,hf⟩:=ob hf
   refine y7 (a0p (a7r _ _ _ _ er7) rfl .r rfl)<|l7 (.bool E) rfl<|?_;refine s_g (v:=E) (.ptr 0 0 2) rfl (fun hv => by (try simp only [a0c hv]);exact ⟨rfl,tr,rfl⟩) ?_;refine s_g (v:=E) (.str A.T) rfl (fun hv => by (try simp only [a0c hv]);exact ⟨rfl,nle,rfl⟩) ?_;refine s_g (v:=E) (.bool (A.T == [])) rfl (fun hv => by (try simp only [a0c hv]);exact ⟨rfl,tr,rfl⟩) ?_;refine a3a (x:=(A.T == [])) (y:=false) rfl (fun hv => by (try simp only [a0c hv]);rfl) (fun hv => by (try simp only [a0c hv]);rfl) ?_;refine l7 (.bool (bif E then (A.T == []) else false)) rfl ?_;refine s_g (v:=(bif E then (A.T == []) else false)) (.ptr 0 0 3) rfl (fun hv => by (try simp only [a0c hv]);exact ⟨rfl,tr,rfl⟩) ?_
   refine s_g (v:=(bif E then (A.T == []) else false)) (.lst 1 (A.Keys.map AV.str)) rfl (fun hv => by (try simp only [a0c hv]);exact ⟨rfl,nle,rfl⟩) ?_;refine s_g (v:=(bif E then (A.T == []) else false)) (.I (A.Keys.length:Int)) rfl (fun hv => by (try simp only [a0c hv]);exact ⟨rfl,tr,lenV _ _⟩) ?_;refine s_g (v:=(bif E then (A.T == []) else false)) (.bool ((A.Keys.length:Int) == 0)) rfl (fun hv => by (try simp only [a0c hv]);exact ⟨rfl,rfl,rfl⟩) ?_;refine a3a (x:=((A.Keys.length:Int) == 0)) (y:=false) rfl (fun hv => by (try simp only [a0c hv]);rfl) (fun hv => by (try simp only [a0c hv]);rfl) ?_;refine l7 (.bool (bif (bif E then (A.T == []) else false) then ((A.Keys.length:Int) == 0) else false)) rfl ?_
   refine s_g (v:=(bif (bif E then (A.T == []) else false) then ((A.Keys.length:Int) == 0) else false)) (.ptr 0 0 4) rfl (fun hv => by (try simp only [a0c hv]);exact ⟨rfl,tr,rfl⟩) ?_;refine s_g (v:=(bif (bif E then (A.T == []) else false) then ((A.Keys.length:Int) == 0) else false)) (.lst 5 (A.Items.map l9)) rfl (fun hv => by (try simp only [a0c hv]);exact ⟨rfl,nle,rfl⟩) ?_;refine s_g (v:=(bif (bif E then (A.T == []) else false) then ((A.Keys.length:Int) == 0) else false)) (.I (A.Items.length:Int)) rfl (fun hv => by (try simp only [a0c hv]);exact ⟨rfl,tr,lenV _ _⟩) ?_;refine s_g (v:=(bif (bif E then (A.T == []) else false) then ((A.Keys.length:Int) == 0) else false)) (.bool ((A.Items.length:Int) == 0)) rfl (fun hv => by (try simp only [a0c hv]);exact ⟨rfl,rfl,rfl⟩) ?_
   refine a3a (x:=((A.Items.length:Int) == 0)) (y:=false) rfl (fun hv => by (try simp only [a0c hv]);rfl) (fun hv => by (try simp only [a0c hv]);rfl) ?_;refine l7 (.bool (bif (bif (bif E then (A.T == []) else false) then ((A.Keys.length:Int) == 0) else false) then ((A.Items.length:Int) == 0) else false)) rfl<|dk<|a0d<|?_;obtain rfl:=os hf;exact a0f ⟨tr,tr⟩ rfl .r
  ·refine x8 rfl (bf c5)<|sr<|o7 (.bool (A.Kind == 2)) rfl rfl rfl<|l7 (.bool (A.Kind == 2)) rfl<|dk<|?_
   rcases oi hf with ⟨c10,hf⟩ | ⟨c10,hf⟩
   ·refine x9 rfl c10<|sr<|o7 (.ptr 0 0 1) rfl tr rfl<|o7 (.I A.N) rfl nle rfl<|?_
    obtain ⟨B,er12,hf⟩:=ob hf
    refine y7 (a0p (b3g _ _ er12) rfl .r rfl)<|l7 (.bool B) rfl<|?_;refine s_g (v:=B) (.ptr 0 0 2) rfl (fun hv => by (try simp only [a0c hv]);exact ⟨rfl,tr,rfl⟩) ?_;refine s_g (v:=B) (.str A.T) rfl (fun hv => by (try simp only [a0c hv]);exact ⟨rfl,nle,rfl⟩) ?_;refine s_g (v:=B) (.bool (A.T == [])) rfl (fun hv => by (try simp only [a0c hv]);exact ⟨rfl,tr,rfl⟩) ?_;refine a3a (x:=(A.T == [])) (y:=false) rfl (fun hv => by (try simp only [a0c hv]);rfl) (fun hv => by (try simp only [a0c hv]);rfl) ?_;refine l7 (.bool (bif B then (A.T == []) else false)) rfl ?_;refine s_g (v:=(bif B then (A.T == []) else false)) (.ptr 0 0 3) rfl (fun hv => by (try simp only [a0c hv]);exact ⟨rfl,tr,rfl⟩) ?_
    refine s_g (v:=(bif B then (A.T == []) else false)) (.lst 1 (A.Keys.map AV.str)) rfl (fun hv => by (try simp only [a0c hv]);exact ⟨rfl,nle,rfl⟩) ?_;refine s_g (v:=(bif B then (A.T == []) else false)) (.I (A.Keys.length:Int)) rfl (fun hv => by (try simp only [a0c hv]);exact ⟨rfl,tr,lenV _ _⟩) ?_;refine s_g (v:=(bif B then (A.T == []) else false)) (.bool ((A.Keys.length:Int) == 0)) rfl (fun hv => by (try simp only [a0c hv]);exact ⟨rfl,rfl,rfl⟩) ?_;refine a3a (x:=((A.Keys.length:Int) == 0)) (y:=false) rfl (fun hv => by (try simp only [a0c hv]);rfl) (fun hv => by (try simp only [a0c hv]);rfl) ?_;refine l7 (.bool (bif (bif B then (A.T == []) else false) then ((A.Keys.length:Int) == 0) else false)) rfl ?_
    refine s_g (v:=(bif (bif B then (A.T == []) else false) then ((A.Keys.length:Int) == 0) else false)) (.ptr 0 0 4) rfl (fun hv => by (try simp only [a0c hv]);exact ⟨rfl,tr,rfl⟩) ?_;refine s_g (v:=(bif (bif B then (A.T == []) else false) then ((A.Keys.length:Int) == 0) else false)) (.lst 5 (A.Items.map l9)) rfl (fun hv => by (try simp only [a0c hv]);exact ⟨rfl,nle,rfl⟩) ?_;refine s_g (v:=(bif (bif B then (A.T == []) else false) then ((A.Keys.length:Int) == 0) else false)) (.I (A.Items.length:Int)) rfl (fun hv => by (try simp only [a0c hv]);exact ⟨rfl,tr,lenV _ _⟩) ?_;refine s_g (v:=(bif (bif B then (A.T == []) else false) then ((A.Keys.length:Int) == 0) else false)) (.bool ((A.Items.length:Int) == 0)) rfl (fun hv => by (try simp only [a0c hv]);exact ⟨rfl,rfl,rfl⟩) ?_
    refine a3a (x:=((A.Items.length:Int) == 0)) (y:=false) rfl (fun hv => by (try simp only [a0c hv]);rfl) (fun hv => by (try simp only [a0c hv]);rfl) ?_;refine l7 (.bool (bif (bif (bif B then (A.T == []) else false) then ((A.Keys.length:Int) == 0) else false) then ((A.Items.length:Int) == 0) else false)) rfl<|dk<|a0d<|?_;obtain rfl:=os hf;exact a0f ⟨tr,tr⟩ rfl .r
   ·refine x8 rfl (bf c10)<|sr<|o7 (.bool (A.Kind == 3)) rfl rfl rfl<|l7 (.bool (A.Kind == 3)) rfl<|dk<|?_
    rcases oi hf with ⟨c15,hf⟩ | ⟨c15,hf⟩
    ·refine x9 rfl c15<|sr<|o7 (.ptr 0 0 1) rfl tr rfl<|o7 (.I A.N) rfl nle rfl<|o7 (.bool (A.N == 0)) rfl rfl rfl<|l7 (.bool (A.N == 0)) rfl<|?_
     rcases oi hf with ⟨c16,hf⟩ | ⟨c16,hf⟩
     ·refine a0x (s:=76) (b:=true) rfl c16<|s_on rfl<|o7 (.ptr 0 0 2) rfl tr rfl<|s_on rfl<|o7 (.str A.T) rfl nle rfl<|s_on rfl<|?_
      obtain ⟨D,er18,hf⟩:=ob hf
      refine y7 (a0p (b4i _ _ er18) rfl .r rfl)<|o7 (.bool D) rfl tr rfl<|l7 (.bool D) rfl<|?_;refine s_g (v:=D) (.ptr 0 0 3) rfl (fun hv => by (try simp only [a0c hv]);exact ⟨rfl,tr,rfl⟩) ?_;refine s_g (v:=D) (.lst 1 (A.Keys.map AV.str)) rfl (fun hv => by (try simp only [a0c hv]);exact ⟨rfl,nle,rfl⟩) ?_;refine s_g (v:=D) (.I (A.Keys.length:Int)) rfl (fun hv => by (try simp only [a0c hv]);exact ⟨rfl,tr,lenV _ _⟩) ?_;refine s_g (v:=D) (.bool ((A.Keys.length:Int) == 0)) rfl (fun hv => by (try simp only [a0c hv]);exact ⟨rfl,rfl,rfl⟩) ?_;refine a3a (x:=((A.Keys.length:Int) == 0)) (y:=false) rfl (fun hv => by (try simp only [a0c hv]);rfl) (fun hv => by (try simp only [a0c hv]);rfl) ?_
      refine l7 (.bool (bif D then ((A.Keys.length:Int) == 0) else false)) rfl ?_;refine s_g (v:=(bif D then ((A.Keys.length:Int) == 0) else false)) (.ptr 0 0 4) rfl (fun hv => by (try simp only [a0c hv]);exact ⟨rfl,tr,rfl⟩) ?_;refine s_g (v:=(bif D then ((A.Keys.length:Int) == 0) else false)) (.lst 5 (A.Items.map l9)) rfl (fun hv => by (try simp only [a0c hv]);exact ⟨rfl,nle,rfl⟩) ?_;refine s_g (v:=(bif D then ((A.Keys.length:Int) == 0) else false)) (.I (A.Items.length:Int)) rfl (fun hv => by (try simp only [a0c hv]);exact ⟨rfl,tr,lenV _ _⟩) ?_;refine s_g (v:=(bif D then ((A.Keys.length:Int) == 0) else false)) (.bool ((A.Items.length:Int) == 0)) rfl (fun hv => by (try simp only [a0c hv]);exact ⟨rfl,rfl,rfl⟩) ?_
      refine a3a (x:=((A.Items.length:Int) == 0)) (y:=false) rfl (fun hv => by (try simp only [a0c hv]);rfl) (fun hv => by (try simp only [a0c hv]);rfl) ?_;refine l7 (.bool (bif (bif D then ((A.Keys.length:Int) == 0) else false) then ((A.Items.length:Int) == 0) else false)) rfl<|dk<|a0d<|?_;obtain rfl:=os hf;exact a0f ⟨tr,tr⟩ rfl .r
     ·refine a0x (s:=76) (b:=false) rfl (bf c16)<|y5 rfl rfl<|y5 rfl rfl<|y5 rfl rfl<|o7 (.bool false) rfl tr rfl<|l7 (.bool false) rfl<|y5 rfl rfl<|y5 rfl rfl<|y5 rfl rfl<|y5 rfl rfl<|o7 (.bool false) rfl tr rfl<|l7 (.bool false) rfl<|y5 rfl rfl<|y5 rfl rfl<|y5 rfl rfl<|y5 rfl rfl<|o7 (.bool false) rfl tr rfl<|l7 (.bool false) rfl<|dk<|a0d<|?_;obtain rfl:=os hf;exact a0f ⟨tr,tr⟩ rfl .r
    ·refine x8 rfl (bf c15)<|sr<|o7 (.bool (A.Kind == 4)) rfl rfl rfl<|l7 (.bool (A.Kind == 4)) rfl<|dk<|?_
     rcases oi hf with ⟨c21,hf⟩ | ⟨c21,hf⟩
     ·refine x9 rfl c21<|sr<|o7 (.ptr 0 0 1) rfl tr rfl<|o7 (.I A.N) rfl nle rfl<|o7 (.bool (A.N == 0)) rfl rfl rfl<|l7 (.bool (A.N == 0)) rfl<|?_;refine s_g (v:=(A.N == 0)) (.ptr 0 0 2) rfl (fun hv => by (try simp only [a0c hv]);exact ⟨rfl,tr,rfl⟩) ?_;refine s_g (v:=(A.N == 0)) (.str A.T) rfl (fun hv => by (try simp only [a0c hv]);exact ⟨rfl,nle,rfl⟩) ?_;refine s_g (v:=(A.N == 0)) (.bool (A.T == [])) rfl (fun hv => by (try simp only [a0c hv]);exact ⟨rfl,tr,rfl⟩) ?_;refine a3a (x:=(A.T == [])) (y:=false) rfl (fun hv => by (try simp only [a0c hv]);rfl) (fun hv => by (try simp only [a0c hv]);rfl) ?_;refine l7 (.bool (bif (A.N == 0) then (A.T == []) else false)) rfl ?_
      refine s_g (v:=(bif (A.N == 0) then (A.T == []) else false)) (.ptr 0 0 3) rfl (fun hv => by (try simp only [a0c hv]);exact ⟨rfl,tr,rfl⟩) ?_;refine s_g (v:=(bif (A.N == 0) then (A.T == []) else false)) (.lst 1 (A.Keys.map AV.str)) rfl (fun hv => by (try simp only [a0c hv]);exact ⟨rfl,nle,rfl⟩) ?_;refine s_g (v:=(bif (A.N == 0) then (A.T == []) else false)) (.I (A.Keys.length:Int)) rfl (fun hv => by (try simp only [a0c hv]);exact ⟨rfl,tr,lenV _ _⟩) ?_;refine s_g (v:=(bif (A.N == 0) then (A.T == []) else false)) (.bool ((A.Keys.length:Int) == 0)) rfl (fun hv => by (try simp only [a0c hv]);exact ⟨rfl,rfl,rfl⟩) ?_;refine a3a (x:=((A.Keys.length:Int) == 0)) (y:=false) rfl (fun hv => by (try simp only [a0c hv]);rfl) (fun hv => by (try simp only [a0c hv]);rfl) ?_
      refine l7 (.bool (bif (bif (A.N == 0) then (A.T == []) else false) then ((A.Keys.length:Int) == 0) else false)) rfl<|dk<|a0d<|?_;obtain rfl:=os hf;exact a0f ⟨tr,tr⟩ rfl .r
     ·refine x8 rfl (bf c21)<|sr<|o7 (.bool (A.Kind == 5)) rfl rfl rfl<|l7 (.bool (A.Kind == 5)) rfl<|dk<|?_
      rcases oi hf with ⟨c23,hf⟩ | ⟨c23,hf⟩
      ·refine x9 rfl c23<|sr<|o7 (.ptr 0 0 1) rfl tr rfl<|o7 (.I A.N) rfl nle rfl<|o7 (.bool (A.N == 0)) rfl rfl rfl<|l7 (.bool (A.N == 0)) rfl<|?_;refine s_g (v:=(A.N == 0)) (.ptr 0 0 2) rfl (fun hv => by (try simp only [a0c hv]);exact ⟨rfl,tr,rfl⟩) ?_;refine s_g (v:=(A.N == 0)) (.str A.T) rfl (fun hv => by (try simp only [a0c hv]);exact ⟨rfl,nle,rfl⟩) ?_;refine s_g (v:=(A.N == 0)) (.bool (A.T == [])) rfl (fun hv => by (try simp only [a0c hv]);exact ⟨rfl,tr,rfl⟩) ?_;refine a3a (x:=(A.T == [])) (y:=false) rfl (fun hv => by (try simp only [a0c hv]);rfl) (fun hv => by (try simp only [a0c hv]);rfl) ?_;refine l7 (.bool (bif (A.N == 0) then (A.T == []) else false)) rfl ?_
       refine s_g (v:=(bif (A.N == 0) then (A.T == []) else false)) (.ptr 0 0 3) rfl (fun hv => by (try simp only [a0c hv]);exact ⟨rfl,tr,rfl⟩) ?_;refine s_g (v:=(bif (A.N == 0) then (A.T == []) else false)) (.lst 1 (A.Keys.map AV.str)) rfl (fun hv => by (try simp only [a0c hv]);exact ⟨rfl,nle,rfl⟩) ?_;refine s_g (v:=(bif (A.N == 0) then (A.T == []) else false)) (.I (A.Keys.length:Int)) rfl (fun hv => by (try simp only [a0c hv]);exact ⟨rfl,tr,lenV _ _⟩) ?_;refine s_g (v:=(bif (A.N == 0) then (A.T == []) else false)) (.ptr 0 0 4) rfl (fun hv => by (try simp only [a0c hv]);exact ⟨rfl,tr,rfl⟩) ?_;refine s_g (v:=(bif (A.N == 0) then (A.T == []) else false)) (.lst 5 (A.Items.map l9)) rfl (fun hv => by (try simp only [a0c hv]);exact ⟨rfl,nle,rfl⟩) ?_
       refine s_g (v:=(bif (A.N == 0) then (A.T == []) else false)) (.I (A.Items.length:Int)) rfl (fun hv => by (try simp only [a0c hv]);exact ⟨rfl,tr,lenV _ _⟩) ?_;refine s_g (v:=(bif (A.N == 0) then (A.T == []) else false)) (.bool ((A.Keys.length:Int) == (A.Items.length:Int))) rfl (fun hv => by (try simp only [a0c hv]);exact ⟨rfl,rfl,rfl⟩) ?_;refine a3a (x:=((A.Keys.length:Int) == (A.Items.length:Int))) (y:=false) rfl (fun hv => by (try simp only [a0c hv]);rfl) (fun hv => by (try simp only [a0c hv]);rfl) ?_;refine l7 (.bool (bif (bif (A.N == 0) then (A.T == []) else false) then ((A.Keys.length:Int) == (A.Items.length:Int)) else false)) rfl ?_
       rcases oi hf with ⟨c26,hf⟩ | ⟨c26,hf⟩
       ·refine a0x (s:=128) (b:=true) rfl c26<|s_on rfl<|o7 (.ptr 0 0 3) rfl tr rfl<|s_on rfl<|o7 (.lst 1 (A.Keys.map AV.str)) rfl nle rfl<|s_on rfl<|?_
        obtain ⟨F,er28,hf⟩:=ob hf
        refine y7 (a0p (c7e _ _ er28) rfl .r rfl)<|o7 (.bool F) rfl tr rfl<|l7 (.bool F) rfl<|dk<|a0d<|?_;obtain rfl:=os hf;exact a0f ⟨tr,tr⟩ rfl .r
       ·refine a0x (s:=128) (b:=false) rfl (bf c26)<|y5 rfl rfl<|y5 rfl rfl<|y5 rfl rfl<|o7 (.bool false) rfl tr rfl<|l7 (.bool false) rfl<|dk<|a0d<|?_;obtain rfl:=os hf;exact a0f ⟨tr,tr⟩ rfl .r
      ·refine x8 rfl (bf c23)<|a0h<|a1v<|a0j<|sr<|l7 (.bool false) rfl<|dk<|a0d<|?_;obtain rfl:=os hf;exact a0f ⟨tr,tr⟩ rfl .r
def d7g:a0q :=
 (.seq (.reg (tq 3 (.box 5 (.t 0)) (tm 4 (.c (.bool false)) .done)))
 (.seq (.reg (tq 5 (.load 5 true (.t 3)) (tq 6 (.load 1 false (.t 1)) (tq 7 (.bin .add (.t 6) (.c (.int .i64 1))) (tq 8 (.load 1 false (.t 2)) (tq 9 (.call 224 [(.t 5),(.t 7),(.t 8)]) (tq 10 (.not (.t 9)) (tm 4 (.t 10) .done))))))))
 .ret))
theorem e0z:a1b Tryz.prog Tryz.f302 = some (d7g.erase,[.mov (.t 4)],11):=by kernel_rfl
def a6s (rec:(y8 → Int → Int → Option (Bool × Int))) (A:y8) (B:Int) (E:Int):Option (Bool × Int × Int) :=
    (rec A (w64 (B + 1)) E).bind fun D =>
    some ((!D.1),B,D.2)
theorem b5d (rec:(y8 → Int → Int → Option (Bool × Int))) (hrec:∀ a0 a1 a2 r,rec a0 a1 a2 = some r → a0z Tryz.prog false 224 [(l9 a0),(.I a1),(.ptr 0 0 0)] [.box 1 (.I a2)] (.bool r.1) [.box 1 (.I r.2)]) (A:y8) (B:Int) (E:Int) (r:(Bool × Int × Int)) (hf:a6s rec A B E = some r):a0z Tryz.prog false 302 [(l9 A),(.ptr 0 0 0),(.ptr 1 0 0)] [.box 1 (.I B),.box 1 (.ptr 2 0 0),.box 1 (.I E)] (.bool r.1) [.box 1 (.I r.2.1),.box 1 (.ptr 2 0 0),.box 1 (.I r.2.2)]:=by
 refine a0z.of_awp mixed Tryz.func302 e0z nle ?_;rw [a0l];rw [o9 A];unfold a6s at hf;unfold d7g;refine (show awp Tryz.prog false 3 _ (ofL [(0,(.agg [(.I A.Kind),(.I A.N),(.str A.T),(.lst 1 (A.Keys.map AV.str)),(.lst 5 (A.Items.map l9))])),(1,(.ptr 0 0 0)),(2,(.ptr 1 0 0))]) [.box 1 (.I B),.box 1 (.ptr 2 0 0),.box 1 (.I E)] _ from ?_);refine sr<|y7 (a1i (j:=3) (c:=(.agg [(.I A.Kind),(.I A.N),(.str A.T),(.lst 1 (A.Keys.map AV.str)),(.lst 5 (A.Items.map l9))])) rfl tr rfl rfl)<|l7 (.bool false) rfl<|dk<|?_
 refine sr<|?_
 obtain ⟨D,er5,hf⟩:=ob hf
 refine o7 (.agg [(.I A.Kind),(.I A.N),(.str A.T),(.lst 1 (A.Keys.map AV.str)),(.lst 5 (A.Items.map l9))]) rfl nle rfl<|o7 (.I B) rfl ⟨rfl,rfl⟩ rfl<|o7 (.I (w64 (B + 1))) rfl rfl rfl<|o7 (.ptr 2 0 0) rfl ⟨rfl,rfl⟩ rfl<|?_;refine y7 (b3q (v:=(.bool D.1)) (h2:=[.box 1 (.I B),.box 1 (.ptr 2 0 0),.box 1 (.I D.2),.box 5 (.agg [(.I A.Kind),(.I A.N),(.str A.T),(.lst 1 (A.Keys.map AV.str)),(.lst 5 (A.Items.map l9))])]) [] [2] (fun _ => rfl) (hrec _ _ _ _ er5) rfl (.cons (.of_eq (o9 A).symm) (.cons .r (.cons .r .nil))) .r rfl rfl) ?_
 refine o7 (.bool (!D.1)) rfl tr rfl<|l7 (.bool (!D.1)) rfl<|dk<|a0d<|?_;obtain rfl:=os hf;exact a4p [] [0,1,2] rfl ⟨tr,tr⟩ rfl .r .r
def d7h:a0q :=
 (.seq (.reg (tm 4 (.c (.int .i64 0)) .done))
 (.seq (.seq (.reg (tm 6 (.t 0) (tq 7 (.len (.t 6)) (tm 8 (.c (.int .i64 0)) .done))))
 (.block 0 (.loop (.seq (.reg (tq 9 (.bin .lss (.t 8) (.t 7)) .done))
 (.seq (.cond (.t 9) .skip
 (.exit 0))
 (.seq (.block 1 (.seq (.reg (tm 10 (.t 8) (tm 5 (.t 10) .done)))
 (.seq (.reg (tm 11 (.t 1) (tm 12 (.t 0) (tm 13 (.t 5) (tq 14 (.iaddr 5 (.t 12) (.t 13)) (tq 15 (.load 5 true (.t 14)) (tq 16 (.calv (.t 11) [(.t 15)]) .done)))))))
 (.cond (.t 16) (.seq (.reg (tm 17 (.t 5) (tm 4 (.t 17) .done)))
 .ret)
 .skip))))
 (.reg (tq 18 (.bin .add (.t 8) (.c (.int .i64 1))) (tm 8 (.t 18) .done)))))))))
 (.cut (.seq (.reg (tq 4 (.mov (.c (.int .i64 (-1)))) .done))
 .ret))))
theorem e1a:a1b Tryz.prog Tryz.f350 = some (d7h.erase,[.mov (.t 4)],19):=by kernel_rfl
def a0u (rec:(y8 → Int → Int → Option (Bool × Int))):List y8 → Nat → Int → Int → Option (Fl (Int × Int × Int) (Int × Int))
  | [],A,F,G =>
    some (.go (F,G))
  | E :: xs,A,F,G =>
    (a6s rec E F G).bind fun D =>
    if D.1 then
    some (.ret ((A:Int),D.2.1,D.2.2))
    else
    a0u rec xs (A + 1) D.2.1 D.2.2
def a2v (rec:(y8 → Int → Int → Option (Bool × Int))) (B:(List y8)) (H:Int) (J:Int):Option (Int × Int × Int) :=
    (a0u rec B 0 H J).bind fun q => (match q with
    | .ret r => some r
    | .go (K,L) =>
    some ((-1),K,L))
theorem a8r (rec:(y8 → Int → Int → Option (Bool × Int))) (hrec:∀ a0 a1 a2 r,rec a0 a1 a2 = some r → a0z Tryz.prog false 224 [(l9 a0),(.I a1),(.ptr 0 0 0)] [.box 1 (.I a2)] (.bool r.1) [.box 1 (.I r.2)]) (B:(List y8)) (H:Int) (J:Int) (r:(Int × Int × Int)) (hf:a2v rec B H J = some r):a0z Tryz.prog false 350 [(.lst 5 (B.map l9)),(.fn 302 [(.ptr 0 0 0),(.ptr 1 0 0)])] [.box 1 (.I H),.box 1 (.ptr 2 0 0),.box 1 (.I J)] (.I r.1) [.box 1 (.I r.2.1),.box 1 (.ptr 2 0 0),.box 1 (.I r.2.2)]:=by
 refine a0z.of_awp mixed Tryz.func350 e1a nle ?_;rw [a0l];unfold a2v at hf;unfold d7h;refine (show awp Tryz.prog false 3 _ (ofL [(0,(.lst 5 (B.map l9))),(1,(.fn 302 [(.ptr 0 0 0),(.ptr 1 0 0)]))]) [.box 1 (.I H),.box 1 (.ptr 2 0 0),.box 1 (.I J)] _ from ?_);refine sr<|l7 (.I 0) rfl<|dk<|o6<|sr<|l7 (.lst 5 (B.map l9)) rfl<|a1a (a1t (enc:=l9) rfl) fun hl4 => l7 (.I 0) rfl<|dk<|?_
 obtain ⟨p31,hb1,hf⟩:=ob hf
 refine a1u (X:={q:(Int × Int) // p31 = .go q}) (fun q => ([],[.box 1 (.I q.1.1),.box 1 (.ptr 2 0 0),.box 1 (.I q.1.2)])) ?_ ?_
 ·refine a1h (X:={q:(Nat × Int × Int) // a0u rec (B.drop q.1) q.1 q.2.1 q.2.2 = some p31}) (fun q => ([(0,(.lst 5 (B.map l9))),(1,(.fn 302 [(.ptr 0 0 0),(.ptr 1 0 0)])),(7,(.I (B.length:Int))),(8,(.I (q.1.1:Int)))],[.box 1 (.I q.1.2.1),.box 1 (.ptr 2 0 0),.box 1 (.I q.1.2.2)])) (fun q => B.length - q.1.1) ⟨(0,H,J),hb1⟩ ⟨[],[0,1,2],_,_,rfl,rfl,⟨.r,⟨.r,⟨.r,⟨.r,tr⟩⟩⟩⟩,.r⟩ ?_
  rintro ⟨⟨A,F,G⟩,hc1⟩
  have hc1:a0u rec (B.drop A) A F G = some p31:=hc1
  refine (show awp Tryz.prog false 3 _ (ofL [(0,(.lst 5 (B.map l9))),(1,(.fn 302 [(.ptr 0 0 0),(.ptr 1 0 0)])),(7,(.I (B.length:Int))),(8,(.I (A:Int)))]) [.box 1 (.I F),.box 1 (.ptr 2 0 0),.box 1 (.I G)] _ from ?_)
  rcases a5j B A with ⟨hie34,hd37⟩ | ⟨hlt32,E,hx33,hd37⟩
  ·rw [hd37,a0u.eq_1] at hc1
   have hq36:=dlf hie34
   refine sr<|o7 (.bool (decide ((A:Int) < (B.length:Int)))) rfl rfl rfl<|dk<|o6<|x8 rfl hq36<|a2o<|a2n<|a1s<|a2m<|?_;obtain rfl:=os hc1;exact a2s ⟨_,rfl⟩ ⟨[],[0,1,2],_,_,rfl,rfl,tr,.r⟩
  ·rw [hd37,a0u.eq_2] at hc1
   have hq36:=dlt hlt32
   refine sr<|o7 (.bool (decide ((A:Int) < (B.length:Int)))) rfl rfl rfl<|dk<|o6<|x9 rfl hq36<|a0h<|a0j<|o6<|a2y<|sr<|l7 (.I (A:Int)) rfl<|l7 (.I (A:Int)) rfl<|dk<|sr<|?_
   obtain ⟨D,er40,hc1⟩:=ob hc1
   refine l7 (.fn 302 [(.ptr 0 0 0),(.ptr 1 0 0)]) rfl<|l7 (.lst 5 (B.map l9)) rfl<|l7 (.I (A:Int)) rfl<|y7 (a1m (enc:=l9) rfl rfl hx33)<|y7 (a2l (v:=(.agg [(.I E.Kind),(.I E.N),(.str E.T),(.lst 1 (E.Keys.map AV.str)),(.lst 5 (E.Items.map l9))])) rfl (o9 _) nle rfl)<|?_;refine y7 (d6z (v:=(.bool D.1)) (h2:=[.box 1 (.I D.2.1),.box 1 (.ptr 2 0 0),.box 1 (.I D.2.2)]) [] [0,1,2] (fun _ => rfl) rfl (by kernel_rfl) (b5d rec hrec _ _ _ _ er40) rfl rfl (.cons (.of_eq (o9 E).symm) (.cons .r (.cons .r .nil))) .r rfl rfl) ?_
   refine dk<|?_
   rcases oi hc1 with ⟨c41,hc1⟩ | ⟨c41,hc1⟩
   ·refine x9 rfl c41<|sr<|l7 (.I (A:Int)) rfl<|l7 (.I (A:Int)) rfl<|dk<|a0d<|?_;obtain rfl:=os hc1;obtain rfl:=os hf;exact a4p [] [0,1,2] rfl ⟨tr,tr⟩ rfl .r .r
   ·refine x8 rfl (bf c41)<|a0h<|a1v<|a0j<|a0t<|o7 (.I (w64 ((A:Int) + 1))) rfl rfl rfl<|l7 (.I (w64 ((A:Int) + 1))) rfl<|a0e<|?_;exact a1p ⟨((A + 1),D.2.1,D.2.2),hc1⟩ (mul hlt32) ⟨[],[0,1,2],_,_,rfl,rfl,⟨.r,⟨.r,⟨.r,⟨.of_eq (congrArg (AV.int _) (a1r hlt32 hl4)),tr⟩⟩⟩⟩,.r⟩
 ·rintro ⟨⟨K,L⟩,rfl⟩
  refine sr<|l7 (.I (-1)) rfl<|dk<|a0d<|?_;obtain rfl:=os hf;exact a4p [] [0,1,2] rfl ⟨tr,tr⟩ rfl .r .r
def d7i:a0q :=
 (.seq (.reg (tm 4 (.c (.bool false)) .done))
 (.seq (.reg (tm 5 (.t 0) (tm 6 (.t 1) (tq 7 (.call 350 [(.t 5),(.t 6)]) (tq 8 (.bin .geq (.t 7) (.c (.int .i64 0))) (tm 4 (.t 8) .done))))))
 .ret))
theorem e1b:a1b Tryz.prog Tryz.f301 = some (d7i.erase,[.mov (.t 4)],9):=by kernel_rfl
def a2k (rec:(y8 → Int → Int → Option (Bool × Int))) (B:(List y8)) (D:Int) (E:Int):Option (Bool × Int × Int) :=
    (a2v rec B D E).bind fun A =>
    some ((decide (A.1 ≥ 0)),A.2.1,A.2.2)
theorem a8c (rec:(y8 → Int → Int → Option (Bool × Int))) (hrec:∀ a0 a1 a2 r,rec a0 a1 a2 = some r → a0z Tryz.prog false 224 [(l9 a0),(.I a1),(.ptr 0 0 0)] [.box 1 (.I a2)] (.bool r.1) [.box 1 (.I r.2)]) (B:(List y8)) (D:Int) (E:Int) (r:(Bool × Int × Int)) (hf:a2k rec B D E = some r):a0z Tryz.prog false 301 [(.lst 5 (B.map l9)),(.fn 302 [(.ptr 0 0 0),(.ptr 1 0 0)])] [.box 1 (.I D),.box 1 (.ptr 2 0 0),.box 1 (.I E)] (.bool r.1) [.box 1 (.I r.2.1),.box 1 (.ptr 2 0 0),.box 1 (.I r.2.2)]:=by
 refine a0z.of_awp mixed Tryz.func301 e1b nle ?_;rw [a0l];unfold a2k at hf;unfold d7i;refine (show awp Tryz.prog false 3 _ (ofL [(0,(.lst 5 (B.map l9))),(1,(.fn 302 [(.ptr 0 0 0),(.ptr 1 0 0)]))]) [.box 1 (.I D),.box 1 (.ptr 2 0 0),.box 1 (.I E)] _ from ?_);refine sr<|l7 (.bool false) rfl<|dk<|sr<|?_
 obtain ⟨A,er5,hf⟩:=ob hf
 refine l7 (.lst 5 (B.map l9)) rfl<|l7 (.fn 302 [(.ptr 0 0 0),(.ptr 1 0 0)]) rfl<|?_;refine y7 (b3q (v:=(.I A.1)) (h2:=[.box 1 (.I A.2.1),.box 1 (.ptr 2 0 0),.box 1 (.I A.2.2)]) [] [0,1,2] (fun _ => rfl) (a8r rec hrec _ _ _ _ er5) rfl .r .r rfl rfl) ?_;refine o7 (.bool (decide (A.1 ≥ 0))) rfl rfl rfl<|l7 (.bool (decide (A.1 ≥ 0))) rfl<|dk<|a0d<|?_;obtain rfl:=os hf;exact a4p [] [0,1,2] rfl ⟨tr,tr⟩ rfl .r .r
def d7j:a0q :=
 (.seq (.reg (tq 3 (.box 5 (.t 0)) (tq 4 (.box 1 (.t 1)) (tq 5 (.box 1 (.t 2)) (tm 6 (.c (.bool false)) .done)))))
 (.seq (.seq (.reg (tq 7 (.load 1 false (.t 5)) (tq 8 (.nilck (.t 7)) (tq 9 (.load 1 false (.t 8)) (tq 10 (.bin .sub (.t 9) (.c (.int .i64 1))) (tq 11 (.nilck (.t 7)) (.q ⟨none,none,.store 1 (.t 11) (.t 10)⟩
 .done)))))))
 (.seq (.reg (tq 12 (.load 1 false (.t 5)) (tq 13 (.nilck (.t 12)) (tq 14 (.load 1 false (.t 13)) (tq 15 (.bin .lss (.t 14) (.c (.int .i64 0))) (tm 16 (.t 15) (tg 17 16 false (.load 1 false (.t 4)) (tg 18 16 false (.bin .geq (.t 17) (.c (.int .i64 12))) (tq 19 (.pick (.t 16) (.c (.bool true)) (.t 18)) (tm 20 (.t 19) (tg 21 20 false (.load 5 true (.t 3)) (tg 22 20 false (.call 300 [(.t 21)]) (tg 23 20 false (.not (.t 22)) (tq 24 (.pick (.t 20) (.c (.bool true)) (.t 23)) .done))))))))))))))
 (.cut (.cond (.t 24) (.seq (.reg (tm 6 (.c (.bool false)) .done))
 .ret)
 .skip))))
 (.seq (.reg (tq 25 (.faddr 4 (.t 3)) (tq 26 (.load 1 false (.t 25)) (tq 27 (.mkfn 302 [(.t 4),(.t 5)]) (tq 28 (.call 301 [(.t 26),(.t 27)]) (tq 29 (.not (.t 28)) (tm 6 (.t 29) .done)))))))
 .ret)))
theorem e1c:a1b Tryz.prog Tryz.f224 = some (d7j.erase,[.mov (.t 6)],30):=by kernel_rfl
def a7v (rec:(y8 → Int → Int → Option (Bool × Int))) (B:y8) (D:Int) (A:Int):Option (Bool × Int) :=
    ((if (bif (decide (w64 (A - 1) < 0)) then true else (decide (D ≥ 12))) then
    some true
    else
    (a8b B).bind fun F =>
    some (!F):Option Bool)).bind fun G =>
    if G then
    some (false,w64 (A - 1))
    else
    (a2k rec B.Items D (w64 (A - 1))).bind fun E =>
    some ((!E.1),E.2.2)
theorem b7a (rec:(y8 → Int → Int → Option (Bool × Int))) (hrec:∀ a0 a1 a2 r,rec a0 a1 a2 = some r → a0z Tryz.prog false 224 [(l9 a0),(.I a1),(.ptr 0 0 0)] [.box 1 (.I a2)] (.bool r.1) [.box 1 (.I r.2)]) (B:y8) (D:Int) (A:Int) (r:(Bool × Int)) (hf:a7v rec B D A = some r):a0z Tryz.prog false 224 [(l9 B),(.I D),(.ptr 0 0 0)] [.box 1 (.I A)] (.bool r.1) [.box 1 (.I r.2)]:=by
 refine a0z.of_awp mixed Tryz.func224 e1c nle ?_;rw [a0l];rw [o9 B];unfold a7v at hf;unfold d7j;refine (show awp Tryz.prog false 1 _ (ofL [(0,(.agg [(.I B.Kind),(.I B.N),(.str B.T),(.lst 1 (B.Keys.map AV.str)),(.lst 5 (B.Items.map l9))])),(1,(.I D)),(2,(.ptr 0 0 0))]) [.box 1 (.I A)] _ from ?_);refine sr<|y7 (a1i (j:=1) (c:=(.agg [(.I B.Kind),(.I B.N),(.str B.T),(.lst 1 (B.Keys.map AV.str)),(.lst 5 (B.Items.map l9))])) rfl tr rfl rfl)<|y7 (a1i (j:=2) (c:=(.I D)) rfl tr rfl rfl)<|y7 (a1i (j:=3) (c:=(.ptr 0 0 0)) rfl tr rfl rfl)<|?_
 refine l7 (.bool false) rfl<|dk<|o6<|sr<|o7 (.ptr 0 0 0) rfl ⟨rfl,rfl⟩ rfl<|o7 (.ptr 0 0 0) rfl tr rfl<|o7 (.I A) rfl ⟨rfl,rfl⟩ rfl<|o7 (.I (w64 (A - 1))) rfl rfl rfl<|o7 (.ptr 0 0 0) rfl tr rfl<|a1k (a0i (v:=(.I (w64 (A - 1)))) (y':=(.I (w64 (A - 1)))) rfl rfl rfl tr ⟨rfl,rfl,rfl⟩ ⟨⟨rfl,tr⟩,tr⟩ rfl)<|dk<|o6<|?_
 obtain ⟨G,hb1,hf⟩:=ob hf
 refine a2d ([(3,(.ptr 1 0 0)),(4,(.ptr 2 0 0)),(5,(.ptr 3 0 0)),(24,(.bool G))],[.box 1 (.I (w64 (A - 1))),.box 5 (.agg [(.I B.Kind),(.I B.N),(.str B.T),(.lst 1 (B.Keys.map AV.str)),(.lst 5 (B.Items.map l9))]),.box 1 (.I D),.box 1 (.ptr 0 0 0)]) ?_ ?_
 ·refine a0t<|o7 (.ptr 0 0 0) rfl ⟨rfl,rfl⟩ rfl<|o7 (.ptr 0 0 0) rfl tr rfl<|o7 (.I (w64 (A - 1))) rfl ⟨rfl,rfl⟩ rfl<|o7 (.bool (decide (w64 (A - 1) < 0))) rfl rfl rfl<|l7 (.bool (decide (w64 (A - 1) < 0))) rfl<|?_;refine s_g (v:=(decide (w64 (A - 1) < 0))) (.I D) rfl (fun hv => by (try simp only [a0c hv]);exact ⟨rfl,⟨rfl,rfl⟩,rfl⟩) ?_;refine s_g (v:=(decide (w64 (A - 1) < 0))) (.bool (decide (D ≥ 12))) rfl (fun hv => by (try simp only [a0c hv]);exact ⟨rfl,rfl,rfl⟩) ?_;refine a3a (x:=true) (y:=(decide (D ≥ 12))) rfl (fun hv => by (try simp only [a0c hv]);rfl) (fun hv => by (try simp only [a0c hv]);rfl) ?_
  refine l7 (.bool (bif (decide (w64 (A - 1) < 0)) then true else (decide (D ≥ 12)))) rfl ?_
  rcases oi hb1 with ⟨c9,hb1⟩ | ⟨c9,hb1⟩
  ·refine a0x (s:=20) (b:=true) rfl c9<|y5 rfl rfl<|y5 rfl rfl<|y5 rfl rfl<|o7 (.bool true) rfl tr rfl<|a0e<|?_;obtain rfl:=os hb1;exact ⟨[],[0,1,2,3],_,_,rfl,rfl,⟨.r,⟨.r,⟨.r,⟨.r,tr⟩⟩⟩⟩,.r⟩
  ·refine a0x (s:=20) (b:=false) rfl (bf c9)<|s_on rfl<|o7 (.agg [(.I B.Kind),(.I B.N),(.str B.T),(.lst 1 (B.Keys.map AV.str)),(.lst 5 (B.Items.map l9))]) rfl nle rfl<|s_on rfl<|?_
   obtain ⟨F,er11,hb1⟩:=ob hb1
   refine y7 (a0p (c0g _ _ er11) rfl (.cons (.of_eq (o9 B).symm) .nil) rfl)<|s_on rfl<|o7 (.bool (!F)) rfl tr rfl<|o7 (.bool (!F)) rfl tr rfl<|a0e<|?_;obtain rfl:=os hb1;exact ⟨[],[0,1,2,3],_,_,rfl,rfl,⟨.r,⟨.r,⟨.r,⟨.r,tr⟩⟩⟩⟩,.r⟩
 ·rcases oi hf with ⟨c12,hf⟩ | ⟨c12,hf⟩
  ·refine x9 rfl c12<|sr<|l7 (.bool false) rfl<|dk<|a0d<|?_;obtain rfl:=os hf;exact a4p [] [0] rfl ⟨tr,tr⟩ rfl .r .r
  ·refine x8 rfl (bf c12)<|a0h<|a0j<|sr<|?_
   obtain ⟨E,er14,hf⟩:=ob hf
   refine o7 (.ptr 1 0 4) rfl tr rfl<|o7 (.lst 5 (B.Items.map l9)) rfl nle rfl<|o7 (.fn 302 [(.ptr 2 0 0),(.ptr 3 0 0)]) rfl tr rfl<|?_;refine y7 (b3q (v:=(.bool E.1)) (h2:=[.box 1 (.I E.2.2),.box 5 (.agg [(.I B.Kind),(.I B.N),(.str B.T),(.lst 1 (B.Keys.map AV.str)),(.lst 5 (B.Items.map l9))]),.box 1 (.I E.2.1),.box 1 (.ptr 0 0 0)]) [] [2,3,0] (fun _ => rfl) (a8c rec hrec _ _ _ _ er14) rfl .r .r rfl rfl) ?_;refine o7 (.bool (!E.1)) rfl tr rfl<|l7 (.bool (!E.1)) rfl<|dk<|a0d<|?_;obtain rfl:=os hf;exact a4p [] [0] rfl ⟨tr,tr⟩ rfl .r .r
def a4r:Nat → y8 → Int → Int → Option (Bool × Int)
 | 0,_,_,_ => none
 | k + 1,B,D,A => a7v (a4r k) B D A
theorem b3j:∀ (k:Nat) (B:y8) (D:Int) (A:Int) (r:(Bool × Int)),a4r k B D A = some r → a0z Tryz.prog false 224 [(l9 B),(.I D),(.ptr 0 0 0)] [.box 1 (.I A)] (.bool r.1) [.box 1 (.I r.2)]
 | 0,B,D,A,r,h => by rw [a4r.eq_1] at h;cases h
 | k + 1,B,D,A,r,h => by
  rw [a4r.eq_2] at h;exact b7a _ (b3j k) B D A r h
end Go.R
